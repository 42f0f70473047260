/-
  The walks of the laws over functions that hand back a tagged value.
-/
import Derived.Test.YtnamhfaacamihaaT2
import Derived.Deep.DeepCutAuto
namespace Go.Proofs.Ytnamhfaacamihaa
open Go.RowKit
set_option linter.unusedVariables false
set_option linter.unusedSimpArgs false

set_option maxHeartbeats 2000000 in
theorem law_FnExactAddTagged (p v t v' t' : Int) (w : World) (hp : Fits p) (hv : Fits v) (ht : Fits t) (hv' : Fits v') (ht' : Fits t') :
    Calls Try.prog 6 #[.int .i64 p, .agg #[.int .i64 v, .int .i64 t], .agg #[.int .i64 v', .int .i64 t']] w fun e w' => e = .returned (.bool true) ∧ Below w.heap.size w w' := by
  go_enter Try.func6, Try.ntmps6
  go_upto_region 1 with fail
  go_cut [7, 8] (fun s7 s8 W => ∃ g : Nat, s7 = .pointer (some ⟨g, 0, none⟩) ∧ s8 = .bool (addTg p v t v' t').2.2 ∧ Two w.heap.size (.int .i64 v) (.int .i64 t) (.int .i64 v') (.int .i64 t') W ∧ Bx W g (.int .i64 (addTg p v t v' t').1) (.int .i64 (addTg p v t v' t').2.1) ∧ Below w.heap.size w W)
  case first =>
    go_region_held3 (fun W => W.cell? ⟨w.heap.size, 0, none⟩ = some (.int .i64 v) ∧ W.cell? ⟨w.heap.size, 1, none⟩ = some (.int .i64 t) ∧ W.cell? ⟨w.heap.size + 1, 0, none⟩ = some (.int .i64 v') ∧ W.cell? ⟨w.heap.size + 1, 1, none⟩ = some (.int .i64 t') ∧ w.heap.size + 1 < W.heap.size) (first | assumption | exact Two.alloc (by assumption) _ | (simp [go_sem]; done) | exact Two.set (Two.set (by assumption) (by dsimp only; omega) _) (by dsimp only; omega) _) (first | (go_at_call 15; refine (l_toTagged _ _ _).mono ?_; rintro e w' ⟨rfl, hb⟩; have h4 := Two.on (by assumption) hb; have hq := h4.2.2.2.2; (first | (have hn := boxes1 hb; have hn' := hn; obtain ⟨n0, n1, n2, n3⟩ := hn'; (try simp only [World.size_alloc, size_drew'] at n0 n1 n2 n3)) | (have hn := boxes1d hb; have hn' := hn; obtain ⟨n0, n1, n2, n3⟩ := hn'; (try simp only [World.size_alloc, size_drew'] at n0 n1 n2 n3)) | (have hn' := hn.on hb; clear hn; have hn := hn'; obtain ⟨n0, n1, n2, n3⟩ := hn'; (try simp only [World.size_alloc, size_drew'] at n0 n1 n2 n3)) | skip)) | (go_at_call 22; refine (s_AddTagged _ _ _ _ _ _ (by assumption) (by assumption) (by assumption) (by assumption)).mono ?_; rintro e w' ⟨rfl, hb⟩; have h4 := Two.on (by assumption) hb; have hq := h4.2.2.2.2; (first | (have hn := boxes1 hb; have hn' := hn; obtain ⟨n0, n1, n2, n3⟩ := hn'; (try simp only [World.size_alloc, size_drew'] at n0 n1 n2 n3)) | (have hn := boxes1d hb; have hn' := hn; obtain ⟨n0, n1, n2, n3⟩ := hn'; (try simp only [World.size_alloc, size_drew'] at n0 n1 n2 n3)) | (have hn' := hn.on hb; clear hn; have hn := hn'; obtain ⟨n0, n1, n2, n3⟩ := hn'; (try simp only [World.size_alloc, size_drew'] at n0 n1 n2 n3)) | skip)))
    all_goals (go_wp2_with fail; go_meet; exact ⟨_, rfl, rfl, by (first | assumption | exact Two.alloc (by assumption) _ | exact Two.set (Two.set (by assumption) (by dsimp only; omega) _) (by dsimp only; omega) _), by first | exact Bx.new | exact Bx.set2 ⟨n0, n1, n2, n3⟩ _ _, by (repeat (first | exact Below.refl _ _ | assumption | refine bel_trans ?_ (bel_alloc _ _) | refine bel_set ?_ (by first | (dsimp only; omega) | (simp; omega) | simp) _ | refine bel_trans ?_ (bel_drewN _ _) | refine bel_trans ?_ (bel_drew _) | refine bel_trans ?_ (by assumption)))⟩)
  case rest =>
    obtain ⟨g, rfl, rfl, hT, hG, hB⟩ := hcut
    have hg := lt_of_cell hG.1; dsimp only at hg; have hws := hB.size; have hws2 := hT.2.2.2.2
    obtain ⟨wo, rfl⟩ : ∃ wo : World, wo = wc := ⟨_, rfl⟩
    go_upto_region 2 with fail
    go_cut [9, 10] (fun s9 s10 W => ∃ g' : Nat, s9 = .pointer (some ⟨g', 0, none⟩) ∧ s10 = .bool (addTg p v t v' t').2.2 ∧ Bx W g (.int .i64 (addTg p v t v' t').1) (.int .i64 (addTg p v t v' t').2.1) ∧ Bx W g' (.int .i64 (addTg p v t v' t').1) (.int .i64 (addTg p v t v' t').2.1) ∧ Below w.heap.size w W)
    case first =>
      go_region_held3 (fun W => W.cell? ⟨w.heap.size, 0, none⟩ = some (.int .i64 v) ∧ W.cell? ⟨w.heap.size, 1, none⟩ = some (.int .i64 t) ∧ W.cell? ⟨w.heap.size + 1, 0, none⟩ = some (.int .i64 v') ∧ W.cell? ⟨w.heap.size + 1, 1, none⟩ = some (.int .i64 t') ∧ w.heap.size + 1 < W.heap.size) (first | assumption | exact hT | exact Two.alloc (by assumption) _ | (simp [go_sem]; done) | exact Two.set (Two.set (by assumption) (by dsimp only; omega) _) (by dsimp only; omega) _) (first | (go_at_call 15; refine (l_toTagged _ _ _).mono ?_; rintro e w' ⟨rfl, hb⟩; have h4 := Two.on (by assumption) hb; have hq := h4.2.2.2.2; (first | (have hn := boxes1 hb; have hn' := hn; obtain ⟨n0, n1, n2, n3⟩ := hn'; (try simp only [World.size_alloc, size_drew'] at n0 n1 n2 n3)) | (have hn := boxes1d hb; have hn' := hn; obtain ⟨n0, n1, n2, n3⟩ := hn'; (try simp only [World.size_alloc, size_drew'] at n0 n1 n2 n3)) | (have hn' := hn.on hb; clear hn; have hn := hn'; obtain ⟨n0, n1, n2, n3⟩ := hn'; (try simp only [World.size_alloc, size_drew'] at n0 n1 n2 n3)) | skip); have hG' : Bx w' g (.int .i64 (addTg p v t v' t').1) (.int .i64 (addTg p v t v' t').2.1) := (by first | exact Bx.on hG hb | exact Bx.on (Bx.drew hG) hb | exact Bx.on (Bx.alloc hG _) hb | exact Bx.on (Bx.drew (Bx.alloc hG _)) hb | exact Bx.on (Bx.alloc (Bx.drew hG) _) hb); clear hG; have hG := hG'; clear hG'; have hgz := lt_of_cell hG.1; dsimp only at hgz) | (go_at_call 23; refine (i_AddTagged _ _ _ _ _ _).mono ?_; rintro e w' ⟨rfl, hb⟩; have h4 := Two.on (by assumption) hb; have hq := h4.2.2.2.2; (first | (have hn := boxes1 hb; have hn' := hn; obtain ⟨n0, n1, n2, n3⟩ := hn'; (try simp only [World.size_alloc, size_drew'] at n0 n1 n2 n3)) | (have hn := boxes1d hb; have hn' := hn; obtain ⟨n0, n1, n2, n3⟩ := hn'; (try simp only [World.size_alloc, size_drew'] at n0 n1 n2 n3)) | (have hn' := hn.on hb; clear hn; have hn := hn'; obtain ⟨n0, n1, n2, n3⟩ := hn'; (try simp only [World.size_alloc, size_drew'] at n0 n1 n2 n3)) | skip); have hG' : Bx w' g (.int .i64 (addTg p v t v' t').1) (.int .i64 (addTg p v t v' t').2.1) := (by first | exact Bx.on hG hb | exact Bx.on (Bx.drew hG) hb | exact Bx.on (Bx.alloc hG _) hb | exact Bx.on (Bx.drew (Bx.alloc hG _)) hb | exact Bx.on (Bx.alloc (Bx.drew hG) _) hb); clear hG; have hG := hG'; clear hG'; have hgz := lt_of_cell hG.1; dsimp only at hgz))
      all_goals (go_wp2_with fail; go_meet; exact ⟨_, rfl, rfl, by (first | assumption | exact Bx.alloc (by assumption) _ | exact Bx.other (Bx.other (by assumption) (by dsimp only; omega) _) (by dsimp only; omega) _), by first | exact Bx.new | exact Bx.set2 ⟨n0, n1, n2, n3⟩ _ _, by (repeat (first | exact Below.refl _ _ | assumption | refine bel_trans ?_ (bel_alloc _ _) | refine bel_set ?_ (by first | (dsimp only; omega) | (simp; omega) | simp) _ | refine bel_trans ?_ (bel_drewN _ _) | refine bel_trans ?_ (bel_drew _) | refine bel_trans ?_ (by assumption)))⟩)
    case rest =>
      obtain ⟨g', rfl, rfl, hG1, hG2, hB'⟩ := hcut
      obtain ⟨n0, n1, n2, n3⟩ := hG1; obtain ⟨m0, m1, m2, m3⟩ := hG2
      go_wp2_with (go_at_call 21; refine (l_eqTagged _ _ _).mono ?_; rintro e w' ⟨rfl, hb⟩)
      go_ret
      exact ⟨rfl, by (repeat (first | exact Below.refl _ _ | assumption | refine bel_trans ?_ (bel_alloc _ _) | refine bel_set ?_ (by first | (dsimp only; omega) | (simp; omega) | simp) _ | refine bel_trans ?_ (bel_drewN _ _) | refine bel_trans ?_ (bel_drew _) | refine bel_trans ?_ (by assumption)))⟩

set_option maxHeartbeats 1000000 in
theorem law_FnExactScaleTagged (p v t k : Int) (w : World) (hp : Fits p) (hv : Fits v) (ht : Fits t) (hk : Fits k) :
    Calls Try.prog 7 #[.int .i64 p, .agg #[.int .i64 v, .int .i64 t], .int .i64 k] w fun e w' => e = .returned (.bool true) ∧ Below w.heap.size w w' := by
  go_enter Try.func7, Try.ntmps7
  go_wp2_with fail
  refine (l_toTagged _ _ _).mono ?_; rintro e w1 ⟨rfl, hb1⟩; have b1 := boxes1 hb1
  go_wp2_with fail
  refine (s_ScaleTagged _ _ _ _ _ hv ht).mono ?_; rintro e w2 ⟨rfl, hb2⟩
  have b2 := b1.on hb2; have b2r := b2; obtain ⟨r0, r1, r2, r3⟩ := b2r; have q2 := lt_of_cell r0; dsimp only at q2
  go_wp2_with fail
  refine (l_toTagged _ _ _).mono ?_; rintro e w3 ⟨rfl, hb3⟩; have g3 := boxes1 hb3
  go_wp2_with fail
  refine (i_ScaleTagged _ _ _ _ _).mono ?_; rintro e w4 ⟨rfl, hb4⟩; have g4 := g3.on hb4
  obtain ⟨m0, m1, m2, m3⟩ := g4; have q4 := lt_of_cell m0; dsimp only at q4
  go_wp2_with fail
  refine (l_eqTagged _ _ _).mono ?_; rintro e w5 ⟨rfl, hb5⟩
  go_wp2
  go_ret
  exact ⟨rfl, by (repeat (first | exact Below.refl _ _ | assumption | refine bel_trans ?_ (bel_alloc _ _) | refine bel_set ?_ (by first | (dsimp only; omega) | (simp; omega) | simp) _ | refine bel_trans ?_ (bel_drewN _ _) | refine bel_trans ?_ (bel_drew _) | refine bel_trans ?_ (by assumption)))⟩

set_option maxHeartbeats 1000000 in
theorem law_FnExactShiftTagged (p v t k : Int) (w : World) (hp : Fits p) (hv : Fits v) (ht : Fits t) (hk : Fits k) :
    Calls Try.prog 5 #[.int .i64 p, .agg #[.int .i64 v, .int .i64 t], .int .i64 k] w fun e w' => e = .returned (.bool true) ∧ Below w.heap.size w w' := by
  go_enter Try.func5, Try.ntmps5
  go_wp2_with fail
  refine (l_toTagged _ _ _).mono ?_; rintro e w1 ⟨rfl, hb1⟩; have b1 := boxes1 hb1
  go_wp2_with fail
  refine (s_ShiftTagged _ _ _ _ _ hv ht).mono ?_; rintro e w2 ⟨rfl, hb2⟩
  have b2 := b1.on hb2; have b2r := b2; obtain ⟨r0, r1, r2, r3⟩ := b2r; have q2 := lt_of_cell r0; dsimp only at q2
  go_wp2_with fail
  refine (l_toTagged _ _ _).mono ?_; rintro e w3 ⟨rfl, hb3⟩; have g3 := boxes1 hb3
  go_wp2_with fail
  refine (i_ShiftTagged _ _ _ _ _).mono ?_; rintro e w4 ⟨rfl, hb4⟩; have g4 := g3.on hb4
  obtain ⟨m0, m1, m2, m3⟩ := g4; have q4 := lt_of_cell m0; dsimp only at q4
  go_wp2_with fail
  refine (l_eqTagged _ _ _).mono ?_; rintro e w5 ⟨rfl, hb5⟩
  go_wp2
  go_ret
  exact ⟨rfl, by (repeat (first | exact Below.refl _ _ | assumption | refine bel_trans ?_ (bel_alloc _ _) | refine bel_set ?_ (by first | (dsimp only; omega) | (simp; omega) | simp) _ | refine bel_trans ?_ (bel_drewN _ _) | refine bel_trans ?_ (bel_drew _) | refine bel_trans ?_ (by assumption)))⟩

set_option maxHeartbeats 1000000 in
theorem law_FnExactTagFor (p d k v : Int) (w : World) (hp : Fits p) (hd : Fits d) (hk : Fits k) (hv : Fits v) :
    Calls Try.prog 8 #[.int .i64 p, .int .i64 d, .int .i64 k, .int .i64 v] w fun e w' => e = .returned (.bool true) ∧ Below w.heap.size w w' := by
  go_enter Try.func8, Try.ntmps8
  go_wp2_with fail
  refine (s_TagFor _ _ _ _ _ hd hk hv).mono ?_; rintro e w2 ⟨rfl, hb2⟩
  go_wp2_with fail
  refine (i_TagFor _ _ _ _ _ hd hk hv).mono ?_; rintro e w4 ⟨rfl, hb4⟩; have g4 := boxes1 hb4
  obtain ⟨m0, m1, m2, m3⟩ := g4; have q4 := lt_of_cell m0; dsimp only at q4
  go_wp2_with fail
  refine (l_eqTagged _ _ _).mono ?_; rintro e w5 ⟨rfl, hb5⟩
  go_wp2
  go_ret
  exact ⟨rfl, by (repeat (first | exact Below.refl _ _ | assumption | refine bel_trans ?_ (bel_alloc _ _) | refine bel_set ?_ (by first | (dsimp only; omega) | (simp; omega) | simp) _ | refine bel_trans ?_ (bel_drewN _ _) | refine bel_trans ?_ (bel_drew _) | refine bel_trans ?_ (by assumption)))⟩

end Go.Proofs.Ytnamhfaacamihaa
