/-
  AnswerWays, both sides.
-/
import Derived.Test.YtklgneaamhjfpaaG3
import Derived.Deep.RegionWith
namespace Go.Proofs.Ytklgneaamhjfpaa
open Go.RowKit
set_option linter.unusedVariables false
set_option linter.unusedSimpArgs false

def bG (b : Bool) : Int := if b then 1 else 0
theorem bG_bd (b : Bool) : 0 ≤ bG b ∧ bG b ≤ 1 := by cases b <;> simp [bG]
set_option maxHeartbeats 400000 in
theorem i_bitg (b : Bool) (w : World) : Calls Try.prog 87 #[.bool b] w fun e w' => e = .returned (.int .i64 (bG b)) ∧ w = w' := by
  cases b with
  | true =>
    go_enter Try.func87, Try.ntmps87
    go_wp2
    go_ret
    exact ⟨rfl, rfl⟩
  | false =>
    go_enter Try.func87, Try.ntmps87
    go_wp2
    go_ret
    exact ⟨rfl, rfl⟩
/-- For how many of the first secrets an answer comes with a choice. -/
def awN (P Q G f ans c : Int) : Nat → Int
  | 0 => 0
  | k + 1 => awN P Q G f ans c k + bG (answ P Q G f k c == ans)
theorem awN_bd (P Q G f ans c : Int) (k : Nat) : 0 ≤ awN P Q G f ans c k ∧ awN P Q G f ans c k ≤ k := by
  induction k with
  | zero => simp [awN]
  | succ k ih => have := bG_bd (answ P Q G f k c == ans); rw [awN]; omega
def awB (P Q G f ans : Int) : Bool := firstB P Q G f && hasB P Q ans
def answerWays (P Q G f ans : Int) : Int × Int × Bool := if awB P Q G f ans then (awN P Q G f ans 0 Q.toNat, awN P Q G f ans 1 Q.toNat, true) else (0, 0, false)
theorem aw_f {P Q G f ans : Int} (h : ¬ (firstB P Q G f = true ∧ hasB P Q ans = true)) : answerWays P Q G f ans = (0, 0, false) := by
  unfold answerWays awB
  refine if_neg fun q => h ?_
  simpa using q
theorem aw_t {P Q G f ans : Int} (h : firstB P Q G f = true) (h2 : hasB P Q ans = true) : answerWays P Q G f ans = (awN P Q G f ans 0 Q.toNat, awN P Q G f ans 1 Q.toNat, true) := by
  unfold answerWays awB
  rw [h, h2]; rfl
set_option maxHeartbeats 4000000 in
theorem s_AnswerWays (P Q G f ans : Int) (w : World) (fxP : Fits P) (fxQ : Fits Q) (fxG : Fits G) (fxf : Fits f) (fxans : Fits ans) :
    Calls Try.prog 24 #[.agg #[.int .i64 P, .int .i64 Q, .int .i64 G], .int .i64 f, .int .i64 ans] w fun e w' => e = .returned (.tuple #[.int .i64 (answerWays P Q G f ans).1, .int .i64 (answerWays P Q G f ans).2.1, .bool (answerWays P Q G f ans).2.2]) ∧ Below w.heap.size w w' := by
  cases h1 : firstB P Q G f with
  | false =>
    have HR := Lib.hid (aw_f (P := P) (Q := Q) (G := G) (f := f) (ans := ans) (fun q => by rw [h1] at q; cases q.1))
    go_enter Try.func24, Try.ntmps24
    go_wp2_with (go_at_call 81; refine (s_otFirst _ _ _ _ _).mono ?_; rintro e w' ⟨rfl, hb⟩; (first | (have H := gbox1 hb) | (have H := Gx.on gb0 hb; clear gb0 k0 k1 k2)); have gb0 := H; have kk := H; clear H; obtain ⟨k0, k1, k2⟩ := kk)
    all_goals
      go_ret3
      exact ⟨by rw [HR.out]; try rfl, by (repeat (first | exact Below.refl _ _ | assumption | refine bel_trans ?_ (bel_alloc _ _) | refine bel_set ?_ (by first | (dsimp only; omega) | (simp; omega) | simp) _ | refine bel_trans ?_ (bel_drewN _ _) | refine bel_trans ?_ (bel_drew _) | refine bel_trans ?_ (by assumption)))⟩
  | true =>
    obtain ⟨hg, hh, hne⟩ := firstB_iff.1 h1
    obtain ⟨hP, hQ, hG⟩ := grB_lo hg
    obtain ⟨f1, f2⟩ := hasB_lo hh
    clear hg hh
    cases h2 : hasB P Q ans with
    | false =>
      have HR := Lib.hid (aw_f (P := P) (Q := Q) (G := G) (f := f) (ans := ans) (fun q => by rw [h2] at q; cases q.2))
      go_enter Try.func24, Try.ntmps24
      go_wp2_with (first | (go_at_call 81; refine (s_otFirst _ _ _ _ _).mono ?_; rintro e w' ⟨rfl, hb⟩; (first | (have H := gbox1 hb) | (have H := Gx.on gb0 hb; clear gb0 k0 k1 k2)); have gb0 := H; have kk := H; clear H; obtain ⟨k0, k1, k2⟩ := kk) | (go_at_call 69; refine (s_grHas _ _ _ _ _ hP hQ).mono ?_; rintro e w' ⟨rfl, hb⟩; (first | (have H := gbox1 hb) | (have H := Gx.on gb0 hb; clear gb0 k0 k1 k2)); have gb0 := H; have kk := H; clear H; obtain ⟨k0, k1, k2⟩ := kk))
      all_goals
        go_ret3
        exact ⟨by rw [HR.out]; try rfl, by (repeat (first | exact Below.refl _ _ | assumption | refine bel_trans ?_ (bel_alloc _ _) | refine bel_set ?_ (by first | (dsimp only; omega) | (simp; omega) | simp) _ | refine bel_trans ?_ (bel_drewN _ _) | refine bel_trans ?_ (bel_drew _) | refine bel_trans ?_ (by assumption)))⟩
    | true =>
      have HR := Lib.hid (aw_t h1 h2)
      go_enter Try.func24, Try.ntmps24
      go_wp2_with fail
      refine (s_otFirst _ _ _ _ _).mono ?_; rintro e w1 ⟨rfl, hb⟩; (first | (have H := gbox1 hb) | (have H := Gx.on gb0 hb; clear gb0 k0 k1 k2)); have gb0 := H; have kk := H; clear H; obtain ⟨k0, k1, k2⟩ := kk
      have HB1 := Lib.hid (bel_trans (bel_alloc w _) hb); clear hb
      go_wp2_with fail
      refine (s_grHas _ _ _ _ _ hP hQ).mono ?_; rintro e w2 ⟨rfl, hb⟩; (first | (have H := gbox1 hb) | (have H := Gx.on gb0 hb; clear gb0 k0 k1 k2)); have gb0 := H; have kk := H; clear H; obtain ⟨k0, k1, k2⟩ := kk
      have HB2 := Lib.hid (bel_trans HB1.out hb); clear hb
      have HG0 := Lib.hid gb0; clear gb0 k0 k1 k2
      go_wp2
      go_loopw [9, 10, 11] (fun s1 s2 i wr => ∃ k : Nat, (k : Int) ≤ Q ∧ i = .int .i64 k ∧ s1 = .int .i64 (awN P Q G f ans 0 k) ∧ s2 = .int .i64 (awN P Q G f ans 1 k) ∧ Hid (Gx wr w.heap.size P Q G) ∧ Hid (Below w.heap.size w wr)) (fun _ _ i _ => Q.toNat - (intOf i).toNat)
      case atStart => exact ⟨0, by omega, rfl, rfl, rfl, HG0.out, HB2.out⟩
      case round =>
        obtain ⟨k, hk, rfl, rfl, rfl, HG, HB⟩ := hrel
        obtain ⟨wo, rfl⟩ : ∃ wo : World, wo = wr := ⟨_, rfl⟩
        clear HG0 HB1 HB2
        have gb0 := HG.out
        have kk := gb0; obtain ⟨k0, k1, k2⟩ := kk
        have b1 := awN_bd P Q G f ans 0 k; have b2 := awN_bd P Q G f ans 1 k
        obtain ⟨b11, b12⟩ := b1; obtain ⟨b21, b22⟩ := b2
        by_cases hlt : (k : Int) < Q
        · cases t0 : (answ P Q G f k 0 == ans) with
          | true =>
            have HS0 : Hid (awN P Q G f ans 0 (k + 1) = awN P Q G f ans 0 k + 1) := by show _ = _; rw [awN, t0]; rfl
            cases t1 : (answ P Q G f k 1 == ans) with
            | true =>
              have HS1 : Hid (awN P Q G f ans 1 (k + 1) = awN P Q G f ans 1 k + 1) := by show _ = _; rw [awN, t1]; rfl
              go_wp2_with (go_at_call 89; refine (s_otAnswer _ _ _ _ _ _ _ hP hQ (by omega) (by omega) (by omega)).mono ?_; rintro e w' ⟨rfl, hb⟩; (first | (have H := gbox1 hb) | (have H := Gx.on gb0 hb; clear gb0 k0 k1 k2)); have gb0 := H; have kk := H; clear H; obtain ⟨k0, k1, k2⟩ := kk)
              go_roundw
              case rel => exact ⟨k + 1, by omega, by go_num, by rw [HS0.out], by rw [HS1.out], (show Hid _ from by assumption), (show Hid _ from bel_trans HB.out (by (repeat (first | exact Below.refl _ _ | assumption | refine bel_trans ?_ (bel_alloc _ _) | refine bel_set ?_ (by first | (dsimp only; omega) | (simp; omega) | simp) _ | refine bel_trans ?_ (bel_drewN _ _) | refine bel_trans ?_ (bel_drew _) | refine bel_trans ?_ (by assumption)))))⟩
              case measure => simp [intOf]; omega
            | false =>
              have HS1 : Hid (awN P Q G f ans 1 (k + 1) = awN P Q G f ans 1 k) := by show _ = _; rw [awN, t1]; simp [bG]
              go_wp2_with (go_at_call 89; refine (s_otAnswer _ _ _ _ _ _ _ hP hQ (by omega) (by omega) (by omega)).mono ?_; rintro e w' ⟨rfl, hb⟩; (first | (have H := gbox1 hb) | (have H := Gx.on gb0 hb; clear gb0 k0 k1 k2)); have gb0 := H; have kk := H; clear H; obtain ⟨k0, k1, k2⟩ := kk)
              go_roundw
              case rel => exact ⟨k + 1, by omega, by go_num, by rw [HS0.out], by rw [HS1.out], (show Hid _ from by assumption), (show Hid _ from bel_trans HB.out (by (repeat (first | exact Below.refl _ _ | assumption | refine bel_trans ?_ (bel_alloc _ _) | refine bel_set ?_ (by first | (dsimp only; omega) | (simp; omega) | simp) _ | refine bel_trans ?_ (bel_drewN _ _) | refine bel_trans ?_ (bel_drew _) | refine bel_trans ?_ (by assumption)))))⟩
              case measure => simp [intOf]; omega
          | false =>
            have HS0 : Hid (awN P Q G f ans 0 (k + 1) = awN P Q G f ans 0 k) := by show _ = _; rw [awN, t0]; simp [bG]
            cases t1 : (answ P Q G f k 1 == ans) with
            | true =>
              have HS1 : Hid (awN P Q G f ans 1 (k + 1) = awN P Q G f ans 1 k + 1) := by show _ = _; rw [awN, t1]; rfl
              go_wp2_with (go_at_call 89; refine (s_otAnswer _ _ _ _ _ _ _ hP hQ (by omega) (by omega) (by omega)).mono ?_; rintro e w' ⟨rfl, hb⟩; (first | (have H := gbox1 hb) | (have H := Gx.on gb0 hb; clear gb0 k0 k1 k2)); have gb0 := H; have kk := H; clear H; obtain ⟨k0, k1, k2⟩ := kk)
              go_roundw
              case rel => exact ⟨k + 1, by omega, by go_num, by rw [HS0.out], by rw [HS1.out], (show Hid _ from by assumption), (show Hid _ from bel_trans HB.out (by (repeat (first | exact Below.refl _ _ | assumption | refine bel_trans ?_ (bel_alloc _ _) | refine bel_set ?_ (by first | (dsimp only; omega) | (simp; omega) | simp) _ | refine bel_trans ?_ (bel_drewN _ _) | refine bel_trans ?_ (bel_drew _) | refine bel_trans ?_ (by assumption)))))⟩
              case measure => simp [intOf]; omega
            | false =>
              have HS1 : Hid (awN P Q G f ans 1 (k + 1) = awN P Q G f ans 1 k) := by show _ = _; rw [awN, t1]; simp [bG]
              go_wp2_with (go_at_call 89; refine (s_otAnswer _ _ _ _ _ _ _ hP hQ (by omega) (by omega) (by omega)).mono ?_; rintro e w' ⟨rfl, hb⟩; (first | (have H := gbox1 hb) | (have H := Gx.on gb0 hb; clear gb0 k0 k1 k2)); have gb0 := H; have kk := H; clear H; obtain ⟨k0, k1, k2⟩ := kk)
              go_roundw
              case rel => exact ⟨k + 1, by omega, by go_num, by rw [HS0.out], by rw [HS1.out], (show Hid _ from by assumption), (show Hid _ from bel_trans HB.out (by (repeat (first | exact Below.refl _ _ | assumption | refine bel_trans ?_ (bel_alloc _ _) | refine bel_set ?_ (by first | (dsimp only; omega) | (simp; omega) | simp) _ | refine bel_trans ?_ (bel_drewN _ _) | refine bel_trans ?_ (bel_drew _) | refine bel_trans ?_ (by assumption)))))⟩
              case measure => simp [intOf]; omega
        · have hkq : Q.toNat = k := by omega
          have HKQ := Lib.hid hkq; clear hkq
          go_wp2
          go_ret3
          exact ⟨by rw [HR.out, HKQ.out]; try rfl, HB.out⟩
theorem Bx.st0 {w : World} {b : Nat} {x y : Value} (h : Bx w b x y) (u : Value) : Bx (w.setCell ⟨b, 0, none⟩ u) b u y := by
  refine ⟨World.cell?_setCell_same _ _ _ h.1, (World.cell?_setCell_other _ _ _ _ (by simp)).trans h.2.1, ?_, ?_⟩
  · simpa using h.2.2.1
  · simpa using h.2.2.2
theorem Bx.st1 {w : World} {b : Nat} {x y : Value} (h : Bx w b x y) (u : Value) : Bx (w.setCell ⟨b, 1, none⟩ u) b x u := by
  refine ⟨(World.cell?_setCell_other _ _ _ _ (by simp)).trans h.1, World.cell?_setCell_same _ _ _ h.2.1, ?_, ?_⟩
  · simpa using h.2.2.1
  · simpa using h.2.2.2
theorem Gx.other {w : World} {b A o : Nat} {P Q G : Int} (h : Gx w b P Q G) (hp : b < A) (u : Value) : Gx (w.setCell ⟨A, o, none⟩ u) b P Q G := by
  have e : ∀ i, (w.setCell ⟨A, o, none⟩ u).cell? ⟨b, i, none⟩ = w.cell? ⟨b, i, none⟩ := fun i => World.cell?_setCell_other _ _ _ _ (by intro e; simp at e <;> omega)
  exact ⟨(e 0).trans h.1, (e 1).trans h.2.1, (e 2).trans h.2.2⟩
set_option maxHeartbeats 4000000 in
theorem i_AnswerWays (P Q G f ans : Int) (w : World) (fxP : Fits P) (fxQ : Fits Q) (fxG : Fits G) (fxf : Fits f) (fxans : Fits ans) :
    Calls Try.prog 23 #[.agg #[.int .i64 P, .int .i64 Q, .int .i64 G], .int .i64 f, .int .i64 ans] w fun e w' => e = .returned (.tuple #[.int .i64 (answerWays P Q G f ans).1, .int .i64 (answerWays P Q G f ans).2.1, .bool (answerWays P Q G f ans).2.2]) ∧ Below w.heap.size w w' := by
  cases h1 : firstB P Q G f with
  | false =>
    have HR := Lib.hid (aw_f (P := P) (Q := Q) (G := G) (f := f) (ans := ans) (fun q => by rw [h1] at q; cases q.1))
    go_enter Try.func23, Try.ntmps23
    go_wp2_with (go_at_call 86; refine (i_isFirst _ _ _ _ _).mono ?_; rintro e w' ⟨rfl, hb⟩; (first | (have H := gbox1 hb) | (have H := Gx.on gb0 hb; clear gb0 k0 k1 k2)); have gb0 := H; have kk := H; clear H; obtain ⟨k0, k1, k2⟩ := kk)
    all_goals
      go_ret3
      exact ⟨by rw [HR.out]; try rfl, by (repeat (first | exact Below.refl _ _ | assumption | refine bel_trans ?_ (bel_alloc _ _) | refine bel_set ?_ (by first | (dsimp only; omega) | (simp; omega) | simp) _ | refine bel_trans ?_ (bel_drewN _ _) | refine bel_trans ?_ (bel_drew _) | refine bel_trans ?_ (by assumption)))⟩
  | true =>
    obtain ⟨hg, hh, hne⟩ := firstB_iff.1 h1
    obtain ⟨hP, hQ, hG⟩ := grB_lo hg
    obtain ⟨f1, f2⟩ := hasB_lo hh
    clear hh
    cases h2 : hasB P Q ans with
    | false =>
      have HR := Lib.hid (aw_f (P := P) (Q := Q) (G := G) (f := f) (ans := ans) (fun q => by rw [h2] at q; cases q.2))
      go_enter Try.func23, Try.ntmps23
      go_wp2_with (first | (go_at_call 86; refine (i_isFirst _ _ _ _ _).mono ?_; rintro e w' ⟨rfl, hb⟩; (first | (have H := gbox1 hb) | (have H := Gx.on gb0 hb; clear gb0 k0 k1 k2)); have gb0 := H; have kk := H; clear H; obtain ⟨k0, k1, k2⟩ := kk) | (go_at_call 70; refine (i_inGroup _ _ _ _ _).mono ?_; rintro e w' ⟨rfl, hb⟩; (first | (have H := gbox1 hb) | (have H := Gx.on gb0 hb; clear gb0 k0 k1 k2)); have gb0 := H; have kk := H; clear H; obtain ⟨k0, k1, k2⟩ := kk))
      all_goals
        go_ret3
        exact ⟨by rw [HR.out]; try rfl, by (repeat (first | exact Below.refl _ _ | assumption | refine bel_trans ?_ (bel_alloc _ _) | refine bel_set ?_ (by first | (dsimp only; omega) | (simp; omega) | simp) _ | refine bel_trans ?_ (bel_drewN _ _) | refine bel_trans ?_ (bel_drew _) | refine bel_trans ?_ (by assumption)))⟩
    | true =>
      have HR := Lib.hid (aw_t h1 h2)
      go_enter Try.func23, Try.ntmps23
      go_wp2_with fail
      refine (i_isFirst _ _ _ _ _).mono ?_; rintro e w1 ⟨rfl, hb⟩; (first | (have H := gbox1 hb) | (have H := Gx.on gb0 hb; clear gb0 k0 k1 k2)); have gb0 := H; have kk := H; clear H; obtain ⟨k0, k1, k2⟩ := kk
      have HB1 := Lib.hid (bel_trans (bel_alloc w _) hb); clear hb
      go_wp2_with fail
      refine (i_inGroup _ _ _ _ _).mono ?_; rintro e w2 ⟨rfl, hb⟩; (first | (have H := gbox1 hb) | (have H := Gx.on gb0 hb; clear gb0 k0 k1 k2)); have gb0 := H; have kk := H; clear H; obtain ⟨k0, k1, k2⟩ := kk
      have HB2 := Lib.hid (bel_trans HB1.out hb); clear hb
      have HG0 := Lib.hid gb0
      have hzA : w.heap.size < w2.heap.size := lt_of_cell (a := ⟨w.heap.size, 0, none⟩) gb0.1
      clear gb0
      go_wp2
      clear k0 k1 k2
      generalize hA : w2.heap.size = A at *
      have HX0 : Hid (Bx (w2.alloc (.cells #[.int .i64 0, .int .i64 0] 83)) A (.int .i64 (awN P Q G f ans 0 0)) (.int .i64 (awN P Q G f ans 1 0))) := by show Bx _ _ _ _; rw [← hA]; exact Bx.new
      clear hA
      go_loopw [25] (fun i wr => ∃ k : Nat, (k : Int) ≤ Q ∧ i = .int .i64 k ∧ Hid (Bx wr A (.int .i64 (awN P Q G f ans 0 k)) (.int .i64 (awN P Q G f ans 1 k))) ∧ Hid (Gx wr w.heap.size P Q G) ∧ Hid (Below w.heap.size w wr)) (fun i _ => Q.toNat - (intOf i).toNat)
      case atStart => exact ⟨0, by omega, rfl, HX0.out, Gx.on HG0.out (bel_alloc _ _), bel_trans HB2.out (bel_alloc _ _)⟩
      case round =>
        obtain ⟨k, hk, rfl, HX1, HG1, HB3⟩ := hrel
        clear HG0 HB1 HB2 HX0
        obtain ⟨wk, rfl⟩ : ∃ wk : World, wk = wr := ⟨_, rfl⟩
        have b1 := awN_bd P Q G f ans 0 k; have b2 := awN_bd P Q G f ans 1 k
        obtain ⟨b11, b12⟩ := b1; obtain ⟨b21, b22⟩ := b2
        by_cases hlt : (k : Int) < Q
        · go_wp2
          go_loopw [28] (fun i wr => ∃ j : Nat, j ≤ 2 ∧ i = .int .i64 j ∧ Hid (Bx wr A (.int .i64 (if 0 < j then awN P Q G f ans 0 (k + 1) else awN P Q G f ans 0 k)) (.int .i64 (if 1 < j then awN P Q G f ans 1 (k + 1) else awN P Q G f ans 1 k))) ∧ Hid (Gx wr w.heap.size P Q G) ∧ Hid (Below w.heap.size w wr)) (fun i _ => 2 - (intOf i).toNat)
          case atStart => exact ⟨0, by omega, rfl, HX1.out, HG1.out, HB3.out⟩
          case round =>
            obtain ⟨j, hj, rfl, HX, HG, HB⟩ := hrel
            obtain ⟨wo, rfl⟩ : ∃ wo : World, wo = wr := ⟨_, rfl⟩
            clear HX1 HG1 HB3
            rcases (show j = 0 ∨ j = 1 ∨ j = 2 by omega) with rfl | rfl | rfl
            · have hz1 := bG_bd (answ P Q G f k 0 == ans)
              obtain ⟨z1, z2⟩ := hz1
              have HS : Hid (awN P Q G f ans 0 (k + 1) = awN P Q G f ans 0 k + bG (answ P Q G f k 0 == ans)) := rfl
              have e1 : IntKind.i64.wrap (awN P Q G f ans 0 k + bG (answ P Q G f k 0 == ans)) = awN P Q G f ans 0 k + bG (answ P Q G f k 0 == ans) := IntWalk.i64_in _ (by omega)
              have ab0 : Bx wo A (.int .i64 (awN P Q G f ans 0 k)) (.int .i64 (awN P Q G f ans 1 k)) := HX.out
              have kk := HG.out
              obtain ⟨k0, k1, k2⟩ := kk
              have aa := ab0
              obtain ⟨a0, a1, fa0, fa1⟩ := aa
              go_wp2_with fail
              go_region_with (first | (go_at_call 88; refine (i_answer _ _ _ _ _ _ _ hP hQ (by omega) (by omega) (by omega)).mono ?_; rintro e w5 ⟨rfl, hb⟩; have B5 : Below wo.heap.size wo w5 := (by (repeat (first | exact Below.refl _ _ | assumption | refine bel_trans ?_ (bel_alloc _ _) | refine bel_set ?_ (by first | (dsimp only; omega) | (simp; omega) | simp) _ | refine bel_trans ?_ (bel_drewN _ _) | refine bel_trans ?_ (bel_drew _) | refine bel_trans ?_ (by assumption)))); have ab1 := Bx.on ab0 B5; obtain ⟨a0, a1, fa0, fa1⟩ := ab1) | (go_at_call 87; refine (i_bitg _ _).mono ?_; rintro e w' ⟨rfl, rfl⟩))
              all_goals
                clear e1
                go_wp2
                go_roundw
                case rel => exact ⟨0 + 1, by omega, by first | rfl | go_num, (show Hid _ from by rw [HS.out]; exact Bx.st0 (Bx.on ab0 B5) _), (show Hid _ from Gx.other (Gx.on HG.out B5) (by omega) _), (show Hid _ from bel_set (bel_trans HB.out B5) (by simp; omega) _)⟩
                case measure => simp [intOf]
            · have hz1 := bG_bd (answ P Q G f k 1 == ans)
              obtain ⟨z1, z2⟩ := hz1
              have HS : Hid (awN P Q G f ans 1 (k + 1) = awN P Q G f ans 1 k + bG (answ P Q G f k 1 == ans)) := rfl
              have e1 : IntKind.i64.wrap (awN P Q G f ans 1 k + bG (answ P Q G f k 1 == ans)) = awN P Q G f ans 1 k + bG (answ P Q G f k 1 == ans) := IntWalk.i64_in _ (by omega)
              have ab0 : Bx wo A (.int .i64 (awN P Q G f ans 0 (k + 1))) (.int .i64 (awN P Q G f ans 1 k)) := HX.out
              have kk := HG.out
              obtain ⟨k0, k1, k2⟩ := kk
              have aa := ab0
              obtain ⟨a0, a1, fa0, fa1⟩ := aa
              go_wp2_with fail
              go_region_with (first | (go_at_call 88; refine (i_answer _ _ _ _ _ _ _ hP hQ (by omega) (by omega) (by omega)).mono ?_; rintro e w5 ⟨rfl, hb⟩; have B5 : Below wo.heap.size wo w5 := (by (repeat (first | exact Below.refl _ _ | assumption | refine bel_trans ?_ (bel_alloc _ _) | refine bel_set ?_ (by first | (dsimp only; omega) | (simp; omega) | simp) _ | refine bel_trans ?_ (bel_drewN _ _) | refine bel_trans ?_ (bel_drew _) | refine bel_trans ?_ (by assumption)))); have ab1 := Bx.on ab0 B5; obtain ⟨a0, a1, fa0, fa1⟩ := ab1) | (go_at_call 87; refine (i_bitg _ _).mono ?_; rintro e w' ⟨rfl, rfl⟩))
              all_goals
                clear e1
                go_wp2
                go_roundw
                case rel => exact ⟨1 + 1, by omega, by first | rfl | go_num, (show Hid _ from by rw [HS.out]; exact Bx.st1 (Bx.on ab0 B5) _), (show Hid _ from Gx.other (Gx.on HG.out B5) (by omega) _), (show Hid _ from bel_set (bel_trans HB.out B5) (by simp; omega) _)⟩
                case measure => simp [intOf]
            · have HX2 : Hid (Bx wo A (.int .i64 (awN P Q G f ans 0 (k + 1))) (.int .i64 (awN P Q G f ans 1 (k + 1)))) := HX.out
              go_wp2
              go_roundw
              case rel => exact ⟨k + 1, by omega, by go_num, HX2.out, HG.out, HB.out⟩
              case measure => simp [intOf]; omega
        · have hkq : Q.toNat = k := by omega
          have HKQ := Lib.hid hkq; clear hkq
          have aa := HX1.out
          obtain ⟨a0, a1, fa0, fa1⟩ := aa
          go_wp2
          go_quiet (fail)
          go_wp2
          go_ret3
          exact ⟨by rw [HR.out, HKQ.out]; try rfl, by have HBB := HB3.out; (repeat (first | exact Below.refl _ _ | assumption | refine bel_trans ?_ (bel_alloc _ _) | refine bel_set ?_ (by first | (dsimp only; omega) | (simp; omega) | simp) _ | refine bel_trans ?_ (bel_drewN _ _) | refine bel_trans ?_ (bel_drew _) | refine bel_trans ?_ (by assumption)))⟩
end Go.Proofs.Ytklgneaamhjfpaa
