/-
  Contracts of the laws' own helpers on slices of gates and of what is opened: sizes, copies, comparisons, marks.
-/
import Derived.Test.YtmkcanbaleecfaaRec
import Derived.Deep.RegionHeld3
namespace Go.Proofs.Ytmkcanbaleecfaa
open Go.RowKit
set_option linter.unusedVariables false
set_option linter.unusedSimpArgs false

/-- What the size's count says. -/
def SzK (K : Nat) (w : World) (a : Option Addr) (n cap : Nat) (zs : List Int) (left l' : Int) : Prop := l' = -1 ∨ (0 ≤ l' ∧ l' ≤ left ∧ Recs K w a n cap zs ∧ (n : Int) ≤ left ∧ n ≤ 1048576)
/-- Three cells of a slice of structs. -/
theorem nth_set3 {zs ys : List Int} {n k : Nat} (hl : ys.length = n * 3) (hk : k < n) (H : ∀ j, j < k * 3 → nth ys j = nth zs j) {a b c : Int} (ha : a = fld 3 zs k 0) (hb : b = fld 3 zs k 1) (hc : c = fld 3 zs k 2) :
    ∀ j, j < (k + 1) * 3 → nth (((ys.set (k * 3) a).set (k * 3 + 1) b).set (k * 3 + 2) c) j = nth zs j := by
  intro j hj
  rw [nth_set (by rw [List.length_set, List.length_set, hl]; omega), nth_set (by rw [List.length_set, hl]; omega), nth_set (by rw [hl]; omega)]
  by_cases e0 : j = k * 3 + 2
  · subst e0; rw [if_pos rfl]; exact hc
  · rw [if_neg e0]
    by_cases e1 : j = k * 3 + 1
    · subst e1; rw [if_pos rfl]; exact hb
    · rw [if_neg e1]
      by_cases e2 : j = k * 3
      · subst e2; rw [if_pos rfl]; exact ha
      · rw [if_neg e2]; exact H j (by omega)
theorem fld_marks {k0 : Int} {n k j : Nat} (hk : k < n) (hj : j < 3) : fld 3 (marks k0 (n * 3)) k j = k0 + (k * 3 + j : Nat) := by
  unfold fld; exact nth_marks (by omega)
theorem MineK.set3 {w : World} {B b off n cap : Nat} {ys : List Int} (h : MineK 3 w B (some ⟨b, off, none⟩) n cap ys) {k : Nat} (hk : k < n) {x y z : Int} (hx : Fits x) (hy : Fits y) (hz : Fits z) :
    MineK 3 (((w.setCell ⟨b, off + k * 3, none⟩ (.int .i64 x)).setCell ⟨b, off + k * 3 + 1, none⟩ (.int .i64 y)).setCell ⟨b, off + k * 3 + 2, none⟩ (.int .i64 z)) B (some ⟨b, off, none⟩) n cap (((ys.set (k * 3) x).set (k * 3 + 1) y).set (k * 3 + 2) z) := by
  have g1 := h.set (q := k * 3) (by omega) x hx
  have g2 := g1.set (q := k * 3 + 1) (by omega) y hy
  have g3 := g2.set (q := k * 3 + 2) (by omega) z hz
  exact g3

theorem info_Gt : (Try.prog.info? 83).map (fun i => (i.zero, i.size, i.bytes)) = some (some (.agg #[.int .i64 0, .int .i64 0, .int .i64 0]), 3, 24) := by kernel_rfl
set_option maxHeartbeats 1000000 in
theorem l_szGateS (a : Option Addr) (n cap : Nat) (zs : List Int) (left : Int) (w : World) (h : RecsIn 3 w a n cap zs) (h0 : 0 ≤ left) (h1 : left ≤ 1048576) :
    Calls Try.prog 45 #[.slice a n cap, .int .i64 left] w fun e w' => ∃ l' : Int, e = .returned (.int .i64 l') ∧ w = w' ∧ SzK 3 w a n cap zs left l' := by
  obtain ⟨hn1, hn2⟩ := h
  by_cases hn : (n : Int) ≤ left
  · have HR := Lib.hid (hn2 (by omega)); clear hn2
    go_enter Try.func45, Try.ntmps45
    go_wp2
    go_ret
    exact ⟨_, rfl, rfl, Or.inr ⟨by omega, by omega, HR.out, hn, by omega⟩⟩
  · clear hn2
    go_enter Try.func45, Try.ntmps45
    go_wp2
    go_ret
    exact ⟨_, rfl, rfl, Or.inl rfl⟩
set_option maxHeartbeats 400000 in
theorem l_toGate (x y z : Int) (w : World) :
    Calls Try.prog 94 #[.agg #[.int .i64 x, .int .i64 y, .int .i64 z]] w fun e w' => e = .returned (.agg #[.int .i64 x, .int .i64 y, .int .i64 z]) ∧ Below w.heap.size w w' := by
  go_enter Try.func94, Try.ntmps94
  go_wp2
  simp [bodyPost, results, Try.results94, go_sem]
  (repeat (first | exact Below.refl _ _ | assumption | refine bel_trans ?_ (bel_alloc _ _) | refine bel_set ?_ (by first | (dsimp only; omega) | (simp; omega) | simp) _ | refine bel_trans ?_ (bel_drewN _ _) | refine bel_trans ?_ (bel_drew _) | refine bel_trans ?_ (by assumption)))
set_option maxHeartbeats 2000000 in
theorem l_convGt (a : Option Addr) (n cap : Nat) (zs : List Int) (w : World) (h : Recs 3 w a n cap zs) (hn : n ≤ 1048576) :
    Calls Try.prog 49 #[.slice a n cap] w fun e w' => ∃ a' cap', e = .returned (.slice a' n cap') ∧ MineK 3 w' w.heap.size a' n cap' zs ∧ Below w.heap.size w w' := by
  obtain ⟨i0, hi, hz0, hz1, hz2⟩ := info_parts info_Gt
  go_enter Try.func49, Try.ntmps49
  go_wp2_with (at_make; refine wpList_make_full _ rfl _ _ 29 rfl w.heap.size 83 i0 (.agg #[.int .i64 0, .int .i64 0, .int .i64 0]) 3 Try.underlying29 hi hz0 hz1 _ _ _ _ n rfl rfl rfl rfl ?b1 ?b2 ?b3 ?_)
  case b1 => rw [hz2]; omega
  case b2 => unfold maxLen; omega
  case b3 => exact Nat.le_refl _
  intro w1 hown hgrow
  have hb1 : Below w.heap.size w w1 := (Below.refl _ _).grown hgrow (Nat.le_refl _) (fun k hk => by cases hk)
  (try simp only [Value.cells] at hown)
  rw [madeK 3 (n * 3) #[.int .i64 0, .int .i64 0, .int .i64 0] rfl (by omega)] at hown
  obtain ⟨a', cap', hv, ho⟩ := MineK.of hown (by omega) (by omega) (fun x hx => by rw [List.eq_of_mem_replicate hx]; unfold Fits; omega)
  simp only [Value.slice.injEq] at hv
  obtain ⟨rfl, _, rfl⟩ := hv
  have hlen := Lib.hid h.len
  clear hown hgrow hi hz0 hz1 hz2
  have HO := Lib.hid ho; clear ho
  have HB := Lib.hid hb1; clear hb1
  go_wp2
  go_loopw [4] (fun i wr => ∃ k : Nat, k ≤ n ∧ i = .int .i64 k ∧ Hid (∃ ys, MineK 3 wr w.heap.size (some ⟨w.heap.size, 0, none⟩) n n ys ∧ ∀ j, j < k * 3 → nth ys j = nth zs j) ∧ Hid (Below w.heap.size w wr)) (fun i _ => n - (intOf i).toNat)
  case atStart => exact ⟨0, by omega, rfl, ⟨_, HO.out, fun j hj => by omega⟩, HB.out⟩
  case round =>
    obtain ⟨k, hk, rfl, HY, BW⟩ := hrel
    clear HO HB
    by_cases hlt : k < n
    · obtain ⟨b, off, rfl, hbl, hc0, hc1, hc2⟩ := (h.below BW.out).at3 hlt
      obtain ⟨ys, hy, hjs⟩ := HY.out
      have HJ := Lib.hid hjs; clear hjs
      have HF := Lib.hid (And.intro (h.fit hlt (j := 0) (by omega)) (And.intro (h.fit hlt (j := 1) (by omega)) (h.fit hlt (j := 2) (by omega))))
      have HYY := Lib.hid hy; clear hy HY
      go_wp2_with (go_at_call 94; refine (l_toGate _ _ _ _).mono ?_; rintro e w2 ⟨rfl, hb2⟩; have HY2 := Lib.hid (HYY.out.below hb2); have hm := HY2.out.at3 hlt; obtain ⟨_, _, e1, m1, m2, m3, m4, m5, m6, m7, m8⟩ := hm; (simp only [Option.some.injEq, Addr.mk.injEq] at e1); obtain ⟨rfl, rfl, _⟩ := e1; (simp only [Nat.zero_add] at m3 m4 m5 m6 m7 m8); have BW2 := Lib.hid (bel_trans BW.out hb2); clear hb2 HYY BW)
      go_roundw
      case rel =>
        have g2 := HY2.out.set3 hlt HF.out.1 HF.out.2.1 HF.out.2.2
        simp only [Nat.zero_add] at g2
        exact ⟨k + 1, by omega, by go_num, (show Hid _ from ⟨_, g2, nth_set3 HY2.out.recs.len hlt HJ.out rfl rfl rfl⟩), (show Hid _ from ((BW2.out.setCell (by exact Nat.le_refl _) _).setCell (by exact Nat.le_refl _) _).setCell (by exact Nat.le_refl _) _)⟩
      case measure => simp [intOf]; omega
    · obtain rfl : k = n := by omega
      obtain ⟨ys, hy, hjs⟩ := HY.out
      have hyl := hy.recs.len
      obtain rfl : ys = zs := eq_of_nth (by rw [hyl, hlen.out]) (fun j hj => hjs j (by rw [← hyl]; exact hj))
      have H := Lib.hid hy; clear hy hjs HY
      go_wp2
      go_ret
      exact ⟨_, _, rfl, H.out, BW.out⟩
set_option maxHeartbeats 400000 in
theorem l_eqOneGt (x y z : Int) (w : World) :
    Calls Try.prog 98 #[.agg #[.int .i64 x, .int .i64 y, .int .i64 z], .agg #[.int .i64 x, .int .i64 y, .int .i64 z]] w fun e w' => e = .returned (.bool true) ∧ Below w.heap.size w w' := by
  go_enter Try.func98, Try.ntmps98
  go_wp2
  go_ret
  exact ⟨rfl, by (repeat (first | exact Below.refl _ _ | assumption | refine bel_trans ?_ (bel_alloc _ _) | refine bel_set ?_ (by first | (dsimp only; omega) | (simp; omega) | simp) _ | refine bel_trans ?_ (bel_drewN _ _) | refine bel_trans ?_ (bel_drew _) | refine bel_trans ?_ (by assumption)))⟩
set_option maxHeartbeats 2000000 in
theorem l_eqGt (a a' : Option Addr) (n cap cap' : Nat) (zs : List Int) (w : World) (h : Recs 3 w a n cap zs) (h' : Recs 3 w a' n cap' zs) :
    Calls Try.prog 52 #[.slice a n cap, .slice a' n cap'] w fun e w' => e = .returned (.bool true) ∧ Below w.heap.size w w' := by
  have hs := h.small
  go_enter Try.func52, Try.ntmps52
  go_wp2
  go_loopw [5] (fun i wr => ∃ k : Nat, k ≤ n ∧ i = .int .i64 k ∧ Hid (Below w.heap.size w wr)) (fun i _ => n - (intOf i).toNat)
  case atStart => exact ⟨0, by omega, rfl, Below.refl _ _⟩
  case round =>
    obtain ⟨k, hk, rfl, BW⟩ := hrel
    by_cases hlt : k < n
    · obtain ⟨b, off, rfl, hbl, hc0, hc1, hc2⟩ := (h.below BW.out).at3 hlt
      obtain ⟨b', off', rfl, hbl', hc0', hc1', hc2'⟩ := (h'.below BW.out).at3 hlt
      have hlti : (k : Int) < (n : Int) := by omega
      go_wp2
      go_region_held3 (fun W => W.cell? ⟨b, off + k * 3, none⟩ = some (.int .i64 (fld 3 zs k 0)) ∧ W.cell? ⟨b, off + k * 3 + 1, none⟩ = some (.int .i64 (fld 3 zs k 1)) ∧ W.cell? ⟨b, off + k * 3 + 2, none⟩ = some (.int .i64 (fld 3 zs k 2)) ∧ W.cell? ⟨b', off' + k * 3, none⟩ = some (.int .i64 (fld 3 zs k 0)) ∧ W.cell? ⟨b', off' + k * 3 + 1, none⟩ = some (.int .i64 (fld 3 zs k 1)) ∧ W.cell? ⟨b', off' + k * 3 + 2, none⟩ = some (.int .i64 (fld 3 zs k 2))) (go_keep) (first | (go_at_call 98; refine (l_eqOneGt _ _ _ _).mono ?_; rintro e w2 ⟨rfl, hb1⟩; have hb2 := bel_trans (bel_drew _) hb1; clear hb1; have k1 := cell_on hc0 hb2; have k2 := cell_on hc1 hb2; have k3 := cell_on hc2 hb2; have k4 := cell_on hc0' hb2; have k5 := cell_on hc1' hb2; have k6 := cell_on hc2' hb2))
      go_wp2
      go_roundw
      case rel => exact ⟨k + 1, by omega, by go_num, (show Hid _ from bel_trans BW.out (by first | exact hb2 | (repeat (first | exact Below.refl _ _ | assumption | refine bel_trans ?_ (bel_alloc _ _) | refine bel_set ?_ (by first | (dsimp only; omega) | (simp; omega) | simp) _ | refine bel_trans ?_ (bel_drewN _ _) | refine bel_trans ?_ (bel_drew _) | refine bel_trans ?_ (by assumption)))))⟩
      case measure => simp [intOf]; omega
    · obtain rfl : k = n := by omega
      go_wp2
      go_ret
      exact ⟨rfl, BW.out⟩
set_option maxHeartbeats 2000000 in
theorem l_markGt (a : Option Addr) (n cap B : Nat) (zs : List Int) (k0 : Int) (w : World) (h : MineK 3 w B a n cap zs) (hk0 : -1000000000000 ≤ k0) (hk1 : k0 ≤ 1000000000000) :
    Calls Try.prog 58 #[.slice a n cap, .int .i64 k0] w fun e w' => e = .returned (.int .i64 (k0 + (n * 3 : Nat))) ∧ MineK 3 w' B a n cap (marks k0 (n * 3)) ∧ OnlyM a (n * 3) w w' := by
  have hs := h.small
  have hs2 := h.mine.ints.small
  have HO := Lib.hid h; clear h
  go_enter Try.func58, Try.ntmps58
  go_wp2
  go_loopw [1, 5] (fun s1 i wr => ∃ k : Nat, k ≤ n ∧ i = .int .i64 k ∧ s1 = .int .i64 (k0 + (k * 3 : Nat)) ∧ Hid (∃ ys, MineK 3 wr B a n cap ys ∧ ∀ j, j < k * 3 → nth ys j = nth (marks k0 (n * 3)) j) ∧ Hid (OnlyM a (n * 3) w wr)) (fun _ i _ => n - (intOf i).toNat)
  case atStart => exact ⟨0, by omega, rfl, by simp, ⟨_, HO.out, fun j hj => by omega⟩, OnlyM.refl _ _ _⟩
  case round =>
    obtain ⟨k, hk, rfl, rfl, HY, BW⟩ := hrel
    clear HO
    by_cases hlt : k < n
    · obtain ⟨ys, hy, hjs⟩ := HY.out
      obtain ⟨g, off, rfl, hBg, hgl, hc0, hc1, hc2, hf0, hf1, hf2⟩ := hy.at3 hlt
      have hy3 := hy.set3 hlt (x := k0 + (k * 3 : Nat)) (y := k0 + (k * 3 : Nat) + 1) (z := k0 + (k * 3 : Nat) + 1 + 1) (by unfold Fits; omega) (by unfold Fits; omega) (by unfold Fits; omega)
      have HJ := Lib.hid (nth_set3 (zs := marks k0 (n * 3)) hy.recs.len hlt hjs (a := k0 + (k * 3 : Nat)) (b := k0 + (k * 3 : Nat) + 1) (c := k0 + (k * 3 : Nat) + 1 + 1) (by rw [fld_marks hlt (by omega)]; simp) (by rw [fld_marks hlt (by omega)]; simp; omega) (by rw [fld_marks hlt (by omega)]; simp; omega)); clear hjs
      have HY2 := Lib.hid hy3; clear hy3
      have hyl := Lib.hid hy.recs.len
      clear hy HY
      go_wp2
      go_roundw
      case rel => exact ⟨k + 1, by omega, by go_num, by first | go_num | (simp; omega), (show Hid _ from ⟨_, HY2.out, HJ.out⟩), (show Hid _ from ((BW.out.setCell (by omega) _).setCell (by omega) _).setCell (by omega) _)⟩
      case measure => simp [intOf]; omega
    · obtain rfl : k = n := by omega
      obtain ⟨ys, hy, hjs⟩ := HY.out
      have hyl := hy.recs.len
      obtain rfl : ys = marks k0 (k * 3) := eq_of_nth (by rw [hyl, marks_len]) (fun j hj => by rw [hyl] at hj; exact hjs j hj)
      have H := Lib.hid hy; clear hy hjs HY
      go_wp2
      go_ret
      exact ⟨rfl, H.out, BW.out⟩

theorem info_Op : (Try.prog.info? 86).map (fun i => (i.zero, i.size, i.bytes)) = some (some (.agg #[.int .i64 0, .int .i64 0, .int .i64 0]), 3, 24) := by kernel_rfl
set_option maxHeartbeats 1000000 in
theorem l_szOpenedS (a : Option Addr) (n cap : Nat) (zs : List Int) (left : Int) (w : World) (h : RecsIn 3 w a n cap zs) (h0 : 0 ≤ left) (h1 : left ≤ 1048576) :
    Calls Try.prog 26 #[.slice a n cap, .int .i64 left] w fun e w' => ∃ l' : Int, e = .returned (.int .i64 l') ∧ w = w' ∧ SzK 3 w a n cap zs left l' := by
  obtain ⟨hn1, hn2⟩ := h
  by_cases hn : (n : Int) ≤ left
  · have HR := Lib.hid (hn2 (by omega)); clear hn2
    go_enter Try.func26, Try.ntmps26
    go_wp2
    go_ret
    exact ⟨_, rfl, rfl, Or.inr ⟨by omega, by omega, HR.out, hn, by omega⟩⟩
  · clear hn2
    go_enter Try.func26, Try.ntmps26
    go_wp2
    go_ret
    exact ⟨_, rfl, rfl, Or.inl rfl⟩
set_option maxHeartbeats 400000 in
theorem l_toOpened (x y z : Int) (w : World) :
    Calls Try.prog 73 #[.agg #[.int .i64 x, .int .i64 y, .int .i64 z]] w fun e w' => e = .returned (.agg #[.int .i64 x, .int .i64 y, .int .i64 z]) ∧ Below w.heap.size w w' := by
  go_enter Try.func73, Try.ntmps73
  go_wp2
  simp [bodyPost, results, Try.results73, go_sem]
  (repeat (first | exact Below.refl _ _ | assumption | refine bel_trans ?_ (bel_alloc _ _) | refine bel_set ?_ (by first | (dsimp only; omega) | (simp; omega) | simp) _ | refine bel_trans ?_ (bel_drewN _ _) | refine bel_trans ?_ (bel_drew _) | refine bel_trans ?_ (by assumption)))
set_option maxHeartbeats 2000000 in
theorem l_convOp (a : Option Addr) (n cap : Nat) (zs : List Int) (w : World) (h : Recs 3 w a n cap zs) (hn : n ≤ 1048576) :
    Calls Try.prog 28 #[.slice a n cap] w fun e w' => ∃ a' cap', e = .returned (.slice a' n cap') ∧ MineK 3 w' w.heap.size a' n cap' zs ∧ Below w.heap.size w w' := by
  obtain ⟨i0, hi, hz0, hz1, hz2⟩ := info_parts info_Op
  go_enter Try.func28, Try.ntmps28
  go_wp2_with (at_make; refine wpList_make_full _ rfl _ _ 47 rfl w.heap.size 86 i0 (.agg #[.int .i64 0, .int .i64 0, .int .i64 0]) 3 Try.underlying47 hi hz0 hz1 _ _ _ _ n rfl rfl rfl rfl ?b1 ?b2 ?b3 ?_)
  case b1 => rw [hz2]; omega
  case b2 => unfold maxLen; omega
  case b3 => exact Nat.le_refl _
  intro w1 hown hgrow
  have hb1 : Below w.heap.size w w1 := (Below.refl _ _).grown hgrow (Nat.le_refl _) (fun k hk => by cases hk)
  (try simp only [Value.cells] at hown)
  rw [madeK 3 (n * 3) #[.int .i64 0, .int .i64 0, .int .i64 0] rfl (by omega)] at hown
  obtain ⟨a', cap', hv, ho⟩ := MineK.of hown (by omega) (by omega) (fun x hx => by rw [List.eq_of_mem_replicate hx]; unfold Fits; omega)
  simp only [Value.slice.injEq] at hv
  obtain ⟨rfl, _, rfl⟩ := hv
  have hlen := Lib.hid h.len
  clear hown hgrow hi hz0 hz1 hz2
  have HO := Lib.hid ho; clear ho
  have HB := Lib.hid hb1; clear hb1
  go_wp2
  go_loopw [4] (fun i wr => ∃ k : Nat, k ≤ n ∧ i = .int .i64 k ∧ Hid (∃ ys, MineK 3 wr w.heap.size (some ⟨w.heap.size, 0, none⟩) n n ys ∧ ∀ j, j < k * 3 → nth ys j = nth zs j) ∧ Hid (Below w.heap.size w wr)) (fun i _ => n - (intOf i).toNat)
  case atStart => exact ⟨0, by omega, rfl, ⟨_, HO.out, fun j hj => by omega⟩, HB.out⟩
  case round =>
    obtain ⟨k, hk, rfl, HY, BW⟩ := hrel
    clear HO HB
    by_cases hlt : k < n
    · obtain ⟨b, off, rfl, hbl, hc0, hc1, hc2⟩ := (h.below BW.out).at3 hlt
      obtain ⟨ys, hy, hjs⟩ := HY.out
      have HJ := Lib.hid hjs; clear hjs
      have HF := Lib.hid (And.intro (h.fit hlt (j := 0) (by omega)) (And.intro (h.fit hlt (j := 1) (by omega)) (h.fit hlt (j := 2) (by omega))))
      have HYY := Lib.hid hy; clear hy HY
      go_wp2_with (go_at_call 73; refine (l_toOpened _ _ _ _).mono ?_; rintro e w2 ⟨rfl, hb2⟩; have HY2 := Lib.hid (HYY.out.below hb2); have hm := HY2.out.at3 hlt; obtain ⟨_, _, e1, m1, m2, m3, m4, m5, m6, m7, m8⟩ := hm; (simp only [Option.some.injEq, Addr.mk.injEq] at e1); obtain ⟨rfl, rfl, _⟩ := e1; (simp only [Nat.zero_add] at m3 m4 m5 m6 m7 m8); have BW2 := Lib.hid (bel_trans BW.out hb2); clear hb2 HYY BW)
      go_roundw
      case rel =>
        have g2 := HY2.out.set3 hlt HF.out.1 HF.out.2.1 HF.out.2.2
        simp only [Nat.zero_add] at g2
        exact ⟨k + 1, by omega, by go_num, (show Hid _ from ⟨_, g2, nth_set3 HY2.out.recs.len hlt HJ.out rfl rfl rfl⟩), (show Hid _ from ((BW2.out.setCell (by exact Nat.le_refl _) _).setCell (by exact Nat.le_refl _) _).setCell (by exact Nat.le_refl _) _)⟩
      case measure => simp [intOf]; omega
    · obtain rfl : k = n := by omega
      obtain ⟨ys, hy, hjs⟩ := HY.out
      have hyl := hy.recs.len
      obtain rfl : ys = zs := eq_of_nth (by rw [hyl, hlen.out]) (fun j hj => hjs j (by rw [← hyl]; exact hj))
      have H := Lib.hid hy; clear hy hjs HY
      go_wp2
      go_ret
      exact ⟨_, _, rfl, H.out, BW.out⟩
set_option maxHeartbeats 400000 in
theorem l_eqOneOp (x y z : Int) (w : World) :
    Calls Try.prog 81 #[.agg #[.int .i64 x, .int .i64 y, .int .i64 z], .agg #[.int .i64 x, .int .i64 y, .int .i64 z]] w fun e w' => e = .returned (.bool true) ∧ Below w.heap.size w w' := by
  go_enter Try.func81, Try.ntmps81
  go_wp2
  go_ret
  exact ⟨rfl, by (repeat (first | exact Below.refl _ _ | assumption | refine bel_trans ?_ (bel_alloc _ _) | refine bel_set ?_ (by first | (dsimp only; omega) | (simp; omega) | simp) _ | refine bel_trans ?_ (bel_drewN _ _) | refine bel_trans ?_ (bel_drew _) | refine bel_trans ?_ (by assumption)))⟩
set_option maxHeartbeats 2000000 in
theorem l_eqOp (a a' : Option Addr) (n cap cap' : Nat) (zs : List Int) (w : World) (h : Recs 3 w a n cap zs) (h' : Recs 3 w a' n cap' zs) :
    Calls Try.prog 30 #[.slice a n cap, .slice a' n cap'] w fun e w' => e = .returned (.bool true) ∧ Below w.heap.size w w' := by
  have hs := h.small
  go_enter Try.func30, Try.ntmps30
  go_wp2
  go_loopw [5] (fun i wr => ∃ k : Nat, k ≤ n ∧ i = .int .i64 k ∧ Hid (Below w.heap.size w wr)) (fun i _ => n - (intOf i).toNat)
  case atStart => exact ⟨0, by omega, rfl, Below.refl _ _⟩
  case round =>
    obtain ⟨k, hk, rfl, BW⟩ := hrel
    by_cases hlt : k < n
    · obtain ⟨b, off, rfl, hbl, hc0, hc1, hc2⟩ := (h.below BW.out).at3 hlt
      obtain ⟨b', off', rfl, hbl', hc0', hc1', hc2'⟩ := (h'.below BW.out).at3 hlt
      have hlti : (k : Int) < (n : Int) := by omega
      go_wp2
      go_region_held3 (fun W => W.cell? ⟨b, off + k * 3, none⟩ = some (.int .i64 (fld 3 zs k 0)) ∧ W.cell? ⟨b, off + k * 3 + 1, none⟩ = some (.int .i64 (fld 3 zs k 1)) ∧ W.cell? ⟨b, off + k * 3 + 2, none⟩ = some (.int .i64 (fld 3 zs k 2)) ∧ W.cell? ⟨b', off' + k * 3, none⟩ = some (.int .i64 (fld 3 zs k 0)) ∧ W.cell? ⟨b', off' + k * 3 + 1, none⟩ = some (.int .i64 (fld 3 zs k 1)) ∧ W.cell? ⟨b', off' + k * 3 + 2, none⟩ = some (.int .i64 (fld 3 zs k 2))) (go_keep) (first | (go_at_call 81; refine (l_eqOneOp _ _ _ _).mono ?_; rintro e w2 ⟨rfl, hb1⟩; have hb2 := bel_trans (bel_drew _) hb1; clear hb1; have k1 := cell_on hc0 hb2; have k2 := cell_on hc1 hb2; have k3 := cell_on hc2 hb2; have k4 := cell_on hc0' hb2; have k5 := cell_on hc1' hb2; have k6 := cell_on hc2' hb2))
      go_wp2
      go_roundw
      case rel => exact ⟨k + 1, by omega, by go_num, (show Hid _ from bel_trans BW.out (by first | exact hb2 | (repeat (first | exact Below.refl _ _ | assumption | refine bel_trans ?_ (bel_alloc _ _) | refine bel_set ?_ (by first | (dsimp only; omega) | (simp; omega) | simp) _ | refine bel_trans ?_ (bel_drewN _ _) | refine bel_trans ?_ (bel_drew _) | refine bel_trans ?_ (by assumption)))))⟩
      case measure => simp [intOf]; omega
    · obtain rfl : k = n := by omega
      go_wp2
      go_ret
      exact ⟨rfl, BW.out⟩
set_option maxHeartbeats 2000000 in
theorem l_markOp (a : Option Addr) (n cap B : Nat) (zs : List Int) (k0 : Int) (w : World) (h : MineK 3 w B a n cap zs) (hk0 : -1000000000000 ≤ k0) (hk1 : k0 ≤ 1000000000000) :
    Calls Try.prog 31 #[.slice a n cap, .int .i64 k0] w fun e w' => e = .returned (.int .i64 (k0 + (n * 3 : Nat))) ∧ MineK 3 w' B a n cap (marks k0 (n * 3)) ∧ OnlyM a (n * 3) w w' := by
  have hs := h.small
  have hs2 := h.mine.ints.small
  have HO := Lib.hid h; clear h
  go_enter Try.func31, Try.ntmps31
  go_wp2
  go_loopw [1, 5] (fun s1 i wr => ∃ k : Nat, k ≤ n ∧ i = .int .i64 k ∧ s1 = .int .i64 (k0 + (k * 3 : Nat)) ∧ Hid (∃ ys, MineK 3 wr B a n cap ys ∧ ∀ j, j < k * 3 → nth ys j = nth (marks k0 (n * 3)) j) ∧ Hid (OnlyM a (n * 3) w wr)) (fun _ i _ => n - (intOf i).toNat)
  case atStart => exact ⟨0, by omega, rfl, by simp, ⟨_, HO.out, fun j hj => by omega⟩, OnlyM.refl _ _ _⟩
  case round =>
    obtain ⟨k, hk, rfl, rfl, HY, BW⟩ := hrel
    clear HO
    by_cases hlt : k < n
    · obtain ⟨ys, hy, hjs⟩ := HY.out
      obtain ⟨g, off, rfl, hBg, hgl, hc0, hc1, hc2, hf0, hf1, hf2⟩ := hy.at3 hlt
      have hy3 := hy.set3 hlt (x := k0 + (k * 3 : Nat)) (y := k0 + (k * 3 : Nat) + 1) (z := k0 + (k * 3 : Nat) + 1 + 1) (by unfold Fits; omega) (by unfold Fits; omega) (by unfold Fits; omega)
      have HJ := Lib.hid (nth_set3 (zs := marks k0 (n * 3)) hy.recs.len hlt hjs (a := k0 + (k * 3 : Nat)) (b := k0 + (k * 3 : Nat) + 1) (c := k0 + (k * 3 : Nat) + 1 + 1) (by rw [fld_marks hlt (by omega)]; simp) (by rw [fld_marks hlt (by omega)]; simp; omega) (by rw [fld_marks hlt (by omega)]; simp; omega)); clear hjs
      have HY2 := Lib.hid hy3; clear hy3
      have hyl := Lib.hid hy.recs.len
      clear hy HY
      go_wp2
      go_roundw
      case rel => exact ⟨k + 1, by omega, by go_num, by first | go_num | (simp; omega), (show Hid _ from ⟨_, HY2.out, HJ.out⟩), (show Hid _ from ((BW.out.setCell (by omega) _).setCell (by omega) _).setCell (by omega) _)⟩
      case measure => simp [intOf]; omega
    · obtain rfl : k = n := by omega
      obtain ⟨ys, hy, hjs⟩ := HY.out
      have hyl := hy.recs.len
      obtain rfl : ys = marks k0 (k * 3) := eq_of_nth (by rw [hyl, marks_len]) (fun j hj => by rw [hyl] at hj; exact hjs j hj)
      have H := Lib.hid hy; clear hy hjs HY
      go_wp2
      go_ret
      exact ⟨rfl, H.out, BW.out⟩

set_option maxHeartbeats 2000000 in
theorem l_heldOp (a : Option Addr) (n cap : Nat) (k0 : Int) (w : World) (h : Recs 3 w a n cap (marks k0 (n * 3))) (hk0 : 0 ≤ k0) (hk1 : k0 ≤ 1000000000000) :
    Calls Try.prog 34 #[.slice a n cap, .int .i64 k0] w fun e w' => e = .returned (.int .i64 (k0 + (n * 3 : Nat))) ∧ w = w' := by
  have hs := h.small
  have hs2 := h.ints.small
  go_enter Try.func34, Try.ntmps34
  go_wp2
  go_loop [1, 5] (fun s1 i => ∃ k : Nat, k ≤ n ∧ i = .int .i64 k ∧ s1 = .int .i64 (k0 + (k * 3 : Nat))) (fun _ i => n - (intOf i).toNat)
  case atStart => exact ⟨0, by omega, rfl, by simp⟩
  case round =>
    obtain ⟨k, hk, rfl, rfl⟩ := hrel
    by_cases hlt : k < n
    · obtain ⟨g, off, rfl, hgl, hc0, hc1, hc2⟩ := h.at3 hlt
      rw [fld_marks hlt (by omega)] at hc0 hc1 hc2
      simp only [Int.natCast_add, Int.natCast_mul, Int.add_zero, Nat.add_zero] at hc0 hc1 hc2
      go_wp2
      go_round
      case rel => exact ⟨k + 1, by omega, by go_num, by first | go_num | (simp; omega)⟩
      case measure => simp [intOf]; omega
    · obtain rfl : k = n := by omega
      go_wp2
      go_ret
      exact ⟨rfl, rfl⟩

end Go.Proofs.Ytmkcanbaleecfaa
