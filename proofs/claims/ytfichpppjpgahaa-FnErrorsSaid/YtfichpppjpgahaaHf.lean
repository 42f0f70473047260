/-
  Shares of a value, other shares of the same value.
-/
import Derived.Test.YtfichpppjpgahaaHe
namespace Go.Proofs.Ytfichpppjpgahaa
open Go.RowKit
set_option linter.unusedVariables false
set_option linter.unusedSimpArgs false
set_option maxRecDepth 20000

/-- The coefficients: the value, then numbers of the key. -/
def cfL (p key v : Int) : Nat → List Int
  | 0 => [v]
  | m + 1 => cfL p key v m ++ [numFrom [key, (m : Int) + 1, 14] p]
theorem cfL_len (p key v : Int) : ∀ m, (cfL p key v m).length = m + 1
  | 0 => rfl
  | m + 1 => by rw [cfL, List.length_append, cfL_len]; rfl
theorem cfL_res {p key v : Int} (hp : 2 ≤ p) (hv : 0 ≤ v ∧ v < p) : ∀ m, Res p (cfL p key v m)
  | 0 => Res.one hv
  | m + 1 => by
    intro x hx
    rw [cfL, List.mem_append] at hx
    rcases hx with hx | hx
    · exact cfL_res hp hv m x hx
    · simp at hx; subst hx
      have := numFrom_bd [key, (m : Int) + 1, 14] p (by omega)
      omega
theorem cfL_zero (p key v : Int) : ∀ m, nth (cfL p key v m) 0 = v
  | 0 => rfl
  | m + 1 => by rw [cfL, nth_snocH, cfL_len, if_neg (by omega), cfL_zero]
/-- The values at 1, 2, .. -/
def spL (p : Int) (C : List Int) : Nat → List Int
  | 0 => []
  | m + 1 => spL p C m ++ [hor p ((m : Int) + 1) C]
theorem spL_len (p : Int) (C : List Int) : ∀ m, (spL p C m).length = m
  | 0 => rfl
  | m + 1 => by rw [spL, List.length_append, spL_len]; rfl
theorem spL_res {p : Int} (hp : 2 ≤ p) (C : List Int) : ∀ m, Res p (spL p C m)
  | 0 => by intro x hx; simp [spL] at hx
  | m + 1 => by
    intro x hx
    rw [spL, List.mem_append] at hx
    rcases hx with hx | hx
    · exact spL_res hp C m x hx
    · simp at hx; subst hx
      have := hor_bd hp ((m : Int) + 1) C
      omega
theorem nth_spL {p : Int} {C : List Int} : ∀ {m i : Nat}, i < m → nth (spL p C m) i = hor p ((i : Int) + 1) C
  | m + 1, i, h => by
    rw [spL, nth_snocH, spL_len]
    split
    · rename_i e; rw [e]
    · exact nth_spL (by omega)
theorem Duo.lits1 {w : World} {B : Nat} {v : Int} (h : B ≤ w.heap.size) : Duo ((w.alloc (.cells #[.int .i64 v] 3)).alloc (.cells #[] 3)) B (.slice (some ⟨w.heap.size, 0, none⟩) 1 1) 1 [v] (.slice (some ⟨w.heap.size + 1, 0, none⟩) 0 0) 0 [] := by
  have h1 : (w.alloc (.cells #[.int .i64 v] 3)).ownsRow B 3 1 (.slice (some ⟨w.heap.size, 0, none⟩) 1 1) 1 (ivs [v]) := World.ownsRow_lit w #[.int .i64 v] 1 h (by decide) rfl
  have h2 : ((w.alloc (.cells #[.int .i64 v] 3)).alloc (.cells #[] 3)).ownsRow B 3 1 (.slice (some ⟨w.heap.size + 1, 0, none⟩) 0 0) 0 (ivs []) := by
    have := World.ownsRow_lit (base := B) (e := 3) (size := 1) (w.alloc (.cells #[.int .i64 v] 3)) #[] 0 (by simp; omega) (by decide) rfl
    simpa [ivs] using this
  exact ⟨h1.alloc _, h2, fun g e1 e2 => by simp [Value.ownBlock] at e1 e2; omega, by simp; omega⟩
theorem small14 {key m : Int} (hk : 0 ≤ key ∧ key ≤ 1000000000) (hm : 0 ≤ m ∧ m ≤ 1000) : ∀ x ∈ [key, m, 14], Small x := fun x hx => by
  simp at hx
  unfold Small
  rcases hx with rfl | rfl | rfl <;> omega
set_option maxHeartbeats 4000000 in
theorem i_splitThreshold (p key v : Int) (n m : Nat) (w : World) (hp : 2 ≤ p ∧ p ≤ 251) (hk : 0 ≤ key ∧ key ≤ 1000000000) (hv : 0 ≤ v ∧ v < p) (hn : n ≤ 200) (hm : m ≤ 200) (t : Int) (ht : t = m + 1) :
    Calls Try.prog 125 #[.int .i64 p, .int .i64 key, .int .i64 v, .int .i64 n, .int .i64 t] w fun e w' => ∃ r c, e = .returned (.slice r n c) ∧ Mine w' w.heap.size r n c (spL p (cfL p key v m) n) ∧ Below w.heap.size w w' := by
  obtain ⟨hp1, hp2⟩ := hp
  have HCR := Lib.hid (fun j => cfL_res (key := key) hp1 hv j)
  have hvf : Fits v := by unfold Fits; omega
  have hkf : Fits key := by unfold Fits; omega
  have HD0 := Lib.hid (Duo.lits1 (w := w) (v := v) (Nat.le_refl w.heap.size))
  have HT := Lib.hid ht
  have ht1 : 1 ≤ t ∧ t ≤ 201 := by omega
  clear ht
  go_enter Try.func125, Try.ntmps125
  go_wp2
  go_loopw [11, 13] (fun v1 i W => ∃ j : Nat, j ≤ m ∧ i = .int .i64 ((j : Int) + 1) ∧ Hid (Duo W w.heap.size v1 (j + 1) (cfL p key v j) (.slice (some ⟨w.heap.size + 1, 0, none⟩) 0 0) 0 []) ∧ Hid (Below w.heap.size w W)) (fun _ i _ => m + 1 - (intOf i).toNat)
  case atStart => exact ⟨0, by omega, rfl, HD0.out, (show Hid _ from bel_trans (bel_alloc w _) (bel_alloc _ _))⟩
  case round =>
    obtain ⟨j, hj, rfl, HD, HB⟩ := hrel
    clear HD0
    obtain ⟨wk, rfl⟩ : ∃ wk : World, wk = wr := ⟨_, rfl⟩
    have hz := HB.out.size
    by_cases hlt : j < m
    · have hti : (j : Int) + 1 < t := by rw [HT.out]; omega
      have HN := Lib.hid (i_numberFrom (some ⟨wk.heap.size, 0, none⟩) 3 3 [key, (j : Int) + 1, 14] p _ (Ints.lit3 (w := wk) (m := wk.heap.size) (t := 3) rfl hkf (by unfold Fits; omega) (by unfold Fits; omega)) (by omega) (small14 hk (by omega)) (by omega) (by omega))
      have HCS : Hid (cfL p key v (j + 1) = cfL p key v j ++ [numFrom [key, (j : Int) + 1, 14] p]) := by show _ = _; rfl
      generalize numFrom [key, (j : Int) + 1, 14] p = N at HN HCS
      go_wp2_with fail
      refine HN.out.mono ?_; rintro e w1 ⟨rfl, hb1⟩
      have hbx := bel_trans (bel_alloc wk (.cells #[.int .i64 key, .int .i64 ((j : Int) + 1), .int .i64 14] 3)) hb1
      have HD1 := Lib.hid (HD.out.below hbx); have HB1 := Lib.hid (bel_trans HB.out hbx)
      clear hb1 hbx HD HB
      go_wp2_with (at_builtin; refine wp_duo w1 _ w.heap.size (j + 1) (cfL p key v j) _ 0 [] N _ _ rfl _ _ rfl rfl rfl (by first | rfl | simp) HD1.out (by omega) ?_; intro v9 w9 hd9 hb9)
      go_roundw
      case rel => exact ⟨j + 1, by omega, by first | go_num | (simp; omega), (show Hid _ from by rw [HCS.out]; exact hd9), HB1.out.trans hb9⟩
      case measure => first | (simp [intOf]; done) | (simp [intOf]; omega)
    · obtain rfl : j = m := by omega
      have hti : ¬ (j : Int) + 1 < t := by rw [HT.out]; omega
      obtain ⟨rc, cc, rfl, hoc⟩ := OwnI.of HD.out.own1 (by omega) (Res.fits (by omega) (HCR.out j))
      have HCL := Lib.hid (cfL_len p key v j)
      have HCj := Lib.hid (HCR.out j)
      obtain ⟨C, hC⟩ : ∃ C, C = cfL p key v j := ⟨_, rfl⟩
      rw [← hC] at HCL HCj HD
      have HCC := Lib.hid hC
      clear hoc hC HCR
      have HD2 := Lib.hid (show Duo wk w.heap.size (.slice rc (j + 1) cc) (j + 1) C (.slice (some ⟨w.heap.size + 1, 0, none⟩) 0 0) 0 [] from HD.out)
      clear HD
      go_wp2
      go_loopw [12, 14] (fun v1 i W => ∃ q : Nat, q ≤ n ∧ i = .int .i64 ((q : Int) + 1) ∧ Hid (Duo W w.heap.size (.slice rc (j + 1) cc) (j + 1) C v1 q (spL p C q)) ∧ Hid (Below w.heap.size w W)) (fun _ i _ => n + 1 - (intOf i).toNat)
      case atStart => exact ⟨0, by omega, rfl, HD2.out, HB.out⟩
      case round =>
        obtain ⟨q, hq, rfl, HDq, HBq⟩ := hrel
        clear HD2 HB
        obtain ⟨wq, rfl⟩ : ∃ wq : World, wq = wr := ⟨_, rfl⟩
        by_cases hqn : q < n
        · have hqi : (q : Int) + 1 ≤ (n : Int) := by omega
          obtain ⟨r9, c9, e9, ho9⟩ := OwnI.of HDq.out.own1 (by omega) (Res.fits (by omega) HCj.out)
          simp only [Value.slice.injEq] at e9
          obtain ⟨rfl, _, rfl⟩ := e9
          have HI := Lib.hid ho9.ints; clear ho9
          have HSS : Hid (spL p C (q + 1) = spL p C q ++ [hor p ((q : Int) + 1) C]) := by show _ = _; rfl
          have HE := Lib.hid (i_evalPoly p ((q : Int) + 1) rc (j + 1) cc C wq HI.out ⟨hp1, hp2⟩ (by omega) (fun i hi => by have := HCj.out.at (i := i) (by rw [HCL.out]; exact hi); omega) (by omega))
          go_wp2_with fail
          refine HE.out.mono ?_; rintro e w1 ⟨rfl, hb1⟩
          have HD1 := Lib.hid (HDq.out.below hb1); have HB1 := Lib.hid (bel_trans HBq.out hb1)
          clear hb1 HDq HBq HI HE
          go_wp2_with (at_builtin; refine wp_duo2 w1 _ w.heap.size (j + 1) C _ q (spL p C q) (hor p ((q : Int) + 1) C) _ _ rfl _ _ rfl rfl rfl (by first | rfl | simp) HD1.out (by omega) ?_; intro v9 w9 hd9 hb9)
          go_roundw
          case rel => exact ⟨q + 1, by omega, by first | go_num | (simp; omega), (show Hid _ from by rw [HSS.out]; exact hd9), HB1.out.trans hb9⟩
          case measure => first | (simp [intOf]; done) | (simp [intOf]; omega)
        · obtain rfl : q = n := by omega
          have hqi : ¬ (q : Int) + 1 ≤ (q : Int) := by omega
          obtain ⟨ro, co, rfl, hmo⟩ := Mine.of HDq.out.own2 (by omega) (Res.fits (by omega) (spL_res hp1 C q))
          have HM := Lib.hid hmo; clear hmo HDq
          go_wp2
          go_ret
          exact ⟨_, _, rfl, by rw [← HCC.out]; exact HM.out, HBq.out⟩
set_option maxHeartbeats 4000000 in
theorem s_thSplit (p key v : Int) (n m : Nat) (w : World) (hp : 2 ≤ p ∧ p ≤ 251) (hk : 0 ≤ key ∧ key ≤ 1000000000) (hv : 0 ≤ v ∧ v < p) (hn : n ≤ 200) (hm : m ≤ 200) (t : Int) (ht : t = m + 1) :
    Calls Try.prog 85 #[.int .i64 p, .int .i64 key, .int .i64 v, .int .i64 n, .int .i64 t] w fun e w' => ∃ r c, e = .returned (.slice r n c) ∧ Mine w' w.heap.size r n c (spL p (cfL p key v m) n) ∧ Below w.heap.size w w' := by
  obtain ⟨hp1, hp2⟩ := hp
  have HCR := Lib.hid (fun j => cfL_res (key := key) hp1 hv j)
  have hvf : Fits v := by unfold Fits; omega
  have hkf : Fits key := by unfold Fits; omega
  have HD0 := Lib.hid (World.ownsRow_lit (base := w.heap.size) (e := 3) (size := 1) w #[.int .i64 v] 1 (Nat.le_refl _) (by decide) rfl)
  have HT := Lib.hid ht
  have ht1 : 1 ≤ t ∧ t ≤ 201 := by omega
  clear ht
  go_enter Try.func85, Try.ntmps85
  go_wp2
  go_loopw [11, 12] (fun v1 i W => ∃ j : Nat, j ≤ m ∧ i = .int .i64 ((j : Int) + 1) ∧ Hid (W.ownsRow w.heap.size 3 1 v1 (j + 1) (ivs (cfL p key v j))) ∧ Hid (Below w.heap.size w W)) (fun _ i _ => m + 1 - (intOf i).toNat)
  case atStart => exact ⟨0, by omega, rfl, HD0.out, (show Hid _ from bel_alloc w _)⟩
  case round =>
    obtain ⟨j, hj, rfl, HD, HB⟩ := hrel
    clear HD0
    obtain ⟨wk, rfl⟩ : ∃ wk : World, wk = wr := ⟨_, rfl⟩
    have hz := HB.out.size
    by_cases hlt : j < m
    · have hti : (j : Int) + 1 < t := by rw [HT.out]; omega
      have HN := Lib.hid (s_dgBelow (some ⟨wk.heap.size, 0, none⟩) 3 3 [key, (j : Int) + 1, 14] p _ (Ints.lit3 (w := wk) (m := wk.heap.size) (t := 3) rfl hkf (by unfold Fits; omega) (by unfold Fits; omega)) (by omega) (small14 hk (by omega)) (by omega) (by omega))
      have HCS : Hid (cfL p key v (j + 1) = cfL p key v j ++ [numFrom [key, (j : Int) + 1, 14] p]) := by show _ = _; rfl
      generalize numFrom [key, (j : Int) + 1, 14] p = N at HN HCS
      go_wp2_with fail
      refine HN.out.mono ?_; rintro e w1 ⟨rfl, hb1⟩
      have hbx := bel_trans (bel_alloc wk (.cells #[.int .i64 key, .int .i64 ((j : Int) + 1), .int .i64 14] 3)) hb1
      have HD1 := Lib.hid (ownsRow_below HD.out hbx); have HB1 := Lib.hid (bel_trans HB.out hbx)
      clear hb1 hbx HD HB
      go_wp2_with (at_builtin; refine wp_app w1 w.heap.size (j + 1) _ (cfL p key v j) N _ _ rfl _ _ rfl rfl rfl (by first | rfl | simp) HD1.out HB1.out.size (by omega) ?_; intro v9 w9 hd9 hb9 hg9)
      clear hg9
      go_roundw
      case rel => exact ⟨j + 1, by omega, by first | go_num | (simp; omega), (show Hid _ from by rw [HCS.out]; exact hd9), HB1.out.trans hb9⟩
      case measure => first | (simp [intOf]; done) | (simp [intOf]; omega)
    · obtain rfl : j = m := by omega
      have hti : ¬ (j : Int) + 1 < t := by rw [HT.out]; omega
      obtain ⟨rc, cc, rfl, hoc⟩ := OwnI.of HD.out (by omega) (Res.fits (by omega) (HCR.out j))
      have HCL := Lib.hid (cfL_len p key v j)
      have HCj := Lib.hid (HCR.out j)
      obtain ⟨C, hC⟩ : ∃ C, C = cfL p key v j := ⟨_, rfl⟩
      rw [← hC] at HCL HCj HD
      have hzk := HB.out.size
      have HCC := Lib.hid hC
      clear hoc hC HCR
      have HD2 := Lib.hid (show Duo wk w.heap.size (.slice rc (j + 1) cc) (j + 1) C (.slice none 0 0) 0 [] from ⟨HD.out, World.ownsRow_nil _ _ _ _, fun g _ e2 => (by cases e2), hzk⟩)
      clear HD
      go_wp2
      go_loopw [13, 14] (fun v1 i W => ∃ q : Nat, q ≤ n ∧ i = .int .i64 ((q : Int) + 1) ∧ Hid (Duo W w.heap.size (.slice rc (j + 1) cc) (j + 1) C v1 q (spL p C q)) ∧ Hid (Below w.heap.size w W)) (fun _ i _ => n + 1 - (intOf i).toNat)
      case atStart => exact ⟨0, by omega, rfl, HD2.out, HB.out⟩
      case round =>
        obtain ⟨q, hq, rfl, HDq, HBq⟩ := hrel
        clear HD2 HB
        obtain ⟨wq, rfl⟩ : ∃ wq : World, wq = wr := ⟨_, rfl⟩
        by_cases hqn : q < n
        · have hqi : (q : Int) + 1 ≤ (n : Int) := by omega
          obtain ⟨r9, c9, e9, ho9⟩ := OwnI.of HDq.out.own1 (by omega) (Res.fits (by omega) HCj.out)
          simp only [Value.slice.injEq] at e9
          obtain ⟨rfl, _, rfl⟩ := e9
          have HI := Lib.hid ho9.ints; clear ho9
          have HSS : Hid (spL p C (q + 1) = spL p C q ++ [hor p ((q : Int) + 1) C]) := by show _ = _; rfl
          have HE := Lib.hid (s_fpEval p ((q : Int) + 1) rc (j + 1) cc C wq HI.out ⟨hp1, hp2⟩ (by omega) (fun i hi => by have := HCj.out.at (i := i) (by rw [HCL.out]; exact hi); omega) (by omega))
          go_wp2_with fail
          refine HE.out.mono ?_; rintro e w1 ⟨rfl, hb1⟩
          have HD1 := Lib.hid (HDq.out.below hb1); have HB1 := Lib.hid (bel_trans HBq.out hb1)
          clear hb1 HDq HBq HI HE
          go_wp2_with (at_builtin; refine wp_duo2 w1 _ w.heap.size (j + 1) C _ q (spL p C q) (hor p ((q : Int) + 1) C) _ _ rfl _ _ rfl rfl rfl (by first | rfl | simp) HD1.out (by omega) ?_; intro v9 w9 hd9 hb9)
          go_roundw
          case rel => exact ⟨q + 1, by omega, by first | go_num | (simp; omega), (show Hid _ from by rw [HSS.out]; exact hd9), HB1.out.trans hb9⟩
          case measure => first | (simp [intOf]; done) | (simp [intOf]; omega)
        · obtain rfl : q = n := by omega
          have hqi : ¬ (q : Int) + 1 ≤ (q : Int) := by omega
          obtain ⟨ro, co, rfl, hmo⟩ := Mine.of HDq.out.own2 (by omega) (Res.fits (by omega) (spL_res hp1 C q))
          have HM := Lib.hid hmo; clear hmo HDq
          go_wp2
          go_ret
          exact ⟨_, _, rfl, by rw [← HCC.out]; exact HM.out, HBq.out⟩
end Go.Proofs.Ytfichpppjpgahaa
