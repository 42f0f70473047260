/-
  The walk of the law FnGroups.
-/
import Derived.Test.YtklgneaamhjfpaaGz
import Derived.Test.YtklgneaamhjfpaaGe
import Derived.Test.YtklgneaamhjfpaaGk
import Derived.Test.YtklgneaamhjfpaaGi
namespace Go.Proofs.Ytklgneaamhjfpaa
open Go.RowKit
set_option linter.unusedVariables false
set_option linter.unusedSimpArgs false
set_option maxRecDepth 100000

theorem gf_same {p P Q G P' Q' G' : Int} (h1 : modB p = true → P = p ∧ IsGF p Q G) (h2 : modB p = false → P = 0 ∧ Q = 0 ∧ G = 0)
    (k1 : modB p = true → P' = p ∧ IsGF p Q' G') (k2 : modB p = false → P' = 0 ∧ Q' = 0 ∧ G' = 0) : P = P' ∧ Q = Q' ∧ G = G' := by
  cases h : modB p with
  | false =>
    obtain ⟨a, b, c⟩ := h2 h
    obtain ⟨a', b', c'⟩ := k2 h
    exact ⟨by omega, by omega, by omega⟩
  | true =>
    obtain ⟨a, b⟩ := h1 h
    obtain ⟨a', b'⟩ := k1 h
    obtain ⟨c, d⟩ := b.uniq b'
    exact ⟨by omega, by omega, by omega⟩
theorem gf_gr {p P Q G : Int} (h1 : modB p = true → P = p ∧ IsGF p Q G) (h : modB p = true) : grB P Q G = true := by
  obtain ⟨rfl, b⟩ := h1 h
  exact b.grB h
theorem elOf_len {P Q G : Int} (h : grB P Q G = true) : ((elOf P Q G).length : Int) = Q := by
  obtain ⟨hP, hQ, hG⟩ := grB_lo h
  unfold elOf
  rw [if_pos h, elU_len h]
  omega
set_option maxHeartbeats 8000000 in
theorem law_FnGroups (a0 : Option Addr) (n0 c0 : Nat) (z0 : List Int) (a1 : Option Addr) (n1 c1 : Nat) (z1 : List Int) (w : World) (h0 : BytesIn w a0 n0 c0 z0) (h1 : BytesIn w a1 n1 c1 z1) :
    Calls Try.prog 5 #[.slice a0 n0 c0, .slice a1 n1 c1] w fun e w' => e = .returned (.bool true) ∧ Below w.heap.size w w' := by
  have hn0 := h0.small; have hn1 := h1.small
  have hB : Byts w a1 n1 c1 := h1
  have hA : Byts w a0 n0 c0 := h0
  clear h0 h1
  obtain ⟨G, hG⟩ : ∃ G, IntKind.i64.wrap ((n0 : Int) + (n1 : Int)) = G := ⟨_, rfl⟩
  by_cases hg : 1048576 < G
  · go_enter Try.func5, Try.ntmps5
    go_wp2
    go_ret
    exact ⟨rfl, Below.refl _ _⟩
  go_enter Try.func5, Try.ntmps5
  go_wp2_with fail
  refine (s_DrawLogIn _ _ _ _ hA).mono ?_; rintro e w1 ⟨P, Q, R, a, b, rfl, gd, da, db, hbw1⟩
  replace hB := hB.below hbw1
  replace hA := hA.below hbw1
  have Bw1 := bel_trans (Below.refl w.heap.size w) hbw1
  clear hbw1
  clear hA
  obtain ⟨w1b, hw1b⟩ : ∃ X, X = w1.alloc (.cells #[.int .i64 P, .int .i64 Q, .int .i64 R] 24) := ⟨_, rfl⟩
  have A_ : Below w1.heap.size w1 w1b := by rw [hw1b]; exact bel_alloc _ _
  have ga : Gx w1b w1.heap.size P Q R := by rw [hw1b]; exact Gx.new
  replace hw1b := hw1b.symm
  replace hB := hB.below A_
  have kk_ := ga; obtain ⟨ga0, ga1, ga2⟩ := kk_
  have Bw1b := bel_trans Bw1 A_; clear A_
  go_wp2_with fail
  refine (i_LogIn P Q R a b _).mono ?_; rintro e w2 ⟨m1, rfl, l1, l2, hbw2⟩
  replace hB := hB.below hbw2
  replace ga := ga.on hbw2; clear ga0 ga1 ga2; have kk_ := ga; obtain ⟨ga0, ga1, ga2⟩ := kk_
  have Bw2 := bel_trans Bw1b hbw2
  clear hbw2
  go_wp2_with fail
  refine (s_LogIn P Q R a b _).mono ?_; rintro e w3 ⟨m2, rfl, k1, k2, hbw3⟩
  replace hB := hB.below hbw3
  replace ga := ga.on hbw3; clear ga0 ga1 ga2; have kk_ := ga; obtain ⟨ga0, ga1, ga2⟩ := kk_
  have Bw3 := bel_trans Bw2 hbw3
  clear hbw3
  obtain rfl : m1 = m2 := logRet_eq l1 l2 k1 k2
  have L1 := Lib.hid l1; clear l1 l2 k1 k2
  obtain ⟨X, hX⟩ : ∃ zz_, zz_ = logB P Q R a b := ⟨_, rfl⟩; have HX := Lib.hid hX; clear hX
  rw [← HX.out] at L1 ⊢
  go_wp2_with fail
  refine (s_DrawGroupFor _ _ _ _ hB).mono ?_; rintro e w4 ⟨p, rfl, dp, hbw4⟩
  replace hB := hB.below hbw4
  replace ga := ga.on hbw4; clear ga0 ga1 ga2; have kk_ := ga; obtain ⟨ga0, ga1, ga2⟩ := kk_
  have Bw4 := bel_trans Bw3 hbw4
  clear hbw4
  go_wp2_with fail
  refine (i_GroupFor p _ dp.fits).mono ?_; rintro e w5 ⟨P4, Q4, R4, rfl, f1, f2, hbw5⟩
  replace hB := hB.below hbw5
  replace ga := ga.on hbw5; clear ga0 ga1 ga2; have kk_ := ga; obtain ⟨ga0, ga1, ga2⟩ := kk_
  have Bw5 := bel_trans Bw4 hbw5
  clear hbw5
  obtain ⟨w5b, hw5b⟩ : ∃ X, X = w5.alloc (.cells #[.int .i64 P4, .int .i64 Q4, .int .i64 R4] 24) := ⟨_, rfl⟩
  have A_ : Below w5.heap.size w5 w5b := by rw [hw5b]; exact bel_alloc _ _
  have gb : Gx w5b w5.heap.size P4 Q4 R4 := by rw [hw5b]; exact Gx.new
  replace hw5b := hw5b.symm
  replace hB := hB.below A_
  replace ga := ga.on A_; clear ga0 ga1 ga2; have kk_ := ga; obtain ⟨ga0, ga1, ga2⟩ := kk_
  have kk_ := gb; obtain ⟨gb0, gb1, gb2⟩ := kk_
  have Bw5b := bel_trans Bw5 A_; clear A_
  go_wp2_with fail
  refine (s_GroupFor p _ dp.fits).mono ?_; rintro e w6 ⟨P5, Q5, R5, rfl, f3, f4, hbw6⟩
  replace hB := hB.below hbw6
  replace ga := ga.on hbw6; clear ga0 ga1 ga2; have kk_ := ga; obtain ⟨ga0, ga1, ga2⟩ := kk_
  replace gb := gb.on hbw6; clear gb0 gb1 gb2; have kk_ := gb; obtain ⟨gb0, gb1, gb2⟩ := kk_
  have Bw6 := bel_trans Bw5b hbw6
  clear hbw6
  obtain ⟨q1, q2, q3⟩ := gf_same f1 f2 f3 f4
  subst q1 q2 q3; clear f2 f3 f4
  have GR := Lib.hid (gf_gr f1); clear f1
  obtain ⟨M, hM⟩ : ∃ zz_, zz_ = modB p := ⟨_, rfl⟩; have HM := Lib.hid hM; clear hM
  rw [← HM.out] at GR ⊢
  obtain ⟨w6b, hw6b⟩ : ∃ X, X = w6.alloc (.cells #[.int .i64 P4, .int .i64 Q4, .int .i64 R4] 24) := ⟨_, rfl⟩
  have A_ : Below w6.heap.size w6 w6b := by rw [hw6b]; exact bel_alloc _ _
  have gc : Gx w6b w6.heap.size P4 Q4 R4 := by rw [hw6b]; exact Gx.new
  replace hw6b := hw6b.symm
  replace hB := hB.below A_
  replace ga := ga.on A_; clear ga0 ga1 ga2; have kk_ := ga; obtain ⟨ga0, ga1, ga2⟩ := kk_
  replace gb := gb.on A_; clear gb0 gb1 gb2; have kk_ := gb; obtain ⟨gb0, gb1, gb2⟩ := kk_
  have kk_ := gc; obtain ⟨gc0, gc1, gc2⟩ := kk_
  have Bw6b := bel_trans Bw6 A_; clear A_
  go_wp2_with fail
  refine (s_DrawPowerIn _ _ _ _ hB).mono ?_; rintro e w7 ⟨P3, Q3, R3, u3, e3, rfl, gd3, du3, de3, hbw7⟩
  replace hB := hB.below hbw7
  replace ga := ga.on hbw7; clear ga0 ga1 ga2; have kk_ := ga; obtain ⟨ga0, ga1, ga2⟩ := kk_
  replace gb := gb.on hbw7; clear gb0 gb1 gb2; have kk_ := gb; obtain ⟨gb0, gb1, gb2⟩ := kk_
  replace gc := gc.on hbw7; clear gc0 gc1 gc2; have kk_ := gc; obtain ⟨gc0, gc1, gc2⟩ := kk_
  have Bw7 := bel_trans Bw6b hbw7
  clear hbw7
  clear hB
  obtain ⟨w7b, hw7b⟩ : ∃ X, X = w7.alloc (.cells #[.int .i64 P3, .int .i64 Q3, .int .i64 R3] 24) := ⟨_, rfl⟩
  have A_ : Below w7.heap.size w7 w7b := by rw [hw7b]; exact bel_alloc _ _
  have gx : Gx w7b w7.heap.size P3 Q3 R3 := by rw [hw7b]; exact Gx.new
  replace hw7b := hw7b.symm
  replace ga := ga.on A_; clear ga0 ga1 ga2; have kk_ := ga; obtain ⟨ga0, ga1, ga2⟩ := kk_
  replace gb := gb.on A_; clear gb0 gb1 gb2; have kk_ := gb; obtain ⟨gb0, gb1, gb2⟩ := kk_
  replace gc := gc.on A_; clear gc0 gc1 gc2; have kk_ := gc; obtain ⟨gc0, gc1, gc2⟩ := kk_
  have kk_ := gx; obtain ⟨gx0, gx1, gx2⟩ := kk_
  have Bw7b := bel_trans Bw7 A_; clear A_
  obtain ⟨Z, hZ⟩ : ∃ zz_, zz_ = powIn P3 Q3 R3 u3 e3 := ⟨_, rfl⟩; have HZ := Lib.hid hZ; clear hZ
  go_wp2_with fail
  refine (i_PowerIn _ _ _ _ _ _ de3.fits).mono ?_; rintro e w8 ⟨rfl, hbw8⟩
  replace ga := ga.on hbw8; clear ga0 ga1 ga2; have kk_ := ga; obtain ⟨ga0, ga1, ga2⟩ := kk_
  replace gb := gb.on hbw8; clear gb0 gb1 gb2; have kk_ := gb; obtain ⟨gb0, gb1, gb2⟩ := kk_
  replace gc := gc.on hbw8; clear gc0 gc1 gc2; have kk_ := gc; obtain ⟨gc0, gc1, gc2⟩ := kk_
  replace gx := gx.on hbw8; clear gx0 gx1 gx2; have kk_ := gx; obtain ⟨gx0, gx1, gx2⟩ := kk_
  have Bw8 := bel_trans Bw7b hbw8
  clear hbw8
  rw [← HZ.out]
  go_wp2_with fail
  refine (s_PowerIn _ _ _ _ _ _ de3.fits).mono ?_; rintro e w9 ⟨rfl, hbw9⟩
  replace ga := ga.on hbw9; clear ga0 ga1 ga2; have kk_ := ga; obtain ⟨ga0, ga1, ga2⟩ := kk_
  replace gb := gb.on hbw9; clear gb0 gb1 gb2; have kk_ := gb; obtain ⟨gb0, gb1, gb2⟩ := kk_
  replace gc := gc.on hbw9; clear gc0 gc1 gc2; have kk_ := gc; obtain ⟨gc0, gc1, gc2⟩ := kk_
  replace gx := gx.on hbw9; clear gx0 gx1 gx2; have kk_ := gx; obtain ⟨gx0, gx1, gx2⟩ := kk_
  have Bw9 := bel_trans Bw8 hbw9
  clear hbw9
  rw [← HZ.out]
  obtain ⟨Y, hY⟩ : ∃ zz_, zz_ = grB P Q R := ⟨_, rfl⟩; have HY := Lib.hid hY; clear hY
  cases M with
  | false =>
    have BB := Bw9
    go_wp2_with fail
    refine wp_region_held_drew (S := (fun W => (W.cell? ⟨w1.heap.size, 0, none⟩ = some (.int .i64 P) ∧ W.cell? ⟨w1.heap.size, 1, none⟩ = some (.int .i64 Q) ∧ W.cell? ⟨w1.heap.size, 2, none⟩ = some (.int .i64 R)) ∧ (W.cell? ⟨w5.heap.size, 0, none⟩ = some (.int .i64 P4) ∧ W.cell? ⟨w5.heap.size, 1, none⟩ = some (.int .i64 Q4) ∧ W.cell? ⟨w5.heap.size, 2, none⟩ = some (.int .i64 R4)) ∧ (W.cell? ⟨w6.heap.size, 0, none⟩ = some (.int .i64 P4) ∧ W.cell? ⟨w6.heap.size, 1, none⟩ = some (.int .i64 Q4) ∧ W.cell? ⟨w6.heap.size, 2, none⟩ = some (.int .i64 R4)))) (by kernel_rfl) (by exact ⟨⟨ga0, ga1, ga2⟩, ⟨gb0, gb1, gb2⟩, gc0, gc1, gc2⟩) (fun hHeld => ?_)
    refine wpAnyH_take (i := 0) (oi := ?oi0) (v := ?v0) ?ho0 (by kernel_rfl) (by kernel_rfl) (by kernel_rfl) ?hQ0 ?hy0 hHeld ?hr0
    case ho0 => simp only [List.getElem?_toArray, List.getElem?_cons_succ, List.getElem?_cons_zero]; rfl
    case hQ0 => exact fun _ _ _ h => h
    case hy0 => exact Or.inl ⟨by rfl, by (intro w hSw; go_simp; try with_reducible rfl)⟩
    try simp only [Act.put, List.setIfInBounds_toArray, List.set_cons_zero, List.set_cons_succ]
    refine wpAnyH_take (i := 1) (oi := ?oi1) (v := ?v1) ?ho1 (by kernel_rfl) (by kernel_rfl) (by kernel_rfl) ?hQ1 ?hy1 hHeld ?hr1
    case ho1 => simp only [List.getElem?_toArray, List.getElem?_cons_succ, List.getElem?_cons_zero]; rfl
    case hQ1 => exact fun _ _ _ h => h
    case hy1 => exact Or.inl ⟨by rfl, by (intro w hSw; go_simp; try with_reducible rfl)⟩
    try simp only [Act.put, List.setIfInBounds_toArray, List.set_cons_zero, List.set_cons_succ]
    refine wpAnyH_take (i := 2) (oi := ?oi2) (v := ?v2) ?ho2 (by kernel_rfl) (by kernel_rfl) (by kernel_rfl) ?hQ2 ?hy2 hHeld ?hr2
    case ho2 => simp only [List.getElem?_toArray, List.getElem?_cons_succ, List.getElem?_cons_zero]; rfl
    case hQ2 => exact fun _ _ _ h => h
    case hy2 => exact Or.inl ⟨by rfl, by (intro w hSw; go_simp; try with_reducible rfl)⟩
    try simp only [Act.put, List.setIfInBounds_toArray, List.set_cons_zero, List.set_cons_succ]
    refine wpAnyH_take (i := 3) (oi := ?oi3) (v := ?v3) ?ho3 (by kernel_rfl) (by kernel_rfl) (by kernel_rfl) ?hQ3 ?hy3 hHeld ?hr3
    case ho3 => simp only [List.getElem?_toArray, List.getElem?_cons_succ, List.getElem?_cons_zero]; rfl
    case hQ3 => exact fun _ _ _ h => h
    case hy3 => exact Or.inl ⟨by rfl, by (intro w hSw; go_simp; try with_reducible rfl)⟩
    try simp only [Act.put, List.setIfInBounds_toArray, List.set_cons_zero, List.set_cons_succ]
    refine wpAnyH_take (i := 4) (oi := ?oi4) (v := ?v4) ?ho4 (by kernel_rfl) (by kernel_rfl) (by kernel_rfl) ?hQ4 ?hy4 hHeld ?hr4
    case ho4 => simp only [List.getElem?_toArray, List.getElem?_cons_succ, List.getElem?_cons_zero]; rfl
    case hQ4 => exact fun _ _ _ h => h
    case hy4 => exact Or.inl ⟨by rfl, by (intro w hSw; go_simp; try with_reducible rfl)⟩
    try simp only [Act.put, List.setIfInBounds_toArray, List.set_cons_zero, List.set_cons_succ]
    refine wpAnyH_take (i := 5) (oi := ?oi5) (v := ?v5) ?ho5 (by kernel_rfl) (by kernel_rfl) (by kernel_rfl) ?hQ5 ?hy5 hHeld ?hr5
    case ho5 => simp only [List.getElem?_toArray, List.getElem?_cons_succ, List.getElem?_cons_zero]; rfl
    case hQ5 => exact fun _ _ _ h => h
    case hy5 => exact Or.inl ⟨by rfl, by (intro w hSw; go_simp; try with_reducible rfl)⟩
    try simp only [Act.put, List.setIfInBounds_toArray, List.set_cons_zero, List.set_cons_succ]
    refine wpAnyH_take (i := 6) (oi := ?oi6) (v := ?v6) ?ho6 (by kernel_rfl) (by kernel_rfl) (by kernel_rfl) ?hQ6 ?hy6 hHeld ?hr6
    case ho6 => simp only [List.getElem?_toArray, List.getElem?_cons_succ, List.getElem?_cons_zero]; rfl
    case hQ6 => exact fun _ _ _ h => h
    case hy6 => exact Or.inl ⟨by rfl, by (intro w hSw; go_simp; try with_reducible rfl)⟩
    try simp only [Act.put, List.setIfInBounds_toArray, List.set_cons_zero, List.set_cons_succ]
    refine wpAnyH_take (i := 7) (oi := ?oi7) (v := ?v7) ?ho7 (by kernel_rfl) (by kernel_rfl) (by kernel_rfl) ?hQ7 ?hy7 hHeld ?hr7
    case ho7 => simp only [List.getElem?_toArray, List.getElem?_cons_succ, List.getElem?_cons_zero]; rfl
    case hQ7 => exact fun _ _ _ h => h
    case hy7 => exact Or.inl ⟨by rfl, by (intro w hSw; go_simp; try with_reducible rfl)⟩
    try simp only [Act.put, List.setIfInBounds_toArray, List.set_cons_zero, List.set_cons_succ]
    refine wpAnyH_take (i := 8) (oi := ?oi8) (v := ?v8) ?ho8 (by kernel_rfl) (by kernel_rfl) (by kernel_rfl) ?hQ8 ?hy8 hHeld ?hr8
    case ho8 => simp only [List.getElem?_toArray, List.getElem?_cons_succ, List.getElem?_cons_zero]; rfl
    case hQ8 => exact fun _ _ _ h => h
    case hy8 => exact Or.inl ⟨by rfl, by (intro w hSw; go_simp; try with_reducible rfl)⟩
    try simp only [Act.put, List.setIfInBounds_toArray, List.set_cons_zero, List.set_cons_succ]
    refine wpAnyH_take (i := 9) (oi := ?oi9) (v := ?v9) ?ho9 (by kernel_rfl) (by kernel_rfl) (by kernel_rfl) ?hQ9 ?hy9 hHeld ?hr9
    case ho9 => simp only [List.getElem?_toArray, List.getElem?_cons_succ, List.getElem?_cons_zero]; rfl
    case hQ9 => exact fun _ _ _ h => h
    case hy9 => exact Or.inl ⟨by rfl, by (intro w hSw; go_simp; try with_reducible rfl)⟩
    try simp only [Act.put, List.setIfInBounds_toArray, List.set_cons_zero, List.set_cons_succ]
    refine wpAnyH_take (i := 10) (oi := ?oi10) (v := ?v10) ?ho10 (by kernel_rfl) (by kernel_rfl) (by kernel_rfl) ?hQ10 ?hy10 hHeld ?hr10
    case ho10 => simp only [List.getElem?_toArray, List.getElem?_cons_succ, List.getElem?_cons_zero]; rfl
    case hQ10 => exact fun _ _ _ h => h
    case hy10 => exact Or.inl ⟨by rfl, by (intro w hSw; go_simp; try with_reducible rfl)⟩
    try simp only [Act.put, List.setIfInBounds_toArray, List.set_cons_zero, List.set_cons_succ]
    refine wpAnyH_take (i := 11) (oi := ?oi11) (v := ?v11) ?ho11 (by kernel_rfl) (by kernel_rfl) (by kernel_rfl) ?hQ11 ?hy11 hHeld ?hr11
    case ho11 => simp only [List.getElem?_toArray, List.getElem?_cons_succ, List.getElem?_cons_zero]; rfl
    case hQ11 => exact fun _ _ _ h => h
    case hy11 => exact Or.inl ⟨by rfl, by (intro w hSw; go_simp; try with_reducible rfl)⟩
    try simp only [Act.put, List.setIfInBounds_toArray, List.set_cons_zero, List.set_cons_succ]
    refine wpAnyH_take (i := 12) (oi := ?oi12) (v := ?v12) ?ho12 (by kernel_rfl) (by kernel_rfl) (by kernel_rfl) ?hQ12 ?hy12 hHeld ?hr12
    case ho12 => simp only [List.getElem?_toArray, List.getElem?_cons_succ, List.getElem?_cons_zero]; rfl
    case hQ12 => exact fun _ _ _ h => h
    case hy12 => exact Or.inl ⟨by rfl, by (intro w hSw; go_simp; try with_reducible rfl)⟩
    try simp only [Act.put, List.setIfInBounds_toArray, List.set_cons_zero, List.set_cons_succ]
    refine wpAnyH_take (i := 13) (oi := ?oi13) (v := ?v13) ?ho13 (by kernel_rfl) (by kernel_rfl) (by kernel_rfl) ?hQ13 ?hy13 hHeld ?hr13
    case ho13 => simp only [List.getElem?_toArray, List.getElem?_cons_succ, List.getElem?_cons_zero]; rfl
    case hQ13 => exact fun _ _ _ h => h
    case hy13 => exact Or.inl ⟨by rfl, by (intro w hSw; go_simp; try with_reducible rfl)⟩
    try simp only [Act.put, List.setIfInBounds_toArray, List.set_cons_zero, List.set_cons_succ]
    refine wpAnyH_take (i := 14) (oi := ?oi14) (v := ?v14) ?ho14 (by kernel_rfl) (by kernel_rfl) (by kernel_rfl) ?hQ14 ?hy14 hHeld ?hr14
    case ho14 => simp only [List.getElem?_toArray, List.getElem?_cons_succ, List.getElem?_cons_zero]; rfl
    case hQ14 => exact fun _ _ _ h => h
    case hy14 => exact Or.inl ⟨by rfl, by (intro w hSw; go_simp; try with_reducible rfl)⟩
    try simp only [Act.put, List.setIfInBounds_toArray, List.set_cons_zero, List.set_cons_succ]
    refine wpAnyH_take (i := 15) (oi := ?oi15) (v := ?v15) ?ho15 (by kernel_rfl) (by kernel_rfl) (by kernel_rfl) ?hQ15 ?hy15 hHeld ?hr15
    case ho15 => simp only [List.getElem?_toArray, List.getElem?_cons_succ, List.getElem?_cons_zero]; rfl
    case hQ15 => exact fun _ _ _ h => h
    case hy15 => exact Or.inl ⟨by rfl, by (intro w hSw; go_simp; try with_reducible rfl)⟩
    try simp only [Act.put, List.setIfInBounds_toArray, List.set_cons_zero, List.set_cons_succ]
    refine wpAnyH_take (i := 16) (oi := ?oi16) (v := ?v16) ?ho16 (by kernel_rfl) (by kernel_rfl) (by kernel_rfl) ?hQ16 ?hy16 hHeld ?hr16
    case ho16 => simp only [List.getElem?_toArray, List.getElem?_cons_succ, List.getElem?_cons_zero]; rfl
    case hQ16 => exact fun _ _ _ h => h
    case hy16 => exact Or.inl ⟨by rfl, by (intro w hSw; go_simp; try with_reducible rfl)⟩
    try simp only [Act.put, List.setIfInBounds_toArray, List.set_cons_zero, List.set_cons_succ]
    refine wpAnyH_take (i := 17) (oi := ?oi17) (v := ?v17) ?ho17 (by kernel_rfl) (by kernel_rfl) (by kernel_rfl) ?hQ17 ?hy17 hHeld ?hr17
    case ho17 => simp only [List.getElem?_toArray, List.getElem?_cons_succ, List.getElem?_cons_zero]; rfl
    case hQ17 => exact fun _ _ _ h => h
    case hy17 => exact Or.inl ⟨by rfl, by (intro w hSw; go_simp; try with_reducible rfl)⟩
    try simp only [Act.put, List.setIfInBounds_toArray, List.set_cons_zero, List.set_cons_succ]
    refine wpAnyH_take (i := 18) (oi := ?oi18) (v := ?v18) ?ho18 (by kernel_rfl) (by kernel_rfl) (by kernel_rfl) ?hQ18 ?hy18 hHeld ?hr18
    case ho18 => simp only [List.getElem?_toArray, List.getElem?_cons_succ, List.getElem?_cons_zero]; rfl
    case hQ18 => exact fun _ _ _ h => h
    case hy18 => exact Or.inl ⟨by rfl, by (intro w hSw; go_simp; try with_reducible rfl)⟩
    try simp only [Act.put, List.setIfInBounds_toArray, List.set_cons_zero, List.set_cons_succ]
    refine wpAnyH_take (i := 19) (oi := ?oi19) (v := ?v19) ?ho19 (by kernel_rfl) (by kernel_rfl) (by kernel_rfl) ?hQ19 ?hy19 hHeld ?hr19
    case ho19 => simp only [List.getElem?_toArray, List.getElem?_cons_succ, List.getElem?_cons_zero]; rfl
    case hQ19 => exact fun _ _ _ h => h
    case hy19 => exact Or.inl ⟨by rfl, by (intro w hSw; go_simp; try with_reducible rfl)⟩
    try simp only [Act.put, List.setIfInBounds_toArray, List.set_cons_zero, List.set_cons_succ]
    refine wpAnyH_take (i := 20) (oi := ?oi20) (v := ?v20) ?ho20 (by kernel_rfl) (by kernel_rfl) (by kernel_rfl) ?hQ20 ?hy20 hHeld ?hr20
    case ho20 => simp only [List.getElem?_toArray, List.getElem?_cons_succ, List.getElem?_cons_zero]; rfl
    case hQ20 => exact fun _ _ _ h => h
    case hy20 => exact Or.inl ⟨by rfl, by (intro w hSw; go_simp; try with_reducible rfl)⟩
    try simp only [Act.put, List.setIfInBounds_toArray, List.set_cons_zero, List.set_cons_succ]
    refine wpAnyH_take (i := 21) (oi := ?oi21) (v := ?v21) ?ho21 (by kernel_rfl) (by kernel_rfl) (by kernel_rfl) ?hQ21 ?hy21 hHeld ?hr21
    case ho21 => simp only [List.getElem?_toArray, List.getElem?_cons_succ, List.getElem?_cons_zero]; rfl
    case hQ21 => exact fun _ _ _ h => h
    case hy21 => exact Or.inl ⟨by rfl, by (intro w hSw; go_simp; try with_reducible rfl)⟩
    try simp only [Act.put, List.setIfInBounds_toArray, List.set_cons_zero, List.set_cons_succ]
    refine wpAnyH_take (i := 22) (oi := ?oi22) (v := ?v22) ?ho22 (by kernel_rfl) (by kernel_rfl) (by kernel_rfl) ?hQ22 ?hy22 hHeld ?hr22
    case ho22 => simp only [List.getElem?_toArray, List.getElem?_cons_succ, List.getElem?_cons_zero]; rfl
    case hQ22 => exact fun _ _ _ h => h
    case hy22 => exact Or.inl ⟨by rfl, by (intro w hSw; go_simp; try with_reducible rfl)⟩
    try simp only [Act.put, List.setIfInBounds_toArray, List.set_cons_zero, List.set_cons_succ]
    refine wpAnyH_take (i := 23) (oi := ?oi23) (v := ?v23) ?ho23 (by kernel_rfl) (by kernel_rfl) (by kernel_rfl) ?hQ23 ?hy23 hHeld ?hr23
    case ho23 => simp only [List.getElem?_toArray, List.getElem?_cons_succ, List.getElem?_cons_zero]; rfl
    case hQ23 => exact fun _ _ _ h => h
    case hy23 => exact Or.inl ⟨by rfl, by (intro w hSw; go_simp; try with_reducible rfl)⟩
    try simp only [Act.put, List.setIfInBounds_toArray, List.set_cons_zero, List.set_cons_succ]
    refine wpAnyH_take (i := 24) (oi := ?oi24) (v := ?v24) ?ho24 (by kernel_rfl) (by kernel_rfl) (by kernel_rfl) ?hQ24 ?hy24 hHeld ?hr24
    case ho24 => simp only [List.getElem?_toArray, List.getElem?_cons_succ, List.getElem?_cons_zero]; rfl
    case hQ24 => exact fun _ _ _ h => h
    case hy24 => exact Or.inl ⟨by rfl, by (intro w hSw; go_simp; try with_reducible rfl)⟩
    try simp only [Act.put, List.setIfInBounds_toArray, List.set_cons_zero, List.set_cons_succ]
    refine wpAnyH_take (i := 25) (oi := ?oi25) (v := ?v25) ?ho25 (by kernel_rfl) (by kernel_rfl) (by kernel_rfl) ?hQ25 ?hy25 hHeld ?hr25
    case ho25 => simp only [List.getElem?_toArray, List.getElem?_cons_succ, List.getElem?_cons_zero]; rfl
    case hQ25 => exact fun _ _ _ h => h
    case hy25 => exact Or.inl ⟨by rfl, by (intro w hSw; go_simp; try with_reducible rfl)⟩
    try simp only [Act.put, List.setIfInBounds_toArray, List.set_cons_zero, List.set_cons_succ]
    refine wpAnyH_take (i := 26) (oi := ?oi26) (v := ?v26) ?ho26 (by kernel_rfl) (by kernel_rfl) (by kernel_rfl) ?hQ26 ?hy26 hHeld ?hr26
    case ho26 => simp only [List.getElem?_toArray, List.getElem?_cons_succ, List.getElem?_cons_zero]; rfl
    case hQ26 => exact fun _ _ _ h => h
    case hy26 => exact Or.inl ⟨by rfl, by (intro w hSw; go_simp; try with_reducible rfl)⟩
    try simp only [Act.put, List.setIfInBounds_toArray, List.set_cons_zero, List.set_cons_succ]
    refine wpAnyH_take (i := 27) (oi := ?oi27) (v := ?v27) ?ho27 (by kernel_rfl) (by kernel_rfl) (by kernel_rfl) ?hQ27 ?hy27 hHeld ?hr27
    case ho27 => simp only [List.getElem?_toArray, List.getElem?_cons_succ, List.getElem?_cons_zero]; rfl
    case hQ27 => exact fun _ _ _ h => h
    case hy27 => exact Or.inl ⟨by rfl, by (intro w hSw; go_simp; try with_reducible rfl)⟩
    try simp only [Act.put, List.setIfInBounds_toArray, List.set_cons_zero, List.set_cons_succ]
    refine wpAnyH_take (i := 28) (oi := ?oi28) (v := ?v28) ?ho28 (by kernel_rfl) (by kernel_rfl) (by kernel_rfl) ?hQ28 ?hy28 hHeld ?hr28
    case ho28 => simp only [List.getElem?_toArray, List.getElem?_cons_succ, List.getElem?_cons_zero]; rfl
    case hQ28 => exact fun _ _ _ h => h
    case hy28 => exact Or.inl ⟨by rfl, by (intro w hSw; go_simp; try with_reducible rfl)⟩
    try simp only [Act.put, List.setIfInBounds_toArray, List.set_cons_zero, List.set_cons_succ]
    refine wpAnyH_take (i := 29) (oi := ?oi29) (v := ?v29) ?ho29 (by kernel_rfl) (by kernel_rfl) (by kernel_rfl) ?hQ29 ?hy29 hHeld ?hr29
    case ho29 => simp only [List.getElem?_toArray, List.getElem?_cons_succ, List.getElem?_cons_zero]; rfl
    case hQ29 => exact fun _ _ _ h => h
    case hy29 => exact Or.inl ⟨by rfl, by (intro w hSw; go_simp; try with_reducible rfl)⟩
    try simp only [Act.put, List.setIfInBounds_toArray, List.set_cons_zero, List.set_cons_succ]
    refine wpAnyH_take (i := 30) (oi := ?oi30) (v := ?v30) ?ho30 (by kernel_rfl) (by kernel_rfl) (by kernel_rfl) ?hQ30 ?hy30 hHeld ?hr30
    case ho30 => simp only [List.getElem?_toArray, List.getElem?_cons_succ, List.getElem?_cons_zero]; rfl
    case hQ30 => exact fun _ _ _ h => h
    case hy30 => exact Or.inl ⟨by rfl, by (intro w hSw; go_simp; try with_reducible rfl)⟩
    try simp only [Act.put, List.setIfInBounds_toArray, List.set_cons_zero, List.set_cons_succ]
    refine wpAnyH_take (i := 31) (oi := ?oi31) (v := undef) ?ho31 (by kernel_rfl) (by kernel_rfl) (by kernel_rfl) ?hQ31 ?hy31 hHeld ?hr31
    case ho31 => simp only [List.getElem?_toArray, List.getElem?_cons_succ, List.getElem?_cons_zero]; rfl
    case hQ31 => exact fun _ _ _ h => h
    case hy31 => exact Or.inr ⟨by rfl, rfl⟩
    try simp only [Act.put, List.setIfInBounds_toArray, List.set_cons_zero, List.set_cons_succ]
    refine wpAnyH_take (i := 32) (oi := ?oi32) (v := undef) ?ho32 (by kernel_rfl) (by kernel_rfl) (by kernel_rfl) ?hQ32 ?hy32 hHeld ?hr32
    case ho32 => simp only [List.getElem?_toArray, List.getElem?_cons_succ, List.getElem?_cons_zero]; rfl
    case hQ32 => exact fun _ _ _ h => h
    case hy32 => exact Or.inr ⟨by rfl, rfl⟩
    try simp only [Act.put, List.setIfInBounds_toArray, List.set_cons_zero, List.set_cons_succ]
    refine wpAnyH_take (i := 33) (oi := ?oi33) (v := undef) ?ho33 (by kernel_rfl) (by kernel_rfl) (by kernel_rfl) ?hQ33 ?hy33 hHeld ?hr33
    case ho33 => simp only [List.getElem?_toArray, List.getElem?_cons_succ, List.getElem?_cons_zero]; rfl
    case hQ33 => exact fun _ _ _ h => h
    case hy33 => exact Or.inr ⟨by rfl, rfl⟩
    try simp only [Act.put, List.setIfInBounds_toArray, List.set_cons_zero, List.set_cons_succ]
    refine wpAnyH_take (i := 34) (oi := ?oi34) (v := ?v34) ?ho34 (by kernel_rfl) (by kernel_rfl) (by kernel_rfl) ?hQ34 ?hy34 hHeld ?hr34
    case ho34 => simp only [List.getElem?_toArray, List.getElem?_cons_succ, List.getElem?_cons_zero]; rfl
    case hQ34 => exact fun _ _ _ h => h
    case hy34 => exact Or.inl ⟨by rfl, by (intro w hSw; go_simp; try with_reducible rfl)⟩
    try simp only [Act.put, List.setIfInBounds_toArray, List.set_cons_zero, List.set_cons_succ]
    refine wpAnyH_take (i := 35) (oi := ?oi35) (v := ?v35) ?ho35 (by kernel_rfl) (by kernel_rfl) (by kernel_rfl) ?hQ35 ?hy35 hHeld ?hr35
    case ho35 => simp only [List.getElem?_toArray, List.getElem?_cons_succ, List.getElem?_cons_zero]; rfl
    case hQ35 => exact fun _ _ _ h => h
    case hy35 => exact Or.inl ⟨by rfl, by (intro w hSw; go_simp; try with_reducible rfl)⟩
    try simp only [Act.put, List.setIfInBounds_toArray, List.set_cons_zero, List.set_cons_succ]
    refine wpAnyH_take (i := 36) (oi := ?oi36) (v := ?v36) ?ho36 (by kernel_rfl) (by kernel_rfl) (by kernel_rfl) ?hQ36 ?hy36 hHeld ?hr36
    case ho36 => simp only [List.getElem?_toArray, List.getElem?_cons_succ, List.getElem?_cons_zero]; rfl
    case hQ36 => exact fun _ _ _ h => h
    case hy36 => exact Or.inl ⟨by rfl, by (intro w hSw; go_simp; try with_reducible rfl)⟩
    try simp only [Act.put, List.setIfInBounds_toArray, List.set_cons_zero, List.set_cons_succ]
    refine wpAnyH_take (i := 37) (oi := ?oi37) (v := ?v37) ?ho37 (by kernel_rfl) (by kernel_rfl) (by kernel_rfl) ?hQ37 ?hy37 hHeld ?hr37
    case ho37 => simp only [List.getElem?_toArray, List.getElem?_cons_succ, List.getElem?_cons_zero]; rfl
    case hQ37 => exact fun _ _ _ h => h
    case hy37 => exact Or.inl ⟨by rfl, by (intro w hSw; go_simp; try with_reducible rfl)⟩
    try simp only [Act.put, List.setIfInBounds_toArray, List.set_cons_zero, List.set_cons_succ]
    refine wpAnyH_take (i := 39) (oi := ?oi39) (v := ?v39) ?ho39 (by kernel_rfl) (by kernel_rfl) (by kernel_rfl) ?hQ39 ?hy39 hHeld ?hr39
    case ho39 => simp only [List.getElem?_toArray, List.getElem?_cons_succ, List.getElem?_cons_zero]; rfl
    case hQ39 => exact fun _ _ _ h => h
    case hy39 => exact Or.inl ⟨by rfl, by (intro w hSw; go_simp; try with_reducible rfl)⟩
    try simp only [Act.put, List.setIfInBounds_toArray, List.set_cons_zero, List.set_cons_succ]
    refine wpAnyH_ready (rs := [38]) (by kernel_rfl) (by simp) ?_
    refine AllReadyH.cons (o := ?o38) ?ho38 (fun K hK => ?hs38) AllReadyH.nil
    case ho38 => simp only [List.getElem?_toArray, List.getElem?_cons_succ, List.getElem?_cons_zero]; rfl
    go_simp
    (go_at_call 42; refine (i_IsGroup P Q R _).mono ?_; rintro e wq2 ⟨rfl, hb2⟩; rw [← HY.out]; (first | (have hb3 := bel_trans (bel_drew _) hb2) | (have hb3 := hb2)); have ga := ga.on hb3; have kk_ := ga; obtain ⟨ga0, ga1, ga2⟩ := kk_; have gb := gb.on hb3; have kk_ := gb; obtain ⟨gb0, gb1, gb2⟩ := kk_; have gc := gc.on hb3; have kk_ := gc; obtain ⟨gc0, gc1, gc2⟩ := kk_; have gx := gx.on hb3; have kk_ := gx; obtain ⟨gx0, gx1, gx2⟩ := kk_; have BB := bel_trans BB hb3; clear hb2 hb3)
    refine hK.out _ _ ?hS38 (fun hHeld => ?hr38)
    case hS38 => exact ⟨⟨ga0, ga1, ga2⟩, ⟨gb0, gb1, gb2⟩, gc0, gc1, gc2⟩
    clear hK K
    try simp only [Act.put, List.setIfInBounds_toArray, List.set_cons_zero, List.set_cons_succ]
    refine wpAnyH_ready (rs := [40]) (by kernel_rfl) (by simp) ?_
    refine AllReadyH.cons (o := ?o40) ?ho40 (fun K hK => ?hs40) AllReadyH.nil
    case ho40 => simp only [List.getElem?_toArray, List.getElem?_cons_succ, List.getElem?_cons_zero]; rfl
    go_simp
    (go_at_call 43; refine (s_IsGroup P Q R _).mono ?_; rintro e wq3 ⟨rfl, hb2⟩; rw [← HY.out]; (first | (have hb3 := bel_trans (bel_drew _) hb2) | (have hb3 := hb2)); have ga := ga.on hb3; have kk_ := ga; obtain ⟨ga0, ga1, ga2⟩ := kk_; have gb := gb.on hb3; have kk_ := gb; obtain ⟨gb0, gb1, gb2⟩ := kk_; have gc := gc.on hb3; have kk_ := gc; obtain ⟨gc0, gc1, gc2⟩ := kk_; have gx := gx.on hb3; have kk_ := gx; obtain ⟨gx0, gx1, gx2⟩ := kk_; have BB := bel_trans BB hb3; clear hb2 hb3)
    refine hK.out _ _ ?hS40 (fun hHeld => ?hr40)
    case hS40 => exact ⟨⟨ga0, ga1, ga2⟩, ⟨gb0, gb1, gb2⟩, gc0, gc1, gc2⟩
    clear hK K
    try simp only [Act.put, List.setIfInBounds_toArray, List.set_cons_zero, List.set_cons_succ]
    refine wpAnyH_take (i := 41) (oi := ?oi41) (v := ?v41) ?ho41 (by kernel_rfl) (by kernel_rfl) (by kernel_rfl) ?hQ41 ?hy41 hHeld ?hr41
    case ho41 => simp only [List.getElem?_toArray, List.getElem?_cons_succ, List.getElem?_cons_zero]; rfl
    case hQ41 => exact fun _ _ _ h => h
    case hy41 => exact Or.inl ⟨by rfl, by (intro w hSw; go_simp; try with_reducible rfl)⟩
    try simp only [Act.put, List.setIfInBounds_toArray, List.set_cons_zero, List.set_cons_succ]
    refine wpAnyH_take (i := 42) (oi := ?oi42) (v := ?v42) ?ho42 (by kernel_rfl) (by kernel_rfl) (by kernel_rfl) ?hQ42 ?hy42 hHeld ?hr42
    case ho42 => simp only [List.getElem?_toArray, List.getElem?_cons_succ, List.getElem?_cons_zero]; rfl
    case hQ42 => exact fun _ _ _ h => h
    case hy42 => exact Or.inl ⟨by rfl, by (intro w hSw; go_simp; try with_reducible rfl)⟩
    try simp only [Act.put, List.setIfInBounds_toArray, List.set_cons_zero, List.set_cons_succ]
    refine wpAnyH_done (by kernel_rfl) ?_ _
    cases hz2 : Z.2 with
    | false =>
      cases X with
      | false =>
        go_wp2
        go_ret
        exact ⟨by first | rfl | simp, BB⟩
      | true =>
        obtain ⟨e1, e2, e3_, e4, e5, e6⟩ := log_law (n := m1) HX.out.symm (L1.out rfl).1 (L1.out rfl).2
        obtain ⟨y, ey⟩ : ∃ y, prodIn P Q R a b = (y, true) := ⟨(prodIn P Q R a b).1, by rw [← e3_]⟩
        rw [ey] at e4; have e4b : hasB P Q y = true := (Bool.and_eq_true_iff.1 e4).2
        have hQl : (m1 : Int) < Q := e2
        have fm : Fits (m1 : Int) := by unfold Fits; omega
        have E1 := Lib.hid e1; have E3 := Lib.hid ey; have E4 := Lib.hid e4b; have E5 := Lib.hid e5; clear e1 ey e3_ e4 e4b e5
        go_wp2_with fail
        refine (i_PowerIn P Q R a m1 _ fm).mono ?_; rintro e w10 ⟨rfl, hbw10⟩
        replace ga := ga.on hbw10; clear ga0 ga1 ga2; have kk_ := ga; obtain ⟨ga0, ga1, ga2⟩ := kk_
        replace gb := gb.on hbw10; clear gb0 gb1 gb2; have kk_ := gb; obtain ⟨gb0, gb1, gb2⟩ := kk_
        replace gc := gc.on hbw10; clear gc0 gc1 gc2; have kk_ := gc; obtain ⟨gc0, gc1, gc2⟩ := kk_
        replace gx := gx.on hbw10; clear gx0 gx1 gx2; have kk_ := gx; obtain ⟨gx0, gx1, gx2⟩ := kk_
        have Bw10 := bel_trans BB hbw10
        clear hbw10
        rw [E1.out]
        go_wp2_with fail
        refine (i_ProductIn P Q R a b _).mono ?_; rintro e w11 ⟨rfl, hbw11⟩
        replace ga := ga.on hbw11; clear ga0 ga1 ga2; have kk_ := ga; obtain ⟨ga0, ga1, ga2⟩ := kk_
        replace gb := gb.on hbw11; clear gb0 gb1 gb2; have kk_ := gb; obtain ⟨gb0, gb1, gb2⟩ := kk_
        replace gc := gc.on hbw11; clear gc0 gc1 gc2; have kk_ := gc; obtain ⟨gc0, gc1, gc2⟩ := kk_
        replace gx := gx.on hbw11; clear gx0 gx1 gx2; have kk_ := gx; obtain ⟨gx0, gx1, gx2⟩ := kk_
        have Bw11 := bel_trans Bw10 hbw11
        clear hbw11
        rw [E3.out]
        go_wp2_with fail
        refine (s_ProductIn P Q R a b _).mono ?_; rintro e w12 ⟨rfl, hbw12⟩
        replace ga := ga.on hbw12; clear ga0 ga1 ga2; have kk_ := ga; obtain ⟨ga0, ga1, ga2⟩ := kk_
        replace gb := gb.on hbw12; clear gb0 gb1 gb2; have kk_ := gb; obtain ⟨gb0, gb1, gb2⟩ := kk_
        replace gc := gc.on hbw12; clear gc0 gc1 gc2; have kk_ := gc; obtain ⟨gc0, gc1, gc2⟩ := kk_
        replace gx := gx.on hbw12; clear gx0 gx1 gx2; have kk_ := gx; obtain ⟨gx0, gx1, gx2⟩ := kk_
        have Bw12 := bel_trans Bw11 hbw12
        clear hbw12
        rw [E3.out]
        go_wp2_with fail
        refine (i_IsElement P Q R y _).mono ?_; rintro e w13 ⟨rfl, hbw13⟩
        replace ga := ga.on hbw13; clear ga0 ga1 ga2; have kk_ := ga; obtain ⟨ga0, ga1, ga2⟩ := kk_
        replace gb := gb.on hbw13; clear gb0 gb1 gb2; have kk_ := gb; obtain ⟨gb0, gb1, gb2⟩ := kk_
        replace gc := gc.on hbw13; clear gc0 gc1 gc2; have kk_ := gc; obtain ⟨gc0, gc1, gc2⟩ := kk_
        replace gx := gx.on hbw13; clear gx0 gx1 gx2; have kk_ := gx; obtain ⟨gx0, gx1, gx2⟩ := kk_
        have Bw13 := bel_trans Bw12 hbw13
        clear hbw13
        rw [E5.out, E4.out]
        go_wp2
        go_ret
        exact ⟨by first | rfl | simp, Bw13⟩
    | true =>
      obtain ⟨p1, p2, o, p3, o1, o2, p4⟩ := pow_law (P := P3) (Q := Q3) (G := R3) (a := u3) (n := e3) (by rw [← HZ.out]; exact hz2)
      have zb := powIn_bd (P := P3) (Q := Q3) (G := R3) (a := u3) (n := e3)
      rw [← HZ.out] at p1 p2 zb
      have dee := de3; unfold Dv at dee; obtain ⟨dee1, dee2⟩ := dee
      have en : IntKind.i64.wrap (-e3) = -e3 := IntWalk.i64_in _ (by omega)
      obtain ⟨V, hV⟩ : ∃ V, V = invIn P3 Q3 R3 Z.1 := ⟨_, rfl⟩; have HV := Lib.hid hV; clear hV
      rw [← HV.out] at p1 p2
      have Q1 := Lib.hid p1; have Q2 := Lib.hid p2; have Q3_ := Lib.hid p3; have Q4_ := Lib.hid p4; clear p1 p2 p3 p4
      have ob1 : ¬ o < 1 := by omega
      have ob2 : ¬ 2003 < o := by omega
      go_wp2_with fail
      refine (i_PowerIn P3 Q3 R3 u3 (-e3) _ (by unfold Fits; omega)).mono ?_; rintro e w10 ⟨rfl, hbw10⟩
      replace ga := ga.on hbw10; clear ga0 ga1 ga2; have kk_ := ga; obtain ⟨ga0, ga1, ga2⟩ := kk_
      replace gb := gb.on hbw10; clear gb0 gb1 gb2; have kk_ := gb; obtain ⟨gb0, gb1, gb2⟩ := kk_
      replace gc := gc.on hbw10; clear gc0 gc1 gc2; have kk_ := gc; obtain ⟨gc0, gc1, gc2⟩ := kk_
      replace gx := gx.on hbw10; clear gx0 gx1 gx2; have kk_ := gx; obtain ⟨gx0, gx1, gx2⟩ := kk_
      have Bw10 := bel_trans BB hbw10
      clear hbw10
      rw [Q1.out]
      go_wp2_with fail
      refine (i_InverseIn P3 Q3 R3 Z.1 _).mono ?_; rintro e w11 ⟨rfl, hbw11⟩
      replace ga := ga.on hbw11; clear ga0 ga1 ga2; have kk_ := ga; obtain ⟨ga0, ga1, ga2⟩ := kk_
      replace gb := gb.on hbw11; clear gb0 gb1 gb2; have kk_ := gb; obtain ⟨gb0, gb1, gb2⟩ := kk_
      replace gc := gc.on hbw11; clear gc0 gc1 gc2; have kk_ := gc; obtain ⟨gc0, gc1, gc2⟩ := kk_
      replace gx := gx.on hbw11; clear gx0 gx1 gx2; have kk_ := gx; obtain ⟨gx0, gx1, gx2⟩ := kk_
      have Bw11 := bel_trans Bw10 hbw11
      clear hbw11
      rw [← HV.out, Q2.out]
      go_wp2_with fail
      refine (i_OrderOf P3 Q3 R3 u3 _).mono ?_; rintro e w12 ⟨rfl, hbw12⟩
      replace ga := ga.on hbw12; clear ga0 ga1 ga2; have kk_ := ga; obtain ⟨ga0, ga1, ga2⟩ := kk_
      replace gb := gb.on hbw12; clear gb0 gb1 gb2; have kk_ := gb; obtain ⟨gb0, gb1, gb2⟩ := kk_
      replace gc := gc.on hbw12; clear gc0 gc1 gc2; have kk_ := gc; obtain ⟨gc0, gc1, gc2⟩ := kk_
      replace gx := gx.on hbw12; clear gx0 gx1 gx2; have kk_ := gx; obtain ⟨gx0, gx1, gx2⟩ := kk_
      have Bw12 := bel_trans Bw11 hbw12
      clear hbw12
      rw [Q3_.out]
      go_wp2_with fail
      refine (i_PowerIn P3 Q3 R3 u3 o _ (by unfold Fits; omega)).mono ?_; rintro e w13 ⟨rfl, hbw13⟩
      replace ga := ga.on hbw13; clear ga0 ga1 ga2; have kk_ := ga; obtain ⟨ga0, ga1, ga2⟩ := kk_
      replace gb := gb.on hbw13; clear gb0 gb1 gb2; have kk_ := gb; obtain ⟨gb0, gb1, gb2⟩ := kk_
      replace gc := gc.on hbw13; clear gc0 gc1 gc2; have kk_ := gc; obtain ⟨gc0, gc1, gc2⟩ := kk_
      replace gx := gx.on hbw13; clear gx0 gx1 gx2; have kk_ := gx; obtain ⟨gx0, gx1, gx2⟩ := kk_
      have Bw13 := bel_trans Bw12 hbw13
      clear hbw13
      rw [Q4_.out]
      cases X with
      | false =>
        go_wp2
        go_ret
        exact ⟨by first | rfl | simp, Bw13⟩
      | true =>
        obtain ⟨e1, e2, e3_, e4, e5, e6⟩ := log_law (n := m1) HX.out.symm (L1.out rfl).1 (L1.out rfl).2
        obtain ⟨y, ey⟩ : ∃ y, prodIn P Q R a b = (y, true) := ⟨(prodIn P Q R a b).1, by rw [← e3_]⟩
        rw [ey] at e4; have e4b : hasB P Q y = true := (Bool.and_eq_true_iff.1 e4).2
        have hQl : (m1 : Int) < Q := e2
        have fm : Fits (m1 : Int) := by unfold Fits; omega
        have E1 := Lib.hid e1; have E3 := Lib.hid ey; have E4 := Lib.hid e4b; have E5 := Lib.hid e5; clear e1 ey e3_ e4 e4b e5
        go_wp2_with fail
        refine (i_PowerIn P Q R a m1 _ fm).mono ?_; rintro e w14 ⟨rfl, hbw14⟩
        replace ga := ga.on hbw14; clear ga0 ga1 ga2; have kk_ := ga; obtain ⟨ga0, ga1, ga2⟩ := kk_
        replace gb := gb.on hbw14; clear gb0 gb1 gb2; have kk_ := gb; obtain ⟨gb0, gb1, gb2⟩ := kk_
        replace gc := gc.on hbw14; clear gc0 gc1 gc2; have kk_ := gc; obtain ⟨gc0, gc1, gc2⟩ := kk_
        replace gx := gx.on hbw14; clear gx0 gx1 gx2; have kk_ := gx; obtain ⟨gx0, gx1, gx2⟩ := kk_
        have Bw14 := bel_trans Bw13 hbw14
        clear hbw14
        rw [E1.out]
        go_wp2_with fail
        refine (i_ProductIn P Q R a b _).mono ?_; rintro e w15 ⟨rfl, hbw15⟩
        replace ga := ga.on hbw15; clear ga0 ga1 ga2; have kk_ := ga; obtain ⟨ga0, ga1, ga2⟩ := kk_
        replace gb := gb.on hbw15; clear gb0 gb1 gb2; have kk_ := gb; obtain ⟨gb0, gb1, gb2⟩ := kk_
        replace gc := gc.on hbw15; clear gc0 gc1 gc2; have kk_ := gc; obtain ⟨gc0, gc1, gc2⟩ := kk_
        replace gx := gx.on hbw15; clear gx0 gx1 gx2; have kk_ := gx; obtain ⟨gx0, gx1, gx2⟩ := kk_
        have Bw15 := bel_trans Bw14 hbw15
        clear hbw15
        rw [E3.out]
        go_wp2_with fail
        refine (s_ProductIn P Q R a b _).mono ?_; rintro e w16 ⟨rfl, hbw16⟩
        replace ga := ga.on hbw16; clear ga0 ga1 ga2; have kk_ := ga; obtain ⟨ga0, ga1, ga2⟩ := kk_
        replace gb := gb.on hbw16; clear gb0 gb1 gb2; have kk_ := gb; obtain ⟨gb0, gb1, gb2⟩ := kk_
        replace gc := gc.on hbw16; clear gc0 gc1 gc2; have kk_ := gc; obtain ⟨gc0, gc1, gc2⟩ := kk_
        replace gx := gx.on hbw16; clear gx0 gx1 gx2; have kk_ := gx; obtain ⟨gx0, gx1, gx2⟩ := kk_
        have Bw16 := bel_trans Bw15 hbw16
        clear hbw16
        rw [E3.out]
        go_wp2_with fail
        refine (i_IsElement P Q R y _).mono ?_; rintro e w17 ⟨rfl, hbw17⟩
        replace ga := ga.on hbw17; clear ga0 ga1 ga2; have kk_ := ga; obtain ⟨ga0, ga1, ga2⟩ := kk_
        replace gb := gb.on hbw17; clear gb0 gb1 gb2; have kk_ := gb; obtain ⟨gb0, gb1, gb2⟩ := kk_
        replace gc := gc.on hbw17; clear gc0 gc1 gc2; have kk_ := gc; obtain ⟨gc0, gc1, gc2⟩ := kk_
        replace gx := gx.on hbw17; clear gx0 gx1 gx2; have kk_ := gx; obtain ⟨gx0, gx1, gx2⟩ := kk_
        have Bw17 := bel_trans Bw16 hbw17
        clear hbw17
        rw [E5.out, E4.out]
        go_wp2
        go_ret
        exact ⟨by first | rfl | simp, Bw17⟩
  | true =>
    have BB := Bw9
    have GR4 := GR.out rfl
    have HGR := Lib.hid GR4
    have HLEN := Lib.hid (elOf_len GR4)
    clear GR
    go_wp2_with fail
    go_region_held3 (fun W => (W.cell? ⟨w1.heap.size, 0, none⟩ = some (.int .i64 P) ∧ W.cell? ⟨w1.heap.size, 1, none⟩ = some (.int .i64 Q) ∧ W.cell? ⟨w1.heap.size, 2, none⟩ = some (.int .i64 R)) ∧ (W.cell? ⟨w5.heap.size, 0, none⟩ = some (.int .i64 P4) ∧ W.cell? ⟨w5.heap.size, 1, none⟩ = some (.int .i64 Q4) ∧ W.cell? ⟨w5.heap.size, 2, none⟩ = some (.int .i64 R4)) ∧ (W.cell? ⟨w6.heap.size, 0, none⟩ = some (.int .i64 P4) ∧ W.cell? ⟨w6.heap.size, 1, none⟩ = some (.int .i64 Q4) ∧ W.cell? ⟨w6.heap.size, 2, none⟩ = some (.int .i64 R4))) (exact ⟨⟨ga0, ga1, ga2⟩, ⟨gb0, gb1, gb2⟩, gc0, gc1, gc2⟩) (first | (have t0 := GR4; go_at_call 42; refine (i_IsGroup P4 Q4 R4 _).mono ?_; rintro e wq1 ⟨rfl, hb2⟩; rw [GR4]; clear GR4; (first | (have hb3 := bel_trans (bel_drew _) hb2) | (have hb3 := hb2)); have ga := ga.on hb3; have kk_ := ga; obtain ⟨ga0, ga1, ga2⟩ := kk_; have gb := gb.on hb3; have kk_ := gb; obtain ⟨gb0, gb1, gb2⟩ := kk_; have gc := gc.on hb3; have kk_ := gc; obtain ⟨gc0, gc1, gc2⟩ := kk_; have gx := gx.on hb3; have kk_ := gx; obtain ⟨gx0, gx1, gx2⟩ := kk_; have BB := bel_trans BB hb3; clear hb2 hb3) | (go_at_call 42; refine (i_IsGroup P Q R _).mono ?_; rintro e wq2 ⟨rfl, hb2⟩; rw [← HY.out]; (first | (have hb3 := bel_trans (bel_drew _) hb2) | (have hb3 := hb2)); have ga := ga.on hb3; have kk_ := ga; obtain ⟨ga0, ga1, ga2⟩ := kk_; have gb := gb.on hb3; have kk_ := gb; obtain ⟨gb0, gb1, gb2⟩ := kk_; have gc := gc.on hb3; have kk_ := gc; obtain ⟨gc0, gc1, gc2⟩ := kk_; have gx := gx.on hb3; have kk_ := gx; obtain ⟨gx0, gx1, gx2⟩ := kk_; have BB := bel_trans BB hb3; clear hb2 hb3) | (go_at_call 43; refine (s_IsGroup P Q R _).mono ?_; rintro e wq3 ⟨rfl, hb2⟩; rw [← HY.out]; (first | (have hb3 := bel_trans (bel_drew _) hb2) | (have hb3 := hb2)); have ga := ga.on hb3; have kk_ := ga; obtain ⟨ga0, ga1, ga2⟩ := kk_; have gb := gb.on hb3; have kk_ := gb; obtain ⟨gb0, gb1, gb2⟩ := kk_; have gc := gc.on hb3; have kk_ := gc; obtain ⟨gc0, gc1, gc2⟩ := kk_; have gx := gx.on hb3; have kk_ := gx; obtain ⟨gx0, gx1, gx2⟩ := kk_; have BB := bel_trans BB hb3; clear hb2 hb3))
    obtain ⟨EL, hEL⟩ : ∃ zz_, zz_ = elOf P4 Q4 R4 := ⟨_, rfl⟩; have HEL := Lib.hid hEL; clear hEL
    rw [← HEL.out] at HLEN
    go_wp2_with fail
    refine (i_ElementsOf P4 Q4 R4 _).mono ?_; rintro e w10 ⟨l1, l2, rfl, ml, hbw10⟩
    replace ga := ga.on hbw10; clear ga0 ga1 ga2; have kk_ := ga; obtain ⟨ga0, ga1, ga2⟩ := kk_
    replace gb := gb.on hbw10; clear gb0 gb1 gb2; have kk_ := gb; obtain ⟨gb0, gb1, gb2⟩ := kk_
    replace gc := gc.on hbw10; clear gc0 gc1 gc2; have kk_ := gc; obtain ⟨gc0, gc1, gc2⟩ := kk_
    replace gx := gx.on hbw10; clear gx0 gx1 gx2; have kk_ := gx; obtain ⟨gx0, gx1, gx2⟩ := kk_
    have Bw10 := bel_trans BB hbw10
    clear hbw10
    rw [HGR.out, ← HEL.out]; rw [← HEL.out] at ml; have il := Lib.hid ml.ints; clear ml
    have tokX : True := trivial
    go_wp2_with fail
    refine (s_ElementsOf P4 Q4 R4 _).mono ?_; rintro e we ⟨l3, l4, rfl, mk, hbwe⟩
    rw [HGR.out, ← HEL.out]
    rw [← HEL.out] at mk
    have il2 := Lib.hid (il.out.below hbwe); have ik2 := Lib.hid mk.ints; clear il mk
    replace ga := ga.on hbwe; clear ga0 ga1 ga2; have kk_ := ga; obtain ⟨ga0, ga1, ga2⟩ := kk_
    replace gb := gb.on hbwe; clear gb0 gb1 gb2; have kk_ := gb; obtain ⟨gb0, gb1, gb2⟩ := kk_
    replace gc := gc.on hbwe; clear gc0 gc1 gc2; have kk_ := gc; obtain ⟨gc0, gc1, gc2⟩ := kk_
    replace gx := gx.on hbwe; clear gx0 gx1 gx2; have kk_ := gx; obtain ⟨gx0, gx1, gx2⟩ := kk_
    have Bwe := bel_trans Bw10 hbwe; clear hbwe
    obtain ⟨ll, hll⟩ : ∃ ll, ll = EL.length := ⟨_, rfl⟩; have HLL := Lib.hid hll; rw [← hll] at il2 ik2 HLEN ⊢; clear hll
    have hlen : (ll : Int) = Q4 := HLEN.out
    have hlenb : ((ll : Int) != Q4) = false := by rw [hlen]; simp
    have hlenb2 : ((ll : Int) == Q4) = true := by rw [hlen]; simp
    clear hlen
    go_wp2_with fail
    refine (l_qIntsG _ _ _ _ _ EL _ il2.out ik2.out).mono ?_; rintro e wq ⟨rfl, hbwq⟩
    replace ga := ga.on hbwq; clear ga0 ga1 ga2; have kk_ := ga; obtain ⟨ga0, ga1, ga2⟩ := kk_
    replace gb := gb.on hbwq; clear gb0 gb1 gb2; have kk_ := gb; obtain ⟨gb0, gb1, gb2⟩ := kk_
    replace gc := gc.on hbwq; clear gc0 gc1 gc2; have kk_ := gc; obtain ⟨gc0, gc1, gc2⟩ := kk_
    replace gx := gx.on hbwq; clear gx0 gx1 gx2; have kk_ := gx; obtain ⟨gx0, gx1, gx2⟩ := kk_
    have Bwq := bel_trans Bwe hbwq; clear hbwq
    clear il2 ik2
    cases hz2 : Z.2 with
    | false =>
      cases X with
      | false =>
        go_wp2
        go_ret
        exact ⟨by first | rfl | simp, Bwq⟩
      | true =>
        obtain ⟨e1, e2, e3_, e4, e5, e6⟩ := log_law (n := m1) HX.out.symm (L1.out rfl).1 (L1.out rfl).2
        obtain ⟨y, ey⟩ : ∃ y, prodIn P Q R a b = (y, true) := ⟨(prodIn P Q R a b).1, by rw [← e3_]⟩
        rw [ey] at e4; have e4b : hasB P Q y = true := (Bool.and_eq_true_iff.1 e4).2
        have hQl : (m1 : Int) < Q := e2
        have fm : Fits (m1 : Int) := by unfold Fits; omega
        have E1 := Lib.hid e1; have E3 := Lib.hid ey; have E4 := Lib.hid e4b; have E5 := Lib.hid e5; clear e1 ey e3_ e4 e4b e5
        go_wp2_with fail
        refine (i_PowerIn P Q R a m1 _ fm).mono ?_; rintro e w11 ⟨rfl, hbw11⟩
        replace ga := ga.on hbw11; clear ga0 ga1 ga2; have kk_ := ga; obtain ⟨ga0, ga1, ga2⟩ := kk_
        replace gb := gb.on hbw11; clear gb0 gb1 gb2; have kk_ := gb; obtain ⟨gb0, gb1, gb2⟩ := kk_
        replace gc := gc.on hbw11; clear gc0 gc1 gc2; have kk_ := gc; obtain ⟨gc0, gc1, gc2⟩ := kk_
        replace gx := gx.on hbw11; clear gx0 gx1 gx2; have kk_ := gx; obtain ⟨gx0, gx1, gx2⟩ := kk_
        have Bw11 := bel_trans Bwq hbw11
        clear hbw11
        rw [E1.out]
        go_wp2_with fail
        refine (i_ProductIn P Q R a b _).mono ?_; rintro e w12 ⟨rfl, hbw12⟩
        replace ga := ga.on hbw12; clear ga0 ga1 ga2; have kk_ := ga; obtain ⟨ga0, ga1, ga2⟩ := kk_
        replace gb := gb.on hbw12; clear gb0 gb1 gb2; have kk_ := gb; obtain ⟨gb0, gb1, gb2⟩ := kk_
        replace gc := gc.on hbw12; clear gc0 gc1 gc2; have kk_ := gc; obtain ⟨gc0, gc1, gc2⟩ := kk_
        replace gx := gx.on hbw12; clear gx0 gx1 gx2; have kk_ := gx; obtain ⟨gx0, gx1, gx2⟩ := kk_
        have Bw12 := bel_trans Bw11 hbw12
        clear hbw12
        rw [E3.out]
        go_wp2_with fail
        refine (s_ProductIn P Q R a b _).mono ?_; rintro e w13 ⟨rfl, hbw13⟩
        replace ga := ga.on hbw13; clear ga0 ga1 ga2; have kk_ := ga; obtain ⟨ga0, ga1, ga2⟩ := kk_
        replace gb := gb.on hbw13; clear gb0 gb1 gb2; have kk_ := gb; obtain ⟨gb0, gb1, gb2⟩ := kk_
        replace gc := gc.on hbw13; clear gc0 gc1 gc2; have kk_ := gc; obtain ⟨gc0, gc1, gc2⟩ := kk_
        replace gx := gx.on hbw13; clear gx0 gx1 gx2; have kk_ := gx; obtain ⟨gx0, gx1, gx2⟩ := kk_
        have Bw13 := bel_trans Bw12 hbw13
        clear hbw13
        rw [E3.out]
        go_wp2_with fail
        refine (i_IsElement P Q R y _).mono ?_; rintro e w14 ⟨rfl, hbw14⟩
        replace ga := ga.on hbw14; clear ga0 ga1 ga2; have kk_ := ga; obtain ⟨ga0, ga1, ga2⟩ := kk_
        replace gb := gb.on hbw14; clear gb0 gb1 gb2; have kk_ := gb; obtain ⟨gb0, gb1, gb2⟩ := kk_
        replace gc := gc.on hbw14; clear gc0 gc1 gc2; have kk_ := gc; obtain ⟨gc0, gc1, gc2⟩ := kk_
        replace gx := gx.on hbw14; clear gx0 gx1 gx2; have kk_ := gx; obtain ⟨gx0, gx1, gx2⟩ := kk_
        have Bw14 := bel_trans Bw13 hbw14
        clear hbw14
        rw [E5.out, E4.out]
        go_wp2
        go_ret
        exact ⟨by first | rfl | simp, Bw14⟩
    | true =>
      obtain ⟨p1, p2, o, p3, o1, o2, p4⟩ := pow_law (P := P3) (Q := Q3) (G := R3) (a := u3) (n := e3) (by rw [← HZ.out]; exact hz2)
      have zb := powIn_bd (P := P3) (Q := Q3) (G := R3) (a := u3) (n := e3)
      rw [← HZ.out] at p1 p2 zb
      have dee := de3; unfold Dv at dee; obtain ⟨dee1, dee2⟩ := dee
      have en : IntKind.i64.wrap (-e3) = -e3 := IntWalk.i64_in _ (by omega)
      obtain ⟨V, hV⟩ : ∃ V, V = invIn P3 Q3 R3 Z.1 := ⟨_, rfl⟩; have HV := Lib.hid hV; clear hV
      rw [← HV.out] at p1 p2
      have Q1 := Lib.hid p1; have Q2 := Lib.hid p2; have Q3_ := Lib.hid p3; have Q4_ := Lib.hid p4; clear p1 p2 p3 p4
      have ob1 : ¬ o < 1 := by omega
      have ob2 : ¬ 2003 < o := by omega
      go_wp2_with fail
      refine (i_PowerIn P3 Q3 R3 u3 (-e3) _ (by unfold Fits; omega)).mono ?_; rintro e w11 ⟨rfl, hbw11⟩
      replace ga := ga.on hbw11; clear ga0 ga1 ga2; have kk_ := ga; obtain ⟨ga0, ga1, ga2⟩ := kk_
      replace gb := gb.on hbw11; clear gb0 gb1 gb2; have kk_ := gb; obtain ⟨gb0, gb1, gb2⟩ := kk_
      replace gc := gc.on hbw11; clear gc0 gc1 gc2; have kk_ := gc; obtain ⟨gc0, gc1, gc2⟩ := kk_
      replace gx := gx.on hbw11; clear gx0 gx1 gx2; have kk_ := gx; obtain ⟨gx0, gx1, gx2⟩ := kk_
      have Bw11 := bel_trans Bwq hbw11
      clear hbw11
      rw [Q1.out]
      go_wp2_with fail
      refine (i_InverseIn P3 Q3 R3 Z.1 _).mono ?_; rintro e w12 ⟨rfl, hbw12⟩
      replace ga := ga.on hbw12; clear ga0 ga1 ga2; have kk_ := ga; obtain ⟨ga0, ga1, ga2⟩ := kk_
      replace gb := gb.on hbw12; clear gb0 gb1 gb2; have kk_ := gb; obtain ⟨gb0, gb1, gb2⟩ := kk_
      replace gc := gc.on hbw12; clear gc0 gc1 gc2; have kk_ := gc; obtain ⟨gc0, gc1, gc2⟩ := kk_
      replace gx := gx.on hbw12; clear gx0 gx1 gx2; have kk_ := gx; obtain ⟨gx0, gx1, gx2⟩ := kk_
      have Bw12 := bel_trans Bw11 hbw12
      clear hbw12
      rw [← HV.out, Q2.out]
      go_wp2_with fail
      refine (i_OrderOf P3 Q3 R3 u3 _).mono ?_; rintro e w13 ⟨rfl, hbw13⟩
      replace ga := ga.on hbw13; clear ga0 ga1 ga2; have kk_ := ga; obtain ⟨ga0, ga1, ga2⟩ := kk_
      replace gb := gb.on hbw13; clear gb0 gb1 gb2; have kk_ := gb; obtain ⟨gb0, gb1, gb2⟩ := kk_
      replace gc := gc.on hbw13; clear gc0 gc1 gc2; have kk_ := gc; obtain ⟨gc0, gc1, gc2⟩ := kk_
      replace gx := gx.on hbw13; clear gx0 gx1 gx2; have kk_ := gx; obtain ⟨gx0, gx1, gx2⟩ := kk_
      have Bw13 := bel_trans Bw12 hbw13
      clear hbw13
      rw [Q3_.out]
      go_wp2_with fail
      refine (i_PowerIn P3 Q3 R3 u3 o _ (by unfold Fits; omega)).mono ?_; rintro e w14 ⟨rfl, hbw14⟩
      replace ga := ga.on hbw14; clear ga0 ga1 ga2; have kk_ := ga; obtain ⟨ga0, ga1, ga2⟩ := kk_
      replace gb := gb.on hbw14; clear gb0 gb1 gb2; have kk_ := gb; obtain ⟨gb0, gb1, gb2⟩ := kk_
      replace gc := gc.on hbw14; clear gc0 gc1 gc2; have kk_ := gc; obtain ⟨gc0, gc1, gc2⟩ := kk_
      replace gx := gx.on hbw14; clear gx0 gx1 gx2; have kk_ := gx; obtain ⟨gx0, gx1, gx2⟩ := kk_
      have Bw14 := bel_trans Bw13 hbw14
      clear hbw14
      rw [Q4_.out]
      cases X with
      | false =>
        go_wp2
        go_ret
        exact ⟨by first | rfl | simp, Bw14⟩
      | true =>
        obtain ⟨e1, e2, e3_, e4, e5, e6⟩ := log_law (n := m1) HX.out.symm (L1.out rfl).1 (L1.out rfl).2
        obtain ⟨y, ey⟩ : ∃ y, prodIn P Q R a b = (y, true) := ⟨(prodIn P Q R a b).1, by rw [← e3_]⟩
        rw [ey] at e4; have e4b : hasB P Q y = true := (Bool.and_eq_true_iff.1 e4).2
        have hQl : (m1 : Int) < Q := e2
        have fm : Fits (m1 : Int) := by unfold Fits; omega
        have E1 := Lib.hid e1; have E3 := Lib.hid ey; have E4 := Lib.hid e4b; have E5 := Lib.hid e5; clear e1 ey e3_ e4 e4b e5
        go_wp2_with fail
        refine (i_PowerIn P Q R a m1 _ fm).mono ?_; rintro e w15 ⟨rfl, hbw15⟩
        replace ga := ga.on hbw15; clear ga0 ga1 ga2; have kk_ := ga; obtain ⟨ga0, ga1, ga2⟩ := kk_
        replace gb := gb.on hbw15; clear gb0 gb1 gb2; have kk_ := gb; obtain ⟨gb0, gb1, gb2⟩ := kk_
        replace gc := gc.on hbw15; clear gc0 gc1 gc2; have kk_ := gc; obtain ⟨gc0, gc1, gc2⟩ := kk_
        replace gx := gx.on hbw15; clear gx0 gx1 gx2; have kk_ := gx; obtain ⟨gx0, gx1, gx2⟩ := kk_
        have Bw15 := bel_trans Bw14 hbw15
        clear hbw15
        rw [E1.out]
        go_wp2_with fail
        refine (i_ProductIn P Q R a b _).mono ?_; rintro e w16 ⟨rfl, hbw16⟩
        replace ga := ga.on hbw16; clear ga0 ga1 ga2; have kk_ := ga; obtain ⟨ga0, ga1, ga2⟩ := kk_
        replace gb := gb.on hbw16; clear gb0 gb1 gb2; have kk_ := gb; obtain ⟨gb0, gb1, gb2⟩ := kk_
        replace gc := gc.on hbw16; clear gc0 gc1 gc2; have kk_ := gc; obtain ⟨gc0, gc1, gc2⟩ := kk_
        replace gx := gx.on hbw16; clear gx0 gx1 gx2; have kk_ := gx; obtain ⟨gx0, gx1, gx2⟩ := kk_
        have Bw16 := bel_trans Bw15 hbw16
        clear hbw16
        rw [E3.out]
        go_wp2_with fail
        refine (s_ProductIn P Q R a b _).mono ?_; rintro e w17 ⟨rfl, hbw17⟩
        replace ga := ga.on hbw17; clear ga0 ga1 ga2; have kk_ := ga; obtain ⟨ga0, ga1, ga2⟩ := kk_
        replace gb := gb.on hbw17; clear gb0 gb1 gb2; have kk_ := gb; obtain ⟨gb0, gb1, gb2⟩ := kk_
        replace gc := gc.on hbw17; clear gc0 gc1 gc2; have kk_ := gc; obtain ⟨gc0, gc1, gc2⟩ := kk_
        replace gx := gx.on hbw17; clear gx0 gx1 gx2; have kk_ := gx; obtain ⟨gx0, gx1, gx2⟩ := kk_
        have Bw17 := bel_trans Bw16 hbw17
        clear hbw17
        rw [E3.out]
        go_wp2_with fail
        refine (i_IsElement P Q R y _).mono ?_; rintro e w18 ⟨rfl, hbw18⟩
        replace ga := ga.on hbw18; clear ga0 ga1 ga2; have kk_ := ga; obtain ⟨ga0, ga1, ga2⟩ := kk_
        replace gb := gb.on hbw18; clear gb0 gb1 gb2; have kk_ := gb; obtain ⟨gb0, gb1, gb2⟩ := kk_
        replace gc := gc.on hbw18; clear gc0 gc1 gc2; have kk_ := gc; obtain ⟨gc0, gc1, gc2⟩ := kk_
        replace gx := gx.on hbw18; clear gx0 gx1 gx2; have kk_ := gx; obtain ⟨gx0, gx1, gx2⟩ := kk_
        have Bw18 := bel_trans Bw17 hbw18
        clear hbw18
        rw [E5.out, E4.out]
        go_wp2
        go_ret
        exact ⟨by first | rfl | simp, Bw18⟩
end Go.Proofs.Ytklgneaamhjfpaa
