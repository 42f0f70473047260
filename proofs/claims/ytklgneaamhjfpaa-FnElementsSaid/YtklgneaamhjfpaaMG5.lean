/-
  The walk of the law FnElements.
-/
import Derived.Test.YtklgneaamhjfpaaGz
import Derived.Test.YtklgneaamhjfpaaGe
import Derived.Test.YtklgneaamhjfpaaGk
namespace Go.Proofs.Ytklgneaamhjfpaa
open Go.RowKit
set_option linter.unusedVariables false
set_option linter.unusedSimpArgs false
set_option maxRecDepth 100000

set_option maxHeartbeats 8000000 in
theorem law_FnElements (a0 : Option Addr) (n0 c0 : Nat) (z0 : List Int) (a1 : Option Addr) (n1 c1 : Nat) (z1 : List Int) (w : World) (h0 : BytesIn w a0 n0 c0 z0) (h1 : BytesIn w a1 n1 c1 z1) :
    Calls Try.prog 3 #[.slice a0 n0 c0, .slice a1 n1 c1] w fun e w' => e = .returned (.bool true) ∧ Below w.heap.size w w' := by
  have hn0 := h0.small; have hn1 := h1.small
  have hB : Byts w a1 n1 c1 := h1
  have hA : Byts w a0 n0 c0 := h0
  clear h0 h1
  obtain ⟨G, hG⟩ : ∃ G, IntKind.i64.wrap ((n0 : Int) + (n1 : Int)) = G := ⟨_, rfl⟩
  by_cases hg : 1048576 < G
  · go_enter Try.func3, Try.ntmps3
    go_wp2
    go_ret
    exact ⟨rfl, Below.refl _ _⟩
  go_enter Try.func3, Try.ntmps3
  go_wp2_with fail
  refine (s_DrawElementFor _ _ _ _ hA).mono ?_; rintro e w1 ⟨P, Q, R, n, rfl, gd, dn, hbw1⟩
  replace hB := hB.below hbw1
  replace hA := hA.below hbw1
  have Bw1 := bel_trans (Below.refl w.heap.size w) hbw1
  clear hbw1
  clear hA
  obtain ⟨w1b, hw1b⟩ : ∃ X, X = w1.alloc (.cells #[.int .i64 P, .int .i64 Q, .int .i64 R] 24) := ⟨_, rfl⟩
  have A_ : Below w1.heap.size w1 w1b := by rw [hw1b]; exact bel_alloc _ _
  have ga : Gx w1b w1.heap.size P Q R := by rw [hw1b]; exact Gx.new
  replace hw1b := hw1b.symm
  replace hB := hB.below A_
  have kk_ := ga; obtain ⟨ga0, ga1, ga2⟩ := kk_
  have Bw1b := bel_trans Bw1 A_; clear A_
  obtain ⟨X, hX⟩ : ∃ zz_, zz_ = elFor P Q R n := ⟨_, rfl⟩; have HX := Lib.hid hX; clear hX
  go_wp2_with fail
  refine (i_ElementFor _ _ _ _ _ dn.fits).mono ?_; rintro e w2 ⟨rfl, hbw2⟩
  replace hB := hB.below hbw2
  replace ga := ga.on hbw2; clear ga0 ga1 ga2; have kk_ := ga; obtain ⟨ga0, ga1, ga2⟩ := kk_
  have Bw2 := bel_trans Bw1b hbw2
  clear hbw2
  rw [← HX.out]
  go_wp2_with fail
  refine (s_ElementFor _ _ _ _ _ dn.fits).mono ?_; rintro e w3 ⟨rfl, hbw3⟩
  replace hB := hB.below hbw3
  replace ga := ga.on hbw3; clear ga0 ga1 ga2; have kk_ := ga; obtain ⟨ga0, ga1, ga2⟩ := kk_
  have Bw3 := bel_trans Bw2 hbw3
  clear hbw3
  rw [← HX.out]
  go_wp2_with fail
  refine (s_DrawIsElement _ _ _ _ hB).mono ?_; rintro e w4 ⟨P2, Q2, R2, u2, rfl, gd2, du2, hbw4⟩
  replace hB := hB.below hbw4
  replace ga := ga.on hbw4; clear ga0 ga1 ga2; have kk_ := ga; obtain ⟨ga0, ga1, ga2⟩ := kk_
  have Bw4 := bel_trans Bw3 hbw4
  clear hbw4
  obtain ⟨w4b, hw4b⟩ : ∃ X, X = w4.alloc (.cells #[.int .i64 P2, .int .i64 Q2, .int .i64 R2] 24) := ⟨_, rfl⟩
  have A_ : Below w4.heap.size w4 w4b := by rw [hw4b]; exact bel_alloc _ _
  have gb : Gx w4b w4.heap.size P2 Q2 R2 := by rw [hw4b]; exact Gx.new
  replace hw4b := hw4b.symm
  replace hB := hB.below A_
  replace ga := ga.on A_; clear ga0 ga1 ga2; have kk_ := ga; obtain ⟨ga0, ga1, ga2⟩ := kk_
  have kk_ := gb; obtain ⟨gb0, gb1, gb2⟩ := kk_
  have Bw4b := bel_trans Bw4 A_; clear A_
  obtain ⟨Y1, hY1⟩ : ∃ zz_, zz_ = grB P2 Q2 R2 := ⟨_, rfl⟩; have HY1 := Lib.hid hY1; clear hY1
  obtain ⟨Y2, hY2⟩ : ∃ zz_, zz_ = (Y1 && hasB P2 Q2 u2) := ⟨_, rfl⟩; have HY2 := Lib.hid hY2; clear hY2
  go_wp2_with fail
  refine (i_IsElement _ _ _ _ _).mono ?_; rintro e w5 ⟨rfl, hbw5⟩
  replace hB := hB.below hbw5
  replace ga := ga.on hbw5; clear ga0 ga1 ga2; have kk_ := ga; obtain ⟨ga0, ga1, ga2⟩ := kk_
  replace gb := gb.on hbw5; clear gb0 gb1 gb2; have kk_ := gb; obtain ⟨gb0, gb1, gb2⟩ := kk_
  have Bw5 := bel_trans Bw4b hbw5
  clear hbw5
  rw [← HY1.out, ← HY2.out]
  go_wp2_with fail
  refine (s_IsElement _ _ _ _ _).mono ?_; rintro e w6 ⟨rfl, hbw6⟩
  replace hB := hB.below hbw6
  replace ga := ga.on hbw6; clear ga0 ga1 ga2; have kk_ := ga; obtain ⟨ga0, ga1, ga2⟩ := kk_
  replace gb := gb.on hbw6; clear gb0 gb1 gb2; have kk_ := gb; obtain ⟨gb0, gb1, gb2⟩ := kk_
  have Bw6 := bel_trans Bw5 hbw6
  clear hbw6
  rw [← HY1.out, ← HY2.out]
  go_wp2_with fail
  refine (s_DrawInverseIn _ _ _ _ hB).mono ?_; rintro e w7 ⟨P3, Q3, R3, u3, rfl, gd3, du3, hbw7⟩
  replace hB := hB.below hbw7
  replace ga := ga.on hbw7; clear ga0 ga1 ga2; have kk_ := ga; obtain ⟨ga0, ga1, ga2⟩ := kk_
  replace gb := gb.on hbw7; clear gb0 gb1 gb2; have kk_ := gb; obtain ⟨gb0, gb1, gb2⟩ := kk_
  have Bw7 := bel_trans Bw6 hbw7
  clear hbw7
  clear hB
  obtain ⟨w7b, hw7b⟩ : ∃ X, X = w7.alloc (.cells #[.int .i64 P3, .int .i64 Q3, .int .i64 R3] 24) := ⟨_, rfl⟩
  have A_ : Below w7.heap.size w7 w7b := by rw [hw7b]; exact bel_alloc _ _
  have gc : Gx w7b w7.heap.size P3 Q3 R3 := by rw [hw7b]; exact Gx.new
  replace hw7b := hw7b.symm
  replace ga := ga.on A_; clear ga0 ga1 ga2; have kk_ := ga; obtain ⟨ga0, ga1, ga2⟩ := kk_
  replace gb := gb.on A_; clear gb0 gb1 gb2; have kk_ := gb; obtain ⟨gb0, gb1, gb2⟩ := kk_
  have kk_ := gc; obtain ⟨gc0, gc1, gc2⟩ := kk_
  have Bw7b := bel_trans Bw7 A_; clear A_
  obtain ⟨Z, hZ⟩ : ∃ zz_, zz_ = invIn P3 Q3 R3 u3 := ⟨_, rfl⟩; have HZ := Lib.hid hZ; clear hZ
  go_wp2_with fail
  refine (i_InverseIn _ _ _ _ _).mono ?_; rintro e w8 ⟨rfl, hbw8⟩
  replace ga := ga.on hbw8; clear ga0 ga1 ga2; have kk_ := ga; obtain ⟨ga0, ga1, ga2⟩ := kk_
  replace gb := gb.on hbw8; clear gb0 gb1 gb2; have kk_ := gb; obtain ⟨gb0, gb1, gb2⟩ := kk_
  replace gc := gc.on hbw8; clear gc0 gc1 gc2; have kk_ := gc; obtain ⟨gc0, gc1, gc2⟩ := kk_
  have Bw8 := bel_trans Bw7b hbw8
  clear hbw8
  rw [← HZ.out]
  go_wp2_with fail
  refine (s_InverseIn _ _ _ _ _).mono ?_; rintro e w9 ⟨rfl, hbw9⟩
  replace ga := ga.on hbw9; clear ga0 ga1 ga2; have kk_ := ga; obtain ⟨ga0, ga1, ga2⟩ := kk_
  replace gb := gb.on hbw9; clear gb0 gb1 gb2; have kk_ := gb; obtain ⟨gb0, gb1, gb2⟩ := kk_
  replace gc := gc.on hbw9; clear gc0 gc1 gc2; have kk_ := gc; obtain ⟨gc0, gc1, gc2⟩ := kk_
  have Bw9 := bel_trans Bw8 hbw9
  clear hbw9
  rw [← HZ.out]
  cases hz2 : Z.2 with
  | false =>
    cases hy2 : Y2 with
    | false =>
      cases hy1 : Y1 with
      | false =>
        cases hx2 : X.2 with
        | false =>
          go_wp2
          go_ret
          exact ⟨by first | rfl | simp, Bw9⟩
        | true =>
          have hx3 : (elFor P Q R n).2 = true := by rw [← HX.out]; exact hx2
          obtain ⟨n1, n2, qb1, qb2⟩ := elFor_le hx3
          have en : IntKind.i64.wrap (n + Q) = n + Q := IntWalk.i64_in _ (by omega)
          have en1 : IntKind.i64.wrap (n + 1) = n + 1 := IntWalk.i64_in _ (by omega)
          have hx3h := Lib.hid hx3; clear hx3
          by_cases hnq : 1000000000 < n + Q
          · have hnqb : decide (1000000000 < n + Q) = true := decide_eq_true hnq
            go_wp2
            go_ret
            exact ⟨by first | rfl | simp, Bw9⟩
          · obtain ⟨e1, ⟨y, e2, hne⟩, e3, e4⟩ := el_law hx3h.out (by omega)
            rw [← HX.out] at e1 hne e4
            have hneb : (y != X.1) = true := by simpa using hne
            have hneb2 : (y == X.1) = false := by simpa using hne
            have E1 := Lib.hid e1; have E2 := Lib.hid e2; have E3 := Lib.hid e3; have E4 := Lib.hid e4; clear e1 e2 e3 e4 hne
            go_wp2_with fail
            refine (i_ElementFor P Q R (n + Q) _ (by unfold Fits; omega)).mono ?_; rintro e w10 ⟨rfl, hbw10⟩
            replace ga := ga.on hbw10; clear ga0 ga1 ga2; have kk_ := ga; obtain ⟨ga0, ga1, ga2⟩ := kk_
            replace gb := gb.on hbw10; clear gb0 gb1 gb2; have kk_ := gb; obtain ⟨gb0, gb1, gb2⟩ := kk_
            replace gc := gc.on hbw10; clear gc0 gc1 gc2; have kk_ := gc; obtain ⟨gc0, gc1, gc2⟩ := kk_
            have Bw10 := bel_trans Bw9 hbw10
            clear hbw10
            rw [E1.out]
            go_wp2_with fail
            refine (i_ElementFor P Q R (n + 1) _ (by unfold Fits; omega)).mono ?_; rintro e w11 ⟨rfl, hbw11⟩
            replace ga := ga.on hbw11; clear ga0 ga1 ga2; have kk_ := ga; obtain ⟨ga0, ga1, ga2⟩ := kk_
            replace gb := gb.on hbw11; clear gb0 gb1 gb2; have kk_ := gb; obtain ⟨gb0, gb1, gb2⟩ := kk_
            replace gc := gc.on hbw11; clear gc0 gc1 gc2; have kk_ := gc; obtain ⟨gc0, gc1, gc2⟩ := kk_
            have Bw11 := bel_trans Bw10 hbw11
            clear hbw11
            rw [E2.out]
            go_wp2_with fail
            refine (i_IsElement P Q R X.1 _).mono ?_; rintro e w12 ⟨rfl, hbw12⟩
            replace ga := ga.on hbw12; clear ga0 ga1 ga2; have kk_ := ga; obtain ⟨ga0, ga1, ga2⟩ := kk_
            replace gb := gb.on hbw12; clear gb0 gb1 gb2; have kk_ := gb; obtain ⟨gb0, gb1, gb2⟩ := kk_
            replace gc := gc.on hbw12; clear gc0 gc1 gc2; have kk_ := gc; obtain ⟨gc0, gc1, gc2⟩ := kk_
            have Bw12 := bel_trans Bw11 hbw12
            clear hbw12
            rw [E3.out, E4.out]
            go_wp2
            go_ret
            exact ⟨by first | rfl | simp, Bw12⟩
      | true =>
        cases hx2 : X.2 with
        | false =>
          go_wp2
          go_ret
          exact ⟨by first | rfl | simp, Bw9⟩
        | true =>
          have hx3 : (elFor P Q R n).2 = true := by rw [← HX.out]; exact hx2
          obtain ⟨n1, n2, qb1, qb2⟩ := elFor_le hx3
          have en : IntKind.i64.wrap (n + Q) = n + Q := IntWalk.i64_in _ (by omega)
          have en1 : IntKind.i64.wrap (n + 1) = n + 1 := IntWalk.i64_in _ (by omega)
          have hx3h := Lib.hid hx3; clear hx3
          by_cases hnq : 1000000000 < n + Q
          · have hnqb : decide (1000000000 < n + Q) = true := decide_eq_true hnq
            go_wp2
            go_ret
            exact ⟨by first | rfl | simp, Bw9⟩
          · obtain ⟨e1, ⟨y, e2, hne⟩, e3, e4⟩ := el_law hx3h.out (by omega)
            rw [← HX.out] at e1 hne e4
            have hneb : (y != X.1) = true := by simpa using hne
            have hneb2 : (y == X.1) = false := by simpa using hne
            have E1 := Lib.hid e1; have E2 := Lib.hid e2; have E3 := Lib.hid e3; have E4 := Lib.hid e4; clear e1 e2 e3 e4 hne
            go_wp2_with fail
            refine (i_ElementFor P Q R (n + Q) _ (by unfold Fits; omega)).mono ?_; rintro e w10 ⟨rfl, hbw10⟩
            replace ga := ga.on hbw10; clear ga0 ga1 ga2; have kk_ := ga; obtain ⟨ga0, ga1, ga2⟩ := kk_
            replace gb := gb.on hbw10; clear gb0 gb1 gb2; have kk_ := gb; obtain ⟨gb0, gb1, gb2⟩ := kk_
            replace gc := gc.on hbw10; clear gc0 gc1 gc2; have kk_ := gc; obtain ⟨gc0, gc1, gc2⟩ := kk_
            have Bw10 := bel_trans Bw9 hbw10
            clear hbw10
            rw [E1.out]
            go_wp2_with fail
            refine (i_ElementFor P Q R (n + 1) _ (by unfold Fits; omega)).mono ?_; rintro e w11 ⟨rfl, hbw11⟩
            replace ga := ga.on hbw11; clear ga0 ga1 ga2; have kk_ := ga; obtain ⟨ga0, ga1, ga2⟩ := kk_
            replace gb := gb.on hbw11; clear gb0 gb1 gb2; have kk_ := gb; obtain ⟨gb0, gb1, gb2⟩ := kk_
            replace gc := gc.on hbw11; clear gc0 gc1 gc2; have kk_ := gc; obtain ⟨gc0, gc1, gc2⟩ := kk_
            have Bw11 := bel_trans Bw10 hbw11
            clear hbw11
            rw [E2.out]
            go_wp2_with fail
            refine (i_IsElement P Q R X.1 _).mono ?_; rintro e w12 ⟨rfl, hbw12⟩
            replace ga := ga.on hbw12; clear ga0 ga1 ga2; have kk_ := ga; obtain ⟨ga0, ga1, ga2⟩ := kk_
            replace gb := gb.on hbw12; clear gb0 gb1 gb2; have kk_ := gb; obtain ⟨gb0, gb1, gb2⟩ := kk_
            replace gc := gc.on hbw12; clear gc0 gc1 gc2; have kk_ := gc; obtain ⟨gc0, gc1, gc2⟩ := kk_
            have Bw12 := bel_trans Bw11 hbw12
            clear hbw12
            rw [E3.out, E4.out]
            go_wp2
            go_ret
            exact ⟨by first | rfl | simp, Bw12⟩
    | true =>
      have hy1 : Y1 = true := by have := HY2.out; rw [hy2] at this; exact (Bool.and_eq_true_iff.1 this.symm).1
      have HM := Lib.hid (elOf_mem (P := P2) (Q := Q2) (G := R2) (a := u2) (by rw [← HY1.out]; exact hy1) (by have := HY2.out; rw [hy2, hy1] at this; exact this.symm))
      have HG2 : Hid (grB P2 Q2 R2 = true) := by show _ = _; rw [← HY1.out]; exact hy1
      subst hy1
      go_wp2_with fail
      refine (i_ElementsOf _ _ _ _).mono ?_; rintro e w10 ⟨l1, l2, rfl, ml, hbw10⟩
      replace ga := ga.on hbw10; clear ga0 ga1 ga2; have kk_ := ga; obtain ⟨ga0, ga1, ga2⟩ := kk_
      replace gb := gb.on hbw10; clear gb0 gb1 gb2; have kk_ := gb; obtain ⟨gb0, gb1, gb2⟩ := kk_
      replace gc := gc.on hbw10; clear gc0 gc1 gc2; have kk_ := gc; obtain ⟨gc0, gc1, gc2⟩ := kk_
      have Bw10 := bel_trans Bw9 hbw10
      clear hbw10
      rw [HG2.out]
      have il := Lib.hid ml.ints; clear ml
      go_wp2_with fail
      refine (l_qHas _ _ _ _ _ _ il.out HM.out).mono ?_; rintro e wq ⟨rfl, rfl⟩
      clear il
      cases hx2 : X.2 with
      | false =>
        go_wp2
        go_ret
        exact ⟨by first | rfl | simp, Bw10⟩
      | true =>
        have hx3 : (elFor P Q R n).2 = true := by rw [← HX.out]; exact hx2
        obtain ⟨n1, n2, qb1, qb2⟩ := elFor_le hx3
        have en : IntKind.i64.wrap (n + Q) = n + Q := IntWalk.i64_in _ (by omega)
        have en1 : IntKind.i64.wrap (n + 1) = n + 1 := IntWalk.i64_in _ (by omega)
        have hx3h := Lib.hid hx3; clear hx3
        by_cases hnq : 1000000000 < n + Q
        · have hnqb : decide (1000000000 < n + Q) = true := decide_eq_true hnq
          go_wp2
          go_ret
          exact ⟨by first | rfl | simp, Bw10⟩
        · obtain ⟨e1, ⟨y, e2, hne⟩, e3, e4⟩ := el_law hx3h.out (by omega)
          rw [← HX.out] at e1 hne e4
          have hneb : (y != X.1) = true := by simpa using hne
          have hneb2 : (y == X.1) = false := by simpa using hne
          have E1 := Lib.hid e1; have E2 := Lib.hid e2; have E3 := Lib.hid e3; have E4 := Lib.hid e4; clear e1 e2 e3 e4 hne
          go_wp2_with fail
          refine (i_ElementFor P Q R (n + Q) _ (by unfold Fits; omega)).mono ?_; rintro e w11 ⟨rfl, hbw11⟩
          replace ga := ga.on hbw11; clear ga0 ga1 ga2; have kk_ := ga; obtain ⟨ga0, ga1, ga2⟩ := kk_
          replace gb := gb.on hbw11; clear gb0 gb1 gb2; have kk_ := gb; obtain ⟨gb0, gb1, gb2⟩ := kk_
          replace gc := gc.on hbw11; clear gc0 gc1 gc2; have kk_ := gc; obtain ⟨gc0, gc1, gc2⟩ := kk_
          have Bw11 := bel_trans Bw10 hbw11
          clear hbw11
          rw [E1.out]
          go_wp2_with fail
          refine (i_ElementFor P Q R (n + 1) _ (by unfold Fits; omega)).mono ?_; rintro e w12 ⟨rfl, hbw12⟩
          replace ga := ga.on hbw12; clear ga0 ga1 ga2; have kk_ := ga; obtain ⟨ga0, ga1, ga2⟩ := kk_
          replace gb := gb.on hbw12; clear gb0 gb1 gb2; have kk_ := gb; obtain ⟨gb0, gb1, gb2⟩ := kk_
          replace gc := gc.on hbw12; clear gc0 gc1 gc2; have kk_ := gc; obtain ⟨gc0, gc1, gc2⟩ := kk_
          have Bw12 := bel_trans Bw11 hbw12
          clear hbw12
          rw [E2.out]
          go_wp2_with fail
          refine (i_IsElement P Q R X.1 _).mono ?_; rintro e w13 ⟨rfl, hbw13⟩
          replace ga := ga.on hbw13; clear ga0 ga1 ga2; have kk_ := ga; obtain ⟨ga0, ga1, ga2⟩ := kk_
          replace gb := gb.on hbw13; clear gb0 gb1 gb2; have kk_ := gb; obtain ⟨gb0, gb1, gb2⟩ := kk_
          replace gc := gc.on hbw13; clear gc0 gc1 gc2; have kk_ := gc; obtain ⟨gc0, gc1, gc2⟩ := kk_
          have Bw13 := bel_trans Bw12 hbw13
          clear hbw13
          rw [E3.out, E4.out]
          go_wp2
          go_ret
          exact ⟨by first | rfl | simp, Bw13⟩
  | true =>
    have HP := Lib.hid (inv_law (P := P3) (Q := Q3) (G := R3) (a := u3) (by rw [← HZ.out]; exact hz2))
    rw [← HZ.out] at HP
    go_wp2_with fail
    refine (i_ProductIn P3 Q3 R3 u3 Z.1 _).mono ?_; rintro e w10 ⟨rfl, hbw10⟩
    replace ga := ga.on hbw10; clear ga0 ga1 ga2; have kk_ := ga; obtain ⟨ga0, ga1, ga2⟩ := kk_
    replace gb := gb.on hbw10; clear gb0 gb1 gb2; have kk_ := gb; obtain ⟨gb0, gb1, gb2⟩ := kk_
    replace gc := gc.on hbw10; clear gc0 gc1 gc2; have kk_ := gc; obtain ⟨gc0, gc1, gc2⟩ := kk_
    have Bw10 := bel_trans Bw9 hbw10
    clear hbw10
    rw [HP.out]
    cases hy2 : Y2 with
    | false =>
      cases hy1 : Y1 with
      | false =>
        cases hx2 : X.2 with
        | false =>
          go_wp2
          go_ret
          exact ⟨by first | rfl | simp, Bw10⟩
        | true =>
          have hx3 : (elFor P Q R n).2 = true := by rw [← HX.out]; exact hx2
          obtain ⟨n1, n2, qb1, qb2⟩ := elFor_le hx3
          have en : IntKind.i64.wrap (n + Q) = n + Q := IntWalk.i64_in _ (by omega)
          have en1 : IntKind.i64.wrap (n + 1) = n + 1 := IntWalk.i64_in _ (by omega)
          have hx3h := Lib.hid hx3; clear hx3
          by_cases hnq : 1000000000 < n + Q
          · have hnqb : decide (1000000000 < n + Q) = true := decide_eq_true hnq
            go_wp2
            go_ret
            exact ⟨by first | rfl | simp, Bw10⟩
          · obtain ⟨e1, ⟨y, e2, hne⟩, e3, e4⟩ := el_law hx3h.out (by omega)
            rw [← HX.out] at e1 hne e4
            have hneb : (y != X.1) = true := by simpa using hne
            have hneb2 : (y == X.1) = false := by simpa using hne
            have E1 := Lib.hid e1; have E2 := Lib.hid e2; have E3 := Lib.hid e3; have E4 := Lib.hid e4; clear e1 e2 e3 e4 hne
            go_wp2_with fail
            refine (i_ElementFor P Q R (n + Q) _ (by unfold Fits; omega)).mono ?_; rintro e w11 ⟨rfl, hbw11⟩
            replace ga := ga.on hbw11; clear ga0 ga1 ga2; have kk_ := ga; obtain ⟨ga0, ga1, ga2⟩ := kk_
            replace gb := gb.on hbw11; clear gb0 gb1 gb2; have kk_ := gb; obtain ⟨gb0, gb1, gb2⟩ := kk_
            replace gc := gc.on hbw11; clear gc0 gc1 gc2; have kk_ := gc; obtain ⟨gc0, gc1, gc2⟩ := kk_
            have Bw11 := bel_trans Bw10 hbw11
            clear hbw11
            rw [E1.out]
            go_wp2_with fail
            refine (i_ElementFor P Q R (n + 1) _ (by unfold Fits; omega)).mono ?_; rintro e w12 ⟨rfl, hbw12⟩
            replace ga := ga.on hbw12; clear ga0 ga1 ga2; have kk_ := ga; obtain ⟨ga0, ga1, ga2⟩ := kk_
            replace gb := gb.on hbw12; clear gb0 gb1 gb2; have kk_ := gb; obtain ⟨gb0, gb1, gb2⟩ := kk_
            replace gc := gc.on hbw12; clear gc0 gc1 gc2; have kk_ := gc; obtain ⟨gc0, gc1, gc2⟩ := kk_
            have Bw12 := bel_trans Bw11 hbw12
            clear hbw12
            rw [E2.out]
            go_wp2_with fail
            refine (i_IsElement P Q R X.1 _).mono ?_; rintro e w13 ⟨rfl, hbw13⟩
            replace ga := ga.on hbw13; clear ga0 ga1 ga2; have kk_ := ga; obtain ⟨ga0, ga1, ga2⟩ := kk_
            replace gb := gb.on hbw13; clear gb0 gb1 gb2; have kk_ := gb; obtain ⟨gb0, gb1, gb2⟩ := kk_
            replace gc := gc.on hbw13; clear gc0 gc1 gc2; have kk_ := gc; obtain ⟨gc0, gc1, gc2⟩ := kk_
            have Bw13 := bel_trans Bw12 hbw13
            clear hbw13
            rw [E3.out, E4.out]
            go_wp2
            go_ret
            exact ⟨by first | rfl | simp, Bw13⟩
      | true =>
        cases hx2 : X.2 with
        | false =>
          go_wp2
          go_ret
          exact ⟨by first | rfl | simp, Bw10⟩
        | true =>
          have hx3 : (elFor P Q R n).2 = true := by rw [← HX.out]; exact hx2
          obtain ⟨n1, n2, qb1, qb2⟩ := elFor_le hx3
          have en : IntKind.i64.wrap (n + Q) = n + Q := IntWalk.i64_in _ (by omega)
          have en1 : IntKind.i64.wrap (n + 1) = n + 1 := IntWalk.i64_in _ (by omega)
          have hx3h := Lib.hid hx3; clear hx3
          by_cases hnq : 1000000000 < n + Q
          · have hnqb : decide (1000000000 < n + Q) = true := decide_eq_true hnq
            go_wp2
            go_ret
            exact ⟨by first | rfl | simp, Bw10⟩
          · obtain ⟨e1, ⟨y, e2, hne⟩, e3, e4⟩ := el_law hx3h.out (by omega)
            rw [← HX.out] at e1 hne e4
            have hneb : (y != X.1) = true := by simpa using hne
            have hneb2 : (y == X.1) = false := by simpa using hne
            have E1 := Lib.hid e1; have E2 := Lib.hid e2; have E3 := Lib.hid e3; have E4 := Lib.hid e4; clear e1 e2 e3 e4 hne
            go_wp2_with fail
            refine (i_ElementFor P Q R (n + Q) _ (by unfold Fits; omega)).mono ?_; rintro e w11 ⟨rfl, hbw11⟩
            replace ga := ga.on hbw11; clear ga0 ga1 ga2; have kk_ := ga; obtain ⟨ga0, ga1, ga2⟩ := kk_
            replace gb := gb.on hbw11; clear gb0 gb1 gb2; have kk_ := gb; obtain ⟨gb0, gb1, gb2⟩ := kk_
            replace gc := gc.on hbw11; clear gc0 gc1 gc2; have kk_ := gc; obtain ⟨gc0, gc1, gc2⟩ := kk_
            have Bw11 := bel_trans Bw10 hbw11
            clear hbw11
            rw [E1.out]
            go_wp2_with fail
            refine (i_ElementFor P Q R (n + 1) _ (by unfold Fits; omega)).mono ?_; rintro e w12 ⟨rfl, hbw12⟩
            replace ga := ga.on hbw12; clear ga0 ga1 ga2; have kk_ := ga; obtain ⟨ga0, ga1, ga2⟩ := kk_
            replace gb := gb.on hbw12; clear gb0 gb1 gb2; have kk_ := gb; obtain ⟨gb0, gb1, gb2⟩ := kk_
            replace gc := gc.on hbw12; clear gc0 gc1 gc2; have kk_ := gc; obtain ⟨gc0, gc1, gc2⟩ := kk_
            have Bw12 := bel_trans Bw11 hbw12
            clear hbw12
            rw [E2.out]
            go_wp2_with fail
            refine (i_IsElement P Q R X.1 _).mono ?_; rintro e w13 ⟨rfl, hbw13⟩
            replace ga := ga.on hbw13; clear ga0 ga1 ga2; have kk_ := ga; obtain ⟨ga0, ga1, ga2⟩ := kk_
            replace gb := gb.on hbw13; clear gb0 gb1 gb2; have kk_ := gb; obtain ⟨gb0, gb1, gb2⟩ := kk_
            replace gc := gc.on hbw13; clear gc0 gc1 gc2; have kk_ := gc; obtain ⟨gc0, gc1, gc2⟩ := kk_
            have Bw13 := bel_trans Bw12 hbw13
            clear hbw13
            rw [E3.out, E4.out]
            go_wp2
            go_ret
            exact ⟨by first | rfl | simp, Bw13⟩
    | true =>
      have hy1 : Y1 = true := by have := HY2.out; rw [hy2] at this; exact (Bool.and_eq_true_iff.1 this.symm).1
      have HM := Lib.hid (elOf_mem (P := P2) (Q := Q2) (G := R2) (a := u2) (by rw [← HY1.out]; exact hy1) (by have := HY2.out; rw [hy2, hy1] at this; exact this.symm))
      have HG2 : Hid (grB P2 Q2 R2 = true) := by show _ = _; rw [← HY1.out]; exact hy1
      subst hy1
      go_wp2_with fail
      refine (i_ElementsOf _ _ _ _).mono ?_; rintro e w11 ⟨l1, l2, rfl, ml, hbw11⟩
      replace ga := ga.on hbw11; clear ga0 ga1 ga2; have kk_ := ga; obtain ⟨ga0, ga1, ga2⟩ := kk_
      replace gb := gb.on hbw11; clear gb0 gb1 gb2; have kk_ := gb; obtain ⟨gb0, gb1, gb2⟩ := kk_
      replace gc := gc.on hbw11; clear gc0 gc1 gc2; have kk_ := gc; obtain ⟨gc0, gc1, gc2⟩ := kk_
      have Bw11 := bel_trans Bw10 hbw11
      clear hbw11
      rw [HG2.out]
      have il := Lib.hid ml.ints; clear ml
      go_wp2_with fail
      refine (l_qHas _ _ _ _ _ _ il.out HM.out).mono ?_; rintro e wq ⟨rfl, rfl⟩
      clear il
      cases hx2 : X.2 with
      | false =>
        go_wp2
        go_ret
        exact ⟨by first | rfl | simp, Bw11⟩
      | true =>
        have hx3 : (elFor P Q R n).2 = true := by rw [← HX.out]; exact hx2
        obtain ⟨n1, n2, qb1, qb2⟩ := elFor_le hx3
        have en : IntKind.i64.wrap (n + Q) = n + Q := IntWalk.i64_in _ (by omega)
        have en1 : IntKind.i64.wrap (n + 1) = n + 1 := IntWalk.i64_in _ (by omega)
        have hx3h := Lib.hid hx3; clear hx3
        by_cases hnq : 1000000000 < n + Q
        · have hnqb : decide (1000000000 < n + Q) = true := decide_eq_true hnq
          go_wp2
          go_ret
          exact ⟨by first | rfl | simp, Bw11⟩
        · obtain ⟨e1, ⟨y, e2, hne⟩, e3, e4⟩ := el_law hx3h.out (by omega)
          rw [← HX.out] at e1 hne e4
          have hneb : (y != X.1) = true := by simpa using hne
          have hneb2 : (y == X.1) = false := by simpa using hne
          have E1 := Lib.hid e1; have E2 := Lib.hid e2; have E3 := Lib.hid e3; have E4 := Lib.hid e4; clear e1 e2 e3 e4 hne
          go_wp2_with fail
          refine (i_ElementFor P Q R (n + Q) _ (by unfold Fits; omega)).mono ?_; rintro e w12 ⟨rfl, hbw12⟩
          replace ga := ga.on hbw12; clear ga0 ga1 ga2; have kk_ := ga; obtain ⟨ga0, ga1, ga2⟩ := kk_
          replace gb := gb.on hbw12; clear gb0 gb1 gb2; have kk_ := gb; obtain ⟨gb0, gb1, gb2⟩ := kk_
          replace gc := gc.on hbw12; clear gc0 gc1 gc2; have kk_ := gc; obtain ⟨gc0, gc1, gc2⟩ := kk_
          have Bw12 := bel_trans Bw11 hbw12
          clear hbw12
          rw [E1.out]
          go_wp2_with fail
          refine (i_ElementFor P Q R (n + 1) _ (by unfold Fits; omega)).mono ?_; rintro e w13 ⟨rfl, hbw13⟩
          replace ga := ga.on hbw13; clear ga0 ga1 ga2; have kk_ := ga; obtain ⟨ga0, ga1, ga2⟩ := kk_
          replace gb := gb.on hbw13; clear gb0 gb1 gb2; have kk_ := gb; obtain ⟨gb0, gb1, gb2⟩ := kk_
          replace gc := gc.on hbw13; clear gc0 gc1 gc2; have kk_ := gc; obtain ⟨gc0, gc1, gc2⟩ := kk_
          have Bw13 := bel_trans Bw12 hbw13
          clear hbw13
          rw [E2.out]
          go_wp2_with fail
          refine (i_IsElement P Q R X.1 _).mono ?_; rintro e w14 ⟨rfl, hbw14⟩
          replace ga := ga.on hbw14; clear ga0 ga1 ga2; have kk_ := ga; obtain ⟨ga0, ga1, ga2⟩ := kk_
          replace gb := gb.on hbw14; clear gb0 gb1 gb2; have kk_ := gb; obtain ⟨gb0, gb1, gb2⟩ := kk_
          replace gc := gc.on hbw14; clear gc0 gc1 gc2; have kk_ := gc; obtain ⟨gc0, gc1, gc2⟩ := kk_
          have Bw14 := bel_trans Bw13 hbw14
          clear hbw14
          rw [E3.out, E4.out]
          go_wp2
          go_ret
          exact ⟨by first | rfl | simp, Bw14⟩
end Go.Proofs.Ytklgneaamhjfpaa
