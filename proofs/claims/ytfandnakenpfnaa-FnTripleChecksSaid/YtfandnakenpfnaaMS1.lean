/-
  The walk of the law FnTripleChecks.
-/
import Derived.Test.YtfandnakenpfnaaCy
import Derived.Test.YtfandnakenpfnaaPm
import Derived.Test.YtfandnakenpfnaaM2
import Derived.Test.YtfandnakenpfnaaM5
import Derived.Test.YtfandnakenpfnaaD4
namespace Go.Proofs.Ytfandnakenpfnaa
open Go.RowKit
set_option linter.unusedVariables false
set_option linter.unusedSimpArgs false
set_option maxRecDepth 100000

set_option maxHeartbeats 8000000 in
theorem law_FnTripleChecks (a0 : Option Addr) (n0 c0 : Nat) (z0 : List Int) (a1 : Option Addr) (n1 c1 : Nat) (z1 : List Int) (w : World) (h0 : BytesIn w a0 n0 c0 z0) (h1 : BytesIn w a1 n1 c1 z1) :
    Calls Try.prog 3 #[.slice a0 n0 c0, .slice a1 n1 c1] w fun e w' => e = .returned (.bool true) ∧ Below w.heap.size w w' := by
  have hn0 := h0.small; have hn1 := h1.small
  have hB : Byts w a1 n1 c1 := h1
  have hA : Byts w a0 n0 c0 := h0
  clear h0 h1
  obtain ⟨G, hG⟩ : ∃ G, IntKind.i64.wrap ((n0 : Int) + (n1 : Int)) = G := ⟨_, rfl⟩
  by_cases hg : 1048576 < G
  · go_enter Try.func3, Try.ntmps3
    go_wp2
    go_ret
    exact ⟨rfl, Below.refl _ _⟩
  go_enter Try.func3, Try.ntmps3
  go_wp2_with fail
  refine (s_DrawTripleFor _ _ _ _ hA).mono ?_; rintro e w1 ⟨p, k, i, rfl, dp, dk, di, hbw1⟩
  replace hB := hB.below hbw1
  replace hA := hA.below hbw1
  have Bw1 := bel_trans (Below.refl w.heap.size w) hbw1
  clear hbw1
  clear hA
  obtain ⟨x, hx⟩ : ∃ x, x = tripleFor p k i := ⟨_, rfl⟩; have HX := Lib.hid hx; clear hx
  go_wp2_with fail
  refine (i_TripleFor _ _ _ _ dp.fits dk.fits di.fits).mono ?_; rintro e w2 ⟨r1, e1, r2, e2, m1, rfl, X1, X2, -, -, -, hbw2⟩
  replace hB := hB.below hbw2
  have Bw2 := bel_trans Bw1 hbw2
  clear hbw2
  rw [← HX.out] at X1 X2 ⊢
  go_wp2_with fail
  refine (s_TripleFor _ _ _ _ dp.fits dk.fits di.fits).mono ?_; rintro e w3 ⟨r3, e3, r4, e4, m2, rfl, X3, X4, -, -, -, hbw3⟩
  replace hB := hB.below hbw3
  replace X1 := X1.below hbw3
  replace X2 := X2.below hbw3
  have Bw3 := bel_trans Bw2 hbw3
  clear hbw3
  rw [← HX.out] at X3 X4 ⊢
  go_wp2_with fail
  refine (s_DrawPassingChecks _ _ _ _ hB).mono ?_; rintro e w4 ⟨q, sr, sn, sc, sx, tr, tn, tc, tx, ur, un, uc, ux, vr, vn, vc, vx, rfl, dq, M1, M2, M3, M4, hbw4⟩
  replace hB := hB.below hbw4
  replace X1 := X1.below hbw4
  replace X2 := X2.below hbw4
  replace X3 := X3.below hbw4
  replace X4 := X4.below hbw4
  have Bw4 := bel_trans Bw3 hbw4
  clear hbw4
  clear hB
  obtain ⟨y, hy⟩ : ∃ x, x = passingChecks q sx tx ux vx := ⟨_, rfl⟩; have HY := Lib.hid hy; clear hy
  go_wp2_with fail
  refine (i_PassingChecks _ _ _ _ _ _ _ _ _ _ _ _ _ _ _ _ _ _ dq.fits M1.ints M2.ints M3.ints M4.ints).mono ?_; rintro e w5 ⟨rfl, hbw5⟩
  replace X1 := X1.below hbw5
  replace X2 := X2.below hbw5
  replace X3 := X3.below hbw5
  replace X4 := X4.below hbw5
  replace M1 := M1.below hbw5
  replace M2 := M2.below hbw5
  replace M3 := M3.below hbw5
  replace M4 := M4.below hbw5
  have Bw5 := bel_trans Bw4 hbw5
  clear hbw5
  rw [← HY.out]
  go_wp2_with fail
  refine (s_PassingChecks _ _ _ _ _ _ _ _ _ _ _ _ _ _ _ _ _ _ dq.fits M1.ints M2.ints M3.ints M4.ints).mono ?_; rintro e w6 ⟨rfl, hbw6⟩
  replace X1 := X1.below hbw6
  replace X2 := X2.below hbw6
  replace X3 := X3.below hbw6
  replace X4 := X4.below hbw6
  replace M1 := M1.below hbw6
  replace M2 := M2.below hbw6
  replace M3 := M3.below hbw6
  replace M4 := M4.below hbw6
  have Bw6 := bel_trans Bw5 hbw6
  clear hbw6
  rw [← HY.out]
  go_wp2_with fail
  refine (l_qInts _ _ _ _ _ _ _ X1.ints X3.ints).mono ?_; rintro e w7 ⟨rfl, hbw7⟩
  replace X1 := X1.below hbw7
  replace X2 := X2.below hbw7
  replace X3 := X3.below hbw7
  replace X4 := X4.below hbw7
  replace M1 := M1.below hbw7
  replace M2 := M2.below hbw7
  replace M3 := M3.below hbw7
  replace M4 := M4.below hbw7
  have Bw7 := bel_trans Bw6 hbw7
  clear hbw7
  go_wp2_with fail
  refine (l_qInts _ _ _ _ _ _ _ X2.ints X4.ints).mono ?_; rintro e w8 ⟨rfl, hbw8⟩
  replace X1 := X1.below hbw8
  replace X2 := X2.below hbw8
  replace X3 := X3.below hbw8
  replace X4 := X4.below hbw8
  replace M1 := M1.below hbw8
  replace M2 := M2.below hbw8
  replace M3 := M3.below hbw8
  replace M4 := M4.below hbw8
  have Bw8 := bel_trans Bw7 hbw8
  clear hbw8
  clear X3 X4
  cases hy2 : y.2 with
  | false =>
    clear M1 M2 M3 M4
    cases hx2 : x.2.2 with
    | false =>
      go_wp2
      go_ret
      exact ⟨by first | rfl | simp, Bw8⟩
    | true =>
      have T := Lib.hid (tripleFor_is (p := p) (key := k) (i := i) (by rw [← HX.out]; exact hx2))
      go_wp2_with fail
      refine (i_IsTriple _ _ _ _ _ _ _ _ _ _ dp.fits X1.ints X2.ints).mono ?_; rintro e w9 ⟨rfl, hbw9⟩
      replace X1 := X1.below hbw9
      replace X2 := X2.below hbw9
      have Bw9 := bel_trans Bw8 hbw9
      clear hbw9
      rw [HX.out, T.out]
      go_wp2
      go_ret
      exact ⟨by first | rfl | simp, Bw9⟩
  | true =>
    obtain ⟨L1, L2, hq1, hq2, L3, L4, L5⟩ := passing_law (p := q) (s := sx) (t := tx) (u := ux) (v := vx) (by rw [← HY.out]; exact hy2)
    obtain ⟨k1, hk1⟩ : ∃ b, isTriple q sx tx = (b, true) := ⟨_, Prod.ext rfl L1⟩; obtain ⟨k2, hk2⟩ : ∃ b, isTriple q ux vx = (b, true) := ⟨_, Prod.ext rfl L2⟩
    rw [← HY.out, hk1] at L3; rw [← HY.out, hk1, hk2] at L4 L5; clear L1 L2; have K1 := Lib.hid hk1; have K2 := Lib.hid hk2; clear hk1 hk2; dsimp only at L3 L4 L5
    go_wp2_with fail
    refine (i_IsTriple _ _ _ _ _ _ _ _ _ _ dq.fits M1.ints M2.ints).mono ?_; rintro e w9 ⟨rfl, hbw9⟩
    replace X1 := X1.below hbw9
    replace X2 := X2.below hbw9
    replace M1 := M1.below hbw9
    replace M2 := M2.below hbw9
    replace M3 := M3.below hbw9
    replace M4 := M4.below hbw9
    have Bw9 := bel_trans Bw8 hbw9
    clear hbw9
    rw [K1.out]
    go_wp2_with fail
    refine (i_IsTriple _ _ _ _ _ _ _ _ _ _ dq.fits M3.ints M4.ints).mono ?_; rintro e w10 ⟨rfl, hbw10⟩
    replace X1 := X1.below hbw10
    replace X2 := X2.below hbw10
    replace M1 := M1.below hbw10
    replace M2 := M2.below hbw10
    replace M3 := M3.below hbw10
    replace M4 := M4.below hbw10
    have Bw10 := bel_trans Bw9 hbw10
    clear hbw10
    rw [K2.out]
    go_wp2_with fail
    refine (s_IsTriple _ _ _ _ _ _ _ _ _ _ dq.fits M1.ints M2.ints).mono ?_; rintro e w11 ⟨rfl, hbw11⟩
    replace X1 := X1.below hbw11
    replace X2 := X2.below hbw11
    replace M1 := M1.below hbw11
    replace M2 := M2.below hbw11
    replace M3 := M3.below hbw11
    replace M4 := M4.below hbw11
    have Bw11 := bel_trans Bw10 hbw11
    clear hbw11
    rw [K1.out]
    go_wp2_with fail
    refine (s_IsTriple _ _ _ _ _ _ _ _ _ _ dq.fits M3.ints M4.ints).mono ?_; rintro e w12 ⟨rfl, hbw12⟩
    replace X1 := X1.below hbw12
    replace X2 := X2.below hbw12
    replace M1 := M1.below hbw12
    replace M2 := M2.below hbw12
    replace M3 := M3.below hbw12
    replace M4 := M4.below hbw12
    have Bw12 := bel_trans Bw11 hbw12
    clear hbw12
    rw [K2.out]
    clear M1 M2 M3 M4
    cases k1 with
    | false =>
      have v1 := L3 rfl; clear L3 L4 L5
      cases k2 with
      | false =>
        cases hx2 : x.2.2 with
        | false =>
          go_wp2
          go_ret
          exact ⟨by first | rfl | simp, Bw12⟩
        | true =>
          have T := Lib.hid (tripleFor_is (p := p) (key := k) (i := i) (by rw [← HX.out]; exact hx2))
          go_wp2_with fail
          refine (i_IsTriple _ _ _ _ _ _ _ _ _ _ dp.fits X1.ints X2.ints).mono ?_; rintro e w13 ⟨rfl, hbw13⟩
          replace X1 := X1.below hbw13
          replace X2 := X2.below hbw13
          have Bw13 := bel_trans Bw12 hbw13
          clear hbw13
          rw [HX.out, T.out]
          go_wp2
          go_ret
          exact ⟨by first | rfl | simp, Bw13⟩
      | true =>
        cases hx2 : x.2.2 with
        | false =>
          go_wp2
          go_ret
          exact ⟨by first | rfl | simp, Bw12⟩
        | true =>
          have T := Lib.hid (tripleFor_is (p := p) (key := k) (i := i) (by rw [← HX.out]; exact hx2))
          go_wp2_with fail
          refine (i_IsTriple _ _ _ _ _ _ _ _ _ _ dp.fits X1.ints X2.ints).mono ?_; rintro e w13 ⟨rfl, hbw13⟩
          replace X1 := X1.below hbw13
          replace X2 := X2.below hbw13
          have Bw13 := bel_trans Bw12 hbw13
          clear hbw13
          rw [HX.out, T.out]
          go_wp2
          go_ret
          exact ⟨by first | rfl | simp, Bw13⟩
    | true =>
      cases k2 with
      | false =>
        have v1 := L5 rfl rfl; clear L3 L4 L5
        cases hx2 : x.2.2 with
        | false =>
          go_wp2
          go_ret
          exact ⟨by first | rfl | simp, Bw12⟩
        | true =>
          have T := Lib.hid (tripleFor_is (p := p) (key := k) (i := i) (by rw [← HX.out]; exact hx2))
          go_wp2_with fail
          refine (i_IsTriple _ _ _ _ _ _ _ _ _ _ dp.fits X1.ints X2.ints).mono ?_; rintro e w13 ⟨rfl, hbw13⟩
          replace X1 := X1.below hbw13
          replace X2 := X2.below hbw13
          have Bw13 := bel_trans Bw12 hbw13
          clear hbw13
          rw [HX.out, T.out]
          go_wp2
          go_ret
          exact ⟨by first | rfl | simp, Bw13⟩
      | true =>
        have v1 := L4 rfl rfl; clear L3 L4 L5
        cases hx2 : x.2.2 with
        | false =>
          go_wp2
          go_ret
          exact ⟨by first | rfl | simp, Bw12⟩
        | true =>
          have T := Lib.hid (tripleFor_is (p := p) (key := k) (i := i) (by rw [← HX.out]; exact hx2))
          go_wp2_with fail
          refine (i_IsTriple _ _ _ _ _ _ _ _ _ _ dp.fits X1.ints X2.ints).mono ?_; rintro e w13 ⟨rfl, hbw13⟩
          replace X1 := X1.below hbw13
          replace X2 := X2.below hbw13
          have Bw13 := bel_trans Bw12 hbw13
          clear hbw13
          rw [HX.out, T.out]
          go_wp2
          go_ret
          exact ⟨by first | rfl | simp, Bw13⟩
end Go.Proofs.Ytfandnakenpfnaa
