/-
  The walk of the law FnMasks.
-/
import Derived.Test.YtfandnakenpfnaaCy
import Derived.Test.YtfandnakenpfnaaPm
import Derived.Test.YtfandnakenpfnaaM2
import Derived.Test.YtfandnakenpfnaaM3
import Derived.Test.YtfandnakenpfnaaM4
import Derived.Test.YtfandnakenpfnaaM5
namespace Go.Proofs.Ytfandnakenpfnaa
open Go.RowKit
set_option linter.unusedVariables false
set_option linter.unusedSimpArgs false
set_option maxRecDepth 100000

set_option maxHeartbeats 8000000 in
theorem law_FnMasks (a0 : Option Addr) (n0 c0 : Nat) (z0 : List Int) (a1 : Option Addr) (n1 c1 : Nat) (z1 : List Int) (w : World) (h0 : BytesIn w a0 n0 c0 z0) (h1 : BytesIn w a1 n1 c1 z1) :
    Calls Try.prog 4 #[.slice a0 n0 c0, .slice a1 n1 c1] w fun e w' => e = .returned (.bool true) ∧ Below w.heap.size w w' := by
  have hn0 := h0.small; have hn1 := h1.small
  have hB : Byts w a1 n1 c1 := h1
  have hA : Byts w a0 n0 c0 := h0
  clear h0 h1
  obtain ⟨G, hG⟩ : ∃ G, IntKind.i64.wrap ((n0 : Int) + (n1 : Int)) = G := ⟨_, rfl⟩
  by_cases hg : 1048576 < G
  · go_enter Try.func4, Try.ntmps4
    go_wp2
    go_ret
    exact ⟨rfl, Below.refl _ _⟩
  go_enter Try.func4, Try.ntmps4
  go_wp2_with fail
  refine (s_DrawOpenWays _ _ _ _ hA).mono ?_; rintro e w1 ⟨p, x, y, d, ee, rfl, dp, dx, dy, dd, de, hbw1⟩
  replace hB := hB.below hbw1
  replace hA := hA.below hbw1
  have Bw1 := bel_trans (Below.refl w.heap.size w) hbw1
  clear hbw1
  clear hA
  obtain ⟨N, hN⟩ : ∃ zz_, zz_ = openWays p x y d ee := ⟨_, rfl⟩; have HN := Lib.hid hN; clear hN
  go_wp2_with fail
  refine (i_OpenWays _ _ _ _ _ _ dp.fits dx.fits dy.fits dd.fits de.fits).mono ?_; rintro e w2 ⟨rfl, hbw2⟩
  replace hB := hB.below hbw2
  have Bw2 := bel_trans Bw1 hbw2
  clear hbw2
  rw [← HN.out]
  go_wp2_with fail
  refine (s_OpenWays _ _ _ _ _ _ dp.fits dx.fits dy.fits dd.fits de.fits).mono ?_; rintro e w3 ⟨rfl, hbw3⟩
  replace hB := hB.below hbw3
  have Bw3 := bel_trans Bw2 hbw3
  clear hbw3
  rw [← HN.out]
  go_wp2_with fail
  refine (s_DrawMaskPair _ _ _ _ hB).mono ?_; rintro e w4 ⟨q, sr, sn, sc, sx, u, v, rfl, dq, S1, du, dv, hbw4⟩
  replace hB := hB.below hbw4
  have Bw4 := bel_trans Bw3 hbw4
  clear hbw4
  obtain ⟨Y, hY⟩ : ∃ zz_, zz_ = maskPair q sx u v := ⟨_, rfl⟩; have HY := Lib.hid hY; clear hY
  go_wp2_with fail
  refine (i_MaskPair _ _ _ _ _ _ _ _ dq.fits S1.ints du.fits dv.fits).mono ?_; rintro e w5 ⟨r1, e1, rfl, Y1, hbw5⟩
  replace hB := hB.below hbw5
  replace S1 := S1.below hbw5
  have Bw5 := bel_trans Bw4 hbw5
  clear hbw5
  rw [← HY.out] at Y1 ⊢
  go_wp2_with fail
  refine (s_MaskPair _ _ _ _ _ _ _ _ dq.fits S1.ints du.fits dv.fits).mono ?_; rintro e w6 ⟨r2, e2, rfl, Y2, hbw6⟩
  replace hB := hB.below hbw6
  replace S1 := S1.below hbw6
  replace Y1 := Y1.below hbw6
  have Bw6 := bel_trans Bw5 hbw6
  clear hbw6
  rw [← HY.out] at Y2 ⊢
  go_wp2_with fail
  refine (s_DrawProductShare _ _ _ _ hB).mono ?_; rintro e w7 ⟨r, pa, tr, tn, tc, tx, f, h, rfl, dr, dpa, T1, df, dh, hbw7⟩
  replace hB := hB.below hbw7
  replace S1 := S1.below hbw7
  replace Y1 := Y1.below hbw7
  replace Y2 := Y2.below hbw7
  have Bw7 := bel_trans Bw6 hbw7
  clear hbw7
  obtain ⟨Z, hZ⟩ : ∃ zz_, zz_ = productShare r pa tx f h := ⟨_, rfl⟩; have HZ := Lib.hid hZ; clear hZ
  go_wp2_with fail
  refine (i_ProductShare _ _ _ _ _ _ _ _ _ dr.fits dpa.fits T1.ints df.fits dh.fits).mono ?_; rintro e w8 ⟨rfl, hbw8⟩
  replace hB := hB.below hbw8
  replace S1 := S1.below hbw8
  replace Y1 := Y1.below hbw8
  replace Y2 := Y2.below hbw8
  replace T1 := T1.below hbw8
  have Bw8 := bel_trans Bw7 hbw8
  clear hbw8
  rw [← HZ.out]
  go_wp2_with fail
  refine (s_ProductShare _ _ _ _ _ _ _ _ _ dr.fits dpa.fits T1.ints df.fits dh.fits).mono ?_; rintro e w9 ⟨rfl, hbw9⟩
  replace hB := hB.below hbw9
  replace S1 := S1.below hbw9
  replace Y1 := Y1.below hbw9
  replace Y2 := Y2.below hbw9
  replace T1 := T1.below hbw9
  have Bw9 := bel_trans Bw8 hbw9
  clear hbw9
  rw [← HZ.out]
  clear T1
  go_wp2_with fail
  refine (s_DrawCheckTriple _ _ _ _ hB).mono ?_; rintro e w10 ⟨k, ar, an, ac, ax, br, bn, bc, bx, cr, cn, cc, cx, jr, jn, jc, jx, o, rfl, dk, M1, M2, M3, M4, do_, hbw10⟩
  replace hB := hB.below hbw10
  replace S1 := S1.below hbw10
  replace Y1 := Y1.below hbw10
  replace Y2 := Y2.below hbw10
  have Bw10 := bel_trans Bw9 hbw10
  clear hbw10
  clear hB
  obtain ⟨C, hC⟩ : ∃ zz_, zz_ = checkTriple k ax bx cx jx o := ⟨_, rfl⟩; have HC := Lib.hid hC; clear hC
  go_wp2_with fail
  refine (i_CheckTriple _ _ _ _ _ _ _ _ _ _ _ _ _ _ _ _ _ _ _ dk.fits M1.ints M2.ints M3.ints M4.ints do_.fits).mono ?_; rintro e w11 ⟨rfl, hbw11⟩
  replace S1 := S1.below hbw11
  replace Y1 := Y1.below hbw11
  replace Y2 := Y2.below hbw11
  replace M1 := M1.below hbw11
  replace M2 := M2.below hbw11
  replace M3 := M3.below hbw11
  replace M4 := M4.below hbw11
  have Bw11 := bel_trans Bw10 hbw11
  clear hbw11
  rw [← HC.out]
  go_wp2_with fail
  refine (s_CheckTriple _ _ _ _ _ _ _ _ _ _ _ _ _ _ _ _ _ _ _ dk.fits M1.ints M2.ints M3.ints M4.ints do_.fits).mono ?_; rintro e w12 ⟨rfl, hbw12⟩
  replace S1 := S1.below hbw12
  replace Y1 := Y1.below hbw12
  replace Y2 := Y2.below hbw12
  replace M1 := M1.below hbw12
  replace M2 := M2.below hbw12
  replace M3 := M3.below hbw12
  replace M4 := M4.below hbw12
  have Bw12 := bel_trans Bw11 hbw12
  clear hbw12
  rw [← HC.out]
  cases hn2 : N.2 with
  | false =>
    cases hy2 : Y.2 with
    | false =>
      go_wp2_with fail
      refine (l_qInts _ _ _ _ _ _ _ Y1.ints Y2.ints).mono ?_; rintro e w13 ⟨rfl, hbw13⟩
      replace S1 := S1.below hbw13
      replace Y1 := Y1.below hbw13
      replace Y2 := Y2.below hbw13
      replace M1 := M1.below hbw13
      replace M2 := M2.below hbw13
      replace M3 := M3.below hbw13
      replace M4 := M4.below hbw13
      have Bw13 := bel_trans Bw12 hbw13
      clear hbw13
      clear Y1 Y2 S1
      cases hc2 : C.2 with
      | false =>
        go_wp2
        go_ret
        exact ⟨by first | rfl | simp, Bw13⟩
      | true =>
        cases hc1 : C.1 with
        | true =>
          go_wp2
          go_ret
          exact ⟨by first | rfl | simp, Bw13⟩
        | false =>
          obtain ⟨L1, L2⟩ := check_law (p := k) (s := ax) (t := bx) (u := cx) (v := jx) (r := o) (by rw [← HC.out]; exact hc2) (by rw [← HC.out]; exact hc1)
          obtain ⟨V, hV⟩ : ∃ V, passingChecks k ax bx cx jx = (V, true) := ⟨_, Prod.ext rfl L1⟩
          rw [hV] at L2; have HV := Lib.hid hV; clear hV L1; replace L2 : V < k := L2
          go_wp2_with fail
          refine (i_PassingChecks _ _ _ _ _ _ _ _ _ _ _ _ _ _ _ _ _ _ dk.fits M1.ints M2.ints M3.ints M4.ints).mono ?_; rintro e w14 ⟨rfl, hbw14⟩
          replace M1 := M1.below hbw14
          replace M2 := M2.below hbw14
          replace M3 := M3.below hbw14
          replace M4 := M4.below hbw14
          have Bw14 := bel_trans Bw13 hbw14
          clear hbw14
          rw [HV.out]; dsimp only
          go_wp2
          go_ret
          exact ⟨by first | rfl | simp, Bw14⟩
    | true =>
      obtain ⟨m0, m1, k1, k2, k3, k4, k5, p1, p2, b0, b1, q0, q1⟩ := mask_law (p := q) (x := u) (y := v) (s := sx) (by rw [← HY.out]; exact hy2)
      obtain ⟨s0, s1, s2, rfl⟩ := len3 k5; rw [← HY.out] at k1
      replace k3 : (m0 + s0) % q = u := k3; replace k4 : (m1 + s1) % q = v := k4; replace q0 : 0 ≤ s0 ∧ s0 ≤ q - 1 := q0; replace q1 : 0 ≤ s1 ∧ s1 ≤ q - 1 := q1
      obtain ⟨Y, yb⟩ := Y; dsimp only at k1 hy2 Y1 Y2 ⊢; subst k1 hy2
      have K2 := Lib.hid k2; clear k2; simp only [List.length_cons, List.length_nil, Nat.zero_add, Nat.reduceAdd] at Y1 Y2 ⊢
      have fm0 : Fits m0 := by unfold Fits; omega
      have fm1 : Fits m1 := by unfold Fits; omega
      have w1 : IntKind.i64.wrap (m0 + s0) = m0 + s0 := IntWalk.i64_in _ (by omega)
      have w2 : IntKind.i64.wrap (m1 + s1) = m1 + s1 := IntWalk.i64_in _ (by omega)
      go_wp2_with fail
      refine (l_qInts _ _ _ _ _ _ _ Y1.ints Y2.ints).mono ?_; rintro e w13 ⟨rfl, hbw13⟩
      replace S1 := S1.below hbw13
      replace Y1 := Y1.below hbw13
      replace Y2 := Y2.below hbw13
      replace M1 := M1.below hbw13
      replace M2 := M2.below hbw13
      replace M3 := M3.below hbw13
      replace M4 := M4.below hbw13
      have Bw13 := bel_trans Bw12 hbw13
      clear hbw13
      clear Y1
      obtain ⟨_, yb, yo, rfl, d0, d1⟩ := Y2.ints.two
      have A0 := bel_alloc w13 (.cells #[.int .i64 0, .int .i64 0, .int .i64 0] 3); have LT := lit000 (w := w13) (t := 3) rfl
      have D1 := cell_on d1 A0; have D0 := cell_on d0 A0
      replace S1 := S1.below A0
      replace Y2 := Y2.below A0
      replace M1 := M1.below A0
      replace M2 := M2.below A0
      replace M3 := M3.below A0
      replace M4 := M4.below A0
      have BA := bel_trans Bw13 A0
      replace S1 := S1.below (bel_drew _)
      replace Y2 := Y2.below (bel_drew _)
      replace M1 := M1.below (bel_drew _)
      replace M2 := M2.below (bel_drew _)
      replace M3 := M3.below (bel_drew _)
      replace M4 := M4.below (bel_drew _)
      have BD := bel_trans BA (bel_drew _)
      replace LT := LT.below (bel_drew _); replace D0 := cell_on D0 (bel_drew _); replace D1 := cell_on D1 (bel_drew _)
      go_wp2_with fail
      go_region_held3 (fun W => W.cell? ⟨yb, yo, none⟩ = some (.int .i64 m0) ∧ W.cell? ⟨yb, yo + 1, none⟩ = some (.int .i64 m1)) (refine ⟨?_, ?_⟩ <;> first | assumption | exact cell_on D0 (bel_drew _) | exact cell_on D1 (bel_drew _)) (first | (go_at_call 19; refine (i_MaskPair _ _ _ _ [0, 0, 0] m0 m1 _ dq.fits LT.ints fm0 fm1).mono ?_; rintro e w14 ⟨r3, e3, rfl, Y3, hbw14⟩; rw [K2.out] at Y3 ⊢; simp only [List.length_cons, List.length_nil, Nat.zero_add, Nat.reduceAdd] at Y3 ⊢; have E0 := cell_on D0 hbw14; have E1 := cell_on D1 hbw14; have Bw14 := bel_trans BD hbw14))
      replace S1 := S1.below hbw14
      replace Y2 := Y2.below hbw14
      replace M1 := M1.below hbw14
      replace M2 := M2.below hbw14
      replace M3 := M3.below hbw14
      replace M4 := M4.below hbw14
      clear hbw14
      clear d0 d1 D0 D1 E0 E1
      obtain ⟨_, yb', yo', ye, d0, d1⟩ := Y2.ints.two; cases ye; obtain ⟨rfl, sb, so, rfl, f0, f1, f2⟩ := S1.ints.three; clear f2
      replace S1 := S1.below (bel_drew _)
      replace Y2 := Y2.below (bel_drew _)
      replace M1 := M1.below (bel_drew _)
      replace M2 := M2.below (bel_drew _)
      replace M3 := M3.below (bel_drew _)
      replace M4 := M4.below (bel_drew _)
      replace Y3 := Y3.below (bel_drew _)
      have BE := bel_trans Bw14 (bel_drew _)
      have D0 := cell_on d0 (bel_drew _); have D1 := cell_on d1 (bel_drew _); have F0 := cell_on f0 (bel_drew _); have F1 := cell_on f1 (bel_drew _)
      have t1 : (m0 + s0).tmod q = u := by rw [Int.tmod_eq_emod_of_nonneg (by omega)]; exact k3
      have t2 : (m1 + s1).tmod q = v := by rw [Int.tmod_eq_emod_of_nonneg (by omega)]; exact k4
      have hqz : ¬ q = 0 := by omega
      go_wp2_with fail
      go_region_held3 (fun W => W.cell? ⟨yb, yo, none⟩ = some (.int .i64 m0) ∧ W.cell? ⟨yb, yo + 1, none⟩ = some (.int .i64 m1) ∧ W.cell? ⟨sb, so, none⟩ = some (.int .i64 s0) ∧ W.cell? ⟨sb, so + 1, none⟩ = some (.int .i64 s1)) (refine ⟨?_, ?_, ?_, ?_⟩ <;> first | assumption | exact cell_on D0 (bel_drew _) | exact cell_on D1 (bel_drew _)) (first | (go_at_call 12; refine (l_qInts _ _ _ _ _ _ _ Y3.ints Y2.ints).mono ?_; rintro e w15 ⟨rfl, hbw15⟩; have E0 := cell_on D0 hbw15; have E1 := cell_on D1 hbw15; have E2 := cell_on F0 hbw15; have E3 := cell_on F1 hbw15; have Bw15 := bel_trans BE hbw15))
      clear Y2 Y3 S1
      replace M1 := M1.below hbw15
      replace M2 := M2.below hbw15
      replace M3 := M3.below hbw15
      replace M4 := M4.below hbw15
      clear hbw15
      clear K2 LT E0 E1 E2 E3 D0 D1 F0 F1 d0 d1 f0 f1
      cases hc2 : C.2 with
      | false =>
        go_wp2
        go_ret
        exact ⟨by first | rfl | simp, Bw15⟩
      | true =>
        cases hc1 : C.1 with
        | true =>
          go_wp2
          go_ret
          exact ⟨by first | rfl | simp, Bw15⟩
        | false =>
          obtain ⟨L1, L2⟩ := check_law (p := k) (s := ax) (t := bx) (u := cx) (v := jx) (r := o) (by rw [← HC.out]; exact hc2) (by rw [← HC.out]; exact hc1)
          obtain ⟨V, hV⟩ : ∃ V, passingChecks k ax bx cx jx = (V, true) := ⟨_, Prod.ext rfl L1⟩
          rw [hV] at L2; have HV := Lib.hid hV; clear hV L1; replace L2 : V < k := L2
          go_wp2_with fail
          refine (i_PassingChecks _ _ _ _ _ _ _ _ _ _ _ _ _ _ _ _ _ _ dk.fits M1.ints M2.ints M3.ints M4.ints).mono ?_; rintro e w16 ⟨rfl, hbw16⟩
          replace M1 := M1.below hbw16
          replace M2 := M2.below hbw16
          replace M3 := M3.below hbw16
          replace M4 := M4.below hbw16
          have Bw16 := bel_trans Bw15 hbw16
          clear hbw16
          rw [HV.out]; dsimp only
          go_wp2
          go_ret
          exact ⟨by first | rfl | simp, Bw16⟩
  | true =>
    have n1 : N.1 = 1 := by rw [HN.out]; exact openWays_one (by rw [← HN.out]; exact hn2)
    cases hy2 : Y.2 with
    | false =>
      go_wp2_with fail
      refine (l_qInts _ _ _ _ _ _ _ Y1.ints Y2.ints).mono ?_; rintro e w13 ⟨rfl, hbw13⟩
      replace S1 := S1.below hbw13
      replace Y1 := Y1.below hbw13
      replace Y2 := Y2.below hbw13
      replace M1 := M1.below hbw13
      replace M2 := M2.below hbw13
      replace M3 := M3.below hbw13
      replace M4 := M4.below hbw13
      have Bw13 := bel_trans Bw12 hbw13
      clear hbw13
      clear Y1 Y2 S1
      cases hc2 : C.2 with
      | false =>
        go_wp2
        go_ret
        exact ⟨by first | rfl | simp, Bw13⟩
      | true =>
        cases hc1 : C.1 with
        | true =>
          go_wp2
          go_ret
          exact ⟨by first | rfl | simp, Bw13⟩
        | false =>
          obtain ⟨L1, L2⟩ := check_law (p := k) (s := ax) (t := bx) (u := cx) (v := jx) (r := o) (by rw [← HC.out]; exact hc2) (by rw [← HC.out]; exact hc1)
          obtain ⟨V, hV⟩ : ∃ V, passingChecks k ax bx cx jx = (V, true) := ⟨_, Prod.ext rfl L1⟩
          rw [hV] at L2; have HV := Lib.hid hV; clear hV L1; replace L2 : V < k := L2
          go_wp2_with fail
          refine (i_PassingChecks _ _ _ _ _ _ _ _ _ _ _ _ _ _ _ _ _ _ dk.fits M1.ints M2.ints M3.ints M4.ints).mono ?_; rintro e w14 ⟨rfl, hbw14⟩
          replace M1 := M1.below hbw14
          replace M2 := M2.below hbw14
          replace M3 := M3.below hbw14
          replace M4 := M4.below hbw14
          have Bw14 := bel_trans Bw13 hbw14
          clear hbw14
          rw [HV.out]; dsimp only
          go_wp2
          go_ret
          exact ⟨by first | rfl | simp, Bw14⟩
    | true =>
      obtain ⟨m0, m1, k1, k2, k3, k4, k5, p1, p2, b0, b1, q0, q1⟩ := mask_law (p := q) (x := u) (y := v) (s := sx) (by rw [← HY.out]; exact hy2)
      obtain ⟨s0, s1, s2, rfl⟩ := len3 k5; rw [← HY.out] at k1
      replace k3 : (m0 + s0) % q = u := k3; replace k4 : (m1 + s1) % q = v := k4; replace q0 : 0 ≤ s0 ∧ s0 ≤ q - 1 := q0; replace q1 : 0 ≤ s1 ∧ s1 ≤ q - 1 := q1
      obtain ⟨Y, yb⟩ := Y; dsimp only at k1 hy2 Y1 Y2 ⊢; subst k1 hy2
      have K2 := Lib.hid k2; clear k2; simp only [List.length_cons, List.length_nil, Nat.zero_add, Nat.reduceAdd] at Y1 Y2 ⊢
      have fm0 : Fits m0 := by unfold Fits; omega
      have fm1 : Fits m1 := by unfold Fits; omega
      have w1 : IntKind.i64.wrap (m0 + s0) = m0 + s0 := IntWalk.i64_in _ (by omega)
      have w2 : IntKind.i64.wrap (m1 + s1) = m1 + s1 := IntWalk.i64_in _ (by omega)
      go_wp2_with fail
      refine (l_qInts _ _ _ _ _ _ _ Y1.ints Y2.ints).mono ?_; rintro e w13 ⟨rfl, hbw13⟩
      replace S1 := S1.below hbw13
      replace Y1 := Y1.below hbw13
      replace Y2 := Y2.below hbw13
      replace M1 := M1.below hbw13
      replace M2 := M2.below hbw13
      replace M3 := M3.below hbw13
      replace M4 := M4.below hbw13
      have Bw13 := bel_trans Bw12 hbw13
      clear hbw13
      clear Y1
      obtain ⟨_, yb, yo, rfl, d0, d1⟩ := Y2.ints.two
      have A0 := bel_alloc w13 (.cells #[.int .i64 0, .int .i64 0, .int .i64 0] 3); have LT := lit000 (w := w13) (t := 3) rfl
      have D1 := cell_on d1 A0; have D0 := cell_on d0 A0
      replace S1 := S1.below A0
      replace Y2 := Y2.below A0
      replace M1 := M1.below A0
      replace M2 := M2.below A0
      replace M3 := M3.below A0
      replace M4 := M4.below A0
      have BA := bel_trans Bw13 A0
      replace S1 := S1.below (bel_drew _)
      replace Y2 := Y2.below (bel_drew _)
      replace M1 := M1.below (bel_drew _)
      replace M2 := M2.below (bel_drew _)
      replace M3 := M3.below (bel_drew _)
      replace M4 := M4.below (bel_drew _)
      have BD := bel_trans BA (bel_drew _)
      replace LT := LT.below (bel_drew _); replace D0 := cell_on D0 (bel_drew _); replace D1 := cell_on D1 (bel_drew _)
      go_wp2_with fail
      go_region_held3 (fun W => W.cell? ⟨yb, yo, none⟩ = some (.int .i64 m0) ∧ W.cell? ⟨yb, yo + 1, none⟩ = some (.int .i64 m1)) (refine ⟨?_, ?_⟩ <;> first | assumption | exact cell_on D0 (bel_drew _) | exact cell_on D1 (bel_drew _)) (first | (go_at_call 19; refine (i_MaskPair _ _ _ _ [0, 0, 0] m0 m1 _ dq.fits LT.ints fm0 fm1).mono ?_; rintro e w14 ⟨r3, e3, rfl, Y3, hbw14⟩; rw [K2.out] at Y3 ⊢; simp only [List.length_cons, List.length_nil, Nat.zero_add, Nat.reduceAdd] at Y3 ⊢; have E0 := cell_on D0 hbw14; have E1 := cell_on D1 hbw14; have Bw14 := bel_trans BD hbw14))
      replace S1 := S1.below hbw14
      replace Y2 := Y2.below hbw14
      replace M1 := M1.below hbw14
      replace M2 := M2.below hbw14
      replace M3 := M3.below hbw14
      replace M4 := M4.below hbw14
      clear hbw14
      clear d0 d1 D0 D1 E0 E1
      obtain ⟨_, yb', yo', ye, d0, d1⟩ := Y2.ints.two; cases ye; obtain ⟨rfl, sb, so, rfl, f0, f1, f2⟩ := S1.ints.three; clear f2
      replace S1 := S1.below (bel_drew _)
      replace Y2 := Y2.below (bel_drew _)
      replace M1 := M1.below (bel_drew _)
      replace M2 := M2.below (bel_drew _)
      replace M3 := M3.below (bel_drew _)
      replace M4 := M4.below (bel_drew _)
      replace Y3 := Y3.below (bel_drew _)
      have BE := bel_trans Bw14 (bel_drew _)
      have D0 := cell_on d0 (bel_drew _); have D1 := cell_on d1 (bel_drew _); have F0 := cell_on f0 (bel_drew _); have F1 := cell_on f1 (bel_drew _)
      have t1 : (m0 + s0).tmod q = u := by rw [Int.tmod_eq_emod_of_nonneg (by omega)]; exact k3
      have t2 : (m1 + s1).tmod q = v := by rw [Int.tmod_eq_emod_of_nonneg (by omega)]; exact k4
      have hqz : ¬ q = 0 := by omega
      go_wp2_with fail
      go_region_held3 (fun W => W.cell? ⟨yb, yo, none⟩ = some (.int .i64 m0) ∧ W.cell? ⟨yb, yo + 1, none⟩ = some (.int .i64 m1) ∧ W.cell? ⟨sb, so, none⟩ = some (.int .i64 s0) ∧ W.cell? ⟨sb, so + 1, none⟩ = some (.int .i64 s1)) (refine ⟨?_, ?_, ?_, ?_⟩ <;> first | assumption | exact cell_on D0 (bel_drew _) | exact cell_on D1 (bel_drew _)) (first | (go_at_call 12; refine (l_qInts _ _ _ _ _ _ _ Y3.ints Y2.ints).mono ?_; rintro e w15 ⟨rfl, hbw15⟩; have E0 := cell_on D0 hbw15; have E1 := cell_on D1 hbw15; have E2 := cell_on F0 hbw15; have E3 := cell_on F1 hbw15; have Bw15 := bel_trans BE hbw15))
      clear Y2 Y3 S1
      replace M1 := M1.below hbw15
      replace M2 := M2.below hbw15
      replace M3 := M3.below hbw15
      replace M4 := M4.below hbw15
      clear hbw15
      clear K2 LT E0 E1 E2 E3 D0 D1 F0 F1 d0 d1 f0 f1
      cases hc2 : C.2 with
      | false =>
        go_wp2
        go_ret
        exact ⟨by first | rfl | simp, Bw15⟩
      | true =>
        cases hc1 : C.1 with
        | true =>
          go_wp2
          go_ret
          exact ⟨by first | rfl | simp, Bw15⟩
        | false =>
          obtain ⟨L1, L2⟩ := check_law (p := k) (s := ax) (t := bx) (u := cx) (v := jx) (r := o) (by rw [← HC.out]; exact hc2) (by rw [← HC.out]; exact hc1)
          obtain ⟨V, hV⟩ : ∃ V, passingChecks k ax bx cx jx = (V, true) := ⟨_, Prod.ext rfl L1⟩
          rw [hV] at L2; have HV := Lib.hid hV; clear hV L1; replace L2 : V < k := L2
          go_wp2_with fail
          refine (i_PassingChecks _ _ _ _ _ _ _ _ _ _ _ _ _ _ _ _ _ _ dk.fits M1.ints M2.ints M3.ints M4.ints).mono ?_; rintro e w16 ⟨rfl, hbw16⟩
          replace M1 := M1.below hbw16
          replace M2 := M2.below hbw16
          replace M3 := M3.below hbw16
          replace M4 := M4.below hbw16
          have Bw16 := bel_trans Bw15 hbw16
          clear hbw16
          rw [HV.out]; dsimp only
          go_wp2
          go_ret
          exact ⟨by first | rfl | simp, Bw16⟩
end Go.Proofs.Ytfandnakenpfnaa
