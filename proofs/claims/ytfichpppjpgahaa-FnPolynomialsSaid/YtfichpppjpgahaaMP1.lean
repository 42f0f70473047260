/-
  The walk of the law FnPolynomials.
-/
import Derived.Test.YtfichpppjpgahaaLv
import Derived.Test.YtfichpppjpgahaaLw
import Derived.Test.YtfichpppjpgahaaCx
namespace Go.Proofs.Ytfichpppjpgahaa
open Go.RowKit
set_option linter.unusedVariables false
set_option linter.unusedSimpArgs false
set_option maxRecDepth 100000

set_option maxHeartbeats 8000000 in
theorem law_FnPolynomials (a0 : Option Addr) (n0 c0 : Nat) (z0 : List Int) (a1 : Option Addr) (n1 c1 : Nat) (z1 : List Int) (w : World) (h0 : BytesIn w a0 n0 c0 z0) (h1 : BytesIn w a1 n1 c1 z1) :
    Calls Try.prog 3 #[.slice a0 n0 c0, .slice a1 n1 c1] w fun e w' => e = .returned (.bool true) ∧ Below w.heap.size w w' := by
  have hn0 := h0.small; have hn1 := h1.small
  have hB : Byts w a1 n1 c1 := h1
  have hA : Byts w a0 n0 c0 := h0
  clear h0 h1
  go_enter Try.func3, Try.ntmps3
  go_wp2_with fail
  refine (l_big _ _ _ _ _ _ _ hn0 hn1).mono ?_; rintro e w0 ⟨qb, rfl, rfl⟩
  cases qb with
  | true =>
    go_wp2
    go_ret
    exact ⟨rfl, Below.refl _ _⟩
  | false =>
    go_wp2_with fail
    refine (s_DrawPolyThrough _ _ _ _ hA).mono ?_; rintro e w1 ⟨p, xr, xn, xc, xs, yr, yn, yc, ys, rfl, hpb, X, Y, hxn, hyn, hbw1⟩
    replace hB := hB.below hbw1
    replace hA := hA.below hbw1
    have Bw1 := bel_trans (Below.refl w.heap.size w) hbw1
    clear hbw1
    clear hA
    have hxl := Lib.hid X.len.out; have hyl := Lib.hid Y.len.out
    obtain ⟨P, hP⟩ : ∃ zz_, zz_ = polyThrough p xs ys := ⟨_, rfl⟩; have HP := Lib.hid hP; clear hP
    go_wp2_with fail
    refine (i_PolyThrough p _ _ _ xs _ _ _ ys _ X Y).mono ?_; rintro e w2 ⟨r1, k1, rfl, L1, hbw2⟩
    replace hB := hB.below hbw2
    replace X := X.below hbw2
    replace Y := Y.below hbw2
    have Bw2 := bel_trans Bw1 hbw2
    clear hbw2
    rw [← HP.out] at L1 ⊢
    go_wp2_with fail
    refine (s_PolyThrough p _ _ _ xs _ _ _ ys _ X Y (by omega)).mono ?_; rintro e w3 ⟨r2, k2, rfl, L2, hbw3⟩
    replace hB := hB.below hbw3
    replace X := X.below hbw3
    replace Y := Y.below hbw3
    replace L1 := L1.below hbw3
    have Bw3 := bel_trans Bw2 hbw3
    clear hbw3
    rw [← HP.out] at L2 ⊢
    go_wp2_with fail
    refine (l_sameInts _ _ _ _ _ _ _ L1.ints L2.ints).mono ?_; rintro e w4 ⟨rfl, hbw4⟩
    replace hB := hB.below hbw4
    replace X := X.below hbw4
    replace Y := Y.below hbw4
    replace L1 := L1.below hbw4
    replace L2 := L2.below hbw4
    have Bw4 := bel_trans Bw3 hbw4
    clear hbw4
    clear L2
    cases hp2 : P.2 with
    | false =>
      clear L1 X Y
      go_wp2_with fail
      refine (s_DrawInterpolateAt _ _ _ _ hB).mono ?_; rintro e w5 ⟨q, ur, un, uc, us, vr, vn, vc, vs, ux, rfl, hqb, U, V, hun, hvn, hat, hbw5⟩
      replace hB := hB.below hbw5
      have Bw5 := bel_trans Bw4 hbw5
      clear hbw5
      obtain ⟨I, hI⟩ : ∃ zz_, zz_ = interpolateAt q us vs ux := ⟨_, rfl⟩; have HI := Lib.hid hI; clear hI
      go_wp2_with fail
      refine (i_InterpolateAt q ux _ _ _ us _ _ _ vs _ U V).mono ?_; rintro e w6 ⟨rfl, hbw6⟩
      replace hB := hB.below hbw6
      replace U := U.below hbw6
      replace V := V.below hbw6
      have Bw6 := bel_trans Bw5 hbw6
      clear hbw6
      rw [← HI.out]
      go_wp2_with fail
      refine (s_InterpolateAt q ux _ _ _ us _ _ _ vs _ U V (by omega)).mono ?_; rintro e w7 ⟨rfl, hbw7⟩
      replace hB := hB.below hbw7
      replace U := U.below hbw7
      replace V := V.below hbw7
      have Bw7 := bel_trans Bw6 hbw7
      clear hbw7
      rw [← HI.out]
      clear U V
      go_wp2_with fail
      refine (s_DrawSolveLinear _ _ _ _ hB).mono ?_; rintro e w8 ⟨rr, sr, sn, sc, ss, tr, tn, tc, ts, rfl, hrb, S, T, hsn, hbw8⟩
      replace hB := hB.below hbw8
      have Bw8 := bel_trans Bw7 hbw8
      clear hbw8
      obtain ⟨Z, hZ⟩ : ∃ zz_, zz_ = solveLinear rr ss ts := ⟨_, rfl⟩; have HZ := Lib.hid hZ; clear hZ
      go_wp2_with fail
      refine (i_SolveLinear rr _ _ _ ss _ _ _ ts _ S T (by omega)).mono ?_; rintro e w9 ⟨r3, k3, rfl, L3, hbw9⟩
      replace hB := hB.below hbw9
      replace S := S.below hbw9
      replace T := T.below hbw9
      have Bw9 := bel_trans Bw8 hbw9
      clear hbw9
      rw [← HZ.out] at L3 ⊢
      go_wp2_with fail
      refine (s_SolveLinear rr _ _ _ ss _ _ _ ts _ S T (by omega)).mono ?_; rintro e w10 ⟨r4, k4, rfl, L4, hbw10⟩
      replace hB := hB.below hbw10
      replace S := S.below hbw10
      replace T := T.below hbw10
      replace L3 := L3.below hbw10
      have Bw10 := bel_trans Bw9 hbw10
      clear hbw10
      rw [← HZ.out] at L4 ⊢
      go_wp2_with fail
      refine (l_sameInts _ _ _ _ _ _ _ L3.ints L4.ints).mono ?_; rintro e w11 ⟨rfl, hbw11⟩
      replace hB := hB.below hbw11
      replace S := S.below hbw11
      replace T := T.below hbw11
      replace L3 := L3.below hbw11
      replace L4 := L4.below hbw11
      have Bw11 := bel_trans Bw10 hbw11
      clear hbw11
      clear L3
      cases hz2 : Z.2 with
      | false =>
        clear S T L4
        go_wp2_with fail
        refine (s_DrawEvalPoly _ _ _ _ hB).mono ?_; rintro e w12 ⟨t, er, en, ec, es, ex, rfl, htb, E, hex, hbw12⟩
        replace hB := hB.below hbw12
        have Bw12 := bel_trans Bw11 hbw12
        clear hbw12
        clear hB
        obtain ⟨V9, hV9⟩ : ∃ zz_, zz_ = evalPoly t es ex := ⟨_, rfl⟩; have HV := Lib.hid hV9; clear hV9
        go_wp2_with fail
        refine (i_EvalPoly t ex _ _ _ es _ E).mono ?_; rintro e w13 ⟨rfl, hbw13⟩
        replace E := E.below hbw13
        have Bw13 := bel_trans Bw12 hbw13
        clear hbw13
        rw [← HV.out]
        go_wp2_with fail
        refine (s_EvalPoly t ex _ _ _ es _ E hex.fits).mono ?_; rintro e w14 ⟨rfl, hbw14⟩
        replace E := E.below hbw14
        have Bw14 := bel_trans Bw13 hbw14
        clear hbw14
        rw [← HV.out]
        go_wp2
        go_ret
        exact ⟨by first | rfl | simp, Bw14⟩
      | true =>
        obtain ⟨⟨hr1, hr2⟩, s6, s1, s2, s3, s4⟩ := solve_law (p := rr) (xss := ss) (ys := ts) (by rw [← HZ.out]; exact hz2)
        rw [← HZ.out] at s1 s3 s4
        have hss := S.len.out; have hts := T.len.out
        rw [hss] at s1 s2 s6 s4; rw [hts] at s2
        obtain rfl : sn = tn := s2.symm
        rw [s1] at L4 ⊢
        have S3 := Lib.hid s3; have S4 := Lib.hid s4; have HS := Lib.hid S; have HT := Lib.hid T; have HL := Lib.hid L4.ints; have HBB := Lib.hid hB; have HTL := Lib.hid hts; have HSL := Lib.hid hss; have BW0 := Lib.hid Bw11
        have HZL := Lib.hid s1; clear s3 s4 S T L4 hB hss hts s1
        go_wp2
        go_loopw [196] (fun i W => ∃ k : Nat, k ≤ sn ∧ i = .int .i64 k ∧ Hid (Below w11.heap.size w11 W)) (fun i _ => sn - (intOf i).toNat)
        case atStart => exact ⟨0, by omega, rfl, Below.refl _ _⟩
        case round =>
          obtain ⟨k, hk, rfl, BW⟩ := hrel
          by_cases hlt : k < sn
          · obtain ⟨b, off, r, m, c, rfl, hbl, hc, hri⟩ := (HS.out.below BW.out).at hlt
            obtain ⟨q1, q2, q3⟩ := S4.out k hlt
            have hm : m = sn := by rw [← q1]; exact hri.len.out.symm
            obtain rfl : sn = m := hm.symm
            obtain ⟨b2, off2, rfl, hbl2, hc2⟩ := (HT.out.below BW.out).at hlt
            have HRI := Lib.hid hri; have Q1 := Lib.hid q1; have Q2 := Lib.hid q2; have Q3 := Lib.hid q3; clear hri q1 q2 q3
            have hkI : (k : Int) < (sn : Int) := by omega
            have DB := Lib.hid (fun d (hd : d ≤ sn) => dotF_bd (r := nth (rowN ss k)) (s := nth Z.1) (B := 250) (by omega) (n := d) (fun j hj => by have := Q2.out.at (i := j) (by rw [Q1.out]; omega); omega) (fun j hj => by have := S3.out.at (i := j) (by rw [HZL.out]; omega); omega))
            go_wp2
            go_loop [35, 203] (fun s i => ∃ (d : Nat) (D : Int), d ≤ sn ∧ i = .int .i64 d ∧ s = .int .i64 D ∧ 0 ≤ D ∧ D ≤ 1000000 ∧ Hid (D = dotF (nth (rowN ss k)) (nth Z.1) d)) (fun _ i => sn - (intOf i).toNat)
            case atStart => exact ⟨0, 0, by omega, rfl, rfl, by omega, by omega, rfl⟩
            case round =>
              obtain ⟨d, D, hd, rfl, rfl, hD1, hD2, HD⟩ := hrel
              by_cases hld : d < sn
              · obtain ⟨b3, off3, rfl, hbl3, hc3⟩ := HRI.out.at hld
                obtain ⟨b4, off4, e4, hbl4, hc4⟩ := (HL.out.below BW.out).at hld
                obtain rfl := e4
                have hdI : (d : Int) < (sn : Int) := by omega
                have x1 := Q2.out.at (i := d) (by rw [Q1.out]; exact hld)
                have x2 := S3.out.at (i := d) (by rw [HZL.out]; exact hld)
                obtain ⟨m1, m2⟩ := mul_bd (a := nth (rowN ss k) d) (b := nth Z.1 d) 250 250 (by omega) (by omega) (by omega) (by omega)
                have db := DB.out (d + 1) (by omega)
                have HD2 : Hid (D + nth (rowN ss k) d * nth Z.1 d = dotF (nth (rowN ss k)) (nth Z.1) (d + 1)) := by show _ = _; rw [dotF, HD.out]
                rw [← HD2.out] at db
                have hsn6 : ((d + 1 : Nat) : Int) * (250 * 250) ≤ 1000000 := by omega
                obtain ⟨db1, db2⟩ := db; have db3 : D + nth (rowN ss k) d * nth Z.1 d ≤ 1000000 := by omega
                clear db2 hsn6
                go_wp2
                go_round
                case rel => exact ⟨d + 1, _, by omega, by go_num, rfl, by omega, by omega, HD2.out⟩
                case measure => first | (simp [intOf]; done) | (simp [intOf]; omega)
              · obtain rfl : d = sn := by omega
                have e1 : D.tmod rr = nth ts k := by rw [Int.tmod_eq_emod_of_nonneg hD1, HD.out, Q3.out]
                have hr0 : ¬ rr = 0 := by omega
                go_wp2
                go_quiet (fail)
                go_wp2
                go_roundw
                case rel => exact ⟨k + 1, by omega, by go_num, (show Hid _ from bel_trans BW.out (bel_drewN _ _))⟩
                case measure => first | (simp [intOf]; done) | (simp [intOf]; omega)
          · obtain rfl : k = sn := by omega
            have B9 := bel_trans BW0.out BW.out; have hB := HBB.out.below BW.out
            go_wp2_with fail
            refine (s_DrawEvalPoly _ _ _ _ hB).mono ?_; rintro e w12 ⟨t, er, en, ec, es, ex, rfl, htb, E, hex, hbw12⟩
            replace hB := hB.below hbw12
            have Bw12 := bel_trans B9 hbw12
            clear hbw12
            clear hB
            obtain ⟨V9, hV9⟩ : ∃ zz_, zz_ = evalPoly t es ex := ⟨_, rfl⟩; have HV := Lib.hid hV9; clear hV9
            go_wp2_with fail
            refine (i_EvalPoly t ex _ _ _ es _ E).mono ?_; rintro e w13 ⟨rfl, hbw13⟩
            replace E := E.below hbw13
            have Bw13 := bel_trans Bw12 hbw13
            clear hbw13
            rw [← HV.out]
            go_wp2_with fail
            refine (s_EvalPoly t ex _ _ _ es _ E hex.fits).mono ?_; rintro e w14 ⟨rfl, hbw14⟩
            replace E := E.below hbw14
            have Bw14 := bel_trans Bw13 hbw14
            clear hbw14
            rw [← HV.out]
            go_wp2
            go_ret
            exact ⟨by first | rfl | simp, Bw14⟩
    | true =>
      obtain ⟨s1, s2, s12, s3⟩ := poly_law (p := p) (xs := xs) (ys := ys) (by rw [← HP.out]; exact hp2)
      rw [← HP.out] at s1 s3
      rw [hxl.out] at s1 s2 s12 s3; rw [hyl.out] at s2
      obtain rfl : xn = yn := s2.symm
      have hl1 := L1.ints.len.out
      generalize P.1.length = pn at *; obtain rfl : xn = pn := s1.symm
      have S3 := Lib.hid s3; have HX := Lib.hid X; have HY := Lib.hid Y; have HL := Lib.hid L1.ints; have HBB := Lib.hid hB; have BW0 := Lib.hid Bw4
      have HLL := Lib.hid hl1; clear s3 X Y L1 hB hl1 s1
      go_wp2
      go_loopw [90] (fun i W => ∃ k : Nat, k ≤ xn ∧ i = .int .i64 k ∧ Hid (Below w4.heap.size w4 W)) (fun i _ => xn - (intOf i).toNat)
      case atStart => exact ⟨0, by omega, rfl, Below.refl _ _⟩
      case round =>
        obtain ⟨k, hk, rfl, BW⟩ := hrel
        obtain ⟨wk, rfl⟩ : ∃ wk : World, wk = wr := ⟨_, rfl⟩
        by_cases hlt : k < xn
        · obtain ⟨b, off, rfl, hbl, hc⟩ := (HX.out.below BW.out).at hlt
          obtain ⟨b2, off2, rfl, hbl2, hc2⟩ := (HY.out.below BW.out).at hlt
          have hkI : (k : Int) < (xn : Int) := by omega
          obtain ⟨s4, s5⟩ := S3.out k hlt
          have C1 := Lib.hid (i_EvalPoly p (nth xs k) _ _ _ P.1 wk (HL.out.below BW.out))
          rw [s4] at C1
          have C2 := Lib.hid (fun W (hW : Below wk.heap.size wk W) => i_InterpolateAt p (nth xs k) _ _ _ xs _ _ _ ys W ((HX.out.below BW.out).below hW) ((HY.out.below BW.out).below hW))
          rw [s5] at C2; clear s4 s5
          go_wp2_with fail
          refine C1.out.mono ?_; rintro e wa ⟨rfl, hba⟩; have c2 := cell_on hc2 hba
          go_wp2_with fail
          refine (C2.out _ hba).mono ?_; rintro e wb ⟨rfl, hbb⟩; have c3 := cell_on c2 hbb
          have HBN := Lib.hid (bel_trans BW.out (bel_trans hba hbb)); clear hba hbb c2 hc hc2 C1 C2
          go_wp2
          go_roundw
          case rel => exact ⟨k + 1, by omega, by go_num, HBN.out⟩
          case measure => first | (simp [intOf]; done) | (simp [intOf]; omega)
        · obtain rfl : k = xn := by omega
          have B5 := bel_trans BW0.out BW.out; have hB := HBB.out.below BW.out
          go_wp2_with fail
          refine (s_DrawInterpolateAt _ _ _ _ hB).mono ?_; rintro e w5 ⟨q, ur, un, uc, us, vr, vn, vc, vs, ux, rfl, hqb, U, V, hun, hvn, hat, hbw5⟩
          replace hB := hB.below hbw5
          have Bw5 := bel_trans B5 hbw5
          clear hbw5
          obtain ⟨I, hI⟩ : ∃ zz_, zz_ = interpolateAt q us vs ux := ⟨_, rfl⟩; have HI := Lib.hid hI; clear hI
          go_wp2_with fail
          refine (i_InterpolateAt q ux _ _ _ us _ _ _ vs _ U V).mono ?_; rintro e w6 ⟨rfl, hbw6⟩
          replace hB := hB.below hbw6
          replace U := U.below hbw6
          replace V := V.below hbw6
          have Bw6 := bel_trans Bw5 hbw6
          clear hbw6
          rw [← HI.out]
          go_wp2_with fail
          refine (s_InterpolateAt q ux _ _ _ us _ _ _ vs _ U V (by omega)).mono ?_; rintro e w7 ⟨rfl, hbw7⟩
          replace hB := hB.below hbw7
          replace U := U.below hbw7
          replace V := V.below hbw7
          have Bw7 := bel_trans Bw6 hbw7
          clear hbw7
          rw [← HI.out]
          clear U V
          go_wp2_with fail
          refine (s_DrawSolveLinear _ _ _ _ hB).mono ?_; rintro e w8 ⟨rr, sr, sn, sc, ss, tr, tn, tc, ts, rfl, hrb, S, T, hsn, hbw8⟩
          replace hB := hB.below hbw8
          have Bw8 := bel_trans Bw7 hbw8
          clear hbw8
          obtain ⟨Z, hZ⟩ : ∃ zz_, zz_ = solveLinear rr ss ts := ⟨_, rfl⟩; have HZ := Lib.hid hZ; clear hZ
          go_wp2_with fail
          refine (i_SolveLinear rr _ _ _ ss _ _ _ ts _ S T (by omega)).mono ?_; rintro e w9 ⟨r3, k3, rfl, L3, hbw9⟩
          replace hB := hB.below hbw9
          replace S := S.below hbw9
          replace T := T.below hbw9
          have Bw9 := bel_trans Bw8 hbw9
          clear hbw9
          rw [← HZ.out] at L3 ⊢
          go_wp2_with fail
          refine (s_SolveLinear rr _ _ _ ss _ _ _ ts _ S T (by omega)).mono ?_; rintro e w10 ⟨r4, k4, rfl, L4, hbw10⟩
          replace hB := hB.below hbw10
          replace S := S.below hbw10
          replace T := T.below hbw10
          replace L3 := L3.below hbw10
          have Bw10 := bel_trans Bw9 hbw10
          clear hbw10
          rw [← HZ.out] at L4 ⊢
          go_wp2_with fail
          refine (l_sameInts _ _ _ _ _ _ _ L3.ints L4.ints).mono ?_; rintro e w11 ⟨rfl, hbw11⟩
          replace hB := hB.below hbw11
          replace S := S.below hbw11
          replace T := T.below hbw11
          replace L3 := L3.below hbw11
          replace L4 := L4.below hbw11
          have Bw11 := bel_trans Bw10 hbw11
          clear hbw11
          clear L3
          cases hz2 : Z.2 with
          | false =>
            clear S T L4
            go_wp2_with fail
            refine (s_DrawEvalPoly _ _ _ _ hB).mono ?_; rintro e w12 ⟨t, er, en, ec, es, ex, rfl, htb, E, hex, hbw12⟩
            replace hB := hB.below hbw12
            have Bw12 := bel_trans Bw11 hbw12
            clear hbw12
            clear hB
            obtain ⟨V9, hV9⟩ : ∃ zz_, zz_ = evalPoly t es ex := ⟨_, rfl⟩; have HV := Lib.hid hV9; clear hV9
            go_wp2_with fail
            refine (i_EvalPoly t ex _ _ _ es _ E).mono ?_; rintro e w13 ⟨rfl, hbw13⟩
            replace E := E.below hbw13
            have Bw13 := bel_trans Bw12 hbw13
            clear hbw13
            rw [← HV.out]
            go_wp2_with fail
            refine (s_EvalPoly t ex _ _ _ es _ E hex.fits).mono ?_; rintro e w14 ⟨rfl, hbw14⟩
            replace E := E.below hbw14
            have Bw14 := bel_trans Bw13 hbw14
            clear hbw14
            rw [← HV.out]
            go_wp2
            go_ret
            exact ⟨by first | rfl | simp, Bw14⟩
          | true =>
            obtain ⟨⟨hr1, hr2⟩, s6, s1, s2, s3, s4⟩ := solve_law (p := rr) (xss := ss) (ys := ts) (by rw [← HZ.out]; exact hz2)
            rw [← HZ.out] at s1 s3 s4
            have hss := S.len.out; have hts := T.len.out
            rw [hss] at s1 s2 s6 s4; rw [hts] at s2
            obtain rfl : sn = tn := s2.symm
            rw [s1] at L4 ⊢
            have S3 := Lib.hid s3; have S4 := Lib.hid s4; have HS := Lib.hid S; have HT := Lib.hid T; have HL := Lib.hid L4.ints; have HBB := Lib.hid hB; have HTL := Lib.hid hts; have HSL := Lib.hid hss; have BW0 := Lib.hid Bw11
            have HZL := Lib.hid s1; clear s3 s4 S T L4 hB hss hts s1
            go_wp2
            go_loopw [196] (fun i W => ∃ k : Nat, k ≤ sn ∧ i = .int .i64 k ∧ Hid (Below w11.heap.size w11 W)) (fun i _ => sn - (intOf i).toNat)
            case atStart => exact ⟨0, by omega, rfl, Below.refl _ _⟩
            case round =>
              obtain ⟨k, hk, rfl, BW⟩ := hrel
              by_cases hlt : k < sn
              · obtain ⟨b, off, r, m, c, rfl, hbl, hc, hri⟩ := (HS.out.below BW.out).at hlt
                obtain ⟨q1, q2, q3⟩ := S4.out k hlt
                have hm : m = sn := by rw [← q1]; exact hri.len.out.symm
                obtain rfl : sn = m := hm.symm
                obtain ⟨b2, off2, rfl, hbl2, hc2⟩ := (HT.out.below BW.out).at hlt
                have HRI := Lib.hid hri; have Q1 := Lib.hid q1; have Q2 := Lib.hid q2; have Q3 := Lib.hid q3; clear hri q1 q2 q3
                have hkI : (k : Int) < (sn : Int) := by omega
                have DB := Lib.hid (fun d (hd : d ≤ sn) => dotF_bd (r := nth (rowN ss k)) (s := nth Z.1) (B := 250) (by omega) (n := d) (fun j hj => by have := Q2.out.at (i := j) (by rw [Q1.out]; omega); omega) (fun j hj => by have := S3.out.at (i := j) (by rw [HZL.out]; omega); omega))
                go_wp2
                go_loop [35, 203] (fun s i => ∃ (d : Nat) (D : Int), d ≤ sn ∧ i = .int .i64 d ∧ s = .int .i64 D ∧ 0 ≤ D ∧ D ≤ 1000000 ∧ Hid (D = dotF (nth (rowN ss k)) (nth Z.1) d)) (fun _ i => sn - (intOf i).toNat)
                case atStart => exact ⟨0, 0, by omega, rfl, rfl, by omega, by omega, rfl⟩
                case round =>
                  obtain ⟨d, D, hd, rfl, rfl, hD1, hD2, HD⟩ := hrel
                  by_cases hld : d < sn
                  · obtain ⟨b3, off3, rfl, hbl3, hc3⟩ := HRI.out.at hld
                    obtain ⟨b4, off4, e4, hbl4, hc4⟩ := (HL.out.below BW.out).at hld
                    obtain rfl := e4
                    have hdI : (d : Int) < (sn : Int) := by omega
                    have x1 := Q2.out.at (i := d) (by rw [Q1.out]; exact hld)
                    have x2 := S3.out.at (i := d) (by rw [HZL.out]; exact hld)
                    obtain ⟨m1, m2⟩ := mul_bd (a := nth (rowN ss k) d) (b := nth Z.1 d) 250 250 (by omega) (by omega) (by omega) (by omega)
                    have db := DB.out (d + 1) (by omega)
                    have HD2 : Hid (D + nth (rowN ss k) d * nth Z.1 d = dotF (nth (rowN ss k)) (nth Z.1) (d + 1)) := by show _ = _; rw [dotF, HD.out]
                    rw [← HD2.out] at db
                    have hsn6 : ((d + 1 : Nat) : Int) * (250 * 250) ≤ 1000000 := by omega
                    obtain ⟨db1, db2⟩ := db; have db3 : D + nth (rowN ss k) d * nth Z.1 d ≤ 1000000 := by omega
                    clear db2 hsn6
                    go_wp2
                    go_round
                    case rel => exact ⟨d + 1, _, by omega, by go_num, rfl, by omega, by omega, HD2.out⟩
                    case measure => first | (simp [intOf]; done) | (simp [intOf]; omega)
                  · obtain rfl : d = sn := by omega
                    have e1 : D.tmod rr = nth ts k := by rw [Int.tmod_eq_emod_of_nonneg hD1, HD.out, Q3.out]
                    have hr0 : ¬ rr = 0 := by omega
                    go_wp2
                    go_quiet (fail)
                    go_wp2
                    go_roundw
                    case rel => exact ⟨k + 1, by omega, by go_num, (show Hid _ from bel_trans BW.out (bel_drewN _ _))⟩
                    case measure => first | (simp [intOf]; done) | (simp [intOf]; omega)
              · obtain rfl : k = sn := by omega
                have B9 := bel_trans BW0.out BW.out; have hB := HBB.out.below BW.out
                go_wp2_with fail
                refine (s_DrawEvalPoly _ _ _ _ hB).mono ?_; rintro e w12 ⟨t, er, en, ec, es, ex, rfl, htb, E, hex, hbw12⟩
                replace hB := hB.below hbw12
                have Bw12 := bel_trans B9 hbw12
                clear hbw12
                clear hB
                obtain ⟨V9, hV9⟩ : ∃ zz_, zz_ = evalPoly t es ex := ⟨_, rfl⟩; have HV := Lib.hid hV9; clear hV9
                go_wp2_with fail
                refine (i_EvalPoly t ex _ _ _ es _ E).mono ?_; rintro e w13 ⟨rfl, hbw13⟩
                replace E := E.below hbw13
                have Bw13 := bel_trans Bw12 hbw13
                clear hbw13
                rw [← HV.out]
                go_wp2_with fail
                refine (s_EvalPoly t ex _ _ _ es _ E hex.fits).mono ?_; rintro e w14 ⟨rfl, hbw14⟩
                replace E := E.below hbw14
                have Bw14 := bel_trans Bw13 hbw14
                clear hbw14
                rw [← HV.out]
                go_wp2
                go_ret
                exact ⟨by first | rfl | simp, Bw14⟩
end Go.Proofs.Ytfichpppjpgahaa
