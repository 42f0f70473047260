/-
  The walk of the law FnProducts.
-/
import Derived.Deep.DeepCutAuto
import Derived.Test.YtfandnakenpfnaaCz
import Derived.Test.YtfandnakenpfnaaCs2
import Derived.Test.YtfandnakenpfnaaCs3
import Derived.Test.YtfandnakenpfnaaPq
import Derived.Test.YtfandnakenpfnaaD7
import Derived.Test.YtfandnakenpfnaaD8
import Derived.Test.YtfandnakenpfnaaD14
namespace Go.Proofs.Ytfandnakenpfnaa
open Go.RowKit
set_option linter.unusedVariables false
set_option linter.unusedSimpArgs false
set_option maxRecDepth 100000

set_option maxHeartbeats 8000000 in
theorem law_FnProducts (a0 : Option Addr) (n0 c0 : Nat) (z0 : List Int) (a1 : Option Addr) (n1 c1 : Nat) (z1 : List Int) (w : World) (h0 : BytesIn w a0 n0 c0 z0) (h1 : BytesIn w a1 n1 c1 z1) :
    Calls Try.prog 5 #[.slice a0 n0 c0, .slice a1 n1 c1] w fun e w' => e = .returned (.bool true) ∧ Below w.heap.size w w' := by
  have hn0 := h0.small; have hn1 := h1.small
  have hB : Byts w a1 n1 c1 := h1
  have hA : Byts w a0 n0 c0 := h0
  clear h0 h1
  obtain ⟨G, hG⟩ : ∃ G, IntKind.i64.wrap ((n0 : Int) + (n1 : Int)) = G := ⟨_, rfl⟩
  by_cases hg : 1048576 < G
  · go_enter Try.func5, Try.ntmps5
    go_wp2
    go_ret
    exact ⟨rfl, Below.refl _ _⟩
  go_enter Try.func5, Try.ntmps5
  go_wp2_with fail
  refine (s_DrawMultiplyPairs _ _ _ _ hA).mono ?_; rintro e w1 ⟨p, k, i, xr, xn, xc, xx, yr, yn, yc, yx, rfl, dp, hk, di, X1, Y1, hbw1⟩
  replace hB := hB.below hbw1
  replace hA := hA.below hbw1
  have Bw1 := bel_trans (Below.refl w.heap.size w) hbw1
  clear hbw1
  clear hA
  obtain ⟨M, hM⟩ : ∃ zz_, zz_ = multPairs p k i xx yx := ⟨_, rfl⟩; have HM := Lib.hid hM; clear hM
  go_wp2_with fail
  refine (i_MultiplyPairs _ _ _ _ _ _ _ _ _ _ _ _ dp.fits (by unfold Fits; omega) di.fits X1.ints Y1.ints).mono ?_; rintro e w2 ⟨r1, e1, rfl, Z1, hbw2⟩
  replace hB := hB.below hbw2
  replace X1 := X1.below hbw2
  replace Y1 := Y1.below hbw2
  have Bw2 := bel_trans Bw1 hbw2
  clear hbw2
  rw [← HM.out] at Z1 ⊢
  go_wp2_with fail
  refine (s_MultiplyPairs _ _ _ _ _ _ _ _ _ _ _ _ dp.fits (by unfold Fits; omega) di.fits X1.ints Y1.ints).mono ?_; rintro e w3 ⟨r2, e2, rfl, Z2, hbw3⟩
  replace hB := hB.below hbw3
  replace X1 := X1.below hbw3
  replace Y1 := Y1.below hbw3
  replace Z1 := Z1.below hbw3
  have Bw3 := bel_trans Bw2 hbw3
  clear hbw3
  rw [← HM.out] at Z2 ⊢
  go_wp2_with fail
  refine (s_DrawDotShared _ _ _ _ hB).mono ?_; rintro e w4 ⟨q, kq, ar, an, ac, ax, br, bn, bc, bx, rfl, dq, hkq, R1, R2, hbw4⟩
  replace hB := hB.below hbw4
  replace X1 := X1.below hbw4
  replace Y1 := Y1.below hbw4
  replace Z1 := Z1.below hbw4
  replace Z2 := Z2.below hbw4
  have Bw4 := bel_trans Bw3 hbw4
  clear hbw4
  obtain ⟨D, hD⟩ : ∃ zz_, zz_ = dotShared q kq ax bx := ⟨_, rfl⟩; have HD := Lib.hid hD; clear hD
  go_wp2_with fail
  refine (i_DotShared _ _ _ _ _ _ _ _ _ _ _ dq.fits (by unfold Fits; omega) R1 R2).mono ?_; rintro e w5 ⟨r3, e3, rfl, D1, hbw5⟩
  replace hB := hB.below hbw5
  replace X1 := X1.below hbw5
  replace Y1 := Y1.below hbw5
  replace Z1 := Z1.below hbw5
  replace Z2 := Z2.below hbw5
  replace R1 := R1.below hbw5
  replace R2 := R2.below hbw5
  have Bw5 := bel_trans Bw4 hbw5
  clear hbw5
  rw [← HD.out] at D1 ⊢
  go_wp2_with fail
  refine (s_DotShared _ _ _ _ _ _ _ _ _ _ _ dq.fits (by unfold Fits; omega) R1 R2).mono ?_; rintro e w6 ⟨r4, e4, rfl, D2, hbw6⟩
  replace hB := hB.below hbw6
  replace X1 := X1.below hbw6
  replace Y1 := Y1.below hbw6
  replace Z1 := Z1.below hbw6
  replace Z2 := Z2.below hbw6
  replace R1 := R1.below hbw6
  replace R2 := R2.below hbw6
  replace D1 := D1.below hbw6
  have Bw6 := bel_trans Bw5 hbw6
  clear hbw6
  rw [← HD.out] at D2 ⊢
  go_wp2_with fail
  refine (s_DrawPowerShared _ _ _ _ hB).mono ?_; rintro e w7 ⟨r, f, ur, un, uc, ux, m, rfl, dr, hf, U1, hm, hbw7⟩
  replace hB := hB.below hbw7
  replace X1 := X1.below hbw7
  replace Y1 := Y1.below hbw7
  replace Z1 := Z1.below hbw7
  replace Z2 := Z2.below hbw7
  replace R1 := R1.below hbw7
  replace R2 := R2.below hbw7
  replace D1 := D1.below hbw7
  replace D2 := D2.below hbw7
  have Bw7 := bel_trans Bw6 hbw7
  clear hbw7
  clear hB
  obtain ⟨P, hP⟩ : ∃ zz_, zz_ = powShared r f ux m := ⟨_, rfl⟩; have HP := Lib.hid hP; clear hP
  go_wp2_with fail
  refine (i_PowerShared _ _ _ _ _ _ _ _ dr.fits (by unfold Fits; omega) U1.ints (by unfold Fits; omega)).mono ?_; rintro e w8 ⟨r5, e5, rfl, P1, hbw8⟩
  replace X1 := X1.below hbw8
  replace Y1 := Y1.below hbw8
  replace Z1 := Z1.below hbw8
  replace Z2 := Z2.below hbw8
  replace R1 := R1.below hbw8
  replace R2 := R2.below hbw8
  replace D1 := D1.below hbw8
  replace D2 := D2.below hbw8
  replace U1 := U1.below hbw8
  have Bw8 := bel_trans Bw7 hbw8
  clear hbw8
  rw [← HP.out] at P1 ⊢
  go_wp2_with fail
  refine (s_PowerShared _ _ _ _ _ _ _ _ dr.fits (by unfold Fits; omega) U1.ints (by unfold Fits; omega)).mono ?_; rintro e w9 ⟨r6, e6, rfl, P2, hbw9⟩
  replace X1 := X1.below hbw9
  replace Y1 := Y1.below hbw9
  replace Z1 := Z1.below hbw9
  replace Z2 := Z2.below hbw9
  replace R1 := R1.below hbw9
  replace R2 := R2.below hbw9
  replace D1 := D1.below hbw9
  replace D2 := D2.below hbw9
  replace U1 := U1.below hbw9
  replace P1 := P1.below hbw9
  have Bw9 := bel_trans Bw8 hbw9
  clear hbw9
  rw [← HP.out] at P2 ⊢
  go_wp2_with fail
  refine (l_qInts _ _ _ _ _ _ _ Z1.ints Z2.ints).mono ?_; rintro e w10 ⟨rfl, hbw10⟩
  replace X1 := X1.below hbw10
  replace Y1 := Y1.below hbw10
  replace Z1 := Z1.below hbw10
  replace Z2 := Z2.below hbw10
  replace R1 := R1.below hbw10
  replace R2 := R2.below hbw10
  replace D1 := D1.below hbw10
  replace D2 := D2.below hbw10
  replace U1 := U1.below hbw10
  replace P1 := P1.below hbw10
  replace P2 := P2.below hbw10
  have Bw10 := bel_trans Bw9 hbw10
  clear hbw10
  go_wp2_with fail
  refine (l_qInts _ _ _ _ _ _ _ D1.ints D2.ints).mono ?_; rintro e w11 ⟨rfl, hbw11⟩
  replace X1 := X1.below hbw11
  replace Y1 := Y1.below hbw11
  replace Z1 := Z1.below hbw11
  replace Z2 := Z2.below hbw11
  replace R1 := R1.below hbw11
  replace R2 := R2.below hbw11
  replace D1 := D1.below hbw11
  replace D2 := D2.below hbw11
  replace U1 := U1.below hbw11
  replace P1 := P1.below hbw11
  replace P2 := P2.below hbw11
  have Bw11 := bel_trans Bw10 hbw11
  clear hbw11
  go_wp2_with fail
  refine (l_qInts _ _ _ _ _ _ _ P1.ints P2.ints).mono ?_; rintro e w12 ⟨rfl, hbw12⟩
  replace X1 := X1.below hbw12
  replace Y1 := Y1.below hbw12
  replace Z1 := Z1.below hbw12
  replace Z2 := Z2.below hbw12
  replace R1 := R1.below hbw12
  replace R2 := R2.below hbw12
  replace D1 := D1.below hbw12
  replace D2 := D2.below hbw12
  replace U1 := U1.below hbw12
  replace P1 := P1.below hbw12
  replace P2 := P2.below hbw12
  have Bw12 := bel_trans Bw11 hbw12
  clear hbw12
  clear Z1 D1 P1
  go_upto_if 144 with (fail)
  go_cut [16, 17, 18, 19, 20, 21] (fun _ _ _ _ _ _ wx => Below w12.heap.size w12 wx)
  case first =>
    cases hd2 : D.2 with
    | false =>
      go_wp2_with fail
      go_meet
      exact Below.refl _ _
    | true =>
      obtain ⟨z0, z1, k1, q1, q2, hlen, hl20, pa, pb, ⟨⟨b00, b01⟩, ⟨b10, b11⟩⟩, hl⟩ := dot_law (p := q) (key := kq) (xs := ax) (ys := bx) (by rw [← HD.out]; exact hd2)
      rw [← HD.out] at k1; subst k1; clear hd2 HD; simp only [List.length_cons, List.length_nil, Nat.zero_add, Nat.reduceAdd] at D2 ⊢
      have hla := R1.len; have hlb := R2.len
      obtain rfl : an = bn := by rw [← hla.out, ← hlb.out]; exact hlen
      have hn20 : an ≤ 20 := by rw [← hla.out]; exact hl20
      rw [hla.out] at hl
      have HPA := Lib.hid (allR_iff.1 pa); have HPB := Lib.hid (allR_iff.1 pb); have HL := Lib.hid hl; clear pa pb hlen hl20 hl
      have HDS := Lib.hid (dsum_bd q q1 q2 ax bx)
      go_wp2_with fail
      go_loopw [147, 30] (fun i s wr => ∃ k : Nat, k ≤ an ∧ i = .int .i64 k ∧ s = .int .i64 (dsum q ax bx k) ∧ Hid (Below w12.heap.size w12 wr)) (fun i _ _ => an - (intOf i).toNat)
      case atStart => exact ⟨0, by omega, rfl, rfl, Below.refl _ _⟩
      case round =>
        obtain ⟨k, hk, rfl, rfl, HB⟩ := hrel
        obtain ⟨wo, rfl⟩ : ∃ wo : World, wo = wr := ⟨_, rfl⟩
        have hds := HDS.out k
        by_cases hlt : k < an
        · obtain ⟨ba, oa, ra, ma, ca, rfl, hba, hca, hra⟩ := (R1.below HB.out).at hlt
          obtain ⟨bb, ob, rb, mb, cb, rfl, hbb, hcb, hrb⟩ := (R2.below HB.out).at hlt
          obtain ⟨x0, x1, ex, ⟨bx0, bx1⟩, ⟨bx2, bx3⟩⟩ := ln2 (HPA.out k (by rw [hla.out]; exact hlt))
          obtain ⟨y0, y1, ey, ⟨by0, by1⟩, ⟨by2, by3⟩⟩ := ln2 (HPB.out k (by rw [hlb.out]; exact hlt))
          rw [ex] at hra; rw [ey] at hrb
          have HS0 : Hid (dsum q ax bx (k + 1) = dsum q ax bx k + (x0 + x1) % q * ((y0 + y1) % q)) := by show _ = _; rw [dsum, ex, ey]; rfl
          clear ex ey
          have cX := fun m => l_qSum2 _ _ _ x0 x1 (wo.drewN m) (hra.below (below_drewN (Below.refl _ _) m)) ⟨by omega, by omega⟩ ⟨by omega, by omega⟩
          have tX : (x0 + x1).tmod q = (x0 + x1) % q := Int.tmod_eq_emod_of_nonneg (by omega)
          have dX := emod_bd (n := x0 + x1) (p := q) (by omega)
          obtain ⟨sX, hsX⟩ : ∃ t, t = (x0 + x1) % q := ⟨_, rfl⟩; rw [← hsX] at tX dX; have HSX := Lib.hid hsX; clear hsX
          have cY := fun m => l_qSum2 _ _ _ y0 y1 (wo.drewN m) (hrb.below (below_drewN (Below.refl _ _) m)) ⟨by omega, by omega⟩ ⟨by omega, by omega⟩
          have tY : (y0 + y1).tmod q = (y0 + y1) % q := Int.tmod_eq_emod_of_nonneg (by omega)
          have dY := emod_bd (n := y0 + y1) (p := q) (by omega)
          obtain ⟨sY, hsY⟩ : ∃ t, t = (y0 + y1) % q := ⟨_, rfl⟩; rw [← hsY] at tY dY; have HSY := Lib.hid hsY; clear hsY
          have hmul := mul_bd (a := sX) (b := sY) 250 250 (by omega) (by omega) (by omega) (by omega)
          have wm : IntKind.i64.wrap (sX * sY) = sX * sY := IntWalk.i64_in _ (by omega)
          have ws : IntKind.i64.wrap (dsum q ax bx k + sX * sY) = dsum q ax bx k + sX * sY := IntWalk.i64_in _ (by omega)
          have hlti : (k : Int) < (an : Int) := by omega
          have hk0 : (0 : Int) ≤ (k : Int) := by omega
          have hqz : ¬ q = 0 := by omega
          clear hra hrb
          go_wp2_with fail
          go_quiet ((first | (go_at_call_of 36 ra; exact Calls.quiet_of_same ((cX _).mono fun _ _ h => ⟨h.1, h.2.symm⟩)) | (go_at_call_of 36 rb; exact Calls.quiet_of_same ((cY _).mono fun _ _ h => ⟨h.1, h.2.symm⟩))))
          go_wp2
          go_roundw
          case rel => exact ⟨k + 1, by omega, by go_num, by first | (rw [HS0.out, HSX.out, HSY.out]) | (rw [HS0.out, ← HSX.out, ← HSY.out]), by first | exact HB.out | exact below_drewN HB.out _⟩
          case measure => simp [intOf]; omega
        · obtain rfl : k = an := by omega
          replace D2 := D2.below HB.out
          have cZ := fun m => l_qSum2 _ _ _ z0 z1 (wo.drewN m) (D2.ints.below (below_drewN (Below.refl _ _) m)) ⟨by omega, by omega⟩ ⟨by omega, by omega⟩
          have tZ : (z0 + z1).tmod q = (z0 + z1) % q := Int.tmod_eq_emod_of_nonneg (by omega)
          have dZ := emod_bd (n := z0 + z1) (p := q) (by omega)
          obtain ⟨sZ, hsZ⟩ : ∃ t, t = (z0 + z1) % q := ⟨_, rfl⟩; rw [← hsZ] at tZ dZ; have HSZ := Lib.hid hsZ; clear hsZ
          have tm : (dsum q ax bx k).tmod q = sZ := by rw [Int.tmod_eq_emod_of_nonneg (by omega), HL.out]; exact HSZ.out.symm
          have hqz : ¬ q = 0 := by omega
          have hlti : ¬ (k : Int) < (k : Int) := by omega
          clear HL HDS HPA HPB
          go_wp2_with fail
          go_quiet ((first | (go_at_call_of 36 r4; exact Calls.quiet_of_same ((cZ _).mono fun _ _ h => ⟨h.1, h.2.symm⟩))))
          go_wp2_with fail
          go_meet
          first | exact HB.out | exact below_drewN HB.out _
  case rest =>
    replace X1 := X1.below hcut
    replace Y1 := Y1.below hcut
    replace Z2 := Z2.below hcut
    replace U1 := U1.below hcut
    replace P2 := P2.below hcut
    have B13 := bel_trans Bw12 hcut; clear hcut R1 R2 D2
    obtain ⟨W1, rfl⟩ : ∃ X, X = wc := ⟨_, rfl⟩
    go_upto_if 176 with (fail)
    go_cut [26, 27, 28, 29] (fun _ _ _ _ wx => Below W1.heap.size W1 wx)
    case first =>
      cases hp2 : P.2 with
      | false =>
        go_wp2_with fail
        go_meet
        exact Below.refl _ _
      | true =>
        obtain ⟨x0, x1, z0, z1, rfl, k1, q1, q2, m1, m2, ⟨⟨bx0, bx1⟩, ⟨bx2, bx3⟩⟩, ⟨⟨bz0, bz1⟩, ⟨bz2, bz3⟩⟩, hl⟩ := pow_law (p := r) (key := f) (xs := ux) (q := m) (by rw [← HP.out]; exact hp2)
        rw [← HP.out] at k1; subst k1; clear hp2 HP; simp only [List.length_cons, List.length_nil, Nat.zero_add, Nat.reduceAdd] at P2 ⊢
        have e9 : ((m : Int)).toNat = m := by omega
        rw [e9] at hl; clear e9
        have cX := fun m => l_qSum2 _ _ _ x0 x1 (W1.drewN m) (U1.ints.below (below_drewN (Below.refl _ _) m)) ⟨by omega, by omega⟩ ⟨by omega, by omega⟩
        have tX : (x0 + x1).tmod r = (x0 + x1) % r := Int.tmod_eq_emod_of_nonneg (by omega)
        have dX := emod_bd (n := x0 + x1) (p := r) (by omega)
        obtain ⟨sX, hsX⟩ : ∃ t, t = (x0 + x1) % r := ⟨_, rfl⟩; rw [← hsX] at tX dX; have HSX := Lib.hid hsX; clear hsX
        have cx := cX 0; clear cX
        rw [← HSX.out] at hl
        have cZ := fun m => l_qSum2 _ _ _ z0 z1 (W1.drewN m) (P2.ints.below (below_drewN (Below.refl _ _) m)) ⟨by omega, by omega⟩ ⟨by omega, by omega⟩
        have tZ : (z0 + z1).tmod r = (z0 + z1) % r := Int.tmod_eq_emod_of_nonneg (by omega)
        have dZ := emod_bd (n := z0 + z1) (p := r) (by omega)
        obtain ⟨sZ, hsZ⟩ : ∃ t, t = (z0 + z1) % r := ⟨_, rfl⟩; rw [← hsZ] at tZ dZ; have HSZ := Lib.hid hsZ; clear hsZ
        rw [← HSZ.out] at hl; have HL := Lib.hid hl; clear hl
        have HPW := Lib.hid (pwO_bd r sX q1)
        have hrz : ¬ r = 0 := by omega
        go_wp2_with fail
        refine (l_qSum2 _ _ _ x0 x1 W1 U1.ints ⟨by omega, by omega⟩ ⟨by omega, by omega⟩).mono ?_; rintro e w9_ ⟨rfl, rfl⟩
        go_wp2_with fail
        go_loop [34, 33] (fun i s => ∃ k : Nat, k ≤ m ∧ i = .int .i64 k ∧ s = .int .i64 (pwO r sX k)) (fun i _ => m - (intOf i).toNat)
        case atStart => exact ⟨0, by omega, rfl, rfl⟩
        case round =>
          obtain ⟨k, hk, rfl, rfl⟩ := hrel
          have hpw := HPW.out k
          by_cases hlt : k < m
          · have hmul := mul_bd (a := pwO r sX k) (b := sX) 250 250 (by omega) (by omega) (by omega) (by omega)
            have HS0 : Hid (pwO r sX (k + 1) = pwO r sX k * sX % r) := by show _ = _; rw [pwO]
            have hd0 := emod_bd (n := pwO r sX k * sX) (p := r) (by omega)
            go_wp2
            go_round
            case rel => exact ⟨k + 1, by omega, by go_num, by rw [HS0.out]⟩
            case measure => simp [intOf]; omega
          · obtain rfl : k = m := by omega
            have tm : (pwO r sX k).tmod r = sZ := by rw [Int.tmod_eq_emod_of_nonneg (by omega)]; exact HL.out
            clear HL HPW
            go_wp2_with fail
            go_quiet ((first | (go_at_call_of 36 r6; exact Calls.quiet_of_same ((cZ _).mono fun _ _ h => ⟨h.1, h.2.symm⟩))))
            go_wp2_with fail
            go_meet
            first | exact Below.refl _ _ | exact below_drewN (Below.refl _ _) _
    case rest =>
      replace X1 := X1.below hcut
      replace Y1 := Y1.below hcut
      replace Z2 := Z2.below hcut
      have B14 := bel_trans B13 hcut; clear hcut P2 U1
      obtain ⟨W2, rfl⟩ : ∃ X, X = wc := ⟨_, rfl⟩
      go_upto_region 31 with (fail)
      cases hm2 : M.2 with
      | false =>
        go_quiet (fail)
        go_wp2
        go_ret
        exact ⟨by first | rfl | simp, by first | exact B14 | exact below_drewN B14 _⟩
      | true =>
        obtain ⟨x0, x1, y0, y1, z0, z1, rfl, rfl, k1, p1, p2, ⟨⟨bx0, bx1⟩, ⟨bx2, bx3⟩⟩, ⟨⟨by0, by1⟩, ⟨by2, by3⟩⟩, ⟨⟨bz0, bz1⟩, ⟨bz2, bz3⟩⟩, hl⟩ := mult_law (p := p) (key := k) (i := i) (xs := xx) (ys := yx) (by rw [← HM.out]; exact hm2)
        rw [← HM.out] at k1; subst k1; clear hm2 HM; simp only [List.length_cons, List.length_nil, Nat.zero_add, Nat.reduceAdd] at Z2 ⊢
        have cX := fun m => l_qSum2 _ _ _ x0 x1 (W2.drewN m) (X1.ints.below (below_drewN (Below.refl _ _) m)) ⟨by omega, by omega⟩ ⟨by omega, by omega⟩
        have tX : (x0 + x1).tmod p = (x0 + x1) % p := Int.tmod_eq_emod_of_nonneg (by omega)
        have dX := emod_bd (n := x0 + x1) (p := p) (by omega)
        obtain ⟨sX, hsX⟩ : ∃ t, t = (x0 + x1) % p := ⟨_, rfl⟩; rw [← hsX] at tX dX; have HSX := Lib.hid hsX; clear hsX
        have cY := fun m => l_qSum2 _ _ _ y0 y1 (W2.drewN m) (Y1.ints.below (below_drewN (Below.refl _ _) m)) ⟨by omega, by omega⟩ ⟨by omega, by omega⟩
        have tY : (y0 + y1).tmod p = (y0 + y1) % p := Int.tmod_eq_emod_of_nonneg (by omega)
        have dY := emod_bd (n := y0 + y1) (p := p) (by omega)
        obtain ⟨sY, hsY⟩ : ∃ t, t = (y0 + y1) % p := ⟨_, rfl⟩; rw [← hsY] at tY dY; have HSY := Lib.hid hsY; clear hsY
        have cZ := fun m => l_qSum2 _ _ _ z0 z1 (W2.drewN m) (Z2.ints.below (below_drewN (Below.refl _ _) m)) ⟨by omega, by omega⟩ ⟨by omega, by omega⟩
        have tZ : (z0 + z1).tmod p = (z0 + z1) % p := Int.tmod_eq_emod_of_nonneg (by omega)
        have dZ := emod_bd (n := z0 + z1) (p := p) (by omega)
        obtain ⟨sZ, hsZ⟩ : ∃ t, t = (z0 + z1) % p := ⟨_, rfl⟩; rw [← hsZ] at tZ dZ; have HSZ := Lib.hid hsZ; clear hsZ
        rw [← HSX.out, ← HSY.out, ← HSZ.out] at hl
        have hmul := mul_bd (a := sX) (b := sY) (A := 251) (B := 251) (by omega) (by omega) (by omega) (by omega)
        have wm : IntKind.i64.wrap (sX * sY) = sX * sY := IntWalk.i64_in _ (by omega)
        have tm : (sX * sY).tmod p = sZ := by rw [Int.tmod_eq_emod_of_nonneg (by omega)]; exact hl
        have hpz : ¬ p = 0 := by omega
        clear hl
        go_quiet ((first | (go_at_call_of 36 xr; exact Calls.quiet_of_same ((cX _).mono fun _ _ h => ⟨h.1, h.2.symm⟩)) | (go_at_call_of 36 yr; exact Calls.quiet_of_same ((cY _).mono fun _ _ h => ⟨h.1, h.2.symm⟩)) | (go_at_call_of 36 r2; exact Calls.quiet_of_same ((cZ _).mono fun _ _ h => ⟨h.1, h.2.symm⟩))))
        go_wp2
        go_ret
        exact ⟨by first | rfl | simp, by first | exact B14 | exact below_drewN B14 _⟩
end Go.Proofs.Ytfandnakenpfnaa
