/-
  The walk of the law FnChecks.
-/
import Derived.Test.YtfejpmfcognikaaGreatY9
import Derived.Deep.DeepCutAuto
import Derived.BigQuiet
import Derived.Deep.QuietTactic
namespace Go.Proofs.YtfejpmfcognikaaGreat
open Go.RowKit
set_option linter.unusedVariables false
set_option linter.unusedSimpArgs false
set_option maxRecDepth 100000

def seenN (wss : List (List Int)) (mask : List Int) (m : Nat) : Nat → Bool
  | 0 => false
  | j + 1 => seenN wss mask m j || decide (parC mask (rowN wss j) m = 1)
theorem seenN_iff {wss : List (List Int)} {mask : List Int} {m : Nat} : ∀ n, seenN wss mask m n = true ↔ ∃ j, j < n ∧ parC mask (rowN wss j) m = 1
  | 0 => by simp [seenN]
  | n + 1 => by
    rw [seenN, Bool.or_eq_true, seenN_iff n, decide_eq_true_iff]
    constructor
    · rintro (⟨j, hj, h⟩ | h)
      · exact ⟨j, by omega, h⟩
      · exact ⟨n, by omega, h⟩
    · rintro ⟨j, hj, h⟩
      by_cases e : j = n
      · subst e; exact Or.inr h
      · exact Or.inl ⟨j, by omega, h⟩
theorem seenN_all {wss : List (List Int)} {mask : List Int} {m n : Nat} (hn : wss.length = n) : seenN wss mask m n = seenB wss mask m := by
  subst hn
  have h1 := seenN_iff (wss := wss) (mask := mask) (m := m) wss.length
  have h2 : seenB wss mask m = true ↔ ∃ j, j < wss.length ∧ parC mask (rowN wss j) m = 1 := by
    unfold seenB
    rw [List.any_eq_true]
    constructor
    · rintro ⟨ws, hm, hp⟩
      obtain ⟨j, hj, rfl⟩ := List.mem_iff_getElem.1 hm
      exact ⟨j, hj, by simp only [rowN, List.getD_eq_getElem?_getD, List.getElem?_eq_getElem hj, Option.getD_some]; exact of_decide_eq_true hp⟩
    · rintro ⟨j, hj, hp⟩
      refine ⟨wss[j], List.getElem_mem hj, ?_⟩
      simp only [rowN, List.getD_eq_getElem?_getD, List.getElem?_eq_getElem hj, Option.getD_some] at hp
      exact decide_eq_true hp
  cases e1 : seenN wss mask m wss.length with
  | true => exact (h2.2 (h1.1 e1)).symm
  | false =>
    cases e2 : seenB wss mask m with
    | false => rfl
    | true => rw [h1.2 (h2.1 e2)] at e1; cases e1
set_option maxHeartbeats 16000000 in
theorem law_FnChecks (a0 : Option Addr) (n0 c0 : Nat) (z0 : List Int) (a1 : Option Addr) (n1 c1 : Nat) (z1 : List Int) (w : World) (h0 : BytesIn w a0 n0 c0 z0) (h1 : BytesIn w a1 n1 c1 z1) :
    Calls Tryz.prog 3 #[.slice a0 n0 c0, .slice a1 n1 c1] w fun e w' => e = .returned (.bool true) ∧ Below w.heap.size w w' := by
  have hn0 := h0.small; have hn1 := h1.small
  have hB : Byts w a1 n1 c1 := h1
  have hA : Byts w a0 n0 c0 := h0
  clear h0 h1
  go_enter Tryz.func3, Tryz.ntmps3
  go_wp2_with fail
  refine (l_big _ _ _ _ _ _ _ (by omega) (by omega)).mono ?_; rintro e w0 ⟨q, rfl, rfl⟩
  cases q with
  | true =>
    go_wp2
    go_ret
    exact ⟨rfl, Below.refl _ _⟩
  | false =>
    go_wp2_with fail
    refine (s_DrawCountUnseen _ _ _ _ hA).mono ?_; rintro e w1 ⟨k, lr, ln, lc, lx, cr, cn, cc, cx, key, i, mr, mn, mc, mx, rfl, hk, hlx, hln, hcx, hcn, dk, hi, hmx, hmn, hbw1⟩
    replace hB := hB.below hbw1
    replace hA := hA.below hbw1
    have Bw1 := bel_trans (Below.refl w.heap.size w) hbw1
    clear hbw1
    clear hA
    obtain ⟨X, hX⟩ : ∃ zz_, zz_ = countUnseen k lx cx key i mx := ⟨_, rfl⟩; have HX := Lib.hid hX; clear hX
    have fk : Fits k := by unfold Fits; omega
    have fi : Fits i := by unfold Fits; omega
    go_wp2_with fail
    refine (i_CountUnseen k _ _ _ lx _ _ _ cx key i _ _ _ mx _ fk hlx hcx dk.fits fi hmx).mono ?_; rintro e w2 ⟨rfl, hbw2⟩
    replace hB := hB.below hbw2
    replace hlx := hlx.below hbw2
    replace hcx := hcx.below hbw2
    replace hmx := hmx.below hbw2
    have Bw2 := bel_trans Bw1 hbw2
    clear hbw2
    rw [← HX.out]
    go_wp2_with fail
    refine (s_CountUnseen k _ _ _ lx _ _ _ cx key i _ _ _ mx _ fk hlx hcx dk.fits fi hmx).mono ?_; rintro e w3 ⟨rfl, hbw3⟩
    replace hB := hB.below hbw3
    replace hlx := hlx.below hbw3
    replace hcx := hcx.below hbw3
    replace hmx := hmx.below hbw3
    have Bw3 := bel_trans Bw2 hbw3
    clear hbw3
    rw [← HX.out]
    go_upto_if 96 with (fail)
    go_cut [11, 12, 13, 14, 15, 16, 17, 18, 19, 20] (fun s11 s12 s13 s14 _ _ _ _ _ _ wx => s11 = .int .i64 X.1 ∧ s13 = .int .i64 X.1 ∧ s12 = .bool X.2 ∧ s14 = .bool X.2 ∧ Below w3.heap.size w3 wx)
    case first =>
      as_aux_lemma =>
        cases hx2 : X.2 with
        | false =>
          go_wp2_with fail
          go_meet
          exact ⟨rfl, rfl, by rw [hx2], by rw [hx2], Below.refl _ _⟩
        | true =>
          obtain ⟨kn, hkn, kn1, kn8, hl8, hmb, hm24, hrow, u1, u2⟩ := un_law (k := k) (wss := lx) (ch := cx) (key := key) (i := i) (mask := mx) (by rw [← HX.out]; exact hx2)
          subst hkn; rw [← HX.out] at u1 u2
          have hml := hmx.len.out; have hll := hlx.len.out
          rw [hml] at u1 u2 hm24
          have HROW := Lib.hid hrow; have HMB := Lib.hid hmb; have HU := Lib.hid (And.intro u1 u2); have HSA := Lib.hid (seenN_all (wss := lx) (mask := mx) (m := mn) hll); have HX2 := Lib.hid hx2; clear hrow hmb u1 u2 hx2 HX hk
          go_wp2_with fail
          go_loopw [15, 99] (fun s i wr => ∃ j : Nat, j ≤ ln ∧ i = .int .i64 j ∧ s = .bool (seenN lx mx mn j) ∧ Hid (Below w3.heap.size w3 wr)) (fun _ i _ => ln - (intOf i).toNat)
          case atStart => exact ⟨0, by omega, rfl, rfl, Below.refl _ _⟩
          case round =>
            obtain ⟨j, hj, rfl, rfl, HB⟩ := hrel
            by_cases hlt : j < ln
            · have hlti : (j : Int) < (ln : Int) := by omega
              obtain ⟨b, off, r, m, c, rfl, hbl, hc, hI⟩ := (hlx.below HB.out).at hlt
              have hrj := HROW.out j (by omega)
              obtain rfl : m = mn := by have := hI.len.out; omega
              have HS : Hid (seenN lx mx m (j + 1) = (seenN lx mx m j || decide (parC mx (rowN lx j) m = 1))) := rfl
              have hzr := HB.out.size
              obtain ⟨p, hp⟩ : ∃ p, p = parC mx (rowN lx j) m := ⟨_, rfl⟩
              rw [← hp] at HS; have HP := Lib.hid hp; clear hp
              obtain ⟨sj, hsj⟩ : ∃ sj, sj = seenN lx mx m j := ⟨_, rfl⟩
              rw [← hsj] at HS ⊢; clear hsj
              go_wp2_with fail
              refine (i_ParityOf _ _ m _ _ mx (rowN lx j) _ (hmx.below HB.out) hI (by omega) HMB.out hrj.2).mono ?_; rintro e w2 ⟨rfl, hb2⟩; rw [← HP.out]
              have HB2 := Lib.hid (HB.out.trans (hb2.mono hzr)); clear hb2 hI hc hrj HP
              by_cases ep : p = 1
              · have epb : (p == 1) = true := by simpa using ep
                have epd : decide (p = 1) = true := by simpa using ep
                rw [epd] at HS; clear epd ep
                cases sj with
                | false =>
                  go_wp2
                  go_roundw
                  case rel => exact ⟨j + 1, by omega, by go_num, by rw [HS.out]; rfl, HB2⟩
                  case measure => simp [intOf]; omega
                | true =>
                  go_wp2
                  go_roundw
                  case rel => exact ⟨j + 1, by omega, by go_num, by rw [HS.out]; rfl, HB2⟩
                  case measure => simp [intOf]; omega
              · have epb : (p == 1) = false := by simpa using ep
                have epd : decide (p = 1) = false := by simpa using ep
                rw [epd] at HS; clear epd ep
                cases sj with
                | false =>
                  go_wp2
                  go_roundw
                  case rel => exact ⟨j + 1, by omega, by go_num, by rw [HS.out]; rfl, HB2⟩
                  case measure => simp [intOf]; omega
                | true =>
                  go_wp2
                  go_roundw
                  case rel => exact ⟨j + 1, by omega, by go_num, by rw [HS.out]; rfl, HB2⟩
                  case measure => simp [intOf]; omega
            · obtain rfl : j = ln := by omega
              have hlti : ¬ (j : Int) < (j : Int) := by omega
              rw [HSA.out]
              obtain ⟨N, hN⟩ : ∃ N, N = 2 ^ kn := ⟨_, rfl⟩
              have hN256 : N ≤ 256 := by rw [hN]; exact pow8 kn8
              have hpow : ((2 : Int) ^ kn) = (N : Int) := by rw [hN]; push_cast; rfl
              have ew1 : IntKind.i64.wrap ((2 : Int) ^ kn) = (N : Int) := by rw [hpow]; exact IntWalk.i64_in _ (by omega)
              have ewI : IntKind.i64.wrap (N : Int) = (N : Int) := IntWalk.i64_in _ (by omega)
              have ewN : wrap64 (N : Int) = (N : Int) := by unfold wrap64; omega
              have ew2 : wrap64 ((2 : Int) ^ kn) = (N : Int) := by rw [hpow]; exact ewN
              have u1 := HU.out.1; have u2 := HU.out.2; rw [← hN] at u1 u2; clear hN HU HSA HROW
              cases hsb : seenB lx mx mn with
              | true =>
                have hv := u1 hsb; clear u1 u2
                have em : IntKind.i64.wrap (2 * X.1) = (N : Int) := by rw [hv]; exact ewI
                have em2 : wrap64 (2 * X.1) = (N : Int) := by rw [hv]; exact ewN
                go_wp2_with fail
                go_meet
                exact ⟨by first | rfl | rw [hv], by first | rfl | rw [hv], by rw [HX2.out], by rw [HX2.out], HB.out⟩
              | false =>
                have hv := u2 hsb; clear u1 u2
                go_wp2_with fail
                go_meet
                exact ⟨by first | rfl | rw [hv], by first | rfl | rw [hv], by rw [HX2.out], by rw [HX2.out], HB.out⟩
    case rest =>
      as_aux_lemma =>
        obtain ⟨rfl, rfl, rfl, rfl, hcut⟩ := hcut
        replace hB := hB.below hcut
        have Bcut := bel_trans Bw3 hcut; clear hcut hlx hcx hmx
        obtain ⟨wa, rfl⟩ : ∃ X, X = wc := ⟨_, rfl⟩
        go_wp2_with fail
        refine (s_DrawCheckPasses _ _ _ _ hB).mono ?_; rintro e w4 ⟨sr, sn, sc, sx, lr2, ln2, lc2, lx2, cr2, cn2, cc2, cx2, tr, tn, tc, tx, qr, qn, qc, qx, rfl, hsx, hsn, hlx2, hln2, hcx2, hcn2, htx, htn, hqx, hqn, hbw4⟩
        replace hB := hB.below hbw4
        have Bw4 := bel_trans Bcut hbw4
        clear hbw4
        obtain ⟨Y, hY⟩ : ∃ zz_, zz_ = checkPasses sx lx2 cx2 tx qx := ⟨_, rfl⟩; have HY := Lib.hid hY; clear hY
        go_wp2_with fail
        refine (i_CheckPasses _ _ _ sx _ _ _ lx2 _ _ _ cx2 _ _ _ tx _ _ _ qx _ hsx hlx2 hcx2 htx hqx).mono ?_; rintro e w5 ⟨rfl, hbw5⟩
        replace hB := hB.below hbw5
        replace hsx := hsx.below hbw5
        replace hlx2 := hlx2.below hbw5
        replace hcx2 := hcx2.below hbw5
        replace htx := htx.below hbw5
        replace hqx := hqx.below hbw5
        have Bw5 := bel_trans Bw4 hbw5
        clear hbw5
        rw [← HY.out]
        go_wp2_with fail
        refine (s_CheckPasses _ _ _ sx _ _ _ lx2 _ _ _ cx2 _ _ _ tx _ _ _ qx _ hsx hlx2 hcx2 htx hqx).mono ?_; rintro e w6 ⟨rfl, hbw6⟩
        replace hB := hB.below hbw6
        replace hsx := hsx.below hbw6
        replace hlx2 := hlx2.below hbw6
        replace hcx2 := hcx2.below hbw6
        replace htx := htx.below hbw6
        replace hqx := hqx.below hbw6
        have Bw6 := bel_trans Bw5 hbw6
        clear hbw6
        rw [← HY.out]
        obtain ⟨Z, hZ⟩ : ∃ zz_, zz_ = rowsMatch sx cx2 qx tx := ⟨_, rfl⟩; have HZ := Lib.hid hZ; clear hZ
        go_wp2_with fail
        refine (i_RowsMatch _ _ _ sx _ _ _ cx2 _ _ _ qx _ _ _ tx _ hsx hcx2 hqx htx).mono ?_; rintro e w7 ⟨rfl, hbw7⟩
        replace hB := hB.below hbw7
        replace hsx := hsx.below hbw7
        replace hlx2 := hlx2.below hbw7
        replace hcx2 := hcx2.below hbw7
        replace htx := htx.below hbw7
        replace hqx := hqx.below hbw7
        have Bw7 := bel_trans Bw6 hbw7
        clear hbw7
        rw [← HZ.out]
        go_wp2_with fail
        refine (s_RowsMatch _ _ _ sx _ _ _ cx2 _ _ _ qx _ _ _ tx _ hsx hcx2 hqx htx).mono ?_; rintro e w8 ⟨rfl, hbw8⟩
        replace hB := hB.below hbw8
        replace hsx := hsx.below hbw8
        replace hlx2 := hlx2.below hbw8
        replace hcx2 := hcx2.below hbw8
        replace htx := htx.below hbw8
        replace hqx := hqx.below hbw8
        have Bw8 := bel_trans Bw7 hbw8
        clear hbw8
        rw [← HZ.out]
        clear hsx hlx2 hcx2 htx hqx
        have HM : Hid (Y.2 = true → Z.1 = true → Y.1 = true) := fun p q => by rw [HY.out] at p ⊢; rw [HZ.out] at q; exact match_pass p q
        clear HY HZ
        go_upto_region 26 with (fail)
        go_cut [26, 27, 28, 29, 30, 31, 32, 33, 208] (fun s26 s27 s28 s29 s30 s31 s32 s33 s wx => s26 = .bool Y.1 ∧ s27 = .bool Y.2 ∧ s28 = .bool Y.1 ∧ s29 = .bool Y.2 ∧ s30 = .bool Z.1 ∧ s31 = .bool Z.2 ∧ s32 = .bool Z.1 ∧ s33 = .bool Z.2 ∧ s = .bool false ∧ wx = w8)
        case first =>
          as_aux_lemma =>
            cases hY2 : Y.2 with
            | false =>
              go_wp2_with fail
              go_meet
              refine ⟨?_, ?_, ?_, ?_, ?_, ?_, ?_, ?_, rfl, rfl⟩ <;> first | rfl | (simp only [*])
            | true =>
              cases hZ2 : Z.2 with
              | false =>
                go_wp2_with fail
                go_meet
                refine ⟨?_, ?_, ?_, ?_, ?_, ?_, ?_, ?_, rfl, rfl⟩ <;> first | rfl | (simp only [*])
              | true =>
                cases hZ1 : Z.1 with
                | false =>
                  go_wp2_with fail
                  go_meet
                  refine ⟨?_, ?_, ?_, ?_, ?_, ?_, ?_, ?_, rfl, rfl⟩ <;> first | rfl | (simp only [*])
                | true =>
                  have hY1 := HM.out hY2 hZ1
                  go_wp2_with fail
                  go_meet
                  refine ⟨?_, ?_, ?_, ?_, ?_, ?_, ?_, ?_, rfl, rfl⟩ <;> first | rfl | (simp only [*])
        case rest =>
          as_aux_lemma =>
            obtain ⟨rfl, rfl, rfl, rfl, rfl, rfl, rfl, rfl, rfl, rfl⟩ := hcut
            clear HM
            go_wp2_with fail
            refine (s_DrawBendColumns _ _ _ _ hB).mono ?_; rintro e w9 ⟨br, bn, bc, bx, bi, mr2, mn2, mc2, mx2, rfl, hbx, hbn, hbi, hmx2, hmn2, hbw9⟩
            replace hB := hB.below hbw9
            have Bw9 := bel_trans Bw8 hbw9
            clear hbw9
            obtain ⟨V, hV⟩ : ∃ zz_, zz_ = bendCols bx bi mx2 := ⟨_, rfl⟩; have HV := Lib.hid hV; clear hV
            have fbi : Fits bi := by unfold Fits; omega
            go_wp2_with fail
            refine (i_BendColumns _ _ _ bx bi _ _ _ mx2 _ hbx fbi hmx2).mono ?_; rintro e w10 ⟨R1r, R1c, rfl, R1m, hbw10⟩
            replace hB := hB.below hbw10
            replace hbx := hbx.below hbw10
            replace hmx2 := hmx2.below hbw10
            have Bw10 := bel_trans Bw9 hbw10
            clear hbw10
            rw [← HV.out] at R1m ⊢
            have R1 := R1m.rows; clear R1m
            go_wp2_with fail
            refine (s_BendColumns _ _ _ bx bi _ _ _ mx2 _ hbx fbi hmx2).mono ?_; rintro e w11 ⟨R2r, R2c, rfl, R2m, hbw11⟩
            replace hB := hB.below hbw11
            replace hbx := hbx.below hbw11
            replace hmx2 := hmx2.below hbw11
            replace R1 := R1.below hbw11
            have Bw11 := bel_trans Bw10 hbw11
            clear hbw11
            rw [← HV.out] at R2m ⊢
            have R2 := R2m.rows; clear R2m
            go_wp2_with fail
            refine (l_sameLists _ _ _ _ _ V.1 _ R1 R2).mono ?_; rintro e w12 ⟨rfl, hbw12⟩
            replace hB := hB.below hbw12
            replace hbx := hbx.below hbw12
            replace hmx2 := hmx2.below hbw12
            replace R1 := R1.below hbw12
            replace R2 := R2.below hbw12
            have Bw12 := bel_trans Bw11 hbw12
            clear hbw12
            clear R2
            go_upto_if 238 with (fail)
            go_cut [38, 40, 41, 42] (fun s38 s40 _ _ wx => s38 = .bool V.2 ∧ s40 = .bool V.2 ∧ Below w12.heap.size w12 wx)
            case first =>
              as_aux_lemma =>
                cases hv2 : V.2 with
                | false =>
                  go_wp2_with fail
                  go_meet
                  exact ⟨by rw [hv2], by rw [hv2], Below.refl _ _⟩
                | true =>
                  have HV2 := Lib.hid hv2
                  have HL := Lib.hid (bend_law (cs := bx) (i := bi) (mask := mx2) (by rw [← HV.out]; exact hv2))
                  rw [← HV.out] at HL
                  have hbl := hbx.len.out
                  go_wp2_with fail
                  refine (i_BendColumns _ _ _ V.1 bi _ _ _ mx2 _ R1 fbi hmx2).mono ?_; rintro e wx ⟨xr_, xc_, rfl, xm, hbx_⟩
                  rw [HL.out] at xm ⊢
                  have xi := xm.rows; clear xm
                  replace xi : Rws wx xr_ bx.length xc_ bx := xi
                  rw [show ((bx, true) : List (List Int) × Bool).1.length = bn from hbl]
                  rw [hbl] at xi
                  go_wp2_with fail
                  refine (l_sameLists _ _ _ _ _ bx _ xi (hbx.below hbx_)).mono ?_; rintro e wy ⟨rfl, hby_⟩
                  have BB := bel_trans hbx_ hby_; clear hbx_ hby_ xi
                  go_wp2_with fail
                  go_meet
                  exact ⟨by rw [HV2.out], by rw [HV2.out], BB⟩
            case rest =>
              as_aux_lemma =>
                obtain ⟨rfl, rfl, hcut⟩ := hcut
                replace hB := hB.below hcut
                have Bcut2 := bel_trans Bw12 hcut; clear hcut hbx hmx2 R1
                obtain ⟨wb, rfl⟩ : ∃ X, X = wc := ⟨_, rfl⟩
                go_wp2_with fail
                refine (s_DrawCheckRows _ _ _ _ hB).mono ?_; rintro e w13 ⟨lr3, ln3, lc3, lx3, qr3, qn3, qc3, qx3, rfl, hlx3, hln3, hqx3, hqn3, hbw13⟩
                replace hB := hB.below hbw13
                have Bw13 := bel_trans Bcut2 hbw13
                clear hbw13
                obtain ⟨C, hC⟩ : ∃ zz_, zz_ = checkRows lx3 qx3 := ⟨_, rfl⟩; have HC := Lib.hid hC; clear hC
                go_wp2_with fail
                refine (i_CheckRows _ _ _ lx3 _ _ _ qx3 _ hlx3 hqx3).mono ?_; rintro e w14 ⟨C1r, C1c, rfl, C1m, hbw14⟩
                replace hB := hB.below hbw14
                replace hlx3 := hlx3.below hbw14
                replace hqx3 := hqx3.below hbw14
                have Bw14 := bel_trans Bw13 hbw14
                clear hbw14
                rw [← HC.out] at C1m ⊢
                have C1 := C1m.ints; clear C1m
                go_wp2_with fail
                refine (s_CheckRows _ _ _ lx3 _ _ _ qx3 _ hlx3 hqx3).mono ?_; rintro e w15 ⟨C2r, C2c, rfl, C2m, hbw15⟩
                replace hB := hB.below hbw15
                replace hlx3 := hlx3.below hbw15
                replace hqx3 := hqx3.below hbw15
                replace C1 := C1.below hbw15
                have Bw15 := bel_trans Bw14 hbw15
                clear hbw15
                rw [← HC.out] at C2m ⊢
                have C2 := C2m.ints; clear C2m
                clear hlx3 hqx3
                go_wp2_with fail
                refine (s_DrawTakeMessages _ _ _ _ hB).mono ?_; rintro e w16 ⟨cr4, cn4, cc4, cx4, tr4, tn4, tc4, tx4, lr4, ln4, lc4, lx4, rfl, hcx4, hcn4, htx4, htn4, hlx4, hln4, hbw16⟩
                replace hB := hB.below hbw16
                replace C1 := C1.below hbw16
                replace C2 := C2.below hbw16
                have Bw16 := bel_trans Bw15 hbw16
                clear hbw16
                clear hB
                obtain ⟨T, hT⟩ : ∃ zz_, zz_ = takeMessages cx4 tx4 lx4 := ⟨_, rfl⟩; have HT := Lib.hid hT; clear hT
                go_wp2_with fail
                refine (i_TakeMessages _ _ _ cx4 _ _ _ tx4 _ _ _ lx4 _ hcx4 htx4 hlx4).mono ?_; rintro e w17 ⟨T1r, T1c, rfl, T1m, hbw17⟩
                replace C1 := C1.below hbw17
                replace C2 := C2.below hbw17
                replace hcx4 := hcx4.below hbw17
                replace htx4 := htx4.below hbw17
                replace hlx4 := hlx4.below hbw17
                have Bw17 := bel_trans Bw16 hbw17
                clear hbw17
                rw [← HT.out] at T1m ⊢
                have T1 := T1m.ints; clear T1m
                go_wp2_with fail
                refine (s_TakeMessages _ _ _ cx4 _ _ _ tx4 _ _ _ lx4 _ hcx4 htx4 hlx4).mono ?_; rintro e w18 ⟨T2r, T2c, rfl, T2m, hbw18⟩
                replace C1 := C1.below hbw18
                replace C2 := C2.below hbw18
                replace hcx4 := hcx4.below hbw18
                replace htx4 := htx4.below hbw18
                replace hlx4 := hlx4.below hbw18
                replace T1 := T1.below hbw18
                have Bw18 := bel_trans Bw17 hbw18
                clear hbw18
                rw [← HT.out] at T2m ⊢
                have T2 := T2m.ints; clear T2m
                clear hcx4 htx4 hlx4
                go_wp2_with fail
                refine (l_sameInts _ _ _ _ _ C.1 _ C1 C2).mono ?_; rintro e w19 ⟨rfl, hbw19⟩
                replace C1 := C1.below hbw19
                replace C2 := C2.below hbw19
                replace T1 := T1.below hbw19
                replace T2 := T2.below hbw19
                have Bw19 := bel_trans Bw18 hbw19
                clear hbw19
                clear C1 C2
                go_wp2_with fail
                refine (l_sameInts _ _ _ _ _ T.1 _ T1 T2).mono ?_; rintro e w20 ⟨rfl, hbw20⟩
                replace T1 := T1.below hbw20
                replace T2 := T2.below hbw20
                have Bw20 := bel_trans Bw19 hbw20
                clear hbw20
                clear T1 T2
                go_wp2
                go_ret
                exact ⟨by first | rfl | simp, Bw20⟩
end Go.Proofs.YtfejpmfcognikaaGreat
