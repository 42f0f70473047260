/-
  The walk of the law FnErrors.
-/
import Derived.Test.YtfichpppjpgahaaHj
import Derived.Test.YtfichpppjpgahaaHi
import Derived.Test.YtfichpppjpgahaaHk
namespace Go.Proofs.Ytfichpppjpgahaa
open Go.RowKit
set_option linter.unusedVariables false
set_option linter.unusedSimpArgs false
set_option maxRecDepth 100000

set_option maxHeartbeats 8000000 in
theorem law_FnErrors (a0 : Option Addr) (n0 c0 : Nat) (z0 : List Int) (a1 : Option Addr) (n1 c1 : Nat) (z1 : List Int) (w : World) (h0 : BytesIn w a0 n0 c0 z0) (h1 : BytesIn w a1 n1 c1 z1) :
    Calls Try.prog 4 #[.slice a0 n0 c0, .slice a1 n1 c1] w fun e w' => e = .returned (.bool true) ∧ Below w.heap.size w w' := by
  have hn0 := h0.small; have hn1 := h1.small
  have hB : Byts w a1 n1 c1 := h1
  have hA : Byts w a0 n0 c0 := h0
  clear h0 h1
  obtain ⟨G, hG⟩ : ∃ G, IntKind.i64.wrap ((n0 : Int) + (n1 : Int)) = G := ⟨_, rfl⟩
  by_cases hg : 1048576 < G
  · go_enter Try.func4, Try.ntmps4
    go_wp2
    go_ret
    exact ⟨rfl, Below.refl _ _⟩
  go_enter Try.func4, Try.ntmps4
  go_wp2_with fail
  refine (s_DrawJoinDespite _ _ _ _ hA).mono ?_; rintro e w1 ⟨p, xr, xn, xc, xs, yr, yn, yc, ys, t, rfl, hpb, X, Y, hxn, hyn, hbw1⟩
  replace hB := hB.below hbw1
  replace hA := hA.below hbw1
  have Bw1 := bel_trans (Below.refl w.heap.size w) hbw1
  clear hbw1
  clear hA
  have hxl := Lib.hid X.len.out; have hyl := Lib.hid Y.len.out
  obtain ⟨J, hJ⟩ : ∃ zz_, zz_ = joinDespite p xs ys (t : Int) := ⟨_, rfl⟩; have HJ := Lib.hid hJ; clear hJ
  go_wp2_with fail
  refine (i_JoinDespite p (t : Int) _ _ _ xs _ _ _ ys _ X Y).mono ?_; rintro e w2 ⟨rfl, hbw2⟩
  replace hB := hB.below hbw2
  replace X := X.below hbw2
  replace Y := Y.below hbw2
  have Bw2 := bel_trans Bw1 hbw2
  clear hbw2
  rw [← HJ.out]
  go_wp2_with fail
  refine (s_JoinDespite p (t : Int) _ _ _ xs _ _ _ ys _ X Y (by omega)).mono ?_; rintro e w3 ⟨rfl, hbw3⟩
  replace hB := hB.below hbw3
  replace X := X.below hbw3
  replace Y := Y.below hbw3
  have Bw3 := bel_trans Bw2 hbw3
  clear hbw3
  rw [← HJ.out]
  obtain ⟨F, hF⟩ : ∃ zz_, zz_ = findWrong p xs ys (t : Int) := ⟨_, rfl⟩; have HF := Lib.hid hF; clear hF
  go_wp2_with fail
  refine (i_FindWrong p (t : Int) _ _ _ xs _ _ _ ys _ X Y).mono ?_; rintro e w4 ⟨rfl, hbw4⟩
  replace hB := hB.below hbw4
  replace X := X.below hbw4
  replace Y := Y.below hbw4
  have Bw4 := bel_trans Bw3 hbw4
  clear hbw4
  rw [← HF.out]
  go_wp2_with fail
  refine (s_FindWrong p (t : Int) _ _ _ xs _ _ _ ys _ X Y (by omega)).mono ?_; rintro e w5 ⟨rfl, hbw5⟩
  replace hB := hB.below hbw5
  replace X := X.below hbw5
  replace Y := Y.below hbw5
  have Bw5 := bel_trans Bw4 hbw5
  clear hbw5
  rw [← HF.out]
  go_wp2_with fail
  refine (s_DrawRefreshHolders _ _ _ _ hB).mono ?_; rintro e w6 ⟨q, key, sr, sn, sc, ss, k, rfl, hqb, S, hsn, hbw6⟩
  replace hB := hB.below hbw6
  replace X := X.below hbw6
  replace Y := Y.below hbw6
  have Bw6 := bel_trans Bw5 hbw6
  clear hbw6
  have hsl := Lib.hid S.len.out
  obtain ⟨R, hR⟩ : ∃ zz_, zz_ = refreshHolders q key ss (k : Int) := ⟨_, rfl⟩; have HR := Lib.hid hR; clear hR
  go_wp2_with fail
  refine (i_RefreshHolders q key (k : Int) _ _ _ ss _ S (by omega) (by omega)).mono ?_; rintro e w7 ⟨r1, k1, rfl, L1, hbw7⟩
  replace hB := hB.below hbw7
  replace X := X.below hbw7
  replace Y := Y.below hbw7
  replace S := S.below hbw7
  have Bw7 := bel_trans Bw6 hbw7
  clear hbw7
  rw [← HR.out] at L1 ⊢
  go_wp2_with fail
  refine (s_RefreshHolders q key (k : Int) _ _ _ ss _ S (by omega)).mono ?_; rintro e w8 ⟨r2, k2, rfl, L2, hbw8⟩
  replace hB := hB.below hbw8
  replace X := X.below hbw8
  replace Y := Y.below hbw8
  replace S := S.below hbw8
  replace L1 := L1.below hbw8
  have Bw8 := bel_trans Bw7 hbw8
  clear hbw8
  rw [← HR.out] at L2 ⊢
  go_wp2_with fail
  refine (s_DrawAddHolders _ _ _ _ hB).mono ?_; rintro e w9 ⟨m, ar, an, ac, as_, br, bn, bc, bs, rfl, A1, B1, hbw9⟩
  replace hB := hB.below hbw9
  replace X := X.below hbw9
  replace Y := Y.below hbw9
  replace S := S.below hbw9
  replace L1 := L1.below hbw9
  replace L2 := L2.below hbw9
  have Bw9 := bel_trans Bw8 hbw9
  clear hbw9
  clear hB
  obtain ⟨D, hD⟩ : ∃ zz_, zz_ = addHolders m as_ bs := ⟨_, rfl⟩; have HD := Lib.hid hD; clear hD
  go_wp2_with fail
  refine (i_AddHolders m _ _ _ as_ _ _ _ bs _ A1 B1).mono ?_; rintro e w10 ⟨r3, k3, rfl, L3, hbw10⟩
  replace X := X.below hbw10
  replace Y := Y.below hbw10
  replace S := S.below hbw10
  replace L1 := L1.below hbw10
  replace L2 := L2.below hbw10
  replace A1 := A1.below hbw10
  replace B1 := B1.below hbw10
  have Bw10 := bel_trans Bw9 hbw10
  clear hbw10
  rw [← HD.out] at L3 ⊢
  go_wp2_with fail
  refine (s_AddHolders m _ _ _ as_ _ _ _ bs _ A1 B1).mono ?_; rintro e w11 ⟨r4, k4, rfl, L4, hbw11⟩
  replace X := X.below hbw11
  replace Y := Y.below hbw11
  replace S := S.below hbw11
  replace L1 := L1.below hbw11
  replace L2 := L2.below hbw11
  replace A1 := A1.below hbw11
  replace B1 := B1.below hbw11
  replace L3 := L3.below hbw11
  have Bw11 := bel_trans Bw10 hbw11
  clear hbw11
  rw [← HD.out] at L4 ⊢
  clear A1 B1
  cases hf2 : F.2 with
  | false =>
    clear X Y
    have tok : True := trivial
    go_wp2_with fail
    refine (l_qInts _ _ _ _ _ _ _ L1.ints L2.ints).mono ?_; rintro e w12 ⟨rfl, hbw12⟩
    replace S := S.below hbw12
    replace L1 := L1.below hbw12
    replace L2 := L2.below hbw12
    replace L3 := L3.below hbw12
    replace L4 := L4.below hbw12
    have Bw12 := bel_trans Bw11 hbw12; clear hbw12
    go_wp2_with fail
    refine (l_qInts _ _ _ _ _ _ _ L3.ints L4.ints).mono ?_; rintro e w13 ⟨rfl, hbw13⟩
    replace S := S.below hbw13
    replace L1 := L1.below hbw13
    replace L2 := L2.below hbw13
    replace L3 := L3.below hbw13
    replace L4 := L4.below hbw13
    have Bw13 := bel_trans Bw12 hbw13; clear hbw13
    clear L1 L3 L4
    cases hr2 : R.2 with
    | false =>
      go_wp2
      go_ret
      exact ⟨by first | rfl | simp, Bw13⟩
    | true =>
      obtain ⟨u10, u1, qq, u2, u3, u4⟩ := refresh_law (p := q) (key := key) (ys := ss) (t := (k : Int)) (by rw [← HR.out]; exact hr2)
      rw [← HR.out] at u1 u3 u4
      rw [hsl.out] at u1 u2 u3 u4 u10
      rw [u1] at L2 ⊢
      have HS := Lib.hid S; have HL := Lib.hid L2.ints; have U2 := Lib.hid u2; have U3 := Lib.hid u3; have U4 := Lib.hid u4; have BW0 := Lib.hid Bw13
      clear S L2 u1 u2 u3 u4
      have HHF : Hid (∀ x ∈ holL sn, Fits x) := fun x hx => by have := mem_holL hx; unfold Fits; omega
      have hz0 := BW0.out.size
      go_wp2
      go_loopw [39, 241] (fun v i W => ∃ j : Nat, j ≤ sn ∧ i = .int .i64 j ∧ Hid (W.ownsRow w13.heap.size 3 1 v j (ivs (holL j))) ∧ Hid (Below w13.heap.size w13 W)) (fun _ i _ => sn - (intOf i).toNat)
      case atStart => exact ⟨0, by omega, rfl, (show Hid _ from World.ownsRow_nil _ _ _ _), (show Hid _ from Below.refl _ _)⟩
      case round =>
        obtain ⟨j, hj, rfl, HO, HC⟩ := hrel
        obtain ⟨wj, rfl⟩ : ∃ wj : World, wj = wr := ⟨_, rfl⟩
        have hzj := HC.out.size
        by_cases hjn : j < sn
        · have hji : (j : Int) < (sn : Int) := by omega
          have HSS : Hid (holL (j + 1) = holL j ++ [(j : Int) + 1]) := by show _ = _; rfl
          go_wp2_with (at_builtin; refine wp_app wj w13.heap.size j _ (holL j) ((j : Int) + 1) _ _ rfl _ _ rfl rfl rfl (by first | rfl | simp) HO.out hzj (by omega) ?_; intro v9 w9 hv9 hb9 hg9)
          clear hg9
          go_roundw
          case rel => exact ⟨j + 1, by omega, by go_num, (show Hid _ from by rw [HSS.out]; exact hv9), HC.out.trans hb9⟩
          case measure => first | (simp [intOf]; done) | (simp [intOf]; omega)
        · obtain rfl : j = sn := by omega
          obtain ⟨hr, hc, rfl, hmo⟩ := Mine.of HO.out (by omega) HHF.out
          have HH := Lib.hid hmo.ints; have HSj := Lib.hid (HS.out.below HC.out); have HLj := Lib.hid (HL.out.below HC.out); have BWj := Lib.hid (bel_trans BW0.out HC.out)
          clear hmo HO HC HS HL BW0
          go_wp2_with fail
          refine (i_AreShares q (k : Int) _ _ _ (holL j) _ _ _ ss _ HH.out HSj.out).mono ?_; rintro e wa ⟨rfl, hba⟩; rw [U2.out]
          have HHa := Lib.hid (HH.out.below hba); have HSa := Lib.hid (HSj.out.below hba); have HLa := Lib.hid (HLj.out.below hba); have BWa := Lib.hid (bel_trans BWj.out hba)
          clear hba HH HSj HLj BWj
          go_wp2_with fail
          refine (i_AreShares q (k : Int) _ _ _ (holL j) _ _ _ R.1 _ HHa.out HLa.out).mono ?_; rintro e wb ⟨rfl, hbb⟩; rw [U3.out]
          have HHb := Lib.hid (HHa.out.below hbb); have HSb := Lib.hid (HSa.out.below hbb); have HLb := Lib.hid (HLa.out.below hbb); have BWb := Lib.hid (bel_trans BWa.out hbb)
          clear hbb HHa HSa HLa BWa
          cases qq with
          | false =>
            go_wp2
            go_ret
            exact ⟨by first | rfl | simp, BWb.out⟩
          | true =>
            obtain ⟨x, x1, x2⟩ := U4.out rfl
            have X1 := Lib.hid x1; have X2 := Lib.hid x2; clear x1 x2
            go_wp2_with fail
            refine (i_JoinDespite q (k : Int) _ _ _ (holL j) _ _ _ ss _ HHb.out HSb.out).mono ?_; rintro e wc ⟨rfl, hbc⟩; rw [X1.out]
            have HHc := Lib.hid (HHb.out.below hbc); have HLc := Lib.hid (HLb.out.below hbc); have BWc := Lib.hid (bel_trans BWb.out hbc)
            clear hbc HHb HSb HLb BWb
            go_wp2_with fail
            refine (i_JoinDespite q (k : Int) _ _ _ (holL j) _ _ _ R.1 _ HHc.out HLc.out).mono ?_; rintro e wd ⟨rfl, hbd⟩; rw [X2.out]
            have BWd := Lib.hid (bel_trans BWc.out hbd)
            clear hbd HHc HLc BWc
            go_wp2
            go_ret
            exact ⟨by first | rfl | simp, BWd.out⟩
  | true =>
    obtain ⟨j, j1, j2, j3, j10, j4, j5, j6⟩ := wrong_law (p := p) (xs := xs) (ys := ys) (t := (t : Int)) (by rw [← HF.out]; exact hf2)
    rw [← HF.out] at j1; rw [← HJ.out] at j4; rw [hxl.out] at j2 j3 j10; rw [hyl.out] at j3
    obtain rfl : xn = yn := j3
    have J4 := Lib.hid j4; have J5 := Lib.hid j5; have J6 := Lib.hid j6; have J1 := Lib.hid j1; clear j1 j4 j5 j6
    rw [J4.out]
    have tok : True := trivial
    go_wp2_with fail
    refine (l_qInts _ _ _ _ _ _ _ L1.ints L2.ints).mono ?_; rintro e w12 ⟨rfl, hbw12⟩
    replace X := X.below hbw12
    replace Y := Y.below hbw12
    replace S := S.below hbw12
    replace L1 := L1.below hbw12
    replace L2 := L2.below hbw12
    replace L3 := L3.below hbw12
    replace L4 := L4.below hbw12
    have Bw12 := bel_trans Bw11 hbw12; clear hbw12
    go_wp2_with fail
    refine (l_qInts _ _ _ _ _ _ _ L3.ints L4.ints).mono ?_; rintro e w13 ⟨rfl, hbw13⟩
    replace X := X.below hbw13
    replace Y := Y.below hbw13
    replace S := S.below hbw13
    replace L1 := L1.below hbw13
    replace L2 := L2.below hbw13
    replace L3 := L3.below hbw13
    replace L4 := L4.below hbw13
    have Bw13 := bel_trans Bw12 hbw13; clear hbw13
    clear L1 L3 L4
    rw [J1.out]
    have HX := Lib.hid X; have HY := Lib.hid Y; have HS := Lib.hid S; have HL2 := Lib.hid L2; have BW0 := Lib.hid Bw13
    have hz0 := BW0.out.size
    have HXF := Lib.hid (fun kk (hkk : kk ≤ xn) => skL_fit X.wf.out j hxl.out kk hkk); have HYF := Lib.hid (fun kk (hkk : kk ≤ xn) => skL_fit Y.wf.out j hyl.out kk hkk)
    have HXW := Lib.hid (skL_wo hxl.out j2); have HYW := Lib.hid (skL_wo hyl.out j2)
    clear X Y S L2
    go_wp2
    go_loopw [32, 33, 187] (fun v1 v2 i W => ∃ (kk n9 : Nat), kk ≤ xn ∧ i = .int .i64 kk ∧ n9 = kk - (if j < kk then 1 else 0) ∧ Hid (Duo W w13.heap.size v1 n9 (skL xs j kk) v2 n9 (skL ys j kk)) ∧ Hid (Below w13.heap.size w13 W)) (fun _ _ i _ => xn - (intOf i).toNat)
    case atStart => exact ⟨0, 0, by omega, rfl, rfl, (show Hid _ from Duo.nil (Nat.le_refl _)), (show Hid _ from Below.refl _ _)⟩
    case round =>
      obtain ⟨kk, n9, hkk, rfl, hn9, HD9, HC⟩ := hrel
      obtain ⟨wj, rfl⟩ : ∃ wj : World, wj = wr := ⟨_, rfl⟩
      have hzj := HC.out.size
      have HN9 := Lib.hid hn9; have hn9b : n9 ≤ 20 := by rw [hn9]; omega
      clear hn9
      by_cases hkn : kk < xn
      · have hki : (kk : Int) < (xn : Int) := by omega
        by_cases hkj : kk = j
        · subst hkj
          have hkji : ((kk : Int) == (kk : Int)) = true := by rw [beq_iff_eq]
          have hkji2 : ((kk : Int) != (kk : Int)) = false := by rw [bne, hkji]; rfl
          have HNN : Hid (n9 = kk + 1 - (if kk < kk + 1 then 1 else 0)) := by show _ = _; rw [HN9.out, if_neg (by omega), if_pos (by omega)]; omega
          have HS1 : Hid (skL xs kk (kk + 1) = skL xs kk kk) := by show _ = _; rw [skL, if_pos rfl]
          have HS2 : Hid (skL ys kk (kk + 1) = skL ys kk kk) := by show _ = _; rw [skL, if_pos rfl]
          go_wp2
          go_roundw
          case rel => exact ⟨kk + 1, n9, by omega, by go_num, HNN.out, (show Hid _ from by rw [HS1.out, HS2.out]; exact HD9.out), HC.out⟩
          case measure => first | (simp [intOf]; done) | (simp [intOf]; omega)
        · have hkji : ((kk : Int) == (j : Int)) = false := by rw [beq_eq_false_iff_ne]; omega
          have hkji2 : ((kk : Int) != (j : Int)) = true := by rw [bne, hkji]; rfl
          have HNN : Hid (n9 + 1 = kk + 1 - (if j < kk + 1 then 1 else 0)) := by
            show _ = _
            rw [HN9.out]
            by_cases g9 : j < kk
            · rw [if_pos g9, if_pos (by omega)]; omega
            · rw [if_neg g9, if_neg (by omega)]; omega
          have HS1 : Hid (skL xs j (kk + 1) = skL xs j kk ++ [nth xs kk]) := by show _ = _; rw [skL, if_neg hkj]
          have HS2 : Hid (skL ys j (kk + 1) = skL ys j kk ++ [nth ys kk]) := by show _ = _; rw [skL, if_neg hkj]
          obtain ⟨b, off, rfl, hbl, hc⟩ := (HX.out.below HC.out).at hkn
          obtain ⟨b2, off2, rfl, hbl2, hcw⟩ := HY.out.at hkn
          have hc2 := cell_on hcw HC.out
          have tk0 : True := trivial
          go_wp2_with (at_builtin; first | (have t0 := tk0; clear t0 tk0; refine wp_duo wj _ w13.heap.size n9 (skL xs j kk) _ n9 (skL ys j kk) (nth xs kk) _ _ rfl _ _ rfl rfl rfl (by first | rfl | simp) HD9.out (by omega) ?_; intro v8 w8 hd8 hb8; have HB8 := Lib.hid (HC.out.trans hb8); have hc3 := cell_on hcw HB8.out; have HD8 := Lib.hid hd8; clear hd8 hb8) | (refine wp_duo2 w8 _ w13.heap.size (n9 + 1) (skL xs j kk ++ [nth xs kk]) _ n9 (skL ys j kk) (nth ys kk) _ _ rfl _ _ rfl rfl rfl (by first | rfl | simp) HD8.out (by omega) ?_; intro v9 w9 hd9 hb9))
          go_roundw
          case rel => exact ⟨kk + 1, n9 + 1, by omega, by go_num, HNN.out, (show Hid _ from by rw [HS1.out, HS2.out]; exact hd9), HB8.out.trans hb9⟩
          case measure => first | (simp [intOf]; done) | (simp [intOf]; omega)
      · obtain rfl : kk = xn := by omega
        have hn9 : n9 = kk - 1 := by rw [HN9.out, if_pos j2]
        subst hn9
        obtain ⟨ra, ca, hva, hoa⟩ := OwnI.of HD9.out.own1 (by omega) (HXF.out kk (Nat.le_refl _))
        obtain ⟨rb, cb, hvb, hob⟩ := OwnI.of HD9.out.own2 (by omega) (HYF.out kk (Nat.le_refl _))
        subst hva; subst hvb
        rw [HXW.out] at hoa; rw [HYW.out] at hob
        have HA := Lib.hid hoa.ints; have HBB := Lib.hid hob.ints; have HXj := Lib.hid (HX.out.below HC.out); have HYj := Lib.hid (HY.out.below HC.out); have HSj := Lib.hid (HS.out.below HC.out); have HLj := Lib.hid (HL2.out.below HC.out); have BWj := Lib.hid (bel_trans BW0.out HC.out)
        clear hoa hob HD9 HC HX HY HS HL2 BW0 HXF HYF
        go_wp2_with fail
        refine (i_AreShares p (t : Int) _ _ _ (wo xs j) _ _ _ (wo ys j) _ HA.out HBB.out).mono ?_; rintro e wa ⟨rfl, hba⟩; rw [J5.out]
        have HXa := Lib.hid (HXj.out.below hba); have HYa := Lib.hid (HYj.out.below hba); have HSa := Lib.hid (HSj.out.below hba); have HLa := Lib.hid (HLj.out.below hba); have BWa := Lib.hid (bel_trans BWj.out hba)
        clear hba HA HBB HXj HYj HSj HLj BWj
        go_wp2_with fail
        refine (i_AreShares p (t : Int) _ _ _ xs _ _ _ ys _ HXa.out HYa.out).mono ?_; rintro e wb ⟨rfl, hbb⟩; rw [J6.out]
        have S := HSa.out.below hbb; have L2 := HLa.out.below hbb; have BWb := bel_trans BWa.out hbb
        clear hbb HXa HYa HSa HLa BWa
        cases hr2 : R.2 with
        | false =>
          go_wp2
          go_ret
          exact ⟨by first | rfl | simp, BWb⟩
        | true =>
          obtain ⟨u10, u1, qq, u2, u3, u4⟩ := refresh_law (p := q) (key := key) (ys := ss) (t := (k : Int)) (by rw [← HR.out]; exact hr2)
          rw [← HR.out] at u1 u3 u4
          rw [hsl.out] at u1 u2 u3 u4 u10
          rw [u1] at L2 ⊢
          have HS := Lib.hid S; have HL := Lib.hid L2.ints; have U2 := Lib.hid u2; have U3 := Lib.hid u3; have U4 := Lib.hid u4; have BW0 := Lib.hid BWb
          clear S L2 u1 u2 u3 u4
          have HHF : Hid (∀ x ∈ holL sn, Fits x) := fun x hx => by have := mem_holL hx; unfold Fits; omega
          have hz0 := BW0.out.size
          go_wp2
          go_loopw [39, 241] (fun v i W => ∃ j : Nat, j ≤ sn ∧ i = .int .i64 j ∧ Hid (W.ownsRow wb.heap.size 3 1 v j (ivs (holL j))) ∧ Hid (Below wb.heap.size wb W)) (fun _ i _ => sn - (intOf i).toNat)
          case atStart => exact ⟨0, by omega, rfl, (show Hid _ from World.ownsRow_nil _ _ _ _), (show Hid _ from Below.refl _ _)⟩
          case round =>
            obtain ⟨j, hj, rfl, HO, HC⟩ := hrel
            obtain ⟨wj, rfl⟩ : ∃ wj : World, wj = wr := ⟨_, rfl⟩
            have hzj := HC.out.size
            by_cases hjn : j < sn
            · have hji : (j : Int) < (sn : Int) := by omega
              have HSS : Hid (holL (j + 1) = holL j ++ [(j : Int) + 1]) := by show _ = _; rfl
              go_wp2_with (at_builtin; refine wp_app wj wb.heap.size j _ (holL j) ((j : Int) + 1) _ _ rfl _ _ rfl rfl rfl (by first | rfl | simp) HO.out hzj (by omega) ?_; intro v9 w9 hv9 hb9 hg9)
              clear hg9
              go_roundw
              case rel => exact ⟨j + 1, by omega, by go_num, (show Hid _ from by rw [HSS.out]; exact hv9), HC.out.trans hb9⟩
              case measure => first | (simp [intOf]; done) | (simp [intOf]; omega)
            · obtain rfl : j = sn := by omega
              obtain ⟨hr, hc, rfl, hmo⟩ := Mine.of HO.out (by omega) HHF.out
              have HH := Lib.hid hmo.ints; have HSj := Lib.hid (HS.out.below HC.out); have HLj := Lib.hid (HL.out.below HC.out); have BWj := Lib.hid (bel_trans BW0.out HC.out)
              clear hmo HO HC HS HL BW0
              go_wp2_with fail
              refine (i_AreShares q (k : Int) _ _ _ (holL j) _ _ _ ss _ HH.out HSj.out).mono ?_; rintro e wa ⟨rfl, hba⟩; rw [U2.out]
              have HHa := Lib.hid (HH.out.below hba); have HSa := Lib.hid (HSj.out.below hba); have HLa := Lib.hid (HLj.out.below hba); have BWa := Lib.hid (bel_trans BWj.out hba)
              clear hba HH HSj HLj BWj
              go_wp2_with fail
              refine (i_AreShares q (k : Int) _ _ _ (holL j) _ _ _ R.1 _ HHa.out HLa.out).mono ?_; rintro e wb ⟨rfl, hbb⟩; rw [U3.out]
              have HHb := Lib.hid (HHa.out.below hbb); have HSb := Lib.hid (HSa.out.below hbb); have HLb := Lib.hid (HLa.out.below hbb); have BWb := Lib.hid (bel_trans BWa.out hbb)
              clear hbb HHa HSa HLa BWa
              cases qq with
              | false =>
                go_wp2
                go_ret
                exact ⟨by first | rfl | simp, BWb.out⟩
              | true =>
                obtain ⟨x, x1, x2⟩ := U4.out rfl
                have X1 := Lib.hid x1; have X2 := Lib.hid x2; clear x1 x2
                go_wp2_with fail
                refine (i_JoinDespite q (k : Int) _ _ _ (holL j) _ _ _ ss _ HHb.out HSb.out).mono ?_; rintro e wc ⟨rfl, hbc⟩; rw [X1.out]
                have HHc := Lib.hid (HHb.out.below hbc); have HLc := Lib.hid (HLb.out.below hbc); have BWc := Lib.hid (bel_trans BWb.out hbc)
                clear hbc HHb HSb HLb BWb
                go_wp2_with fail
                refine (i_JoinDespite q (k : Int) _ _ _ (holL j) _ _ _ R.1 _ HHc.out HLc.out).mono ?_; rintro e wd ⟨rfl, hbd⟩; rw [X2.out]
                have BWd := Lib.hid (bel_trans BWc.out hbd)
                clear hbd HHc HLc BWc
                go_wp2
                go_ret
                exact ⟨by first | rfl | simp, BWd.out⟩
end Go.Proofs.Ytfichpppjpgahaa
