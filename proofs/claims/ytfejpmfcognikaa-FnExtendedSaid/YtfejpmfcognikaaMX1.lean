/-
  The walk of the law FnExtended.
-/
import Derived.Test.YtfejpmfcognikaaY6
import Derived.BigQuiet
import Derived.Deep.QuietTactic
namespace Go.Proofs.Ytfejpmfcognikaa
open Go.RowKit
set_option linter.unusedVariables false
set_option linter.unusedSimpArgs false
set_option maxRecDepth 100000

set_option maxHeartbeats 16000000 in
theorem law_FnExtended (a0 : Option Addr) (n0 c0 : Nat) (z0 : List Int) (a1 : Option Addr) (n1 c1 : Nat) (z1 : List Int) (w : World) (h0 : BytesIn w a0 n0 c0 z0) (h1 : BytesIn w a1 n1 c1 z1) :
    Calls Try.prog 4 #[.slice a0 n0 c0, .slice a1 n1 c1] w fun e w' => e = .returned (.bool true) ∧ Below w.heap.size w w' := by
  have hn0 := h0.small; have hn1 := h1.small
  have hB : Byts w a1 n1 c1 := h1
  have hA : Byts w a0 n0 c0 := h0
  clear h0 h1
  go_enter Try.func4, Try.ntmps4
  go_wp2_with fail
  refine (l_big _ _ _ _ _ _ _ (by omega) (by omega)).mono ?_; rintro e w0 ⟨q, rfl, rfl⟩
  cases q with
  | true =>
    go_wp2
    go_ret
    exact ⟨rfl, Below.refl _ _⟩
  | false =>
    go_wp2_with fail
    refine (s_DrawSentColumns _ _ _ _ hA).mono ?_; rintro e w1 ⟨key, k, cr, cn, cc, cx, rfl, dk, hk, hcx, hcn, hcb, hbw1⟩
    replace hB := hB.below hbw1
    replace hA := hA.below hbw1
    have Bw1 := bel_trans (Below.refl w.heap.size w) hbw1
    clear hbw1
    clear hA
    have hlx := hcx.len.out
    obtain ⟨X, hX⟩ : ∃ zz_, zz_ = sentColumns key k cx := ⟨_, rfl⟩; have HX := Lib.hid hX; clear hX
    have fk : Fits k := by unfold Fits; omega
    go_wp2_with fail
    refine (i_SentColumns key k _ _ _ cx _ dk.fits fk hcx).mono ?_; rintro e w2 ⟨R1r, R1c, rfl, R1m, hbw2⟩
    replace hB := hB.below hbw2
    replace hcx := hcx.below hbw2
    have Bw2 := bel_trans Bw1 hbw2
    clear hbw2
    rw [← HX.out] at R1m ⊢
    have R1 := R1m.rows; clear R1m
    go_wp2_with fail
    refine (s_SentColumns key k _ _ _ cx _ dk.fits fk hcx).mono ?_; rintro e w3 ⟨R2r, R2c, rfl, R2m, hbw3⟩
    replace hB := hB.below hbw3
    replace hcx := hcx.below hbw3
    replace R1 := R1.below hbw3
    have Bw3 := bel_trans Bw2 hbw3
    clear hbw3
    rw [← HX.out] at R2m ⊢
    have R2 := R2m.rows; clear R2m
    go_wp2_with fail
    refine (l_sameLists _ _ _ _ _ X.1 _ R1 R2).mono ?_; rintro e w4 ⟨rfl, hbw4⟩
    replace hB := hB.below hbw4
    replace hcx := hcx.below hbw4
    replace R1 := R1.below hbw4
    replace R2 := R2.below hbw4
    have Bw4 := bel_trans Bw3 hbw4
    clear hbw4
    clear R2
    cases hx2 : X.2 with
    | false =>
      clear R1 hcx
      go_wp2_with fail
      refine (s_DrawSenderRows _ _ _ _ hB).mono ?_; rintro e w5 ⟨ka, sr, sn, sc, sx, lr, ln, lc, lx, rfl, dka, hsx, hsn, hlx2, hln, hbw5⟩
      replace hB := hB.below hbw5
      have Bw5 := bel_trans Bw4 hbw5
      clear hbw5
      obtain ⟨S1, hS1⟩ : ∃ zz_, zz_ = senderRows ka sx lx := ⟨_, rfl⟩; have HS1 := Lib.hid hS1; clear hS1
      go_wp2_with fail
      refine (i_SenderRows ka _ _ _ sx _ _ _ lx _ dka.fits hsx hlx2).mono ?_; rintro e w6 ⟨Q1r, Q1c, rfl, Q1m, hbw6⟩
      replace hB := hB.below hbw6
      replace hsx := hsx.below hbw6
      replace hlx2 := hlx2.below hbw6
      have Bw6 := bel_trans Bw5 hbw6
      clear hbw6
      rw [← HS1.out] at Q1m ⊢
      have Q1 := Q1m.rows; clear Q1m
      go_wp2_with fail
      refine (s_SenderRows ka _ _ _ sx _ _ _ lx _ dka.fits hsx hlx2).mono ?_; rintro e w7 ⟨Q2r, Q2c, rfl, Q2m, hbw7⟩
      replace hB := hB.below hbw7
      replace hsx := hsx.below hbw7
      replace hlx2 := hlx2.below hbw7
      replace Q1 := Q1.below hbw7
      have Bw7 := bel_trans Bw6 hbw7
      clear hbw7
      rw [← HS1.out] at Q2m ⊢
      have Q2 := Q2m.rows; clear Q2m
      clear hsx hlx2
      go_wp2_with fail
      refine (s_DrawSeedColumns _ _ _ _ hB).mono ?_; rintro e w8 ⟨kd, ke, kf, kg, rfl, dkd, hke, hkf, hkg, hbw8⟩
      replace hB := hB.below hbw8
      replace Q1 := Q1.below hbw8
      replace Q2 := Q2.below hbw8
      have Bw8 := bel_trans Bw7 hbw8
      clear hbw8
      obtain ⟨S2, hS2⟩ : ∃ zz_, zz_ = seedColumns kd ke kf kg := ⟨_, rfl⟩; have HS2 := Lib.hid hS2; clear hS2
      go_wp2_with fail
      refine (i_SeedColumns kd ke kf kg _ dkd.fits (by unfold Fits; omega) (by unfold Fits; omega) (by unfold Fits; omega)).mono ?_; rintro e w9 ⟨Q3r, Q3c, rfl, Q3m, hbw9⟩
      replace hB := hB.below hbw9
      replace Q1 := Q1.below hbw9
      replace Q2 := Q2.below hbw9
      have Bw9 := bel_trans Bw8 hbw9
      clear hbw9
      rw [← HS2.out] at Q3m ⊢
      have Q3 := Q3m.rows; clear Q3m
      go_wp2_with fail
      refine (s_SeedColumns kd ke kf kg _ dkd.fits (by unfold Fits; omega) (by unfold Fits; omega) (by unfold Fits; omega)).mono ?_; rintro e w10 ⟨Q4r, Q4c, rfl, Q4m, hbw10⟩
      replace hB := hB.below hbw10
      replace Q1 := Q1.below hbw10
      replace Q2 := Q2.below hbw10
      replace Q3 := Q3.below hbw10
      have Bw10 := bel_trans Bw9 hbw10
      clear hbw10
      rw [← HS2.out] at Q4m ⊢
      have Q4 := Q4m.rows; clear Q4m
      go_wp2_with fail
      refine (s_DrawReceiverRows _ _ _ _ hB).mono ?_; rintro e w11 ⟨kh, km, kn, rfl, dkh, hkm, hkn, hbw11⟩
      replace hB := hB.below hbw11
      replace Q1 := Q1.below hbw11
      replace Q2 := Q2.below hbw11
      replace Q3 := Q3.below hbw11
      replace Q4 := Q4.below hbw11
      have Bw11 := bel_trans Bw10 hbw11
      clear hbw11
      obtain ⟨S3, hS3⟩ : ∃ zz_, zz_ = receiverRows kh km kn := ⟨_, rfl⟩; have HS3 := Lib.hid hS3; clear hS3
      go_wp2_with fail
      refine (i_ReceiverRows kh km kn _ dkh.fits (by unfold Fits; omega) (by unfold Fits; omega)).mono ?_; rintro e w12 ⟨Q5r, Q5c, rfl, Q5m, hbw12⟩
      replace hB := hB.below hbw12
      replace Q1 := Q1.below hbw12
      replace Q2 := Q2.below hbw12
      replace Q3 := Q3.below hbw12
      replace Q4 := Q4.below hbw12
      have Bw12 := bel_trans Bw11 hbw12
      clear hbw12
      rw [← HS3.out] at Q5m ⊢
      have Q5 := Q5m.rows; clear Q5m
      go_wp2_with fail
      refine (s_ReceiverRows kh km kn _ dkh.fits (by unfold Fits; omega) (by unfold Fits; omega)).mono ?_; rintro e w13 ⟨Q6r, Q6c, rfl, Q6m, hbw13⟩
      replace hB := hB.below hbw13
      replace Q1 := Q1.below hbw13
      replace Q2 := Q2.below hbw13
      replace Q3 := Q3.below hbw13
      replace Q4 := Q4.below hbw13
      replace Q5 := Q5.below hbw13
      have Bw13 := bel_trans Bw12 hbw13
      clear hbw13
      rw [← HS3.out] at Q6m ⊢
      have Q6 := Q6m.rows; clear Q6m
      go_wp2_with fail
      refine (s_DrawHideMessages _ _ _ _ hB).mono ?_; rintro e w14 ⟨ur, un, uc, ux, vr, vn, vc, vx, xr_, xn, xc, xx, yr, yn, yc, yx, rfl, hux, hun, hvx, hvn, hxx, hxn, hyx, hyn, hbw14⟩
      replace hB := hB.below hbw14
      replace Q1 := Q1.below hbw14
      replace Q2 := Q2.below hbw14
      replace Q3 := Q3.below hbw14
      replace Q4 := Q4.below hbw14
      replace Q5 := Q5.below hbw14
      replace Q6 := Q6.below hbw14
      have Bw14 := bel_trans Bw13 hbw14
      clear hbw14
      clear hB
      obtain ⟨S4, hS4⟩ : ∃ zz_, zz_ = hideMessages ux vx xx yx := ⟨_, rfl⟩; have HS4 := Lib.hid hS4; clear hS4
      go_wp2_with fail
      refine (i_HideMessages _ _ _ ux _ _ _ vx _ _ _ xx _ _ _ yx _ hux hvx hxx hyx).mono ?_; rintro e w15 ⟨Q7r, Q7c, rfl, Q7m, hbw15⟩
      replace Q1 := Q1.below hbw15
      replace Q2 := Q2.below hbw15
      replace Q3 := Q3.below hbw15
      replace Q4 := Q4.below hbw15
      replace Q5 := Q5.below hbw15
      replace Q6 := Q6.below hbw15
      replace hux := hux.below hbw15
      replace hvx := hvx.below hbw15
      replace hxx := hxx.below hbw15
      replace hyx := hyx.below hbw15
      have Bw15 := bel_trans Bw14 hbw15
      clear hbw15
      rw [← HS4.out] at Q7m ⊢
      have Q7 := Q7m.rows; clear Q7m
      go_wp2_with fail
      refine (s_HideMessages _ _ _ ux _ _ _ vx _ _ _ xx _ _ _ yx _ hux hvx hxx hyx).mono ?_; rintro e w16 ⟨Q8r, Q8c, rfl, Q8m, hbw16⟩
      replace Q1 := Q1.below hbw16
      replace Q2 := Q2.below hbw16
      replace Q3 := Q3.below hbw16
      replace Q4 := Q4.below hbw16
      replace Q5 := Q5.below hbw16
      replace Q6 := Q6.below hbw16
      replace hux := hux.below hbw16
      replace hvx := hvx.below hbw16
      replace hxx := hxx.below hbw16
      replace hyx := hyx.below hbw16
      replace Q7 := Q7.below hbw16
      have Bw16 := bel_trans Bw15 hbw16
      clear hbw16
      rw [← HS4.out] at Q8m ⊢
      have Q8 := Q8m.rows; clear Q8m
      clear hux hvx hxx hyx
      go_wp2_with fail
      refine (l_sameLists _ _ _ _ _ S1.1 _ Q1 Q2).mono ?_; rintro e w17 ⟨rfl, hbw17⟩
      replace Q1 := Q1.below hbw17
      replace Q2 := Q2.below hbw17
      replace Q3 := Q3.below hbw17
      replace Q4 := Q4.below hbw17
      replace Q5 := Q5.below hbw17
      replace Q6 := Q6.below hbw17
      replace Q7 := Q7.below hbw17
      replace Q8 := Q8.below hbw17
      have Bw17 := bel_trans Bw16 hbw17
      clear hbw17
      clear Q1 Q2
      go_wp2_with fail
      refine (l_sameLists _ _ _ _ _ S2.1 _ Q3 Q4).mono ?_; rintro e w18 ⟨rfl, hbw18⟩
      replace Q3 := Q3.below hbw18
      replace Q4 := Q4.below hbw18
      replace Q5 := Q5.below hbw18
      replace Q6 := Q6.below hbw18
      replace Q7 := Q7.below hbw18
      replace Q8 := Q8.below hbw18
      have Bw18 := bel_trans Bw17 hbw18
      clear hbw18
      clear Q3 Q4
      go_wp2_with fail
      refine (l_sameLists _ _ _ _ _ S3.1 _ Q5 Q6).mono ?_; rintro e w19 ⟨rfl, hbw19⟩
      replace Q5 := Q5.below hbw19
      replace Q6 := Q6.below hbw19
      replace Q7 := Q7.below hbw19
      replace Q8 := Q8.below hbw19
      have Bw19 := bel_trans Bw18 hbw19
      clear hbw19
      clear Q5 Q6
      go_wp2_with fail
      refine (l_sameLists _ _ _ _ _ S4.1 _ Q7 Q8).mono ?_; rintro e w20 ⟨rfl, hbw20⟩
      replace Q7 := Q7.below hbw20
      replace Q8 := Q8.below hbw20
      have Bw20 := bel_trans Bw19 hbw20
      clear hbw20
      clear Q7 Q8
      go_wp2
      go_ret
      exact ⟨by first | rfl | simp, Bw20⟩
    | true =>
      obtain ⟨kk, hkk, kk1, kk8, hm24, hbb, hkey, hX1, q, t, hd, tk, OK⟩ := ext_law (key := key) (k := k) (ch := cx) (by rw [← HX.out]; exact hx2)
      subst hkk
      rw [← HX.out] at hX1; rw [hlx] at hX1 hm24
      have hxl : X.1.length = kk := by rw [hX1, sentCs_len]
      rw [hxl] at R1 ⊢
      rw [hX1] at R1
      obtain ⟨e1, e2, e3, e4, e5, e6, e7⟩ := OK
      rw [hlx] at e1 e2 e4 e6 e7
      have E1 := Lib.hid e1; have E2 := Lib.hid e2; have E3 := Lib.hid e3; have E4 := Lib.hid e4; have E5 := Lib.hid e5; have E7 := Lib.hid e7; clear e1 e2 e3 e4 e5 e7 hX1 hxl HX
      have A_ := bel_alloc w4 (.cells #[.int .i64 key, .int .i64 5] 3)
      have L5 := Ints.lit2 (w := w4) (t := 3) rfl (show Fits key by unfold Fits; omega) (show Fits 5 by unfold Fits; omega)
      replace hB := hB.below A_
      replace hcx := hcx.below A_
      replace R1 := R1.below A_
      have BA := bel_trans Bw4 A_; clear A_
      go_wp2_with fail
      refine (i_BitsFrom _ 2 _ [key, 5] kk _ L5 (by omega) (by intro x hx; simp at hx; omega) (by omega)).mono ?_; rintro e w5 ⟨br, bc, rfl, hbm, hbw5⟩
      replace hB := hB.below hbw5
      replace hcx := hcx.below hbw5
      replace R1 := R1.below hbw5
      have Bw5 := bel_trans BA hbw5
      clear hbw5
      have hbs := hbm.ints; clear hbm L5
      have hbl : (bitsL [key, 5] kk).length = kk := bitsL_len _ _
      obtain ⟨s, hs⟩ : ∃ s, s = bitsL [key, 5] kk := ⟨_, rfl⟩; rw [← hs] at hbs E1 E3 E4 hbl; clear hs
      go_wp2_with fail
      refine (i_SenderRows key _ _ _ s _ _ _ _ _ dk.fits hbs R1).mono ?_; rintro e w6 ⟨T1r, T1c, rfl, T1m, hbw6⟩
      replace hB := hB.below hbw6
      replace hcx := hcx.below hbw6
      replace R1 := R1.below hbw6
      replace hbs := hbs.below hbw6
      have Bw6 := bel_trans Bw5 hbw6
      clear hbw6
      rw [E1.out] at T1m ⊢
      have T1 := T1m.rows; clear T1m
      clear R1
      go_wp2_with fail
      refine (i_ReceiverRows key kk cn _ dk.fits (by unfold Fits; omega) (by unfold Fits; omega)).mono ?_; rintro e w7 ⟨T2r, T2c, rfl, T2m, hbw7⟩
      replace hB := hB.below hbw7
      replace hcx := hcx.below hbw7
      replace hbs := hbs.below hbw7
      replace T1 := T1.below hbw7
      have Bw7 := bel_trans Bw6 hbw7
      clear hbw7
      rw [E2.out] at T2m ⊢
      have T2 := T2m.rows; clear T2m
      go_wp2_with fail
      refine (i_RowsMatch _ _ _ s _ _ _ cx _ _ _ q _ _ _ t _ hbs hcx T1 T2).mono ?_; rintro e w8 ⟨rfl, hbw8⟩; rw [E3.out]
      replace hB := hB.below hbw8
      replace hcx := hcx.below hbw8
      replace hbs := hbs.below hbw8
      replace T1 := T1.below hbw8
      replace T2 := T2.below hbw8
      have Bw8 := bel_trans Bw7 hbw8
      clear hbw8
      go_wp2
      have HF0 := Lib.hid (And.intro hcx (And.intro hbs (And.intro T1 (And.intro T2 (And.intro hB Bw8)))))
      go_loopw [20, 21, 142] (fun v1 v2 i W => ∃ j : Nat, j ≤ cn ∧ i = .int .i64 j ∧ Hid (Duo W w8.heap.size v1 j (numL 1000 j) v2 j (numL 2000 j)) ∧ Hid (Below w8.heap.size w8 W)) (fun _ _ i _ => cn - (intOf i).toNat)
      case atStart => exact ⟨0, by omega, rfl, Duo.nil (Nat.le_refl _), Below.refl _ _⟩
      case round =>
        clear hcx hbs T1 T2 hB
        obtain ⟨j, hj, rfl, HD, HB⟩ := hrel
        by_cases hlt : j < cn
        · have hlti : (j : Int) < (cn : Int) := by omega
          have s1 := Lib.hid (numL_snoc 1000 j); have s2 := Lib.hid (numL_snoc 2000 j)
          have e1 : IntKind.i64.wrap (1000 + (j : Int)) = 1000 + (j : Int) := IntWalk.i64_in _ (by omega)
          have e2 : IntKind.i64.wrap (2000 + (j : Int)) = 2000 + (j : Int) := IntWalk.i64_in _ (by omega)
          have hzr := HB.out.size
          have tk0 : True := trivial
          go_wp2_with (at_builtin; first | (have t0 := tk0; clear t0; refine wp_duo wr _ w8.heap.size j (numL 1000 j) _ j (numL 2000 j) (1000 + (j : Int)) _ _ rfl _ _ rfl rfl rfl (by first | rfl | simp) HD.out (by omega) ?_; intro v3 w3 hd3 hb3; have HD3 := Lib.hid hd3; have HB3 := Lib.hid (HB.out.trans hb3); clear hd3 hb3 HD tk0) | (refine wp_duo2 w3 _ w8.heap.size (j + 1) (numL 1000 j ++ [1000 + (j : Int)]) _ j (numL 2000 j) (2000 + (j : Int)) _ _ rfl _ _ rfl rfl rfl (by first | rfl | simp) HD3.out (by omega) ?_; intro v5 w5 hd5 hb5; have HD5 := Lib.hid hd5; have HB5 := Lib.hid (HB3.out.trans hb5); clear hd5 hb5 HD3))
          go_roundw
          case rel => exact ⟨j + 1, by omega, by go_num, by rw [s1.out, s2.out]; exact HD5, HB5⟩
          case measure => simp [intOf]; omega
        · obtain rfl : j = cn := by omega
          have hlti : ¬ (j : Int) < (j : Int) := by omega
          obtain ⟨zr, zc, fr, fc, rfl, rfl, mz, mf, _⟩ := HD.out.two (w0 := w) (by omega) (by omega) (numL_fit (by omega) (by omega)) (numL_fit (by omega) (by omega)) (by have := HF0.out.2.2.2.2.2.size; exact this)
          have hzx := mz.ints; have hfx := mf.ints; clear mz mf HD
          have hcx := HF0.out.1.below HB.out; have hbs := HF0.out.2.1.below HB.out; have T1 := HF0.out.2.2.1.below HB.out; have T2 := HF0.out.2.2.2.1.below HB.out; have hB := HF0.out.2.2.2.2.1.below HB.out; have BW := bel_trans HF0.out.2.2.2.2.2 HB.out; clear HF0 HB
          go_wp2_with fail
          refine (i_HideMessages _ _ _ s _ _ _ q _ _ _ (numL 1000 j) _ _ _ (numL 2000 j) _ hbs T1 hzx hfx).mono ?_; rintro e w9 ⟨U1r, U1c, rfl, U1m, hbw9⟩
          replace hB := hB.below hbw9
          replace hcx := hcx.below hbw9
          replace hbs := hbs.below hbw9
          replace T1 := T1.below hbw9
          replace T2 := T2.below hbw9
          replace hzx := hzx.below hbw9
          replace hfx := hfx.below hbw9
          have Bw9 := bel_trans BW hbw9
          clear hbw9
          rw [E4.out] at U1m ⊢
          have U1 := U1m.rows; clear U1m
          clear hbs T1
          go_wp2_with fail
          refine (i_TakeMessages _ _ _ cx _ _ _ t _ _ _ hd _ hcx T2 U1).mono ?_; rintro e w10 ⟨tr, tc, rfl, tm, hbw10⟩
          replace hB := hB.below hbw10
          replace hcx := hcx.below hbw10
          replace T2 := T2.below hbw10
          replace hzx := hzx.below hbw10
          replace hfx := hfx.below hbw10
          replace U1 := U1.below hbw10
          have Bw10 := bel_trans Bw9 hbw10
          clear hbw10
          rw [E5.out] at tm ⊢
          have htk := tm.ints; clear tm
          clear T2 U1
          obtain ⟨tl, htl⟩ : ∃ tl, tl = tk.length := ⟨_, rfl⟩; rw [← htl] at htk ⊢ e6
          obtain rfl : tl = j := e6
          clear htl
          go_wp2
          have HF1 := Lib.hid (And.intro hcx (And.intro htk (And.intro hzx (And.intro hfx (And.intro hB Bw10)))))
          clear hcx htk hzx hfx hB
          go_loopw [186] (fun i W => ∃ r : Nat, r ≤ tl ∧ i = .int .i64 r ∧ Hid (Below w10.heap.size w10 W)) (fun i _ => tl - (intOf i).toNat)
          case atStart => exact ⟨0, by omega, rfl, Below.refl _ _⟩
          case round =>
            obtain ⟨r, hr, rfl, HB⟩ := hrel
            by_cases hlt : r < tl
            · have hlti : (r : Int) < (tl : Int) := by omega
              obtain ⟨b1, o1, rfl, hl1, k1⟩ := (HF1.out.1.below HB.out).at hlt
              obtain ⟨b2, o2, rfl, hl2, k2⟩ := (HF1.out.2.1.below HB.out).at hlt
              obtain ⟨b3, o3, rfl, hl3, k3⟩ := (HF1.out.2.2.1.below HB.out).at hlt
              obtain ⟨b4, o4, rfl, hl4, k4⟩ := (HF1.out.2.2.2.1.below HB.out).at hlt
              rw [nth_numL hlt] at k3 k4
              have ev := E7.out r hlt
              have hcb2 := bitsB_nth hbb (i := r) (by omega)
              by_cases ec : nth cx r = 1
              · rw [if_pos ec] at ev
                rw [ec] at k1; rw [ev] at k2
                clear ec ev hcb2
                go_wp2
                go_quiet (fail)
                go_wp2
                go_roundw
                case rel => exact ⟨r + 1, by omega, by go_num, (show Hid _ from below_drewN HB.out _)⟩
                case measure => simp [intOf]; omega
              · have ez : nth cx r = 0 := by omega
                rw [if_neg ec] at ev
                rw [ez] at k1; rw [ev] at k2
                clear ez
                clear ec ev hcb2
                go_wp2
                go_quiet (fail)
                go_wp2
                go_roundw
                case rel => exact ⟨r + 1, by omega, by go_num, (show Hid _ from below_drewN HB.out _)⟩
                case measure => simp [intOf]; omega
            · obtain rfl : r = tl := by omega
              have hlti : ¬ (r : Int) < (r : Int) := by omega
              have hB := HF1.out.2.2.2.2.1.below HB.out; have BV := bel_trans HF1.out.2.2.2.2.2 HB.out; clear HF1 HB E1 E2 E3 E4 E5 E7
              go_wp2_with fail
              refine (s_DrawSenderRows _ _ _ _ hB).mono ?_; rintro e w11 ⟨ka, sr, sn, sc, sx, lr, ln, lc, lx, rfl, dka, hsx, hsn, hlx2, hln, hbw11⟩
              replace hB := hB.below hbw11
              have Bw11 := bel_trans BV hbw11
              clear hbw11
              obtain ⟨S1, hS1⟩ : ∃ zz_, zz_ = senderRows ka sx lx := ⟨_, rfl⟩; have HS1 := Lib.hid hS1; clear hS1
              go_wp2_with fail
              refine (i_SenderRows ka _ _ _ sx _ _ _ lx _ dka.fits hsx hlx2).mono ?_; rintro e w12 ⟨Q1r, Q1c, rfl, Q1m, hbw12⟩
              replace hB := hB.below hbw12
              replace hsx := hsx.below hbw12
              replace hlx2 := hlx2.below hbw12
              have Bw12 := bel_trans Bw11 hbw12
              clear hbw12
              rw [← HS1.out] at Q1m ⊢
              have Q1 := Q1m.rows; clear Q1m
              go_wp2_with fail
              refine (s_SenderRows ka _ _ _ sx _ _ _ lx _ dka.fits hsx hlx2).mono ?_; rintro e w13 ⟨Q2r, Q2c, rfl, Q2m, hbw13⟩
              replace hB := hB.below hbw13
              replace hsx := hsx.below hbw13
              replace hlx2 := hlx2.below hbw13
              replace Q1 := Q1.below hbw13
              have Bw13 := bel_trans Bw12 hbw13
              clear hbw13
              rw [← HS1.out] at Q2m ⊢
              have Q2 := Q2m.rows; clear Q2m
              clear hsx hlx2
              go_wp2_with fail
              refine (s_DrawSeedColumns _ _ _ _ hB).mono ?_; rintro e w14 ⟨kd, ke, kf, kg, rfl, dkd, hke, hkf, hkg, hbw14⟩
              replace hB := hB.below hbw14
              replace Q1 := Q1.below hbw14
              replace Q2 := Q2.below hbw14
              have Bw14 := bel_trans Bw13 hbw14
              clear hbw14
              obtain ⟨S2, hS2⟩ : ∃ zz_, zz_ = seedColumns kd ke kf kg := ⟨_, rfl⟩; have HS2 := Lib.hid hS2; clear hS2
              go_wp2_with fail
              refine (i_SeedColumns kd ke kf kg _ dkd.fits (by unfold Fits; omega) (by unfold Fits; omega) (by unfold Fits; omega)).mono ?_; rintro e w15 ⟨Q3r, Q3c, rfl, Q3m, hbw15⟩
              replace hB := hB.below hbw15
              replace Q1 := Q1.below hbw15
              replace Q2 := Q2.below hbw15
              have Bw15 := bel_trans Bw14 hbw15
              clear hbw15
              rw [← HS2.out] at Q3m ⊢
              have Q3 := Q3m.rows; clear Q3m
              go_wp2_with fail
              refine (s_SeedColumns kd ke kf kg _ dkd.fits (by unfold Fits; omega) (by unfold Fits; omega) (by unfold Fits; omega)).mono ?_; rintro e w16 ⟨Q4r, Q4c, rfl, Q4m, hbw16⟩
              replace hB := hB.below hbw16
              replace Q1 := Q1.below hbw16
              replace Q2 := Q2.below hbw16
              replace Q3 := Q3.below hbw16
              have Bw16 := bel_trans Bw15 hbw16
              clear hbw16
              rw [← HS2.out] at Q4m ⊢
              have Q4 := Q4m.rows; clear Q4m
              go_wp2_with fail
              refine (s_DrawReceiverRows _ _ _ _ hB).mono ?_; rintro e w17 ⟨kh, km, kn, rfl, dkh, hkm, hkn, hbw17⟩
              replace hB := hB.below hbw17
              replace Q1 := Q1.below hbw17
              replace Q2 := Q2.below hbw17
              replace Q3 := Q3.below hbw17
              replace Q4 := Q4.below hbw17
              have Bw17 := bel_trans Bw16 hbw17
              clear hbw17
              obtain ⟨S3, hS3⟩ : ∃ zz_, zz_ = receiverRows kh km kn := ⟨_, rfl⟩; have HS3 := Lib.hid hS3; clear hS3
              go_wp2_with fail
              refine (i_ReceiverRows kh km kn _ dkh.fits (by unfold Fits; omega) (by unfold Fits; omega)).mono ?_; rintro e w18 ⟨Q5r, Q5c, rfl, Q5m, hbw18⟩
              replace hB := hB.below hbw18
              replace Q1 := Q1.below hbw18
              replace Q2 := Q2.below hbw18
              replace Q3 := Q3.below hbw18
              replace Q4 := Q4.below hbw18
              have Bw18 := bel_trans Bw17 hbw18
              clear hbw18
              rw [← HS3.out] at Q5m ⊢
              have Q5 := Q5m.rows; clear Q5m
              go_wp2_with fail
              refine (s_ReceiverRows kh km kn _ dkh.fits (by unfold Fits; omega) (by unfold Fits; omega)).mono ?_; rintro e w19 ⟨Q6r, Q6c, rfl, Q6m, hbw19⟩
              replace hB := hB.below hbw19
              replace Q1 := Q1.below hbw19
              replace Q2 := Q2.below hbw19
              replace Q3 := Q3.below hbw19
              replace Q4 := Q4.below hbw19
              replace Q5 := Q5.below hbw19
              have Bw19 := bel_trans Bw18 hbw19
              clear hbw19
              rw [← HS3.out] at Q6m ⊢
              have Q6 := Q6m.rows; clear Q6m
              go_wp2_with fail
              refine (s_DrawHideMessages _ _ _ _ hB).mono ?_; rintro e w20 ⟨ur, un, uc, ux, vr, vn, vc, vx, xr_, xn, xc, xx, yr, yn, yc, yx, rfl, hux, hun, hvx, hvn, hxx, hxn, hyx, hyn, hbw20⟩
              replace hB := hB.below hbw20
              replace Q1 := Q1.below hbw20
              replace Q2 := Q2.below hbw20
              replace Q3 := Q3.below hbw20
              replace Q4 := Q4.below hbw20
              replace Q5 := Q5.below hbw20
              replace Q6 := Q6.below hbw20
              have Bw20 := bel_trans Bw19 hbw20
              clear hbw20
              clear hB
              obtain ⟨S4, hS4⟩ : ∃ zz_, zz_ = hideMessages ux vx xx yx := ⟨_, rfl⟩; have HS4 := Lib.hid hS4; clear hS4
              go_wp2_with fail
              refine (i_HideMessages _ _ _ ux _ _ _ vx _ _ _ xx _ _ _ yx _ hux hvx hxx hyx).mono ?_; rintro e w21 ⟨Q7r, Q7c, rfl, Q7m, hbw21⟩
              replace Q1 := Q1.below hbw21
              replace Q2 := Q2.below hbw21
              replace Q3 := Q3.below hbw21
              replace Q4 := Q4.below hbw21
              replace Q5 := Q5.below hbw21
              replace Q6 := Q6.below hbw21
              replace hux := hux.below hbw21
              replace hvx := hvx.below hbw21
              replace hxx := hxx.below hbw21
              replace hyx := hyx.below hbw21
              have Bw21 := bel_trans Bw20 hbw21
              clear hbw21
              rw [← HS4.out] at Q7m ⊢
              have Q7 := Q7m.rows; clear Q7m
              go_wp2_with fail
              refine (s_HideMessages _ _ _ ux _ _ _ vx _ _ _ xx _ _ _ yx _ hux hvx hxx hyx).mono ?_; rintro e w22 ⟨Q8r, Q8c, rfl, Q8m, hbw22⟩
              replace Q1 := Q1.below hbw22
              replace Q2 := Q2.below hbw22
              replace Q3 := Q3.below hbw22
              replace Q4 := Q4.below hbw22
              replace Q5 := Q5.below hbw22
              replace Q6 := Q6.below hbw22
              replace hux := hux.below hbw22
              replace hvx := hvx.below hbw22
              replace hxx := hxx.below hbw22
              replace hyx := hyx.below hbw22
              replace Q7 := Q7.below hbw22
              have Bw22 := bel_trans Bw21 hbw22
              clear hbw22
              rw [← HS4.out] at Q8m ⊢
              have Q8 := Q8m.rows; clear Q8m
              clear hux hvx hxx hyx
              go_wp2_with fail
              refine (l_sameLists _ _ _ _ _ S1.1 _ Q1 Q2).mono ?_; rintro e w23 ⟨rfl, hbw23⟩
              replace Q1 := Q1.below hbw23
              replace Q2 := Q2.below hbw23
              replace Q3 := Q3.below hbw23
              replace Q4 := Q4.below hbw23
              replace Q5 := Q5.below hbw23
              replace Q6 := Q6.below hbw23
              replace Q7 := Q7.below hbw23
              replace Q8 := Q8.below hbw23
              have Bw23 := bel_trans Bw22 hbw23
              clear hbw23
              clear Q1 Q2
              go_wp2_with fail
              refine (l_sameLists _ _ _ _ _ S2.1 _ Q3 Q4).mono ?_; rintro e w24 ⟨rfl, hbw24⟩
              replace Q3 := Q3.below hbw24
              replace Q4 := Q4.below hbw24
              replace Q5 := Q5.below hbw24
              replace Q6 := Q6.below hbw24
              replace Q7 := Q7.below hbw24
              replace Q8 := Q8.below hbw24
              have Bw24 := bel_trans Bw23 hbw24
              clear hbw24
              clear Q3 Q4
              go_wp2_with fail
              refine (l_sameLists _ _ _ _ _ S3.1 _ Q5 Q6).mono ?_; rintro e w25 ⟨rfl, hbw25⟩
              replace Q5 := Q5.below hbw25
              replace Q6 := Q6.below hbw25
              replace Q7 := Q7.below hbw25
              replace Q8 := Q8.below hbw25
              have Bw25 := bel_trans Bw24 hbw25
              clear hbw25
              clear Q5 Q6
              go_wp2_with fail
              refine (l_sameLists _ _ _ _ _ S4.1 _ Q7 Q8).mono ?_; rintro e w26 ⟨rfl, hbw26⟩
              replace Q7 := Q7.below hbw26
              replace Q8 := Q8.below hbw26
              have Bw26 := bel_trans Bw25 hbw26
              clear hbw26
              clear Q7 Q8
              go_wp2
              go_ret
              exact ⟨by first | rfl | simp, Bw26⟩
end Go.Proofs.Ytfejpmfcognikaa
