/-
  SenderRows, both sides.
-/
import Derived.Test.YtfejpmfcognikaaE5
namespace Go.Proofs.Ytfejpmfcognikaa
open Go.RowKit
set_option linter.unusedVariables false
set_option linter.unusedSimpArgs false

set_option maxHeartbeats 4000000 in
theorem i_senderRows (key : Int) (a : Option Addr) (n cap : Nat) (s : List Int) (a' : Option Addr) (n' cap' : Nat) (cs : List (List Int)) (m : Nat) (w : World) (hk : 0 ≤ key ∧ key ≤ 1000000000) (h : Ints w a n cap s) (h' : Rws w a' n' cap' cs) (hn : n ≤ 8) (hn0 : 1 ≤ n) (hnn : n' = n) (hm : m ≤ 24) (hsb : bitsB s = true) (hc : Hid (∀ j, j < n → (rowN cs j).length = m ∧ bitsB (rowN cs j) = true)) :
    Calls Try.prog 53 #[.int .i64 key, .slice a n cap, .slice a' n' cap', .int .i64 m] w fun e w' => RowsRet (turnL (ownCs key s cs m n) n m) w e w' := by
  subst hnn
  have hl := h.len; have hl' := h'.len
  obtain ⟨hk1, hk2⟩ := hk
  have HH := Lib.hid h; have HM := Lib.hid h'; have HSB := Lib.hid hsb; clear h h' hsb
  have hhn := hn0; clear hn0
  go_enter Try.func53, Try.ntmps53
  go_wp2
  go_loopw [9, 16] (fun v c wr => ∃ t : Nat, t ≤ n' ∧ c = .int .i64 t ∧ Hid (OwnR 23 wr w.heap.size v t (ownCs key s cs m t)) ∧ Hid (Below w.heap.size w wr)) (fun _ c _ => n' - (intOf c).toNat)
  case atStart => exact ⟨0, by omega, rfl, (show Hid _ from OwnR.lit (Nat.le_refl _) rfl), (show Hid _ from bel_alloc w _)⟩
  case round =>
    obtain ⟨t, ht, rfl, HO, HB⟩ := hrel
    obtain ⟨wo, rfl⟩ : ∃ wo : World, wo = wr := ⟨_, rfl⟩
    by_cases hlt : t < n'
    · obtain ⟨b, off, rfl, hbl, hcc⟩ := (HH.out.below HB.out).at hlt
      obtain ⟨b2, off2, r2, q2, c2, e2, hbl2, hc2, hr2⟩ := (HM.out.below HB.out).at hlt
      have HL := Lib.hid (ownCs_succ key s cs m t)
      have hz := HB.out.size
      have f := hc.out t hlt
      have hq2 : q2 = m := by rw [← hr2.len.out]; exact f.1
      subst hq2
      have HR2 := Lib.hid hr2; have HF := Lib.hid f; clear hr2 f
      have hsd := bitsB_nth HSB.out (i := t) (by rw [hl.out]; exact hlt)
      obtain ⟨s1, s2⟩ := hsd
      have hlti : (t : Int) < (n' : Int) := by omega
      subst e2
      by_cases h1 : nth s t = 1
      · skip
        have HD : Hid (ownC key s cs q2 t = xrL (seedC key t (nth s t) q2) (rowN cs t) q2) := by show _ = _; unfold ownC; rw [if_pos h1]
        have h1b : (nth s t == 1) = true := by simp [h1]
        clear h1
        go_wp2_with fail
        refine (i_seedColumns key (nth s t) n' q2 _ ⟨hk1, hk2⟩ (by omega) (by omega) (by omega)).mono ?_; rintro e w5 ⟨r5, c5, rfl, hm5, hb5⟩
        rw [seedCs_len] at hm5 ⊢
        obtain ⟨b6, off6, r6, q6, c6, rfl, _, _, hc6, _, hm6, _⟩ := hm5.at hlt
        rw [rowN_seedCs hlt] at hm6
        have hq6 : q6 = q2 := by rw [← hm6.ints.len.out]; exact seedC_len _ _ _ _
        subst hq6
        have hc2b := cell_on hc2 hb5
        have HM6 := Lib.hid hm6; have HB5 := Lib.hid hb5; clear hm6 hm5 hb5
        go_wp2_with fail
        refine (i_xored _ _ _ _ _ _ (seedC key t (nth s t) q6) (rowN cs t) _ HM6.out.ints (HR2.out.below HB5.out) (Nat.le_refl _) (by omega) (bits2 (seedC_bits _ _ _ _) HF.out.2 (by rw [seedC_len]; exact Nat.le_refl _) (by rw [HF.out.1]; exact Nat.le_refl _))).mono ?_; rintro e w7 ⟨r7, c7, rfl, hm7, hb7⟩
        have HM7 := Lib.hid (hm7.base HB5.out.size); have HBX := Lib.hid (bel_trans HB5.out hb7); clear hm7 hb7
        go_wp2_with (at_builtin; refine wp_appR wo w7 w.heap.size t _ _ r7 q6 c7 (xrL (seedC key t (nth s t) q6) (rowN cs t) q6) _ _ rfl _ _ rfl rfl rfl rfl HO.out HBX.out HM7.out hz (by omega) ?_; intro v9 w9 hv9 hb9)
        go_roundw
        case rel => exact ⟨t + 1, by omega, by go_num, (by rw [HL.out, HD.out]; exact hv9), (show Hid _ from HB.out.trans ((HBX.out.mono hz).trans hb9))⟩
        case measure => simp [intOf]; omega
      · skip
        have HD : Hid (ownC key s cs q2 t = seedC key t (nth s t) q2) := by show _ = _; unfold ownC; rw [if_neg h1]
        have h1b : (nth s t == 1) = false := by simp [h1]
        clear h1
        go_wp2_with fail
        refine (i_seedColumns key (nth s t) n' q2 _ ⟨hk1, hk2⟩ (by omega) (by omega) (by omega)).mono ?_; rintro e w5 ⟨r5, c5, rfl, hm5, hb5⟩
        rw [seedCs_len] at hm5 ⊢
        obtain ⟨b6, off6, r6, q6, c6, rfl, _, _, hc6, _, hm6, _⟩ := hm5.at hlt
        rw [rowN_seedCs hlt] at hm6
        have hq6 : q6 = q2 := by rw [← hm6.ints.len.out]; exact seedC_len _ _ _ _
        subst hq6
        have hc2b := cell_on hc2 hb5
        have HM6 := Lib.hid hm6; have HB5 := Lib.hid hb5; clear hm6 hm5 hb5
        have HBX := HB5
        go_wp2_with (at_builtin; refine wp_appR wo w5 w.heap.size t _ _ r6 q6 c6 (seedC key t (nth s t) q6) _ _ rfl _ _ rfl rfl rfl rfl HO.out HBX.out HM6.out hz (by omega) ?_; intro v9 w9 hv9 hb9)
        go_roundw
        case rel => exact ⟨t + 1, by omega, by go_num, (by rw [HL.out, HD.out]; exact hv9), (show Hid _ from HB.out.trans ((HBX.out.mono hz).trans hb9))⟩
        case measure => simp [intOf]; omega
    · obtain rfl : t = n' := by omega
      obtain ⟨a2, c, hv, hm2⟩ := HO.out.mine (by omega) HB.out.size
      subst hv
      have HMM := Lib.hid hm2; clear hm2 HO
      go_wp2_with fail
      refine (i_rowsOf _ t _ (ownCs key s cs m t) m _ HMM.out.rows (by omega) (by omega) (show Hid _ from fun i hi => by rw [rowN_ownCs hi, ownC_len]; exact Nat.le_refl _)).mono ?_; rintro e w8 ⟨r8, c8, rfl, hm8, hb8⟩
      have HM8 := Lib.hid (hm8.wider HB.out.size (Nat.le_refl _) (Nat.le_refl _)); clear hm8
      go_wp2
      go_ret
      exact ⟨_, _, rfl, HM8.out, bel_trans HB.out hb8⟩
set_option maxHeartbeats 4000000 in
theorem s_oxSender (key : Int) (a : Option Addr) (n cap : Nat) (s : List Int) (a' : Option Addr) (n' cap' : Nat) (cs : List (List Int)) (m : Nat) (w : World) (hk : 0 ≤ key ∧ key ≤ 1000000000) (h : Ints w a n cap s) (h' : Rws w a' n' cap' cs) (hn : n ≤ 8) (hn0 : 1 ≤ n) (hnn : n' = n) (hm : m ≤ 24) (hsb : bitsB s = true) (hc : Hid (∀ j, j < n → (rowN cs j).length = m ∧ bitsB (rowN cs j) = true)) :
    Calls Try.prog 85 #[.int .i64 key, .slice a n cap, .slice a' n' cap'] w fun e w' => RowsRet (turnL (ownCs key s cs m n) n m) w e w' := by
  subst hnn
  have hl := h.len; have hl' := h'.len
  obtain ⟨hk1, hk2⟩ := hk
  obtain ⟨b0, off0, r0, q0, c0, e0, hb0, hc0, hr0⟩ := h'.at (i := 0) (by omega)
  rw [Nat.add_zero] at hc0
  have hq0 : q0 = m := by rw [← hr0.len.out]; exact (hc.out 0 (by omega)).1
  subst hq0
  clear hr0
  have hn0i : (0 : Int) < (n' : Int) := by omega
  have HH := Lib.hid h; have HM := Lib.hid h'; have HSB := Lib.hid hsb; clear h h' hsb
  subst e0
  go_enter Try.func85, Try.ntmps85
  go_wp2
  go_loopw [8, 18] (fun v c wr => ∃ t : Nat, t ≤ n' ∧ c = .int .i64 t ∧ Hid (OwnR 23 wr w.heap.size v t (ownCs key s cs q0 t)) ∧ Hid (Below w.heap.size w wr)) (fun _ c _ => n' - (intOf c).toNat)
  case atStart => exact ⟨0, by omega, rfl, (show Hid _ from OwnR.nil), (show Hid _ from Below.refl _ _)⟩
  case round =>
    obtain ⟨t, ht, rfl, HO, HB⟩ := hrel
    obtain ⟨wo, rfl⟩ : ∃ wo : World, wo = wr := ⟨_, rfl⟩
    by_cases hlt : t < n'
    · obtain ⟨b, off, rfl, hbl, hcc⟩ := (HH.out.below HB.out).at hlt
      obtain ⟨b2, off2, r2, q2, c2, e2, hbl2, hc2, hr2⟩ := (HM.out.below HB.out).at hlt
      have HL := Lib.hid (ownCs_succ key s cs q0 t)
      have hz := HB.out.size
      have f := hc.out t hlt
      have hq2 : q2 = q0 := by rw [← hr2.len.out]; exact f.1
      subst hq2
      have HR2 := Lib.hid hr2; have HF := Lib.hid f; clear hr2 f
      have hsd := bitsB_nth HSB.out (i := t) (by rw [hl.out]; exact hlt)
      obtain ⟨s1, s2⟩ := hsd
      have hlti : (t : Int) < (n' : Int) := by omega
      simp only [Option.some.injEq, Addr.mk.injEq] at e2
      obtain ⟨rfl, rfl, _⟩ := e2
      by_cases h1 : nth s t = 1
      · skip
        have HD : Hid (ownC key s cs q2 t = xrL (seedC key t (nth s t) q2) (rowN cs t) q2) := by show _ = _; unfold ownC; rw [if_pos h1]
        have h1b : (nth s t == 1) = true := by simp [h1]
        clear h1
        go_wp2_with fail
        refine (s_oxSeed key t (nth s t) q2 _ ⟨hk1, hk2⟩ (by omega) (by omega) (by omega)).mono ?_; rintro e w5 ⟨r6, c6, rfl, hm6, hb5⟩
        have hc2b := cell_on hc2 hb5
        have HM6 := Lib.hid hm6; have HB5 := Lib.hid hb5; clear hm6 hb5
        go_wp2_with fail
        refine (s_btXor _ _ _ _ _ _ (seedC key t (nth s t) q2) (rowN cs t) _ HM6.out.ints (HR2.out.below HB5.out) (Nat.le_refl _) (by omega) (bits2 (seedC_bits _ _ _ _) HF.out.2 (by rw [seedC_len]; exact Nat.le_refl _) (by rw [HF.out.1]; exact Nat.le_refl _))).mono ?_; rintro e w7 ⟨r7, c7, rfl, hm7, hb7⟩
        have HM7 := Lib.hid (hm7.base HB5.out.size); have HBX := Lib.hid (bel_trans HB5.out hb7); clear hm7 hb7
        go_wp2_with (at_builtin; refine wp_appR wo w7 w.heap.size t _ _ r7 q2 c7 (xrL (seedC key t (nth s t) q2) (rowN cs t) q2) _ _ rfl _ _ rfl rfl rfl rfl HO.out HBX.out HM7.out hz (by omega) ?_; intro v9 w9 hv9 hb9)
        go_roundw
        case rel => exact ⟨t + 1, by omega, by go_num, (by rw [HL.out, HD.out]; exact hv9), (show Hid _ from HB.out.trans ((HBX.out.mono hz).trans hb9))⟩
        case measure => simp [intOf]; omega
      · skip
        have HD : Hid (ownC key s cs q2 t = seedC key t (nth s t) q2) := by show _ = _; unfold ownC; rw [if_neg h1]
        have h1b : (nth s t == 1) = false := by simp [h1]
        clear h1
        go_wp2_with fail
        refine (s_oxSeed key t (nth s t) q2 _ ⟨hk1, hk2⟩ (by omega) (by omega) (by omega)).mono ?_; rintro e w5 ⟨r6, c6, rfl, hm6, hb5⟩
        have hc2b := cell_on hc2 hb5
        have HM6 := Lib.hid hm6; have HB5 := Lib.hid hb5; clear hm6 hb5
        have HBX := HB5
        go_wp2_with (at_builtin; refine wp_appR wo w5 w.heap.size t _ _ r6 q2 c6 (seedC key t (nth s t) q2) _ _ rfl _ _ rfl rfl rfl rfl HO.out HBX.out HM6.out hz (by omega) ?_; intro v9 w9 hv9 hb9)
        go_roundw
        case rel => exact ⟨t + 1, by omega, by go_num, (by rw [HL.out, HD.out]; exact hv9), (show Hid _ from HB.out.trans ((HBX.out.mono hz).trans hb9))⟩
        case measure => simp [intOf]; omega
    · obtain rfl : t = n' := by omega
      obtain ⟨a2, c, hv, hm2⟩ := HO.out.mine (by omega) HB.out.size
      subst hv
      have HMM := Lib.hid hm2; clear hm2 HO
      go_wp2_with fail
      refine (s_oxTurn _ t _ (ownCs key s cs q0 t) q0 _ HMM.out.rows (by omega) (by omega) (show Hid _ from fun i hi => by rw [rowN_ownCs hi, ownC_len]; exact Nat.le_refl _)).mono ?_; rintro e w8 ⟨r8, c8, rfl, hm8, hb8⟩
      have HM8 := Lib.hid (hm8.wider HB.out.size (Nat.le_refl _) (Nat.le_refl _)); clear hm8
      go_wp2
      go_ret
      exact ⟨_, _, rfl, HM8.out, bel_trans HB.out hb8⟩
set_option maxHeartbeats 4000000 in
theorem i_SenderRows (key : Int) (a : Option Addr) (n cap : Nat) (s : List Int) (a' : Option Addr) (n' cap' : Nat) (cs : List (List Int)) (w : World) (hkey : Fits key) (h : Ints w a n cap s) (h' : Rws w a' n' cap' cs) :
    Calls Try.prog 13 #[.int .i64 key, .slice a n cap, .slice a' n' cap'] w fun e w' => RowsRetB (senderRows key s cs) w e w' := by
  have hl := h.len; have hl' := h'.len; have hs := h.small; have hs' := h'.small
  cases g4 : colsB cs with
  | false =>
    have HR := Lib.hid (snd_f (key := key) (s := s) (cs := cs) (fun q => by have := sndB_iff.1 q; rw [g4] at this; cases this.2.2.2))
    go_enter Try.func13, Try.ntmps13
    go_wp2_with fail
    refine (i_areColumns _ _ _ cs _ h').mono ?_; rintro e w1 ⟨q0, rfl, hq0, hb1⟩
    go_wp2
    all_goals
      go_ret2
      rw [HR.out]
      exact RowsRetB.no (hb1)
  | true =>
    cases g1 : keyE key with
    | false =>
      have HR := Lib.hid (snd_f (key := key) (s := s) (cs := cs) (fun q => by have := sndB_iff.1 q; rw [g1] at this; cases this.1))
      go_enter Try.func13, Try.ntmps13
      go_wp2_with fail
      refine (i_areColumns _ _ _ cs _ h').mono ?_; rintro e w1 ⟨q0, rfl, hq0, hb1⟩
      obtain rfl := hq0 g4
      go_wp2_with fail
      refine (i_isKeyE _ _).mono ?_; rintro e w2 ⟨rfl, rfl⟩
      go_wp2
      all_goals
        go_ret2
        rw [HR.out]
        exact RowsRetB.no (hb1)
    | true =>
      cases g2 : secB s with
      | false =>
        have HR := Lib.hid (snd_f (key := key) (s := s) (cs := cs) (fun q => by have := sndB_iff.1 q; rw [g2] at this; cases this.2.1))
        go_enter Try.func13, Try.ntmps13
        go_wp2_with fail
        refine (i_areColumns _ _ _ cs _ h').mono ?_; rintro e w1 ⟨q0, rfl, hq0, hb1⟩
        obtain rfl := hq0 g4
        go_wp2_with fail
        refine (i_isKeyE _ _).mono ?_; rintro e w2 ⟨rfl, rfl⟩
        go_wp2_with fail
        refine (i_isSecretOf _ _ _ s _ (h.below hb1)).mono ?_; rintro e w3 ⟨rfl, hb3⟩
        go_wp2
        all_goals
          go_ret2
          rw [HR.out]
          exact RowsRetB.no (bel_trans hb1 hb3)
      | true =>
        obtain ⟨⟨k1, k2⟩, kb⟩ := secB_iff.1 g2
        obtain ⟨e1, e2⟩ := inB_iff.1 g1
        rw [hl.out] at k1 k2
        by_cases h3 : n = n'
        rotate_left
        · have h3b : ((n : Int) != (n' : Int)) = true := by simp; omega
          have h3c : ((n : Int) == (n' : Int)) = false := by simp; omega
          have HR := Lib.hid (snd_f (key := key) (s := s) (cs := cs) (fun q => by have := sndB_iff.1 q; rw [hl.out, hl'.out] at this; omega))
          go_enter Try.func13, Try.ntmps13
          go_wp2_with fail
          refine (i_areColumns _ _ _ cs _ h').mono ?_; rintro e w1 ⟨q0, rfl, hq0, hb1⟩
          obtain rfl := hq0 g4
          go_wp2_with fail
          refine (i_isKeyE _ _).mono ?_; rintro e w2 ⟨rfl, rfl⟩
          go_wp2_with fail
          refine (i_isSecretOf _ _ _ s _ (h.below hb1)).mono ?_; rintro e w3 ⟨rfl, hb3⟩
          go_wp2
          all_goals
            go_ret2
            rw [HR.out]
            exact RowsRetB.no (bel_trans hb1 hb3)
        subst h3
        obtain ⟨_, ⟨m1, m2⟩, hls⟩ := colsB_iff.1 g4
        have HR := Lib.hid (snd_t (key := key) (s := s) (cs := cs) (sndB_iff.2 ⟨g1, g2, by rw [hl.out, hl'.out], g4⟩))
        have HC : Hid (∀ j, j < n → (rowN cs j).length = (rowN cs 0).length ∧ bitsB (rowN cs j) = true) := fun j hj => by have := listsB_at hls (i := j) (by rw [hl'.out]; exact hj); exact ⟨by omega, this.2⟩
        have HSL : Hid (sndL key s cs = turnL (ownCs key s cs (rowN cs 0).length n) n (rowN cs 0).length) := by show _ = _; unfold sndL; rw [hl.out]
        go_enter Try.func13, Try.ntmps13
        go_wp2_with fail
        refine (i_areColumns _ _ _ cs _ h').mono ?_; rintro e w1 ⟨q0, rfl, hq0, hb1⟩
        obtain rfl := hq0 g4
        go_wp2_with fail
        refine (i_isKeyE _ _).mono ?_; rintro e w2 ⟨rfl, rfl⟩
        go_wp2_with fail
        refine (i_isSecretOf _ _ _ s _ (h.below hb1)).mono ?_; rintro e w3 ⟨rfl, hb3⟩
        go_wp2_with fail
        refine (i_senderRows key _ _ _ s _ n _ cs (rowN cs 0).length _ ⟨e1, e2⟩ (h.below (bel_trans hb1 hb3)) (h'.below (bel_trans hb1 hb3)) (by omega) (by omega) rfl (by omega) kb HC.out).mono ?_; rintro e w4 ⟨r, rc, rfl, hm4, hb4⟩
        go_wp2
        go_ret2
        rw [HR.out, HSL.out]
        exact RowsRetB.yes hm4 (bel_trans hb1 hb3).size (bel_trans (bel_trans hb1 hb3) hb4)
set_option maxHeartbeats 4000000 in
theorem s_SenderRows (key : Int) (a : Option Addr) (n cap : Nat) (s : List Int) (a' : Option Addr) (n' cap' : Nat) (cs : List (List Int)) (w : World) (hkey : Fits key) (h : Ints w a n cap s) (h' : Rws w a' n' cap' cs) :
    Calls Try.prog 26 #[.int .i64 key, .slice a n cap, .slice a' n' cap'] w fun e w' => RowsRetB (senderRows key s cs) w e w' := by
  have hl := h.len; have hl' := h'.len; have hs := h.small; have hs' := h'.small
  cases g1 : keyE key with
  | false =>
    have HR := Lib.hid (snd_f (key := key) (s := s) (cs := cs) (fun q => by have := sndB_iff.1 q; rw [g1] at this; cases this.1))
    go_enter Try.func26, Try.ntmps26
    go_wp2_with fail
    refine (s_shKey _ _).mono ?_; rintro e w2 ⟨rfl, rfl⟩
    go_wp2
    all_goals
      go_ret2
      rw [HR.out]
      exact RowsRetB.no (Below.refl _ _)
  | true =>
    cases g2 : secB s with
    | false =>
      have HR := Lib.hid (snd_f (key := key) (s := s) (cs := cs) (fun q => by have := sndB_iff.1 q; rw [g2] at this; cases this.2.1))
      go_enter Try.func26, Try.ntmps26
      go_wp2_with fail
      refine (s_shKey _ _).mono ?_; rintro e w2 ⟨rfl, rfl⟩
      go_wp2_with fail
      refine (s_oxSecret _ _ _ s _ h).mono ?_; rintro e w3 ⟨rfl, rfl⟩
      go_wp2
      all_goals
        go_ret2
        rw [HR.out]
        exact RowsRetB.no (Below.refl _ _)
    | true =>
      obtain ⟨⟨k1, k2⟩, kb⟩ := secB_iff.1 g2
      obtain ⟨e1, e2⟩ := inB_iff.1 g1
      rw [hl.out] at k1 k2
      by_cases h3 : n = n'
      rotate_left
      · have h3b : ((n : Int) != (n' : Int)) = true := by simp; omega
        have h3c : ((n : Int) == (n' : Int)) = false := by simp; omega
        have HLN : Hid ((decide ((cs.length : Int) = (n : Int)) && colsB cs) = false) := by show _ = _; rw [hl'.out]; simp; omega
        have HR := Lib.hid (snd_f (key := key) (s := s) (cs := cs) (fun q => by have := sndB_iff.1 q; rw [hl.out, hl'.out] at this; omega))
        go_enter Try.func26, Try.ntmps26
        go_wp2_with fail
        refine (s_shKey _ _).mono ?_; rintro e w2 ⟨rfl, rfl⟩
        go_wp2_with fail
        refine (s_oxSecret _ _ _ s _ h).mono ?_; rintro e w3 ⟨rfl, rfl⟩
        go_wp2_with fail
        refine (s_oxColumns _ _ _ cs _ _ h').mono ?_; rintro e w1 ⟨rfl, rfl⟩; rw [HLN.out]
        go_wp2
        all_goals
          go_ret2
          rw [HR.out]
          exact RowsRetB.no (Below.refl _ _)
      subst h3
      have HLN : Hid ((decide ((cs.length : Int) = (n : Int)) && colsB cs) = colsB cs) := by show _ = _; rw [hl'.out]; simp
      cases g4 : colsB cs with
      | false =>
        have HR := Lib.hid (snd_f (key := key) (s := s) (cs := cs) (fun q => by have := sndB_iff.1 q; rw [g4] at this; cases this.2.2.2))
        go_enter Try.func26, Try.ntmps26
        go_wp2_with fail
        refine (s_shKey _ _).mono ?_; rintro e w2 ⟨rfl, rfl⟩
        go_wp2_with fail
        refine (s_oxSecret _ _ _ s _ h).mono ?_; rintro e w3 ⟨rfl, rfl⟩
        go_wp2_with fail
        refine (s_oxColumns _ _ _ cs _ _ h').mono ?_; rintro e w1 ⟨rfl, rfl⟩; rw [HLN.out]; rw [g4]
        go_wp2
        all_goals
          go_ret2
          rw [HR.out]
          exact RowsRetB.no (Below.refl _ _)
      | true =>
        obtain ⟨_, ⟨m1, m2⟩, hls⟩ := colsB_iff.1 g4
        have HR := Lib.hid (snd_t (key := key) (s := s) (cs := cs) (sndB_iff.2 ⟨g1, g2, by rw [hl.out, hl'.out], g4⟩))
        have HC : Hid (∀ j, j < n → (rowN cs j).length = (rowN cs 0).length ∧ bitsB (rowN cs j) = true) := fun j hj => by have := listsB_at hls (i := j) (by rw [hl'.out]; exact hj); exact ⟨by omega, this.2⟩
        have HSL : Hid (sndL key s cs = turnL (ownCs key s cs (rowN cs 0).length n) n (rowN cs 0).length) := by show _ = _; unfold sndL; rw [hl.out]
        go_enter Try.func26, Try.ntmps26
        go_wp2_with fail
        refine (s_shKey _ _).mono ?_; rintro e w2 ⟨rfl, rfl⟩
        go_wp2_with fail
        refine (s_oxSecret _ _ _ s _ h).mono ?_; rintro e w3 ⟨rfl, rfl⟩
        go_wp2_with fail
        refine (s_oxColumns _ _ _ cs _ _ h').mono ?_; rintro e w1 ⟨rfl, rfl⟩; rw [HLN.out]; rw [g4]
        go_wp2_with fail
        refine (s_oxSender key _ _ _ s _ n _ cs (rowN cs 0).length _ ⟨e1, e2⟩ h h' (by omega) (by omega) rfl (by omega) kb HC.out).mono ?_; rintro e w4 ⟨r, rc, rfl, hm4, hb4⟩
        go_wp2
        go_ret2
        rw [HR.out, HSL.out]
        exact RowsRetB.yes hm4 (Nat.le_refl _) hb4
end Go.Proofs.Ytfejpmfcognikaa
