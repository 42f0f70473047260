/-
  SentColumns, both sides.
-/
import Derived.Test.YtfejpmfcognikaaE8
import Derived.Deep.RegionWith
namespace Go.Proofs.Ytfejpmfcognikaa
open Go.RowKit
set_option linter.unusedVariables false
set_option linter.unusedSimpArgs false

def sentC (key : Int) (ch : List Int) (m i : Nat) : List Int := xrL (xrL (seedC key i 0 m) (seedC key i 1 m) m) ch m
def sentCs (key : Int) (ch : List Int) (m k : Nat) : List (List Int) := (List.range k).map (sentC key ch m)
theorem sentCs_succ (key : Int) (ch : List Int) (m k : Nat) : sentCs key ch m (k + 1) = sentCs key ch m k ++ [sentC key ch m k] := by simp [sentCs, List.range_succ]
theorem sentCs_len (key : Int) (ch : List Int) (m k : Nat) : (sentCs key ch m k).length = k := by simp [sentCs]
theorem rowN_sentCs {key : Int} {ch : List Int} {m k i : Nat} (hi : i < k) : rowN (sentCs key ch m k) i = sentC key ch m i := by simp [rowN, sentCs, hi]
theorem sentC_len (key : Int) (ch : List Int) (m i : Nat) : (sentC key ch m i).length = m := xrL_len _ _ _
theorem sentC_bits (key : Int) (ch : List Int) (m i : Nat) : bitsB (sentC key ch m i) = true := xrL_bits _ _ _
def sentColumns (key k : Int) (ch : List Int) : List (List Int) × Bool := if keyE key && (inB k 1 8 && chosB ch) then (sentCs key ch ch.length k.toNat, true) else ([], false)
theorem sentColumns_len (key k : Int) (ch : List Int) : (sentColumns key k ch).1.length ≤ 1000 ∧ pre (sentColumns key k ch).1 (sentColumns key k ch).1.length ≤ 100000 := by
  unfold sentColumns
  split
  · rename_i h
    simp only [Bool.and_eq_true] at h
    have h1 := inB_iff.1 h.2.1; have h2 := (chosB_iff.1 h.2.2).1
    show (sentCs key ch ch.length k.toNat).length ≤ 1000 ∧ pre (sentCs key ch ch.length k.toNat) (sentCs key ch ch.length k.toNat).length ≤ 100000
    rw [sentCs_len]
    have := pre_le (sentCs key ch ch.length k.toNat) k.toNat 24 (fun i hi => by rw [rowN_sentCs hi, sentC_len]; omega)
    omega
  · simp [pre]
theorem frozen_on {w w' : World} {b o : Nat} {x : Value} (h : w.cell? ⟨b, o, none⟩ = some x) (hf : w.frozen? ⟨b, o, none⟩ = false) (hb : Below w.heap.size w w') : w'.frozen? ⟨b, o, none⟩ = false :=
  (hb.frozen (p := ⟨b, o, none⟩) (lt_of_cell h)).trans hf
set_option maxHeartbeats 4000000 in
theorem s_oxSent (key : Int) (k : Nat) (a : Option Addr) (m cap : Nat) (ch : List Int) (w : World) (hk : 0 ≤ key ∧ key ≤ 1000000000) (hk8 : k ≤ 8) (h : Ints w a m cap ch) (hm : m ≤ 24) (hb : bitsB ch = true) :
    Calls Try.prog 79 #[.int .i64 key, .int .i64 k, .slice a m cap] w fun e w' => RowsRet (sentCs key ch m k) w e w' := by
  have hl := h.len
  have HH := Lib.hid h; have HCB := Lib.hid hb; clear h hb
  go_enter Try.func79, Try.ntmps79
  go_wp2
  go_loopw [7, 8] (fun v i wr => ∃ t : Nat, t ≤ k ∧ i = .int .i64 t ∧ Hid (OwnR 23 wr w.heap.size v t (sentCs key ch m t)) ∧ Hid (Below w.heap.size w wr)) (fun _ i _ => k - (intOf i).toNat)
  case atStart => exact ⟨0, by omega, rfl, (show Hid _ from OwnR.nil), (show Hid _ from Below.refl _ _)⟩
  case round =>
    obtain ⟨t, ht, rfl, HO, HB⟩ := hrel
    obtain ⟨wo, rfl⟩ : ∃ wo : World, wo = wr := ⟨_, rfl⟩
    by_cases hlt : t < k
    · have HL := Lib.hid (sentCs_succ key ch m t)
      have hz := HB.out.size
      have HD : Hid (sentC key ch m t = xrL (xrL (seedC key t 0 m) (seedC key t 1 m) m) ch m) := rfl
      go_wp2_with fail
      refine (s_oxSeed key t 0 m _ hk (by omega) (by omega) (by omega)).mono ?_; rintro e w2 ⟨r2, c2, rfl, hm2, hb2⟩
      go_wp2_with fail
      refine (s_oxSeed key t 1 m _ hk (by omega) (by omega) (by omega)).mono ?_; rintro e w3 ⟨r3, c3, rfl, hm3, hb3⟩
      go_wp2_with fail
      refine (s_btXor _ _ _ _ _ _ (seedC key t 0 m) (seedC key t 1 m) _ (hm2.ints.below hb3) hm3.ints (Nat.le_refl _) (by omega) (bits2 (seedC_bits _ _ _ _) (seedC_bits _ _ _ _) (by rw [seedC_len]; exact Nat.le_refl _) (by rw [seedC_len]; exact Nat.le_refl _))).mono ?_; rintro e w4 ⟨r4, c4, rfl, hm4, hb4⟩
      have B4 := bel_trans (bel_trans hb2 hb3) hb4
      go_wp2_with fail
      refine (s_btXor _ _ _ _ _ _ (xrL (seedC key t 0 m) (seedC key t 1 m) m) ch _ hm4.ints (HH.out.below (bel_trans HB.out B4)) (Nat.le_refl _) (by omega) (bits2 (xrL_bits _ _ _) HCB.out (by rw [xrL_len]; exact Nat.le_refl _) (by rw [hl.out]; exact Nat.le_refl _))).mono ?_; rintro e w5 ⟨r5, c5, rfl, hm5, hb5⟩
      have hm6 := Lib.hid (hm5.base B4.size)
      have HBX := Lib.hid (bel_trans B4 hb5)
      clear hm2 hb2 hm3 hb3 hm4 hb4 B4 hm5 hb5
      go_wp2_with (at_builtin; refine wp_appR wo w5 w.heap.size t _ _ r5 m c5 (xrL (xrL (seedC key t 0 m) (seedC key t 1 m) m) ch m) _ _ rfl _ _ rfl rfl rfl rfl HO.out HBX.out hm6.out hz (by omega) ?_; intro v9 w9 hv9 hb9)
      go_roundw
      case rel => exact ⟨t + 1, by omega, by go_num, (by rw [HL.out, HD.out]; exact hv9), (show Hid _ from HB.out.trans ((HBX.out.mono hz).trans hb9))⟩
      case measure => simp [intOf]; omega
    · obtain rfl : t = k := by omega
      obtain ⟨a2, c, hv, hm2⟩ := HO.out.mine (by omega) HB.out.size
      subst hv
      have HM := Lib.hid hm2; clear hm2 HO
      go_wp2
      go_ret
      unfold RowsRet
      rw [sentCs_len]
      exact ⟨_, _, rfl, HM.out, HB.out⟩
set_option maxHeartbeats 4000000 in
theorem i_sentColumns (key : Int) (k : Nat) (a : Option Addr) (m cap : Nat) (ch : List Int) (w : World) (hk : 0 ≤ key ∧ key ≤ 1000000000) (hk1 : 1 ≤ k) (hk8 : k ≤ 8) (h : Ints w a m cap ch) (hm : m ≤ 24) (hb : bitsB ch = true) :
    Calls Try.prog 47 #[.int .i64 key, .int .i64 k, .slice a m cap] w fun e w' => RowsRet (sentCs key ch m k) w e w' := by
  have hl := h.len
  have HH := Lib.hid h; have HCB := Lib.hid hb; clear h hb
  go_enter Try.func47, Try.ntmps47
  go_wp2_with fail
  refine (i_seedColumns key 0 k m _ hk (by omega) (by omega) (by omega)).mono ?_; rintro e w1 ⟨r1, c1, rfl, hm1, hb1⟩
  rw [seedCs_len] at hm1 ⊢
  go_wp2_with fail
  refine (i_seedColumns key 1 k m _ hk (by omega) (by omega) (by omega)).mono ?_; rintro e w2 ⟨r2, c2, rfl, hm2, hb2⟩
  rw [seedCs_len] at hm2 ⊢
  obtain ⟨b, off, _, _, _, rfl, hblo, hbhi, _⟩ := hm1.at (i := 0) (by omega)
  have HM1 : Hid (∃ yss hi, MineR w2 w.heap.size hi (some ⟨b, off, none⟩) k c1 yss ∧ (∀ i, i < 0 → rowN yss i = sentC key ch m i) ∧ ∀ i, 0 ≤ i → i < k → rowN yss i = seedC key i 0 m) :=
    ⟨_, _, hm1.below hb2, fun i hi => by omega, fun i _ hi => rowN_seedCs hi⟩
  have HM2 := Lib.hid hm2
  have HB2 := Lib.hid (bel_trans hb1 hb2)
  have hz12 : w1.heap.size ≤ w2.heap.size := hb2.size
  have hz01 : w.heap.size ≤ w1.heap.size := hb1.size
  clear hm1 hm2 hb1 hb2
  go_wp2
  go_loopw [22] (fun i wr => ∃ t : Nat, t ≤ k ∧ i = .int .i64 t ∧ Hid (∃ yss hi, MineR wr w.heap.size hi (some ⟨b, off, none⟩) k c1 yss ∧ (∀ i, i < t → rowN yss i = sentC key ch m i) ∧ ∀ i, t ≤ i → i < k → rowN yss i = seedC key i 0 m) ∧ Hid (MineR wr w1.heap.size w2.heap.size r2 k c2 (seedCs key 1 m k)) ∧ Hid (Below w.heap.size w wr) ∧ w2.heap.size ≤ wr.heap.size) (fun i _ => k - (intOf i).toNat)
  case atStart => exact ⟨0, by omega, rfl, HM1.out, HM2.out, HB2.out, Nat.le_refl _⟩
  case round =>
    obtain ⟨t, ht, rfl, HY, HM, HB, hz2⟩ := hrel
    clear HM1 HM2 HB2
    obtain ⟨wo, rfl⟩ : ∃ wo : World, wo = wr := ⟨_, rfl⟩
    obtain ⟨yss, hi, hy, hy1, hy2⟩ := HY.out
    have HYY := Lib.hid (hy.wider (Nat.le_refl _) hy.top (Nat.le_refl _))
    have HY1 := Lib.hid hy1; have HY2 := Lib.hid hy2
    have hylen := hy.len
    clear hy hy1 hy2 HY
    by_cases hlt : t < k
    · obtain ⟨b0, off0, ra, ma, ca, e0, _, _, hca, hfa, hma, _, _⟩ := HYY.out.at hlt
      simp only [Option.some.injEq, Addr.mk.injEq] at e0
      obtain ⟨rfl, rfl, _⟩ := e0
      obtain ⟨bb, offb, rb, mb, cb, rfl, _, _, hcb, _, hmb, _, _⟩ := HM.out.at hlt
      rw [HY2.out t (Nat.le_refl _) hlt] at hma
      rw [rowN_seedCs hlt] at hmb
      have ema : ma = m := by rw [← hma.ints.len.out, seedC_len]
      have emb : mb = m := by rw [← hmb.ints.len.out, seedC_len]
      subst ema; subst emb
      have RA := Lib.hid hma.ints; have RB := Lib.hid hmb.ints; clear hma hmb
      have hlti : (t : Int) < (k : Int) := by omega
      have HD : Hid (sentC key ch mb t = xrL (xrL (seedC key t 0 mb) (seedC key t 1 mb) mb) ch mb) := rfl
      have tok1 : True := trivial
      go_wp2_with fail
      go_region_with (first | (go_at_call 60; clear tok1; refine (i_xored _ _ _ _ _ _ (seedC key t 0 mb) (seedC key t 1 mb) _ (RA.out.below (by (repeat (first | exact Below.refl _ _ | assumption | refine bel_trans ?_ (bel_alloc _ _) | refine bel_set ?_ (by first | (dsimp only; omega) | (simp; omega) | simp) _ | refine bel_trans ?_ (bel_drewN _ _) | refine bel_trans ?_ (bel_drew _) | refine bel_trans ?_ (by assumption))))) (RB.out.below (by (repeat (first | exact Below.refl _ _ | assumption | refine bel_trans ?_ (bel_alloc _ _) | refine bel_set ?_ (by first | (dsimp only; omega) | (simp; omega) | simp) _ | refine bel_trans ?_ (bel_drewN _ _) | refine bel_trans ?_ (bel_drew _) | refine bel_trans ?_ (by assumption))))) (Nat.le_refl _) (by omega) (bits2 (seedC_bits _ _ _ _) (seedC_bits _ _ _ _) (by rw [seedC_len]; exact Nat.le_refl _) (by rw [seedC_len]; exact Nat.le_refl _))).mono ?_; rintro e w5 ⟨r5, c5, rfl, hm5, hb5⟩; have B5 : Below wo.heap.size wo w5 := (by (repeat (first | exact Below.refl _ _ | assumption | refine bel_trans ?_ (bel_alloc _ _) | refine bel_set ?_ (by first | (dsimp only; omega) | (simp; omega) | simp) _ | refine bel_trans ?_ (bel_drewN _ _) | refine bel_trans ?_ (bel_drew _) | refine bel_trans ?_ (by assumption))))) | (go_at_call 60; refine (i_xored _ _ _ _ _ _ (xrL (seedC key t 0 mb) (seedC key t 1 mb) mb) ch _ hm5.ints (HH.out.below (bel_trans HB.out B5)) (Nat.le_refl _) (by omega) (bits2 (xrL_bits _ _ _) HCB.out (by rw [xrL_len]; exact Nat.le_refl _) (by rw [hl.out]; exact Nat.le_refl _))).mono ?_; rintro e w6 ⟨r6, c6, rfl, hm6, hb6⟩; have hca6 := cell_on hca (bel_trans B5 hb6); have hfa6 := frozen_on hca hfa (bel_trans B5 hb6)))
      all_goals
        have B6 := bel_trans B5 hb6
        have HY6 := HYY.out.below B6
        have hmb6 := hm6.base (B' := w.heap.size) (Nat.le_trans HB.out.size B5.size)
        have hp6 : PlaceM r6 mb wo.heap.size w6.heap.size := fun h0 g o e => ⟨Nat.le_trans B5.size (hm6.pl h0 g o e).1, (hm6.pl h0 g o e).2⟩
        have HST := Lib.hid (HY6.store hlt hmb6 hp6 B6.size (Nat.le_refl _))
        have HON : OnlyM (some ⟨b, off, none⟩) k w6 (w6.setCell ⟨b, off + t, none⟩ (.slice r6 mb c6)) := (OnlyM.refl _ _ _).setCell (by omega) _
        have HMS := Lib.hid ((HM.out.below B6).onlyI (HON.onlyI (lo := b) (hi := b + 1) (fun _ g o e => by simp only [Option.some.injEq, Addr.mk.injEq] at e; omega)) (Or.inr (by omega)))
        have HBS : Hid (Below w.heap.size w (w6.setCell ⟨b, off + t, none⟩ (.slice r6 mb c6))) := bel_set (bel_trans HB.out B6) (by show w.heap.size ≤ b; omega) _
        have hzs : w2.heap.size ≤ (w6.setCell ⟨b, off + t, none⟩ (.slice r6 mb c6)).heap.size := by
          have := B6.size
          simp; omega
        clear HY6 hmb6 hp6 HON B5 B6 hb5 hb6 hm5 hm6 hca6 hfa6
        go_wp2
        go_roundw
        case rel => exact ⟨t + 1, by omega, by go_num, (show Hid _ from ⟨_, _, HST.out, fun i hi => by
            rw [rowN_set (by rw [hylen.out]; exact hlt)]
            by_cases ei : i = t
            · rw [if_pos ei, ei, HD.out]
            · rw [if_neg ei]; exact HY1.out i (by omega), fun i hi hik => by
            rw [rowN_set (by rw [hylen.out]; exact hlt), if_neg (by omega)]
            exact HY2.out i (by omega) hik⟩), HMS.out, HBS.out, hzs⟩
        case measure => simp [intOf]; omega
    · obtain rfl : t = k := by omega
      obtain rfl : yss = sentCs key ch m t := eq_of_rowN (by rw [hylen.out, sentCs_len]) (fun i hi => by rw [hylen.out] at hi; rw [HY1.out i hi, rowN_sentCs hi])
      have HMM := HYY
      go_wp2
      go_ret
      unfold RowsRet
      rw [sentCs_len]
      exact ⟨_, _, rfl, HMM.out, HB.out⟩

set_option maxHeartbeats 1000000 in
theorem i_SentColumns (key k : Int) (a : Option Addr) (m cap : Nat) (ch : List Int) (w : World) (hkey : Fits key) (hk : Fits k) (h : Ints w a m cap ch) :
    Calls Try.prog 11 #[.int .i64 key, .int .i64 k, .slice a m cap] w fun e w' => RowsRetB (sentColumns key k ch) w e w' := by
  have hl := h.len; have hs := h.small
  cases g1 : keyE key with
  | false =>
    have HR : Hid (sentColumns key k ch = ([], false)) := by show _ = _; unfold sentColumns; refine if_neg fun q => ?_; simp only [Bool.and_eq_true] at q; rw [g1] at q; cases q.1
    go_enter Try.func11, Try.ntmps11
    go_wp2_with (first | (go_at_call 41; refine (i_isKeyE _ _).mono ?_; rintro e w' ⟨rfl, rfl⟩) | (go_at_call 45; refine (i_isColumns _ _).mono ?_; rintro e w' ⟨rfl, rfl⟩) | (go_at_call 46; refine (i_areChosen _ _ _ ch _ h).mono ?_; rintro e w1 ⟨rfl, hb⟩))
    all_goals
      go_ret2
      rw [HR.out]
      exact RowsRetB.no (Below.refl _ _)
  | true =>
    obtain ⟨e1, e2⟩ := inB_iff.1 g1
    cases g2 : inB k 1 8 with
    | false =>
      have HR : Hid (sentColumns key k ch = ([], false)) := by show _ = _; unfold sentColumns; refine if_neg fun q => ?_; simp only [Bool.and_eq_true] at q; rw [g2] at q; cases q.2.1
      go_enter Try.func11, Try.ntmps11
      go_wp2_with (first | (go_at_call 41; refine (i_isKeyE _ _).mono ?_; rintro e w' ⟨rfl, rfl⟩) | (go_at_call 45; refine (i_isColumns _ _).mono ?_; rintro e w' ⟨rfl, rfl⟩) | (go_at_call 46; refine (i_areChosen _ _ _ ch _ h).mono ?_; rintro e w1 ⟨rfl, hb⟩))
      all_goals
        go_ret2
        rw [HR.out]
        exact RowsRetB.no (Below.refl _ _)
    | true =>
      obtain ⟨k1, k2⟩ := inB_iff.1 g2
      cases g3 : chosB ch with
      | false =>
        have HR : Hid (sentColumns key k ch = ([], false)) := by show _ = _; unfold sentColumns; refine if_neg fun q => ?_; simp only [Bool.and_eq_true] at q; rw [g3] at q; cases q.2.2
        go_enter Try.func11, Try.ntmps11
        go_wp2_with (first | (go_at_call 41; refine (i_isKeyE _ _).mono ?_; rintro e w' ⟨rfl, rfl⟩) | (go_at_call 45; refine (i_isColumns _ _).mono ?_; rintro e w' ⟨rfl, rfl⟩) | (go_at_call 46; refine (i_areChosen _ _ _ ch _ h).mono ?_; rintro e w1 ⟨rfl, hb⟩))
        all_goals
          go_ret2
          rw [HR.out]
          exact RowsRetB.no (hb)
      | true =>
        obtain ⟨⟨m1, m2⟩, mb⟩ := chosB_iff.1 g3
        rw [hl.out] at m1 m2
        obtain ⟨kN, rfl⟩ : ∃ kN : Nat, k = kN := ⟨k.toNat, by omega⟩
        have HR : Hid (sentColumns key kN ch = (sentCs key ch m kN, true)) := by show _ = _; unfold sentColumns; rw [g1, g2, g3, hl.out]; rfl
        go_enter Try.func11, Try.ntmps11
        go_wp2_with (first | (go_at_call 41; refine (i_isKeyE _ _).mono ?_; rintro e w' ⟨rfl, rfl⟩) | (go_at_call 45; refine (i_isColumns _ _).mono ?_; rintro e w' ⟨rfl, rfl⟩) | (go_at_call 46; refine (i_areChosen _ _ _ ch _ h).mono ?_; rintro e w1 ⟨rfl, hb⟩) | (go_at_call 47; refine (i_sentColumns key kN _ m _ ch _ ⟨e1, e2⟩ (by omega) (by omega) (h.below hb) (by omega) mb).mono ?_; rintro e w2 ⟨r, c, rfl, hm2, hb2⟩))
        go_ret2
        rw [HR.out]
        exact RowsRetB.yes hm2 hb.size (bel_trans hb hb2)
set_option maxHeartbeats 1000000 in
theorem s_SentColumns (key k : Int) (a : Option Addr) (m cap : Nat) (ch : List Int) (w : World) (hkey : Fits key) (hk : Fits k) (h : Ints w a m cap ch) :
    Calls Try.prog 22 #[.int .i64 key, .int .i64 k, .slice a m cap] w fun e w' => RowsRetB (sentColumns key k ch) w e w' := by
  have hl := h.len; have hs := h.small
  cases g3 : chosB ch with
  | false =>
    have HR : Hid (sentColumns key k ch = ([], false)) := by show _ = _; unfold sentColumns; refine if_neg fun q => ?_; simp only [Bool.and_eq_true] at q; rw [g3] at q; cases q.2.2
    go_enter Try.func22, Try.ntmps22
    go_wp2_with (first | (go_at_call 77; refine (s_oxChoices _ _ _ ch _ h).mono ?_; rintro e w1 ⟨rfl, rfl⟩))
    all_goals
      go_ret2
      rw [HR.out]
      exact RowsRetB.no (Below.refl _ _)
  | true =>
    obtain ⟨⟨m1, m2⟩, mb⟩ := chosB_iff.1 g3
    rw [hl.out] at m1 m2
    have gm : inB (m : Int) 0 24 = true := inB_iff.2 ⟨m1, m2⟩
    cases g1 : keyE key with
    | false =>
      have HK : Hid ((keyE key && (inB k 1 8 && inB (m : Int) 0 24)) = false) := by show _ = _; rw [g1]; rfl
      have HR : Hid (sentColumns key k ch = ([], false)) := by show _ = _; unfold sentColumns; refine if_neg fun q => ?_; simp only [Bool.and_eq_true] at q; rw [g1] at q; cases q.1
      go_enter Try.func22, Try.ntmps22
      go_wp2_with (first | (go_at_call 77; refine (s_oxChoices _ _ _ ch _ h).mono ?_; rintro e w1 ⟨rfl, rfl⟩) | (go_at_call 78; refine (s_oxKey _ _ _ _).mono ?_; rintro e w1 ⟨rfl, rfl⟩; rw [HK.out]))
      all_goals
        go_ret2
        rw [HR.out]
        exact RowsRetB.no (Below.refl _ _)
    | true =>
      obtain ⟨e1, e2⟩ := inB_iff.1 g1
      cases g2 : inB k 1 8 with
      | false =>
        have HK : Hid ((keyE key && (inB k 1 8 && inB (m : Int) 0 24)) = false) := by show _ = _; rw [g1, g2]; rfl
        have HR : Hid (sentColumns key k ch = ([], false)) := by show _ = _; unfold sentColumns; refine if_neg fun q => ?_; simp only [Bool.and_eq_true] at q; rw [g2] at q; cases q.2.1
        go_enter Try.func22, Try.ntmps22
        go_wp2_with (first | (go_at_call 77; refine (s_oxChoices _ _ _ ch _ h).mono ?_; rintro e w1 ⟨rfl, rfl⟩) | (go_at_call 78; refine (s_oxKey _ _ _ _).mono ?_; rintro e w1 ⟨rfl, rfl⟩; rw [HK.out]))
        all_goals
          go_ret2
          rw [HR.out]
          exact RowsRetB.no (Below.refl _ _)
      | true =>
        obtain ⟨k1, k2⟩ := inB_iff.1 g2
        obtain ⟨kN, rfl⟩ : ∃ kN : Nat, k = kN := ⟨k.toNat, by omega⟩
        have HK : Hid ((keyE key && (inB (kN : Int) 1 8 && inB (m : Int) 0 24)) = true) := by show _ = _; rw [g1, g2, gm]; rfl
        have HR : Hid (sentColumns key kN ch = (sentCs key ch m kN, true)) := by show _ = _; unfold sentColumns; rw [g1, g2, g3, hl.out]; rfl
        go_enter Try.func22, Try.ntmps22
        go_wp2_with (first | (go_at_call 77; refine (s_oxChoices _ _ _ ch _ h).mono ?_; rintro e w1 ⟨rfl, rfl⟩) | (go_at_call 78; refine (s_oxKey _ _ _ _).mono ?_; rintro e w1 ⟨rfl, rfl⟩; rw [HK.out]) | (go_at_call 79; refine (s_oxSent key kN _ m _ ch _ ⟨e1, e2⟩ (by omega) h (by omega) mb).mono ?_; rintro e w2 ⟨r, c, rfl, hm2, hb2⟩))
        go_ret2
        rw [HR.out]
        exact RowsRetB.yes hm2 (Nat.le_refl _) hb2
end Go.Proofs.Ytfejpmfcognikaa
