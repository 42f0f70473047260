/-
  CountUnseen, both sides.
-/
import Derived.Test.YtfejpmfcognikaaGreatE12
namespace Go.Proofs.YtfejpmfcognikaaGreat
open Go.RowKit
set_option linter.unusedVariables false
set_option linter.unusedSimpArgs false
set_option maxRecDepth 100000

def unC (key : Int) (ch : List Int) (i : Int) (mask : List Int) (m k : Nat) : List (List Int) := bendN (sentCs key ch m k) i mask k
def unT (key : Int) (m k : Nat) : List (List Int) := turnL (seedCs key 0 m k) k m
def unQ (key : Int) (ch : List Int) (i : Int) (mask : List Int) (m k s : Nat) : List (List Int) := turnL (ownCs key (secL s k) (unC key ch i mask m k) m k) k m
def unP (ws : List (List Int)) (key : Int) (ch : List Int) (i : Int) (mask : List Int) (m k s : Nat) : Bool := passA (secL s k) ws ch (unT key m k) (unQ key ch i mask m k s)
def bE (b : Bool) : Int := if b then 1 else 0
theorem bE_bd (b : Bool) : 0 ≤ bE b ∧ bE b ≤ 1 := by cases b <;> simp [bE]
def unN (ws : List (List Int)) (key : Int) (ch : List Int) (i : Int) (mask : List Int) (m k : Nat) : Nat → Int
  | 0 => 0
  | s + 1 => unN ws key ch i mask m k s + bE (unP ws key ch i mask m k s)
theorem unN_bd (ws : List (List Int)) (key : Int) (ch : List Int) (i : Int) (mask : List Int) (m k : Nat) (s : Nat) : 0 ≤ unN ws key ch i mask m k s ∧ unN ws key ch i mask m k s ≤ s := by
  induction s with
  | zero => exact ⟨Int.le_refl _, Int.le_refl _⟩
  | succ s ih =>
    have := bE_bd (unP ws key ch i mask m k s)
    simp only [unN]; omega
def unB (k : Int) (ws : List (List Int)) (ch : List Int) (key i : Int) (mask : List Int) : Bool := inB k 1 8 && (chosB ch && (wtB ws ch.length && (keyE key && (inB i 0 (k - 1) && (decide (mask.length = ch.length) && bitsB mask)))))
theorem unB_iff {k : Int} {ws : List (List Int)} {ch : List Int} {key i : Int} {mask : List Int} : unB k ws ch key i mask = true ↔ inB k 1 8 = true ∧ chosB ch = true ∧ wtB ws ch.length = true ∧ keyE key = true ∧ inB i 0 (k - 1) = true ∧ mask.length = ch.length ∧ bitsB mask = true := by
  unfold unB; simp only [Bool.and_eq_true, decide_eq_true_iff]
def countUnseen (k : Int) (ws : List (List Int)) (ch : List Int) (key i : Int) (mask : List Int) : Int × Bool := if unB k ws ch key i mask then (unN ws key ch i mask ch.length k.toNat (2 ^ k.toNat), true) else (0, false)
theorem un_t {k : Int} {ws : List (List Int)} {ch : List Int} {key i : Int} {mask : List Int} (h : unB k ws ch key i mask = true) : countUnseen k ws ch key i mask = (unN ws key ch i mask ch.length k.toNat (2 ^ k.toNat), true) := by unfold countUnseen; rw [if_pos h]
theorem un_f {k : Int} {ws : List (List Int)} {ch : List Int} {key i : Int} {mask : List Int} (h : ¬ unB k ws ch key i mask = true) : countUnseen k ws ch key i mask = (0, false) := by unfold countUnseen; rw [if_neg h]
theorem unC_row (key : Int) {ch : List Int} (i : Int) (mask : List Int) (m k : Nat) : Hid (∀ j, j < k → (rowN (unC key ch i mask m k) j).length = m ∧ bitsB (rowN (unC key ch i mask m k) j) = true) := fun j hj => by
  unfold unC
  rw [rowN_bendN hj]
  refine ⟨by rw [bendC_len, rowN_sentCs hj, sentC_len], ?_⟩
  unfold bendC
  split
  · exact xrL_bits _ _ _
  · rw [rowN_sentCs hj]; exact sentC_bits _ _ _ _
theorem colAt_bitsE {cs : List (List Int)} {j t : Nat} (h : ∀ i, i < t → bitsB (rowN cs i) = true ∧ j < (rowN cs i).length) : bitsB (colAt cs j t) = true :=
  bitsB_mk fun i hi => by
    rw [colAt_len] at hi
    have : nth (colAt cs j t) i = nth (rowN cs i) j := by simp [nth, colAt, hi]
    rw [this]
    exact bitsB_nth (h i hi).1 (h i hi).2
theorem unT_row (key : Int) (m k : Nat) : Hid (∀ j, j < m → (rowN (unT key m k) j).length = k ∧ bitsB (rowN (unT key m k) j) = true) := fun j hj => by
  unfold unT
  rw [rowN_turnL hj]
  exact ⟨colAt_len _ _ _, colAt_bitsE fun i hi => by rw [rowN_seedCs hi, seedC_len]; exact ⟨seedC_bits _ _ _ _, hj⟩⟩
theorem unQ_row (key : Int) (ch : List Int) (i : Int) (mask : List Int) (m k s : Nat) : Hid (∀ j, j < m → (rowN (unQ key ch i mask m k s) j).length = k ∧ bitsB (rowN (unQ key ch i mask m k s) j) = true) := fun j hj => by
  unfold unQ
  rw [rowN_turnL hj]
  refine ⟨colAt_len _ _ _, colAt_bitsE fun t ht => ?_⟩
  rw [rowN_ownCs ht, ownC_len]
  refine ⟨?_, hj⟩
  unfold ownC
  split
  · exact xrL_bits _ _ _
  · exact seedC_bits _ _ _ _
theorem pow8 {k : Nat} (h : k ≤ 8) : 2 ^ k ≤ 256 := by
  have : 2 ^ k ≤ 2 ^ 8 := Nat.pow_le_pow_right (by omega) h
  exact this
theorem i_bitE (b : Bool) (w : World) : Calls Tryz.prog 43 #[.bool b] w fun e w' => e = .returned (.int .i64 (bE b)) ∧ w = w' := by
  cases b with
  | true =>
    go_enter Tryz.func43, Tryz.ntmps43
    go_wp2
    go_ret
    exact ⟨rfl, rfl⟩
  | false =>
    go_enter Tryz.func43, Tryz.ntmps43
    go_wp2
    go_ret
    exact ⟨rfl, rfl⟩

set_option maxHeartbeats 8000000 in
theorem i_CountUnseen (k : Int) (a : Option Addr) (n cap : Nat) (ws : List (List Int)) (a1 : Option Addr) (n1 cap1 : Nat) (ch : List Int) (key i : Int) (a2 : Option Addr) (n2 cap2 : Nat) (mask : List Int) (w : World) (hk : Fits k) (h : Rws w a n cap ws) (h1 : Ints w a1 n1 cap1 ch) (hkey : Fits key) (hi : Fits i) (h2 : Ints w a2 n2 cap2 mask) :
    Calls Tryz.prog 6 #[.int .i64 k, .slice a n cap, .slice a1 n1 cap1, .int .i64 key, .int .i64 i, .slice a2 n2 cap2] w fun e w' => e = .returned (.tuple #[.int .i64 (countUnseen k ws ch key i mask).1, .bool (countUnseen k ws ch key i mask).2]) ∧ Below w.heap.size w w' := by
  have hl := h.len; have hl1 := h1.len; have hl2 := h2.len
  have hs0 := h.small; have hs1 := h1.small; have hs2 := h2.small
  cases gk : inB k 1 8 with
  | false =>
    have HR := Lib.hid (un_f (k := k) (ws := ws) (ch := ch) (key := key) (i := i) (mask := mask) (fun q => by have q := unB_iff.1 q; rw [gk] at q; cases q.1))
    go_enter Tryz.func6, Tryz.ntmps6
    go_wp2_with fail
    refine (i_isColumns _ _).mono ?_; rintro e w0 ⟨rfl, rfl⟩
    go_wp2
    all_goals
      go_ret2
      rw [HR.out]
      exact ⟨rfl, Below.refl _ _⟩
  | true =>
    obtain ⟨k1, k2⟩ := inB_iff.1 gk
    obtain ⟨kN, rfl⟩ : ∃ kN : Nat, k = kN := ⟨k.toNat, by omega⟩
    have ek1 : IntKind.i64.wrap ((kN : Int) - 1) = (kN : Int) - 1 := IntWalk.i64_in _ (by omega)
    cases gc : chosB ch with
    | false =>
      have HR := Lib.hid (un_f (k := kN) (ws := ws) (ch := ch) (key := key) (i := i) (mask := mask) (fun q => by have q := unB_iff.1 q; rw [gc] at q; cases q.2.1))
      go_enter Tryz.func6, Tryz.ntmps6
      go_wp2_with fail
      refine (i_isColumns _ _).mono ?_; rintro e w0 ⟨rfl, rfl⟩
      go_wp2_with fail
      refine (i_areChosen _ _ _ ch _ h1).mono ?_; rintro e w1 ⟨rfl, hb1⟩
      go_wp2
      all_goals
        go_ret2
        rw [HR.out]
        exact ⟨rfl, hb1⟩
    | true =>
      obtain ⟨⟨m1, m2⟩, mb⟩ := chosB_iff.1 gc
      rw [hl1.out] at m1 m2
      cases gw : wtB ws n1 with
      | false =>
        have HR := Lib.hid (un_f (k := kN) (ws := ws) (ch := ch) (key := key) (i := i) (mask := mask) (fun q => by have q := unB_iff.1 q; rw [hl1.out, gw] at q; cases q.2.2.1))
        go_enter Tryz.func6, Tryz.ntmps6
        go_wp2_with fail
        refine (i_isColumns _ _).mono ?_; rintro e w0 ⟨rfl, rfl⟩
        go_wp2_with fail
        refine (i_areChosen _ _ _ ch _ h1).mono ?_; rintro e w1 ⟨rfl, hb1⟩
        go_wp2_with fail
        refine (i_areWeights _ _ _ ws _ _ (h.below hb1)).mono ?_; rintro e w2 ⟨rfl, hb2⟩; have B2 := bel_trans hb1 hb2; clear hb2
        go_wp2
        all_goals
          go_ret2
          rw [HR.out]
          exact ⟨rfl, B2⟩
      | true =>
        cases gy : keyE key with
        | false =>
          have HR := Lib.hid (un_f (k := kN) (ws := ws) (ch := ch) (key := key) (i := i) (mask := mask) (fun q => by have q := unB_iff.1 q; rw [gy] at q; cases q.2.2.2.1))
          go_enter Tryz.func6, Tryz.ntmps6
          go_wp2_with fail
          refine (i_isColumns _ _).mono ?_; rintro e w0 ⟨rfl, rfl⟩
          go_wp2_with fail
          refine (i_areChosen _ _ _ ch _ h1).mono ?_; rintro e w1 ⟨rfl, hb1⟩
          go_wp2_with fail
          refine (i_areWeights _ _ _ ws _ _ (h.below hb1)).mono ?_; rintro e w2 ⟨rfl, hb2⟩; have B2 := bel_trans hb1 hb2; clear hb2
          go_wp2_with fail
          refine (i_isKeyE _ _).mono ?_; rintro e w0 ⟨rfl, rfl⟩
          go_wp2
          all_goals
            go_ret2
            rw [HR.out]
            exact ⟨rfl, B2⟩
        | true =>
          obtain ⟨y1, y2⟩ := inB_iff.1 (show inB key 0 1000000000 = true from gy)
          cases gi : inB i 0 ((kN : Int) - 1) with
          | false =>
            have HR := Lib.hid (un_f (k := kN) (ws := ws) (ch := ch) (key := key) (i := i) (mask := mask) (fun q => by have q := unB_iff.1 q; rw [gi] at q; cases q.2.2.2.2.1))
            go_enter Tryz.func6, Tryz.ntmps6
            go_wp2_with fail
            refine (i_isColumns _ _).mono ?_; rintro e w0 ⟨rfl, rfl⟩
            go_wp2_with fail
            refine (i_areChosen _ _ _ ch _ h1).mono ?_; rintro e w1 ⟨rfl, hb1⟩
            go_wp2_with fail
            refine (i_areWeights _ _ _ ws _ _ (h.below hb1)).mono ?_; rintro e w2 ⟨rfl, hb2⟩; have B2 := bel_trans hb1 hb2; clear hb2
            go_wp2_with fail
            refine (i_isKeyE _ _).mono ?_; rintro e w0 ⟨rfl, rfl⟩
            go_wp2_with fail
            refine (i_within _ _ _ _).mono ?_; rintro e w0 ⟨rfl, rfl⟩
            go_wp2
            all_goals
              go_ret2
              rw [HR.out]
              exact ⟨rfl, B2⟩
          | true =>
            by_cases elm : n2 = n1
            rotate_left
            · have hxb : ((n2 : Int) != (n1 : Int)) = true := by simp; omega
              have hxc : ((n2 : Int) == (n1 : Int)) = false := by simp; omega
              have HR := Lib.hid (un_f (k := kN) (ws := ws) (ch := ch) (key := key) (i := i) (mask := mask) (fun q => by have q := unB_iff.1 q; have e := q.2.2.2.2.2.1; rw [hl2.out, hl1.out] at e; omega))
              go_enter Tryz.func6, Tryz.ntmps6
              go_wp2_with fail
              refine (i_isColumns _ _).mono ?_; rintro e w0 ⟨rfl, rfl⟩
              go_wp2_with fail
              refine (i_areChosen _ _ _ ch _ h1).mono ?_; rintro e w1 ⟨rfl, hb1⟩
              go_wp2_with fail
              refine (i_areWeights _ _ _ ws _ _ (h.below hb1)).mono ?_; rintro e w2 ⟨rfl, hb2⟩; have B2 := bel_trans hb1 hb2; clear hb2
              go_wp2_with fail
              refine (i_isKeyE _ _).mono ?_; rintro e w0 ⟨rfl, rfl⟩
              go_wp2_with fail
              refine (i_within _ _ _ _).mono ?_; rintro e w0 ⟨rfl, rfl⟩
              go_wp2
              all_goals
                go_ret2
                rw [HR.out]
                exact ⟨rfl, B2⟩
            subst elm
            cases gm : bitsB mask with
            | false =>
              have HR := Lib.hid (un_f (k := kN) (ws := ws) (ch := ch) (key := key) (i := i) (mask := mask) (fun q => by have q := unB_iff.1 q; rw [gm] at q; cases q.2.2.2.2.2.2))
              go_enter Tryz.func6, Tryz.ntmps6
              go_wp2_with fail
              refine (i_isColumns _ _).mono ?_; rintro e w0 ⟨rfl, rfl⟩
              go_wp2_with fail
              refine (i_areChosen _ _ _ ch _ h1).mono ?_; rintro e w1 ⟨rfl, hb1⟩
              go_wp2_with fail
              refine (i_areWeights _ _ _ ws _ _ (h.below hb1)).mono ?_; rintro e w2 ⟨rfl, hb2⟩; have B2 := bel_trans hb1 hb2; clear hb2
              go_wp2_with fail
              refine (i_isKeyE _ _).mono ?_; rintro e w0 ⟨rfl, rfl⟩
              go_wp2_with fail
              refine (i_within _ _ _ _).mono ?_; rintro e w0 ⟨rfl, rfl⟩
              go_wp2_with fail
              refine (i_allBits _ _ _ mask _ (h2.below B2)).mono ?_; rintro e w3 ⟨rfl, hb3⟩; have B3 := bel_trans B2 hb3; clear hb3
              go_wp2
              all_goals
                go_ret2
                rw [HR.out]
                exact ⟨rfl, B3⟩
            | true =>
              obtain ⟨N, hN⟩ : ∃ N, N = 2 ^ kN := ⟨_, rfl⟩
              have hN256 : N ≤ 256 := by rw [hN]; exact pow8 (by omega)
              have HR : Hid (countUnseen kN ws ch key i mask = (unN ws key ch i mask n2 kN N, true)) := by
                show _ = _
                rw [un_t (unB_iff.2 ⟨gk, gc, by rw [hl1.out]; exact gw, gy, gi, by rw [hl2.out, hl1.out], gm⟩), hl1.out, hN]; rfl
              have HW : Hid (∀ j, j < n → (rowN ws j).length = n2 ∧ bitsB (rowN ws j) = true) := fun j hj => by have := listsB_at (wtB_iff.1 gw).2 (i := j) (by rw [hl.out]; exact hj); exact ⟨by omega, this.2⟩
              have hMB : bitsB mask = true := gm
              have hm24 : n2 ≤ 24 := by omega
              have hk8 : kN ≤ 8 := by omega
              have hk1 : 1 ≤ kN := by omega
              have hpow : ((2 : Int) ^ kN) = (N : Int) := by rw [hN]; push_cast; rfl
              have ew1 : IntKind.i64.wrap ((2 : Int) ^ kN) = (N : Int) := by rw [hpow]; exact IntWalk.i64_in _ (by omega)
              have ew2 : wrap64 ((2 : Int) ^ kN) = (N : Int) := by first | exact ew1 | (rw [← i64_is]; exact ew1) | (rw [hpow]; unfold wrap64; omega)
              clear hN
              go_enter Tryz.func6, Tryz.ntmps6
              go_wp2_with fail
              refine (i_isColumns _ _).mono ?_; rintro e w0 ⟨rfl, rfl⟩
              go_wp2_with fail
              refine (i_areChosen _ _ _ ch _ h1).mono ?_; rintro e w1 ⟨rfl, hb1⟩
              go_wp2_with fail
              refine (i_areWeights _ _ _ ws _ _ (h.below hb1)).mono ?_; rintro e w2 ⟨rfl, hb2⟩; have B2 := bel_trans hb1 hb2; clear hb2
              go_wp2_with fail
              refine (i_isKeyE _ _).mono ?_; rintro e w0 ⟨rfl, rfl⟩
              go_wp2_with fail
              refine (i_within _ _ _ _).mono ?_; rintro e w0 ⟨rfl, rfl⟩
              go_wp2_with fail
              refine (i_allBits _ _ _ mask _ (h2.below B2)).mono ?_; rintro e w3 ⟨rfl, hb3⟩; have B3 := bel_trans B2 hb3; clear hb3
              have HB0 := Lib.hid B3
              clear hb1 B2 B3
              have HH := Lib.hid h; have HH1 := Lib.hid h1; have HH2 := Lib.hid h2; clear h h1 h2
              go_wp2_with fail
              refine (i_sentColumns key kN _ n2 _ ch _ ⟨y1, y2⟩ hk1 hk8 (HH1.out.below HB0.out) hm24 mb).mono ?_; rintro e w5 ⟨r5, c5, rfl, hm5, hb5⟩; rw [sentCs_len] at hm5 ⊢
              go_wp2_with fail
              refine (i_bendColumns _ kN _ (sentCs key ch n2 kN) i _ n2 _ mask _ hm5.rows (HH2.out.below (bel_trans HB0.out hb5)) (by omega) (by omega) (fun j hj => by rw [rowN_sentCs hj]; exact ⟨sentC_len _ _ _ _, sentC_bits _ _ _ _⟩) hMB).mono ?_; rintro e w6 ⟨r6, c6, rfl, hm6, hb6⟩; rw [bendN_len] at hm6 ⊢
              go_wp2_with fail
              refine (i_seedColumns key 0 kN n2 _ ⟨y1, y2⟩ (by omega) (by omega) (by omega)).mono ?_; rintro e w7 ⟨r7, c7, rfl, hm7, hb7⟩; rw [seedCs_len] at hm7 ⊢
              go_wp2_with fail
              refine (i_rowsOf _ kN _ (seedCs key 0 n2 kN) n2 _ hm7.rows (by omega) (by omega) (fun j hj => by rw [rowN_seedCs hj, seedC_len]; exact Nat.le_refl _)).mono ?_; rintro e w8 ⟨r8, c8, rfl, hm8, hb8⟩; rw [turnL_len] at hm8 ⊢
              have B8 := bel_trans (bel_trans (bel_trans hb5 hb6) hb7) hb8
              have HC : Hid (Rws w8 r6 kN c6 (unC key ch i mask n2 kN)) := hm6.rows.below (bel_trans hb7 hb8)
              have HT : Hid (Rws w8 r8 n2 c8 (unT key n2 kN)) := hm8.rows
              have HB8 := Lib.hid (bel_trans HB0.out B8)
              have HWS := Lib.hid (HH.out.below HB8.out); have HCH := Lib.hid (HH1.out.below HB8.out)
              clear hm5 hb5 hm6 hb6 hm7 hb7 hm8 hb8 B8 HB0 HH HH1 HH2
              go_wp2
              go_loopw [18, 77] (fun v i0 wr => ∃ t : Nat, t ≤ N ∧ i0 = .int .i64 t ∧ v = .int .i64 (unN ws key ch i mask n2 kN t) ∧ Hid (Below w8.heap.size w8 wr)) (fun _ i0 _ => N - (intOf i0).toNat)
              case atStart => exact ⟨0, by omega, rfl, rfl, (show Hid _ from Below.refl _ _)⟩
              case round =>
                obtain ⟨t, ht, rfl, rfl, HB⟩ := hrel
                obtain ⟨wo, rfl⟩ : ∃ wo : World, wo = wr := ⟨_, rfl⟩
                have hub := unN_bd ws key ch i mask n2 kN t
                have hbb := bE_bd (unP ws key ch i mask n2 kN t)
                obtain ⟨u1, u2⟩ := hub; obtain ⟨v1, v2⟩ := hbb
                by_cases hlt : t < N
                · have hlti : (t : Int) < (N : Int) := by omega
                  have HS : Hid (unN ws key ch i mask n2 kN (t + 1) = unN ws key ch i mask n2 kN t + bE (unP ws key ch i mask n2 kN t)) := rfl
                  have e1 : IntKind.i64.wrap (unN ws key ch i mask n2 kN t + bE (unP ws key ch i mask n2 kN t)) = unN ws key ch i mask n2 kN t + bE (unP ws key ch i mask n2 kN t) := IntWalk.i64_in _ (by omega)
                  go_wp2_with fail
                  refine (i_bitsOf t kN _ (by omega) hk8).mono ?_; rintro e wa ⟨ra, ca, rfl, hma, hba⟩
                  go_wp2_with fail
                  refine (i_senderRows key _ kN _ (secL t kN) _ kN _ (unC key ch i mask n2 kN) n2 _ ⟨y1, y2⟩ hma.ints (HC.out.below (bel_trans HB.out hba)) hk8 hk1 rfl hm24 (secL_bits _ _) (unC_row key i mask n2 kN)).mono ?_; rintro e wb ⟨rb, cb, rfl, hmb, hbb⟩; rw [turnL_len] at hmb ⊢
                  have BB := bel_trans HB.out (bel_trans hba hbb)
                  go_wp2_with fail
                  refine (i_passes _ _ _ (secL t kN) _ _ _ ws _ _ _ ch _ _ _ (unT key n2 kN) _ _ _ (unQ key ch i mask n2 kN t) _ (hma.ints.below hbb) (HWS.out.below BB) (HCH.out.below BB) (HT.out.below BB) hmb.rows ⟨hk1, hk8⟩ hm24 rfl rfl (secL_bits _ _) mb HW.out (unT_row _ _ _).out (unQ_row _ _ _ _ _ _ _).out).mono ?_; rintro e wc ⟨rfl, hbc⟩
                  have HBC := Lib.hid (bel_trans BB hbc)
                  clear hma hba hmb hbb hbc BB
                  go_wp2_with fail
                  refine (i_bitE (unP ws key ch i mask n2 kN t) _).mono ?_; rintro e wd ⟨rfl, rfl⟩
                  go_wp2
                  go_roundw
                  case rel => exact ⟨t + 1, by omega, by go_num, by rw [HS.out], HBC.out⟩
                  case measure => simp [intOf]; omega
                · obtain rfl : N = t := by omega
                  go_wp2
                  go_ret2
                  rw [HR.out]
                  exact ⟨rfl, bel_trans HB8.out HB.out⟩
set_option maxHeartbeats 8000000 in
theorem s_CountUnseen (k : Int) (a : Option Addr) (n cap : Nat) (ws : List (List Int)) (a1 : Option Addr) (n1 cap1 : Nat) (ch : List Int) (key i : Int) (a2 : Option Addr) (n2 cap2 : Nat) (mask : List Int) (w : World) (hk : Fits k) (h : Rws w a n cap ws) (h1 : Ints w a1 n1 cap1 ch) (hkey : Fits key) (hi : Fits i) (h2 : Ints w a2 n2 cap2 mask) :
    Calls Tryz.prog 7 #[.int .i64 k, .slice a n cap, .slice a1 n1 cap1, .int .i64 key, .int .i64 i, .slice a2 n2 cap2] w fun e w' => e = .returned (.tuple #[.int .i64 (countUnseen k ws ch key i mask).1, .bool (countUnseen k ws ch key i mask).2]) ∧ Below w.heap.size w w' := by
  have hl := h.len; have hl1 := h1.len; have hl2 := h2.len
  have hs0 := h.small; have hs1 := h1.small; have hs2 := h2.small
  cases gc : chosB ch with
  | false =>
    have HR := Lib.hid (un_f (k := k) (ws := ws) (ch := ch) (key := key) (i := i) (mask := mask) (fun q => by have q := unB_iff.1 q; rw [gc] at q; cases q.2.1))
    go_enter Tryz.func7, Tryz.ntmps7
    go_wp2_with fail
    refine (s_oxChoices _ _ _ ch _ h1).mono ?_; rintro e w1 ⟨rfl, rfl⟩
    go_wp2
    all_goals
      go_ret2
      rw [HR.out]
      exact ⟨rfl, Below.refl _ _⟩
  | true =>
    obtain ⟨⟨m1, m2⟩, mb⟩ := chosB_iff.1 gc
    rw [hl1.out] at m1 m2
    cases gy : keyE key with
    | false =>
      have HK : Hid ((keyE key && (inB k 1 8 && inB (n1 : Int) 0 24)) = false) := by show _ = _; rw [gy]; rfl
      have HR := Lib.hid (un_f (k := k) (ws := ws) (ch := ch) (key := key) (i := i) (mask := mask) (fun q => by have q := unB_iff.1 q; rw [gy] at q; cases q.2.2.2.1))
      go_enter Tryz.func7, Tryz.ntmps7
      go_wp2_with fail
      refine (s_oxChoices _ _ _ ch _ h1).mono ?_; rintro e w1 ⟨rfl, rfl⟩
      go_wp2_with fail
      refine (s_oxKey _ _ _ _).mono ?_; rintro e w1 ⟨rfl, rfl⟩; rw [HK.out]
      go_wp2
      all_goals
        go_ret2
        rw [HR.out]
        exact ⟨rfl, Below.refl _ _⟩
    | true =>
      obtain ⟨y1, y2⟩ := inB_iff.1 (show inB key 0 1000000000 = true from gy)
      cases gk : inB k 1 8 with
      | false =>
        have HK : Hid ((keyE key && (inB k 1 8 && inB (n1 : Int) 0 24)) = false) := by show _ = _; rw [gy, gk]; rfl
        have HR := Lib.hid (un_f (k := k) (ws := ws) (ch := ch) (key := key) (i := i) (mask := mask) (fun q => by have q := unB_iff.1 q; rw [gk] at q; cases q.1))
        go_enter Tryz.func7, Tryz.ntmps7
        go_wp2_with fail
        refine (s_oxChoices _ _ _ ch _ h1).mono ?_; rintro e w1 ⟨rfl, rfl⟩
        go_wp2_with fail
        refine (s_oxKey _ _ _ _).mono ?_; rintro e w1 ⟨rfl, rfl⟩; rw [HK.out]
        go_wp2
        all_goals
          go_ret2
          rw [HR.out]
          exact ⟨rfl, Below.refl _ _⟩
      | true =>
        obtain ⟨k1, k2⟩ := inB_iff.1 gk
        obtain ⟨kN, rfl⟩ : ∃ kN : Nat, k = kN := ⟨k.toNat, by omega⟩
        have ek1 : IntKind.i64.wrap ((kN : Int) - 1) = (kN : Int) - 1 := IntWalk.i64_in _ (by omega)
        have HK : Hid ((keyE key && (inB (kN : Int) 1 8 && inB (n1 : Int) 0 24)) = true) := by show _ = _; rw [gy, gk, inB_iff.2 ⟨m1, m2⟩]; rfl
        cases gw : wtB ws n1 with
        | false =>
          have HR := Lib.hid (un_f (k := kN) (ws := ws) (ch := ch) (key := key) (i := i) (mask := mask) (fun q => by have q := unB_iff.1 q; rw [hl1.out, gw] at q; cases q.2.2.1))
          go_enter Tryz.func7, Tryz.ntmps7
          go_wp2_with fail
          refine (s_oxChoices _ _ _ ch _ h1).mono ?_; rintro e w1 ⟨rfl, rfl⟩
          go_wp2_with fail
          refine (s_oxKey _ _ _ _).mono ?_; rintro e w1 ⟨rfl, rfl⟩; rw [HK.out]
          go_wp2_with fail
          refine (s_oxWeights _ _ _ ws _ _ h (by omega)).mono ?_; rintro e w1 ⟨rfl, rfl⟩
          go_wp2
          all_goals
            go_ret2
            rw [HR.out]
            exact ⟨rfl, Below.refl _ _⟩
        | true =>
          cases gi : inB i 0 ((kN : Int) - 1) with
          | false =>
            have HR := Lib.hid (un_f (k := kN) (ws := ws) (ch := ch) (key := key) (i := i) (mask := mask) (fun q => by have q := unB_iff.1 q; rw [gi] at q; cases q.2.2.2.2.1))
            go_enter Tryz.func7, Tryz.ntmps7
            go_wp2_with fail
            refine (s_oxChoices _ _ _ ch _ h1).mono ?_; rintro e w1 ⟨rfl, rfl⟩
            go_wp2_with fail
            refine (s_oxKey _ _ _ _).mono ?_; rintro e w1 ⟨rfl, rfl⟩; rw [HK.out]
            go_wp2_with fail
            refine (s_oxWeights _ _ _ ws _ _ h (by omega)).mono ?_; rintro e w1 ⟨rfl, rfl⟩
            go_wp2_with fail
            refine (s_l1In _ _ _ _).mono ?_; rintro e w0 ⟨rfl, rfl⟩
            go_wp2
            all_goals
              go_ret2
              rw [HR.out]
              exact ⟨rfl, Below.refl _ _⟩
          | true =>
            cases gm : chosB mask with
            | false =>
              have HR := Lib.hid (un_f (k := kN) (ws := ws) (ch := ch) (key := key) (i := i) (mask := mask) (fun q => by have q := unB_iff.1 q; have := chosB_iff.2 ⟨by rw [q.2.2.2.2.2.1]; exact (chosB_iff.1 q.2.1).1, q.2.2.2.2.2.2⟩; rw [gm] at this; cases this))
              go_enter Tryz.func7, Tryz.ntmps7
              go_wp2_with fail
              refine (s_oxChoices _ _ _ ch _ h1).mono ?_; rintro e w1 ⟨rfl, rfl⟩
              go_wp2_with fail
              refine (s_oxKey _ _ _ _).mono ?_; rintro e w1 ⟨rfl, rfl⟩; rw [HK.out]
              go_wp2_with fail
              refine (s_oxWeights _ _ _ ws _ _ h (by omega)).mono ?_; rintro e w1 ⟨rfl, rfl⟩
              go_wp2_with fail
              refine (s_l1In _ _ _ _).mono ?_; rintro e w0 ⟨rfl, rfl⟩
              go_wp2_with fail
              refine (s_oxChoices _ _ _ mask _ h2).mono ?_; rintro e w1 ⟨rfl, rfl⟩
              go_wp2
              all_goals
                go_ret2
                rw [HR.out]
                exact ⟨rfl, Below.refl _ _⟩
            | true =>
              by_cases elm : n2 = n1
              rotate_left
              · have hxb : ((n2 : Int) != (n1 : Int)) = true := by simp; omega
                have hxc : ((n2 : Int) == (n1 : Int)) = false := by simp; omega
                have HR := Lib.hid (un_f (k := kN) (ws := ws) (ch := ch) (key := key) (i := i) (mask := mask) (fun q => by have q := unB_iff.1 q; have e := q.2.2.2.2.2.1; rw [hl2.out, hl1.out] at e; omega))
                go_enter Tryz.func7, Tryz.ntmps7
                go_wp2_with fail
                refine (s_oxChoices _ _ _ ch _ h1).mono ?_; rintro e w1 ⟨rfl, rfl⟩
                go_wp2_with fail
                refine (s_oxKey _ _ _ _).mono ?_; rintro e w1 ⟨rfl, rfl⟩; rw [HK.out]
                go_wp2_with fail
                refine (s_oxWeights _ _ _ ws _ _ h (by omega)).mono ?_; rintro e w1 ⟨rfl, rfl⟩
                go_wp2_with fail
                refine (s_l1In _ _ _ _).mono ?_; rintro e w0 ⟨rfl, rfl⟩
                go_wp2_with fail
                refine (s_oxChoices _ _ _ mask _ h2).mono ?_; rintro e w1 ⟨rfl, rfl⟩
                go_wp2
                all_goals
                  go_ret2
                  rw [HR.out]
                  exact ⟨rfl, Below.refl _ _⟩
              subst elm
              obtain ⟨N, hN⟩ : ∃ N, N = 2 ^ kN := ⟨_, rfl⟩
              have hN256 : N ≤ 256 := by rw [hN]; exact pow8 (by omega)
              have HR : Hid (countUnseen kN ws ch key i mask = (unN ws key ch i mask n2 kN N, true)) := by
                show _ = _
                rw [un_t (unB_iff.2 ⟨gk, gc, by rw [hl1.out]; exact gw, gy, gi, by rw [hl2.out, hl1.out], (chosB_iff.1 gm).2⟩), hl1.out, hN]; rfl
              have HW : Hid (∀ j, j < n → (rowN ws j).length = n2 ∧ bitsB (rowN ws j) = true) := fun j hj => by have := listsB_at (wtB_iff.1 gw).2 (i := j) (by rw [hl.out]; exact hj); exact ⟨by omega, this.2⟩
              have hMB : bitsB mask = true := (chosB_iff.1 gm).2
              have hm24 : n2 ≤ 24 := by omega
              have hk8 : kN ≤ 8 := by omega
              have hk1 : 1 ≤ kN := by omega
              have hpow : ((2 : Int) ^ kN) = (N : Int) := by rw [hN]; push_cast; rfl
              have ew1 : IntKind.i64.wrap ((2 : Int) ^ kN) = (N : Int) := by rw [hpow]; exact IntWalk.i64_in _ (by omega)
              have ew2 : wrap64 ((2 : Int) ^ kN) = (N : Int) := by first | exact ew1 | (rw [← i64_is]; exact ew1) | (rw [hpow]; unfold wrap64; omega)
              clear hN
              go_enter Tryz.func7, Tryz.ntmps7
              go_wp2_with fail
              refine (s_oxChoices _ _ _ ch _ h1).mono ?_; rintro e w1 ⟨rfl, rfl⟩
              go_wp2_with fail
              refine (s_oxKey _ _ _ _).mono ?_; rintro e w1 ⟨rfl, rfl⟩; rw [HK.out]
              go_wp2_with fail
              refine (s_oxWeights _ _ _ ws _ _ h (by omega)).mono ?_; rintro e w1 ⟨rfl, rfl⟩
              go_wp2_with fail
              refine (s_l1In _ _ _ _).mono ?_; rintro e w0 ⟨rfl, rfl⟩
              go_wp2_with fail
              refine (s_oxChoices _ _ _ mask _ h2).mono ?_; rintro e w1 ⟨rfl, rfl⟩
              have HB0 := Lib.hid (Below.refl w.heap.size w)
              have HH := Lib.hid h; have HH1 := Lib.hid h1; have HH2 := Lib.hid h2; clear h h1 h2
              go_wp2_with fail
              refine (s_oxSent key kN _ n2 _ ch _ ⟨y1, y2⟩ hk8 (HH1.out.below HB0.out) hm24 mb).mono ?_; rintro e w5 ⟨r5, c5, rfl, hm5, hb5⟩; rw [sentCs_len] at hm5 ⊢
              go_wp2_with fail
              refine (s_oxBend _ kN _ (sentCs key ch n2 kN) i _ n2 _ mask _ hm5.rows (HH2.out.below (bel_trans HB0.out hb5)) (by omega) (by omega) (fun j hj => by rw [rowN_sentCs hj]; exact ⟨sentC_len _ _ _ _, sentC_bits _ _ _ _⟩) hMB).mono ?_; rintro e w6 ⟨r6, c6, rfl, hm6, hb6⟩; rw [bendN_len] at hm6 ⊢
              go_wp2_with fail
              refine (s_oxSeeds key 0 kN n2 _ ⟨y1, y2⟩ (by omega) (by omega) (by omega)).mono ?_; rintro e w7 ⟨r7, c7, rfl, hm7, hb7⟩; rw [seedCs_len] at hm7 ⊢
              go_wp2_with fail
              refine (s_oxTurn _ kN _ (seedCs key 0 n2 kN) n2 _ hm7.rows (by omega) (by omega) (fun j hj => by rw [rowN_seedCs hj, seedC_len]; exact Nat.le_refl _)).mono ?_; rintro e w8 ⟨r8, c8, rfl, hm8, hb8⟩; rw [turnL_len] at hm8 ⊢
              have B8 := bel_trans (bel_trans (bel_trans hb5 hb6) hb7) hb8
              have HC : Hid (Rws w8 r6 kN c6 (unC key ch i mask n2 kN)) := hm6.rows.below (bel_trans hb7 hb8)
              have HT : Hid (Rws w8 r8 n2 c8 (unT key n2 kN)) := hm8.rows
              have HB8 := Lib.hid (bel_trans HB0.out B8)
              have HWS := Lib.hid (HH.out.below HB8.out); have HCH := Lib.hid (HH1.out.below HB8.out)
              clear hm5 hb5 hm6 hb6 hm7 hb7 hm8 hb8 B8 HB0 HH HH1 HH2
              go_wp2
              go_loopw [17, 18] (fun v i0 wr => ∃ t : Nat, t ≤ N ∧ i0 = .int .i64 t ∧ v = .int .i64 (unN ws key ch i mask n2 kN t) ∧ Hid (Below w8.heap.size w8 wr)) (fun _ i0 _ => N - (intOf i0).toNat)
              case atStart => exact ⟨0, by omega, rfl, rfl, (show Hid _ from Below.refl _ _)⟩
              case round =>
                obtain ⟨t, ht, rfl, rfl, HB⟩ := hrel
                obtain ⟨wo, rfl⟩ : ∃ wo : World, wo = wr := ⟨_, rfl⟩
                have hub := unN_bd ws key ch i mask n2 kN t
                have hbb := bE_bd (unP ws key ch i mask n2 kN t)
                obtain ⟨u1, u2⟩ := hub; obtain ⟨v1, v2⟩ := hbb
                by_cases hlt : t < N
                · have hlti : (t : Int) < (N : Int) := by omega
                  cases hp : unP ws key ch i mask n2 kN t with
                  | false =>
                    have HS : Hid (unN ws key ch i mask n2 kN (t + 1) = unN ws key ch i mask n2 kN t + 0) := by show unN ws key ch i mask n2 kN t + bE (unP ws key ch i mask n2 kN t) = _; rw [hp]; rfl
                    have HP : Hid (passA (secL t kN) ws ch (unT key n2 kN) (unQ key ch i mask n2 kN t) = false) := hp
                    clear hp
                    go_wp2_with fail
                    refine (s_btOf t kN _ (by omega) hk8).mono ?_; rintro e wa ⟨ra, ca, rfl, hma, hba⟩
                    go_wp2_with fail
                    refine (s_oxSender key _ kN _ (secL t kN) _ kN _ (unC key ch i mask n2 kN) n2 _ ⟨y1, y2⟩ hma.ints (HC.out.below (bel_trans HB.out hba)) hk8 hk1 rfl hm24 (secL_bits _ _) (unC_row key i mask n2 kN)).mono ?_; rintro e wb ⟨rb, cb, rfl, hmb, hbb⟩; rw [turnL_len] at hmb ⊢
                    have BB := bel_trans HB.out (bel_trans hba hbb)
                    go_wp2_with fail
                    refine (s_oxPasses _ _ _ (secL t kN) _ _ _ ws _ _ _ ch _ _ _ (unT key n2 kN) _ _ _ (unQ key ch i mask n2 kN t) _ (hma.ints.below hbb) (HWS.out.below BB) (HCH.out.below BB) (HT.out.below BB) hmb.rows ⟨hk1, hk8⟩ hm24 rfl rfl (secL_bits _ _) mb HW.out (unT_row _ _ _).out (unQ_row _ _ _ _ _ _ _).out).mono ?_; rintro e wc ⟨rfl, hbc⟩
                    have HBC := Lib.hid (bel_trans BB hbc)
                    clear hma hba hmb hbb hbc BB
                    rw [HP.out]
                    go_wp2
                    go_roundw
                    case rel => exact ⟨t + 1, by omega, by go_num, (by first | (rw [HS.out]; rfl) | (rw [HS.out]; simp; done) | (rw [HS.out]; done) | (rw [HS.out]; go_num)), HBC.out⟩
                    case measure => simp [intOf]; omega
                  | true =>
                    have HS : Hid (unN ws key ch i mask n2 kN (t + 1) = unN ws key ch i mask n2 kN t + 1) := by show unN ws key ch i mask n2 kN t + bE (unP ws key ch i mask n2 kN t) = _; rw [hp]; rfl
                    have HP : Hid (passA (secL t kN) ws ch (unT key n2 kN) (unQ key ch i mask n2 kN t) = true) := hp
                    clear hp
                    go_wp2_with fail
                    refine (s_btOf t kN _ (by omega) hk8).mono ?_; rintro e wa ⟨ra, ca, rfl, hma, hba⟩
                    go_wp2_with fail
                    refine (s_oxSender key _ kN _ (secL t kN) _ kN _ (unC key ch i mask n2 kN) n2 _ ⟨y1, y2⟩ hma.ints (HC.out.below (bel_trans HB.out hba)) hk8 hk1 rfl hm24 (secL_bits _ _) (unC_row key i mask n2 kN)).mono ?_; rintro e wb ⟨rb, cb, rfl, hmb, hbb⟩; rw [turnL_len] at hmb ⊢
                    have BB := bel_trans HB.out (bel_trans hba hbb)
                    go_wp2_with fail
                    refine (s_oxPasses _ _ _ (secL t kN) _ _ _ ws _ _ _ ch _ _ _ (unT key n2 kN) _ _ _ (unQ key ch i mask n2 kN t) _ (hma.ints.below hbb) (HWS.out.below BB) (HCH.out.below BB) (HT.out.below BB) hmb.rows ⟨hk1, hk8⟩ hm24 rfl rfl (secL_bits _ _) mb HW.out (unT_row _ _ _).out (unQ_row _ _ _ _ _ _ _).out).mono ?_; rintro e wc ⟨rfl, hbc⟩
                    have HBC := Lib.hid (bel_trans BB hbc)
                    clear hma hba hmb hbb hbc BB
                    rw [HP.out]
                    go_wp2
                    go_roundw
                    case rel => exact ⟨t + 1, by omega, by go_num, (by first | (rw [HS.out]; rfl) | (rw [HS.out]; simp; done) | (rw [HS.out]; done) | (rw [HS.out]; go_num)), HBC.out⟩
                    case measure => simp [intOf]; omega
                · obtain rfl : N = t := by omega
                  go_wp2
                  go_ret2
                  rw [HR.out]
                  exact ⟨rfl, bel_trans HB8.out HB.out⟩
end Go.Proofs.YtfejpmfcognikaaGreat
