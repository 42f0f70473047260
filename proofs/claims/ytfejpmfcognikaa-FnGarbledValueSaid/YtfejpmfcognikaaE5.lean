/-
  SenderRows and BendColumns, both sides.
-/
import Derived.Test.YtfejpmfcognikaaE4
namespace Go.Proofs.Ytfejpmfcognikaa
open Go.RowKit
set_option linter.unusedVariables false
set_option linter.unusedSimpArgs false

/-- A sender's column; its columns; what is valid. -/
def ownC (key : Int) (s : List Int) (cs : List (List Int)) (m i : Nat) : List Int := if nth s i = 1 then xrL (seedC key i (nth s i) m) (rowN cs i) m else seedC key i (nth s i) m
def ownCs (key : Int) (s : List Int) (cs : List (List Int)) (m t : Nat) : List (List Int) := (List.range t).map (ownC key s cs m)
theorem ownCs_succ (key : Int) (s : List Int) (cs : List (List Int)) (m t : Nat) : ownCs key s cs m (t + 1) = ownCs key s cs m t ++ [ownC key s cs m t] := by simp [ownCs, List.range_succ]
theorem ownCs_len (key : Int) (s : List Int) (cs : List (List Int)) (m t : Nat) : (ownCs key s cs m t).length = t := by simp [ownCs]
theorem rowN_ownCs {key : Int} {s : List Int} {cs : List (List Int)} {m t i : Nat} (hi : i < t) : rowN (ownCs key s cs m t) i = ownC key s cs m i := by simp [rowN, ownCs, hi]
theorem ownC_len (key : Int) (s : List Int) (cs : List (List Int)) (m i : Nat) : (ownC key s cs m i).length = m := by
  unfold ownC; split
  · rw [xrL_len]
  · rw [seedC_len]
def sndB (key : Int) (s : List Int) (cs : List (List Int)) : Bool := keyE key && (secB s && (decide (s.length = cs.length) && colsB cs))
def sndL (key : Int) (s : List Int) (cs : List (List Int)) : List (List Int) := turnL (ownCs key s cs (rowN cs 0).length s.length) s.length (rowN cs 0).length
def senderRows (key : Int) (s : List Int) (cs : List (List Int)) : List (List Int) × Bool := if sndB key s cs then (sndL key s cs, true) else ([], false)
theorem sndB_iff {key : Int} {s : List Int} {cs : List (List Int)} : sndB key s cs = true ↔ keyE key = true ∧ secB s = true ∧ s.length = cs.length ∧ colsB cs = true := by
  unfold sndB; simp only [Bool.and_eq_true, decide_eq_true_iff]
theorem snd_t {key : Int} {s : List Int} {cs : List (List Int)} (h : sndB key s cs = true) : senderRows key s cs = (sndL key s cs, true) := by unfold senderRows; rw [if_pos h]
theorem snd_f {key : Int} {s : List Int} {cs : List (List Int)} (h : ¬ sndB key s cs = true) : senderRows key s cs = ([], false) := by unfold senderRows; rw [if_neg h]
theorem senderRows_len (key : Int) (s : List Int) (cs : List (List Int)) : (senderRows key s cs).1.length ≤ 1000 ∧ pre (senderRows key s cs).1 (senderRows key s cs).1.length ≤ 100000 := by
  by_cases h : sndB key s cs = true
  · rw [snd_t h]
    obtain ⟨_, h2, h3, h4⟩ := sndB_iff.1 h
    have h5 := (secB_iff.1 h2).1
    have h6 := (colsB_iff.1 h4).2.1
    show (sndL key s cs).length ≤ 1000 ∧ pre (sndL key s cs) (sndL key s cs).length ≤ 100000
    unfold sndL
    rw [turnL_len]
    have := pre_le (turnL (ownCs key s cs (rowN cs 0).length s.length) s.length (rowN cs 0).length) (rowN cs 0).length 8 (fun i hi => by rw [rowN_turnL hi, colAt_len]; omega)
    omega
  · rw [snd_f h]; simp [pre]
/-- Columns, one of them bent. -/
def bendC (cs : List (List Int)) (i : Int) (mask : List Int) (t : Nat) : List Int := if (t : Int) = i then xrL (rowN cs t) mask (rowN cs t).length else rowN cs t
def bendN (cs : List (List Int)) (i : Int) (mask : List Int) (t : Nat) : List (List Int) := (List.range t).map (bendC cs i mask)
theorem bendN_succ (cs : List (List Int)) (i : Int) (mask : List Int) (t : Nat) : bendN cs i mask (t + 1) = bendN cs i mask t ++ [bendC cs i mask t] := by simp [bendN, List.range_succ]
theorem bendN_len (cs : List (List Int)) (i : Int) (mask : List Int) (t : Nat) : (bendN cs i mask t).length = t := by simp [bendN]
theorem rowN_bendN {cs : List (List Int)} {i : Int} {mask : List Int} {t j : Nat} (hj : j < t) : rowN (bendN cs i mask t) j = bendC cs i mask j := by simp [rowN, bendN, hj]
theorem bendC_len (cs : List (List Int)) (i : Int) (mask : List Int) (t : Nat) : (bendC cs i mask t).length = (rowN cs t).length := by
  unfold bendC; split
  · rw [xrL_len]
  · rfl
def bndB (cs : List (List Int)) (i : Int) (mask : List Int) : Bool := colsB cs && (inB i 0 ((cs.length : Int) - 1) && (decide ((mask.length : Int) = ((rowN cs 0).length : Int)) && bitsB mask))
def bendCols (cs : List (List Int)) (i : Int) (mask : List Int) : List (List Int) × Bool := if bndB cs i mask then (bendN cs i mask cs.length, true) else ([], false)
theorem bndB_iff {cs : List (List Int)} {i : Int} {mask : List Int} : bndB cs i mask = true ↔ colsB cs = true ∧ inB i 0 ((cs.length : Int) - 1) = true ∧ (mask.length : Int) = ((rowN cs 0).length : Int) ∧ bitsB mask = true := by
  unfold bndB; simp only [Bool.and_eq_true, decide_eq_true_iff]
theorem bnd_t {cs : List (List Int)} {i : Int} {mask : List Int} (h : bndB cs i mask = true) : bendCols cs i mask = (bendN cs i mask cs.length, true) := by unfold bendCols; rw [if_pos h]
theorem bnd_f {cs : List (List Int)} {i : Int} {mask : List Int} (h : ¬ bndB cs i mask = true) : bendCols cs i mask = ([], false) := by unfold bendCols; rw [if_neg h]
theorem bendCols_len (cs : List (List Int)) (i : Int) (mask : List Int) : (bendCols cs i mask).1.length ≤ 1000 ∧ pre (bendCols cs i mask).1 (bendCols cs i mask).1.length ≤ 100000 := by
  by_cases h : bndB cs i mask = true
  · rw [bnd_t h]
    obtain ⟨h4, _⟩ := bndB_iff.1 h
    have h5 := colsB_iff.1 h4
    show (bendN cs i mask cs.length).length ≤ 1000 ∧ pre (bendN cs i mask cs.length) (bendN cs i mask cs.length).length ≤ 100000
    rw [bendN_len]
    have := pre_le (bendN cs i mask cs.length) cs.length 24 (fun j hj => by
      rw [rowN_bendN hj, bendC_len]
      have := listsB_at h5.2.2 hj
      omega)
    omega
  · rw [bnd_f h]; simp [pre]

set_option maxHeartbeats 4000000 in
theorem s_oxBend (a : Option Addr) (n cap : Nat) (cs : List (List Int)) (i : Int) (a' : Option Addr) (m cap' : Nat) (mask : List Int) (w : World) (h : Rws w a n cap cs) (h' : Ints w a' m cap' mask) (hn : n ≤ 1000) (hm : m ≤ 1000) (hc : Hid (∀ j, j < n → (rowN cs j).length = m ∧ bitsB (rowN cs j) = true)) (hb : bitsB mask = true) :
    Calls Try.prog 122 #[.slice a n cap, .int .i64 i, .slice a' m cap'] w fun e w' => RowsRet (bendN cs i mask n) w e w' := by
  have hl := h.len; have hl' := h'.len
  have HH := Lib.hid h; have HM := Lib.hid h'; have HBM := Lib.hid hb; clear h h' hb
  go_enter Try.func122, Try.ntmps122
  go_wp2
  go_loopw [7, 12] (fun v c wr => ∃ t : Nat, t ≤ n ∧ c = .int .i64 t ∧ Hid (OwnR 23 wr w.heap.size v t (bendN cs i mask t)) ∧ Hid (Below w.heap.size w wr)) (fun _ c _ => n - (intOf c).toNat)
  case atStart => exact ⟨0, by omega, rfl, (show Hid _ from OwnR.nil), (show Hid _ from Below.refl _ _)⟩
  case round =>
    obtain ⟨t, ht, rfl, HO, HB⟩ := hrel
    obtain ⟨wo, rfl⟩ : ∃ wo : World, wo = wr := ⟨_, rfl⟩
    by_cases hlt : t < n
    · obtain ⟨b, off, r, q, c, rfl, hbl, hcc, hri⟩ := (HH.out.below HB.out).at hlt
      have HL := Lib.hid (bendN_succ cs i mask t)
      have hz := HB.out.size
      have f := hc.out t hlt
      have hq : q = m := by rw [← hri.len.out]; exact f.1
      subst hq
      have HR := Lib.hid hri; have HF := Lib.hid f; clear hri f
      by_cases hi : (t : Int) = i
      · have HD : Hid (bendC cs i mask t = xrL (rowN cs t) mask q) := by show _ = _; unfold bendC; rw [if_pos hi, HF.out.1]
        subst hi
        go_wp2_with fail
        refine (s_btXor _ _ _ _ _ _ (rowN cs t) mask _ HR.out (HM.out.below HB.out) (Nat.le_refl _) (by omega) (bits2 HF.out.2 HBM.out (by rw [HF.out.1]; exact Nat.le_refl _) (by rw [hl'.out]; exact Nat.le_refl _))).mono ?_; rintro e w5 ⟨r5, c5, rfl, hm5, hb5⟩
        go_wp2_with fail
        refine (s_l1Own _ _ _ _ _ hm5.ints (by omega)).mono ?_; rintro e w6 ⟨r6, c6, rfl, ho6, hb6⟩
        have hm6 := Lib.hid (ho6.mine.base hb5.size)
        have HBX := Lib.hid (bel_trans hb5 hb6); clear ho6 hb5 hb6 hm5
        go_wp2_with (at_builtin; refine wp_appR wo w6 w.heap.size t _ _ r6 q c6 (xrL (rowN cs t) mask q) _ _ rfl _ _ rfl rfl rfl rfl HO.out HBX.out hm6.out hz (by omega) ?_; intro v9 w9 hv9 hb9)
        go_roundw
        case rel => exact ⟨t + 1, by omega, by go_num, (by rw [HL.out, HD.out]; exact hv9), (show Hid _ from HB.out.trans ((HBX.out.mono hz).trans hb9))⟩
        case measure => simp [intOf]; omega
      · have HD : Hid (bendC cs i mask t = rowN cs t) := by show _ = _; unfold bendC; rw [if_neg hi]
        have hib : ((t : Int) == i) = false := by simp [hi]
        clear hi
        go_wp2_with fail
        refine (s_l1Own _ _ _ _ _ HR.out (by omega)).mono ?_; rintro e w6 ⟨r6, c6, rfl, ho6, hb6⟩
        have hm6 := Lib.hid ho6.mine
        have HBX := Lib.hid hb6; clear ho6 hb6
        go_wp2_with (at_builtin; refine wp_appR wo w6 w.heap.size t _ _ r6 q c6 (rowN cs t) _ _ rfl _ _ rfl rfl rfl rfl HO.out HBX.out hm6.out hz (by omega) ?_; intro v9 w9 hv9 hb9)
        go_roundw
        case rel => exact ⟨t + 1, by omega, by go_num, (by rw [HL.out, HD.out]; exact hv9), (show Hid _ from HB.out.trans ((HBX.out.mono hz).trans hb9))⟩
        case measure => simp [intOf]; omega
    · obtain rfl : t = n := by omega
      obtain ⟨a2, c, hv, hm2⟩ := HO.out.mine (by omega) HB.out.size
      subst hv
      have HMM := Lib.hid hm2; clear hm2 HO
      go_wp2
      go_ret
      unfold RowsRet
      rw [bendN_len]
      exact ⟨_, _, rfl, HMM.out, HB.out⟩