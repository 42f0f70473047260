/-
  Sums of rows, checks: CheckRows, CheckPasses, both sides.
-/
import Derived.Test.YtfejpmfcognikaaGreatE6
namespace Go.Proofs.YtfejpmfcognikaaGreat
open Go.RowKit
set_option linter.unusedVariables false
set_option linter.unusedSimpArgs false

/-- The exclusive-or of the rows with the weight 1. -/
def sumR (ws : List Int) (qs : List (List Int)) (k : Nat) : Nat → List Int
  | 0 => List.replicate k 0
  | j + 1 => if nth ws j = 1 then xrL (sumR ws qs k j) (rowN qs j) k else sumR ws qs k j
theorem sumR_len (ws : List Int) (qs : List (List Int)) (k j : Nat) : (sumR ws qs k j).length = k := by
  induction j with
  | zero => simp [sumR]
  | succ j ih => rw [sumR]; split <;> simp [xrL_len, ih]
theorem sumR_bits (ws : List Int) (qs : List (List Int)) (k j : Nat) : bitsB (sumR ws qs k j) = true := by
  induction j with
  | zero => exact bitsB_mk fun i hi => by simp [sumR] at hi; simp [sumR, nth, hi]
  | succ j ih => rw [sumR]; split
                 · exact xrL_bits _ _ _
                 · exact ih
theorem bits_fit {xs : List Int} (h : bitsB xs = true) : ∀ x ∈ xs, Fits x := by
  intro x hx
  obtain ⟨i, hi, rfl⟩ := mem_nth hx
  have := bitsB_nth h hi
  unfold Fits; omega
/-- The parity of choices at a weight. -/
def parC (cs ws : List Int) : Nat → Int
  | 0 => 0
  | j + 1 => xr (parC cs ws j) (nth cs j * nth ws j)
theorem parC_bd (cs ws : List Int) (j : Nat) : 0 ≤ parC cs ws j ∧ parC cs ws j ≤ 1 := by
  cases j with
  | zero => simp [parC]
  | succ j => exact xr_bd _ _
theorem and_eq {a b : Int} (ha : 0 ≤ a ∧ a ≤ 1) (hb : 0 ≤ b ∧ b ≤ 1) : bits .and .i64 a b = a * b := by
  rcases (show a = 0 ∨ a = 1 by omega) with rfl | rfl <;> rcases (show b = 0 ∨ b = 1 by omega) with rfl | rfl <;> decide
theorem mul01 {a b : Int} (ha : 0 ≤ a ∧ a ≤ 1) (hb : 0 ≤ b ∧ b ≤ 1) : 0 ≤ a * b ∧ a * b ≤ 1 := by
  rcases (show a = 0 ∨ a = 1 by omega) with rfl | rfl <;> rcases (show b = 0 ∨ b = 1 by omega) with rfl | rfl <;> decide
/-- One check; all. -/
def passR (secret ws cs : List Int) (t q : List (List Int)) : Bool := decide (dueR (sumR ws t secret.length cs.length) secret (parC cs ws cs.length) = sumR ws q secret.length cs.length)
def passA (secret : List Int) (wss : List (List Int)) (cs : List Int) (t q : List (List Int)) : Bool := wss.all fun ws => passR secret ws cs t q
def chkN (wss qs : List (List Int)) (k m : Nat) : Nat → List Int
  | 0 => []
  | i + 1 => chkN wss qs k m i ++ sumR (rowN wss i) qs k m
theorem chkN_len (wss qs : List (List Int)) (k m i : Nat) : (chkN wss qs k m i).length = i * k := by
  induction i with
  | zero => simp [chkN]
  | succ i ih => rw [chkN, List.length_append, ih, sumR_len, Nat.add_mul, Nat.one_mul]
theorem chkN_fit (wss qs : List (List Int)) (k m i : Nat) : ∀ x ∈ chkN wss qs k m i, Fits x := by
  induction i with
  | zero => simp [chkN]
  | succ i ih =>
    intro x hx
    rw [chkN, List.mem_append] at hx
    rcases hx with hx | hx
    · exact ih x hx
    · exact bits_fit (sumR_bits _ _ _ _) x hx
def chkB (wss qs : List (List Int)) : Bool := decide (qs.length ≠ 0) && (rowsB qs qs.length (rowN qs 0).length && wtB wss qs.length)
def checkRows (wss qs : List (List Int)) : List Int × Bool := if chkB wss qs then (chkN wss qs (rowN qs 0).length qs.length wss.length, true) else ([], false)
theorem chkB_iff {wss qs : List (List Int)} : chkB wss qs = true ↔ qs.length ≠ 0 ∧ rowsB qs qs.length (rowN qs 0).length = true ∧ wtB wss qs.length = true := by
  unfold chkB; simp only [Bool.and_eq_true, decide_eq_true_iff]
theorem chk_t {wss qs : List (List Int)} (h : chkB wss qs = true) : checkRows wss qs = (chkN wss qs (rowN qs 0).length qs.length wss.length, true) := by unfold checkRows; rw [if_pos h]
theorem chk_f {wss qs : List (List Int)} (h : ¬ chkB wss qs = true) : checkRows wss qs = ([], false) := by unfold checkRows; rw [if_neg h]
theorem checkRows_len (wss qs : List (List Int)) : (checkRows wss qs).1.length ≤ 1000 := by
  by_cases h : chkB wss qs = true
  · rw [chk_t h]
    obtain ⟨_, h2, h3⟩ := chkB_iff.1 h
    have h4 := (rowsB_iff.1 h2).2.1
    have h5 := (wtB_iff.1 h3).1
    show (chkN wss qs (rowN qs 0).length qs.length wss.length).length ≤ 1000
    rw [chkN_len]
    have : wss.length * (rowN qs 0).length ≤ 8 * 8 := Nat.mul_le_mul h5 (by omega)
    omega
  · rw [chk_f h]; simp
def cpB (secret : List Int) (wss : List (List Int)) (cs : List Int) (t q : List (List Int)) : Bool := secB secret && (chosB cs && (wtB wss cs.length && (rowsB t cs.length secret.length && rowsB q cs.length secret.length)))
def checkPasses (secret : List Int) (wss : List (List Int)) (cs : List Int) (t q : List (List Int)) : Bool × Bool := if cpB secret wss cs t q then (passA secret wss cs t q, true) else (false, false)
theorem cpB_iff {secret : List Int} {wss : List (List Int)} {cs : List Int} {t q : List (List Int)} : cpB secret wss cs t q = true ↔ secB secret = true ∧ chosB cs = true ∧ wtB wss cs.length = true ∧ rowsB t cs.length secret.length = true ∧ rowsB q cs.length secret.length = true := by
  unfold cpB; simp only [Bool.and_eq_true]
theorem cp_t {secret : List Int} {wss : List (List Int)} {cs : List Int} {t q : List (List Int)} (h : cpB secret wss cs t q = true) : checkPasses secret wss cs t q = (passA secret wss cs t q, true) := by unfold checkPasses; rw [if_pos h]
theorem cp_f {secret : List Int} {wss : List (List Int)} {cs : List Int} {t q : List (List Int)} (h : ¬ cpB secret wss cs t q = true) : checkPasses secret wss cs t q = (false, false) := by unfold checkPasses; rw [if_neg h]
theorem passA_no {secret : List Int} {wss : List (List Int)} {cs : List Int} {t q : List (List Int)} {i : Nat} (hi : i < wss.length) (h : passR secret (rowN wss i) cs t q = false) : passA secret wss cs t q = false := allR_no hi h
theorem passA_yes {secret : List Int} {wss : List (List Int)} {cs : List Int} {t q : List (List Int)} (h : ∀ i, i < wss.length → passR secret (rowN wss i) cs t q = true) : passA secret wss cs t q = true := allR_iff.2 h
/-- A list of ints handed back with a bool. -/
def ListRetB (X : List Int × Bool) (w : World) (e : Ending) (w' : World) : Prop :=
  ∃ r c, e = .returned (.tuple #[.slice r X.1.length c, .bool X.2]) ∧ Mine w' w.heap.size r X.1.length c X.1 ∧ Below w.heap.size w w'
theorem ListRetB.no {w w' : World} (hb : Below w.heap.size w w') : ListRetB ([], false) w (.returned (.tuple #[.slice none 0 0, .bool false])) w' :=
  ⟨none, 0, rfl, Mine.nil, hb⟩
theorem ListRetB.yes {w w' : World} {B n : Nat} {X : List Int} {r : Option Addr} {c : Nat} (hl : X.length = n) (hm : Mine w' B r n c X) (h0 : w.heap.size ≤ B) (hb : Below w.heap.size w w') : ListRetB (X, true) w (.returned (.tuple #[.slice r n c, .bool true])) w' := by
  subst hl
  exact ⟨r, c, rfl, hm.base h0, hb⟩

set_option maxHeartbeats 4000000 in
theorem i_checkRow (a : Option Addr) (n cap : Nat) (ws : List Int) (a' : Option Addr) (n' cap' : Nat) (qs : List (List Int)) (k : Nat) (w : World) (h : Ints w a n cap ws) (h' : Rws w a' n' cap' qs) (hnn : n ≤ n') (hn : n ≤ 1000) (hk : k ≤ 1000) (hq : Hid (∀ j, j < n → (rowN qs j).length = k ∧ bitsB (rowN qs j) = true)) :
    Calls Tryz.prog 71 #[.slice a n cap, .slice a' n' cap', .int .i64 k] w fun e w' => ∃ r c, e = .returned (.slice r k c) ∧ Mine w' w.heap.size r k c (sumR ws qs k n) ∧ Below w.heap.size w w' := by
  obtain ⟨i0, hi, hz0, hz1, hz2⟩ := info_parts info_int
  have HH := Lib.hid h; have HM := Lib.hid h'; clear h h'
  go_enter Tryz.func71, Tryz.ntmps71
  go_wp2_with (at_make; refine wpList_make_full _ rfl _ _ 25 rfl w.heap.size 3 i0 (.int .i64 0) 1 Tryz.underlying25 hi hz0 hz1 _ _ _ _ k rfl rfl rfl rfl ?b1 ?b2 ?b3 ?_)
  case b1 => rw [hz2]; omega
  case b2 => unfold maxLen; omega
  case b3 => exact Nat.le_refl _
  intro w1 hown hgrow
  have hb1 : Below w.heap.size w w1 := (Below.refl _ _).grown hgrow (Nat.le_refl _) (fun k hk => by cases hk)
  try simp only [Nat.mul_one, Value.cells] at hown
  rw [made_ivs] at hown
  obtain ⟨a2, cap2, hv, ho⟩ := OwnI.of hown (by omega) (fun x hx => by rw [List.eq_of_mem_replicate hx]; unfold Fits; omega)
  simp only [Value.slice.injEq] at hv
  obtain ⟨rfl, _, rfl⟩ := hv
  clear hown hgrow hi hz0 hz1 hz2
  have HO := Lib.hid ho.mine; clear ho
  have HB := Lib.hid hb1; clear hb1
  go_wp2
  go_loopw [7, 14] (fun v i wr => ∃ (j : Nat) (r : Option Addr) (c : Nat), j ≤ n ∧ i = .int .i64 j ∧ v = .slice r k c ∧ Hid (Mine wr w.heap.size r k c (sumR ws qs k j)) ∧ Hid (Below w.heap.size w wr)) (fun _ i _ => n - (intOf i).toNat)
  case atStart => exact ⟨0, _, _, by omega, rfl, rfl, HO.out, HB.out⟩
  case round =>
    obtain ⟨j, r, c, hj, rfl, rfl, HS, HBB⟩ := hrel
    obtain ⟨wo, rfl⟩ : ∃ wo : World, wo = wr := ⟨_, rfl⟩
    clear HO HB
    by_cases hlt : j < n
    · obtain ⟨b, off, rfl, hbl, hc⟩ := (HH.out.below HBB.out).at hlt
      obtain ⟨b2, off2, r2, q2, c2, rfl, hbl2, hc2, hr2⟩ := (HM.out.below HBB.out).at (i := j) (by omega)
      have hlti : (j : Int) < (n' : Int) := by omega
      have f := hq.out j hlt
      have e2 : q2 = k := by rw [← hr2.len.out]; exact f.1
      subst e2
      have R2 := Lib.hid hr2; have HF := Lib.hid f; clear hr2 f
      by_cases h1 : nth ws j = 1
      · have HD : Hid (sumR ws qs q2 (j + 1) = xrL (sumR ws qs q2 j) (rowN qs j) q2) := by show _ = _; rw [sumR, if_pos h1]
        rw [h1] at hc
        clear h1
        go_wp2_with fail
        refine (i_xored _ _ _ _ _ _ (sumR ws qs q2 j) (rowN qs j) _ HS.out.ints R2.out (Nat.le_refl _) (by omega) (bits2 (sumR_bits _ _ _ _) HF.out.2 (by rw [sumR_len]; exact Nat.le_refl _) (by rw [HF.out.1]; exact Nat.le_refl _))).mono ?_; rintro e w5 ⟨r5, c5, rfl, hm5, hb5⟩
        have HN := Lib.hid (hm5.base HBB.out.size); have HBX := Lib.hid (bel_trans HBB.out hb5); clear hm5 hb5
        go_wp2
        go_roundw
        case rel => exact ⟨j + 1, _, _, by omega, by go_num, rfl, (by rw [HD.out]; exact HN.out), HBX.out⟩
        case measure => simp [intOf]; omega
      · have HD : Hid (sumR ws qs q2 (j + 1) = sumR ws qs q2 j) := by show _ = _; rw [sumR, if_neg h1]
        have h1b : (nth ws j == 1) = false := by simp [h1]
        clear h1
        go_wp2
        go_roundw
        case rel => exact ⟨j + 1, _, _, by omega, by go_num, rfl, (by rw [HD.out]; exact HS.out), HBB.out⟩
        case measure => simp [intOf]; omega
    · obtain rfl : j = n := by omega
      go_wp2
      go_ret
      exact ⟨_, _, rfl, HS.out, HBB.out⟩
set_option maxHeartbeats 4000000 in
theorem s_oxSum (a : Option Addr) (n cap : Nat) (ws : List Int) (a' : Option Addr) (n' cap' : Nat) (qs : List (List Int)) (k : Nat) (w : World) (h : Ints w a n cap ws) (h' : Rws w a' n' cap' qs) (hnn : n ≤ n') (hn : n ≤ 1000) (hk : k ≤ 1000) (hq : Hid (∀ j, j < n → (rowN qs j).length = k ∧ bitsB (rowN qs j) = true)) :
    Calls Tryz.prog 72 #[.slice a n cap, .slice a' n' cap', .int .i64 k] w fun e w' => ∃ r c, e = .returned (.slice r k c) ∧ Mine w' w.heap.size r k c (sumR ws qs k n) ∧ Below w.heap.size w w' := by
  obtain ⟨i0, hi, hz0, hz1, hz2⟩ := info_parts info_int
  have HH := Lib.hid h; have HM := Lib.hid h'; clear h h'
  go_enter Tryz.func72, Tryz.ntmps72
  go_wp2_with (at_make; refine wpList_make_full _ rfl _ _ 25 rfl w.heap.size 3 i0 (.int .i64 0) 1 Tryz.underlying25 hi hz0 hz1 _ _ _ _ k rfl rfl rfl rfl ?b1 ?b2 ?b3 ?_)
  case b1 => rw [hz2]; omega
  case b2 => unfold maxLen; omega
  case b3 => exact Nat.le_refl _
  intro w1 hown hgrow
  have hb1 : Below w.heap.size w w1 := (Below.refl _ _).grown hgrow (Nat.le_refl _) (fun k hk => by cases hk)
  try simp only [Nat.mul_one, Value.cells] at hown
  rw [made_ivs] at hown
  obtain ⟨a2, cap2, hv, ho⟩ := OwnI.of hown (by omega) (fun x hx => by rw [List.eq_of_mem_replicate hx]; unfold Fits; omega)
  simp only [Value.slice.injEq] at hv
  obtain ⟨rfl, _, rfl⟩ := hv
  clear hown hgrow hi hz0 hz1 hz2
  have HO := Lib.hid ho.mine; clear ho
  have HB := Lib.hid hb1; clear hb1
  go_wp2
  go_loopw [7, 14] (fun v i wr => ∃ (j : Nat) (r : Option Addr) (c : Nat), j ≤ n ∧ i = .int .i64 j ∧ v = .slice r k c ∧ Hid (Mine wr w.heap.size r k c (sumR ws qs k j)) ∧ Hid (Below w.heap.size w wr)) (fun _ i _ => n - (intOf i).toNat)
  case atStart => exact ⟨0, _, _, by omega, rfl, rfl, HO.out, HB.out⟩
  case round =>
    obtain ⟨j, r, c, hj, rfl, rfl, HS, HBB⟩ := hrel
    obtain ⟨wo, rfl⟩ : ∃ wo : World, wo = wr := ⟨_, rfl⟩
    clear HO HB
    by_cases hlt : j < n
    · obtain ⟨b, off, rfl, hbl, hc⟩ := (HH.out.below HBB.out).at hlt
      obtain ⟨b2, off2, r2, q2, c2, rfl, hbl2, hc2, hr2⟩ := (HM.out.below HBB.out).at (i := j) (by omega)
      have hlti : (j : Int) < (n' : Int) := by omega
      have f := hq.out j hlt
      have e2 : q2 = k := by rw [← hr2.len.out]; exact f.1
      subst e2
      have R2 := Lib.hid hr2; have HF := Lib.hid f; clear hr2 f
      by_cases h1 : nth ws j = 1
      · have HD : Hid (sumR ws qs q2 (j + 1) = xrL (sumR ws qs q2 j) (rowN qs j) q2) := by show _ = _; rw [sumR, if_pos h1]
        rw [h1] at hc
        clear h1
        go_wp2_with fail
        refine (s_btXor _ _ _ _ _ _ (sumR ws qs q2 j) (rowN qs j) _ HS.out.ints R2.out (Nat.le_refl _) (by omega) (bits2 (sumR_bits _ _ _ _) HF.out.2 (by rw [sumR_len]; exact Nat.le_refl _) (by rw [HF.out.1]; exact Nat.le_refl _))).mono ?_; rintro e w5 ⟨r5, c5, rfl, hm5, hb5⟩
        have HN := Lib.hid (hm5.base HBB.out.size); have HBX := Lib.hid (bel_trans HBB.out hb5); clear hm5 hb5
        go_wp2
        go_roundw
        case rel => exact ⟨j + 1, _, _, by omega, by go_num, rfl, (by rw [HD.out]; exact HN.out), HBX.out⟩
        case measure => simp [intOf]; omega
      · have HD : Hid (sumR ws qs q2 (j + 1) = sumR ws qs q2 j) := by show _ = _; rw [sumR, if_neg h1]
        have h1b : (nth ws j == 1) = false := by simp [h1]
        clear h1
        go_wp2
        go_roundw
        case rel => exact ⟨j + 1, _, _, by omega, by go_num, rfl, (by rw [HD.out]; exact HS.out), HBB.out⟩
        case measure => simp [intOf]; omega
    · obtain rfl : j = n := by omega
      go_wp2
      go_ret
      exact ⟨_, _, rfl, HS.out, HBB.out⟩
set_option maxHeartbeats 1000000 in
theorem s_btParity (a a' : Option Addr) (n n' cap cap' : Nat) (xs ys : List Int) (w : World) (h : Ints w a n cap xs) (h' : Ints w a' n' cap' ys) (hn : n ≤ n') (hx : bitsB xs = true) (hy : bitsB ys = true) :
    Calls Tryz.prog 94 #[.slice a n cap, .slice a' n' cap'] w fun e w' => e = .returned (.int .i64 (parC xs ys n)) ∧ w = w' := by
  have hs := h.small
  have hl := h.len; have hl' := h'.len
  have HX := Lib.hid hx; have HY := Lib.hid hy; clear hx hy
  go_enter Tryz.func94, Tryz.ntmps94
  go_wp2
  go_loop [5, 10] (fun s i => ∃ k : Nat, k ≤ n ∧ i = .int .i64 k ∧ s = .int .i64 (parC xs ys k)) (fun _ i => n - (intOf i).toNat)
  case atStart => exact ⟨0, by omega, rfl, rfl⟩
  case round =>
    obtain ⟨k, hk, rfl, rfl⟩ := hrel
    by_cases hlt : k < n
    · obtain ⟨b, off, rfl, hbl, hc⟩ := h.at hlt
      obtain ⟨b', off', rfl, hbl', hc'⟩ := h'.at (i := k) (by omega)
      have hlti : (k : Int) < (n' : Int) := by omega
      have bx := bitsB_nth HX.out (i := k) (by rw [hl.out]; exact hlt)
      have by' := bitsB_nth HY.out (i := k) (by rw [hl'.out]; omega)
      have e1 := and_eq bx by'
      have e2 := xr_eq (parC_bd xs ys k) (mul01 bx by')
      have HD : Hid (parC xs ys (k + 1) = xr (parC xs ys k) (nth xs k * nth ys k)) := rfl
      clear bx by'
      go_wp2
      go_round
      case rel => exact ⟨k + 1, by omega, by go_num, by rw [HD.out]; try first | rfl | rw [e2]⟩
      case measure => simp [intOf]; omega
    · obtain rfl : k = n := by omega
      go_wp2
      go_ret
      exact ⟨rfl, rfl⟩
set_option maxHeartbeats 400000 in
theorem i_rowWidth (a : Option Addr) (n cap : Nat) (xss : List (List Int)) (w : World) (h : Rws w a n cap xss) (h0 : 0 < n) :
    Calls Tryz.prog 70 #[.slice a n cap] w fun e w' => e = .returned (.int .i64 ((rowN xss 0).length : Nat)) ∧ w = w' := by
  obtain ⟨b, off, r, m, c, rfl, hbl, hc, hri⟩ := h.at (i := 0) h0
  rw [Nat.add_zero] at hc
  have hml := hri.len.out
  rw [hml]
  have hs := h.small
  have h0i : (0 : Int) < (n : Int) := by omega
  clear hml hri
  have h0b : ((n : Int) == 0) = false := by simp; omega
  go_enter Tryz.func70, Tryz.ntmps70
  go_wp2
  go_ret
  exact ⟨rfl, rfl⟩

set_option maxHeartbeats 4000000 in
theorem i_CheckRows (a : Option Addr) (n cap : Nat) (ws : List (List Int)) (a1 : Option Addr) (n1 cap1 : Nat) (qs : List (List Int)) (w : World) (h : Rws w a n cap ws) (h1 : Rws w a1 n1 cap1 qs) :
    Calls Tryz.prog 19 #[.slice a n cap, .slice a1 n1 cap1] w fun e w' => ListRetB (checkRows ws qs) w e w' := by
  have hl := h.len; have hl1 := h1.len
  have hs := h.small; have hs1 := h1.small
  by_cases h0 : n1 = 0
  · skip
    have h0b : ((n1 : Int) == 0) = true := by simp; omega
    have HR := Lib.hid (chk_f (wss := ws) (qs := qs) (fun q => by have := chkB_iff.1 q; rw [hl1.out] at this; exact this.1 h0))
    go_enter Tryz.func19, Tryz.ntmps19
    go_wp2
    all_goals
      go_ret2
      rw [HR.out]
      exact ListRetB.no (Below.refl _ _)
  have h0b : ((n1 : Int) == 0) = false := by simp; omega
  obtain ⟨b0, off0, r0, k, c0, e0, hb0, hc0, hr0⟩ := h1.at (i := 0) (by omega)
  rw [Nat.add_zero] at hc0
  have HK := hr0.len; have hks := hr0.small
  have h0i : (0 : Int) < (n1 : Int) := by omega
  have HR0 := Lib.hid hr0; clear hr0
  have HH1 := Lib.hid h1; clear h1
  subst e0
  cases g1 : rowsB qs n1 k with
  | false =>
    have HR := Lib.hid (chk_f (wss := ws) (qs := qs) (fun q => by have := chkB_iff.1 q; rw [hl1.out, HK.out, g1] at this; cases this.2.1))
    go_enter Tryz.func19, Tryz.ntmps19
    go_wp2_with fail
    refine (i_rowWidth _ _ _ qs _ HH1.out (by omega)).mono ?_; rintro e w1 ⟨rfl, rfl⟩; rw [HK.out]
    go_wp2_with fail
    refine (i_areRows _ _ _ qs _ _ _ HH1.out).mono ?_; rintro e w2 ⟨rfl, hb2⟩
    go_wp2
    all_goals
      go_ret2
      rw [HR.out]
      exact ListRetB.no (hb2)
  | true =>
    obtain ⟨⟨m1, m2⟩, ⟨k1, k2⟩, _, hls⟩ := rowsB_iff.1 g1
    cases g2 : wtB ws n1 with
    | false =>
      have HR := Lib.hid (chk_f (wss := ws) (qs := qs) (fun q => by have := chkB_iff.1 q; rw [hl1.out, g2] at this; cases this.2.2))
      go_enter Tryz.func19, Tryz.ntmps19
      go_wp2_with fail
      refine (i_rowWidth _ _ _ qs _ HH1.out (by omega)).mono ?_; rintro e w1 ⟨rfl, rfl⟩; rw [HK.out]
      go_wp2_with fail
      refine (i_areRows _ _ _ qs _ _ _ HH1.out).mono ?_; rintro e w2 ⟨rfl, hb2⟩
      go_wp2_with fail
      refine (i_areWeights _ _ _ ws _ _ (h.below hb2)).mono ?_; rintro e w3 ⟨rfl, hb3⟩
      go_wp2
      all_goals
        go_ret2
        rw [HR.out]
        exact ListRetB.no (bel_trans hb2 hb3)
    | true =>
      obtain ⟨n8, hlw⟩ := wtB_iff.1 g2
      rw [hl.out] at n8
      have HR := Lib.hid (chk_t (wss := ws) (qs := qs) (chkB_iff.2 ⟨by rw [hl1.out]; exact h0, by rw [hl1.out, HK.out]; exact g1, by rw [hl1.out]; exact g2⟩))
      have HQ : Hid (∀ j, j < n1 → (rowN qs j).length = k ∧ bitsB (rowN qs j) = true) := fun j hj => by have := listsB_at hls (i := j) (by rw [hl1.out]; exact hj); exact ⟨by omega, this.2⟩
      have HW : Hid (∀ j, j < n → (rowN ws j).length = n1 ∧ bitsB (rowN ws j) = true) := fun j hj => by have := listsB_at hlw (i := j) (by rw [hl.out]; exact hj); exact ⟨by omega, this.2⟩
      have HX : Hid (chkN ws qs (rowN qs 0).length qs.length ws.length = chkN ws qs k n1 n) := by show _ = _; rw [HK.out, hl1.out, hl.out]
      go_enter Tryz.func19, Tryz.ntmps19
      go_wp2_with fail
      refine (i_rowWidth _ _ _ qs _ HH1.out (by omega)).mono ?_; rintro e w1 ⟨rfl, rfl⟩; rw [HK.out]
      go_wp2_with fail
      refine (i_areRows _ _ _ qs _ _ _ HH1.out).mono ?_; rintro e w2 ⟨rfl, hb2⟩
      go_wp2_with fail
      refine (i_areWeights _ _ _ ws _ _ (h.below hb2)).mono ?_; rintro e w3 ⟨rfl, hb3⟩
      have HB0 : Hid (Below w.heap.size w w3) := bel_trans hb2 hb3
      clear hb2 hb3
      have HH := Lib.hid h; clear h
      go_wp2
      go_loopw [6, 31] (fun v i wr => ∃ t : Nat, t ≤ n ∧ i = .int .i64 t ∧ Hid (wr.ownsRow w.heap.size 3 1 v (t * k) (ivs (chkN ws qs k n1 t))) ∧ Hid (Below w.heap.size w wr)) (fun _ i _ => n - (intOf i).toNat)
      case atStart => exact ⟨0, by omega, rfl, (by rw [Nat.zero_mul]; exact World.ownsRow_lit w3 #[] 0 HB0.out.size (by decide) rfl), bel_trans HB0.out (bel_alloc _ _)⟩
      case round =>
        obtain ⟨t, ht, rfl, HO, HB⟩ := hrel
        obtain ⟨wo, rfl⟩ : ∃ wo : World, wo = wr := ⟨_, rfl⟩
        clear HB0
        have hz := HB.out.size
        have htk : t * k ≤ 8 * 8 := Nat.mul_le_mul (by omega) (by omega)
        by_cases hlt : t < n
        · obtain ⟨b, off, r, q, c, rfl, hbl, hc, hri⟩ := (HH.out.below HB.out).at hlt
          have eq : q = n1 := by rw [← hri.len.out]; exact (HW.out t hlt).1
          subst eq
          have R := Lib.hid hri; clear hri
          have HL : Hid (chkN ws qs k q (t + 1) = chkN ws qs k q t ++ sumR (rowN ws t) qs k q) := rfl
          have HTK : Hid ((t + 1) * k = t * k + k) := by show _ = _; rw [Nat.add_mul, Nat.one_mul]
          have hc0b := cell_on hc0 HB.out
          go_wp2_with fail
          refine (i_rowWidth _ _ _ qs _ (HH1.out.below HB.out) (by omega)).mono ?_; rintro e w5 ⟨rfl, rfl⟩; rw [HK.out]
          go_wp2_with fail
          refine (i_checkRow _ _ _ (rowN ws t) _ _ _ qs k _ R.out (HH1.out.below HB.out) (Nat.le_refl _) (by omega) (by omega) HQ.out).mono ?_; rintro e w6 ⟨r6, c6, rfl, hm6, hb6⟩
          have HO6 := Lib.hid (ownsRow_below HO.out hb6); have HM6 := Lib.hid hm6; have HB6 := Lib.hid (bel_trans HB.out hb6); clear hm6 hb6
          have hz6 := HB6.out.size
          go_wp2_with (at_builtin; refine wp_apps w6 w.heap.size (t * k) _ (chkN ws qs k q t) (sumR (rowN ws t) qs k q) _ k _ rfl _ _ rfl rfl rfl HM6.out.ints HO6.out hz6 (by omega) ?_; intro v9 w9 hv9 hb9 hg9)
          clear hg9
          go_roundw
          case rel => exact ⟨t + 1, by omega, by go_num, (by rw [HL.out, HTK.out]; exact hv9), (show Hid _ from HB6.out.trans hb9)⟩
          case measure => simp [intOf]; omega
        · obtain rfl : t = n := by omega
          obtain ⟨r, c, hv, hm⟩ := Mine.of HO.out (by omega) (chkN_fit _ _ _ _ _)
          subst hv
          have HM := Lib.hid hm; clear hm HO
          go_wp2
          go_ret2
          rw [HR.out, HX.out]
          exact ListRetB.yes (chkN_len _ _ _ _ _) HM.out (Nat.le_refl _) HB.out
set_option maxHeartbeats 4000000 in
theorem s_CheckRows (a : Option Addr) (n cap : Nat) (ws : List (List Int)) (a1 : Option Addr) (n1 cap1 : Nat) (qs : List (List Int)) (w : World) (h : Rws w a n cap ws) (h1 : Rws w a1 n1 cap1 qs) :
    Calls Tryz.prog 20 #[.slice a n cap, .slice a1 n1 cap1] w fun e w' => ListRetB (checkRows ws qs) w e w' := by
  have hl := h.len; have hl1 := h1.len
  have hs := h.small; have hs1 := h1.small
  by_cases h0 : n1 = 0
  · skip
    have h0b : ((n1 : Int) == 0) = true := by simp; omega
    have HR := Lib.hid (chk_f (wss := ws) (qs := qs) (fun q => by have := chkB_iff.1 q; rw [hl1.out] at this; exact this.1 h0))
    go_enter Tryz.func20, Tryz.ntmps20
    go_wp2
    all_goals
      go_ret2
      rw [HR.out]
      exact ListRetB.no (Below.refl _ _)
  have h0b : ((n1 : Int) == 0) = false := by simp; omega
  obtain ⟨b0, off0, r0, k, c0, e0, hb0, hc0, hr0⟩ := h1.at (i := 0) (by omega)
  rw [Nat.add_zero] at hc0
  have HK := hr0.len; have hks := hr0.small
  have h0i : (0 : Int) < (n1 : Int) := by omega
  have HR0 := Lib.hid hr0; clear hr0
  have HH1 := Lib.hid h1; clear h1
  subst e0
  cases g0 : secB (rowN qs 0) with
  | false =>
    have HR := Lib.hid (chk_f (wss := ws) (qs := qs) (fun q => by have := chkB_iff.1 q; have f := listsB_at (rowsB_iff.1 this.2.1).2.2.2 (i := 0) (by omega); rw [show secB (rowN qs 0) = true from secB_iff.2 ⟨(rowsB_iff.1 this.2.1).2.1, f.2⟩] at g0; cases g0))
    go_enter Tryz.func20, Tryz.ntmps20
    go_wp2_with fail
    refine (s_oxSecret _ _ _ (rowN qs 0) _ HR0.out).mono ?_; rintro e w1 ⟨rfl, rfl⟩
    go_wp2
    all_goals
      go_ret2
      rw [HR.out]
      exact ListRetB.no (Below.refl _ _)
  | true =>
    have g0c := (secB_iff.1 g0).1
    rw [HK.out] at g0c
    cases g1 : rowsB qs n1 k with
    | false =>
      have HR := Lib.hid (chk_f (wss := ws) (qs := qs) (fun q => by have := chkB_iff.1 q; rw [hl1.out, HK.out, g1] at this; cases this.2.1))
      go_enter Tryz.func20, Tryz.ntmps20
      go_wp2_with fail
      refine (s_oxSecret _ _ _ (rowN qs 0) _ HR0.out).mono ?_; rintro e w1 ⟨rfl, rfl⟩
      go_wp2_with fail
      refine (s_oxRows _ _ _ qs _ _ _ HH1.out (by omega)).mono ?_; rintro e w1 ⟨rfl, rfl⟩
      go_wp2
      all_goals
        go_ret2
        rw [HR.out]
        exact ListRetB.no (Below.refl _ _)
    | true =>
      obtain ⟨⟨m1, m2⟩, ⟨k1, k2⟩, _, hls⟩ := rowsB_iff.1 g1
      cases g2 : wtB ws n1 with
      | false =>
        have HR := Lib.hid (chk_f (wss := ws) (qs := qs) (fun q => by have := chkB_iff.1 q; rw [hl1.out, g2] at this; cases this.2.2))
        go_enter Tryz.func20, Tryz.ntmps20
        go_wp2_with fail
        refine (s_oxSecret _ _ _ (rowN qs 0) _ HR0.out).mono ?_; rintro e w1 ⟨rfl, rfl⟩
        go_wp2_with fail
        refine (s_oxRows _ _ _ qs _ _ _ HH1.out (by omega)).mono ?_; rintro e w1 ⟨rfl, rfl⟩
        go_wp2_with fail
        refine (s_oxWeights _ _ _ ws _ _ h (by omega)).mono ?_; rintro e w1 ⟨rfl, rfl⟩
        go_wp2
        all_goals
          go_ret2
          rw [HR.out]
          exact ListRetB.no (Below.refl _ _)
      | true =>
        obtain ⟨n8, hlw⟩ := wtB_iff.1 g2
        rw [hl.out] at n8
        have HR := Lib.hid (chk_t (wss := ws) (qs := qs) (chkB_iff.2 ⟨by rw [hl1.out]; exact h0, by rw [hl1.out, HK.out]; exact g1, by rw [hl1.out]; exact g2⟩))
        have HQ : Hid (∀ j, j < n1 → (rowN qs j).length = k ∧ bitsB (rowN qs j) = true) := fun j hj => by have := listsB_at hls (i := j) (by rw [hl1.out]; exact hj); exact ⟨by omega, this.2⟩
        have HW : Hid (∀ j, j < n → (rowN ws j).length = n1 ∧ bitsB (rowN ws j) = true) := fun j hj => by have := listsB_at hlw (i := j) (by rw [hl.out]; exact hj); exact ⟨by omega, this.2⟩
        have HX : Hid (chkN ws qs (rowN qs 0).length qs.length ws.length = chkN ws qs k n1 n) := by show _ = _; rw [HK.out, hl1.out, hl.out]
        go_enter Tryz.func20, Tryz.ntmps20
        go_wp2_with fail
        refine (s_oxSecret _ _ _ (rowN qs 0) _ HR0.out).mono ?_; rintro e w1 ⟨rfl, rfl⟩
        go_wp2_with fail
        refine (s_oxRows _ _ _ qs _ _ _ HH1.out (by omega)).mono ?_; rintro e w1 ⟨rfl, rfl⟩
        go_wp2_with fail
        refine (s_oxWeights _ _ _ ws _ _ h (by omega)).mono ?_; rintro e w1 ⟨rfl, rfl⟩
        have HB0 : Hid (Below w.heap.size w w) := Below.refl _ _
        have HH := Lib.hid h; clear h
        go_wp2
        go_loopw [6, 39] (fun v i wr => ∃ t : Nat, t ≤ n ∧ i = .int .i64 t ∧ Hid (wr.ownsRow w.heap.size 3 1 v (t * k) (ivs (chkN ws qs k n1 t))) ∧ Hid (Below w.heap.size w wr)) (fun _ i _ => n - (intOf i).toNat)
        case atStart => exact ⟨0, by omega, rfl, (by rw [Nat.zero_mul]; exact World.ownsRow_nil _ _ _ _), HB0.out⟩
        case round =>
          obtain ⟨t, ht, rfl, HO, HB⟩ := hrel
          obtain ⟨wo, rfl⟩ : ∃ wo : World, wo = wr := ⟨_, rfl⟩
          clear HB0
          have hz := HB.out.size
          have htk : t * k ≤ 8 * 8 := Nat.mul_le_mul (by omega) (by omega)
          by_cases hlt : t < n
          · obtain ⟨b, off, r, q, c, rfl, hbl, hc, hri⟩ := (HH.out.below HB.out).at hlt
            have eq : q = n1 := by rw [← hri.len.out]; exact (HW.out t hlt).1
            subst eq
            have R := Lib.hid hri; clear hri
            have HL : Hid (chkN ws qs k q (t + 1) = chkN ws qs k q t ++ sumR (rowN ws t) qs k q) := rfl
            have HTK : Hid ((t + 1) * k = t * k + k) := by show _ = _; rw [Nat.add_mul, Nat.one_mul]
            have hc0b := cell_on hc0 HB.out
            go_wp2_with fail
            refine (s_oxSum _ _ _ (rowN ws t) _ _ _ qs k _ R.out (HH1.out.below HB.out) (Nat.le_refl _) (by omega) (by omega) HQ.out).mono ?_; rintro e w6 ⟨r6, c6, rfl, hm6, hb6⟩
            have HO6 := Lib.hid (ownsRow_below HO.out hb6); have HM6 := Lib.hid hm6; have HB6 := Lib.hid (bel_trans HB.out hb6); clear hm6 hb6
            have hz6 := HB6.out.size
            go_wp2_with (at_builtin; refine wp_apps w6 w.heap.size (t * k) _ (chkN ws qs k q t) (sumR (rowN ws t) qs k q) _ k _ rfl _ _ rfl rfl rfl HM6.out.ints HO6.out hz6 (by omega) ?_; intro v9 w9 hv9 hb9 hg9)
            clear hg9
            go_roundw
            case rel => exact ⟨t + 1, by omega, by go_num, (by rw [HL.out, HTK.out]; exact hv9), (show Hid _ from HB6.out.trans hb9)⟩
            case measure => simp [intOf]; omega
          · obtain rfl : t = n := by omega
            obtain ⟨r, c, hv, hm⟩ := Mine.of HO.out (by omega) (chkN_fit _ _ _ _ _)
            subst hv
            have HM := Lib.hid hm; clear hm HO
            go_wp2
            go_ret2
            rw [HR.out, HX.out]
            exact ListRetB.yes (chkN_len _ _ _ _ _) HM.out (Nat.le_refl _) HB.out
end Go.Proofs.YtfejpmfcognikaaGreat
