/-
  Sums of rows, checks: CheckRows, CheckPasses, both sides.
-/
import Derived.Test.YtfejpmfcognikaaE6
namespace Go.Proofs.Ytfejpmfcognikaa
open Go.RowKit
set_option linter.unusedVariables false
set_option linter.unusedSimpArgs false

/-- The exclusive-or of the rows with the weight 1. -/
def sumR (ws : List Int) (qs : List (List Int)) (k : Nat) : Nat → List Int
  | 0 => List.replicate k 0
  | j + 1 => if nth ws j = 1 then xrL (sumR ws qs k j) (rowN qs j) k else sumR ws qs k j
theorem sumR_len (ws : List Int) (qs : List (List Int)) (k j : Nat) : (sumR ws qs k j).length = k := by
  induction j with
  | zero => simp [sumR]
  | succ j ih => rw [sumR]; split <;> simp [xrL_len, ih]
theorem sumR_bits (ws : List Int) (qs : List (List Int)) (k j : Nat) : bitsB (sumR ws qs k j) = true := by
  induction j with
  | zero => exact bitsB_mk fun i hi => by simp [sumR] at hi; simp [sumR, nth, hi]
  | succ j ih => rw [sumR]; split
                 · exact xrL_bits _ _ _
                 · exact ih
theorem bits_fit {xs : List Int} (h : bitsB xs = true) : ∀ x ∈ xs, Fits x := by
  intro x hx
  obtain ⟨i, hi, rfl⟩ := mem_nth hx
  have := bitsB_nth h hi
  unfold Fits; omega
/-- The parity of choices at a weight. -/
def parC (cs ws : List Int) : Nat → Int
  | 0 => 0
  | j + 1 => xr (parC cs ws j) (nth cs j * nth ws j)
theorem parC_bd (cs ws : List Int) (j : Nat) : 0 ≤ parC cs ws j ∧ parC cs ws j ≤ 1 := by
  cases j with
  | zero => simp [parC]
  | succ j => exact xr_bd _ _
theorem and_eq {a b : Int} (ha : 0 ≤ a ∧ a ≤ 1) (hb : 0 ≤ b ∧ b ≤ 1) : bits .and .i64 a b = a * b := by
  rcases (show a = 0 ∨ a = 1 by omega) with rfl | rfl <;> rcases (show b = 0 ∨ b = 1 by omega) with rfl | rfl <;> decide
theorem mul01 {a b : Int} (ha : 0 ≤ a ∧ a ≤ 1) (hb : 0 ≤ b ∧ b ≤ 1) : 0 ≤ a * b ∧ a * b ≤ 1 := by
  rcases (show a = 0 ∨ a = 1 by omega) with rfl | rfl <;> rcases (show b = 0 ∨ b = 1 by omega) with rfl | rfl <;> decide
/-- One check; all. -/
def passR (secret ws cs : List Int) (t q : List (List Int)) : Bool := decide (dueR (sumR ws t secret.length cs.length) secret (parC cs ws cs.length) = sumR ws q secret.length cs.length)
def passA (secret : List Int) (wss : List (List Int)) (cs : List Int) (t q : List (List Int)) : Bool := wss.all fun ws => passR secret ws cs t q
def chkN (wss qs : List (List Int)) (k m : Nat) : Nat → List Int
  | 0 => []
  | i + 1 => chkN wss qs k m i ++ sumR (rowN wss i) qs k m
theorem chkN_len (wss qs : List (List Int)) (k m i : Nat) : (chkN wss qs k m i).length = i * k := by
  induction i with
  | zero => simp [chkN]
  | succ i ih => rw [chkN, List.length_append, ih, sumR_len, Nat.add_mul, Nat.one_mul]
theorem chkN_fit (wss qs : List (List Int)) (k m i : Nat) : ∀ x ∈ chkN wss qs k m i, Fits x := by
  induction i with
  | zero => simp [chkN]
  | succ i ih =>
    intro x hx
    rw [chkN, List.mem_append] at hx
    rcases hx with hx | hx
    · exact ih x hx
    · exact bits_fit (sumR_bits _ _ _ _) x hx
def chkB (wss qs : List (List Int)) : Bool := decide (qs.length ≠ 0) && (rowsB qs qs.length (rowN qs 0).length && wtB wss qs.length)
def checkRows (wss qs : List (List Int)) : List Int × Bool := if chkB wss qs then (chkN wss qs (rowN qs 0).length qs.length wss.length, true) else ([], false)
theorem chkB_iff {wss qs : List (List Int)} : chkB wss qs = true ↔ qs.length ≠ 0 ∧ rowsB qs qs.length (rowN qs 0).length = true ∧ wtB wss qs.length = true := by
  unfold chkB; simp only [Bool.and_eq_true, decide_eq_true_iff]
theorem chk_t {wss qs : List (List Int)} (h : chkB wss qs = true) : checkRows wss qs = (chkN wss qs (rowN qs 0).length qs.length wss.length, true) := by unfold checkRows; rw [if_pos h]
theorem chk_f {wss qs : List (List Int)} (h : ¬ chkB wss qs = true) : checkRows wss qs = ([], false) := by unfold checkRows; rw [if_neg h]
theorem checkRows_len (wss qs : List (List Int)) : (checkRows wss qs).1.length ≤ 1000 := by
  by_cases h : chkB wss qs = true
  · rw [chk_t h]
    obtain ⟨_, h2, h3⟩ := chkB_iff.1 h
    have h4 := (rowsB_iff.1 h2).2.1
    have h5 := (wtB_iff.1 h3).1
    show (chkN wss qs (rowN qs 0).length qs.length wss.length).length ≤ 1000
    rw [chkN_len]
    have : wss.length * (rowN qs 0).length ≤ 8 * 8 := Nat.mul_le_mul h5 (by omega)
    omega
  · rw [chk_f h]; simp
def cpB (secret : List Int) (wss : List (List Int)) (cs : List Int) (t q : List (List Int)) : Bool := secB secret && (chosB cs && (wtB wss cs.length && (rowsB t cs.length secret.length && rowsB q cs.length secret.length)))
def checkPasses (secret : List Int) (wss : List (List Int)) (cs : List Int) (t q : List (List Int)) : Bool × Bool := if cpB secret wss cs t q then (passA secret wss cs t q, true) else (false, false)
theorem cpB_iff {secret : List Int} {wss : List (List Int)} {cs : List Int} {t q : List (List Int)} : cpB secret wss cs t q = true ↔ secB secret = true ∧ chosB cs = true ∧ wtB wss cs.length = true ∧ rowsB t cs.length secret.length = true ∧ rowsB q cs.length secret.length = true := by
  unfold cpB; simp only [Bool.and_eq_true]
theorem cp_t {secret : List Int} {wss : List (List Int)} {cs : List Int} {t q : List (List Int)} (h : cpB secret wss cs t q = true) : checkPasses secret wss cs t q = (passA secret wss cs t q, true) := by unfold checkPasses; rw [if_pos h]
theorem cp_f {secret : List Int} {wss : List (List Int)} {cs : List Int} {t q : List (List Int)} (h : ¬ cpB secret wss cs t q = true) : checkPasses secret wss cs t q = (false, false) := by unfold checkPasses; rw [if_neg h]
theorem passA_no {secret : List Int} {wss : List (List Int)} {cs : List Int} {t q : List (List Int)} {i : Nat} (hi : i < wss.length) (h : passR secret (rowN wss i) cs t q = false) : passA secret wss cs t q = false := allR_no hi h
theorem passA_yes {secret : List Int} {wss : List (List Int)} {cs : List Int} {t q : List (List Int)} (h : ∀ i, i < wss.length → passR secret (rowN wss i) cs t q = true) : passA secret wss cs t q = true := allR_iff.2 h
/-- A list of ints handed back with a bool. -/
def ListRetB (X : List Int × Bool) (w : World) (e : Ending) (w' : World) : Prop :=
  ∃ r c, e = .returned (.tuple #[.slice r X.1.length c, .bool X.2]) ∧ Mine w' w.heap.size r X.1.length c X.1 ∧ Below w.heap.size w w'
theorem ListRetB.no {w w' : World} (hb : Below w.heap.size w w') : ListRetB ([], false) w (.returned (.tuple #[.slice none 0 0, .bool false])) w' :=
  ⟨none, 0, rfl, Mine.nil, hb⟩
theorem ListRetB.yes {w w' : World} {B n : Nat} {X : List Int} {r : Option Addr} {c : Nat} (hl : X.length = n) (hm : Mine w' B r n c X) (h0 : w.heap.size ≤ B) (hb : Below w.heap.size w w') : ListRetB (X, true) w (.returned (.tuple #[.slice r n c, .bool true])) w' := by
  subst hl
  exact ⟨r, c, rfl, hm.base h0, hb⟩

set_option maxHeartbeats 400000 in
theorem i_rowWidth (a : Option Addr) (n cap : Nat) (xss : List (List Int)) (w : World) (h : Rws w a n cap xss) (h0 : 0 < n) :
    Calls Try.prog 61 #[.slice a n cap] w fun e w' => e = .returned (.int .i64 ((rowN xss 0).length : Nat)) ∧ w = w' := by
  obtain ⟨b, off, r, m, c, rfl, hbl, hc, hri⟩ := h.at (i := 0) h0
  rw [Nat.add_zero] at hc
  have hml := hri.len.out
  rw [hml]
  have hs := h.small
  have h0i : (0 : Int) < (n : Int) := by omega
  clear hml hri
  have h0b : ((n : Int) == 0) = false := by simp; omega
  go_enter Try.func61, Try.ntmps61
  go_wp2
  go_ret
  exact ⟨rfl, rfl⟩
