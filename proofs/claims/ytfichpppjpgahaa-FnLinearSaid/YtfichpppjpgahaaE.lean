/-
  Bits: lists of them, seed columns, rows of columns.
-/
import Derived.Test.YtfichpppjpgahaaD10
import Derived.Test.YtfichpppjpgahaaRF
import Derived.Test.YtfichpppjpgahaaSt
namespace Go.Proofs.Ytfichpppjpgahaa
open Go.RowKit
set_option linter.unusedVariables false
set_option linter.unusedSimpArgs false

def bitsB (xs : List Int) : Bool := allIn xs 0 1
theorem bitsB_nth {xs : List Int} (h : bitsB xs = true) {i : Nat} (hi : i < xs.length) : 0 ≤ nth xs i ∧ nth xs i ≤ 1 := inB_iff.1 (allIn_iff.1 h i hi)
theorem bitsB_mk {xs : List Int} (h : ∀ i, i < xs.length → 0 ≤ nth xs i ∧ nth xs i ≤ 1) : bitsB xs = true := allIn_iff.2 fun i hi => inB_iff.2 (h i hi)
theorem bitsL_len (l : List Int) (n : Nat) : (bitsL l n).length = n := by simp [bitsL]
theorem nth_bitsL {l : List Int} {n i : Nat} (hi : i < n) : nth (bitsL l n) i = bitAt l i := by simp [nth, bitsL, hi]
theorem bitsL_bits (l : List Int) (n : Nat) : bitsB (bitsL l n) = true := bitsB_mk fun i hi => by rw [bitsL_len] at hi; rw [nth_bitsL hi]; exact bitAt_bd l i
theorem xrL_len (xs ys : List Int) (n : Nat) : (xrL xs ys n).length = n := by simp [xrL]
theorem nth_xrL {xs ys : List Int} {n i : Nat} (hi : i < n) : nth (xrL xs ys n) i = xr (nth xs i) (nth ys i) := by simp [nth, xrL, hi]
theorem xrL_bits (xs ys : List Int) (n : Nat) : bitsB (xrL xs ys n) = true := bitsB_mk fun i hi => by rw [xrL_len] at hi; rw [nth_xrL hi]; exact xr_bd _ _
/-- Lists of bits of one length. -/
def listsB (l : List (List Int)) (m : Int) : Bool := l.all fun x => decide ((x.length : Int) = m) && bitsB x
theorem listsB_at {l : List (List Int)} {m : Int} (h : listsB l m = true) {i : Nat} (hi : i < l.length) : ((rowN l i).length : Int) = m ∧ bitsB (rowN l i) = true := by
  have := allR_iff.1 h i hi
  simp only [Bool.and_eq_true, decide_eq_true_iff] at this
  exact this
theorem listsB_mk {l : List (List Int)} {m : Int} (h : ∀ i, i < l.length → ((rowN l i).length : Int) = m ∧ bitsB (rowN l i) = true) : listsB l m = true := by
  refine allR_iff.2 fun i hi => ?_
  simp only [Bool.and_eq_true, decide_eq_true_iff]
  exact h i hi
theorem listsB_no {l : List (List Int)} {m : Int} {i : Nat} (hi : i < l.length) (h : ¬ (((rowN l i).length : Int) = m ∧ bitsB (rowN l i) = true)) : listsB l m = false := by
  refine allR_no hi ?_
  cases k : (decide (((rowN l i).length : Int) = m) && bitsB (rowN l i)) with
  | false => rfl
  | true => simp only [Bool.and_eq_true, decide_eq_true_iff] at k; exact absurd k h
/-- Seed columns. -/
def seedC (key i side : Int) (m : Nat) : List Int := bitsL [key, i, side, 31] m
def seedCs (key side : Int) (m k : Nat) : List (List Int) := (List.range k).map fun (i : Nat) => seedC key i side m
theorem seedCs_succ (key side : Int) (m k : Nat) : seedCs key side m (k + 1) = seedCs key side m k ++ [seedC key k side m] := by simp [seedCs, List.range_succ]
theorem seedCs_len (key side : Int) (m k : Nat) : (seedCs key side m k).length = k := by simp [seedCs]
theorem rowN_seedCs {key side : Int} {m k i : Nat} (hi : i < k) : rowN (seedCs key side m k) i = seedC key i side m := by simp [rowN, seedCs, hi]
theorem seedC_len (key i side : Int) (m : Nat) : (seedC key i side m).length = m := bitsL_len _ _
theorem seedC_bits (key i side : Int) (m : Nat) : bitsB (seedC key i side m) = true := bitsL_bits _ _
/-- Rows of columns. -/
def colAt (cs : List (List Int)) (j t : Nat) : List Int := (List.range t).map fun i => nth (rowN cs i) j
theorem colAt_succ (cs : List (List Int)) (j t : Nat) : colAt cs j (t + 1) = colAt cs j t ++ [nth (rowN cs t) j] := by simp [colAt, List.range_succ]
theorem colAt_len (cs : List (List Int)) (j t : Nat) : (colAt cs j t).length = t := by simp [colAt]
theorem nth_colAt {cs : List (List Int)} {j t i : Nat} (hi : i < t) : nth (colAt cs j t) i = nth (rowN cs i) j := by simp [nth, colAt, hi]
def turnL (cs : List (List Int)) (k m : Nat) : List (List Int) := (List.range m).map fun j => colAt cs j k
theorem turnL_succ (cs : List (List Int)) (k m : Nat) : turnL cs k (m + 1) = turnL cs k m ++ [colAt cs m k] := by simp [turnL, List.range_succ]
theorem turnL_len (cs : List (List Int)) (k m : Nat) : (turnL cs k m).length = m := by simp [turnL]
theorem rowN_turnL {cs : List (List Int)} {k m j : Nat} (hj : j < m) : rowN (turnL cs k m) j = colAt cs j k := by simp [rowN, turnL, hj]
theorem pre_le (xss : List (List Int)) (n q : Nat) (h : ∀ i, i < n → (rowN xss i).length ≤ q) : pre xss n ≤ n * q := by
  induction n with
  | zero => simp [pre]
  | succ n ih => have h1 := ih (fun i hi => h i (by omega)); have h2 := h n (by omega); rw [pre, Nat.add_mul]; omega
theorem small4' {a b c d : Int} (ha : 0 ≤ a ∧ a ≤ 1000000000) (hb : 0 ≤ b ∧ b ≤ 1000000) (hc : 0 ≤ c ∧ c ≤ 1000000) (hd : 0 ≤ d ∧ d ≤ 1000000) : ∀ x ∈ [a, b, c, d], Small x := by
  intro x hx; simp at hx; unfold Small
  rcases hx with rfl | rfl | rfl | rfl <;> omega

def keyE (key : Int) : Bool := inB key 0 1000000000
set_option maxHeartbeats 400000 in
theorem i_isKeyE (x : Int) (w : World) : Calls Try.prog 124 #[.int .i64 x] w fun e w' => e = .returned (.bool (keyE x)) ∧ w = w' := by
  go_enter Try.func124, Try.ntmps124
  go_wp2_with (go_at_call 64; refine (i_within _ _ _ _).mono ?_; rintro e w' ⟨rfl, rfl⟩)
  go_ret
  exact ⟨rfl, rfl⟩
def secB (xs : List Int) : Bool := inB xs.length 1 8 && bitsB xs
def chosB (xs : List Int) : Bool := inB xs.length 0 24 && bitsB xs