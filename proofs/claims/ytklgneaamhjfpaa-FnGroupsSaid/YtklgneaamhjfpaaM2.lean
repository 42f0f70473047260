/-
  Contracts: IsTriple, OpenWays, ProductShare, MaskPair.
-/
import Derived.Test.YtklgneaamhjfpaaM
namespace Go.Proofs.Ytklgneaamhjfpaa
open Go.RowKit
set_option linter.unusedVariables false
set_option linter.unusedSimpArgs false

/-- Sums of two lists' numbers, reduced. -/
def sumAt (p : Int) (xs ys : List Int) (i : Nat) : Int := (nth xs i + nth ys i) % p
def sumMod (p : Int) (xs ys : List Int) (n : Nat) : List Int := (List.range n).map (sumAt p xs ys)
theorem sumMod_len (p : Int) (xs ys : List Int) (n : Nat) : (sumMod p xs ys n).length = n := by simp [sumMod]
theorem sumMod_succ (p : Int) (xs ys : List Int) (n : Nat) : sumMod p xs ys (n + 1) = sumMod p xs ys n ++ [sumAt p xs ys n] := by simp [sumMod, List.range_succ]
theorem nth_sumMod {p : Int} {xs ys : List Int} {n i : Nat} (hi : i < n) : nth (sumMod p xs ys n) i = sumAt p xs ys i := by simp [nth, sumMod, hi]
theorem sumMod_fit (p : Int) (xs ys : List Int) (n : Nat) (hp : 2 ≤ p ∧ p ≤ 251) : ∀ x ∈ sumMod p xs ys n, Fits x := by
  intro x hx
  simp only [sumMod, List.mem_map] at hx
  obtain ⟨i, _, rfl⟩ := hx
  have := emod_bd (n := nth xs i + nth ys i) (p := p) (by omega)
  unfold sumAt Fits; omega
def isTriple (p : Int) (s t : List Int) : Bool × Bool := if lnB p s 3 && lnB p t 3 then (decide (((nth s 0 + nth t 0) * (nth s 1 + nth t 1) - (nth s 2 + nth t 2)) % p = 0), true) else (false, false)
def bitN (b : Bool) : Int := if b then 1 else 0
theorem bitN_t : bitN true = 1 := rfl
theorem bitN_f : bitN false = 0 := rfl
theorem bitN_bd (b : Bool) : 0 ≤ bitN b ∧ bitN b ≤ 1 := by cases b <;> simp [bitN]
set_option maxHeartbeats 400000 in
theorem i_bit (b : Bool) (w : World) : Calls Try.prog 87 #[.bool b] w fun e w' => e = .returned (.int .i64 (bitN b)) ∧ w = w' := by
  cases b with
  | true =>
    go_enter Try.func87, Try.ntmps87
    go_wp2
    go_ret
    exact ⟨rfl, rfl⟩
  | false =>
    go_enter Try.func87, Try.ntmps87
    go_wp2
    go_ret
    exact ⟨rfl, rfl⟩

/-! ### OpenWays -/
def owC (p x y d e : Int) (a b : Nat) : Bool := ((x - a) % p == d) && ((y - b) % p == e)
def owIn (p x y d e : Int) (a : Nat) : Nat → Int
  | 0 => 0
  | n + 1 => owIn p x y d e a n + bitN (owC p x y d e a n)
def owOut (p x y d e : Int) (m : Nat) : Nat → Int
  | 0 => 0
  | n + 1 => owOut p x y d e m n + owIn p x y d e n m
theorem owIn_bd (p x y d e : Int) (a n : Nat) : 0 ≤ owIn p x y d e a n ∧ owIn p x y d e a n ≤ n := by
  induction n with
  | zero => simp [owIn]
  | succ n ih => have := bitN_bd (owC p x y d e a n); rw [owIn]; omega
theorem owOut_bd (p x y d e : Int) (m n : Nat) : 0 ≤ owOut p x y d e m n ∧ owOut p x y d e m n ≤ (n * m : Nat) := by
  induction n with
  | zero => simp [owOut]
  | succ n ih => have := owIn_bd p x y d e n m; rw [owOut, Nat.add_mul]; omega
def openWays (p x y d e : Int) : Int × Bool := if elsB p [x, y, d, e] then (owOut p x y d e p.toNat p.toNat, true) else (0, false)