/-
  Bits from digests: bitsFrom, dgBits.
-/
import Derived.Test.YtfichpppjpgahaaD2
namespace Go.Proofs.Ytfichpppjpgahaa
open Go.RowKit
set_option linter.unusedVariables false
set_option linter.unusedSimpArgs false

def bitAt (l : List Int) (k : Nat) : Int := dgMix (l ++ [(k : Int), 2]) / 8 % 2
def bitsL (l : List Int) (n : Nat) : List Int := (List.range n).map (bitAt l)
theorem bitAt_bd (l : List Int) (k : Nat) : 0 ≤ bitAt l k ∧ bitAt l k ≤ 1 := by unfold bitAt; omega
theorem bitsL_succ (l : List Int) (n : Nat) : bitsL l (n + 1) = bitsL l n ++ [bitAt l n] := by simp [bitsL, List.range_succ]
theorem bitsL_fit (l : List Int) (n : Nat) : ∀ x ∈ bitsL l n, Fits x := by
  intro x hx
  simp only [bitsL, List.mem_map] at hx
  obtain ⟨k, _, rfl⟩ := hx
  have := bitAt_bd l k
  unfold Fits; omega
theorem small_two {l : List Int} {k : Nat} (h : ∀ x ∈ l, Small x) (hk : k ≤ 100000) : ∀ x ∈ l ++ [(k : Int), 2], Small x := fun x hx => by
  rcases List.mem_append.1 hx with j | j
  · exact h x j
  · simp at j; rcases j with j | j <;> rw [j] <;> unfold Small <;> omega