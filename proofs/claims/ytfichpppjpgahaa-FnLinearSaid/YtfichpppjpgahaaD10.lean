/-
  The reference's xor of two lists of bits.
-/
import Derived.Test.YtfichpppjpgahaaD9
namespace Go.Proofs.Ytfichpppjpgahaa
open Go.RowKit
set_option linter.unusedVariables false
set_option linter.unusedSimpArgs false

def xr (a b : Int) : Int := (a + b) % 2
theorem xr_bd (a b : Int) : 0 ≤ xr a b ∧ xr a b ≤ 1 := by unfold xr; omega
theorem xr_eq {a b : Int} (ha : 0 ≤ a ∧ a ≤ 1) (hb : 0 ≤ b ∧ b ≤ 1) : bits .xor .i64 a b = xr a b := by
  rcases (show a = 0 ∨ a = 1 by omega) with rfl | rfl <;> rcases (show b = 0 ∨ b = 1 by omega) with rfl | rfl <;> decide
def xrL (xs ys : List Int) (n : Nat) : List Int := (List.range n).map (fun k => xr (nth xs k) (nth ys k))
theorem xrL_succ (xs ys : List Int) (n : Nat) : xrL xs ys (n + 1) = xrL xs ys n ++ [xr (nth xs n) (nth ys n)] := by simp [xrL, List.range_succ]
theorem xrL_fit (xs ys : List Int) (n : Nat) : ∀ x ∈ xrL xs ys n, Fits x := by
  intro x hx
  simp only [xrL, List.mem_map] at hx
  obtain ⟨k, _, rfl⟩ := hx
  have := xr_bd (nth xs k) (nth ys k)
  unfold Fits; omega