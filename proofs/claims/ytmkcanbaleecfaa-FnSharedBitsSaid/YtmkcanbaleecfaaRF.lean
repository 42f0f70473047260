/-
  IndexFunc and ContainsFunc over slices of slices of ints.
-/
import Derived.Test.YtmkcanbaleecfaaRU
namespace Go.Proofs.Ytmkcanbaleecfaa
open Go.RowKit
set_option linter.unusedVariables false
set_option linter.unusedSimpArgs false

theorem anyR_no {xss : List (List Int)} {p : List Int → Bool} (h : ∀ i, i < xss.length → p (rowN xss i) = false) : xss.any p = false := by
  rw [List.any_eq_false]
  intro x hx
  obtain ⟨i, hi, rfl⟩ := mem_rowN hx
  rw [h i hi]; decide
theorem anyR_yes {xss : List (List Int)} {p : List Int → Bool} {i : Nat} (hi : i < xss.length) (h : p (rowN xss i) = true) : xss.any p = true := List.any_eq_true.2 ⟨_, rowN_mem hi, h⟩
theorem allR_iff {xss : List (List Int)} {p : List Int → Bool} : xss.all p = true ↔ ∀ i, i < xss.length → p (rowN xss i) = true := by
  rw [List.all_eq_true]
  refine ⟨fun h i hi => h _ (rowN_mem hi), fun h x hx => ?_⟩
  obtain ⟨i, hi, rfl⟩ := mem_rowN hx
  exact h i hi
theorem allR_no {xss : List (List Int)} {p : List Int → Bool} {i : Nat} (hi : i < xss.length) (h : p (rowN xss i) = false) : xss.all p = false := by
  cases k : xss.all p with
  | false => rfl
  | true => rw [allR_iff.1 k i hi] at h; cases h