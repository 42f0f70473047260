/-
  Contracts: ShareInputs, both sides.
-/
import Derived.Test.YtfejpmfcognikaaC6
namespace Go.Proofs.Ytfejpmfcognikaa
open Go.RowKit
set_option linter.unusedVariables false
set_option linter.unusedSimpArgs false
set_option maxRecDepth 10000

def shAll (i0 i1 : Int) (gs : List Int) (gn : Nat) (os : List Int) (key : Int) (us vs : List Int) : List Int × List Int × Bool :=
  if askB i0 i1 gs gn os us vs && keyB key then (shU key us vs, shV key us vs, true) else ([], [], false)
theorem askB_len {i0 i1 : Int} {gs os us vs : List Int} {gn : Nat} (h : askB i0 i1 gs gn os us vs = true) : us.length ≤ 20 ∧ vs.length ≤ 20 := by
  obtain ⟨h1, _, _, h2, h3⟩ := askB_iff.1 h
  obtain ⟨h4, h5, _, _⟩ := circB_in h1
  omega
theorem shAll_len (i0 i1 : Int) (gs : List Int) (gn : Nat) (os : List Int) (key : Int) (us vs : List Int) : (shAll i0 i1 gs gn os key us vs).1.length ≤ 40 ∧ (shAll i0 i1 gs gn os key us vs).2.1.length ≤ 40 := by
  unfold shAll
  split
  · rename_i h
    have := askB_len (Bool.and_eq_true_iff.1 h).1
    rw [shU_len, shV_len]; omega
  · simp