/-
  Bounds of what FnProducts adds up and multiplies.
-/
import Derived.Test.YtfandnakenpfnaaPo
namespace Go.Proofs.Ytfandnakenpfnaa
set_option linter.unusedVariables false
set_option linter.unusedSimpArgs false

theorem dsum_bd (p : Int) (hp : 2 ≤ p) (hp2 : p ≤ 251) (xs ys : List (List Int)) : ∀ k : Nat, 0 ≤ dsum p xs ys k ∧ dsum p xs ys k ≤ 62500 * k
  | 0 => by simp [dsum]
  | k + 1 => by
    have h := dsum_bd p hp hp2 xs ys k
    have a := emod_bd (n := sm (rowN xs k)) (p := p) (by omega)
    have b := emod_bd (n := sm (rowN ys k)) (p := p) (by omega)
    have c := mul_bd (a := sm (rowN xs k) % p) (b := sm (rowN ys k) % p) 250 250 (by omega) (by omega) (by omega) (by omega)
    rw [dsum]; omega
theorem pwO_bd (p b : Int) (hp : 2 ≤ p) : ∀ k : Nat, 0 ≤ pwO p b k ∧ pwO p b k ≤ p - 1
  | 0 => by simp [pwO]; omega
  | k + 1 => by
    have := emod_bd (n := pwO p b k * b) (p := p) (by omega)
    rw [pwO]; omega
end Go.Proofs.Ytfandnakenpfnaa
