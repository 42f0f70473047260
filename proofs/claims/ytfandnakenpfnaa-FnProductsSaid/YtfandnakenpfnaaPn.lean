/-
  The plain laws on products of shared numbers: one product, a sum of products, a power.
-/
import Derived.Test.YtfandnakenpfnaaPm
import Derived.Test.YtfandnakenpfnaaD13
namespace Go.Proofs.Ytfandnakenpfnaa
set_option linter.unusedVariables false
set_option linter.unusedSimpArgs false

/-- The sum of the two shares. -/
def sm (x : List Int) : Int := nth x 0 + nth x 1
theorem sm_emod2 (a b p : Int) : (a % p + b % p) % p = (a + b) % p := (Int.add_emod a b p).symm
theorem mulP_sum (p key i : Int) (x y : List Int) : sm (mulP p key i x y) % p = (sm x * sm y) % p := by
  have e : sm (mulP p key i x y) = prodSh 0 (tripA p key i) (mulD p x (tripA p key i) (tripB p key i) 0) (mulD p y (tripA p key i) (tripB p key i) 1) % p + prodSh 1 (tripB p key i) (mulD p x (tripA p key i) (tripB p key i) 0) (mulD p y (tripA p key i) (tripB p key i) 1) % p := rfl
  rw [e, sm_emod2]
  obtain ⟨q0, e0⟩ := esplit (t5 p key i 0 - t5 p key i 2) p
  obtain ⟨q1, e1⟩ := esplit (t5 p key i 1 - t5 p key i 3) p
  obtain ⟨q2, e2⟩ := esplit (t5 p key i 0 * t5 p key i 1 - t5 p key i 4) p
  obtain ⟨q3, e3⟩ := esplit (nth x 0 + nth x 1 - (t5 p key i 2 + (t5 p key i 0 - t5 p key i 2) % p)) p
  obtain ⟨q4, e4⟩ := esplit (nth y 0 + nth y 1 - (t5 p key i 3 + (t5 p key i 1 - t5 p key i 3) % p)) p
  have hD : mulD p x (tripA p key i) (tripB p key i) 0 = nth x 0 + nth x 1 - (t5 p key i 2 + (t5 p key i 0 - t5 p key i 2) % p) - p * q3 := e3
  have hE : mulD p y (tripA p key i) (tripB p key i) 1 = nth y 0 + nth y 1 - (t5 p key i 3 + (t5 p key i 1 - t5 p key i 3) % p) - p * q4 := e4
  have hP : prodSh 0 (tripA p key i) (mulD p x (tripA p key i) (tripB p key i) 0) (mulD p y (tripA p key i) (tripB p key i) 1) = t5 p key i 4 + mulD p x (tripA p key i) (tripB p key i) 0 * t5 p key i 3 + mulD p y (tripA p key i) (tripB p key i) 1 * t5 p key i 2 + mulD p x (tripA p key i) (tripB p key i) 0 * mulD p y (tripA p key i) (tripB p key i) 1 := rfl
  have hQ : prodSh 1 (tripB p key i) (mulD p x (tripA p key i) (tripB p key i) 0) (mulD p y (tripA p key i) (tripB p key i) 1) = (t5 p key i 0 * t5 p key i 1 - t5 p key i 4) % p + mulD p x (tripA p key i) (tripB p key i) 0 * ((t5 p key i 1 - t5 p key i 3) % p) + mulD p y (tripA p key i) (tripB p key i) 1 * ((t5 p key i 0 - t5 p key i 2) % p) + 0 := rfl
  rw [hP, hQ, hD, hE, e0, e1, e2]
  unfold sm
  generalize t5 p key i 0 = t0
  generalize t5 p key i 1 = t1
  generalize t5 p key i 2 = t2
  generalize t5 p key i 3 = t3
  generalize t5 p key i 4 = t4
  exact econg (-q2 + q1 * t0 + q0 * t1 - p * q0 * q1 - q4 * (nth x 0 + nth x 1) - q3 * (nth y 0 + nth y 1) + p * q3 * q4) (by grind)
/-- What the law adds up for a sum of products. -/
def dsum (p : Int) (xs ys : List (List Int)) : Nat → Int
  | 0 => 0
  | k + 1 => dsum p xs ys k + sm (rowN xs k) % p * (sm (rowN ys k) % p)
theorem addP_sum (p : Int) (u v : List Int) : sm (addP p u v) % p = (sm u + sm v) % p := by
  have e : sm (addP p u v) = (nth u 0 + nth v 0) % p + (nth u 1 + nth v 1) % p := rfl
  rw [e, sm_emod2]; unfold sm
  congr 1; omega
theorem dot_sum (p key : Int) (xs ys : List (List Int)) : ∀ k, sm (dotN p key xs ys k) % p = dsum p xs ys k % p
  | 0 => rfl
  | k + 1 => by
    rw [dotN, addP_sum, dsum, Int.add_emod, dot_sum p key xs ys k, mulP_sum, Int.mul_emod, ← Int.add_emod]
/-- What the law multiplies for a power. -/
def pwO (p b : Int) : Nat → Int
  | 0 => 1
  | k + 1 => pwO p b k * b % p
theorem emod2 (a p : Int) : a % p % p = a % p := Int.emod_emod_of_dvd _ (Int.dvd_refl p)
theorem pow_sum (p key : Int) (x : List Int) : ∀ k, sm (powL p key x k) % p = pwO p (sm x % p) (k + 1) % p
  | 0 => by
    show sm x % p = 1 * (sm x % p) % p % p
    rw [Int.one_mul, emod2, emod2]
  | k + 1 => by
    rw [powL, mulP_sum, Int.mul_emod, pow_sum p key x k]
    show _ = pwO p (sm x % p) (k + 1) * (sm x % p) % p % p
    rw [emod2, Int.mul_emod (pwO p (sm x % p) (k + 1)) (sm x % p) p, emod2]
end Go.Proofs.Ytfandnakenpfnaa
