/-
  Plain laws: the polynomial through points, both ways.
-/
import Derived.Test.YtfichpppjpgahaaLa
namespace Go.Proofs.Ytfichpppjpgahaa
set_option linter.unusedVariables false
set_option linter.unusedSimpArgs false

/-- The product of the other factors, its value at the point, as the program makes them. -/
def prI (p : Int) (xs : List Int) (i : Nat) : Nat → List Int
  | 0 => [1]
  | k + 1 => if k = i then prI p xs i k else mx p (p - nth xs k) (prI p xs i k)
def vaI (p : Int) (xs : List Int) (i : Nat) : Nat → Int
  | 0 => 1
  | k + 1 => if k = i then vaI p xs i k else vaI p xs i k * (nth xs i - nth xs k + p) % p
/-- The part of a point, as the reference makes it; its scale. -/
def paS (p : Int) (xs : List Int) (y : Int) (i : Nat) : Nat → List Int
  | 0 => [y]
  | k + 1 => if k = i then paS p xs y i k else scl p (invP p ((nth xs i - nth xs k) % p)) (mx p (-nth xs k % p) (paS p xs y i k))
def scS (p : Int) (xs : List Int) (y : Int) (i : Nat) : Nat → Int
  | 0 => y
  | k + 1 => if k = i then scS p xs y i k else scS p xs y i k * invP p ((nth xs i - nth xs k) % p) % p
theorem scl_scl (p s S : Int) (l : List Int) : scl p s (scl p S l) = scl p (S * s % p) l := by
  unfold scl
  rw [List.map_map]
  apply List.map_congr_left
  intro c _
  show c * S % p * s % p = c * (S * s % p) % p
  rw [Int.mul_emod (c * S % p), Int.emod_emod, ← Int.mul_emod, Int.mul_emod c (S * s % p), Int.emod_emod, ← Int.mul_emod, Int.mul_assoc]
theorem mx_scl {p a a' : Int} (ha : a % p = a' % p) (s : Int) (l : List Int) : mx p a' (scl p s l) = scl p s (mx p a l) := by
  have := mxGo_scl ha s l 0
  rw [Int.zero_mul, Int.zero_emod] at this
  exact this
theorem paS_eq {p y : Int} (hy : 0 ≤ y ∧ y < p) (xs : List Int) (i : Nat) : ∀ k, paS p xs y i k = scl p (scS p xs y i k) (prI p xs i k)
  | 0 => by simp [paS, scS, prI, scl, Int.emod_eq_of_lt hy.1 hy.2]
  | k + 1 => by
    have ih := paS_eq hy xs i k
    rw [paS, scS, prI]
    split
    · exact ih
    · rw [ih, mx_scl (a := p - nth xs k) (by rw [Int.emod_emod]; rw [show p - nth xs k = -nth xs k + p by omega, Int.add_emod_right]), scl_scl]
theorem invP_one {p : Int} (hp : 2 ≤ p) : invP p 1 = 1 := pw_one p _ hp
theorem scS_bd {p y : Int} (hp : 2 ≤ p) (hy : 0 ≤ y ∧ y < p) (xs : List Int) (i : Nat) : ∀ k, 0 ≤ scS p xs y i k ∧ scS p xs y i k < p
  | 0 => hy
  | k + 1 => by
    rw [scS]; split
    · exact scS_bd hp hy xs i k
    · exact ⟨Int.emod_nonneg _ (by omega), Int.emod_lt_of_pos _ (by omega)⟩
theorem scS_inv {p y : Int} (hp : 2 ≤ p) (xs : List Int) (i : Nat) : ∀ k, scS p xs y i k % p = y * invP p (vaI p xs i k) % p
  | 0 => by rw [scS, vaI, invP_one hp, Int.mul_one]
  | k + 1 => by
    have ih := scS_inv (y := y) hp xs i k
    rw [scS, vaI]
    split
    · exact ih
    · rw [invP_mul, show invP p (nth xs i - nth xs k + p) = invP p ((nth xs i - nth xs k) % p) by rw [← invP_mod p (nth xs i - nth xs k + p), Int.add_emod_right]]
      rw [Int.emod_emod, Int.mul_emod, ih, ← Int.mul_emod, Int.mul_emod y, Int.emod_emod, ← Int.mul_emod, Int.mul_assoc]
theorem scS_eq {p y : Int} (hp : 2 ≤ p) (hy : 0 ≤ y ∧ y < p) (xs : List Int) (i k : Nat) : scS p xs y i k = y * invP p (vaI p xs i k) % p := by
  have h := scS_bd hp hy xs i k
  rw [← scS_inv hp, Int.emod_eq_of_lt h.1 h.2]
/-- The polynomial, both ways. -/
def polyI (p : Int) (xs ys : List Int) (n : Nat) : Nat → List Int
  | 0 => List.replicate n 0
  | i + 1 => addS p (nth ys i * invP p (vaI p xs i n) % p) (polyI p xs ys n i) (prI p xs i n)
def polyS (p : Int) (xs ys : List Int) (n : Nat) : Nat → List Int
  | 0 => List.replicate n 0
  | i + 1 => addS p 1 (polyS p xs ys n i) (paS p xs (nth ys i) i n)
theorem poly_eq {p : Int} (hp : 2 ≤ p) (xs ys : List Int) (n : Nat) (hy : ∀ i, 0 ≤ nth ys i ∧ nth ys i < p) : ∀ i, polyI p xs ys n i = polyS p xs ys n i
  | 0 => rfl
  | i + 1 => by rw [polyI, polyS, paS_eq (hy i), addS_scl, poly_eq hp xs ys n hy i, scS_eq hp (hy i)]
/-- The product of the roots. -/
def rt (xs : List Int) (i : Nat) (x : Int) : Nat → Int
  | 0 => 1
  | k + 1 => if k = i then rt xs i x k else rt xs i x k * (x - nth xs k)
theorem pl_prI (p : Int) (xs : List Int) (i : Nat) (x : Int) : ∀ k, pl (prI p xs i k) x % p = rt xs i x k % p
  | 0 => by simp [prI, rt, pl]
  | k + 1 => by
    have ih := pl_prI p xs i x k
    rw [prI, rt]
    split
    · exact ih
    · unfold mx
      rw [pl_mxGo, Int.zero_add, show x + (p - nth xs k) = x - nth xs k + p by omega, Int.mul_emod, Int.add_emod_right, ih, ← Int.mul_emod, Int.mul_comm]
theorem vaI_rt (p : Int) (xs : List Int) (i : Nat) : ∀ k, vaI p xs i k % p = rt xs i (nth xs i) k % p
  | 0 => by simp [vaI, rt]
  | k + 1 => by
    have ih := vaI_rt p xs i k
    rw [vaI, rt]
    split
    · exact ih
    · rw [Int.emod_emod, Int.mul_emod, ih, Int.add_emod_right, ← Int.mul_emod]
end Go.Proofs.Ytfichpppjpgahaa
