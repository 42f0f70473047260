/-
  Plain laws: polynomials over a field of residues.
-/
import Derived.Test.YtfichpppjpgahaaGf
namespace Go.Proofs.Ytfichpppjpgahaa
set_option linter.unusedVariables false
set_option linter.unusedSimpArgs false

/-- The inverse that the program computes. -/
def invP (p a : Int) : Int := pw p a (p - 2).toNat
theorem invP_mul (p a b : Int) : invP p (a * b % p) = invP p a * invP p b % p := pw_mulbase p a b _
theorem pow_modL (a p : Int) : ∀ n : Nat, (a % p) ^ n % p = a ^ n % p
  | 0 => by rw [Int.pow_zero, Int.pow_zero]
  | n + 1 => by rw [Int.pow_succ, Int.pow_succ, Int.mul_emod, pow_modL a p n, Int.emod_emod, ← Int.mul_emod]
theorem invP_mod (p a : Int) : invP p (a % p) = invP p a := pow_modL a p _
/-- The value of a polynomial, the lowest coefficient first. -/
def pl : List Int → Int → Int
  | [], _ => 0
  | c :: cs, x => c + x * pl cs x
/-- A polynomial times x + a, coefficients reduced: the lowest first. -/
def mxGo (p a : Int) : Int → List Int → List Int
  | prev, [] => [prev % p]
  | prev, c :: cs => (prev % p + c * a) % p :: mxGo p a c cs
def mx (p a : Int) (l : List Int) : List Int := mxGo p a 0 l
theorem mxGo_len (p a : Int) : ∀ (l : List Int) (prev : Int), (mxGo p a prev l).length = l.length + 1
  | [], _ => rfl
  | c :: cs, prev => by rw [mxGo, List.length_cons, mxGo_len p a cs c]; rfl
theorem mxGo_bd {p : Int} (hp : 2 ≤ p) (a : Int) : ∀ (l : List Int) (prev : Int), ∀ x ∈ mxGo p a prev l, 0 ≤ x ∧ x < p
  | [], prev, x, hx => by
    simp only [mxGo, List.mem_singleton] at hx; subst hx
    exact ⟨Int.emod_nonneg _ (by omega), Int.emod_lt_of_pos _ (by omega)⟩
  | c :: cs, prev, x, hx => by
    rw [mxGo] at hx
    rcases List.mem_cons.1 hx with e | e
    · subst e; exact ⟨Int.emod_nonneg _ (by omega), Int.emod_lt_of_pos _ (by omega)⟩
    · exact mxGo_bd hp a cs c x e
theorem emod_step {p x y : Int} (h : x % p = y % p) (z : Int) : (z + x) % p = (z + y) % p := by rw [Int.add_emod, h, ← Int.add_emod]
theorem mul_step {p x y : Int} (h : x % p = y % p) (z : Int) : (z * x) % p = (z * y) % p := by rw [Int.mul_emod, h, ← Int.mul_emod]
theorem pl_mxGo (p a x : Int) : ∀ (l : List Int) (prev : Int), pl (mxGo p a prev l) x % p = (prev + (x + a) * pl l x) % p
  | [], prev => by simp [mxGo, pl]
  | c :: cs, prev => by
    have ih := pl_mxGo p a x cs c
    rw [mxGo, pl, pl]
    have h1 := mul_step ih x
    have h2 : (prev % p + c * a) % p % p = (prev + c * a) % p := by rw [Int.emod_emod, Int.emod_add_emod]
    have h3 := emod_step h1 ((prev % p + c * a) % p)
    rw [h3, Int.add_emod, h2, ← Int.add_emod]
    congr 1
    grind
/-- A scaled polynomial. -/
def scl (p s : Int) (l : List Int) : List Int := l.map fun c => c * s % p
theorem mxGo_scl {p a a' : Int} (ha : a % p = a' % p) (s : Int) : ∀ (l : List Int) (prev : Int), mxGo p a' (prev * s % p) (scl p s l) = scl p s (mxGo p a prev l)
  | [], prev => by
    simp only [scl, mxGo, List.map_nil, List.map_cons]
    congr 1
    rw [Int.emod_emod, Int.mul_emod (prev % p), Int.emod_emod, ← Int.mul_emod]
  | c :: cs, prev => by
    have ih := mxGo_scl ha s cs c
    unfold scl at ih ⊢
    rw [List.map_cons, mxGo, mxGo, List.map_cons, ih]
    congr 1
    have h1 : c * s % p * a' % p = c * s * a' % p := by rw [Int.mul_emod, Int.emod_emod, ← Int.mul_emod]
    have h2 : (prev * s % p % p + c * s % p * a') % p = (prev * s + c * s * a') % p := by
      rw [Int.emod_emod, Int.emod_add_emod, ← Int.add_emod_emod, h1, Int.add_emod_emod]
    have h3 : (prev % p + c * a) % p * s % p = (prev + c * a) * s % p := by rw [Int.emod_add_emod, Int.mul_emod, Int.emod_emod, ← Int.mul_emod]
    have h4 : (prev * s + c * s * a') % p = (prev * s + c * s * a) % p := emod_step (mul_step ha.symm (c * s)) (prev * s)
    rw [h2, h3, h4]
    congr 1
    grind
theorem pl_scl (p s x : Int) : ∀ l : List Int, pl (scl p s l) x % p = s * pl l x % p
  | [] => by simp [scl, pl]
  | c :: cs => by
    have ih := pl_scl p s x cs
    unfold scl at ih ⊢
    rw [List.map_cons, pl, pl]
    have h1 := mul_step ih x
    have h2 := emod_step h1 (c * s % p)
    rw [h2, Int.emod_add_emod]
    congr 1
    grind
/-- Two polynomials of one length are added, the second one scaled. -/
def addS (p s : Int) : List Int → List Int → List Int
  | o :: os, c :: cs => (o + c * s) % p :: addS p s os cs
  | os, [] => os
  | [], _ => []
theorem addS_len (p s : Int) : ∀ os cs : List Int, os.length = cs.length → (addS p s os cs).length = os.length
  | [], [], _ => rfl
  | o :: os, c :: cs, h => by rw [addS, List.length_cons, addS_len p s os cs (by simpa using h), List.length_cons]
  | [], _ :: _, h => by simp at h
  | _ :: _, [], h => by simp at h
theorem pl_addS (p s x : Int) : ∀ os cs : List Int, os.length = cs.length → pl (addS p s os cs) x % p = (pl os x + s * pl cs x) % p
  | [], [], _ => by simp [addS, pl]
  | o :: os, c :: cs, h => by
    have ih := pl_addS p s x os cs (by simpa using h)
    rw [addS, pl, pl, pl]
    have h1 := mul_step ih x
    have h2 := emod_step h1 ((o + c * s) % p)
    rw [h2, Int.emod_add_emod]
    congr 1
    grind
  | [], _ :: _, h => by simp at h
  | _ :: _, [], h => by simp at h
/-- The scaled sum is the sum of what is scaled. -/
theorem addS_scl (p s : Int) : ∀ os cs : List Int, addS p 1 os (scl p s cs) = addS p s os cs
  | o :: os, c :: cs => by
    have ih := addS_scl p s os cs
    unfold scl at ih ⊢
    rw [List.map_cons, addS, addS, ih, Int.mul_one, Int.add_emod_emod]
  | [], [] => rfl
  | _ :: _, [] => rfl
  | [], _ :: _ => rfl
end Go.Proofs.Ytfichpppjpgahaa
