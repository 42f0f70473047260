/-
  Contracts: CheckTriple, PassingChecks.
-/
import Derived.Test.YtklgneaamhjfpaaM3
namespace Go.Proofs.Ytklgneaamhjfpaa
open Go.RowKit
set_option linter.unusedVariables false
set_option linter.unusedSimpArgs false

theorem cg_mul {p a b c d : Int} (h : a % p = b % p) (k : c % p = d % p) : (a * c) % p = (b * d) % p := by rw [Int.mul_emod, h, k, ← Int.mul_emod]
theorem cg_sub {p a b c d : Int} (h : a % p = b % p) (k : c % p = d % p) : (a - c) % p = (b - d) % p := by rw [Int.sub_emod, h, k, ← Int.sub_emod]
theorem cg_add {p a b c d : Int} (h : a % p = b % p) (k : c % p = d % p) : (a + c) % p = (b + d) % p := by rw [Int.add_emod, h, k, ← Int.add_emod]
theorem cg_mod (p a : Int) : (a % p) % p = a % p := Int.emod_emod_of_dvd _ (Int.dvd_refl p)
/-- What a check asks to be 0, of the sums. -/
def chkO (p a f r : Int) : Int := (r * a - f) % p
def chkQ (p b g : Int) : Int := (b - g) % p
def chkV (p a b c f g h r : Int) : Int := r * c - h - chkQ p b g * f - chkO p a f r * g - chkQ p b g * chkO p a f r
theorem chkV_mod (p a b c f g h r : Int) : chkV p (a % p) (b % p) (c % p) (f % p) (g % p) (h % p) r % p = chkV p a b c f g h r % p := by
  have e1 : chkO p (a % p) (f % p) r = chkO p a f r := cg_sub (cg_mul rfl (cg_mod p a)) (cg_mod p f)
  have e2 : chkQ p (b % p) (g % p) = chkQ p b g := cg_sub (cg_mod p b) (cg_mod p g)
  unfold chkV
  rw [e1, e2]
  exact cg_sub (cg_sub (cg_sub (cg_sub (cg_mul rfl (cg_mod p c)) (cg_mod p h)) (cg_mul rfl (cg_mod p f))) (cg_mul rfl (cg_mod p g))) rfl
def chkB (p : Int) (s t u v : List Int) (r : Int) : Bool :=
  decide (chkV p (nth s 0 + nth t 0) (nth s 1 + nth t 1) (nth s 2 + nth t 2) (nth u 0 + nth v 0) (nth u 1 + nth v 1) (nth u 2 + nth v 2) r % p = 0)
def fourB (p : Int) (s t u v : List Int) : Bool := lnB p s 3 && (lnB p t 3 && (lnB p u 3 && lnB p v 3))
def checkTriple (p : Int) (s t u v : List Int) (r : Int) : Bool × Bool := if fourB p s t u v && elB p r then (chkB p s t u v r, true) else (false, false)
def pcSum (p : Int) (s t u v : List Int) : Nat → Int
  | 0 => 0
  | n + 1 => pcSum p s t u v n + bitN (chkB p s t u v n)
theorem pcSum_bd (p : Int) (s t u v : List Int) (n : Nat) : 0 ≤ pcSum p s t u v n ∧ pcSum p s t u v n ≤ n := by
  induction n with
  | zero => simp [pcSum]
  | succ n ih => have := bitN_bd (chkB p s t u v n); rw [pcSum]; omega
def passingChecks (p : Int) (s t u v : List Int) : Int × Bool := if fourB p s t u v then (pcSum p s t u v p.toNat, true) else (0, false)
