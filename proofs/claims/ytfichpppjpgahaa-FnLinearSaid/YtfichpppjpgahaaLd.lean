/-
  Plain laws: Gauss's elimination over a field of residues.
-/
import Derived.Test.YtfichpppjpgahaaLc
namespace Go.Proofs.Ytfichpppjpgahaa
set_option linter.unusedVariables false
set_option linter.unusedSimpArgs false

/-- A matrix, by its entries. -/
abbrev Mat := Nat → Nat → Int
def dotF (r : Nat → Int) (s : Nat → Int) : Nat → Int
  | 0 => 0
  | n + 1 => dotF r s n + r n * s n
/-- A row of n unknowns and its right side is fulfilled. -/
def okR (p : Int) (n : Nat) (r : Nat → Int) (s : Nat → Int) : Prop := (dotF r s n - r n) % p = 0
def swp (M : Mat) (c k : Nat) : Mat := fun i => if i = c then M k else if i = k then M c else M i
def stepM (p : Int) (M : Mat) (c k : Nat) : Mat := fun i j =>
  if i = c then swp M c k c j * invP p (swp M c k c c) % p
  else (swp M c k i j - swp M c k i c * (swp M c k c j * invP p (swp M c k c c) % p)) % p
theorem dotF_mod (p u : Int) (r q : Nat → Int) (s : Nat → Int) (f : Int) : ∀ n, (∀ j, j < n → q j % p = (r j * u) % p) → dotF q s n % p = u * dotF r s n % p
  | 0, _ => by simp [dotF]
  | n + 1, h => by
    have ih := dotF_mod p u r q s f n (fun j hj => h j (by omega))
    rw [dotF, dotF, Int.add_emod, ih, Int.mul_emod (q n), h n (by omega), ← Int.mul_emod, ← Int.add_emod]
    congr 1
    grind
theorem dotF_lin (p f : Int) (a b q : Nat → Int) (s : Nat → Int) : ∀ n, (∀ j, j < n → q j % p = (a j - f * b j) % p) → dotF q s n % p = (dotF a s n - f * dotF b s n) % p
  | 0, _ => by simp [dotF]
  | n + 1, h => by
    have ih := dotF_lin p f a b q s n (fun j hj => h j (by omega))
    rw [dotF, dotF, dotF, Int.add_emod, ih, Int.mul_emod (q n), h n (by omega), ← Int.mul_emod, ← Int.add_emod]
    congr 1
    grind
theorem sub_z {a b p : Int} (h : a % p = b % p) (hb : b % p = 0) : a % p = 0 := by rw [h, hb]
/-- What fulfils the scaled row fulfils the row. -/
theorem okR_scale {p : Nat} (hp : Pr p) {n : Nat} {r q s : Nat → Int} {u v : Int} (huv : u * v % (p : Int) = 1) (hq : ∀ j, j ≤ n → q j % (p : Int) = r j * u % p) (h : okR p n q s) : okR p n r s := by
  unfold okR at h ⊢
  have h1 := dotF_mod p u r q s 0 n (fun j hj => hq j (by omega))
  have h2 : (dotF q s n - q n) % (p : Int) = u * (dotF r s n - r n) % p := by
    rw [Int.sub_emod, h1, hq n (Nat.le_refl _), ← Int.sub_emod]; congr 1; grind
  rw [h2] at h
  have hu : u % (p : Int) ≠ 0 := fun z => by
    rw [Int.mul_emod, z, Int.zero_mul, Int.zero_emod] at huv; omega
  rcases hp.mul h with z | z
  · exact absurd z hu
  · exact z
/-- What fulfils the difference and the other row fulfils the row. -/
theorem okR_elim {p : Int} {n : Nat} {a b q s : Nat → Int} {f : Int} (hq : ∀ j, j ≤ n → q j % p = (a j - f * b j) % p) (h : okR p n q s) (hb : okR p n b s) : okR p n a s := by
  unfold okR at h hb ⊢
  have h1 := dotF_lin p f a b q s n (fun j hj => hq j (by omega))
  have h2 : (dotF q s n - q n) % p = ((dotF a s n - a n) - f * (dotF b s n - b n)) % p := by
    rw [Int.sub_emod, h1, hq n (Nat.le_refl _), ← Int.sub_emod]; congr 1; grind
  rw [h2, Int.sub_emod, Int.mul_emod, hb, Int.mul_zero, Int.zero_emod, Int.sub_zero, Int.emod_emod] at h
  exact h
/-- A step keeps what fulfils the rows. -/
theorem step_ok {p : Nat} (hp : Pr p) {n c k : Nat} (hc : c < n) (hk : k < n) {M : Mat} {s : Nat → Int} (hv : M k c % (p : Int) ≠ 0) (h : ∀ i, i < n → okR p n (stepM p M c k i) s) : ∀ i, i < n → okR p n (M i) s := by
  have hpos := hp.1
  have huv : invP p (swp M c k c c) * (swp M c k c c) % (p : Int) = 1 := by
    have e : swp M c k c c = M k c := by unfold swp; rw [if_pos rfl]
    rw [e]; exact inv_val hp hv
  have hpiv : okR p n (swp M c k c) s := okR_scale hp huv (q := stepM p M c k c) (fun j _ => by unfold stepM; rw [if_pos rfl, Int.emod_emod]) (h c hc)
  have hstp : okR p n (fun j => swp M c k c j * invP p (swp M c k c c) % p) s := by
    have := h c hc
    unfold stepM at this
    simpa using this
  have hsw : ∀ i, i < n → okR p n (swp M c k i) s := fun i hi => by
    by_cases e : i = c
    · subst e; exact hpiv
    · exact okR_elim (q := stepM p M c k i) (f := swp M c k i c) (fun j _ => by unfold stepM; rw [if_neg e, Int.emod_emod]) (h i hi) hstp
  intro i hi
  by_cases e : i = k
  · subst e
    have := hsw c hc
    unfold swp at this; rw [if_pos rfl] at this; exact this
  · by_cases e2 : i = c
    · subst e2
      have := hsw k hk
      unfold swp at this
      rw [if_neg (fun z => e z.symm), if_pos rfl] at this; exact this
    · have := hsw i hi
      unfold swp at this
      rw [if_neg e2, if_neg e] at this; exact this
/-- The first columns are those of the unit. -/
def unitC (M : Mat) (n c : Nat) : Prop := ∀ i j, i < n → j < c → M i j = if i = j then 1 else 0
def redM (p : Int) (M : Mat) (n : Nat) : Prop := ∀ i j, i < n → j ≤ n → 0 ≤ M i j ∧ M i j < p
theorem swp_red {p : Int} {M : Mat} {n c k : Nat} (hc : c < n) (hk : k < n) (h : redM p M n) : redM p (swp M c k) n := fun i j hi hj => by
  unfold swp; split
  · exact h k j hk hj
  · split
    · exact h c j hc hj
    · exact h i j hi hj
theorem step_red {p : Int} (hp : 2 ≤ p) (M : Mat) (n c k : Nat) : redM p (stepM p M c k) n := fun i j _ _ => by
  unfold stepM; split <;> exact ⟨Int.emod_nonneg _ (by omega), Int.emod_lt_of_pos _ (by omega)⟩
theorem step_unit {p : Nat} (hp : Pr p) {n c k : Nat} (hc : c < n) (hck : c ≤ k) (hk : k < n) {M : Mat} (hr : redM p M n) (hu : unitC M n c) (hv : M k c % (p : Int) ≠ 0) : unitC (stepM p M c k) n (c + 1) := by
  have hpos := hp.1
  have hsr := swp_red hc hk hr
  have e0 : swp M c k c = M k := by unfold swp; rw [if_pos rfl]
  have hz : ∀ j, j < c → swp M c k c j = 0 := fun j hj => by rw [e0, hu k j hk hj, if_neg (by omega)]
  have hone : swp M c k c c * invP p (swp M c k c c) % (p : Int) = 1 := by rw [e0, Int.mul_comm]; exact inv_val hp hv
  intro i j hi hj
  by_cases e : i = c
  · subst e
    unfold stepM
    rw [if_pos rfl]
    by_cases e2 : j = i
    · subst e2; rw [hone, if_pos rfl]
    · rw [hz j (by omega), Int.zero_mul, Int.zero_emod, if_neg (by omega)]
  · unfold stepM
    rw [if_neg e]
    have hb := hsr i j hi (by omega)
    by_cases e2 : j = c
    · subst e2
      rw [hone, Int.mul_one, Int.sub_self, Int.zero_emod, if_neg e]
    · rw [hz j (by omega), Int.zero_mul, Int.zero_emod, Int.mul_zero, Int.sub_zero, Int.emod_eq_of_lt hb.1 hb.2]
      unfold swp
      rw [if_neg e]
      split
      · rename_i e3; subst e3
        rw [hu c j hc (by omega), if_neg (by omega), if_neg (by omega)]
      · exact hu i j hi (by omega)
theorem dot_unit (r s : Nat → Int) (i : Nat) : ∀ n, (∀ j, j < n → r j = if i = j then 1 else 0) → dotF r s n = if i < n then s i else 0
  | 0, _ => by simp [dotF]
  | n + 1, h => by
    rw [dotF, dot_unit r s i n (fun j hj => h j (by omega)), h n (by omega)]
    by_cases e : i = n
    · subst e; rw [if_neg (by omega), if_pos rfl, if_pos (by omega)]; omega
    · rw [if_neg e]
      by_cases e2 : i < n
      · rw [if_pos e2, if_pos (by omega)]; omega
      · rw [if_neg e2, if_neg (by omega)]; omega
/-- The right side of the unit matrix fulfils its rows. -/
theorem unit_ok {p : Int} {M : Mat} {n : Nat} (hu : unitC M n n) : ∀ i, i < n → okR p n (M i) (fun j => M j n) := fun i hi => by
  unfold okR
  rw [dot_unit (M i) _ i n (fun j hj => hu i j hi hj), if_pos hi]
  simp
end Go.Proofs.Ytfichpppjpgahaa
