/-
  Primes: what a product of two numbers, and a linear equation, are modulo a prime; nothing of the program stands here.
-/
import Derived.Test.YtfichpppjpgahaaPlain
namespace Go.Proofs.Ytfichpppjpgahaa
set_option linter.unusedVariables false
set_option linter.unusedSimpArgs false

/-- A prime, plainly. -/
def Pr (p : Nat) : Prop := 2 ≤ p ∧ ∀ d, 2 ≤ d → d < p → p % d ≠ 0
theorem Pr.gcd {p a : Nat} (h : Pr p) (h0 : 0 < a) (h1 : a < p) : Nat.gcd a p = 1 := by
  have hd := Nat.gcd_dvd_left a p
  have hp := Nat.gcd_dvd_right a p
  have hl := Nat.le_of_dvd h0 hd
  have hpos : 0 < Nat.gcd a p := Nat.gcd_pos_of_pos_left _ h0
  rcases Nat.lt_or_ge (Nat.gcd a p) 2 with k | k
  · omega
  · exact absurd (Nat.mod_eq_zero_of_dvd hp) (h.2 _ k (by omega))
theorem Pr.dvd {p a b : Nat} (h : Pr p) (hab : p ∣ a * b) : p ∣ a ∨ p ∣ b := by
  rcases Nat.eq_zero_or_pos (a % p) with k | k
  · exact Or.inl (Nat.dvd_of_mod_eq_zero k)
  · right
    have h2 := h.1
    have hg := h.gcd k (Nat.mod_lt _ (by omega))
    have hg' : Nat.gcd p a = 1 := by rw [Nat.gcd_rec]; exact hg
    exact Nat.Coprime.dvd_of_dvd_mul_left hg' hab
theorem Pr.mul {p : Nat} (h : Pr p) {a b : Int} (hab : a * b % p = 0) : a % p = 0 ∨ b % p = 0 := by
  have h1 : (p : Int) ∣ a * b := Int.dvd_of_emod_eq_zero hab
  have h2 : p ∣ a.natAbs * b.natAbs := by
    have := Int.natAbs_dvd_natAbs.2 h1
    rwa [Int.natAbs_mul, Int.natAbs_natCast] at this
  rcases h.dvd h2 with k | k
  · exact Or.inl (Int.emod_eq_zero_of_dvd (Int.natAbs_dvd_natAbs.1 (by rw [Int.natAbs_natCast]; exact k)))
  · exact Or.inr (Int.emod_eq_zero_of_dvd (Int.natAbs_dvd_natAbs.1 (by rw [Int.natAbs_natCast]; exact k)))
/-- Bezout. -/
theorem bezout (a : Nat) : ∀ b : Nat, ∃ x y : Int, (a : Int) * x + b * y = Nat.gcd a b := by
  induction a using Nat.strongRecOn with
  | ind a ih =>
    intro b
    rcases Nat.eq_zero_or_pos a with k | k
    · subst k
      exact ⟨0, 1, by simp⟩
    · obtain ⟨x, y, h⟩ := ih (b % a) (Nat.mod_lt _ k) a
      refine ⟨y - (b / a : Nat) * x, x, ?_⟩
      rw [Nat.gcd_rec a b, ← h]
      have e : (b : Int) = ((b % a : Nat) : Int) + a * ((b / a : Nat) : Int) := by
        rw [← Int.natCast_mul, ← Int.natCast_add, Nat.mod_add_div]
      generalize ((b % a : Nat) : Int) = r at *
      generalize ((b / a : Nat) : Int) = q at *
      rw [e, Int.mul_sub, Int.add_mul, Int.mul_assoc]
      omega
theorem Pr.inv {p : Nat} (h : Pr p) {a : Int} (ha : a % p ≠ 0) : ∃ x : Int, 0 ≤ x ∧ x < p ∧ a * x % p = 1 := by
  have h2 := h.1
  have hb := emod_bd (n := a) (p := (p : Int)) (by omega)
  obtain ⟨r, hr⟩ : ∃ r : Nat, (r : Int) = a % p := ⟨(a % p).toNat, by omega⟩
  have hg := h.gcd (a := r) (by omega) (by omega)
  obtain ⟨x, y, hxy⟩ := bezout r p
  rw [hg] at hxy
  have hx := emod_bd (n := x) (p := (p : Int)) (by omega)
  refine ⟨x % p, hx.1, hx.2, ?_⟩
  rw [Int.mul_emod, Int.emod_emod_of_dvd _ (Int.dvd_refl _), ← Int.mul_emod, Int.mul_emod, ← hr, Int.mul_emod, Int.emod_emod_of_dvd _ (Int.dvd_refl _), ← Int.mul_emod]
  have e : (r : Int) * x = 1 + p * (- y) := by rw [Int.mul_neg]; omega
  rw [e, Int.add_mul_emod_self_left]
  exact Int.emod_eq_of_lt (by omega) (by omega)
theorem emod_sub_zero {a b p : Int} : a % p = b % p ↔ (a - b) % p = 0 := Int.emod_eq_emod_iff_emod_sub_eq_zero
theorem Pr.cancel {p : Nat} (h : Pr p) {a x y : Int} (ha : a % p ≠ 0) (he : a * x % p = a * y % p) : x % p = y % p := by
  rw [emod_sub_zero, ← Int.mul_sub] at he
  rcases h.mul he with k | k
  · exact absurd k ha
  · exact emod_sub_zero.2 k
/-- a x = b has one solution from 0 to p - 1. -/
theorem Pr.solve {p : Nat} (h : Pr p) {a : Int} (b : Int) (ha : a % p ≠ 0) : ∃ x : Nat, x < p ∧ (a * x - b) % p = 0 ∧ ∀ y : Nat, y < p → (a * y - b) % p = 0 → y = x := by
  have h2 := h.1
  obtain ⟨i, hi0, hi1, hi⟩ := h.inv ha
  have hx := emod_bd (n := i * b) (p := (p : Int)) (by omega)
  have hx0 : (((i * b % p).toNat : Nat) : Int) = i * b % p := by omega
  have hs : (a * (i * b % p) - b) % p = 0 := by
    rw [← emod_sub_zero, Int.mul_emod, Int.emod_emod_of_dvd _ (Int.dvd_refl _), ← Int.mul_emod, ← Int.mul_assoc, Int.mul_emod, hi]
    rw [Int.one_mul, Int.emod_emod_of_dvd _ (Int.dvd_refl _)]
  refine ⟨(i * b % p).toNat, by omega, by rw [hx0]; exact hs, fun y hy hy2 => ?_⟩
  have e1 := emod_sub_zero.2 hs
  have e2 := emod_sub_zero.2 hy2
  have e3 := h.cancel ha (e2.trans e1.symm)
  rw [Int.emod_eq_of_lt (by omega) (by omega), Int.emod_eq_of_lt (by omega) (by omega)] at e3
  omega
/-- How many numbers below n fulfil something. -/
def cnt (f : Nat → Bool) : Nat → Int
  | 0 => 0
  | n + 1 => cnt f n + (if f n then 1 else 0)
theorem cnt_zero {f : Nat → Bool} : ∀ {n : Nat}, (∀ i, i < n → f i = false) → cnt f n = 0
  | 0, _ => rfl
  | n + 1, h => by rw [cnt, cnt_zero (fun i hi => h i (by omega)), h n (by omega)]; rfl
theorem cnt_all {f : Nat → Bool} : ∀ {n : Nat}, (∀ i, i < n → f i = true) → cnt f n = n
  | 0, _ => rfl
  | n + 1, h => by rw [cnt, cnt_all (fun i hi => h i (by omega)), h n (by omega)]; simp
theorem cnt_one {f : Nat → Bool} {x : Nat} : ∀ {n : Nat}, x < n → f x = true → (∀ i, i < n → f i = true → i = x) → cnt f n = 1
  | 0, hx, _, _ => by omega
  | n + 1, hx, h, hu => by
    rw [cnt]
    by_cases e : x = n
    · subst e
      rw [cnt_zero (fun i hi => ?_), h]; rfl
      cases k : f i with
      | false => rfl
      | true => have := hu i (by omega) k; omega
    · rw [cnt_one (x := x) (n := n) (by omega) h (fun i hi => hu i (by omega))]
      cases k : f n with
      | false => rfl
      | true => have := hu n (by omega) k; omega
theorem cnt_lt {f : Nat → Bool} {x : Nat} : ∀ {n : Nat}, x < n → f x = false → cnt f n < n
  | 0, hx, _ => by omega
  | n + 1, hx, h => by
    have hle : ∀ m, cnt f m ≤ m := by
      intro m
      induction m with
      | zero => simp [cnt]
      | succ m ih => rw [cnt]; split <;> omega
    rw [cnt]
    by_cases e : x = n
    · subst e
      rw [h]
      have := hle x
      simp; omega
    · have := cnt_lt (x := x) (n := n) (by omega) h
      split <;> omega
theorem cnt_congr {f g : Nat → Bool} : ∀ {n : Nat}, (∀ i, i < n → f i = g i) → cnt f n = cnt g n
  | 0, _ => rfl
  | n + 1, h => by rw [cnt, cnt, cnt_congr (fun i hi => h i (by omega)), h n (by omega)]
/-- A prime of the fields. -/
theorem prB_pr {p : Int} (h : prB p = true) : Pr p.toNat := by
  have hd := of_decide_eq_true h
  obtain ⟨h1, h2, h3⟩ := hd
  refine ⟨by omega, fun d hd1 hd2 hm => ?_⟩
  -- d or p / d is small
  have hpd : d * (p.toNat / d) = p.toNat := Nat.mul_div_cancel' (Nat.dvd_of_mod_eq_zero hm)
  have hq1 : 2 ≤ p.toNat / d := by
    rcases Nat.lt_or_ge (p.toNat / d) 2 with k | k
    · have h01 : ∀ q : Nat, q < 2 → q = 0 ∨ q = 1 := fun q hq => by omega
      rcases h01 _ k with e | e
      · rw [e] at hpd; omega
      · rw [e] at hpd; omega
    · exact k
  have key : ∀ a b : Nat, 2 ≤ a → a ≤ b → a * b = p.toNat → False := by
    intro a b ha hab he
    have hsq : a * a ≤ p.toNat := by rw [← he]; exact Nat.mul_le_mul_left a hab
    have hsqi : (a : Int) * a ≤ p := by
      have : ((a * a : Nat) : Int) ≤ (p.toNat : Int) := by exact_mod_cast hsq
      rw [Int.natCast_mul] at this; omega
    have ha16 := sq_le (Int.natCast_nonneg a) hsqi h2
    refine h3 a (by omega) ha hsqi ?_
    have e2 : p = (a : Int) * b := by
      have : ((a * b : Nat) : Int) = (p.toNat : Int) := by rw [he]
      rw [Int.natCast_mul] at this; omega
    rw [e2]; exact Int.mul_emod_right _ _
  rcases Nat.le_total d (p.toNat / d) with k | k
  · exact key d _ hd1 k hpd
  · exact key _ d hq1 k (by rw [Nat.mul_comm]; exact hpd)
theorem prB_nat {p : Int} (h : prB p = true) : ∃ q : Nat, p = q ∧ Pr q := by
  have h1 := prB_lo h
  exact ⟨p.toNat, by omega, prB_pr h⟩
end Go.Proofs.Ytfichpppjpgahaa
