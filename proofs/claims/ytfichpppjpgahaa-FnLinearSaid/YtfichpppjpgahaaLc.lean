/-
  Plain laws: values of the polynomial through points.
-/
import Derived.Test.YtfichpppjpgahaaLb
namespace Go.Proofs.Ytfichpppjpgahaa
set_option linter.unusedVariables false
set_option linter.unusedSimpArgs false

theorem prI_len (p : Int) (xs : List Int) (i : Nat) : ∀ k, (prI p xs i k).length = 1 + k - (if i < k then 1 else 0)
  | 0 => rfl
  | k + 1 => by
    have ih := prI_len p xs i k
    rw [prI]
    split
    · rename_i e; subst e
      rw [ih, if_neg (by omega), if_pos (by omega)]; omega
    · rename_i e
      unfold mx
      rw [mxGo_len, ih]
      by_cases h : i < k
      · rw [if_pos h, if_pos (by omega)]; omega
      · rw [if_neg h, if_neg (by omega)]; omega
theorem polyI_len (p : Int) (xs ys : List Int) (n : Nat) : ∀ i, i ≤ n → (polyI p xs ys n i).length = n
  | 0, _ => by simp [polyI]
  | i + 1, h => by
    have ih := polyI_len p xs ys n i (by omega)
    rw [polyI, addS_len _ _ _ _ (by rw [ih, prI_len, if_pos (by omega)]; omega), ih]
/-- The value of the polynomial at x, a term for each point. -/
def lgS (p : Int) (xs ys : List Int) (x : Int) (n : Nat) : Nat → Int
  | 0 => 0
  | i + 1 => lgS p xs ys x n i + nth ys i * (invP p (vaI p xs i n) * rt xs i x n)
theorem pl_rep (x : Int) : ∀ n, pl (List.replicate n 0) x = 0
  | 0 => rfl
  | n + 1 => by rw [List.replicate_succ, pl, pl_rep x n]; simp
theorem pl_polyI (p : Int) (xs ys : List Int) (x : Int) (n : Nat) : ∀ i, i ≤ n → pl (polyI p xs ys n i) x % p = lgS p xs ys x n i % p
  | 0, _ => by rw [polyI, pl_rep, lgS]
  | i + 1, h => by
    have ih := pl_polyI p xs ys x n i (by omega)
    have hl := polyI_len p xs ys n i (by omega)
    rw [polyI, lgS, pl_addS _ _ _ _ _ (by rw [hl, prI_len, if_pos (by omega)]; omega)]
    have h1 : nth ys i * invP p (vaI p xs i n) % p * pl (prI p xs i n) x % p = nth ys i * (invP p (vaI p xs i n) * rt xs i x n) % p := by
      rw [Int.mul_emod, Int.emod_emod, pl_prI, ← Int.mul_emod, Int.mul_assoc]
    rw [Int.add_emod, ih, h1, ← Int.add_emod]
/-- Horner's way. -/
def hor (p x : Int) : List Int → Int
  | [] => 0
  | c :: cs => (hor p x cs * x + c) % p
theorem hor_pl (p x : Int) : ∀ l, hor p x l % p = pl l x % p
  | [] => rfl
  | c :: cs => by
    have ih := hor_pl p x cs
    rw [hor, pl, Int.emod_emod, Int.add_emod, Int.mul_emod, ih, ← Int.mul_emod, ← Int.add_emod]
    congr 1
    grind
theorem hor_bd {p : Int} (hp : 2 ≤ p) (x : Int) : ∀ l, 0 ≤ hor p x l ∧ hor p x l < p
  | [] => ⟨Int.le_refl _, by show (0 : Int) < p; omega⟩
  | c :: cs => ⟨Int.emod_nonneg _ (by omega), Int.emod_lt_of_pos _ (by omega)⟩
/-- The weight of a point, as the reference makes it. -/
def wtS (p : Int) (xs : List Int) (i : Nat) (x : Int) : Nat → Int
  | 0 => 1
  | k + 1 => if k = i then wtS p xs i x k else wtS p xs i x k * ((x - nth xs k) % p) % p * invP p ((nth xs i - nth xs k) % p) % p
theorem wtS_eq {p : Int} (hp : 2 ≤ p) (xs : List Int) (i : Nat) (x : Int) : ∀ k, wtS p xs i x k % p = invP p (vaI p xs i k) * rt xs i x k % p
  | 0 => by rw [wtS, vaI, rt, invP_one hp, Int.mul_one]
  | k + 1 => by
    have ih := wtS_eq hp xs i x k
    rw [wtS, vaI, rt]
    split
    · exact ih
    · rw [invP_mul, show invP p (nth xs i - nth xs k + p) = invP p ((nth xs i - nth xs k) % p) by rw [← invP_mod p (nth xs i - nth xs k + p), Int.add_emod_right]]
      generalize invP p ((nth xs i - nth xs k) % p) = u
      have h1 : wtS p xs i x k * ((x - nth xs k) % p) % p = invP p (vaI p xs i k) * rt xs i x k * (x - nth xs k) % p := by
        rw [Int.mul_emod, ih, Int.emod_emod, ← Int.mul_emod]
      rw [h1, Int.emod_emod, Int.mul_emod, Int.emod_emod, ← Int.mul_emod]
      rw [Int.mul_emod (invP p (vaI p xs i k) * u % p), Int.emod_emod, ← Int.mul_emod]
      congr 1
      grind
def atS (p : Int) (xs ys : List Int) (x : Int) (n : Nat) : Nat → Int
  | 0 => 0
  | i + 1 => (atS p xs ys x n i + nth ys i * wtS p xs i x n) % p
theorem atS_lg {p : Int} (hp : 2 ≤ p) (xs ys : List Int) (x : Int) (n : Nat) : ∀ i, atS p xs ys x n i % p = lgS p xs ys x n i % p
  | 0 => rfl
  | i + 1 => by
    have ih := atS_lg hp xs ys x n i
    rw [atS, lgS, Int.emod_emod, Int.add_emod, ih, Int.mul_emod, wtS_eq hp, ← Int.mul_emod, ← Int.add_emod]
theorem atS_bd {p : Int} (hp : 2 ≤ p) (xs ys : List Int) (x : Int) (n : Nat) : ∀ i, 0 ≤ atS p xs ys x n i ∧ atS p xs ys x n i < p
  | 0 => ⟨Int.le_refl _, by show (0 : Int) < p; omega⟩
  | i + 1 => ⟨Int.emod_nonneg _ (by omega), Int.emod_lt_of_pos _ (by omega)⟩
/-- Both ways to the value at x agree. -/
theorem at_eq {p : Int} (hp : 2 ≤ p) (xs ys : List Int) (x : Int) (n : Nat) : hor p x (polyI p xs ys n n) = atS p xs ys x n n := by
  have h1 := hor_bd hp x (polyI p xs ys n n)
  have h2 := atS_bd hp xs ys x n n
  have h3 := hor_pl p x (polyI p xs ys n n)
  rw [pl_polyI p xs ys x n n (Nat.le_refl _), ← atS_lg hp, Int.emod_eq_of_lt h1.1 h1.2, Int.emod_eq_of_lt h2.1 h2.2] at h3
  exact h3
theorem rt_zero (xs : List Int) (i : Nat) {x : Int} {j : Nat} (hx : x = nth xs j) (hij : j ≠ i) : ∀ k, j < k → rt xs i x k = 0
  | 0, h => by omega
  | k + 1, h => by
    rw [rt]
    by_cases e : j = k
    · subst e; rw [if_neg hij, hx, Int.sub_self, Int.mul_zero]
    · have ih := rt_zero xs i hx hij k (by omega)
      split
      · exact ih
      · rw [ih, Int.zero_mul]
theorem rt_ne {p : Nat} (hp : Pr p) (xs : List Int) (i : Nat) (n : Nat) (hd : ∀ k, k < n → k ≠ i → (nth xs i - nth xs k) % (p : Int) ≠ 0) : ∀ k, k ≤ n → rt xs i (nth xs i) k % (p : Int) ≠ 0
  | 0, _ => by
    have := hp.1
    rw [rt, Int.emod_eq_of_lt (by omega) (by omega)]; omega
  | k + 1, h => by
    have ih := rt_ne hp xs i n hd k (by omega)
    rw [rt]
    split
    · exact ih
    · rename_i e
      intro z
      rcases hp.mul z with q | q
      · exact ih q
      · exact hd k (by omega) e q
theorem inv_val {p : Nat} (hp : Pr p) {v : Int} (hv : v % (p : Int) ≠ 0) : invP p v * v % (p : Int) = 1 := by
  have h2 := hp.1
  have hf := fermat hp hv
  unfold invP pw
  rw [show ((p : Int) - 2).toNat = p - 2 by omega, Int.mul_emod, Int.emod_emod, ← Int.mul_emod, ← Int.pow_succ, show (p - 2).succ = p - 1 by omega]
  exact hf
/-- At a point the polynomial has its value. -/
theorem at_point {p : Nat} (hp : Pr p) (xs ys : List Int) (n : Nat) (hy : ∀ i, 0 ≤ nth ys i ∧ nth ys i < p) (hd : ∀ i k, i < n → k < n → k ≠ i → (nth xs i - nth xs k) % (p : Int) ≠ 0) {j : Nat} (hj : j < n) : hor p (nth xs j) (polyI p xs ys n n) = nth ys j := by
  have h2 := hp.1
  have key : ∀ i, i ≤ n → lgS p xs ys (nth xs j) n i % (p : Int) = if j < i then nth ys j else 0 := by
    intro i
    induction i with
    | zero => intro _; rw [lgS, if_neg (by omega)]; rfl
    | succ i ih =>
      intro hi
      have ih := ih (by omega)
      rw [lgS]
      by_cases e : j = i
      · subst e
        rw [if_neg (by omega)] at ih
        rw [if_pos (by omega), Int.add_emod, ih, Int.zero_add, Int.emod_emod]
        have hv := rt_ne hp xs j n (fun k hk hkj => hd j k hj hk hkj) n (Nat.le_refl _)
        have hv2 : vaI p xs j n % (p : Int) ≠ 0 := by rw [vaI_rt]; exact hv
        have h3 : invP p (vaI p xs j n) * rt xs j (nth xs j) n % (p : Int) = 1 := by rw [Int.mul_emod, ← vaI_rt, ← Int.mul_emod]; exact inv_val hp hv2
        rw [Int.mul_emod, h3, Int.mul_one, Int.emod_emod, Int.emod_eq_of_lt (hy j).1 (hy j).2]
      · rw [rt_zero xs i rfl e n hj, Int.mul_zero, Int.mul_zero, Int.add_zero, ih]
        by_cases h4 : j < i
        · rw [if_pos h4, if_pos (by omega)]
        · rw [if_neg h4, if_neg (by omega)]
  have h1 := hor_bd (p := p) (by omega) (nth xs j) (polyI p xs ys n n)
  have h3 := hor_pl p (nth xs j) (polyI p xs ys n n)
  rw [pl_polyI p xs ys (nth xs j) n n (Nat.le_refl _), key n (Nat.le_refl _), if_pos hj, Int.emod_eq_of_lt h1.1 h1.2] at h3
  exact h3
end Go.Proofs.Ytfichpppjpgahaa
