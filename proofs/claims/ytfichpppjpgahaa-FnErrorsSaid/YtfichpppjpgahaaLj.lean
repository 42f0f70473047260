/-
  Plain laws: a polynomial with more roots than its degree is 0; polynomials that agree at enough points agree.
-/
import Derived.Test.YtfichpppjpgahaaLc
namespace Go.Proofs.Ytfichpppjpgahaa
set_option linter.unusedVariables false
set_option linter.unusedSimpArgs false

/-- The sum of two polynomials, of whatever lengths, the second one scaled. -/
def add2 (s : Int) : List Int → List Int → List Int
  | a :: us, b :: bs => (a + s * b) :: add2 s us bs
  | us, [] => us
  | [], b :: bs => (s * b) :: add2 s [] bs
theorem add2_len (s : Int) : ∀ (us bs : List Int) (n : Nat), us.length ≤ n → bs.length ≤ n → (add2 s us bs).length ≤ n
  | a :: us, b :: bs, n, h1, h2 => by
    rw [List.length_cons] at h1 h2
    have ih := add2_len s us bs (n - 1) (by omega) (by omega)
    rw [add2, List.length_cons]; omega
  | [], [], n, h1, h2 => by rw [add2]; exact h1
  | a :: us, [], n, h1, h2 => by rw [add2]; exact h1
  | [], b :: bs, n, h1, h2 => by
    rw [List.length_cons] at h2
    have ih := add2_len s [] bs (n - 1) (Nat.zero_le _) (by omega)
    rw [add2, List.length_cons]; omega
theorem pl_add2 (s x : Int) : ∀ us bs : List Int, pl (add2 s us bs) x = pl us x + s * pl bs x
  | a :: us, b :: bs => by rw [add2, pl, pl, pl, pl_add2 s x us bs]; grind
  | [], [] => by simp [add2, pl]
  | a :: us, [] => by simp [add2, pl]
  | [], b :: bs => by
    have := pl_add2 s x [] bs
    rw [add2, pl, pl, pl, this, pl]; grind
/-- Division by x - a. -/
theorem dv_ex (a : Int) : ∀ l : List Int, ∃ q : List Int, q.length ≤ l.length - 1 ∧ ∀ x, pl l x - pl l a = (x - a) * pl q x
  | [] => ⟨[], Nat.zero_le _, fun x => by simp [pl]⟩
  | c :: cs => by
    obtain ⟨q, hq, h⟩ := dv_ex a cs
    refine ⟨add2 a cs q, ?_, fun x => ?_⟩
    · rw [List.length_cons]
      exact add2_len a cs q _ (by omega) (by omega)
    · rw [pl_add2, pl, pl]
      have := h x
      grind
theorem roots_zero {p : Nat} (hp : Pr p) (x : Nat → Int) : ∀ (n : Nat) (l : List Int), l.length ≤ n → (∀ i j, i < n → j < n → i ≠ j → (x i - x j) % (p : Int) ≠ 0) → (∀ i, i < n → pl l (x i) % (p : Int) = 0) → ∀ y, pl l y % (p : Int) = 0
  | 0, l, h, _, _, y => by
    obtain rfl := List.length_eq_zero_iff.1 (show l.length = 0 by omega)
    rfl
  | n + 1, l, h, hd, hr, y => by
    obtain ⟨q, hq, e⟩ := dv_ex (x n) l
    have hn := hr n (by omega)
    have hz := roots_zero hp x n q (by omega) (fun i j hi hj => hd i j (by omega) (by omega)) (fun i hi => by
      have h1 := e (x i)
      have h2 : (x i - x n) * pl q (x i) % (p : Int) = 0 := by
        rw [← h1, Int.sub_emod, hr i (by omega), hn]; simp
      rcases hp.mul h2 with k | k
      · exact absurd k (hd i n (by omega) (by omega) (by omega))
      · exact k) y
    have h3 := e y
    have h4 : pl l y = pl l (x n) + (y - x n) * pl q y := by omega
    rw [h4, Int.add_emod, hn, Int.mul_emod, hz]
    simp
/-- What agrees at enough points agrees everywhere. -/
theorem agree {p : Nat} (hp : Pr p) (x : Nat → Int) (n : Nat) (A B : List Int) (hA : A.length ≤ n) (hB : B.length ≤ n) (hd : ∀ i j, i < n → j < n → i ≠ j → (x i - x j) % (p : Int) ≠ 0) (hr : ∀ i, i < n → pl A (x i) % (p : Int) = pl B (x i) % p) (y : Int) : pl A y % (p : Int) = pl B y % p := by
  have h := roots_zero hp x n (add2 (-1) A B) (add2_len _ _ _ _ hA hB) hd (fun i hi => by
    rw [pl_add2, show pl A (x i) + -1 * pl B (x i) = pl A (x i) - pl B (x i) by omega]
    exact emod_sub_zero.1 (hr i hi)) y
  rw [pl_add2, show pl A y + -1 * pl B y = pl A y - pl B y by omega] at h
  exact emod_sub_zero.2 h
theorem hor_mod {p : Int} (hp : 2 ≤ p) (x : Int) (l : List Int) : hor p x l = pl l x % p := by
  rw [← hor_pl]
  have := hor_bd hp x l
  exact (Int.emod_eq_of_lt this.1 this.2).symm
theorem agree_hor {p : Nat} (hp : Pr p) (x : Nat → Int) (n : Nat) (A B : List Int) (hA : A.length ≤ n) (hB : B.length ≤ n) (hd : ∀ i j, i < n → j < n → i ≠ j → (x i - x j) % (p : Int) ≠ 0) (hr : ∀ i, i < n → hor p (x i) A = hor p (x i) B) (y : Int) : hor p y A = hor p y B := by
  have hp2 : (2 : Int) ≤ p := by have := hp.1; omega
  rw [hor_mod hp2, hor_mod hp2]
  exact agree hp x n A B hA hB hd (fun i hi => by rw [← hor_mod hp2, ← hor_mod hp2]; exact hr i hi) y
end Go.Proofs.Ytfichpppjpgahaa
