/-
  Plain laws: shares that fit, the one that is wrong.
-/
import Derived.Test.YtfichpppjpgahaaLj
import Derived.Test.YtfichpppjpgahaaLk
namespace Go.Proofs.Ytfichpppjpgahaa
set_option linter.unusedVariables false
set_option linter.unusedSimpArgs false

/-- Points: as many values as places, residues, no place twice. -/
structure Pts (p : Int) (xs ys : List Int) (n : Nat) : Prop where
  lx : xs.length = n
  ly : ys.length = n
  rx : Res p xs
  ry : Res p ys
  nd : xs.Nodup
theorem Pts.dj {p : Int} {xs ys : List Int} {n : Nat} (h : Pts p xs ys n) {i j : Nat} (hi : i < n) (hj : j < n) (hne : i ≠ j) : (nth xs i - nth xs j) % p ≠ 0 := by
  intro e
  have h1 := h.rx.at (i := i) (by rw [h.lx]; exact hi)
  have h2 := h.rx.at (i := j) (by rw [h.lx]; exact hj)
  have h3 : nth xs i % p = nth xs j % p := emod_sub_zero.2 e
  rw [Int.emod_eq_of_lt h1.1 h1.2, Int.emod_eq_of_lt h2.1 h2.2] at h3
  have hl := h.lx
  rw [nth_get (by omega), nth_get (by omega)] at h3
  have hP := List.pairwise_iff_getElem.1 h.nd
  rcases Nat.lt_trichotomy i j with g | g | g
  · exact hP i j (by omega) (by omega) g h3
  · exact hne g
  · exact hP j i (by omega) (by omega) g h3.symm
theorem Pts.take {p : Int} {xs ys : List Int} {n : Nat} (h : Pts p xs ys n) {t : Nat} (ht : t ≤ n) : Pts p (xs.take t) (ys.take t) t :=
  ⟨by rw [List.length_take, h.lx]; omega, by rw [List.length_take, h.ly]; omega, fun x hx => h.rx x (List.mem_of_mem_take hx), fun x hx => h.ry x (List.mem_of_mem_take hx), h.nd.sublist (List.take_sublist _ _)⟩
theorem nth_tk {l : List Int} {k j : Nat} (h : j < k) : nth (l.take k) j = nth l j := by
  unfold nth; rw [List.getD_eq_getElem?_getD, List.getD_eq_getElem?_getD, List.getElem?_take_of_lt h]
/-- The polynomial through points has their values, and as many coefficients. -/
theorem Pts.poly {p : Nat} (hp : Pr p) {xs ys : List Int} {n : Nat} (h : Pts p xs ys n) : (polyI p xs ys n n).length = n ∧ ∀ i, i < n → hor p (nth xs i) (polyI p xs ys n n) = nth ys i := by
  have hp2 := hp.1
  exact ⟨polyI_len _ _ _ _ _ (Nat.le_refl _), fun i hi => at_point hp xs ys n (fun i => h.ry.any (by omega) i) (fun i k hi hk hne => h.dj hi hk (fun e => hne e.symm)) hi⟩
/-- What goes through the points has the value of their polynomial everywhere. -/
theorem Pts.at {p : Nat} (hp : Pr p) {xs ys : List Int} {n : Nat} (h : Pts p xs ys n) {A : List Int} (hA : A.length ≤ n) (ha : ∀ i, i < n → hor p (nth xs i) A = nth ys i) (y : Int) : atS p xs ys y n n = hor p y A := by
  have hp2 := hp.1
  rw [← at_eq (by omega)]
  obtain ⟨h1, h2⟩ := h.poly hp
  exact agree_hor hp (nth xs) n _ _ (by omega) hA (fun i j hi hj hne => h.dj hi hj hne) (fun i hi => (h2 i hi).trans (ha i hi).symm) y
/-- All shares behind the first t fit. -/
def fitB (p : Int) (xs ys : List Int) (t : Nat) : Bool := decide (∀ i, i < xs.length → t ≤ i → atS p (xs.take t) (ys.take t) (nth xs i) t t = nth ys i)
theorem fit_iff {p : Nat} (hp : Pr p) {xs ys : List Int} {n t : Nat} (h : Pts p xs ys n) (ht : t ≤ n) : fitB p xs ys t = true ↔ ∃ A : List Int, A.length ≤ t ∧ ∀ i, i < n → hor p (nth xs i) A = nth ys i := by
  have hp2 := hp.1
  have hT := h.take ht
  unfold fitB
  rw [decide_eq_true_iff, h.lx]
  constructor
  · intro k
    obtain ⟨h1, h2⟩ := hT.poly hp
    refine ⟨_, Nat.le_of_eq h1, fun i hi => ?_⟩
    rcases Nat.lt_or_ge i t with g | g
    · have := h2 i g
      rwa [nth_tk g, nth_tk g] at this
    · rw [at_eq (by omega)]; exact k i hi g
  · rintro ⟨A, hA, ha⟩ i hi hti
    rw [hT.at hp hA (fun j hj => by rw [nth_tk hj, nth_tk hj]; exact ha j (by omega))]
    exact ha i hi
/-- The program's own test: all shares, the first t too. -/
theorem fit_all {p : Nat} (hp : Pr p) {xs ys : List Int} {n t : Nat} (h : Pts p xs ys n) (ht : t ≤ n) : fitB p xs ys t = decide (∀ i, i < n → hor p (nth xs i) (polyI p (xs.take t) (ys.take t) t t) = nth ys i) := by
  have hp2 := hp.1
  unfold fitB
  rw [h.lx]
  refine decide_eq_decide.2 ⟨fun k i hi => ?_, fun k i hi hti => ?_⟩
  · rcases Nat.lt_or_ge i t with g | g
    · have := ((h.take ht).poly hp).2 i g
      rwa [nth_tk g, nth_tk g] at this
    · rw [at_eq (by omega)]; exact k i hi g
  · rw [← at_eq (by omega)]; exact k i hi
/-- The value at 0 when all fit. -/
theorem fit_zero {p : Nat} (hp : Pr p) {xs ys : List Int} {n t : Nat} (h : Pts p xs ys n) (ht : t ≤ n) (hf : fitB p xs ys t = true) (y : Int) : atS p xs ys y n n = atS p (xs.take t) (ys.take t) y t t := by
  obtain ⟨A, hA, ha⟩ := (fit_iff hp h ht).1 hf
  rw [h.at hp (by omega) ha, (h.take ht).at hp hA (fun j hj => by rw [nth_tk hj, nth_tk hj]; exact ha j (by omega))]
/-- A list without a place. -/
def wo (l : List Int) (i : Nat) : List Int := l.take i ++ l.drop (i + 1)
theorem wo_erase (l : List Int) (i : Nat) : wo l i = l.eraseIdx i := by unfold wo; rw [List.eraseIdx_eq_take_drop_succ]
theorem nth_wo {l : List Int} {i : Nat} (hi : i < l.length) (j : Nat) : nth (wo l i) j = if j < i then nth l j else nth l (j + 1) := by
  unfold wo nth
  simp only [List.getD_eq_getElem?_getD]
  split
  · rename_i h
    rw [List.getElem?_append_left (by rw [List.length_take]; omega), List.getElem?_take_of_lt h]
  · rename_i h
    rw [List.getElem?_append_right (by rw [List.length_take]; omega), List.length_take, List.getElem?_drop, show i + 1 + (j - min i l.length) = j + 1 by omega]
theorem wo_len {l : List Int} {i : Nat} (hi : i < l.length) : (wo l i).length = l.length - 1 := by rw [wo_erase, List.length_eraseIdx_of_lt hi]
theorem Pts.wo {p : Int} {xs ys : List Int} {n : Nat} (h : Pts p xs ys n) {i : Nat} (hi : i < n) : Pts p (wo xs i) (wo ys i) (n - 1) :=
  ⟨by rw [wo_len (by rw [h.lx]; exact hi), h.lx], by rw [wo_len (by rw [h.ly]; exact hi), h.ly], fun x hx => h.rx x (by rw [wo_erase] at hx; exact List.mem_of_mem_eraseIdx hx), fun x hx => h.ry x (by rw [wo_erase] at hx; exact List.mem_of_mem_eraseIdx hx), by rw [wo_erase]; exact h.nd.sublist (List.eraseIdx_sublist _ _)⟩
/-- At most one share can be left out so that the others fit. -/
theorem one_wrong {p : Nat} (hp : Pr p) {xs ys : List Int} {n t : Nat} (h : Pts p xs ys n) (ht : t + 2 ≤ n) (hf : fitB p xs ys t = false) {i j : Nat} (hi : i < n) (hj : j < n) (fi : fitB p (wo xs i) (wo ys i) t = true) (fj : fitB p (wo xs j) (wo ys j) t = true) : i = j := by
  have key : ∀ i j, i < j → j < n → fitB p (wo xs i) (wo ys i) t = true → fitB p (wo xs j) (wo ys j) t = true → False := by
    intro i j hij hj fi fj
    have hi : i < n := by omega
    obtain ⟨A, hA, ha⟩ := (fit_iff hp (h.wo hi) (by omega)).1 fi
    obtain ⟨B, hB, hb⟩ := (fit_iff hp (h.wo hj) (by omega)).1 fj
    have A1 : ∀ m, m < n → m ≠ i → hor p (nth xs m) A = nth ys m := by
      intro m hm hne
      rcases Nat.lt_or_ge m i with g | g
      · have := ha m (by omega)
        rwa [nth_wo (by rw [h.lx]; exact hi), nth_wo (by rw [h.ly]; exact hi), if_pos g, if_pos g] at this
      · have := ha (m - 1) (by omega)
        rwa [nth_wo (by rw [h.lx]; exact hi), nth_wo (by rw [h.ly]; exact hi), if_neg (by omega), if_neg (by omega), show m - 1 + 1 = m by omega] at this
    have B1 : ∀ m, m < n → m ≠ j → hor p (nth xs m) B = nth ys m := by
      intro m hm hne
      rcases Nat.lt_or_ge m j with g | g
      · have := hb m (by omega)
        rwa [nth_wo (by rw [h.lx]; exact hj), nth_wo (by rw [h.ly]; exact hj), if_pos g, if_pos g] at this
      · have := hb (m - 1) (by omega)
        rwa [nth_wo (by rw [h.lx]; exact hj), nth_wo (by rw [h.ly]; exact hj), if_neg (by omega), if_neg (by omega), show m - 1 + 1 = m by omega] at this
    let s : Nat → Nat := fun m => if m < i then m else if m + 1 < j then m + 1 else m + 2
    have s1 : ∀ m, m < t → s m < n ∧ s m ≠ i ∧ s m ≠ j := by
      intro m hm
      show (if m < i then m else if m + 1 < j then m + 1 else m + 2) < n ∧ (if m < i then m else if m + 1 < j then m + 1 else m + 2) ≠ i ∧ (if m < i then m else if m + 1 < j then m + 1 else m + 2) ≠ j
      split
      · omega
      · split <;> omega
    have s2 : ∀ a b, a ≠ b → s a ≠ s b := by
      intro a b hab
      show (if a < i then a else if a + 1 < j then a + 1 else a + 2) ≠ (if b < i then b else if b + 1 < j then b + 1 else b + 2)
      split <;> split <;> (try split) <;> (try split) <;> omega
    have hag := agree_hor hp (fun m => nth xs (s m)) t A B hA hB (fun a b ha' hb' hne => h.dj (s1 a ha').1 (s1 b hb').1 (s2 a b hne)) (fun m hm => by
      obtain ⟨q1, q2, q3⟩ := s1 m hm
      exact (A1 _ q1 q2).trans (B1 _ q1 q3).symm)
    have : fitB p xs ys t = true := (fit_iff hp h (by omega)).2 ⟨B, hB, fun m hm => by
      by_cases e : m = j
      · subst e
        rw [← hag]
        exact A1 m hm (by omega)
      · exact B1 m hm e⟩
    rw [this] at hf; cases hf
  rcases Nat.lt_trichotomy i j with g | g | g
  · exact (key i j g hj fi fj).elim
  · exact g
  · exact (key j i g hi fj fi).elim
/-- Sums with shares of 0 fit when the shares fit, with the same value at 0. -/
theorem fit_sum {p : Nat} (hp : Pr p) {xs ys zs : List Int} {n t : Nat} (h : Pts p xs ys n) (h' : Pts p xs zs n) (ht : t ≤ n) (C : List Int) (s : Int) (hC : C.length ≤ t) (hz : ∀ i, i < n → nth zs i = (nth ys i + s * hor p (nth xs i) C) % p) (hf : fitB p xs ys t = true) :
    fitB p xs zs t = true ∧ ∀ y, atS p xs zs y n n = (atS p xs ys y n n + s * hor p y C) % p := by
  have hp2 : (2 : Int) ≤ p := by have := hp.1; omega
  obtain ⟨A, hA, ha⟩ := (fit_iff hp h ht).1 hf
  have hl := add2_len s A C t hA hC
  have hv : ∀ x, hor p x (add2 s A C) = (hor p x A + s * hor p x C) % p := by
    intro x
    rw [hor_mod hp2, hor_mod hp2 x A, hor_mod hp2 x C, pl_add2]
    rw [Int.emod_add_emod]
    exact (emod_step (mul_step (Int.emod_emod _ _) s) (pl A x)).symm
  have hw : ∀ i, i < n → hor p (nth xs i) (add2 s A C) = nth zs i := fun i hi => by rw [hv, ha i hi, hz i hi]
  refine ⟨(fit_iff hp h' ht).2 ⟨_, hl, hw⟩, fun y => ?_⟩
  rw [h'.at hp (by omega) hw, h.at hp (by omega) ha, hv]
end Go.Proofs.Ytfichpppjpgahaa
