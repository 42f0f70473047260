/-
  Plain laws: places of sums and scaled polynomials, bounds.
-/
import Derived.Test.YtfichpppjpgahaaLi
namespace Go.Proofs.Ytfichpppjpgahaa
set_option linter.unusedVariables false
set_option linter.unusedSimpArgs false

theorem nth_addS (p s : Int) : ∀ (os cs : List Int) (j : Nat), os.length = cs.length → j < os.length → nth (addS p s os cs) j = (nth os j + nth cs j * s) % p
  | [], _, j, _, h => by simp at h
  | _ :: _, [], j, h, _ => by simp at h
  | o :: os, c :: cs, 0, _, _ => by rw [addS, nth_cons0, nth_cons0, nth_cons0]
  | o :: os, c :: cs, j + 1, h, hj => by
    rw [addS, nth_consS, nth_consS, nth_consS]
    exact nth_addS p s os cs j (by simpa using h) (by simpa using hj)
theorem nth_scl (p s : Int) : ∀ (l : List Int) (j : Nat), j < l.length → nth (scl p s l) j = nth l j * s % p
  | [], j, h => by simp at h
  | c :: cs, 0, _ => by rw [scl, List.map_cons, nth_cons0, nth_cons0]
  | c :: cs, j + 1, h => by
    have := nth_scl p s cs j (by simpa using h)
    unfold scl at this ⊢
    rw [List.map_cons, nth_consS, nth_consS]; exact this
theorem scl_len (p s : Int) (l : List Int) : (scl p s l).length = l.length := by simp [scl]
/-- All numbers of a list are residues. -/
def Res (p : Int) (l : List Int) : Prop := ∀ x ∈ l, 0 ≤ x ∧ x < p
theorem Res.at {p : Int} {l : List Int} (h : Res p l) {i : Nat} (hi : i < l.length) : 0 ≤ nth l i ∧ nth l i < p := h _ (nth_mem hi)
theorem Res.any {p : Int} (hp : 1 ≤ p) {l : List Int} (h : Res p l) (i : Nat) : 0 ≤ nth l i ∧ nth l i < p := by
  rcases Nat.lt_or_ge i l.length with k | k
  · exact h.at k
  · unfold nth
    rw [List.getD_eq_getElem?_getD, List.getElem?_eq_none k]
    exact ⟨Int.le_refl _, by show (0 : Int) < p; omega⟩
theorem Res.mx {p : Int} (hp : 2 ≤ p) (a : Int) (l : List Int) : Res p (mx p a l) := mxGo_bd hp a l 0
theorem Res.scl {p : Int} (hp : 2 ≤ p) (s : Int) (l : List Int) : Res p (scl p s l) := by
  intro x hx
  obtain ⟨c, _, rfl⟩ := List.mem_map.1 hx
  exact ⟨Int.emod_nonneg _ (by omega), Int.emod_lt_of_pos _ (by omega)⟩
theorem Res.rep {p : Int} (hp : 1 ≤ p) (n : Nat) : Res p (List.replicate n 0) := by
  intro x hx
  rw [List.eq_of_mem_replicate hx]; omega
theorem Res.one {p y : Int} (h : 0 ≤ y ∧ y < p) : Res p [y] := by
  intro x hx
  simp at hx; subst hx; exact h
theorem Res.addS {p : Int} (hp : 2 ≤ p) (s : Int) : ∀ os cs : List Int, os.length = cs.length → Res p (addS p s os cs)
  | [], [], _ => by intro x hx; simp [Proofs.Ytfichpppjpgahaa.addS] at hx
  | [], _ :: _, h => by simp at h
  | _ :: _, [], h => by simp at h
  | o :: os, c :: cs, h => by
    intro x hx
    rw [Proofs.Ytfichpppjpgahaa.addS] at hx
    rcases List.mem_cons.1 hx with e | e
    · subst e; exact ⟨Int.emod_nonneg _ (by omega), Int.emod_lt_of_pos _ (by omega)⟩
    · exact Res.addS hp s os cs (by simpa using h) x e
theorem prI_res {p : Int} (hp : 2 ≤ p) (xs : List Int) (i : Nat) : ∀ k, Res p (prI p xs i k)
  | 0 => Res.one (by omega)
  | k + 1 => by
    rw [prI]; split
    · exact prI_res hp xs i k
    · exact Res.mx hp _ _
theorem vaI_bd {p : Int} (hp : 2 ≤ p) (xs : List Int) (i : Nat) : ∀ k, 0 ≤ vaI p xs i k ∧ vaI p xs i k < p
  | 0 => by rw [vaI]; omega
  | k + 1 => by
    rw [vaI]; split
    · exact vaI_bd hp xs i k
    · exact ⟨Int.emod_nonneg _ (by omega), Int.emod_lt_of_pos _ (by omega)⟩
theorem paS_res {p y : Int} (hp : 2 ≤ p) (hy : 0 ≤ y ∧ y < p) (xs : List Int) (i : Nat) : ∀ k, Res p (paS p xs y i k)
  | 0 => Res.one hy
  | k + 1 => by
    rw [paS]; split
    · exact paS_res hp hy xs i k
    · exact Res.scl hp _ _
theorem paS_len (p : Int) (xs : List Int) (y : Int) (i : Nat) : ∀ k, (paS p xs y i k).length = 1 + k - (if i < k then 1 else 0)
  | 0 => rfl
  | k + 1 => by
    have ih := paS_len p xs y i k
    rw [paS]
    split
    · rename_i e; subst e
      rw [ih, if_neg (by omega), if_pos (by omega)]; omega
    · rename_i e
      rw [scl_len, mx_len, ih]
      by_cases h : i < k
      · rw [if_pos h, if_pos (by omega)]; omega
      · rw [if_neg h, if_neg (by omega)]; omega
theorem polyI_res {p : Int} (hp : 2 ≤ p) (xs ys : List Int) (n : Nat) : ∀ i, i ≤ n → Res p (polyI p xs ys n i)
  | 0, _ => Res.rep (by omega) n
  | i + 1, h => by
    rw [polyI]
    exact Res.addS hp _ _ _ (by rw [polyI_len _ _ _ _ _ (by omega), prI_len, if_pos (by omega)]; omega)
theorem polyS_len (p : Int) (xs ys : List Int) (n : Nat) : ∀ i, i ≤ n → (polyS p xs ys n i).length = n
  | 0, _ => by simp [polyS]
  | i + 1, h => by
    have ih := polyS_len p xs ys n i (by omega)
    rw [polyS, addS_len _ _ _ _ (by rw [ih, paS_len, if_pos (by omega)]; omega), ih]
theorem polyS_res {p : Int} (hp : 2 ≤ p) (xs ys : List Int) (n : Nat) : ∀ i, i ≤ n → Res p (polyS p xs ys n i)
  | 0, _ => Res.rep (by omega) n
  | i + 1, h => by
    rw [polyS]
    exact Res.addS hp _ _ _ (by rw [polyS_len _ _ _ _ _ (by omega), paS_len, if_pos (by omega)]; omega)
/-- Where a sum stands behind k rounds. -/
def adg (p s : Int) (os cs : List Int) (k j : Nat) : Int := if j < k then (nth os j + nth cs j * s) % p else nth os j
theorem adg_0 (p s : Int) (os cs : List Int) (j : Nat) : adg p s os cs 0 j = nth os j := by unfold adg; rw [if_neg (by omega)]
theorem adg_at (p s : Int) (os cs : List Int) (k : Nat) : adg p s os cs k k = nth os k := by unfold adg; rw [if_neg (by omega)]
theorem adg_same (p s : Int) (os cs : List Int) (k : Nat) : (nth os k + nth cs k * s) % p = adg p s os cs (k + 1) k := by unfold adg; rw [if_pos (by omega)]
theorem adg_other (p s : Int) (os cs : List Int) (k j : Nat) (h : j ≠ k) : adg p s os cs k j = adg p s os cs (k + 1) j := by
  unfold adg
  by_cases h1 : j < k
  · rw [if_pos h1, if_pos (by omega)]
  · rw [if_neg h1, if_neg (by omega)]
theorem adg_end (p s : Int) (os cs : List Int) (n j : Nat) (h1 : os.length = n) (h2 : cs.length = n) (hj : j < n) : adg p s os cs n j = nth (addS p s os cs) j := by
  rw [nth_addS p s os cs j (by omega) (by omega)]; unfold adg; rw [if_pos hj]
/-- The same for a scaled list. -/
def scg (p s : Int) (l : List Int) (k j : Nat) : Int := if j < k then nth l j * s % p else nth l j
theorem scg_0 (p s : Int) (l : List Int) (j : Nat) : scg p s l 0 j = nth l j := by unfold scg; rw [if_neg (by omega)]
theorem scg_at (p s : Int) (l : List Int) (k : Nat) : scg p s l k k = nth l k := by unfold scg; rw [if_neg (by omega)]
theorem scg_same (p s : Int) (l : List Int) (k : Nat) : nth l k * s % p = scg p s l (k + 1) k := by unfold scg; rw [if_pos (by omega)]
theorem scg_other (p s : Int) (l : List Int) (k j : Nat) (h : j ≠ k) : scg p s l k j = scg p s l (k + 1) j := by
  unfold scg
  by_cases h1 : j < k
  · rw [if_pos h1, if_pos (by omega)]
  · rw [if_neg h1, if_neg (by omega)]
theorem scg_end (p s : Int) (l : List Int) (n j : Nat) (h1 : l.length = n) (hj : j < n) : scg p s l n j = nth (scl p s l) j := by
  rw [nth_scl p s l j (by omega)]; unfold scg; rw [if_pos hj]
end Go.Proofs.Ytfichpppjpgahaa
