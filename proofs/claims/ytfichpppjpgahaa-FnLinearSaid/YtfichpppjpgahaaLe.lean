/-
  Plain laws: what Gauss's elimination ends with solves the equations.
-/
import Derived.Test.YtfichpppjpgahaaLd
namespace Go.Proofs.Ytfichpppjpgahaa
set_option linter.unusedVariables false
set_option linter.unusedSimpArgs false

/-- The first row from k on whose entry in column c is not 0, or n. -/
def pvF (M : Mat) (c n : Nat) : Nat → Nat → Nat
  | 0, k => k
  | f + 1, k => if k < n ∧ M k c = 0 then pvF M c n f (k + 1) else k
theorem pvF_spec (M : Mat) (c n : Nat) : ∀ f k, k ≤ n → n ≤ k + f → k ≤ pvF M c n f k ∧ pvF M c n f k ≤ n ∧ (pvF M c n f k < n → M (pvF M c n f k) c ≠ 0)
  | 0, k, h1, h2 => ⟨Nat.le_refl _, h1, fun h => by show M k c ≠ 0; have : k < n := h; omega⟩
  | f + 1, k, h1, h2 => by
    rw [pvF]
    by_cases h : k < n ∧ M k c = 0
    · rw [if_pos h]
      have ih := pvF_spec M c n f (k + 1) (by omega) (by omega)
      exact ⟨by omega, ih.2.1, ih.2.2⟩
    · rw [if_neg h]
      exact ⟨Nat.le_refl _, h1, fun hk e => h ⟨hk, e⟩⟩
theorem pvF_go {M : Mat} {c n f k : Nat} (h : k < n) (e : M k c = 0) : pvF M c n (f + 1) k = pvF M c n f (k + 1) := by rw [pvF, if_pos ⟨h, e⟩]
theorem pvF_stop {M : Mat} {c n f k : Nat} (h : ¬ (k < n ∧ M k c = 0)) : pvF M c n (f + 1) k = k := by rw [pvF, if_neg h]
def gaussS (p : Int) (M : Mat) (n : Nat) : Nat → Option Mat
  | 0 => some M
  | c + 1 => match gaussS p M n c with
    | none => none
    | some A => if pvF A c n (n - c) c = n then none else some (stepM p A c (pvF A c n (n - c) c))
theorem gaussS_inv {p : Nat} (hp : Pr p) {M : Mat} {n : Nat} (hr : redM p M n) : ∀ c, c ≤ n → ∀ A, gaussS p M n c = some A → redM p A n ∧ unitC A n c ∧ ∀ s : Nat → Int, (∀ i, i < n → okR p n (A i) s) → ∀ i, i < n → okR p n (M i) s
  | 0, _, A, h => by
    simp only [gaussS, Option.some.injEq] at h; subst h
    exact ⟨hr, fun i j _ hj => by omega, fun s hs => hs⟩
  | c + 1, hc, A, h => by
    rw [gaussS] at h
    cases e : gaussS p M n c with
    | none => rw [e] at h; cases h
    | some B =>
      rw [e] at h
      dsimp only at h
      obtain ⟨b1, b2, b3⟩ := gaussS_inv hp hr c (by omega) B e
      obtain ⟨k1, k2, k3⟩ := pvF_spec B c n (n - c) c (by omega) (by omega)
      generalize pvF B c n (n - c) c = k at h k1 k2 k3
      by_cases ek : k = n
      · rw [if_pos ek] at h; cases h
      · rw [if_neg ek] at h
        simp only [Option.some.injEq] at h
        subst h
        have hkn : k < n := by omega
        have hb := b1 k c hkn (by omega)
        have hne := k3 hkn
        have hv : B k c % (p : Int) ≠ 0 := by rw [Int.emod_eq_of_lt hb.1 hb.2]; exact hne
        have hpos := hp.1
        exact ⟨step_red (by omega) B n c k, step_unit hp (by omega) k1 hkn b1 b2 hv, fun s hs => b3 s (step_ok hp (by omega) hkn hv hs)⟩
/-- What is found solves the equations. -/
theorem gauss_law {p : Nat} (hp : Pr p) {M A : Mat} {n : Nat} (hr : redM p M n) (h : gaussS p M n n = some A) : ∀ i, i < n → (dotF (M i) (fun j => A j n) n - M i n) % (p : Int) = 0 := by
  obtain ⟨_, hu, hs⟩ := gaussS_inv hp hr n (Nat.le_refl _) A h
  exact hs _ (unit_ok hu)
end Go.Proofs.Ytfichpppjpgahaa
