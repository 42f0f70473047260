/-
  The plain laws on groups that the drawn laws speak of: powers, inverses, orders, products, uniqueness of a modulus's group, how often an answer comes.
-/
import Derived.Test.YtklgneaamhjfpaaGf
import Derived.Test.YtklgneaamhjfpaaGt
import Derived.Test.YtklgneaamhjfpaaG4
namespace Go.Proofs.Ytklgneaamhjfpaa
set_option linter.unusedVariables false
set_option linter.unusedSimpArgs false

theorem IsGF.uniq {p Q G Q' G' : Int} (h : IsGF p Q G) (h' : IsGF p Q' G') : Q = Q' ∧ G = G' := by
  have eQ : Q = Q' := by
    rcases Int.lt_or_le Q Q' with k | k
    · have := h.qm Q' k h'.ql.2
      rw [h'.qb] at this; cases this
    · rcases Int.lt_or_le Q' Q with k2 | k2
      · have := h'.qm Q k2 h.ql.2
        rw [h.qb] at this; cases this
      · omega
  subst eQ
  refine ⟨rfl, ?_⟩
  rcases Int.lt_or_le G G' with k | k
  · have := h'.gm G h.gl.1 k
    rw [h.gb] at this; cases this
  · rcases Int.lt_or_le G' G with k2 | k2
    · have := h.gm G' h'.gl.1 k2
      rw [h'.gb] at this; cases this
    · omega
theorem hasB_iff {P Q a : Int} : hasB P Q a = true ↔ (1 ≤ a ∧ a ≤ P - 1) ∧ pw P a Q.toNat = 1 := by
  unfold hasB; rw [Bool.and_eq_true, inB_iff, decide_eq_true_iff]
/-- A residue whose power is 1 is an element. -/
theorem hasB_of {P Q a : Int} (hP : 2 ≤ P) (hQ : 2 ≤ Q) (h0 : 0 ≤ a) (h1 : a ≤ P - 1) (h : pw P a Q.toNat = 1) : hasB P Q a = true := by
  refine hasB_iff.2 ⟨⟨?_, h1⟩, h⟩
  rcases Int.lt_or_le 0 a with k | k
  · omega
  · exfalso
    obtain rfl : a = 0 := by omega
    unfold pw at h
    rw [show Q.toNat = (Q.toNat - 1) + 1 by omega, Int.pow_succ, Int.mul_zero, Int.zero_emod] at h
    omega
theorem pw_ord {P a : Int} {q : Nat} (hP : 2 ≤ P) (h : pw P a q = 1) (m : Nat) : pw P (pw P a m) q = 1 := by
  rw [pw_pw, Nat.mul_comm, ← pw_pw, h, pw_one P m hP]
theorem has_gpw {P Q a : Int} (n : Int) (hP : 2 ≤ P) (hQ : 2 ≤ Q) (h : hasB P Q a = true) : hasB P Q (gpw P Q a n) = true := by
  have bd := gpw_bd P Q a n (by omega)
  exact hasB_of hP hQ bd.1 bd.2 (pw_ord hP (hasB_iff.1 h).2 _)
theorem has_mul {P Q a b : Int} (hP : 2 ≤ P) (hQ : 2 ≤ Q) (h : hasB P Q a = true) (k : hasB P Q b = true) : hasB P Q (a * b % P) = true := by
  have bd := emod_bd (n := a * b) (p := P) (by omega)
  refine hasB_of hP hQ bd.1 (by omega) ?_
  rw [pw_mulbase, (hasB_iff.1 h).2, (hasB_iff.1 k).2]
  exact Int.emod_eq_of_lt (by omega) (by omega)
theorem has_one {P Q : Int} (hP : 2 ≤ P) : hasB P Q 1 = true := hasB_iff.2 ⟨⟨by omega, by omega⟩, pw_one P _ hP⟩
/-- An exponent counts by its residue. -/
theorem gpw_of {P Q a : Int} (hP : 2 ≤ P) (hQ : 2 ≤ Q) (h : pw P a Q.toNat = 1) (k : Nat) (n : Int) (e : (k : Int) % Q = n % Q) : pw P a k = gpw P Q a n := by
  unfold gpw
  rw [← pw_mod h hP k, ← e]
  congr 1
  have : ((k % Q.toNat : Nat) : Int) = (k : Int) % Q := by rw [Int.natCast_emod, Int.toNat_of_nonneg (by omega)]
  omega
theorem gpw_add {P Q a : Int} (hP : 2 ≤ P) (hQ : 2 ≤ Q) (h : pw P a Q.toNat = 1) (m n : Int) : gpw P Q a m * gpw P Q a n % P = gpw P Q a (m + n) := by
  have bm := emod_bd (n := m) (p := Q) (by omega)
  have bn := emod_bd (n := n) (p := Q) (by omega)
  show pw P a _ * pw P a _ % P = _
  rw [pw_mul]
  refine gpw_of hP hQ h _ _ ?_
  rw [Int.natCast_add, Int.toNat_of_nonneg bm.1, Int.toNat_of_nonneg bn.1, ← Int.add_emod]
theorem gpw_gpw {P Q a : Int} (hP : 2 ≤ P) (hQ : 2 ≤ Q) (h : pw P a Q.toNat = 1) (m n : Int) : gpw P Q (gpw P Q a m) n = gpw P Q a (m * n) := by
  have bm := emod_bd (n := m) (p := Q) (by omega)
  have bn := emod_bd (n := n) (p := Q) (by omega)
  show pw P (pw P a _) _ = _
  rw [pw_pw]
  refine gpw_of hP hQ h _ _ ?_
  rw [Int.natCast_mul, Int.toNat_of_nonneg bm.1, Int.toNat_of_nonneg bn.1, ← Int.mul_emod]
theorem gpw_neg {P Q a : Int} (hP : 2 ≤ P) (hQ : 2 ≤ Q) (h : pw P a Q.toNat = 1) (n : Int) : gpw P Q (gpw P Q a n) (-1) = gpw P Q a (-n) := by
  rw [gpw_gpw hP hQ h]; congr 1; omega
theorem gpw_zero {P Q a : Int} (hP : 2 ≤ P) : gpw P Q a 0 = 1 := by
  unfold gpw; rw [Int.zero_emod]; exact pw_zero P a hP
theorem gpw_1 {P Q a : Int} (hQ : 2 ≤ Q) (h0 : 0 ≤ a) (h1 : a < P) : gpw P Q a 1 = a := by
  unfold gpw; rw [Int.emod_eq_of_lt (by omega) (by omega)]; exact pw_1 P a h0 h1
theorem gpw_Q {P Q a : Int} (hP : 2 ≤ P) : gpw P Q a Q = 1 := by
  unfold gpw; rw [Int.emod_self]; exact pw_zero P a hP
theorem gpw_one {P Q : Int} (n : Int) (hP : 2 ≤ P) : gpw P Q 1 n = 1 := pw_one P _ hP
theorem mul_inv {P Q a : Int} (hP : 2 ≤ P) (hQ : 2 ≤ Q) (h : hasB P Q a = true) : a * gpw P Q a (-1) % P = 1 := by
  obtain ⟨⟨h0, h1⟩, h2⟩ := hasB_iff.1 h
  have e := gpw_add hP hQ h2 1 (-1)
  rw [gpw_1 hQ (by omega) (by omega)] at e
  rw [e]; exact gpw_zero hP
theorem gpw_next {P Q G : Int} (h : grB P Q G = true) (n : Int) : gpw P Q G (n + 1) ≠ gpw P Q G n := by
  obtain ⟨hP, hQ, hG, p3, q2, g2, g3, p4, q4⟩ := grB_facts h
  intro e
  have b1 := emod_bd (n := n + 1) (p := Q) (by omega)
  have b2 := emod_bd (n := n) (p := Q) (by omega)
  have := pw_inj hQ hP hG (by omega) (by omega) (by omega) (by omega) (by omega) (by omega) e
  have e2 : (n + 1) % Q = n % Q := by omega
  have e3 := Int.emod_eq_emod_iff_emod_sub_eq_zero.1 e2
  rw [show n + 1 - n = 1 by omega, Int.emod_eq_of_lt (by omega) (by omega)] at e3
  omega
/-- The logarithm of an element. -/
theorem log_ex {P Q G a b : Int} (h : grB P Q G = true) (ha : hasB P Q a = true) (hb : hasB P Q b = true) (hne : a ≠ 1) : ∃ i : Nat, (i : Int) < Q ∧ pw P a i = b := by
  obtain ⟨hP, hQ, hG, p3, q2, g2, g3, p4, q4⟩ := grB_facts h
  obtain ⟨⟨a0, a1⟩, a2⟩ := hasB_iff.1 ha
  obtain ⟨⟨b0, b1⟩, b2⟩ := hasB_iff.1 hb
  obtain ⟨i, hi, e⟩ := pw_surj hQ hP a2 (by omega) (by omega) (by omega) hne (by omega) (by omega) b2
  exact ⟨i, by omega, e⟩
theorem log_uniq {P Q G a : Int} (h : grB P Q G = true) (ha : hasB P Q a = true) (hne : a ≠ 1) {i j : Nat} (hi : (i : Int) < Q) (hj : (j : Int) < Q) (e : pw P a i = pw P a j) : i = j := by
  obtain ⟨hP, hQ, hG, p3, q2, g2, g3, p4, q4⟩ := grB_facts h
  obtain ⟨⟨a0, a1⟩, a2⟩ := hasB_iff.1 ha
  exact pw_inj hQ hP a2 (by omega) (by omega) (by omega) hne (by omega) (by omega) e
theorem gpw_nat {P Q a : Int} (i : Nat) (hQ : 2 ≤ Q) (hi : (i : Int) < Q) : gpw P Q a i = pw P a i := by
  unfold gpw; rw [Int.emod_eq_of_lt (by omega) hi]; rfl
theorem has_G {P Q G : Int} (h : grB P Q G = true) : hasB P Q G = true := by
  obtain ⟨hP, hQ, hG, p3, q2, g2, g3, p4, q4⟩ := grB_facts h
  exact hasB_iff.2 ⟨⟨by omega, g3⟩, hG⟩
/-- An answer comes with each choice for one secret. -/
theorem awN_cnt (P Q G f ans c : Int) : ∀ n : Nat, awN P Q G f ans c n = cnt (fun k => answ P Q G f (k : Nat) c == ans) n
  | 0 => rfl
  | n + 1 => by rw [awN, cnt, awN_cnt P Q G f ans c n]; rfl
theorem aw_one {P Q G f ans : Int} (c : Int) (h : firstB P Q G f = true) (ha : hasB P Q ans = true) : awN P Q G f ans c Q.toNat = 1 := by
  obtain ⟨hg, hf, hne⟩ := firstB_iff.1 h
  obtain ⟨hP, hQ, hG, p3, q2, g2, g3, p4, q4⟩ := grB_facts hg
  obtain ⟨⟨f0, f1⟩, f2⟩ := hasB_iff.1 hf
  obtain ⟨⟨a0, a1⟩, a2⟩ := hasB_iff.1 ha
  have hG1 : G ≠ 1 := by omega
  rw [awN_cnt]
  by_cases hc : c = 1
  · -- the answer over the first message
    have hx := has_mul (by omega) q2 ha (has_gpw (-1) (by omega) q2 hf)
    obtain ⟨i, hi, e⟩ := log_ex hg (has_G hg) hx hG1
    have key : ans * gpw P Q f (-1) % P * f % P = ans := by
      rw [Int.mul_emod, Int.emod_emod_of_dvd _ (Int.dvd_refl P), ← Int.mul_emod, Int.mul_assoc, Int.mul_comm (gpw P Q f (-1)) f, Int.mul_emod, mul_inv (by omega) q2 hf, Int.mul_one, Int.emod_emod_of_dvd _ (Int.dvd_refl P)]
      exact Int.emod_eq_of_lt (by omega) (by omega)
    refine cnt_one (x := i) (by omega) ?_ (fun j hj hj2 => ?_)
    · rw [beq_iff_eq]; unfold answ; rw [if_pos hc, gpw_nat i q2 hi, e]; exact key
    · rw [beq_iff_eq] at hj2; unfold answ at hj2; rw [if_pos hc, gpw_nat j q2 (by omega)] at hj2
      refine log_uniq hg (has_G hg) hG1 (by omega) hi ?_
      rw [e]
      have bd := pw_bd P G j (by omega)
      have e2 : pw P G j * f % P * gpw P Q f (-1) % P = pw P G j := by
        rw [Int.mul_emod, Int.emod_emod_of_dvd _ (Int.dvd_refl P), ← Int.mul_emod, Int.mul_assoc, Int.mul_emod, mul_inv (by omega) q2 hf, Int.mul_one, Int.emod_emod_of_dvd _ (Int.dvd_refl P)]
        exact Int.emod_eq_of_lt (by omega) (by omega)
      rw [hj2] at e2; exact e2.symm
  · obtain ⟨i, hi, e⟩ := log_ex hg (has_G hg) ha hG1
    refine cnt_one (x := i) (by omega) ?_ (fun j hj hj2 => ?_)
    · rw [beq_iff_eq]; unfold answ; rw [if_neg hc, gpw_nat i q2 hi, e]
    · rw [beq_iff_eq] at hj2; unfold answ at hj2; rw [if_neg hc, gpw_nat j q2 (by omega)] at hj2
      refine log_uniq hg (has_G hg) hG1 (by omega) hi ?_
      rw [e]; exact hj2
theorem ways_one {P Q G f ans : Int} (h : (answerWays P Q G f ans).2.2 = true) : (answerWays P Q G f ans).1 = 1 ∧ (answerWays P Q G f ans).2.1 = 1 := by
  unfold answerWays at h ⊢
  cases k : awB P Q G f ans with
  | false => rw [k] at h; simp at h
  | true =>
    unfold awB at k
    rw [Bool.and_eq_true] at k
    simp only [if_true]
    exact ⟨aw_one 0 k.1 k.2, aw_one 1 k.1 k.2⟩
end Go.Proofs.Ytklgneaamhjfpaa
