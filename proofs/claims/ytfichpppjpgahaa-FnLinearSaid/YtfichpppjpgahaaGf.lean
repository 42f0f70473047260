/-
  Plain facts on groups: Fermat's little theorem, the greatest prime that divides p - 1, an element of that order.
-/
import Derived.Test.YtfichpppjpgahaaGm
namespace Go.Proofs.Ytfichpppjpgahaa
set_option linter.unusedVariables false
set_option linter.unusedSimpArgs false

/-- The product of a list. -/
def prodL (l : List Int) : Int := l.foldr (· * ·) 1
theorem prodL_cons (x : Int) (l : List Int) : prodL (x :: l) = x * prodL l := rfl
theorem prodL_perm {l l' : List Int} (h : l.Perm l') : prodL l = prodL l' := by
  induction h with
  | nil => rfl
  | cons x _ ih => rw [prodL_cons, prodL_cons, ih]
  | swap x y l => rw [prodL_cons, prodL_cons, prodL_cons, prodL_cons]; grind
  | trans _ _ h1 h2 => exact h1.trans h2
theorem prodL_mulmod (a p : Int) : ∀ l : List Int, prodL (l.map fun x => a * x % p) % p = a ^ l.length * prodL l % p
  | [] => by simp [prodL]
  | x :: l => by
    rw [List.map_cons, prodL_cons, prodL_cons, List.length_cons, Int.mul_emod, prodL_mulmod a p l, Int.emod_emod_of_dvd _ (Int.dvd_refl _), ← Int.mul_emod, Int.pow_succ]
    congr 1; grind
theorem prodL_ne {p : Nat} (hp : Pr p) : ∀ l : List Int, (∀ x ∈ l, x % p ≠ 0) → prodL l % p ≠ 0
  | [], _ => by
    show (1 : Int) % p ≠ 0
    have := hp.1
    rw [Int.emod_eq_of_lt (by omega) (by omega)]; decide
  | x :: l, h => by
    intro e
    rcases hp.mul (show x * prodL l % p = 0 from e) with k | k
    · exact h x (by simp) k
    · exact prodL_ne hp l (fun y hy => h y (List.mem_cons_of_mem _ hy)) k
def res (p : Nat) : List Int := (List.range (p - 1)).map fun (i : Nat) => ((i : Int) + 1)
theorem mem_res {p : Nat} {x : Int} : x ∈ res p ↔ 1 ≤ x ∧ x < p := by
  unfold res
  rw [List.mem_map]
  constructor
  · rintro ⟨i, hi, rfl⟩
    rw [List.mem_range] at hi
    omega
  · rintro ⟨h1, h2⟩
    refine ⟨(x - 1).toNat, ?_, by omega⟩
    rw [List.mem_range]; omega
theorem res_len (p : Nat) : (res p).length = p - 1 := by simp [res]
theorem res_nodup (p : Nat) : (res p).Nodup := by
  unfold res List.Nodup
  rw [List.pairwise_map]
  refine List.Pairwise.imp (R := fun x y => x < y) (fun {x y} hlt => ?_) List.pairwise_lt_range
  omega
theorem mul_nodup {p : Nat} (hp : Pr p) {a : Int} (ha : a % p ≠ 0) : ((res p).map fun x => a * x % p).Nodup := by
  unfold List.Nodup
  rw [List.pairwise_map]
  refine List.Pairwise.imp_of_mem (R := fun x y => x ≠ y) (fun {x y} hx hy hne e => hne ?_) (res_nodup p)
  have hx' := mem_res.1 hx
  have hy' := mem_res.1 hy
  have := hp.cancel ha e
  rw [Int.emod_eq_of_lt (by omega) hx'.2, Int.emod_eq_of_lt (by omega) hy'.2] at this
  exact this
theorem mul_perm {p : Nat} (hp : Pr p) {a : Int} (ha : a % p ≠ 0) : ((res p).map fun x => a * x % p).Perm (res p) := by
  have hp2 := hp.1
  refine (List.perm_ext_iff_of_nodup (mul_nodup hp ha) (res_nodup p)).2 fun y => ?_
  rw [List.mem_map, mem_res]
  constructor
  · rintro ⟨x, hx, rfl⟩
    have hx' := mem_res.1 hx
    have h1 := Int.emod_nonneg (a * x) (show (p : Int) ≠ 0 by omega)
    have h2 := Int.emod_lt_of_pos (a * x) (show (0 : Int) < p by omega)
    have h3 : a * x % p ≠ 0 := by
      intro e
      rcases hp.mul e with k | k
      · exact ha k
      · rw [Int.emod_eq_of_lt (by omega) hx'.2] at k; omega
    omega
  · rintro ⟨h1, h2⟩
    obtain ⟨x, hx, he, _⟩ := hp.solve (a := a) y ha
    have e1 : a * x % p = y := by
      have := emod_sub_zero.2 he
      rw [this, Int.emod_eq_of_lt (by omega) h2]
    refine ⟨x, mem_res.2 ⟨?_, by omega⟩, e1⟩
    rcases Nat.eq_zero_or_pos x with k | k
    · exfalso
      subst k
      rw [show ((0 : Nat) : Int) = 0 from rfl, Int.mul_zero, Int.zero_emod] at e1
      omega
    · omega
/-- Fermat's little theorem. -/
theorem fermat {p : Nat} (hp : Pr p) {a : Int} (ha : a % p ≠ 0) : a ^ (p - 1) % p = 1 := by
  have e := prodL_mulmod a p (res p)
  rw [prodL_perm (mul_perm hp ha), res_len] at e
  have hne : prodL (res p) % p ≠ 0 := prodL_ne hp _ fun x hx => by
    have := mem_res.1 hx
    rw [Int.emod_eq_of_lt (by omega) this.2]; omega
  have h := hp.cancel (x := a ^ (p - 1)) (y := 1) hne (by rw [Int.mul_one, Int.mul_comm]; exact e.symm)
  have hp2 := hp.1
  rw [h]; exact Int.emod_eq_of_lt (by omega) (by omega)
theorem pw_fermat {p : Int} (hp : Pr p.toNat) {a : Int} (h1 : 1 ≤ a) (h2 : a < p) : pw p a (p - 1).toNat = 1 := by
  have e : ((p.toNat : Nat) : Int) = p := by omega
  have := fermat hp (a := a) (by rw [e, Int.emod_eq_of_lt (by omega) h2]; omega)
  rw [e] at this
  unfold pw
  rw [show (p - 1).toNat = p.toNat - 1 by omega]; exact this
/-- Where a prime divides p - 1, an element other than 1 has that order. -/
theorem elem_ex {p Q : Int} (hp : Pr p.toNat) (hQ : 2 ≤ Q) (h3 : 3 ≤ p) (hd : (p - 1) % Q = 0) : ∃ a, 2 ≤ a ∧ a ≤ p - 1 ∧ pw p a Q.toNat = 1 := by
  obtain ⟨m, hm⟩ := Int.dvd_of_emod_eq_zero hd
  have hm1 : 1 ≤ m := by
    rcases Int.lt_or_le 0 m with k | k
    · omega
    · exfalso
      have : Q * m ≤ 0 := Int.mul_nonpos_of_nonneg_of_nonpos (by omega) k
      omega
  have hm2 : m < p - 1 := by
    have : 2 * m ≤ Q * m := Int.mul_le_mul_of_nonneg_right hQ (by omega)
    omega
  have hex : ∃ x : Int, 1 ≤ x ∧ x < p ∧ pw p x m.toNat ≠ 1 := by
    apply Classical.byContradiction
    intro hno
    have hall : ∀ x : Int, 1 ≤ x → x < p → pw p x m.toNat = 1 := fun x h1 h2 => Classical.byContradiction fun k => hno ⟨x, h1, h2, k⟩
    have hpp : ((p.toNat : Nat) : Int) = p := by omega
    refine mon_roots hp m.toNat (-1 :: List.replicate (m.toNat - 1) 0) (by simp; omega) ((List.range (m.toNat + 1)).map (fun (i : Nat) => (i : Int) + 1)) (by simp) ?_ ?_
    · rw [List.pairwise_map]
      refine List.Pairwise.imp_of_mem (R := fun x y => x < y) (fun {x y} hx hy hlt => ?_) List.pairwise_lt_range
      rw [List.mem_range] at hx hy
      rw [hpp]
      intro e
      have e1 := emod_sub_zero.2 e
      rw [Int.emod_eq_of_lt (by omega) (by omega), Int.emod_eq_of_lt (by omega) (by omega)] at e1
      omega
    · intro r hr
      rw [mon_one, show m.toNat - 1 + 1 = m.toNat by omega, hpp, ← emod_sub_zero]
      simp only [List.mem_map, List.mem_range] at hr
      obtain ⟨i, hi, rfl⟩ := hr
      have := hall ((i : Int) + 1) (by omega) (by omega)
      unfold pw at this
      rw [this]; exact (Int.emod_eq_of_lt (by omega) (by omega)).symm
  obtain ⟨x, hx1, hx2, hx3⟩ := hex
  have hf : pw p (pw p x m.toNat) Q.toNat = 1 := by
    rw [pw_pw]
    have e : m.toNat * Q.toNat = (p - 1).toNat := by
      have : ((m.toNat * Q.toNat : Nat) : Int) = p - 1 := by
        rw [Int.natCast_mul, Int.toNat_of_nonneg (by omega), Int.toNat_of_nonneg (by omega), Int.mul_comm]; exact hm.symm
      omega
    rw [e]; exact pw_fermat hp hx1 hx2
  have bd := pw_bd p x m.toNat (by omega)
  refine ⟨pw p x m.toNat, ?_, bd.2, hf⟩
  rcases Int.lt_or_le 0 (pw p x m.toNat) with k | k
  · omega
  · exfalso
    have e0 : pw p x m.toNat = 0 := by omega
    rw [e0] at hf
    unfold pw at hf
    rw [show Q.toNat = (Q.toNat - 1) + 1 by omega, Int.pow_succ, Int.mul_zero, Int.zero_emod] at hf
    omega
/-- A number from 2 on has a prime that divides it. -/
theorem prime_dvd : ∀ (k : Nat) (n : Int), n.toNat ≤ k → 2 ≤ n → n ≤ 2100 → ∃ q, 2 ≤ q ∧ q ≤ n ∧ n % q = 0 ∧ prmB q = true
  | 0, n, hk, h1, _ => by omega
  | k + 1, n, hk, h1, h2 => by
    cases h : prmB n with
    | true => exact ⟨n, h1, Int.le_refl _, Int.emod_self, h⟩
    | false =>
      have hno := of_decide_eq_false h
      have hex : ∃ d : Nat, d < 46 ∧ 2 ≤ d ∧ (d : Int) * d ≤ n ∧ n % d = 0 := by
        apply Classical.byContradiction
        intro q
        exact hno ⟨h1, fun d a b c e => q ⟨d, a, b, c, e⟩⟩
      obtain ⟨d, _, hd2, hdd, hdm⟩ := hex
      have hlt : (d : Int) < n := by
        have : 2 * (d : Int) ≤ d * d := Int.mul_le_mul_of_nonneg_right (by omega) (by omega)
        omega
      obtain ⟨q, q1, q2, q3, q4⟩ := prime_dvd k d (by omega) (by omega) (by omega)
      obtain ⟨u, hu⟩ := Int.dvd_of_emod_eq_zero hdm
      obtain ⟨v, hv⟩ := Int.dvd_of_emod_eq_zero q3
      refine ⟨q, q1, by omega, ?_, q4⟩
      rw [hu, hv, Int.mul_assoc]; exact Int.mul_emod_right _ _
/-- The greatest number that meets a test. -/
theorem greatest {f : Int → Bool} : ∀ (k : Nat) (lo : Int), (∃ q, lo ≤ q ∧ q ≤ lo + k ∧ f q = true) → ∃ Q, lo ≤ Q ∧ Q ≤ lo + k ∧ f Q = true ∧ ∀ q, Q < q → q ≤ lo + k → f q = false
  | 0, lo, ⟨q, h1, h2, h3⟩ => ⟨q, h1, h2, h3, fun q' a b => by omega⟩
  | k + 1, lo, ⟨q, h1, h2, h3⟩ => by
    cases h : f (lo + (k + 1 : Nat)) with
    | true => exact ⟨lo + (k + 1 : Nat), by omega, Int.le_refl _, h, fun q' a b => by omega⟩
    | false =>
      have hq : q ≠ lo + (k + 1 : Nat) := by intro e; rw [e, h] at h3; cases h3
      obtain ⟨Q, a, b, c, d⟩ := greatest k lo ⟨q, h1, by omega, h3⟩
      refine ⟨Q, a, by omega, c, fun q' h4 h5 => ?_⟩
      rcases Int.lt_or_le (lo + k) q' with m | m
      · rw [show q' = lo + (k + 1 : Nat) by omega]; exact h
      · exact d q' h4 m
/-- The least number that meets a test. -/
theorem least {f : Int → Bool} : ∀ (k : Nat) (lo : Int), (∃ q, lo ≤ q ∧ q ≤ lo + k ∧ f q = true) → ∃ Q, lo ≤ Q ∧ Q ≤ lo + k ∧ f Q = true ∧ ∀ q, lo ≤ q → q < Q → f q = false
  | 0, lo, ⟨q, h1, h2, h3⟩ => ⟨q, h1, h2, h3, fun q' a b => by omega⟩
  | k + 1, lo, ⟨q, h1, h2, h3⟩ => by
    cases h : f lo with
    | true => exact ⟨lo, Int.le_refl _, by omega, h, fun q' a b => by omega⟩
    | false =>
      have hq : q ≠ lo := by intro e; rw [e, h] at h3; cases h3
      obtain ⟨Q, a, b, c, d⟩ := least k (lo + 1) ⟨q, by omega, by omega, h3⟩
      refine ⟨Q, by omega, by omega, c, fun q' h4 h5 => ?_⟩
      rcases Int.lt_or_le lo q' with m | m
      · exact d q' (by omega) h5
      · rw [show q' = lo by omega]; exact h
def qB (p q : Int) : Bool := decide ((p - 1) % q = 0) && prmB q
theorem qB_iff {p q : Int} : qB p q = true ↔ (p - 1) % q = 0 ∧ prmB q = true := by unfold qB; rw [Bool.and_eq_true, decide_eq_true_iff]
def gB (p Q a : Int) : Bool := decide (pw p a Q.toNat = 1)
theorem gB_iff {p Q a : Int} : gB p Q a = true ↔ pw p a Q.toNat = 1 := decide_eq_true_iff
theorem gB_no {p Q a : Int} : gB p Q a = false ↔ ¬ pw p a Q.toNat = 1 := decide_eq_false_iff_not
/-- The group that belongs to a modulus. -/
structure IsGF (p Q G : Int) : Prop where
  ql : 2 ≤ Q ∧ Q ≤ p - 1
  qb : qB p Q = true
  qm : ∀ q, Q < q → q ≤ p - 1 → qB p q = false
  gl : 2 ≤ G ∧ G ≤ p - 1
  gb : gB p Q G = true
  gm : ∀ a, 2 ≤ a → a < G → gB p Q a = false
theorem gf_ex {p : Int} (h : modB p = true) : ∃ Q G, IsGF p Q G := by
  obtain ⟨h1, h2⟩ := modB_lo h
  have hpr := prmB_pr (Bool.and_eq_true_iff.1 h).2 (by omega)
  obtain ⟨q, a, b, c, d⟩ := prime_dvd (p - 1).toNat (p - 1) (Nat.le_refl _) (by omega) (by omega)
  obtain ⟨Q, q1, q2, q3, q4⟩ := greatest (f := qB p) (p - 3).toNat 2 ⟨q, a, by omega, qB_iff.2 ⟨c, d⟩⟩
  obtain ⟨x, x1, x2, x3⟩ := elem_ex hpr q1 h1 (qB_iff.1 q3).1
  obtain ⟨G, g1, g2, g3, g4⟩ := least (f := gB p Q) (p - 3).toNat 2 ⟨x, x1, by omega, gB_iff.2 x3⟩
  exact ⟨Q, G, ⟨q1, by omega⟩, q3, fun q a b => q4 q a (by omega), ⟨g1, by omega⟩, g3, g4⟩
theorem IsGF.grB {p Q G : Int} (h : IsGF p Q G) (hm : modB p = true) : grB p Q G = true := by
  obtain ⟨h1, h2⟩ := qB_iff.1 h.qb
  unfold Proofs.Ytfichpppjpgahaa.grB
  simp only [Bool.and_eq_true, decide_eq_true_iff, inB_iff]
  exact ⟨hm, ⟨h.ql, h2⟩, h1, h.gl, gB_iff.1 h.gb⟩
end Go.Proofs.Ytfichpppjpgahaa
