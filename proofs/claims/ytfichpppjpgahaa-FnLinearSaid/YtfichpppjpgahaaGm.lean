/-
  The plain law on groups: powers modulo a prime, roots of unity, orders; nothing of the program stands here.
-/
import Derived.Test.YtfichpppjpgahaaPri
import Derived.Test.YtfichpppjpgahaaG
namespace Go.Proofs.Ytfichpppjpgahaa
set_option linter.unusedVariables false
set_option linter.unusedSimpArgs false

/-- Polynomials with leading coefficient 1. -/
def mon : List Int → Int → Int
  | [], _ => 1
  | d :: ds, x => d + x * mon ds x
theorem mon_add (r : Int) : ∀ bs us : List Int, us.length = bs.length + 1 → ∃ cs : List Int, cs.length = us.length ∧ ∀ x, mon us x + r * mon bs x = mon cs x
  | [], us, h => by
    match us, h with
    | [a], _ => exact ⟨[a + r], rfl, fun x => by simp only [mon]; grind⟩
  | b :: bs, us, h => by
    match us, h with
    | a :: us, h =>
      obtain ⟨cs, hc, he⟩ := mon_add r bs us (by simpa using h)
      refine ⟨(a + r * b) :: cs, by simp [hc], fun x => ?_⟩
      have := he x
      simp only [mon]
      grind
theorem mon_div (r : Int) : ∀ ds : List Int, ds ≠ [] → ∃ qs : List Int, qs.length + 1 = ds.length ∧ ∀ x, mon ds x - mon ds r = (x - r) * mon qs x
  | [], h => absurd rfl h
  | [d], _ => ⟨[], rfl, fun x => by simp only [mon]; grind⟩
  | d :: e :: es, _ => by
    obtain ⟨qs, hq, he⟩ := mon_div r (e :: es) (by simp)
    obtain ⟨cs, hc, hs⟩ := mon_add r qs (e :: es) (by omega)
    refine ⟨cs, by simp [hc], fun x => ?_⟩
    have h1 := he x
    have h2 := hs x
    have e1 : mon (d :: e :: es) x = d + x * mon (e :: es) x := rfl
    have e2 : mon (d :: e :: es) r = d + r * mon (e :: es) r := rfl
    rw [e1, e2, ← h2]
    generalize mon (e :: es) x = A at *
    generalize mon (e :: es) r = B at *
    generalize mon qs x = C at *
    clear e1 e2 h2 he hs hc hq
    grind
theorem mon_roots {p : Nat} (hp : Pr p) : ∀ (n : Nat) (ds : List Int), ds.length = n → ∀ rs : List Int, rs.length = n + 1 → rs.Pairwise (fun x y : Int => (x - y) % (p : Int) ≠ 0) → (∀ r ∈ rs, mon ds r % p = 0) → False
  | 0, ds, hd, rs, hr, _, hz => by
    match ds, hd, rs, hr with
    | [], _, [r], _ =>
      have := hz r (by simp)
      have h2 := hp.1
      simp only [mon] at this
      rw [Int.emod_eq_of_lt (by omega) (by omega)] at this
      omega
  | n + 1, ds, hd, rs, hr, hpw, hz => by
    match rs, hr with
    | r :: rs, hr =>
      obtain ⟨qs, hq, he⟩ := mon_div r ds (by intro e; rw [e] at hd; simp at hd)
      rw [List.pairwise_cons] at hpw
      refine mon_roots hp n qs (by omega) rs (by simpa using hr) hpw.2 (fun s hs => ?_)
      have h1 := hz s (List.mem_cons_of_mem _ hs)
      have h2 := hz r (List.mem_cons_self ..)
      have h3 : (s - r) * mon qs s % p = 0 := by rw [← he, ← emod_sub_zero, h1, h2]
      rcases hp.mul h3 with k | k
      · exfalso
        refine hpw.1 s hs ?_
        obtain ⟨c, hc⟩ := Int.dvd_of_emod_eq_zero k
        exact Int.emod_eq_zero_of_dvd ⟨-c, by rw [Int.mul_neg, ← hc]; omega⟩
      · exact k
theorem mon_zero (x : Int) : ∀ n, mon (List.replicate n 0) x = x ^ n
  | 0 => by simp [mon]
  | n + 1 => by rw [List.replicate_succ, mon, mon_zero x n, Int.pow_succ, Int.zero_add, Int.mul_comm]
theorem mon_one (x : Int) (n : Nat) : mon (-1 :: List.replicate n 0) x = x ^ (n + 1) - 1 := by
  rw [mon, mon_zero, Int.pow_succ, Int.mul_comm]; omega
theorem prmB_pr {p : Int} (h : prmB p = true) (h2 : p ≤ 2100) : Pr p.toNat := by
  obtain ⟨h1, h3⟩ := of_decide_eq_true h
  refine ⟨by omega, fun d hd1 hd2 hm => ?_⟩
  have hpd : d * (p.toNat / d) = p.toNat := Nat.mul_div_cancel' (Nat.dvd_of_mod_eq_zero hm)
  have hq1 : 2 ≤ p.toNat / d := by
    rcases Nat.lt_or_ge (p.toNat / d) 2 with k | k
    · have h01 : ∀ q : Nat, q < 2 → q = 0 ∨ q = 1 := fun q hq => by omega
      rcases h01 _ k with e | e
      · rw [e] at hpd; omega
      · rw [e] at hpd; omega
    · exact k
  have key : ∀ a b : Nat, 2 ≤ a → a ≤ b → a * b = p.toNat → False := by
    intro a b ha hab he
    have hsq : a * a ≤ p.toNat := by rw [← he]; exact Nat.mul_le_mul_left a hab
    have hsqi : (a : Int) * a ≤ p := by
      have : ((a * a : Nat) : Int) ≤ (p.toNat : Int) := by exact_mod_cast hsq
      rw [Int.natCast_mul] at this; omega
    have ha16 := sq_le46 (Int.natCast_nonneg a) hsqi h2
    refine h3 a (by omega) ha hsqi ?_
    have e2 : p = (a : Int) * b := by
      have : ((a * b : Nat) : Int) = (p.toNat : Int) := by rw [he]
      rw [Int.natCast_mul] at this; omega
    rw [e2]; exact Int.mul_emod_right _ _
  rcases Nat.le_total d (p.toNat / d) with k | k
  · exact key d _ hd1 k hpd
  · exact key _ d hq1 k (by rw [Nat.mul_comm]; exact hpd)

/-- Powers modulo p. -/
theorem pw_mul (p a : Int) (m n : Nat) : pw p a m * pw p a n % p = pw p a (m + n) := by
  unfold pw; rw [← Int.mul_emod, ← Int.pow_add]
theorem pw_pw (p a : Int) (m n : Nat) : pw p (pw p a m) n = pw p a (m * n) := by
  unfold pw; rw [pow_mod, ← Int.pow_mul]
theorem pw_one (p : Int) (n : Nat) (hp : 2 ≤ p) : pw p 1 n = 1 := by unfold pw; rw [Int.one_pow]; exact Int.emod_eq_of_lt (by omega) (by omega)
theorem pw_zero (p a : Int) (hp : 2 ≤ p) : pw p a 0 = 1 := by unfold pw; rw [Int.pow_zero]; exact Int.emod_eq_of_lt (by omega) (by omega)
theorem pw_1 (p a : Int) (h0 : 0 ≤ a) (h1 : a < p) : pw p a 1 = a := by unfold pw; rw [Int.pow_one]; exact Int.emod_eq_of_lt h0 h1
theorem pw_mulbase (p a b : Int) (n : Nat) : pw p (a * b % p) n = pw p a n * pw p b n % p := by
  unfold pw; rw [pow_mod, Int.mul_pow, Int.mul_emod]
theorem pw_add_order {p a : Int} {q : Nat} (h : pw p a q = 1) (hp : 2 ≤ p) (m k : Nat) : pw p a (m + q * k) = pw p a m := by
  rw [← pw_mul, ← pw_pw, h, pw_one p k hp, Int.mul_one]
  unfold pw
  exact Int.emod_emod_of_dvd _ (Int.dvd_refl _)
theorem pw_mod {p a : Int} {q : Nat} (h : pw p a q = 1) (hp : 2 ≤ p) (m : Nat) : pw p a (m % q) = pw p a m := by
  conv => rhs; rw [← Nat.mod_add_div m q]
  rw [pw_add_order h hp]
/-- An exponent that leads to 1 is a multiple of the order. -/
theorem order_dvd {p a : Int} {q : Nat} (hq : Pr q) (h : pw p a q = 1) (hp : 2 ≤ p) (h0 : 0 ≤ a) (h1 : a < p) (hne : a ≠ 1) {k : Nat} (hk : pw p a k = 1) : k % q = 0 := by
  rcases Nat.eq_zero_or_pos (k % q) with e | e
  · exact e
  · exfalso
    have hq2 := hq.1
    have hm : pw p a (k % q) = 1 := by rw [pw_mod h hp]; exact hk
    obtain ⟨x, hx0, hx1, hx⟩ := hq.inv (a := ((k % q : Nat) : Int)) (by rw [← Int.natCast_emod, Nat.mod_mod]; omega)
    have hx' : (k % q * x.toNat) % q = 1 := by
      have e1 : (((k % q * x.toNat) % q : Nat) : Int) = 1 := by
        rw [Int.natCast_emod, Int.natCast_mul, Int.toNat_of_nonneg hx0]; exact hx
      omega
    have e2 : pw p a (k % q * x.toNat) = 1 := by rw [← pw_pw, hm, pw_one p _ hp]
    rw [← pw_mod h hp, hx', pw_1 p a h0 h1] at e2
    exact hne e2
theorem pw_inj {p a : Int} {q : Nat} (hq : Pr q) (hpr : Pr p.toNat) (h : pw p a q = 1) (hp : 2 ≤ p) (h0 : 0 ≤ a) (h1 : a < p) (hne : a ≠ 1) {i j : Nat} (hi : i < q) (hj : j < q) (he : pw p a i = pw p a j) : i = j := by
  have key : ∀ i j : Nat, i ≤ j → j < q → pw p a i = pw p a j → i = j := by
    intro i j hij hj he
    have e1 : pw p a (j - i) = 1 := by
      have e2 : pw p a (i + (j - i)) = pw p a j := by congr 1; omega
      rw [← pw_mul, ← he] at e2
      -- pw i * pw (j-i) = pw i : multiply by pw (q - i)
      have e3 : pw p a (q - i) * (pw p a i * pw p a (j - i) % p) % p = pw p a (q - i) * pw p a i % p := by rw [e2]
      rw [Int.mul_emod, Int.emod_emod_of_dvd _ (Int.dvd_refl _), ← Int.mul_emod, ← Int.mul_assoc, Int.mul_emod, pw_mul, show q - i + i = q by omega, h, Int.one_mul, Int.emod_emod_of_dvd _ (Int.dvd_refl _)] at e3
      unfold pw at e3 ⊢
      rw [Int.emod_emod_of_dvd _ (Int.dvd_refl _)] at e3
      exact e3
    have := order_dvd hq h hp h0 h1 hne e1
    rw [Nat.mod_eq_of_lt (by omega)] at this
    omega
  rcases Nat.le_total i j with k | k
  · exact key i j k hj he
  · exact (key j i k hi he.symm).symm
/-- Every element is a power of every element but 1. -/
theorem pw_surj {p a b : Int} {q : Nat} (hq : Pr q) (hpr : Pr p.toNat) (h : pw p a q = 1) (hp : 2 ≤ p) (h0 : 0 ≤ a) (h1 : a < p) (hne : a ≠ 1) (hb0 : 0 ≤ b) (hb1 : b < p) (hb : pw p b q = 1) : ∃ i, i < q ∧ pw p a i = b := by
  apply Classical.byContradiction
  intro hno
  have hq2 := hq.1
  have hpp : ((p.toNat : Nat) : Int) = p := Int.toNat_of_nonneg (by omega)
  refine mon_roots hpr q (-1 :: List.replicate (q - 1) 0) (by simp; omega) (b :: (List.range q).map (fun i => pw p a i)) (by simp) ?_ ?_
  · rw [List.pairwise_cons]
    refine ⟨fun y hy => ?_, ?_⟩
    · simp only [List.mem_map, List.mem_range] at hy
      obtain ⟨i, hi, rfl⟩ := hy
      rw [hpp]
      intro e
      have e1 := emod_sub_zero.2 e
      have bd := pw_bd p a i (by omega)
      rw [Int.emod_eq_of_lt hb0 hb1, Int.emod_eq_of_lt bd.1 (by omega)] at e1
      exact hno ⟨i, hi, e1.symm⟩
    · rw [List.pairwise_map]
      refine List.Pairwise.imp_of_mem (R := fun x y => x < y) (fun {x y} hx hy hlt => ?_) List.pairwise_lt_range
      rw [List.mem_range] at hx hy
      rw [hpp]
      intro e
      have e1 := emod_sub_zero.2 e
      have b1 := pw_bd p a x (by omega)
      have b2 := pw_bd p a y (by omega)
      rw [Int.emod_eq_of_lt b1.1 (by omega), Int.emod_eq_of_lt b2.1 (by omega)] at e1
      have := pw_inj hq hpr h hp h0 h1 hne hx hy e1
      omega
  · intro r hr
    rw [mon_one, show q - 1 + 1 = q by omega, hpp]
    have key : ∀ r, pw p r q = 1 → (r ^ q - 1) % p = 0 := by
      intro r hr
      rw [← emod_sub_zero]
      unfold pw at hr
      rw [hr]; exact (Int.emod_eq_of_lt (by omega) (by omega)).symm
    rw [List.mem_cons] at hr
    rcases hr with rfl | hr
    · exact key _ hb
    · simp only [List.mem_map, List.mem_range] at hr
      obtain ⟨i, hi, rfl⟩ := hr
      refine key _ ?_
      rw [pw_pw, Nat.mul_comm, ← pw_pw, h, pw_one p i hp]
end Go.Proofs.Ytfichpppjpgahaa
