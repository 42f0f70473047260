/-
  The plain laws on triples: how many checks are passed, products from triples, openings.
-/
import Derived.Test.YtfandnakenpfnaaPri
import Derived.Test.YtfandnakenpfnaaM4
import Derived.Test.YtfandnakenpfnaaD8
namespace Go.Proofs.Ytfandnakenpfnaa
set_option linter.unusedVariables false
set_option linter.unusedSimpArgs false

theorem esplit (x p : Int) : ∃ q, x % p = x - p * q := ⟨x / p, Int.emod_def x p⟩
theorem ezero {x p : Int} (q : Int) (h : x = p * q) : x % p = 0 := by rw [h]; exact Int.mul_emod_right _ _
theorem econg {x y p : Int} (q : Int) (h : x = y + p * q) : x % p = y % p := by rw [h]; exact Int.add_mul_emod_self_left _ _ _
/-- A check is linear in what is asked. -/
theorem chkV_lin (p a b c f g h r : Int) : chkV p a b c f g h r % p = ((c - a * b) * r - (h - f * g)) % p := by
  unfold chkV chkO chkQ
  obtain ⟨q1, h1⟩ := esplit (b - g) p
  obtain ⟨q2, h2⟩ := esplit (r * a - f) p
  rw [h1, h2]
  exact econg (q1 * f + q2 * g + q1 * (r * a - f) + q2 * (b - g) - p * q1 * q2) (by grind)
theorem bitN_if (b : Bool) : bitN b = if b = true then 1 else 0 := by cases b <;> rfl
theorem pcSum_cnt (p : Int) (s t u v : List Int) : ∀ n, pcSum p s t u v n = cnt (fun i => chkB p s t u v i) n
  | 0 => rfl
  | n + 1 => by rw [pcSum, cnt, pcSum_cnt p s t u v n, bitN_if]
theorem fourB_iff {p : Int} {s t u v : List Int} : fourB p s t u v = true ↔ lnB p s 3 = true ∧ lnB p t 3 = true ∧ lnB p u 3 = true ∧ lnB p v 3 = true := by
  unfold fourB; simp only [Bool.and_eq_true]
theorem isTriple_of {p : Int} {s t : List Int} (h : lnB p s 3 = true) (h' : lnB p t 3 = true) : isTriple p s t = (decide (((nth s 0 + nth t 0) * (nth s 1 + nth t 1) - (nth s 2 + nth t 2)) % p = 0), true) := by
  unfold isTriple; rw [h, h']; rfl
theorem passing_law {p : Int} {s t u v : List Int} (h : (passingChecks p s t u v).2 = true) :
    (isTriple p s t).2 = true ∧ (isTriple p u v).2 = true ∧ 2 ≤ p ∧ p ≤ 251 ∧
    ((isTriple p s t).1 = false → (passingChecks p s t u v).1 = 1) ∧
    ((isTriple p s t).1 = true → (isTriple p u v).1 = true → (passingChecks p s t u v).1 = p) ∧
    ((isTriple p s t).1 = true → (isTriple p u v).1 = false → (passingChecks p s t u v).1 = 0) := by
  have hf : fourB p s t u v = true := by
    cases k : fourB p s t u v with
    | true => rfl
    | false => unfold passingChecks at h; rw [k] at h; cases h
  obtain ⟨h1, h2, h3, h4⟩ := fourB_iff.1 hf
  have hpc : passingChecks p s t u v = (pcSum p s t u v p.toNat, true) := by unfold passingChecks; rw [hf]; rfl
  rw [isTriple_of h1 h2, isTriple_of h3 h4, hpc, pcSum_cnt]
  obtain ⟨hp1, hp2⟩ := elsB_p (lnB_iff.1 h1).1
  have hpr : prB p = true := by have := (lnB_iff.1 h1).1; unfold elsB at this; exact (Bool.and_eq_true_iff.1 this).1
  obtain ⟨q, rfl, hq⟩ := prB_nat hpr
  refine ⟨rfl, rfl, hp1, hp2, fun k => ?_, fun k k' => ?_, fun k k' => ?_⟩
  all_goals simp only [decide_eq_false_iff_not, decide_eq_true_eq] at k
  all_goals try simp only [decide_eq_false_iff_not, decide_eq_true_eq] at k'
  · have hne : ((nth s 2 + nth t 2) - (nth s 0 + nth t 0) * (nth s 1 + nth t 1)) % (q : Int) ≠ 0 := by
      intro e
      refine k ?_
      have e1 := Int.dvd_of_emod_eq_zero e
      exact Int.emod_eq_zero_of_dvd (by rw [← Int.neg_sub]; exact Int.dvd_neg.2 e1)
    obtain ⟨x, hx, hx1, hx2⟩ := hq.solve ((nth u 2 + nth v 2) - (nth u 0 + nth v 0) * (nth u 1 + nth v 1)) hne
    show cnt _ (q : Int).toNat = 1
    rw [Int.toNat_natCast]
    refine cnt_one hx (decide_eq_true ?_) (fun i hi hi2 => hx2 i hi ?_)
    · rw [chkV_lin]; exact hx1
    · have := of_decide_eq_true hi2
      rw [chkV_lin] at this; exact this
  · show cnt _ (q : Int).toNat = q
    rw [Int.toNat_natCast]
    refine cnt_all (fun i hi => decide_eq_true ?_)
    rw [chkV_lin]
    obtain ⟨c, hc⟩ := Int.dvd_of_emod_eq_zero k
    obtain ⟨d, hd⟩ := Int.dvd_of_emod_eq_zero k'
    exact ezero (d - c * i) (by grind)
  · show cnt _ (q : Int).toNat = 0
    refine cnt_zero (fun i hi => decide_eq_false ?_)
    rw [chkV_lin]
    intro e
    refine k' ?_
    obtain ⟨c, hc⟩ := Int.dvd_of_emod_eq_zero k
    obtain ⟨d, hd⟩ := Int.dvd_of_emod_eq_zero e
    exact ezero (c * i + d) (by grind)
theorem els3 {p a b c : Int} (hpr : prB p = true) (ha : 0 ≤ a ∧ a ≤ p - 1) (hb : 0 ≤ b ∧ b ≤ p - 1) (hc : 0 ≤ c ∧ c ≤ p - 1) : lnB p [a, b, c] 3 = true := by
  refine lnB_iff.2 ⟨?_, rfl⟩
  rw [elsB_cons, elsB_cons, elsB_cons, elsB_nil, elB_iff.2 ⟨hpr, ha⟩, elB_iff.2 ⟨hpr, hb⟩, elB_iff.2 ⟨hpr, hc⟩, hpr]; rfl
/-- What TripleFor makes is a triple. -/
theorem tripleFor_is {p key i : Int} (h : (tripleFor p key i).2.2 = true) : isTriple p (tripleFor p key i).1 (tripleFor p key i).2.1 = (true, true) := by
  have hc : (prB p && (keyB key && inB i 0 1000)) = true := by
    cases k : (prB p && (keyB key && inB i 0 1000)) with
    | true => rfl
    | false => unfold tripleFor at h; rw [k] at h; cases h
  have ht : tripleFor p key i = (tripA p key i, tripB p key i, true) := by unfold tripleFor; rw [hc]; rfl
  have hpr : prB p = true := (Bool.and_eq_true_iff.1 hc).1
  obtain ⟨hp1, hp2⟩ := prB_lo hpr
  rw [ht]
  obtain ⟨s0, s1, s2, hA, ba, bb, bc⟩ := tripA_open p key i hp1
  obtain ⟨t0, t1, t2, hB, da, db, dc⟩ := tripB_open p key i hp1
  have l1 : lnB p (tripA p key i) 3 = true := by rw [hA]; exact els3 hpr ba bb bc
  have l2 : lnB p (tripB p key i) 3 = true := by rw [hB]; exact els3 hpr da db dc
  show isTriple p (tripA p key i) (tripB p key i) = _
  rw [isTriple_of l1 l2]
  congr 1
  refine decide_eq_true ?_
  show ((t5 p key i 2 + (t5 p key i 0 - t5 p key i 2) % p) * (t5 p key i 3 + (t5 p key i 1 - t5 p key i 3) % p) - (t5 p key i 4 + (t5 p key i 0 * t5 p key i 1 - t5 p key i 4) % p)) % p = 0
  obtain ⟨q1, e1⟩ := esplit (t5 p key i 0 - t5 p key i 2) p
  obtain ⟨q2, e2⟩ := esplit (t5 p key i 1 - t5 p key i 3) p
  obtain ⟨q3, e3⟩ := esplit (t5 p key i 0 * t5 p key i 1 - t5 p key i 4) p
  rw [e1, e2, e3]
  exact ezero (q3 - q1 * t5 p key i 1 - q2 * t5 p key i 0 + p * q1 * q2) (by grind)
/-! ### Openings -/
theorem owIn_cnt (p x y d e : Int) (a : Nat) : ∀ n, owIn p x y d e a n = cnt (fun b => owC p x y d e a b) n
  | 0 => rfl
  | n + 1 => by rw [owIn, cnt, owIn_cnt p x y d e a n, bitN_if]
theorem owOut_cnt (p x y d e : Int) (m : Nat) (f : Nat → Bool) (h : ∀ a, owIn p x y d e a m = if f a = true then 1 else 0) : ∀ n, owOut p x y d e m n = cnt f n
  | 0 => rfl
  | n + 1 => by rw [owOut, cnt, owOut_cnt p x y d e m f h n, h n]
theorem one_sol {p x d : Int} (hp : 1 ≤ p) (hx : 0 ≤ x ∧ x ≤ p - 1) (hd : 0 ≤ d ∧ d ≤ p - 1) : ∃ a : Nat, a < p.toNat ∧ (x - a) % p = d ∧ ∀ b : Nat, b < p.toNat → (x - b) % p = d → b = a := by
  have hb := emod_bd (n := x - d) (p := p) hp
  refine ⟨((x - d) % p).toNat, by omega, ?_, fun b hbp he => ?_⟩
  · rw [Int.toNat_of_nonneg hb.1]
    obtain ⟨q, hq⟩ := esplit (x - d) p
    rw [hq, show x - (x - d - p * q) = d + p * q by omega, Int.add_mul_emod_self_left]
    exact Int.emod_eq_of_lt hd.1 (by omega)
  · have e1 : (b : Int) % p = (x - d) % p := by
      obtain ⟨q, hq⟩ := esplit (x - b) p
      rw [hq] at he
      exact econg (-q) (by rw [Int.mul_neg]; omega)
    rw [Int.emod_eq_of_lt (by omega) (by omega)] at e1
    omega
theorem openWays_one {p x y d e : Int} (h : (openWays p x y d e).2 = true) : (openWays p x y d e).1 = 1 := by
  have hc : elsB p [x, y, d, e] = true := by
    cases k : elsB p [x, y, d, e] with
    | true => rfl
    | false => unfold openWays at h; rw [k] at h; cases h
  have ht : openWays p x y d e = (owOut p x y d e p.toNat p.toNat, true) := by unfold openWays; rw [hc]; rfl
  rw [ht]
  obtain ⟨hp1, hp2⟩ := elsB_p hc
  have hx : 0 ≤ x ∧ x ≤ p - 1 := elsB_nth hc (i := 0) (by simp)
  have hy : 0 ≤ y ∧ y ≤ p - 1 := elsB_nth hc (i := 1) (by simp)
  have hd : 0 ≤ d ∧ d ≤ p - 1 := elsB_nth hc (i := 2) (by simp)
  have he : 0 ≤ e ∧ e ≤ p - 1 := elsB_nth hc (i := 3) (by simp)
  obtain ⟨a, ha, ha1, ha2⟩ := one_sol (by omega) hx hd
  obtain ⟨b, hb, hb1, hb2⟩ := one_sol (by omega) hy he
  show owOut p x y d e p.toNat p.toNat = 1
  rw [owOut_cnt p x y d e p.toNat (fun i => decide ((x - i) % p = d)) (fun i => ?_)]
  · exact cnt_one ha (decide_eq_true ha1) (fun i hi hi2 => ha2 i hi (of_decide_eq_true hi2))
  · rw [owIn_cnt]
    by_cases hi : (x - (i : Int)) % p = d
    · simp only [hi, decide_true, if_true]
      refine cnt_one hb ?_ (fun j hj hj2 => hb2 j hj ?_)
      · unfold owC; rw [hi, hb1]; simp
      · unfold owC at hj2; simpa using (Bool.and_eq_true_iff.1 hj2).2
    · simp only [hi, decide_false]
      refine cnt_zero (fun j hj => ?_)
      unfold owC
      rw [show ((x - (i : Int)) % p == d) = false by simpa using hi]; rfl
/-! ### Masks and failed checks -/
theorem mask_law {p x y : Int} {s : List Int} (h : (maskPair p s x y).2 = true) : ∃ m0 m1, (maskPair p s x y).1 = [m0, m1] ∧ maskPair p [0, 0, 0] m0 m1 = ([m0, m1], true) ∧ (m0 + nth s 0) % p = x ∧ (m1 + nth s 1) % p = y ∧
    s.length = 3 ∧ 2 ≤ p ∧ p ≤ 251 ∧ (0 ≤ m0 ∧ m0 ≤ p - 1) ∧ (0 ≤ m1 ∧ m1 ≤ p - 1) ∧ (0 ≤ nth s 0 ∧ nth s 0 ≤ p - 1) ∧ (0 ≤ nth s 1 ∧ nth s 1 ≤ p - 1) := by
  have hc : (lnB p s 3 && (elB p x && elB p y)) = true := by
    cases k : (lnB p s 3 && (elB p x && elB p y)) with
    | true => rfl
    | false => unfold maskPair at h; rw [k] at h; cases h
  have ht : maskPair p s x y = ([(x - nth s 0) % p, (y - nth s 1) % p], true) := by unfold maskPair; rw [hc]; rfl
  obtain ⟨h1, h2⟩ := Bool.and_eq_true_iff.1 hc
  obtain ⟨hx, hy⟩ := Bool.and_eq_true_iff.1 h2
  have hl := lnB_iff.1 h1
  obtain ⟨hp1, hp2⟩ := elsB_p hl.1
  have hpr : prB p = true := (elB_iff.1 hx).1
  have bx := (elB_iff.1 hx).2; have by' := (elB_iff.1 hy).2
  have s0 := elsB_nth hl.1 (i := 0) (by omega)
  have s1 := elsB_nth hl.1 (i := 1) (by omega)
  have b0 := emod_bd (n := x - nth s 0) (p := p) (by omega)
  have b1 := emod_bd (n := y - nth s 1) (p := p) (by omega)
  have back : ∀ u v : Int, 0 ≤ u ∧ u ≤ p - 1 → ((u - v) % p + v) % p = u := by
    intro u v hu
    obtain ⟨q, hq⟩ := esplit (u - v) p
    rw [hq, econg (y := u) (-q) (by rw [Int.mul_neg]; omega)]
    exact Int.emod_eq_of_lt hu.1 (by omega)
  refine ⟨(x - nth s 0) % p, (y - nth s 1) % p, by rw [ht], ?_, back _ _ bx, back _ _ by', hl.2, hp1, hp2, ⟨b0.1, by omega⟩, ⟨b1.1, by omega⟩, s0, s1⟩
  unfold maskPair
  have e0 : elB p ((x - nth s 0) % p) = true := elB_iff.2 ⟨hpr, b0.1, by omega⟩
  have e1 : elB p ((y - nth s 1) % p) = true := elB_iff.2 ⟨hpr, b1.1, by omega⟩
  rw [els3 hpr ⟨by omega, by omega⟩ ⟨by omega, by omega⟩ ⟨by omega, by omega⟩, e0, e1]
  show ([((x - nth s 0) % p - 0) % p, ((y - nth s 1) % p - 0) % p], true) = _
  rw [Int.sub_zero, Int.sub_zero, Int.emod_emod_of_dvd _ (Int.dvd_refl p), Int.emod_emod_of_dvd _ (Int.dvd_refl p)]
theorem check_law {p r : Int} {s t u v : List Int} (h : (checkTriple p s t u v r).2 = true) (h1 : (checkTriple p s t u v r).1 = false) : (passingChecks p s t u v).2 = true ∧ (passingChecks p s t u v).1 < p := by
  have hc : (fourB p s t u v && elB p r) = true := by
    cases k : (fourB p s t u v && elB p r) with
    | true => rfl
    | false => unfold checkTriple at h; rw [k] at h; cases h
  have ht : checkTriple p s t u v r = (chkB p s t u v r, true) := by unfold checkTriple; rw [hc]; rfl
  obtain ⟨hf, hr⟩ := Bool.and_eq_true_iff.1 hc
  have hpc : passingChecks p s t u v = (pcSum p s t u v p.toNat, true) := by unfold passingChecks; rw [hf]; rfl
  obtain ⟨hp1, hp2⟩ := elB_p hr
  have br := (elB_iff.1 hr).2
  rw [ht] at h1
  rw [hpc]
  refine ⟨rfl, ?_⟩
  have e : ((r.toNat : Nat) : Int) = r := by omega
  have := cnt_lt (f := fun i => chkB p s t u v i) (x := r.toNat) (n := p.toNat) (by omega) (by show chkB p s t u v (r.toNat : Nat) = false; rw [e]; exact h1)
  show pcSum p s t u v p.toNat < p
  rw [pcSum_cnt]; omega
end Go.Proofs.Ytfandnakenpfnaa
