/-
  The plain law on tags: what is computed with tagged values whose tags hold has tags that hold; two tags of different values hold with one key for one delta alone.
-/
import Derived.Test.YtnamhfaacamihaaPri
import Derived.Test.YtnamhfaacamihaaK
namespace Go.Proofs.Ytnamhfaacamihaa
set_option linter.unusedVariables false
set_option linter.unusedSimpArgs false

theorem emod_split (x p : Int) : ∃ q, x % p = x - p * q := ⟨x / p, Int.emod_def x p⟩
theorem zero_of {x p : Int} (q : Int) (h : x = p * q) : x % p = 0 := by rw [h]; exact Int.mul_emod_right _ _
theorem tags_ok {p d k v : Int} (h : elsB p [d, k, v] = true) :
    tagFor p d k v = (v, (v * d + k) % p, true) ∧
    elsB p [d, k, v, (v * d + k) % p] = true ∧ tagOk p d k v ((v * d + k) % p) = true ∧
    addTg p v ((v * d + k) % p) v ((v * d + k) % p) = ((v + v) % p, ((v * d + k) % p + (v * d + k) % p) % p, true) ∧
    elB p k = true ∧
    elsB p [d, (k + k) % p, (v + v) % p, ((v * d + k) % p + (v * d + k) % p) % p] = true ∧ tagOk p d ((k + k) % p) ((v + v) % p) (((v * d + k) % p + (v * d + k) % p) % p) = true ∧
    shiftTg p v ((v * d + k) % p) 1 = ((v + 1) % p, (v * d + k) % p, true) ∧ semShiftKey p d k 1 = ((k - 1 * d) % p, true) ∧
    elsB p [d, (k - 1 * d) % p, (v + 1) % p, (v * d + k) % p] = true ∧ tagOk p d ((k - 1 * d) % p) ((v + 1) % p) ((v * d + k) % p) = true := by
  obtain ⟨hp1, hp2⟩ := elsB_p h
  have hpr : prB p = true := by unfold elsB at h; exact (Bool.and_eq_true_iff.1 h).1
  have hd : 0 ≤ d ∧ d ≤ p - 1 := elsB_nth h (i := 0) (by simp)
  have hk : 0 ≤ k ∧ k ≤ p - 1 := elsB_nth h (i := 1) (by simp)
  have hv : 0 ≤ v ∧ v ≤ p - 1 := elsB_nth h (i := 2) (by simp)
  have ed : elB p d = true := elB_iff.2 ⟨hpr, hd⟩
  have ek : elB p k = true := elB_iff.2 ⟨hpr, hk⟩
  have ev : elB p v = true := elB_iff.2 ⟨hpr, hv⟩
  have e1 : elB p 1 = true := elB_iff.2 ⟨hpr, by omega, by omega⟩
  have em : ∀ x, elB p (x % p) = true := fun x => elB_iff.2 ⟨hpr, (emod_bd (by omega)).1, by have := (emod_bd (n := x) (p := p) (by omega)).2; omega⟩
  have els4 : ∀ a b c e, elB p a = true → elB p b = true → elB p c = true → elB p e = true → elsB p [a, b, c, e] = true := by
    intro a b c e ha hb hc he
    rw [elsB_cons, elsB_cons, elsB_cons, elsB_cons, elsB_nil, ha, hb, hc, he, hpr]; rfl
  have els3 : elsB p [d, k, 1] = true := by
    rw [elsB_cons, elsB_cons, elsB_cons, elsB_nil, ed, ek, e1, hpr]; rfl
  obtain ⟨q3, h3⟩ := emod_split (v * d + k) p
  have et := em (v * d + k)
  have ok1 : tagOk p d k v ((v * d + k) % p) = true := decide_eq_true (zero_of q3 (by rw [h3]; grind))
  have ok2 : tagOk p d ((k + k) % p) ((v + v) % p) (((v * d + k) % p + (v * d + k) % p) % p) = true := by
    obtain ⟨q1, h1⟩ := emod_split (v + v) p
    obtain ⟨q2, h2⟩ := emod_split (k + k) p
    obtain ⟨q4, h4⟩ := emod_split ((v * d + k) % p + (v * d + k) % p) p
    exact decide_eq_true (zero_of (2 * q3 - q1 * d - q2 + q4) (by rw [h1, h2, h4, h3]; grind))
  have ok3 : tagOk p d ((k - 1 * d) % p) ((v + 1) % p) ((v * d + k) % p) = true := by
    obtain ⟨q1, h1⟩ := emod_split (v + 1) p
    obtain ⟨q2, h2⟩ := emod_split (k - 1 * d) p
    exact decide_eq_true (zero_of (q3 - q1 * d - q2) (by rw [h1, h2, h3]; grind))
  refine ⟨by unfold tagFor; rw [if_pos h], els4 _ _ _ _ ed ek ev et, ok1, by unfold addTg; rw [ev, et]; rfl, ek, els4 _ _ _ _ ed (em _) (em _) (em _), ok2, by unfold shiftTg; rw [ev, et, e1]; rfl, by unfold semShiftKey; rw [if_pos els3], els4 _ _ _ _ ed (em _) (em _) et, ok3⟩
theorem cheats_cnt (p v t v' t' : Int) : ∀ k, ((cheats p v t v' t' k).length : Int) = cnt (fun i => cheat p v t v' t' i) k
  | 0 => by simp [cheats, cnt]
  | k + 1 => by
    have ih := cheats_cnt p v t v' t' k
    rw [cheats, cnt, ← ih]
    cases cheat p v t v' t' k <;> simp
theorem cheat_one {p v t v' t' : Int} (h : (cheatKeys p v t v' t').2 = true) (hne : v ≠ v') : (cheatKeys p v t v' t').1.length = 1 := by
  unfold cheatKeys at h ⊢
  split at h
  · rename_i hc
    rw [if_pos hc]
    obtain ⟨h1, h2⟩ := Bool.and_eq_true_iff.1 hc
    have a1 := elB_iff.1 (Bool.and_eq_true_iff.1 h1).1
    have a2 := elB_iff.1 (Bool.and_eq_true_iff.1 h2).1
    obtain ⟨q, rfl, hq⟩ := prB_nat a1.1
    have hq2 := hq.1
    have hne' : (v' - v) % (q : Int) ≠ 0 := by
      intro e
      have e1 := emod_sub_zero.2 e
      rw [Int.emod_eq_of_lt (by omega) (by omega), Int.emod_eq_of_lt (by omega) (by omega)] at e1
      omega
    obtain ⟨x, hx, hx1, hx2⟩ := hq.solve (t' - t) hne'
    have key : ∀ y : Nat, cheat q v t v' t' y = true ↔ ((v' - v) * y - (t' - t)) % (q : Int) = 0 := by
      intro y
      unfold cheat
      rw [decide_eq_true_iff, emod_sub_zero]
      rw [show t - v * (y : Int) - (t' - v' * (y : Int)) = (v' - v) * y - (t' - t) by grind]
    have hc1 : cnt (fun i => cheat q v t v' t' i) q = 1 := cnt_one hx ((key x).2 hx1) (fun i hi hi2 => hx2 i hi ((key i).1 hi2))
    have hl := cheats_cnt q v t v' t' q
    rw [hc1] at hl
    show (cheats q v t v' t' (q : Int).toNat).length = 1
    rw [Int.toNat_natCast]
    omega
  · cases h
end Go.Proofs.Ytnamhfaacamihaa
