/-
  The plain laws on products, as the law FnProducts asks for them.
-/
import Derived.Test.YtfandnakenpfnaaPn
import Derived.Test.YtfandnakenpfnaaD7
namespace Go.Proofs.Ytfandnakenpfnaa
set_option linter.unusedVariables false
set_option linter.unusedSimpArgs false

theorem mult_law {p key i : Int} {xs ys : List Int} (h : (multPairs p key i xs ys).2 = true) : ∃ x0 x1 y0 y1 z0 z1, xs = [x0, x1] ∧ ys = [y0, y1] ∧ multPairs p key i xs ys = ([z0, z1], true) ∧ 2 ≤ p ∧ p ≤ 251 ∧
    ((0 ≤ x0 ∧ x0 ≤ p - 1) ∧ (0 ≤ x1 ∧ x1 ≤ p - 1)) ∧ ((0 ≤ y0 ∧ y0 ≤ p - 1) ∧ (0 ≤ y1 ∧ y1 ≤ p - 1)) ∧ ((0 ≤ z0 ∧ z0 ≤ p - 1) ∧ (0 ≤ z1 ∧ z1 ≤ p - 1)) ∧ (x0 + x1) % p * ((y0 + y1) % p) % p = (z0 + z1) % p := by
  have hc : (lnB p xs 2 && (lnB p ys 2 && (keyB key && inB i 0 1000))) = true := by
    cases k : (lnB p xs 2 && (lnB p ys 2 && (keyB key && inB i 0 1000))) with
    | true => rfl
    | false => unfold multPairs at h; rw [k] at h; cases h
  have ht : multPairs p key i xs ys = (mulP p key i xs ys, true) := by unfold multPairs; rw [hc]; rfl
  obtain ⟨h1, h2⟩ := Bool.and_eq_true_iff.1 hc
  obtain ⟨h2, _⟩ := Bool.and_eq_true_iff.1 h2
  obtain ⟨hp1, hp2⟩ := lnB_p h1
  obtain ⟨x0, x1, rfl, bx⟩ := ln2 h1
  obtain ⟨y0, y1, rfl, by'⟩ := ln2 h2
  obtain ⟨z0, z1, hz, bz⟩ := mulP_open p key i [x0, x1] [y0, y1] hp1
  have hs := mulP_sum p key i [x0, x1] [y0, y1]
  rw [hz] at ht hs
  refine ⟨x0, x1, y0, y1, z0, z1, rfl, rfl, ht, hp1, hp2, bx, by', bz, ?_⟩
  show (x0 + x1) % p * ((y0 + y1) % p) % p = sm [z0, z1] % p
  rw [hs, ← Int.mul_emod]; rfl
theorem pow_law {p key q : Int} {xs : List Int} (h : (powShared p key xs q).2 = true) : ∃ x0 x1 z0 z1, xs = [x0, x1] ∧ powShared p key xs q = ([z0, z1], true) ∧ 2 ≤ p ∧ p ≤ 251 ∧ 1 ≤ q ∧ q ≤ 8 ∧
    ((0 ≤ x0 ∧ x0 ≤ p - 1) ∧ (0 ≤ x1 ∧ x1 ≤ p - 1)) ∧ ((0 ≤ z0 ∧ z0 ≤ p - 1) ∧ (0 ≤ z1 ∧ z1 ≤ p - 1)) ∧ pwO p ((x0 + x1) % p) q.toNat % p = (z0 + z1) % p := by
  have hc : (lnB p xs 2 && (keyB key && inB q 1 8)) = true := by
    cases k : (lnB p xs 2 && (keyB key && inB q 1 8)) with
    | true => rfl
    | false => unfold powShared at h; rw [k] at h; cases h
  have ht : powShared p key xs q = (powL p key xs (q.toNat - 1), true) := by unfold powShared; rw [hc]; rfl
  obtain ⟨h1, h2⟩ := Bool.and_eq_true_iff.1 hc
  obtain ⟨_, h3⟩ := Bool.and_eq_true_iff.1 h2
  have hq := inB_iff.1 h3
  obtain ⟨hp1, hp2⟩ := lnB_p h1
  obtain ⟨z0, z1, hz, b0, b1⟩ := powL_open p key xs (q.toNat - 1) h1
  have hs := pow_sum p key xs (q.toNat - 1)
  obtain ⟨x0, x1, rfl, bx⟩ := ln2 h1
  rw [hz] at ht hs
  refine ⟨x0, x1, z0, z1, rfl, ht, hp1, hp2, hq.1, hq.2, bx, ⟨b0, b1⟩, ?_⟩
  have e : q.toNat - 1 + 1 = q.toNat := by omega
  rw [e] at hs
  exact hs.symm
theorem dot_law {p key : Int} {xs ys : List (List Int)} (h : (dotShared p key xs ys).2 = true) : ∃ z0 z1, dotShared p key xs ys = ([z0, z1], true) ∧ 2 ≤ p ∧ p ≤ 251 ∧ xs.length = ys.length ∧ xs.length ≤ 20 ∧ prsB p xs = true ∧ prsB p ys = true ∧
    ((0 ≤ z0 ∧ z0 ≤ p - 1) ∧ (0 ≤ z1 ∧ z1 ≤ p - 1)) ∧ dsum p xs ys xs.length % p = (z0 + z1) % p := by
  by_cases hd : dotB p key xs ys = true
  · obtain ⟨hpr, _, h1, h2, h3, h4⟩ := dotB_iff.1 hd
    obtain ⟨hp1, hp2⟩ := prB_lo hpr
    obtain ⟨z0, z1, hz, b0, b1⟩ := dotN_open p key xs ys xs.length hp1
    have hs := dot_sum p key xs ys xs.length
    have ht := dot_t hd
    rw [hz] at ht hs
    exact ⟨z0, z1, ht, hp1, hp2, h3, h4, h1, h2, ⟨b0, b1⟩, hs.symm⟩
  · rw [dot_f hd] at h; cases h
end Go.Proofs.Ytfandnakenpfnaa
