/-
  The plain law of shared bits, as the walk wants it.
-/
import Derived.Test.YtmkcanbaleecfaaVb
import Derived.Test.YtmkcanbaleecfaaSx
namespace Go.Proofs.Ytmkcanbaleecfaa
open Go.RowKit
set_option linter.unusedVariables false
set_option linter.unusedSimpArgs false
set_option maxRecDepth 10000

theorem B4.below {w w' : World} {b : Nat} {x0 x1 x2 x3 : Value} (h : B4 w b x0 x1 x2 x3) (hb : Below w.heap.size w w') : B4 w' b x0 x1 x2 x3 := h.on hb
theorem bt_yes {key i : Int} (h : (bitTriple key i).2.2 = true) : (bitTriple key i) = (btA key i, btB key i, true) := by
  unfold bitTriple at h ⊢
  split
  · rfl
  · rename_i k; rw [if_neg k] at h; cases h
theorem bt_facts {key i : Int} {T : List Int × List Int × Bool} (hT : T = bitTriple key i) (h : T.2.2 = true) : T.1.length = 3 ∧ T.2.1.length = 3 ∧ (∀ j, 0 ≤ nth T.1 j ∧ nth T.1 j ≤ 1) ∧ (∀ j, 0 ≤ nth T.2.1 j ∧ nth T.2.1 j ≤ 1) ∧
    xr (nth T.1 0) (nth T.2.1 0) * xr (nth T.1 1) (nth T.2.1 1) = xr (nth T.1 2) (nth T.2.1 2) := by
  subst hT
  rw [bt_yes h]
  have bA : bit1 (btA key i) := fun x hx => by simp only [btA, List.mem_cons, List.not_mem_nil, or_false] at hx; rcases hx with rfl | rfl | rfl <;> exact bt_bd _ _ _
  have bB : bit1 (btB key i) := fun x hx => by simp only [btB, List.mem_cons, List.not_mem_nil, or_false] at hx; rcases hx with rfl | rfl | rfl <;> exact xr_bd _ _
  exact ⟨rfl, rfl, fun j => bit1_at bA j, fun j => bit1_at bB j, trip_law key i⟩
theorem sb_law {x0 x1 : Int} {gs os us vs : List Int} {gn : Nat} {key : Int} {R : List Int × List Int × List Int × Bool} (hR : R = runAll x0 x1 gs gn os key us vs) (h : R.2.2.2 = true) :
    (valAll x0 x1 gs gn os us vs).2 = true ∧ (evAll x0 x1 gs gn os us vs).2 = true ∧ rsAll x0 x1 gs gn os key us vs = evAll x0 x1 gs gn os us vs ∧ R.1.length = (valAll x0 x1 gs gn os us vs).1.length ∧ R.2.1.length = (valAll x0 x1 gs gn os us vs).1.length ∧
    (∀ j, 0 ≤ nth R.1 j ∧ nth R.1 j ≤ 1) ∧ (∀ j, 0 ≤ nth R.2.1 j ∧ nth R.2.1 j ≤ 1) ∧ (∀ j, j < (valAll x0 x1 gs gn os us vs).1.length → xr (nth R.1 j) (nth R.2.1 j) = nth (valAll x0 x1 gs gn os us vs).1 j) ∧
    (shAll x0 x1 gs gn os key us vs).2.2 = true ∧ pwAll x0 x1 gs gn os key 0 (shAll x0 x1 gs gn os key us vs).1 R.2.2.1 = (R.1, true) ∧ pwAll x0 x1 gs gn os key 1 (shAll x0 x1 gs gn os key us vs).2.1 R.2.2.1 = (R.2.1, true) := by
  have hAK : (askB x0 x1 gs gn os us vs && keyB key) = true := by
    subst hR
    cases q : (askB x0 x1 gs gn os us vs && keyB key) with
    | true => rfl
    | false => unfold runAll at h; rw [q] at h; exact absurd h (by simp)
  obtain ⟨hA, hk⟩ := Bool.and_eq_true_iff.1 hAK
  have hRR : R = ((runR key gs us vs gn).1, (runR key gs us vs gn).2.1, (runR key gs us vs gn).2.2, true) := by rw [hR]; unfold runAll; rw [hAK, if_pos rfl]
  have hV : valAll x0 x1 gs gn os us vs = (valS gs (us ++ vs) gn, true) := by unfold valAll; rw [hA, if_pos rfl]
  have hS : shAll x0 x1 gs gn os key us vs = (shU key us vs, shV key us vs, true) := by unfold shAll; rw [hAK, if_pos rfl]
  have hE : (evAll x0 x1 gs gn os us vs).2 = true := by unfold evAll; rw [hA, if_pos rfl]
  obtain ⟨hcc, hu, hv, e0, e1⟩ := askB_iff.1 hA
  have hgn := (circB_in hcc).2.2.1
  obtain ⟨c, ok⟩ := runR_ok key hA
  have hG : gatesB (((us.length + vs.length : Nat)) : Int) gs gn = true := by have := (circB_iff.1 hcc).2.1; rw [← e0, ← e1] at this; rw [show (((us.length + vs.length : Nat)) : Int) = (us.length : Int) + (vs.length : Int) by omega]; exact this
  have hx := run_xor key hu hv hgn hG gn (Nat.le_refl _)
  have hl : (valS gs (us ++ vs) gn).length = us.length + vs.length + gn := by rw [valS_len, List.length_append]
  have p0 := pwAll_own (p := 0) (Or.inl rfl) hA hk
  have p1 := pwAll_own (p := 1) (Or.inr rfl) hA hk
  rw [hV, hS, hRR]
  refine ⟨rfl, hE, rs_ev hA hk, ?_, ?_, fun j => bit1_at ok.bu j, fun j => bit1_at ok.bv j, ?_, rfl, p0, p1⟩
  · show (runR key gs us vs gn).1.length = (valS gs (us ++ vs) gn).length
    rw [hl, ok.lu]
  · show (runR key gs us vs gn).2.1.length = (valS gs (us ++ vs) gn).length
    rw [hl, ok.lv]
  · intro j hj
    have hj' : j < (valS gs (us ++ vs) gn).length := hj
    exact hx j (by omega)
end Go.Proofs.Ytmkcanbaleecfaa
