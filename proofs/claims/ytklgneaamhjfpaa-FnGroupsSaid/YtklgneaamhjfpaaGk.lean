/-
  qHas; the plain laws that FnElements and FnGroups speak of.
-/
import Derived.Test.YtklgneaamhjfpaaGj
import Derived.Test.YtklgneaamhjfpaaGc
namespace Go.Proofs.Ytklgneaamhjfpaa
open Go.RowKit
set_option linter.unusedVariables false
set_option linter.unusedSimpArgs false

theorem nth_of_mem {x : Int} {xs : List Int} (h : x ∈ xs) : ∃ j, j < xs.length ∧ nth xs j = x := by
  obtain ⟨j, hj, e⟩ := List.mem_iff_getElem.1 h
  exact ⟨j, hj, by rw [nth_get hj]; exact e⟩
set_option maxHeartbeats 1000000 in
theorem l_qHas (a : Option Addr) (n cap : Nat) (xs : List Int) (x : Int) (w : World) (h : Ints w a n cap xs) (hm : x ∈ xs) :
    Calls Try.prog 18 #[.slice a n cap, .int .i64 x] w fun e w' => e = .returned (.bool true) ∧ w = w' := by
  obtain ⟨j0, hj0, hx0⟩ := nth_of_mem hm
  have hl := h.len.out
  have hsm := h.small
  have HX := Lib.hid hx0; clear hx0 hm
  rw [hl] at hj0
  go_enter Try.func18, Try.ntmps18
  go_wp2
  go_loop [6, 9] (fun _ i => ∃ k : Nat, k ≤ j0 ∧ i = .int .i64 k) (fun _ i => n - (intOf i).toNat)
  case atStart => exact ⟨0, by omega, rfl⟩
  case round =>
    obtain ⟨k, hk, rfl⟩ := hrel
    have hlti : (k : Int) < (n : Int) := by omega
    obtain ⟨b, off, rfl, hbl, hc⟩ := h.at (i := k) (by omega)
    by_cases he : nth xs k = x
    · have heb : (nth xs k == x) = true := by simpa using he
      clear HX
      go_wp2
      go_ret
      exact ⟨rfl, rfl⟩
    · have heb : (nth xs k == x) = false := by simpa using he
      have hkj : k < j0 := by
        rcases Nat.lt_or_ge k j0 with q | q
        · exact q
        · exfalso; obtain rfl : k = j0 := by omega
          exact he HX.out
      go_wp2
      go_round
      case rel => exact ⟨k + 1, by omega, by go_num⟩
      case measure => simp [intOf]; omega
theorem inv_law {P Q G a : Int} (h : (invIn P Q G a).2 = true) : prodIn P Q G a (invIn P Q G a).1 = (1, true) := by
  unfold invIn at h ⊢
  split at h
  · rename_i hc
    rw [if_pos hc]
    obtain ⟨hg, ha⟩ := Bool.and_eq_true_iff.1 hc
    obtain ⟨hP, hQ, hG⟩ := grB_lo hg
    unfold prodIn
    rw [hc, has_gpw _ (by omega) hQ.1 ha]
    show (a * gpw P Q a (-1) % P, true) = _
    rw [mul_inv (by omega) hQ.1 ha]
  · cases h
theorem el_law {P Q G n : Int} (h : (elFor P Q G n).2 = true) (hn : n + Q ≤ 1000000000) :
    elFor P Q G (n + Q) = ((elFor P Q G n).1, true) ∧ (∃ y, elFor P Q G (n + 1) = (y, true) ∧ y ≠ (elFor P Q G n).1) ∧ grB P Q G = true ∧ hasB P Q (elFor P Q G n).1 = true := by
  unfold elFor at h ⊢
  split at h
  · rename_i hc
    obtain ⟨hg, hi⟩ := Bool.and_eq_true_iff.1 hc
    obtain ⟨i1, i2⟩ := inB_iff.1 hi
    obtain ⟨hP, hQ, hG⟩ := grB_lo hg
    have q1 : inB (n + Q) 0 1000000000 = true := inB_iff.2 ⟨by omega, hn⟩
    have q2 : inB (n + 1) 0 1000000000 = true := inB_iff.2 ⟨by omega, by omega⟩
    rw [if_pos hc, hg, q1, q2]
    refine ⟨?_, ⟨gpw P Q G (n + 1), rfl, gpw_next hg n⟩, rfl, has_gpw _ (by omega) hQ.1 (has_G hg)⟩
    show (gpw P Q G (n + Q), true) = _
    unfold gpw
    rw [Int.add_emod_right]
  · cases h
theorem elOf_mem {P Q G a : Int} (hg : grB P Q G = true) (h : hasB P Q a = true) : a ∈ elOf P Q G := by
  unfold elOf
  rw [if_pos hg, mem_elU]
  have := hasB_lo h
  obtain ⟨hP, hQ, hG⟩ := grB_lo hg
  exact ⟨by omega, h⟩
theorem elFor_le {P Q G n : Int} (h : (elFor P Q G n).2 = true) : 0 ≤ n ∧ n ≤ 1000000000 ∧ 2 ≤ Q ∧ Q ≤ 2002 := by
  unfold elFor at h
  split at h
  · rename_i hc
    obtain ⟨hg, hi⟩ := Bool.and_eq_true_iff.1 hc
    obtain ⟨i1, i2⟩ := inB_iff.1 hi
    obtain ⟨hP, hQ, hG⟩ := grB_lo hg
    exact ⟨i1, i2, hQ⟩
  · cases h
theorem pow_law {P Q G a n : Int} (h : (powIn P Q G a n).2 = true) : powIn P Q G a (-n) = ((invIn P Q G (powIn P Q G a n).1).1, true) ∧ (invIn P Q G (powIn P Q G a n).1).2 = true ∧
    (∃ o, ordIn P Q G a = (o, true) ∧ 1 ≤ o ∧ o ≤ 2003 ∧ powIn P Q G a o = (1, true)) := by
  unfold powIn at h ⊢
  split at h
  · rename_i hc
    obtain ⟨hga, hi⟩ := Bool.and_eq_true_iff.1 hc
    obtain ⟨hg, ha⟩ := Bool.and_eq_true_iff.1 hga
    obtain ⟨i1, i2⟩ := inB_iff.1 hi
    obtain ⟨hP, hQ, hG⟩ := grB_lo hg
    obtain ⟨⟨a0, a1⟩, a2⟩ := hasB_iff.1 ha
    have q1 : inB (-n) (-1000000) 1000000 = true := inB_iff.2 ⟨by omega, by omega⟩
    have hh := has_gpw n (by omega) hQ.1 ha
    rw [if_pos hc, hga, q1]
    unfold invIn
    rw [hg, hh]
    refine ⟨?_, rfl, ?_⟩
    · show (gpw P Q a (-n), true) = (gpw P Q (gpw P Q a n) (-1), true)
      rw [gpw_neg (by omega) hQ.1 a2]
    · unfold ordIn
      rw [hga, if_pos rfl]
      by_cases e : a = 1
      · subst e
        refine ⟨1, by simp, by omega, by omega, ?_⟩
        rw [show inB 1 (-1000000) 1000000 = true from rfl]
        show (gpw P Q 1 1, true) = _
        rw [gpw_one _ (by omega)]
      · refine ⟨Q, by rw [if_neg e], by omega, by omega, ?_⟩
        rw [show inB Q (-1000000) 1000000 = true from inB_iff.2 ⟨by omega, by omega⟩]
        show (gpw P Q a Q, true) = _
        rw [gpw_Q (by omega)]
  · cases h
theorem powIn_bd {P Q G a n : Int} : 0 ≤ (powIn P Q G a n).1 ∧ (powIn P Q G a n).1 ≤ 2003 := by
  unfold powIn
  split
  · rename_i hc
    obtain ⟨hga, hi⟩ := Bool.and_eq_true_iff.1 hc
    obtain ⟨hg, ha⟩ := Bool.and_eq_true_iff.1 hga
    obtain ⟨hP, hQ, hG⟩ := grB_lo hg
    have := gpw_bd P Q a n (by omega)
    simp only []
    omega
  · simp
theorem log_law {P Q G a b : Int} {n : Nat} (h : logB P Q G a b = true) (h1 : (n : Int) < Q) (h2 : pw P a n = b) :
    powIn P Q G a n = (b, true) ∧ (n : Int) < Q ∧ (prodIn P Q G a b).2 = true ∧ (grB P Q G && hasB P Q (prodIn P Q G a b).1) = true ∧ grB P Q G = true ∧ n ≤ 2002 := by
  obtain ⟨hg, ha, hb, hne⟩ := logB_iff.1 h
  obtain ⟨hP, hQ, hG⟩ := grB_lo hg
  refine ⟨?_, h1, ?_, ?_, hg, by omega⟩
  · unfold powIn
    rw [hg, ha, show inB (n : Int) (-1000000) 1000000 = true from inB_iff.2 ⟨by omega, by omega⟩]
    show (gpw P Q a n, true) = _
    rw [gpw_nat n hQ.1 h1, h2]
  · unfold prodIn; rw [hg, ha, hb]; rfl
  · unfold prodIn; rw [hg, ha, hb]
    show (true && hasB P Q (a * b % P)) = true
    rw [has_mul (by omega) hQ.1 ha hb]; rfl
end Go.Proofs.Ytklgneaamhjfpaa
