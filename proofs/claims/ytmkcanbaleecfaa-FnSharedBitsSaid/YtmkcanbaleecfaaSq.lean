/-
  Contracts of small functions that the law FnSharedBits calls.
-/
import Derived.Test.YtmkcanbaleecfaaSw
import Derived.Deep.QuietTactic
namespace Go.Proofs.Ytmkcanbaleecfaa
open Go.RowKit
set_option linter.unusedVariables false
set_option linter.unusedSimpArgs false
set_option maxRecDepth 10000

set_option maxHeartbeats 1000000 in
theorem l_qInts (a a' : Option Addr) (n cap cap' : Nat) (xs : List Int) (w : World) (h : Ints w a n cap xs) (h' : Ints w a' n cap' xs) :
    Calls Try.prog 40 #[.slice a n cap, .slice a' n cap'] w fun e w' => e = .returned (.bool true) ∧ Below w.heap.size w w' := by
  have hs := h.small
  go_enter Try.func40, Try.ntmps40
  go_wp2
  go_loopw [13] (fun i wr => ∃ k : Nat, k ≤ n ∧ i = .int .i64 k ∧ Hid (Below w.heap.size w wr)) (fun i _ => n - (intOf i).toNat)
  case atStart => exact ⟨0, by omega, rfl, Below.refl _ _⟩
  case round =>
    obtain ⟨k, hk, rfl, BW⟩ := hrel
    by_cases hlt : k < n
    · obtain ⟨b, off, rfl, hbl, hc⟩ := (h.below BW.out).at hlt
      obtain ⟨b', off', rfl, hbl', hc'⟩ := (h'.below BW.out).at hlt
      have hlti : (k : Int) < (n : Int) := by omega
      go_wp2
      go_quiet (fail)
      go_wp2
      go_roundw
      case rel => exact ⟨k + 1, by omega, by go_num, (show Hid _ from below_drewN BW.out _)⟩
      case measure => simp [intOf]; omega
    · obtain rfl : k = n := by omega
      go_wp2
      go_ret
      exact ⟨rfl, BW.out⟩
set_option maxHeartbeats 1000000 in
theorem l_qOpened (a a' : Option Addr) (n cap cap' : Nat) (xs : List Int) (w : World) (h : Recs 3 w a n cap xs) (h' : Recs 3 w a' n cap' xs) :
    Calls Try.prog 44 #[.slice a n cap, .slice a' n cap'] w fun e w' => e = .returned (.bool true) ∧ Below w.heap.size w w' := by
  have hs := h.small
  go_enter Try.func44, Try.ntmps44
  go_wp2
  go_loopw [13] (fun i wr => ∃ k : Nat, k ≤ n ∧ i = .int .i64 k ∧ Hid (Below w.heap.size w wr)) (fun i _ => n - (intOf i).toNat)
  case atStart => exact ⟨0, by omega, rfl, Below.refl _ _⟩
  case round =>
    obtain ⟨k, hk, rfl, BW⟩ := hrel
    by_cases hlt : k < n
    · obtain ⟨b, off, rfl, hbl, c0, c1, c2⟩ := (h.below BW.out).at3 hlt
      obtain ⟨b', off', rfl, hbl', d0, d1, d2⟩ := (h'.below BW.out).at3 hlt
      have hlti : (k : Int) < (n : Int) := by omega
      go_wp2
      go_quiet (fail)
      go_wp2
      go_roundw
      case rel => exact ⟨k + 1, by omega, by go_num, (show Hid _ from below_drewN BW.out _)⟩
      case measure => simp [intOf]; omega
    · obtain rfl : k = n := by omega
      go_wp2
      go_ret
      exact ⟨rfl, BW.out⟩
theorem s_l1Least (a b : Int) (w : World) :
    Calls Try.prog 113 #[.int .i64 a, .int .i64 b] w fun e w' => ∃ r : Int, e = .returned (.int .i64 r) ∧ r ≤ a ∧ r ≤ b ∧ (r = a ∨ r = b) ∧ w = w' := by
  by_cases h : a < b
  · go_enter Try.func113, Try.ntmps113
    go_wp2
    go_ret
    exact ⟨a, rfl, by omega, by omega, Or.inl rfl, rfl⟩
  · go_enter Try.func113, Try.ntmps113
    go_wp2
    go_ret
    exact ⟨b, rfl, by omega, by omega, Or.inr rfl, rfl⟩
end Go.Proofs.Ytmkcanbaleecfaa
