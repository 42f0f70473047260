/-
  Contract: the parity of bits at a mask.
-/
import Derived.Test.YtfejpmfcognikaaGreatY8
import Derived.Test.YtfejpmfcognikaaGreatY7
import Derived.Test.YtfejpmfcognikaaGreatY6
import Derived.BigQuiet
import Derived.Deep.QuietTactic
namespace Go.Proofs.YtfejpmfcognikaaGreat
open Go.RowKit
set_option linter.unusedVariables false
set_option linter.unusedSimpArgs false
set_option maxRecDepth 10000

set_option maxHeartbeats 1000000 in
theorem i_AreBits (a : Option Addr) (n cap : Nat) (xs : List Int) (w : World) (h : Ints w a n cap xs) (hn : n ≤ 24) (hb : bitsB xs = true) :
    Calls Tryz.prog 57 #[.slice a n cap] w fun e w' => e = .returned (.bool true) ∧ Below w.heap.size w w' := by
  have hni : (n : Int) ≤ 64 := by omega
  go_enter Tryz.func57, Tryz.ntmps57
  go_wp2_with fail
  refine (i_allBits _ _ _ xs _ h).mono ?_; rintro e w' ⟨rfl, hb'⟩; rw [hb]
  go_wp2
  go_ret
  exact ⟨rfl, hb'⟩
set_option maxHeartbeats 2000000 in
theorem i_ParityOf (a a' : Option Addr) (n cap cap' : Nat) (xs ys : List Int) (w : World) (h : Ints w a n cap xs) (h' : Ints w a' n cap' ys) (hn : n ≤ 24) (hx : bitsB xs = true) (hy : bitsB ys = true) :
    Calls Tryz.prog 8 #[.slice a n cap, .slice a' n cap'] w fun e w' => e = .returned (.tuple #[.int .i64 (parC xs ys n), .bool true]) ∧ Below w.heap.size w w' := by
  have hlx := h.len.out; have hly := h'.len.out
  go_enter Tryz.func8, Tryz.ntmps8
  go_wp2_with fail
  refine (i_AreBits _ _ _ xs _ h hn hx).mono ?_; rintro e w1 ⟨rfl, hb1⟩
  go_wp2_with fail
  refine (i_AreBits _ _ _ ys _ (h'.below hb1) hn hy).mono ?_; rintro e w2 ⟨rfl, hb2⟩
  have HB0 := Lib.hid (bel_trans hb1 hb2); clear hb1 hb2
  go_wp2
  go_loopw [6, 25] (fun p i W => ∃ k : Nat, k ≤ n ∧ i = .int .i64 k ∧ p = .int .i64 (parC xs ys k) ∧ Hid (Below w.heap.size w W)) (fun _ i _ => n - (intOf i).toNat)
  case atStart => exact ⟨0, by omega, rfl, rfl, HB0⟩
  case round =>
    clear HB0
    obtain ⟨k, hk, rfl, rfl, HB⟩ := hrel
    by_cases hlt : k < n
    · have hlti : (k : Int) < (n : Int) := by omega
      obtain ⟨b, off, rfl, hbl, hc⟩ := (h.below HB.out).at hlt
      obtain ⟨b', off', rfl, hbl', hc'⟩ := (h'.below HB.out).at hlt
      have p1 := bitsB_nth hx (i := k) (by omega)
      have p2 := bitsB_nth hy (i := k) (by omega)
      have q1 := and_eq p1 p2
      have q2 := xr_eq (parC_bd xs ys k) (mul01 p1 p2)
      have HS : Hid (parC xs ys (k + 1) = xr (parC xs ys k) (nth xs k * nth ys k)) := rfl
      clear p1 p2
      go_wp2
      go_quiet (fail)
      go_wp2
      go_roundw
      case rel => exact ⟨k + 1, by omega, by go_num, by rw [HS.out], (show Hid _ from below_drewN HB.out _)⟩
      case measure => simp [intOf]; omega
    · obtain rfl : k = n := by omega
      have hlti : ¬ (k : Int) < (k : Int) := by omega
      go_wp2
      go_ret2
      exact ⟨rfl, HB.out⟩
end Go.Proofs.YtfejpmfcognikaaGreat
