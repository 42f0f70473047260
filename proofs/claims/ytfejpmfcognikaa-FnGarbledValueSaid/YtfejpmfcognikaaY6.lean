/-
  Contracts that the law on extended transfers asks beside: equal lists of lists, bits derived from two words.
-/
import Derived.Test.YtfejpmfcognikaaY4
import Derived.Test.YtfejpmfcognikaaY5
import Derived.Test.YtfejpmfcognikaaCx
import Derived.Test.YtfejpmfcognikaaE10
namespace Go.Proofs.Ytfejpmfcognikaa
open Go.RowKit
set_option linter.unusedVariables false
set_option linter.unusedSimpArgs false
set_option maxRecDepth 10000

set_option maxHeartbeats 2000000 in
theorem l_sameLists (a a' : Option Addr) (n cap cap' : Nat) (xss : List (List Int)) (w : World) (h : Rws w a n cap xss) (h' : Rws w a' n cap' xss) :
    Calls Try.prog 23 #[.slice a n cap, .slice a' n cap'] w fun e w' => e = .returned (.bool true) ∧ Below w.heap.size w w' := by
  have hs := h.small
  go_enter Try.func23, Try.ntmps23
  go_wp2
  go_loopw [13] (fun i wr => ∃ k : Nat, k ≤ n ∧ i = .int .i64 k ∧ Hid (Below w.heap.size w wr)) (fun i _ => n - (intOf i).toNat)
  case atStart => exact ⟨0, by omega, rfl, Below.refl _ _⟩
  case round =>
    obtain ⟨k, hk, rfl, BW⟩ := hrel
    by_cases hlt : k < n
    · obtain ⟨b, off, r, m, c, rfl, hbl, hc, hI⟩ := (h.below BW.out).at hlt
      obtain ⟨b', off', r', m', c', rfl, hbl', hc', hI'⟩ := (h'.below BW.out).at hlt
      have hmm : m' = m := by have h1 := hI.len.out; have h2 := hI'.len.out; omega
      subst hmm
      have HI := Lib.hid (And.intro hI hI'); clear hI hI'
      have hlti : (k : Int) < (n : Int) := by omega
      go_wp2_with fail
      go_region_held3 (fun W => W.cell? ⟨b, off + k, none⟩ = some (.slice r m' c) ∧ W.cell? ⟨b', off' + k, none⟩ = some (.slice r' m' c')) (exact ⟨hc, hc'⟩) (first | (go_at_call 7; refine (l_sameInts _ _ _ _ _ (rowN xss k) _ (HI.out.1.below (bel_drew _)) (HI.out.2.below (bel_drew _))).mono ?_; rintro e w9 ⟨rfl, hb⟩; have hb3 := bel_trans (bel_drew _) hb; have hc := cell_on hc hb3; have hc' := cell_on hc' hb3; have BW := Lib.hid (BW.out.trans (hb3.mono BW.out.size)); clear hb hb3))
      go_wp2
      go_roundw
      case rel => exact ⟨k + 1, by omega, by go_num, BW⟩
      case measure => simp [intOf]; omega
    · obtain rfl : k = n := by omega
      go_wp2
      go_ret
      exact ⟨rfl, BW.out⟩
set_option maxHeartbeats 400000 in
theorem i_isWord (x : Int) (w : World) : Calls Try.prog 110 #[.int .i64 x] w fun e w' => e = .returned (.bool (inB x (-1000000000) 1000000000)) ∧ w = w' := by
  go_enter Try.func110, Try.ntmps110
  go_wp2_with (go_at_call 49; refine (i_within _ _ _ _).mono ?_; rintro e w' ⟨rfl, rfl⟩)
  go_ret
  exact ⟨rfl, rfl⟩
set_option maxHeartbeats 1000000 in
theorem i_areWords (a : Option Addr) (n cap : Nat) (xs : List Int) (w : World) (h : Ints w a n cap xs) (hn : n ≤ 10) (hx : ∀ x ∈ xs, -1000000000 ≤ x ∧ x ≤ 1000000000) :
    Calls Try.prog 48 #[.slice a n cap, .int .i64 10] w fun e w' => e = .returned (.bool true) ∧ Below w.heap.size w w' := by
  have HG := Lib.hid (i_areAll a n cap xs (fun x => inB x (-1000000000) 1000000000) 110 #[] (enters_of Try.func110 (by kernel_rfl) rfl) w h (fun W x _ _ => i_isWord x W))
  have hall : (xs.all fun x => inB x (-1000000000) 1000000000) = true := by
    rw [List.all_eq_true]; intro x hm; exact inB_iff.2 (hx x hm)
  have hn10 : (n : Int) ≤ 10 := by omega
  go_enter Try.func48, Try.ntmps48
  go_wp2_with fail
  refine HG.out.mono ?_; rintro e w' ⟨rfl, hb⟩
  first | rw [hall] | skip
  go_wp2
  go_ret
  exact ⟨rfl, hb⟩
set_option maxHeartbeats 1000000 in
theorem i_BitsFrom (a : Option Addr) (n cap : Nat) (xs : List Int) (m : Nat) (w : World) (h : Ints w a n cap xs) (hn : n ≤ 10) (hx : ∀ x ∈ xs, -1000000000 ≤ x ∧ x ≤ 1000000000) (hm : m ≤ 64) :
    Calls Try.prog 12 #[.slice a n cap, .int .i64 m] w fun e w' => ∃ r c, e = .returned (.tuple #[.slice r m c, .bool true]) ∧ Mine w' w.heap.size r m c (bitsL xs m) ∧ Below w.heap.size w w' := by
  have hin : inB (m : Int) 0 64 = true := inB_iff.2 ⟨by omega, by omega⟩
  have HS : Hid (∀ x ∈ xs, Small x) := fun x q => by have := hx x q; unfold Small; omega
  go_enter Try.func12, Try.ntmps12
  go_wp2_with fail
  refine (i_areWords _ _ _ xs _ h hn hx).mono ?_; rintro e w1 ⟨rfl, hb1⟩
  go_wp2_with fail
  refine (i_within _ _ _ _).mono ?_; rintro e w2 ⟨rfl, rfl⟩; rw [hin]
  go_wp2_with fail
  refine (i_bitsFrom _ _ _ xs m _ (h.below hb1) (by omega) HS.out (by omega)).mono ?_; rintro e w3 ⟨r, c, rfl, ho, hb3⟩
  have HM := Lib.hid (ho.mine.base (B' := w.heap.size) hb1.size); have HB := Lib.hid (bel_trans hb1 hb3)
  clear ho hb1 hb3
  go_wp2
  go_ret2
  exact ⟨_, _, rfl, HM.out, HB.out⟩
end Go.Proofs.Ytfejpmfcognikaa
