/-
  Contracts that the law on extended transfers asks beside: equal lists of lists, bits derived from two words.
-/
import Derived.Test.YtfejpmfcognikaaGreatY4
import Derived.Test.YtfejpmfcognikaaGreatY5
import Derived.Test.YtfejpmfcognikaaGreatCx
import Derived.Test.YtfejpmfcognikaaGreatE10
namespace Go.Proofs.YtfejpmfcognikaaGreat
open Go.RowKit
set_option linter.unusedVariables false
set_option linter.unusedSimpArgs false
set_option maxRecDepth 10000

set_option maxHeartbeats 2000000 in
theorem l_sameLists (a a' : Option Addr) (n cap cap' : Nat) (xss : List (List Int)) (w : World) (h : Rws w a n cap xss) (h' : Rws w a' n cap' xss) :
    Calls Tryz.prog 17 #[.slice a n cap, .slice a' n cap'] w fun e w' => e = .returned (.bool true) ∧ Below w.heap.size w w' := by
  have hs := h.small
  go_enter Tryz.func17, Tryz.ntmps17
  go_wp2
  go_loopw [13] (fun i wr => ∃ k : Nat, k ≤ n ∧ i = .int .i64 k ∧ Hid (Below w.heap.size w wr)) (fun i _ => n - (intOf i).toNat)
  case atStart => exact ⟨0, by omega, rfl, Below.refl _ _⟩
  case round =>
    obtain ⟨k, hk, rfl, BW⟩ := hrel
    by_cases hlt : k < n
    · obtain ⟨b, off, r, m, c, rfl, hbl, hc, hI⟩ := (h.below BW.out).at hlt
      obtain ⟨b', off', r', m', c', rfl, hbl', hc', hI'⟩ := (h'.below BW.out).at hlt
      have hmm : m' = m := by have h1 := hI.len.out; have h2 := hI'.len.out; omega
      subst hmm
      have HI := Lib.hid (And.intro hI hI'); clear hI hI'
      have hlti : (k : Int) < (n : Int) := by omega
      go_wp2_with fail
      go_region_held3 (fun W => W.cell? ⟨b, off + k, none⟩ = some (.slice r m' c) ∧ W.cell? ⟨b', off' + k, none⟩ = some (.slice r' m' c')) (exact ⟨hc, hc'⟩) (first | (go_at_call 24; refine (l_sameInts _ _ _ _ _ (rowN xss k) _ (HI.out.1.below (bel_drew _)) (HI.out.2.below (bel_drew _))).mono ?_; rintro e w9 ⟨rfl, hb⟩; have hb3 := bel_trans (bel_drew _) hb; have hc := cell_on hc hb3; have hc' := cell_on hc' hb3; have BW := Lib.hid (BW.out.trans (hb3.mono BW.out.size)); clear hb hb3))
      go_wp2
      go_roundw
      case rel => exact ⟨k + 1, by omega, by go_num, BW⟩
      case measure => simp [intOf]; omega
    · obtain rfl : k = n := by omega
      go_wp2
      go_ret
      exact ⟨rfl, BW.out⟩