/-
  Bits from digests: bitsFrom, dgBits.
-/
import Derived.Test.YtfejpmfcognikaaD2
namespace Go.Proofs.Ytfejpmfcognikaa
open Go.RowKit
set_option linter.unusedVariables false
set_option linter.unusedSimpArgs false

def bitAt (l : List Int) (k : Nat) : Int := dgMix (l ++ [(k : Int), 2]) / 8 % 2
def bitsL (l : List Int) (n : Nat) : List Int := (List.range n).map (bitAt l)
theorem bitAt_bd (l : List Int) (k : Nat) : 0 ≤ bitAt l k ∧ bitAt l k ≤ 1 := by unfold bitAt; omega
theorem bitsL_succ (l : List Int) (n : Nat) : bitsL l (n + 1) = bitsL l n ++ [bitAt l n] := by simp [bitsL, List.range_succ]
theorem bitsL_fit (l : List Int) (n : Nat) : ∀ x ∈ bitsL l n, Fits x := by
  intro x hx
  simp only [bitsL, List.mem_map] at hx
  obtain ⟨k, _, rfl⟩ := hx
  have := bitAt_bd l k
  unfold Fits; omega
theorem small_two {l : List Int} {k : Nat} (h : ∀ x ∈ l, Small x) (hk : k ≤ 100000) : ∀ x ∈ l ++ [(k : Int), 2], Small x := fun x hx => by
  rcases List.mem_append.1 hx with j | j
  · exact h x j
  · simp at j; rcases j with j | j <;> rw [j] <;> unfold Small <;> omega
set_option maxHeartbeats 2000000 in
theorem s_dgBits (a : Option Addr) (n cap : Nat) (xs : List Int) (m : Nat) (w : World) (h : Ints w a n cap xs) (hn : n ≤ 900) (hs : ∀ x ∈ xs, Small x) (hm : m ≤ 100000) :
    Calls Try.prog 132 #[.slice a n cap, .int .i64 m] w fun e w' => ∃ r c, e = .returned (.slice r m c) ∧ OwnI 3 w' w.heap.size r m c (bitsL xs m) ∧ Below w.heap.size w w' := by
  have HS := Lib.hid hs; clear hs
  have HFT := Lib.hid (bitsL_fit xs m)
  have HH := Lib.hid h; clear h
  go_enter Try.func132, Try.ntmps132
  go_wp2
  go_loopw [5, 6] (fun v i W => ∃ k : Nat, k ≤ m ∧ i = .int .i64 k ∧ Hid (W.ownsRow w.heap.size 3 1 v k (ivs (bitsL xs k))) ∧ Hid (Below w.heap.size w W)) (fun _ i _ => m - (intOf i).toNat)
  case atStart => exact ⟨0, by omega, rfl, (show Hid _ from World.ownsRow_nil _ _ _ _), Below.refl _ _⟩
  case round =>
    obtain ⟨k, hk, rfl, HO, HB⟩ := hrel
    have hz := HB.out.size
    by_cases hlt : k < m
    · have HL : Hid (bitsL xs (k + 1) = bitsL xs k ++ [bitAt xs k]) := bitsL_succ xs k
      have HT : Hid (dgMix (xs ++ [(k : Int), 2]) / 8 % 2 = bitAt xs k) := rfl
      have HSM := Lib.hid (small_two (k := k) HS.out (by omega))
      have HF2 : Hid (∀ x ∈ xs ++ [(k : Int), 2], Fits x) := fun x hx => (HSM.out x hx).fits
      obtain ⟨wo, rfl⟩ : ∃ wo : World, wo = wr := ⟨_, rfl⟩
      go_wp2_with fail
      refine (s_l1Own _ _ _ xs _ (HH.out.below HB.out) (by omega)).mono ?_; rintro e w1 ⟨r, c, rfl, ho, hb1⟩
      have hz1 := hb1.size
      go_wp2_with (at_builtin; refine wp_apps (w1.alloc (.cells #[.int .i64 k, .int .i64 2] 3)) wo.heap.size n _ xs [(k : Int), 2] _ _ _ rfl _ _ rfl rfl rfl (by exact Ints.lit2 rfl (by unfold Fits; omega) (by unfold Fits; omega)) (ho.own.alloc _) (by simp; omega) (by omega) ?_; intro v9 w9 hv9 hb9 hg9; obtain ⟨r2, c2, hr, ho2⟩ := OwnI.of hv9 (by omega) HF2.out; subst hr)
      refine (s_digest _ _ _ _ _ ho2.ints (by omega) HSM.out).mono ?_; rintro e w2 ⟨rfl, hb2⟩
      have B1 := bel_trans (hb1.trans (((Below.refl wo.heap.size w1).alloc hz1 (.cells #[.int .i64 k, .int .i64 2] 3)).trans hb9)) hb2
      obtain ⟨g1, g2⟩ := dgMix_bd (xs ++ [(k : Int), 2])
      have HO1 := Lib.hid (ownsRow_below HO.out B1)
      have hz2 := Nat.le_trans hz B1.size
      have HB1 := Lib.hid (bel_trans HB.out B1)
      clear hv9 hb9 hg9 ho ho2 hb1 hb2 B1 HO HB HSM HF2
      go_wp2_with (at_builtin; refine wp_app w2 w.heap.size k _ _ (bitAt xs k) _ _ rfl _ _ rfl rfl rfl rfl HO1.out hz2 (by omega) ?_; intro v9 w9 hv9 hb9 hg9)
      clear hg9
      go_roundw
      case rel => exact ⟨k + 1, by omega, by go_num, by rw [HL.out]; exact hv9, HB1.out.trans hb9⟩
      case measure => simp [intOf]; omega
    · obtain rfl : k = m := by omega
      go_wp2
      obtain ⟨r, c, hv, hm⟩ := OwnI.of HO.out (by omega) HFT.out
      subst hv
      go_ret
      exact ⟨_, _, rfl, hm, HB.out⟩
set_option maxHeartbeats 2000000 in
theorem i_bitsFrom (a : Option Addr) (n cap : Nat) (xs : List Int) (m : Nat) (w : World) (h : Ints w a n cap xs) (hn : n ≤ 900) (hs : ∀ x ∈ xs, Small x) (hm : m ≤ 100000) :
    Calls Try.prog 50 #[.slice a n cap, .int .i64 m] w fun e w' => ∃ r c, e = .returned (.slice r m c) ∧ OwnI 3 w' w.heap.size r m c (bitsL xs m) ∧ Below w.heap.size w w' := by
  have HS := Lib.hid hs; clear hs
  have HFT := Lib.hid (bitsL_fit xs m)
  have HH := Lib.hid h; clear h
  go_enter Try.func50, Try.ntmps50
  go_wp2
  go_loopw [5, 9] (fun v i W => ∃ k : Nat, k ≤ m ∧ i = .int .i64 k ∧ Hid (W.ownsRow w.heap.size 3 1 v k (ivs (bitsL xs k))) ∧ Hid (Below w.heap.size w W)) (fun _ i _ => m - (intOf i).toNat)
  case atStart => exact ⟨0, by omega, rfl, (show Hid _ from World.ownsRow_lit w #[] 0 (Nat.le_refl _) (by decide) rfl), (show Hid _ from bel_alloc w _)⟩
  case round =>
    obtain ⟨k, hk, rfl, HO, HB⟩ := hrel
    have hz := HB.out.size
    by_cases hlt : k < m
    · have HL : Hid (bitsL xs (k + 1) = bitsL xs k ++ [bitAt xs k]) := bitsL_succ xs k
      have HT : Hid (dgMix (xs ++ [(k : Int), 2]) / 8 % 2 = bitAt xs k) := rfl
      have HSM := Lib.hid (small_two (k := k) HS.out (by omega))
      have HF2 : Hid (∀ x ∈ xs ++ [(k : Int), 2], Fits x) := fun x hx => (HSM.out x hx).fits
      obtain ⟨wo, rfl⟩ : ∃ wo : World, wo = wr := ⟨_, rfl⟩
      go_wp2_with fail
      refine (i_with _ _ _ xs _ _ _ [(k : Int), 2] _ ((HH.out.below HB.out).alloc _) (by exact Ints.lit2 rfl (by unfold Fits; omega) (by unfold Fits; omega)) (by omega) (by omega)).mono ?_; rintro e w1 ⟨r, c, rfl, hi, hb1⟩
      go_wp2_with fail
      refine (i_digest _ _ _ _ _ hi (by omega) HSM.out).mono ?_; rintro e w2 ⟨rfl, hb2⟩
      have B1 := bel_trans (bel_trans (bel_alloc wo _) hb1) hb2
      obtain ⟨g1, g2⟩ := dgMix_bd (xs ++ [(k : Int), 2])
      have HO1 := Lib.hid (ownsRow_below HO.out B1)
      have hz2 := Nat.le_trans hz B1.size
      have HB1 := Lib.hid (bel_trans HB.out B1)
      clear hi hb1 hb2 B1 HO HB HSM HF2
      go_wp2_with (at_builtin; refine wp_app w2 w.heap.size k _ _ (bitAt xs k) _ _ rfl _ _ rfl rfl rfl rfl HO1.out hz2 (by omega) ?_; intro v9 w9 hv9 hb9 hg9)
      clear hg9
      go_roundw
      case rel => exact ⟨k + 1, by omega, by go_num, by rw [HL.out]; exact hv9, HB1.out.trans hb9⟩
      case measure => simp [intOf]; omega
    · obtain rfl : k = m := by omega
      go_wp2
      obtain ⟨r, c, hv, hm⟩ := OwnI.of HO.out (by omega) HFT.out
      subst hv
      go_ret
      exact ⟨_, _, rfl, hm, HB.out⟩
end Go.Proofs.Ytfejpmfcognikaa
