/-
  Bits of a number (l19's secrets).
-/
import Derived.Test.YtfejpmfcognikaaGreatE11
import Derived.Test.YtfejpmfcognikaaGreatE8
import Derived.Test.YtfejpmfcognikaaGreatE9
namespace Go.Proofs.YtfejpmfcognikaaGreat
open Go.RowKit
set_option linter.unusedVariables false
set_option linter.unusedSimpArgs false
set_option maxRecDepth 100000

def secL (s k : Nat) : List Int := (List.range k).map fun (i : Nat) => ((s / 2 ^ i % 2 : Nat) : Int)
theorem secL_succ (s k : Nat) : secL s (k + 1) = secL s k ++ [((s / 2 ^ k % 2 : Nat) : Int)] := by simp [secL, List.range_succ]
theorem secL_len (s k : Nat) : (secL s k).length = k := by simp [secL]
theorem secL_fit (s k : Nat) : ∀ x ∈ secL s k, Fits x := by
  intro x hx
  obtain ⟨i, _, rfl⟩ := List.mem_map.1 hx
  unfold Fits; omega
theorem secL_bits (s k : Nat) : bitsB (secL s k) = true := by
  refine bitsB_mk fun i hi => ?_
  rw [secL_len] at hi
  have : nth (secL s k) i = ((s / 2 ^ i % 2 : Nat) : Int) := by simp [nth, secL, hi]
  rw [this]; omega
theorem and_one (x : Nat) (hx : x ≤ 1000) : bits .and .i64 (x : Int) 1 = ((x % 2 : Nat) : Int) := by
  show IntKind.i64.wrap ((BitVec.ofInt 64 (x : Int) &&& BitVec.ofInt 64 1).toNat : Nat) = _
  have : (BitVec.ofInt 64 (x : Int) &&& BitVec.ofInt 64 1).toNat = x % 2 := by
    rw [BitVec.toNat_and, show (BitVec.ofInt 64 1).toNat = 1 from rfl, Nat.and_one_is_mod, BitVec.toNat_ofInt]
    omega
  rw [this]
  exact IntWalk.i64_in _ (by omega)
set_option maxHeartbeats 2000000 in
theorem i_bitsOf (s k : Nat) (w : World) (hs : s ≤ 1000) (hk : k ≤ 8) :
    Calls Tryz.prog 42 #[.int .i64 s, .int .i64 k] w fun e w' => ∃ r c, e = .returned (.slice r k c) ∧ Mine w' w.heap.size r k c (secL s k) ∧ Below w.heap.size w w' := by
  go_enter Tryz.func42, Tryz.ntmps42
  go_wp2
  go_loopw [5, 9] (fun v i wr => ∃ j : Nat, j ≤ k ∧ i = .int .i64 j ∧ Hid (wr.ownsRow w.heap.size 3 1 v j (ivs (secL s j))) ∧ Hid (Below w.heap.size w wr)) (fun _ i _ => k - (intOf i).toNat)
  case atStart => exact ⟨0, by omega, rfl, (show Hid _ from by exact World.ownsRow_lit w #[] 0 (Nat.le_refl _) (by decide) rfl), (show Hid _ from bel_alloc _ _)⟩
  case round =>
    obtain ⟨j, hj, rfl, HO, HB⟩ := hrel
    by_cases hlt : j < k
    · have HL := Lib.hid (secL_succ s j)
      have hz := HB.out.size
      have hlti : (j : Int) < (k : Int) := by omega
      have hb : s / 2 ^ j ≤ s := Nat.div_le_self _ _
      have e1 : bits .and .i64 ((s : Int) / 2 ^ j) 1 = ((s / 2 ^ j % 2 : Nat) : Int) := by
        rw [← and_one _ (by omega)]; congr 1
      obtain ⟨x1, hx1⟩ : ∃ x, x = ((s / 2 ^ j % 2 : Nat) : Int) := ⟨_, rfl⟩
      rw [← hx1] at HL e1
      clear hx1 hb
      obtain ⟨wo, rfl⟩ : ∃ wo : World, wo = wr := ⟨_, rfl⟩
      go_wp2_with (at_builtin; refine wp_app wo w.heap.size j _ (secL s j) x1 _ _ rfl _ _ rfl rfl rfl rfl HO.out hz (by omega) ?_; intro v9 w9 hv9 hb9 hg9)
      clear hg9 e1
      go_roundw
      case rel => exact ⟨j + 1, by omega, by go_num, (by rw [HL.out]; exact hv9), (show Hid _ from HB.out.trans hb9)⟩
      case measure => simp [intOf]; omega
    · obtain rfl : k = j := by omega
      obtain ⟨a9, c9, hv, ho9⟩ := OwnI.of HO.out (by omega) (secL_fit s k)
      subst hv
      have HM := Lib.hid ho9.mine; clear ho9 HO
      go_wp2
      go_ret
      exact ⟨_, _, rfl, HM.out, HB.out⟩
set_option maxHeartbeats 2000000 in
theorem s_btOf (s k : Nat) (w : World) (hs : s ≤ 1000) (hk : k ≤ 8) :
    Calls Tryz.prog 54 #[.int .i64 s, .int .i64 k] w fun e w' => ∃ r c, e = .returned (.slice r k c) ∧ Mine w' w.heap.size r k c (secL s k) ∧ Below w.heap.size w w' := by
  go_enter Tryz.func54, Tryz.ntmps54
  go_wp2
  go_loopw [0, 1, 5] (fun n m v wr => ∃ j d e : Nat, j + e = k ∧ d ≤ s ∧ Hid (d = s / 2 ^ j) ∧ n = .int .i64 (d : Int) ∧ m = .int .i64 (e : Int) ∧ Hid (wr.ownsRow w.heap.size 3 1 v j (ivs (secL s j))) ∧ Hid (Below w.heap.size w wr)) (fun _ m _ _ => (intOf m).toNat)
  case atStart => exact ⟨0, s, k, by omega, Nat.le_refl _, (show Hid _ from by show _ = _; simp), rfl, rfl, (show Hid _ from World.ownsRow_nil _ _ _ _), (show Hid _ from Below.refl _ _)⟩
  case round =>
    obtain ⟨j, d, e, hj, hd, HD, rfl, rfl, HO, HB⟩ := hrel
    have HP : Hid (d / 2 = s / 2 ^ (j + 1)) := by show _ = _; rw [Nat.pow_succ, ← Nat.div_div_eq_div_mul, ← HD.out]
    have HL := Lib.hid (secL_succ s j)
    rw [← HD.out] at HL
    have hz := HB.out.size
    by_cases hlt : 0 < e
    · have hgt : (0 : Int) < (e : Int) := by omega
      have e1 : ((d : Int).tmod 2) = ((d % 2 : Nat) : Int) := by rw [Int.tmod_eq_emod_of_nonneg (by omega)]; omega
      have e2 : ((d : Int).tdiv 2) = ((d / 2 : Nat) : Int) := by rw [Int.tdiv_eq_ediv_of_nonneg (by omega)]; omega
      obtain ⟨x1, hx1⟩ : ∃ x, x = ((d % 2 : Nat) : Int) := ⟨_, rfl⟩
      obtain ⟨d2, hd2⟩ : ∃ x, x = d / 2 := ⟨_, rfl⟩
      have hd3 : d2 ≤ s := by omega
      obtain ⟨e', he⟩ : ∃ x, e = x + 1 := ⟨e - 1, by omega⟩
      rw [← hx1] at HL e1
      rw [← hd2] at HP e2
      clear hx1 hd2
      subst he
      obtain ⟨wo, rfl⟩ : ∃ wo : World, wo = wr := ⟨_, rfl⟩
      go_wp2_with (at_builtin; refine wp_app wo w.heap.size j _ (secL s j) x1 _ _ rfl _ _ rfl rfl rfl (by first | rfl | (simp; rfl)) HO.out hz (by omega) ?_; intro v9 w9 hv9 hb9 hg9)
      clear hg9 e1
      go_roundw
      case rel => exact ⟨j + 1, d2, e', by omega, hd3, HP, by first | rfl | go_num | simp [e2], by first | rfl | go_num, (by rw [HL.out]; exact hv9), (show Hid _ from HB.out.trans hb9)⟩
      case measure => simp [intOf]
    · obtain rfl : k = j := by omega
      obtain ⟨a9, c9, hv, ho9⟩ := OwnI.of HO.out (by omega) (secL_fit s k)
      subst hv
      have HM := Lib.hid ho9.mine; clear ho9 HO
      go_wp2
      go_ret
      exact ⟨_, _, rfl, HM.out, HB.out⟩
end Go.Proofs.YtfejpmfcognikaaGreat
