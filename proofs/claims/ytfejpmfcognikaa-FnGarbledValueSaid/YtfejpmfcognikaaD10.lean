/-
  The reference's xor of two lists of bits.
-/
import Derived.Test.YtfejpmfcognikaaD9
namespace Go.Proofs.Ytfejpmfcognikaa
open Go.RowKit
set_option linter.unusedVariables false
set_option linter.unusedSimpArgs false

def xr (a b : Int) : Int := (a + b) % 2
theorem xr_bd (a b : Int) : 0 ≤ xr a b ∧ xr a b ≤ 1 := by unfold xr; omega
theorem xr_eq {a b : Int} (ha : 0 ≤ a ∧ a ≤ 1) (hb : 0 ≤ b ∧ b ≤ 1) : bits .xor .i64 a b = xr a b := by
  rcases (show a = 0 ∨ a = 1 by omega) with rfl | rfl <;> rcases (show b = 0 ∨ b = 1 by omega) with rfl | rfl <;> decide
def xrL (xs ys : List Int) (n : Nat) : List Int := (List.range n).map (fun k => xr (nth xs k) (nth ys k))
theorem xrL_succ (xs ys : List Int) (n : Nat) : xrL xs ys (n + 1) = xrL xs ys n ++ [xr (nth xs n) (nth ys n)] := by simp [xrL, List.range_succ]
theorem xrL_fit (xs ys : List Int) (n : Nat) : ∀ x ∈ xrL xs ys n, Fits x := by
  intro x hx
  simp only [xrL, List.mem_map] at hx
  obtain ⟨k, _, rfl⟩ := hx
  have := xr_bd (nth xs k) (nth ys k)
  unfold Fits; omega
set_option maxHeartbeats 2000000 in
theorem s_btXor (a a' : Option Addr) (n n' cap cap' : Nat) (xs ys : List Int) (w : World) (h : Ints w a n cap xs) (h' : Ints w a' n' cap' ys) (hn : n ≤ n') (hs : n ≤ 100000)
    (hx : Hid (∀ i, i < n → (0 ≤ nth xs i ∧ nth xs i ≤ 1) ∧ (0 ≤ nth ys i ∧ nth ys i ≤ 1))) :
    Calls Try.prog 96 #[.slice a n cap, .slice a' n' cap'] w fun e w' => ∃ r c, e = .returned (.slice r n c) ∧ Mine w' w.heap.size r n c (xrL xs ys n) ∧ Below w.heap.size w w' := by
  have HFT := Lib.hid (xrL_fit xs ys n)
  go_enter Try.func96, Try.ntmps96
  go_wp2
  go_loopw [5, 10] (fun v i wr => ∃ k : Nat, k ≤ n ∧ i = .int .i64 k ∧ Hid (wr.ownsRow w.heap.size 3 1 v k (ivs (xrL xs ys k))) ∧ Hid (Below w.heap.size w wr)) (fun _ i _ => n - (intOf i).toNat)
  case atStart => exact ⟨0, by omega, rfl, World.ownsRow_nil _ _ _ _, Below.refl _ _⟩
  case round =>
    obtain ⟨k, hk, rfl, HO, HB⟩ := hrel
    by_cases hlt : k < n
    · obtain ⟨b, off, rfl, hbl, hc⟩ := (h.below HB.out).at hlt
      obtain ⟨b', off', rfl, hbl', hc'⟩ := (h'.below HB.out).at (i := k) (by omega)
      have hlti : (k : Int) < (n' : Int) := by omega
      have hxe := xr_eq (hx.out k hlt).1 (hx.out k hlt).2
      have hz := HB.out.size
      have HS : Hid (xrL xs ys (k + 1) = xrL xs ys k ++ [xr (nth xs k) (nth ys k)]) := xrL_succ xs ys k
      go_wp2_with (at_builtin; (try rw [hxe]); refine wp_app wr w.heap.size _ _ _ (xr (nth xs k) (nth ys k)) _ _ rfl _ _ rfl rfl rfl rfl HO.out hz (by omega) ?_; intro v9 w9 hv9 hb9 hg9)
      clear hg9
      go_roundw
      case rel => exact ⟨k + 1, by omega, by go_num, by rw [HS.out]; exact hv9, HB.out.trans hb9⟩
      case measure => simp [intOf]; omega
    · obtain rfl : k = n := by omega
      go_wp2
      obtain ⟨r, c, hv, hm⟩ := Mine.of HO.out (by omega) HFT.out
      subst hv
      go_ret
      exact ⟨_, _, rfl, hm, HB.out⟩
end Go.Proofs.Ytfejpmfcognikaa
