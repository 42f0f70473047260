/-
  laws.qSum of two numbers.
-/
import Derived.Test.YtfandnakenpfnaaCy
namespace Go.Proofs.Ytfandnakenpfnaa
open Go.RowKit
set_option linter.unusedVariables false
set_option linter.unusedSimpArgs false

def sm2 (x0 x1 : Int) : Nat → Int
  | 0 => 0
  | 1 => x0
  | _ => x0 + x1
set_option maxHeartbeats 1000000 in
theorem l_qSum2 (a : Option Addr) (n cap : Nat) (x0 x1 : Int) (w : World) (h : Ints w a n cap [x0, x1]) (h0 : 0 ≤ x0 ∧ x0 ≤ 1000) (h1 : 0 ≤ x1 ∧ x1 ≤ 1000) :
    Calls Try.prog 36 #[.slice a n cap] w fun e w' => e = .returned (.int .i64 (x0 + x1)) ∧ w = w' := by
  obtain ⟨rfl, b, off, rfl, c0, c1⟩ := h.two
  go_enter Try.func36, Try.ntmps36
  go_wp2
  go_loopw [8, 3] (fun i s wr => ∃ k : Nat, k ≤ 2 ∧ i = .int .i64 k ∧ s = .int .i64 (sm2 x0 x1 k) ∧ wr = w) (fun i _ _ => 2 - (intOf i).toNat)
  case atStart => exact ⟨0, by omega, rfl, rfl, rfl⟩
  case round =>
    obtain ⟨k, hk, rfl, rfl, rfl⟩ := hrel
    have hk3 : k = 0 ∨ k = 1 ∨ k = 2 := by omega
    rcases hk3 with rfl | rfl | rfl
    · have e1 : IntKind.i64.wrap (0 + x0) = x0 := by rw [Int.zero_add]; exact IntWalk.i64_in _ (by omega)
      have e3 : IntKind.i64.wrap x0 = x0 := IntWalk.i64_in _ (by omega)
      simp only [sm2]
      go_wp2
      go_roundw
      case rel => exact ⟨1, by omega, by first | rfl | go_num, by first | rfl | simp [sm2], by first | trivial | rfl⟩
      case measure => simp [intOf]
    · have e2 : IntKind.i64.wrap (x0 + x1) = x0 + x1 := IntWalk.i64_in _ (by omega)
      simp only [sm2]
      go_wp2
      go_roundw
      case rel => exact ⟨2, by omega, by first | rfl | go_num, by first | rfl | simp [sm2], by first | trivial | rfl⟩
      case measure => simp [intOf]
    · simp only [sm2]
      go_wp2
      go_ret
      exact ⟨rfl, rfl⟩
end Go.Proofs.Ytfandnakenpfnaa
