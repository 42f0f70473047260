/-
  The draws of the law on products.
-/
import Derived.Test.YtfandnakenpfnaaCs
namespace Go.Proofs.Ytfandnakenpfnaa
open Go.RowKit
set_option linter.unusedVariables false
set_option linter.unusedSimpArgs false

set_option maxHeartbeats 2000000 in
theorem s_DrawMultiplyPairs (a : Option Addr) (n cap : Nat) (w : World) (hB : Byts w a n cap) :
    Calls Try.prog 27 #[.slice a n cap] w fun e w' => ∃ (p : Int) (k : Nat) (i : Int) (xr : Option Addr) (xn xc : Nat) (xx : List Int) (yr : Option Addr) (yn yc : Nat) (yx : List Int), e = .returned (.tuple #[.int .i64 p, .int .i64 k, .int .i64 i, .slice xr xn xc, .slice yr yn yc]) ∧ Dw p ∧ k ≤ 65535 ∧ Dw i ∧ Mine w' w.heap.size xr xn xc xx ∧ Mine w' w.heap.size yr yn yc yx ∧ Below w.heap.size w w' := by
  have hC0 := Cur.new (t := 63) hB hB.und (Nat.le_refl _)
  go_enter Try.func27, Try.ntmps27
  have hl0 := hC0.lt
  go_wp2_with fail
  refine (s_anyPrime _ _ _ _ hC0 (by omega)).mono ?_; rintro e w1 ⟨p, rfl, hp1, hp2, hC1, hX1⟩
  have hY1 := hX1
  have dp : Dr p := ⟨by omega, by omega⟩
  have hl1 := hC1.lt
  go_wp2_with fail
  refine (s_pick _ _ _ 60000 _ hC1 (by omega) (by omega)).mono ?_; rintro e w2 ⟨k, rfl, hk1, hk2, hC2, hX2⟩
  have hY2 := hY1.trans hX2
  have hl2 := hC2.lt
  go_wp2_with fail
  refine (s_pick _ _ _ 900 _ hC2 (by omega) (by omega)).mono ?_; rintro e w3 ⟨t, rfl, ht1, ht2, hC3, hX3⟩
  have hY3 := hY2.trans hX3
  obtain ⟨hCa, hIa, hOa, hXa⟩ := among_lit (t := 3) [0, 1, (t : Int), 1000, 1001] hC3 rfl rfl (by simp) (by intro x hx; simp at hx; unfold Fits; omega)
  have hl3a := hC3.lt
  go_wp2_with fail
  refine (s_among _ _ _ _ 5 5 [0, 1, (t : Int), 1000, 1001] _ hCa (by omega) hIa (by omega) (by omega) hOa).mono ?_; rintro e w4 ⟨i, rfl, hi, hC4, hX4⟩
  have hY4 := (hY3.trans hXa).trans hX4
  have di : Dw i := by simp at hi; unfold Dw; omega
  clear hCa hIa hOa hXa hi
  have hl4 := hC4.lt
  go_wp2_with fail
  refine (s_pair _ _ _ p _ hC4 (by omega) dp).mono ?_; rintro e w5 ⟨xr, xn, xc, xx, rfl, Mx, hmx, hC5, hX5⟩
  have hY5 := hY4.trans hX5
  have hl5 := hC5.lt
  go_wp2_with fail
  refine (s_pair _ _ _ p _ hC5 (by omega) dp).mono ?_; rintro e w6 ⟨yr, yn, yc, yx, rfl, My, hmy, hC6, hX6⟩
  replace Mx := Mx.bex hX6 (by omega)
  have hY6 := hY5.trans hX6
  go_wp2
  exact bodyPost_ret (v := .tuple #[.int .i64 p, .int .i64 k, .int .i64 i, .slice xr xn xc, .slice yr yn yc]) (by simp [results, Try.results27, go_sem]) rfl ⟨p, k, i, xr, xn, xc, xx, yr, yn, yc, yx, rfl, dp.dw, by omega, di, Mx.base (by omega), My.base (by omega), bel_new hY6⟩

set_option maxHeartbeats 2000000 in
theorem s_DrawPowerShared (a : Option Addr) (n cap : Nat) (w : World) (hB : Byts w a n cap) :
    Calls Try.prog 33 #[.slice a n cap] w fun e w' => ∃ (p : Int) (k : Nat) (xr : Option Addr) (xn xc : Nat) (xx : List Int) (m : Nat), e = .returned (.tuple #[.int .i64 p, .int .i64 k, .slice xr xn xc, .int .i64 m]) ∧ Dw p ∧ k ≤ 65535 ∧ Mine w' w.heap.size xr xn xc xx ∧ m ≤ 65535 ∧ Below w.heap.size w w' := by
  have hC0 := Cur.new (t := 63) hB hB.und (Nat.le_refl _)
  go_enter Try.func33, Try.ntmps33
  have hl0 := hC0.lt
  go_wp2_with fail
  refine (s_anyPrime _ _ _ _ hC0 (by omega)).mono ?_; rintro e w1 ⟨p, rfl, hp1, hp2, hC1, hX1⟩
  have hY1 := hX1
  have dp : Dr p := ⟨by omega, by omega⟩
  have hl1 := hC1.lt
  go_wp2_with fail
  refine (s_pick _ _ _ 60000 _ hC1 (by omega) (by omega)).mono ?_; rintro e w2 ⟨k, rfl, hk1, hk2, hC2, hX2⟩
  have hY2 := hY1.trans hX2
  have hl2 := hC2.lt
  go_wp2_with fail
  refine (s_pair _ _ _ p _ hC2 (by omega) dp).mono ?_; rintro e w3 ⟨xr, xn, xc, xx, rfl, Mx, hmx, hC3, hX3⟩
  have hY3 := hY2.trans hX3
  have hl3 := hC3.lt
  go_wp2_with fail
  refine (s_pick _ _ _ 10 _ hC3 (by omega) (by omega)).mono ?_; rintro e w4 ⟨m, rfl, hm1, hm2, hC4, hX4⟩
  replace Mx := Mx.bex hX4 (by omega)
  have hY4 := hY3.trans hX4
  go_wp2
  exact bodyPost_ret (v := .tuple #[.int .i64 p, .int .i64 k, .slice xr xn xc, .int .i64 m]) (by simp [results, Try.results33, go_sem]) rfl ⟨p, k, xr, xn, xc, xx, m, rfl, dp.dw, by omega, Mx.base (by omega), by omega, bel_new hY4⟩

end Go.Proofs.Ytfandnakenpfnaa
