/-
  The draws of the law on wrong and refreshed shares.
-/
import Derived.Test.YtfichpppjpgahaaHh
namespace Go.Proofs.Ytfichpppjpgahaa
open Go.RowKit
set_option linter.unusedVariables false
set_option linter.unusedSimpArgs false
set_option maxRecDepth 20000

def HeldD (w : World) (e : Ending) (w' : World) : Prop :=
  ∃ (p : Int) (r : Option Addr) (n c : Nat) (xs : List Int) (r' : Option Addr) (n' c' : Nat) (ys : List Int) (t : Nat), e = .returned (.tuple #[.int .i64 p, .slice r n c, .slice r' n' c', .int .i64 t]) ∧ (2 ≤ p ∧ p ≤ 251) ∧ Ints w' r n c xs ∧ Ints w' r' n' c' ys ∧ n ≤ 11 ∧ n' ≤ 11 ∧ Below w.heap.size w w'
set_option maxHeartbeats 1000000 in
theorem s_DrawAreShares (a : Option Addr) (n cap : Nat) (w : World) (hB : Byts w a n cap) :
    Calls Try.prog 72 #[.slice a n cap] w (HeldD w) := by
  have hC0 := Cur.new (t := 61) hB hB.und (Nat.le_refl _)
  have hl0 := hC0.lt
  go_enter Try.func72, Try.ntmps72
  go_wp2_with fail
  refine (s_held _ _ _ _ hC0 (by omega)).mono ?_; rintro e w1 ⟨p, xr, xn, xc, xs, yr, yn, yc, ys, t, rfl, hp, hMx, hMy, hxn, hyn, hC1, hX1⟩
  have HX := Lib.hid hMx.ints; have HY := Lib.hid hMy.ints; have HB := Lib.hid (bel_new hX1)
  clear hMx hMy hC1 hX1 hC0
  go_wp2
  exact bodyPost_ret (v := .tuple #[.int .i64 p, .slice xr xn xc, .slice yr yn yc, .int .i64 t]) (by simp [results, Try.results72, go_sem]) rfl ⟨p, xr, xn, xc, xs, yr, yn, yc, ys, t, rfl, hp, HX.out, HY.out, hxn, hyn, HB.out⟩
set_option maxHeartbeats 1000000 in
theorem s_DrawJoinDespite (a : Option Addr) (n cap : Nat) (w : World) (hB : Byts w a n cap) :
    Calls Try.prog 20 #[.slice a n cap] w (HeldD w) := by
  go_enter Try.func20, Try.ntmps20
  go_wp2_with fail
  refine (s_DrawAreShares _ _ _ _ hB).mono ?_; rintro e w1 ⟨p, xr, xn, xc, xs, yr, yn, yc, ys, t, rfl, hp, HX, HY, hxn, hyn, HB⟩
  go_wp2
  exact bodyPost_ret (v := .tuple #[.int .i64 p, .slice xr xn xc, .slice yr yn yc, .int .i64 t]) (by simp [results, Try.results20, go_sem]) rfl ⟨p, xr, xn, xc, xs, yr, yn, yc, ys, t, rfl, hp, HX, HY, hxn, hyn, HB⟩
set_option maxHeartbeats 1000000 in
theorem s_DrawRefreshHolders (a : Option Addr) (n cap : Nat) (w : World) (hB : Byts w a n cap) :
    Calls Try.prog 25 #[.slice a n cap] w fun e w' => ∃ (p key : Int) (r' : Option Addr) (n' c' : Nat) (ys : List Int) (t : Nat), e = .returned (.tuple #[.int .i64 p, .int .i64 key, .slice r' n' c', .int .i64 t]) ∧ (2 ≤ p ∧ p ≤ 251) ∧ Ints w' r' n' c' ys ∧ n' ≤ 11 ∧ Below w.heap.size w w' := by
  have hC0 := Cur.new (t := 61) hB hB.und (Nat.le_refl _)
  have hl0 := hC0.lt
  go_enter Try.func25, Try.ntmps25
  go_wp2_with fail
  refine (s_held _ _ _ _ hC0 (by omega)).mono ?_; rintro e w1 ⟨p, xr, xn, xc, xs, yr, yn, yc, ys, t, rfl, hp, hMx, hMy, hxn, hyn, hC1, hX1⟩
  clear hMx
  go_wp2_with fail
  refine (s_pick _ _ _ 60000 _ hC1 (by omega) (by omega)).mono ?_; rintro e w2 ⟨k1, rfl, hk1, hk2, hC2, hX2⟩
  go_wp2_with fail
  refine (s_pick _ _ _ 60000 _ hC2 (by omega) (by omega)).mono ?_; rintro e w3 ⟨k2, rfl, hk3, hk4, hC3, hX3⟩
  obtain ⟨hCa, hIa, hOa, hXa⟩ := among_lit (t := 3) [(k1 : Int), (k2 : Int), -1] hC3 rfl rfl (by simp) (by intro x hx; simp at hx; unfold Fits; rcases hx with rfl | rfl | rfl <;> omega)
  go_wp2_with fail
  refine (s_among _ _ _ _ 3 3 [(k1 : Int), (k2 : Int), -1] _ hCa (by omega) hIa (by omega) (by omega) hOa).mono ?_; rintro e w4 ⟨key, rfl, hkey, hC4, hX4⟩
  have HY := Lib.hid ((((hMy.bex hX2 hl0).bex hX3 hl0).bex hXa hl0).bex hX4 hl0).ints
  have HB := Lib.hid (bel_new ((((hX1.trans hX2).trans hX3).trans hXa).trans hX4))
  clear hMy hC1 hX1 hC0 hC2 hX2 hC3 hX3 hCa hIa hOa hXa hC4 hX4 hkey
  go_wp2
  exact bodyPost_ret (v := .tuple #[.int .i64 p, .int .i64 key, .slice yr yn yc, .int .i64 t]) (by simp [results, Try.results25, go_sem]) rfl ⟨p, key, yr, yn, yc, ys, t, rfl, hp, HY.out, hyn, HB.out⟩
theorem Ints.onBq {w w' : World} {a : Option Addr} {n cap lo X : Nat} {xs : List Int} (h : Ints w a n cap xs) (p : PlaceM a n lo X) (hb : Below X w w') : Ints w' a n cap xs := by
  refine ⟨h.len, h.ncap, h.small, h.capm, fun i hi => ?_, h.wf, h.nilc⟩
  obtain ⟨b, off, e, hl, hc⟩ := h.at hi
  have hp := p (by omega) b off e
  exact ⟨b, off, e, Nat.lt_of_lt_of_le hl hb.size, (hb.cell (p := ⟨b, off + i, none⟩) (by show b < X; omega)).trans hc⟩
set_option maxHeartbeats 2000000 in
theorem s_DrawAddHolders (a : Option Addr) (n cap : Nat) (w : World) (hB : Byts w a n cap) :
    Calls Try.prog 28 #[.slice a n cap] w fun e w' => ∃ (p : Int) (r : Option Addr) (n c : Nat) (xs : List Int) (r' : Option Addr) (n' c' : Nat) (ys : List Int), e = .returned (.tuple #[.int .i64 p, .slice r n c, .slice r' n' c']) ∧ Ints w' r n c xs ∧ Ints w' r' n' c' ys ∧ Below w.heap.size w w' := by
  have hC0 := Cur.new (t := 61) hB hB.und (Nat.le_refl _)
  obtain ⟨W0, hW0⟩ : ∃ X, X = w.alloc (.cells #[.slice a n cap, .int .i64 0, .int .u64 0] 61) := ⟨_, rfl⟩
  have hs0 : W0.heap.size = w.heap.size + 1 := by rw [hW0]; simp
  have hbb : w.heap.size < W0.heap.size := by omega
  have HW0 := Lib.hid hW0
  go_enter Try.func28, Try.ntmps28
  go_wp2_with fail
  refine (s_held _ _ _ _ hC0 (by omega)).mono ?_; rintro e w1 ⟨p, xr, xn, xc, xs, yr, yn, yc, ys, t, rfl, hp, hMx, hMy, hxn, hyn, hC1, hX1⟩
  have dp : Dr p := ⟨by omega, by omega⟩
  clear hMx
  have HX1 : Hid (Bex w.heap.size W0 w1) := Lib.hid (by rw [hW0]; exact hX1)
  have HYP := Lib.hid hMy.pl
  have HY1 : Hid (Mine w1 W0.heap.size yr yn yc ys) := Lib.hid (by rw [hW0]; exact hMy)
  have HC1 := Lib.hid hC1
  clear hX1 hMy hC1 hC0 hW0
  have hz1 := HX1.out.size
  go_wp2_with fail
  refine (s_elements _ _ _ p yn _ HC1.out (by omega) dp (by omega)).mono ?_; rintro e w2 ⟨r, c, zs, rfl, ho, hC2, hX2⟩
  have hX2s := hX2.size
  have HO2 := Lib.hid ho; have HY2 := Lib.hid (HY1.out.bex hX2 hbb); have HX2 := Lib.hid (HX1.out.trans hX2); have HC2 := Lib.hid hC2
  clear ho hC2 hX2 HX1 HY1 HC1
  go_wp2_with fail
  refine (s_one _ _ _ 12 _ HC2.out (by omega) (by omega)).mono ?_; rintro e w3 ⟨q, rfl, hC3, hX3⟩
  have hX3s := hX3.size
  have HO3 := Lib.hid (HO2.out.bex hX3 (by omega)); have HY3 := Lib.hid (HY2.out.bex hX3 hbb); have HX3 := Lib.hid (HX2.out.trans hX3); have HC3 := Lib.hid hC3
  clear hC3 hX3 HX2 HY2 HC2 HO2
  have hz3 := HX3.out.size; have hz13 : w1.heap.size ≤ w3.heap.size := Nat.le_trans hX2s hX3s
  cases q with
  | false =>
    have hX9 := HX3.out; rw [HW0.out] at hX9
    have HB := Lib.hid (bel_new hX9); have HI := Lib.hid HO3.out.ints; have HJ := Lib.hid HY3.out.ints
    clear hX9 HO3 HY3 HX3
    go_wp2
    exact bodyPost_ret (v := .tuple #[.int .i64 p, .slice yr yn yc, .slice r yn c]) (by simp [results, Try.results28, go_sem]) rfl ⟨p, yr, yn, yc, ys, r, yn, c, zs, rfl, HJ.out, HI.out, HB.out⟩
  | true =>
    go_wp2_with (at_builtin; refine wp_app w3 w1.heap.size yn _ zs 0 _ _ rfl _ _ rfl rfl rfl (by first | rfl | simp) HO3.out.own (by omega) (by omega) ?_; intro v9 w9 hv9 hb9 hg9; obtain ⟨r9, c9, e9, m9⟩ := OwnI.of hv9 (by omega) (fun y hy => by rcases List.mem_append.1 hy with q | q; (exact HO3.out.ints.wf.out y q); (simp at q; rw [q]; unfold Fits; omega)); subst e9; have HI := Lib.hid m9.ints; have HJ := Lib.hid (HY3.out.ints.onBq HYP.out hb9); have hX9 := HX3.out.thenB (hb9.mono hz1); rw [HW0.out] at hX9; have HB := Lib.hid (bel_new hX9); clear hX9 hg9 hv9 hb9 m9)
    exact bodyPost_ret (v := .tuple #[.int .i64 p, .slice yr yn yc, .slice r9 (yn + 1) c9]) (by simp [results, Try.results28, go_sem]) rfl ⟨p, yr, yn, yc, ys, r9, yn + 1, c9, zs ++ [0], rfl, HJ.out, HI.out, HB.out⟩
end Go.Proofs.Ytfichpppjpgahaa
