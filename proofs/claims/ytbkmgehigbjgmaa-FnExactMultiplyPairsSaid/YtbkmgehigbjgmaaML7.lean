/-
  The walk of the exact law on MultiplyPairs.
-/
import Derived.Test.YtbkmgehigbjgmaaD7
namespace Go.Proofs.Ytbkmgehigbjgmaa
open Go.RowKit
set_option linter.unusedVariables false
set_option linter.unusedSimpArgs false

set_option maxHeartbeats 4000000 in
theorem law_FnExactMultiplyPairs (x0 : Int) (x1 : Int) (x2 : Int) (a3 : Option Addr) (n3 c3 : Nat) (z3 : List Int) (a4 : Option Addr) (n4 c4 : Nat) (z4 : List Int) (w : World) (hx0 : Fits x0) (hx1 : Fits x1) (hx2 : Fits x2) (ha3 : IntsIn w a3 n3 c3 z3) (ha4 : IntsIn w a4 n4 c4 z4) :
    Calls Try.prog 12 #[.int .i64 x0, .int .i64 x1, .int .i64 x2, .slice a3 n3 c3, .slice a4 n4 c4] w fun e w' => e = .returned (.bool true) ∧ Below w.heap.size w w' := by
  obtain ⟨hma3, hia3⟩ := ha3
  obtain ⟨hma4, hia4⟩ := ha4
  by_cases hga3 : n3 ≤ 1048576
  rotate_left
  · go_enter Try.func12, Try.ntmps12
    go_wp2
    go_ret
    exact ⟨rfl, Below.refl _ _⟩
  have ia3 := hia3 hga3
  by_cases hga4 : n4 ≤ 1048576
  rotate_left
  · go_enter Try.func12, Try.ntmps12
    go_wp2
    go_ret
    exact ⟨rfl, Below.refl _ _⟩
  have ia4 := hia4 hga4
  have hcl0 := multPairs_len x0 x1 x2 z3 z4
  have HS := fun (W : World) (b3 : Option Addr) (e3 : Nat) (k3 : Ints W b3 n3 e3 z3) (b4 : Option Addr) (e4 : Nat) (k4 : Ints W b4 n4 e4 z4) => s_MultiplyPairs x0 x1 x2 b3 n3 e3 z3 b4 n4 e4 z4 W hx0 hx1 hx2 k3 k4
  have HI := fun (W : World) (b3 : Option Addr) (e3 : Nat) (k3 : Ints W b3 n3 e3 z3) (b4 : Option Addr) (e4 : Nat) (k4 : Ints W b4 n4 e4 z4) => i_MultiplyPairs x0 x1 x2 b3 n3 e3 z3 b4 n4 e4 z4 W hx0 hx1 hx2 k3 k4
  obtain ⟨y0, hy0⟩ : ∃ y, y = (multPairs x0 x1 x2 z3 z4).1 := ⟨_, rfl⟩
  obtain ⟨y1, hy1⟩ : ∃ y, y = (multPairs x0 x1 x2 z3 z4).2 := ⟨_, rfl⟩
  simp only [← hy0, ← hy1] at HS HI
  rw [← hy0] at hcl0
  clear hy0 hy1
  have HHS := Lib.hid HS; have HHI := Lib.hid HI; clear HS HI
  go_enter Try.func12, Try.ntmps12
  have i0_ia3 := ia3
  have i0_ia4 := ia4
  go_wp2_with fail
  refine (l_conv a3 n3 c3 z3 _ ia3).mono ?_; rintro e wd1 ⟨t0a, t0c, rfl, t0, hb1⟩
  replace ia3 := ia3.below hb1
  replace ia4 := ia4.below hb1
  have B1 := hb1
  have sz1 := hb1.size
  have pt0 := t0.pl
  go_wp2_with fail
  refine (l_conv a4 n4 c4 z4 _ ia4).mono ?_; rintro e wd2 ⟨t1a, t1c, rfl, t1, hb2⟩
  replace ia3 := ia3.below hb2
  replace ia4 := ia4.below hb2
  replace t0 := t0.below hb2
  have B2 := bel_trans B1 hb2
  have sz2 := hb2.size
  have pt1 := t1.pl
  go_wp2_with fail
  refine (HHS.out _ t0a t0c t0.ints t1a t1c t1.ints).mono ?_; rintro e wd3 ⟨w0a, w0c, rfl, w0, hb3⟩
  replace ia3 := ia3.below hb3
  replace ia4 := ia4.below hb3
  replace t0 := t0.below hb3
  replace t1 := t1.below hb3
  have B3 := bel_trans B2 hb3
  have sz3 := hb3.size
  have pw0 := w0.pl
  clear t0 pt0
  clear t1 pt1
  go_wp2_with fail
  refine (l_conv a3 n3 c3 z3 _ ia3).mono ?_; rintro e wd4 ⟨t2a, t2c, rfl, t2, hb4⟩
  replace ia3 := ia3.below hb4
  replace ia4 := ia4.below hb4
  replace w0 := w0.below hb4
  have B4 := bel_trans B3 hb4
  have sz4 := hb4.size
  have pt2 := t2.pl
  go_wp2_with fail
  refine (l_conv a4 n4 c4 z4 _ ia4).mono ?_; rintro e wd5 ⟨t3a, t3c, rfl, t3, hb5⟩
  replace ia3 := ia3.below hb5
  replace ia4 := ia4.below hb5
  replace w0 := w0.below hb5
  replace t2 := t2.below hb5
  have B5 := bel_trans B4 hb5
  have sz5 := hb5.size
  have pt3 := t3.pl
  go_wp2_with fail
  refine (HHI.out _ t2a t2c t2.ints t3a t3c t3.ints).mono ?_; rintro e wd6 ⟨g0a, g0c, rfl, g0, hb6⟩
  replace ia3 := ia3.below hb6
  replace ia4 := ia4.below hb6
  replace w0 := w0.below hb6
  replace t2 := t2.below hb6
  replace t3 := t3.below hb6
  have B6 := bel_trans B5 hb6
  have sz6 := hb6.size
  have pg0 := g0.pl
  go_wp2_with fail
  refine (l_eqIntS _ _ _ _ _ y0 _ g0.ints w0.ints).mono ?_; rintro e wd7 ⟨rfl, hb7⟩
  replace ia3 := ia3.below hb7
  replace ia4 := ia4.below hb7
  replace w0 := w0.below hb7
  replace t2 := t2.below hb7
  replace t3 := t3.below hb7
  replace g0 := g0.below hb7
  have B7 := bel_trans B6 hb7
  have sz7 := hb7.size
  go_wp2_with fail
  refine (l_conv a3 n3 c3 z3 _ ia3).mono ?_; rintro e wd8 ⟨t4a, t4c, rfl, t4, hb8⟩
  replace ia3 := ia3.below hb8
  replace ia4 := ia4.below hb8
  replace w0 := w0.below hb8
  replace t2 := t2.below hb8
  replace t3 := t3.below hb8
  replace g0 := g0.below hb8
  have B8 := bel_trans B7 hb8
  have sz8 := hb8.size
  have pt4 := t4.pl
  go_wp2_with fail
  refine (l_eqIntS _ _ _ _ _ z3 _ t2.ints t4.ints).mono ?_; rintro e wd9 ⟨rfl, hb9⟩
  replace ia3 := ia3.below hb9
  replace ia4 := ia4.below hb9
  replace w0 := w0.below hb9
  replace t2 := t2.below hb9
  replace t3 := t3.below hb9
  replace g0 := g0.below hb9
  replace t4 := t4.below hb9
  have B9 := bel_trans B8 hb9
  have sz9 := hb9.size
  clear t4 pt4
  go_wp2_with fail
  refine (l_conv a4 n4 c4 z4 _ ia4).mono ?_; rintro e wd10 ⟨t5a, t5c, rfl, t5, hb10⟩
  replace ia3 := ia3.below hb10
  replace ia4 := ia4.below hb10
  replace w0 := w0.below hb10
  replace t2 := t2.below hb10
  replace t3 := t3.below hb10
  replace g0 := g0.below hb10
  have B10 := bel_trans B9 hb10
  have sz10 := hb10.size
  have pt5 := t5.pl
  go_wp2_with fail
  refine (l_eqIntS _ _ _ _ _ z4 _ t3.ints t5.ints).mono ?_; rintro e wd11 ⟨rfl, hb11⟩
  replace ia3 := ia3.below hb11
  replace ia4 := ia4.below hb11
  replace w0 := w0.below hb11
  replace t2 := t2.below hb11
  replace t3 := t3.below hb11
  replace g0 := g0.below hb11
  replace t5 := t5.below hb11
  have B11 := bel_trans B10 hb11
  have sz11 := hb11.size
  clear t5 pt5
  go_wp2_with fail
  refine (l_mark _ _ _ _ z3 _ _ t2 (by omega) (by omega)).mono ?_; rintro e wd12 ⟨rfl, x3m, hb12⟩
  have sz12 := hb12.size
  have B12 := Below.onlyM B11 hb12 pt2 (by omega)
  replace ia3 := i0_ia3.below B12
  replace ia4 := i0_ia4.below B12
  replace w0 := w0.onlyM hb12 pw0 pt2 (by omega)
  replace t3 := t3.onlyM hb12 pt3 pt2 (by omega)
  replace g0 := g0.onlyM hb12 pg0 pt2 (by omega)
  clear t2; have t2 := x3m; clear x3m
  go_wp2_with fail
  refine (l_mark _ _ _ _ z4 _ _ t3 (by omega) (by omega)).mono ?_; rintro e wd13 ⟨rfl, x4m, hb13⟩
  have sz13 := hb13.size
  have B13 := Below.onlyM B12 hb13 pt3 (by omega)
  replace ia3 := i0_ia3.below B13
  replace ia4 := i0_ia4.below B13
  replace w0 := w0.onlyM hb13 pw0 pt3 (by omega)
  replace t2 := t2.onlyM hb13 pt2 pt3 (by omega)
  replace g0 := g0.onlyM hb13 pg0 pt3 (by omega)
  clear t3; have t3 := x4m; clear x4m
  go_wp2_with fail
  refine (l_eqIntS _ _ _ _ _ y0 _ g0.ints w0.ints).mono ?_; rintro e wd14 ⟨rfl, hb14⟩
  replace ia3 := ia3.below hb14
  replace ia4 := ia4.below hb14
  replace w0 := w0.below hb14
  replace t2 := t2.below hb14
  replace t3 := t3.below hb14
  replace g0 := g0.below hb14
  have B14 := bel_trans B13 hb14
  have sz14 := hb14.size
  go_wp2_with fail
  refine (l_mark _ _ _ _ y0 _ _ g0 (by omega) (by omega)).mono ?_; rintro e wd15 ⟨rfl, g0m, hb15⟩
  have sz15 := hb15.size
  have B15 := Below.onlyM B14 hb15 pg0 (by omega)
  replace ia3 := i0_ia3.below B15
  replace ia4 := i0_ia4.below B15
  replace w0 := w0.onlyM hb15 pw0 pg0 (by omega)
  replace t2 := t2.onlyM hb15 pt2 pg0 (by omega)
  replace t3 := t3.onlyM hb15 pt3 pg0 (by omega)
  clear g0; have g0 := g0m; clear g0m
  go_wp2_with fail
  refine (l_heldIntS _ _ _ _ _ g0.ints (by omega) (by omega)).mono ?_; rintro e wx ⟨rfl, hwx⟩; subst hwx
  go_wp2_with fail
  refine (l_conv a3 n3 c3 z3 _ ia3).mono ?_; rintro e wd16 ⟨t6a, t6c, rfl, t6, hb16⟩
  replace ia3 := ia3.below hb16
  replace ia4 := ia4.below hb16
  replace w0 := w0.below hb16
  replace t2 := t2.below hb16
  replace t3 := t3.below hb16
  replace g0 := g0.below hb16
  have B16 := bel_trans B15 hb16
  have sz16 := hb16.size
  have pt6 := t6.pl
  go_wp2_with fail
  refine (l_conv a4 n4 c4 z4 _ ia4).mono ?_; rintro e wd17 ⟨t7a, t7c, rfl, t7, hb17⟩
  replace ia3 := ia3.below hb17
  replace ia4 := ia4.below hb17
  replace w0 := w0.below hb17
  replace t2 := t2.below hb17
  replace t3 := t3.below hb17
  replace g0 := g0.below hb17
  replace t6 := t6.below hb17
  have B17 := bel_trans B16 hb17
  have sz17 := hb17.size
  have pt7 := t7.pl
  go_wp2_with fail
  refine (HHI.out _ t6a t6c t6.ints t7a t7c t7.ints).mono ?_; rintro e wd18 ⟨h0a, h0c, rfl, h0, hb18⟩
  replace ia3 := ia3.below hb18
  replace ia4 := ia4.below hb18
  replace w0 := w0.below hb18
  replace t2 := t2.below hb18
  replace t3 := t3.below hb18
  replace g0 := g0.below hb18
  replace t6 := t6.below hb18
  replace t7 := t7.below hb18
  have B18 := bel_trans B17 hb18
  have sz18 := hb18.size
  have ph0 := h0.pl
  clear t6 pt6
  clear t7 pt7
  go_wp2_with fail
  refine (l_eqIntS _ _ _ _ _ y0 _ h0.ints w0.ints).mono ?_; rintro e wd19 ⟨rfl, hb19⟩
  replace ia3 := ia3.below hb19
  replace ia4 := ia4.below hb19
  replace w0 := w0.below hb19
  replace t2 := t2.below hb19
  replace t3 := t3.below hb19
  replace g0 := g0.below hb19
  replace h0 := h0.below hb19
  have B19 := bel_trans B18 hb19
  have sz19 := hb19.size
  go_wp2_with fail
  refine (l_heldIntS _ _ _ _ _ g0.ints (by omega) (by omega)).mono ?_; rintro e wx ⟨rfl, hwx⟩; subst hwx
  go_wp2
  go_ret
  exact ⟨rfl, B19⟩


end Go.Proofs.Ytbkmgehigbjgmaa
