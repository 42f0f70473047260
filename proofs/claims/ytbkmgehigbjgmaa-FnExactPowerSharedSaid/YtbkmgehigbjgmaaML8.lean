/-
  The walk of the exact law on PowerShared.
-/
import Derived.Test.YtbkmgehigbjgmaaD8
namespace Go.Proofs.Ytbkmgehigbjgmaa
open Go.RowKit
set_option linter.unusedVariables false
set_option linter.unusedSimpArgs false

set_option maxHeartbeats 4000000 in
theorem law_FnExactPowerShared (x0 : Int) (x1 : Int) (a2 : Option Addr) (n2 c2 : Nat) (z2 : List Int) (x3 : Int) (w : World) (hx0 : Fits x0) (hx1 : Fits x1) (ha2 : IntsIn w a2 n2 c2 z2) (hx3 : Fits x3) :
    Calls Try.prog 13 #[.int .i64 x0, .int .i64 x1, .slice a2 n2 c2, .int .i64 x3] w fun e w' => e = .returned (.bool true) ∧ Below w.heap.size w w' := by
  obtain ⟨hma2, hia2⟩ := ha2
  by_cases hga2 : n2 ≤ 1048576
  rotate_left
  · go_enter Try.func13, Try.ntmps13
    go_wp2
    go_ret
    exact ⟨rfl, Below.refl _ _⟩
  have ia2 := hia2 hga2
  have hcl0 := powShared_len x0 x1 z2 x3
  have HS := fun (W : World) (b2 : Option Addr) (e2 : Nat) (k2 : Ints W b2 n2 e2 z2) => s_PowerShared x0 x1 b2 n2 e2 z2 x3 W hx0 hx1 k2 hx3
  have HI := fun (W : World) (b2 : Option Addr) (e2 : Nat) (k2 : Ints W b2 n2 e2 z2) => i_PowerShared x0 x1 b2 n2 e2 z2 x3 W hx0 hx1 k2 hx3
  obtain ⟨y0, hy0⟩ : ∃ y, y = (powShared x0 x1 z2 x3).1 := ⟨_, rfl⟩
  obtain ⟨y1, hy1⟩ : ∃ y, y = (powShared x0 x1 z2 x3).2 := ⟨_, rfl⟩
  simp only [← hy0, ← hy1] at HS HI
  rw [← hy0] at hcl0
  clear hy0 hy1
  have HHS := Lib.hid HS; have HHI := Lib.hid HI; clear HS HI
  go_enter Try.func13, Try.ntmps13
  have i0_ia2 := ia2
  go_wp2_with fail
  refine (l_conv a2 n2 c2 z2 _ ia2).mono ?_; rintro e wd1 ⟨t0a, t0c, rfl, t0, hb1⟩
  replace ia2 := ia2.below hb1
  have B1 := hb1
  have sz1 := hb1.size
  have pt0 := t0.pl
  go_wp2_with fail
  refine (HHS.out _ t0a t0c t0.ints).mono ?_; rintro e wd2 ⟨w0a, w0c, rfl, w0, hb2⟩
  replace ia2 := ia2.below hb2
  replace t0 := t0.below hb2
  have B2 := bel_trans B1 hb2
  have sz2 := hb2.size
  have pw0 := w0.pl
  clear t0 pt0
  go_wp2_with fail
  refine (l_conv a2 n2 c2 z2 _ ia2).mono ?_; rintro e wd3 ⟨t1a, t1c, rfl, t1, hb3⟩
  replace ia2 := ia2.below hb3
  replace w0 := w0.below hb3
  have B3 := bel_trans B2 hb3
  have sz3 := hb3.size
  have pt1 := t1.pl
  go_wp2_with fail
  refine (HHI.out _ t1a t1c t1.ints).mono ?_; rintro e wd4 ⟨g0a, g0c, rfl, g0, hb4⟩
  replace ia2 := ia2.below hb4
  replace w0 := w0.below hb4
  replace t1 := t1.below hb4
  have B4 := bel_trans B3 hb4
  have sz4 := hb4.size
  have pg0 := g0.pl
  go_wp2_with fail
  refine (l_eqIntS _ _ _ _ _ y0 _ g0.ints w0.ints).mono ?_; rintro e wd5 ⟨rfl, hb5⟩
  replace ia2 := ia2.below hb5
  replace w0 := w0.below hb5
  replace t1 := t1.below hb5
  replace g0 := g0.below hb5
  have B5 := bel_trans B4 hb5
  have sz5 := hb5.size
  go_wp2_with fail
  refine (l_conv a2 n2 c2 z2 _ ia2).mono ?_; rintro e wd6 ⟨t2a, t2c, rfl, t2, hb6⟩
  replace ia2 := ia2.below hb6
  replace w0 := w0.below hb6
  replace t1 := t1.below hb6
  replace g0 := g0.below hb6
  have B6 := bel_trans B5 hb6
  have sz6 := hb6.size
  have pt2 := t2.pl
  go_wp2_with fail
  refine (l_eqIntS _ _ _ _ _ z2 _ t1.ints t2.ints).mono ?_; rintro e wd7 ⟨rfl, hb7⟩
  replace ia2 := ia2.below hb7
  replace w0 := w0.below hb7
  replace t1 := t1.below hb7
  replace g0 := g0.below hb7
  replace t2 := t2.below hb7
  have B7 := bel_trans B6 hb7
  have sz7 := hb7.size
  clear t2 pt2
  go_wp2_with fail
  refine (l_mark _ _ _ _ z2 _ _ t1 (by omega) (by omega)).mono ?_; rintro e wd8 ⟨rfl, x2m, hb8⟩
  have sz8 := hb8.size
  have B8 := Below.onlyM B7 hb8 pt1 (by omega)
  replace ia2 := i0_ia2.below B8
  replace w0 := w0.onlyM hb8 pw0 pt1 (by omega)
  replace g0 := g0.onlyM hb8 pg0 pt1 (by omega)
  clear t1; have t1 := x2m; clear x2m
  go_wp2_with fail
  refine (l_eqIntS _ _ _ _ _ y0 _ g0.ints w0.ints).mono ?_; rintro e wd9 ⟨rfl, hb9⟩
  replace ia2 := ia2.below hb9
  replace w0 := w0.below hb9
  replace t1 := t1.below hb9
  replace g0 := g0.below hb9
  have B9 := bel_trans B8 hb9
  have sz9 := hb9.size
  go_wp2_with fail
  refine (l_mark _ _ _ _ y0 _ _ g0 (by omega) (by omega)).mono ?_; rintro e wd10 ⟨rfl, g0m, hb10⟩
  have sz10 := hb10.size
  have B10 := Below.onlyM B9 hb10 pg0 (by omega)
  replace ia2 := i0_ia2.below B10
  replace w0 := w0.onlyM hb10 pw0 pg0 (by omega)
  replace t1 := t1.onlyM hb10 pt1 pg0 (by omega)
  clear g0; have g0 := g0m; clear g0m
  go_wp2_with fail
  refine (l_heldIntS _ _ _ _ _ g0.ints (by omega) (by omega)).mono ?_; rintro e wx ⟨rfl, hwx⟩; subst hwx
  go_wp2_with fail
  refine (l_conv a2 n2 c2 z2 _ ia2).mono ?_; rintro e wd11 ⟨t3a, t3c, rfl, t3, hb11⟩
  replace ia2 := ia2.below hb11
  replace w0 := w0.below hb11
  replace t1 := t1.below hb11
  replace g0 := g0.below hb11
  have B11 := bel_trans B10 hb11
  have sz11 := hb11.size
  have pt3 := t3.pl
  go_wp2_with fail
  refine (HHI.out _ t3a t3c t3.ints).mono ?_; rintro e wd12 ⟨h0a, h0c, rfl, h0, hb12⟩
  replace ia2 := ia2.below hb12
  replace w0 := w0.below hb12
  replace t1 := t1.below hb12
  replace g0 := g0.below hb12
  replace t3 := t3.below hb12
  have B12 := bel_trans B11 hb12
  have sz12 := hb12.size
  have ph0 := h0.pl
  clear t3 pt3
  go_wp2_with fail
  refine (l_eqIntS _ _ _ _ _ y0 _ h0.ints w0.ints).mono ?_; rintro e wd13 ⟨rfl, hb13⟩
  replace ia2 := ia2.below hb13
  replace w0 := w0.below hb13
  replace t1 := t1.below hb13
  replace g0 := g0.below hb13
  replace h0 := h0.below hb13
  have B13 := bel_trans B12 hb13
  have sz13 := hb13.size
  go_wp2_with fail
  refine (l_heldIntS _ _ _ _ _ g0.ints (by omega) (by omega)).mono ?_; rintro e wx ⟨rfl, hwx⟩; subst hwx
  go_wp2
  go_ret
  exact ⟨rfl, B13⟩


end Go.Proofs.Ytbkmgehigbjgmaa
