/-
  The walk of the exact law on BitTriple.
-/
import Derived.Test.YtbkmgehigbjgmaaD12
namespace Go.Proofs.Ytbkmgehigbjgmaa
open Go.RowKit
set_option linter.unusedVariables false
set_option linter.unusedSimpArgs false

set_option maxHeartbeats 4000000 in
theorem law_FnExactBitTriple (x0 : Int) (x1 : Int) (w : World) (hx0 : Fits x0) (hx1 : Fits x1) :
    Calls Try.prog 8 #[.int .i64 x0, .int .i64 x1] w fun e w' => e = .returned (.bool true) ∧ Below w.heap.size w w' := by
  have hcl0 := (bitTriple_len x0 x1).1
  have hcl1 := (bitTriple_len x0 x1).2
  have HS := fun (W : World)  => s_BitTriple x0 x1 W hx0 hx1
  have HI := fun (W : World)  => i_BitTriple x0 x1 W hx0 hx1
  obtain ⟨y0, hy0⟩ : ∃ y, y = (bitTriple x0 x1).1 := ⟨_, rfl⟩
  obtain ⟨y1, hy1⟩ : ∃ y, y = (bitTriple x0 x1).2.1 := ⟨_, rfl⟩
  obtain ⟨y2, hy2⟩ : ∃ y, y = (bitTriple x0 x1).2.2 := ⟨_, rfl⟩
  simp only [← hy0, ← hy1, ← hy2] at HS HI
  rw [← hy0] at hcl0
  rw [← hy1] at hcl1
  clear hy0 hy1 hy2
  have HHS := Lib.hid HS; have HHI := Lib.hid HI; clear HS HI
  go_enter Try.func8, Try.ntmps8
  go_wp2_with fail
  refine (HHS.out _ ).mono ?_; rintro e wd1 ⟨w0a, w0c, w1a, w1c, rfl, w0, w1, ap1, hb1⟩
  have B1 := hb1
  have sz1 := hb1.size
  have pw0 := w0.pl
  have pw1 := w1.pl
  go_wp2_with fail
  refine (HHI.out _ ).mono ?_; rintro e wd2 ⟨g0a, g0c, g1a, g1c, rfl, g0, g1, ap2, hb2⟩
  replace w0 := w0.below hb2
  replace w1 := w1.below hb2
  have B2 := bel_trans B1 hb2
  have sz2 := hb2.size
  have pg0 := g0.pl
  have pg1 := g1.pl
  go_wp2_with fail
  refine (l_eqIntS _ _ _ _ _ y0 _ g0.ints w0.ints).mono ?_; rintro e wd3 ⟨rfl, hb3⟩
  replace w0 := w0.below hb3
  replace w1 := w1.below hb3
  replace g0 := g0.below hb3
  replace g1 := g1.below hb3
  have B3 := bel_trans B2 hb3
  have sz3 := hb3.size
  go_wp2_with fail
  refine (l_eqIntS _ _ _ _ _ y1 _ g1.ints w1.ints).mono ?_; rintro e wd4 ⟨rfl, hb4⟩
  replace w0 := w0.below hb4
  replace w1 := w1.below hb4
  replace g0 := g0.below hb4
  replace g1 := g1.below hb4
  have B4 := bel_trans B3 hb4
  have sz4 := hb4.size
  go_wp2_with fail
  refine (l_mark _ _ _ _ y0 _ _ g0 (by omega) (by omega)).mono ?_; rintro e wd5 ⟨rfl, g0m, hb5⟩
  have sz5 := hb5.size
  have B5 := Below.onlyM B4 hb5 pg0 (by omega)
  replace w0 := w0.onlyM hb5 pw0 pg0 (by omega)
  replace w1 := w1.onlyM hb5 pw1 pg0 (by omega)
  replace g1 := g1.onlyA hb5 ap2.symm
  clear g0; have g0 := g0m; clear g0m
  go_wp2_with fail
  refine (l_mark _ _ _ _ y1 _ _ g1 (by omega) (by omega)).mono ?_; rintro e wd6 ⟨rfl, g1m, hb6⟩
  have sz6 := hb6.size
  have B6 := Below.onlyM B5 hb6 pg1 (by omega)
  replace w0 := w0.onlyM hb6 pw0 pg1 (by omega)
  replace w1 := w1.onlyM hb6 pw1 pg1 (by omega)
  replace g0 := g0.onlyA hb6 ap2
  clear g1; have g1 := g1m; clear g1m
  go_wp2_with fail
  refine (l_heldIntS _ _ _ _ _ g0.ints (by omega) (by omega)).mono ?_; rintro e wx ⟨rfl, hwx⟩; subst hwx
  go_wp2_with fail
  refine (l_heldIntS _ _ _ _ _ g1.ints (by omega) (by omega)).mono ?_; rintro e wx ⟨rfl, hwx⟩; subst hwx
  go_wp2_with fail
  refine (HHI.out _ ).mono ?_; rintro e wd7 ⟨h0a, h0c, h1a, h1c, rfl, h0, h1, ap7, hb7⟩
  replace w0 := w0.below hb7
  replace w1 := w1.below hb7
  replace g0 := g0.below hb7
  replace g1 := g1.below hb7
  have B7 := bel_trans B6 hb7
  have sz7 := hb7.size
  have ph0 := h0.pl
  have ph1 := h1.pl
  go_wp2_with fail
  refine (l_eqIntS _ _ _ _ _ y0 _ h0.ints w0.ints).mono ?_; rintro e wd8 ⟨rfl, hb8⟩
  replace w0 := w0.below hb8
  replace w1 := w1.below hb8
  replace g0 := g0.below hb8
  replace g1 := g1.below hb8
  replace h0 := h0.below hb8
  replace h1 := h1.below hb8
  have B8 := bel_trans B7 hb8
  have sz8 := hb8.size
  go_wp2_with fail
  refine (l_eqIntS _ _ _ _ _ y1 _ h1.ints w1.ints).mono ?_; rintro e wd9 ⟨rfl, hb9⟩
  replace w0 := w0.below hb9
  replace w1 := w1.below hb9
  replace g0 := g0.below hb9
  replace g1 := g1.below hb9
  replace h0 := h0.below hb9
  replace h1 := h1.below hb9
  have B9 := bel_trans B8 hb9
  have sz9 := hb9.size
  go_wp2_with fail
  refine (l_heldIntS _ _ _ _ _ g0.ints (by omega) (by omega)).mono ?_; rintro e wx ⟨rfl, hwx⟩; subst hwx
  go_wp2_with fail
  refine (l_heldIntS _ _ _ _ _ g1.ints (by omega) (by omega)).mono ?_; rintro e wx ⟨rfl, hwx⟩; subst hwx
  go_wp2
  go_ret
  exact ⟨rfl, B9⟩


end Go.Proofs.Ytbkmgehigbjgmaa
