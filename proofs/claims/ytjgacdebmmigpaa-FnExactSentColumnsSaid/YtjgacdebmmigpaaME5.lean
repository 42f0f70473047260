/-
  The walk of the exact law on SentColumns.
-/
import Derived.Test.YtjgacdebmmigpaaE9
namespace Go.Proofs.Ytjgacdebmmigpaa
open Go.RowKit
set_option linter.unusedVariables false
set_option linter.unusedSimpArgs false

set_option maxHeartbeats 8000000 in
theorem law_FnExactSentColumns (x0 : Int) (x1 : Int) (a2 : Option Addr) (n2 c2 : Nat) (z2 : List Int) (w : World) (hx0 : Fits x0) (hx1 : Fits x1) (ha2 : IntsIn w a2 n2 c2 z2) :
    Calls Try.prog 7 #[.int .i64 x0, .int .i64 x1, .slice a2 n2 c2] w fun e w' => e = .returned (.bool true) ∧ Below w.heap.size w w' := by
  obtain ⟨hma2, hia2⟩ := ha2
  by_cases hga2 : n2 ≤ 1048576
  rotate_left
  · go_enter Try.func7, Try.ntmps7
    go_wp2
    go_ret
    exact ⟨rfl, Below.refl _ _⟩
  have i0_a2 := hia2 hga2
  clear hia2 hma2
  have hcl0 := sentColumns_len x0 x1 z2
  have HS := fun (W : World) (b2 : Option Addr) (e2 : Nat) (k2 : Ints W b2 n2 e2 z2) => s_SentColumns x0 x1 b2 n2 e2 z2 W hx0 hx1 k2
  have HI := fun (W : World) (b2 : Option Addr) (e2 : Nat) (k2 : Ints W b2 n2 e2 z2) => i_SentColumns x0 x1 b2 n2 e2 z2 W hx0 hx1 k2
  simp only [RowsRetB] at HS HI
  obtain ⟨y0, hy0⟩ : ∃ y, y = (sentColumns x0 x1 z2).1 := ⟨_, rfl⟩
  obtain ⟨y1, hy1⟩ : ∃ y, y = (sentColumns x0 x1 z2).2 := ⟨_, rfl⟩
  simp only [← hy0, ← hy1] at HS HI
  rw [← hy0] at hcl0
  obtain ⟨hcl0, hct0⟩ := hcl0
  clear hy0 hy1
  have HHS := Lib.hid HS; have HHI := Lib.hid HI; clear HS HI
  go_enter Try.func7, Try.ntmps7
  go_wp2_with fail
  refine (l_conv a2 n2 c2 z2 _ i0_a2).mono ?_; rintro e wd1 ⟨t0a, t0c, rfl, t0, hb1⟩
  have C1 := hb1
  have sz1 := hb1.size
  have pt0 := t0.pl
  go_wp2_with fail
  refine (HHS.out _ t0a t0c t0.ints).mono ?_; rintro e wd2 ⟨w0a, w0c, rfl, w0, hb2⟩
  replace t0 := t0.below hb2
  have C2 := bel_trans C1 hb2
  have sz2 := hb2.size
  clear t0 pt0
  go_wp2_with fail
  refine (l_conv a2 n2 c2 z2 _ (i0_a2.below C2)).mono ?_; rintro e wd3 ⟨t1a, t1c, rfl, t1, hb3⟩
  replace w0 := w0.below hb3
  have C3 := bel_trans C2 hb3
  have sz3 := hb3.size
  have pt1 := t1.pl
  go_wp2_with fail
  refine (HHI.out _ t1a t1c t1.ints).mono ?_; rintro e wd4 ⟨g0a, g0c, rfl, g0, hb4⟩
  replace w0 := w0.below hb4
  replace t1 := t1.below hb4
  have C4 := bel_trans C3 hb4
  have sz4 := hb4.size
  go_wp2_with fail
  refine (l_eqIntSS _ _ _ _ _ y0 _ g0.rows w0.rows).mono ?_; rintro e wd5 ⟨rfl, hb5⟩
  replace w0 := w0.below hb5
  replace t1 := t1.below hb5
  replace g0 := g0.below hb5
  have C5 := bel_trans C4 hb5
  have sz5 := hb5.size
  go_wp2_with fail
  refine (l_conv a2 n2 c2 z2 _ (i0_a2.below C5)).mono ?_; rintro e wd6 ⟨t2a, t2c, rfl, t2, hb6⟩
  replace w0 := w0.below hb6
  replace t1 := t1.below hb6
  replace g0 := g0.below hb6
  have C6 := bel_trans C5 hb6
  have sz6 := hb6.size
  have pt2 := t2.pl
  go_wp2_with fail
  refine (l_eqIntS _ _ _ _ _ z2 _ t1.ints t2.ints).mono ?_; rintro e wd7 ⟨rfl, hb7⟩
  replace w0 := w0.below hb7
  replace t1 := t1.below hb7
  replace g0 := g0.below hb7
  replace t2 := t2.below hb7
  have C7 := bel_trans C6 hb7
  have sz7 := hb7.size
  clear t2 pt2
  go_wp2_with fail
  refine (l_mark _ _ _ _ z2 _ _ t1 (by omega) (by omega)).mono ?_; rintro e wd8 ⟨rfl, x2m, hb8⟩
  have sz8 := hb8.size
  have C8 := Below.onlyI C7 (hb8.onlyI pt1) (by omega)
  replace w0 := w0.onlyI (hb8.onlyI pt1) (by omega)
  replace g0 := g0.onlyI (hb8.onlyI pt1) (by omega)
  clear t1; have t1 := x2m; clear x2m
  go_wp2_with fail
  refine (l_eqIntSS _ _ _ _ _ y0 _ g0.rows w0.rows).mono ?_; rintro e wd9 ⟨rfl, hb9⟩
  replace w0 := w0.below hb9
  replace t1 := t1.below hb9
  replace g0 := g0.below hb9
  have C9 := bel_trans C8 hb9
  have sz9 := hb9.size
  go_wp2_with fail
  refine (l_markSS _ _ _ _ _ y0 _ _ g0 (by omega) (by omega)).mono ?_; rintro e wd10 ⟨rfl, g0m, hb10⟩
  have sz10 := hb10.size
  have C10 := Below.onlyI C9 hb10 (by omega)
  replace w0 := w0.onlyI hb10 (by omega)
  replace t1 := t1.onlyI hb10 pt1 (by omega)
  clear g0; have g0 := g0m; clear g0m
  go_wp2_with fail
  refine (l_heldSS _ _ _ y0 _ _ g0.rows rfl (by omega) (by omega)).mono ?_; rintro e wx ⟨rfl, hwx⟩; subst hwx
  go_wp2_with fail
  refine (l_conv a2 n2 c2 z2 _ (i0_a2.below C10)).mono ?_; rintro e wd11 ⟨t3a, t3c, rfl, t3, hb11⟩
  replace w0 := w0.below hb11
  replace t1 := t1.below hb11
  replace g0 := g0.below hb11
  have C11 := bel_trans C10 hb11
  have sz11 := hb11.size
  have pt3 := t3.pl
  go_wp2_with fail
  refine (HHI.out _ t3a t3c t3.ints).mono ?_; rintro e wd12 ⟨h0a, h0c, rfl, h0, hb12⟩
  replace w0 := w0.below hb12
  replace t1 := t1.below hb12
  replace g0 := g0.below hb12
  replace t3 := t3.below hb12
  have C12 := bel_trans C11 hb12
  have sz12 := hb12.size
  clear t3 pt3
  go_wp2_with fail
  refine (l_eqIntSS _ _ _ _ _ y0 _ h0.rows w0.rows).mono ?_; rintro e wd13 ⟨rfl, hb13⟩
  replace w0 := w0.below hb13
  replace t1 := t1.below hb13
  replace g0 := g0.below hb13
  replace h0 := h0.below hb13
  have C13 := bel_trans C12 hb13
  have sz13 := hb13.size
  go_wp2_with fail
  refine (l_heldSS _ _ _ y0 _ _ g0.rows rfl (by omega) (by omega)).mono ?_; rintro e wx ⟨rfl, hwx⟩; subst hwx
  go_wp2
  go_ret
  exact ⟨rfl, C13⟩


end Go.Proofs.Ytjgacdebmmigpaa
