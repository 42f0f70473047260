/-
  The walks of the exact laws on SeedColumns and ReceiverRows.
-/
import Derived.Test.YtjgacdebmmigpaaE2
namespace Go.Proofs.Ytjgacdebmmigpaa
open Go.RowKit
set_option linter.unusedVariables false
set_option linter.unusedSimpArgs false

set_option maxHeartbeats 8000000 in
theorem law_FnExactSeedColumns (x0 : Int) (x1 : Int) (x2 : Int) (x3 : Int) (w : World) (hx0 : Fits x0) (hx1 : Fits x1) (hx2 : Fits x2) (hx3 : Fits x3) :
    Calls Try.prog 3 #[.int .i64 x0, .int .i64 x1, .int .i64 x2, .int .i64 x3] w fun e w' => e = .returned (.bool true) ∧ Below w.heap.size w w' := by
  have hcl0 := seedColumns_len x0 x1 x2 x3
  have HS := fun (W : World)  => s_SeedColumns x0 x1 x2 x3 W hx0 hx1 hx2 hx3
  have HI := fun (W : World)  => i_SeedColumns x0 x1 x2 x3 W hx0 hx1 hx2 hx3
  simp only [RowsRetB] at HS HI
  obtain ⟨y0, hy0⟩ : ∃ y, y = (seedColumns x0 x1 x2 x3).1 := ⟨_, rfl⟩
  obtain ⟨y1, hy1⟩ : ∃ y, y = (seedColumns x0 x1 x2 x3).2 := ⟨_, rfl⟩
  simp only [← hy0, ← hy1] at HS HI
  rw [← hy0] at hcl0
  obtain ⟨hcl0, hct0⟩ := hcl0
  clear hy0 hy1
  have HHS := Lib.hid HS; have HHI := Lib.hid HI; clear HS HI
  go_enter Try.func3, Try.ntmps3
  go_wp2_with fail
  refine (HHS.out _ ).mono ?_; rintro e wd1 ⟨w0a, w0c, rfl, w0, hb1⟩
  have C1 := hb1
  have sz1 := hb1.size
  go_wp2_with fail
  refine (HHI.out _ ).mono ?_; rintro e wd2 ⟨g0a, g0c, rfl, g0, hb2⟩
  replace w0 := w0.below hb2
  have C2 := bel_trans C1 hb2
  have sz2 := hb2.size
  go_wp2_with fail
  refine (l_eqIntSS _ _ _ _ _ y0 _ g0.rows w0.rows).mono ?_; rintro e wd3 ⟨rfl, hb3⟩
  replace w0 := w0.below hb3
  replace g0 := g0.below hb3
  have C3 := bel_trans C2 hb3
  have sz3 := hb3.size
  go_wp2_with fail
  refine (l_markSS _ _ _ _ _ y0 _ _ g0 (by omega) (by omega)).mono ?_; rintro e wd4 ⟨rfl, g0m, hb4⟩
  have sz4 := hb4.size
  have C4 := Below.onlyI C3 hb4 (by omega)
  replace w0 := w0.onlyI hb4 (by omega)
  clear g0; have g0 := g0m; clear g0m
  go_wp2_with fail
  refine (l_heldSS _ _ _ y0 _ _ g0.rows rfl (by omega) (by omega)).mono ?_; rintro e wx ⟨rfl, hwx⟩; subst hwx
  go_wp2_with fail
  refine (HHI.out _ ).mono ?_; rintro e wd5 ⟨h0a, h0c, rfl, h0, hb5⟩
  replace w0 := w0.below hb5
  replace g0 := g0.below hb5
  have C5 := bel_trans C4 hb5
  have sz5 := hb5.size
  go_wp2_with fail
  refine (l_eqIntSS _ _ _ _ _ y0 _ h0.rows w0.rows).mono ?_; rintro e wd6 ⟨rfl, hb6⟩
  replace w0 := w0.below hb6
  replace g0 := g0.below hb6
  replace h0 := h0.below hb6
  have C6 := bel_trans C5 hb6
  have sz6 := hb6.size
  go_wp2_with fail
  refine (l_heldSS _ _ _ y0 _ _ g0.rows rfl (by omega) (by omega)).mono ?_; rintro e wx ⟨rfl, hwx⟩; subst hwx
  go_wp2
  go_ret
  exact ⟨rfl, C6⟩

set_option maxHeartbeats 8000000 in
theorem law_FnExactReceiverRows (x0 : Int) (x1 : Int) (x2 : Int) (w : World) (hx0 : Fits x0) (hx1 : Fits x1) (hx2 : Fits x2) :
    Calls Try.prog 4 #[.int .i64 x0, .int .i64 x1, .int .i64 x2] w fun e w' => e = .returned (.bool true) ∧ Below w.heap.size w w' := by
  have hcl0 := receiverRows_len x0 x1 x2
  have HS := fun (W : World)  => s_ReceiverRows x0 x1 x2 W hx0 hx1 hx2
  have HI := fun (W : World)  => i_ReceiverRows x0 x1 x2 W hx0 hx1 hx2
  simp only [RowsRetB] at HS HI
  obtain ⟨y0, hy0⟩ : ∃ y, y = (receiverRows x0 x1 x2).1 := ⟨_, rfl⟩
  obtain ⟨y1, hy1⟩ : ∃ y, y = (receiverRows x0 x1 x2).2 := ⟨_, rfl⟩
  simp only [← hy0, ← hy1] at HS HI
  rw [← hy0] at hcl0
  obtain ⟨hcl0, hct0⟩ := hcl0
  clear hy0 hy1
  have HHS := Lib.hid HS; have HHI := Lib.hid HI; clear HS HI
  go_enter Try.func4, Try.ntmps4
  go_wp2_with fail
  refine (HHS.out _ ).mono ?_; rintro e wd1 ⟨w0a, w0c, rfl, w0, hb1⟩
  have C1 := hb1
  have sz1 := hb1.size
  go_wp2_with fail
  refine (HHI.out _ ).mono ?_; rintro e wd2 ⟨g0a, g0c, rfl, g0, hb2⟩
  replace w0 := w0.below hb2
  have C2 := bel_trans C1 hb2
  have sz2 := hb2.size
  go_wp2_with fail
  refine (l_eqIntSS _ _ _ _ _ y0 _ g0.rows w0.rows).mono ?_; rintro e wd3 ⟨rfl, hb3⟩
  replace w0 := w0.below hb3
  replace g0 := g0.below hb3
  have C3 := bel_trans C2 hb3
  have sz3 := hb3.size
  go_wp2_with fail
  refine (l_markSS _ _ _ _ _ y0 _ _ g0 (by omega) (by omega)).mono ?_; rintro e wd4 ⟨rfl, g0m, hb4⟩
  have sz4 := hb4.size
  have C4 := Below.onlyI C3 hb4 (by omega)
  replace w0 := w0.onlyI hb4 (by omega)
  clear g0; have g0 := g0m; clear g0m
  go_wp2_with fail
  refine (l_heldSS _ _ _ y0 _ _ g0.rows rfl (by omega) (by omega)).mono ?_; rintro e wx ⟨rfl, hwx⟩; subst hwx
  go_wp2_with fail
  refine (HHI.out _ ).mono ?_; rintro e wd5 ⟨h0a, h0c, rfl, h0, hb5⟩
  replace w0 := w0.below hb5
  replace g0 := g0.below hb5
  have C5 := bel_trans C4 hb5
  have sz5 := hb5.size
  go_wp2_with fail
  refine (l_eqIntSS _ _ _ _ _ y0 _ h0.rows w0.rows).mono ?_; rintro e wd6 ⟨rfl, hb6⟩
  replace w0 := w0.below hb6
  replace g0 := g0.below hb6
  replace h0 := h0.below hb6
  have C6 := bel_trans C5 hb6
  have sz6 := hb6.size
  go_wp2_with fail
  refine (l_heldSS _ _ _ y0 _ _ g0.rows rfl (by omega) (by omega)).mono ?_; rintro e wx ⟨rfl, hwx⟩; subst hwx
  go_wp2
  go_ret
  exact ⟨rfl, C6⟩


end Go.Proofs.Ytjgacdebmmigpaa
