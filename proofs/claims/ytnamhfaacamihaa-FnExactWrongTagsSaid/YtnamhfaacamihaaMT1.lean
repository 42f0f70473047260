/-
  The walk of the exact law on WrongTags.
-/
import Derived.Test.YtnamhfaacamihaaTV
namespace Go.Proofs.Ytnamhfaacamihaa
open Go.RowKit
set_option linter.unusedVariables false
set_option linter.unusedSimpArgs false
set_option maxRecDepth 100000

set_option maxHeartbeats 8000000 in
theorem law_FnExactWrongTags (x0 : Int) (x1 : Int) (a2 : Option Addr) (n2 c2 : Nat) (z2 : List Int) (a3 : Option Addr) (n3 c3 : Nat) (z3 : List Int) (w : World) (hx0 : Fits x0) (hx1 : Fits x1) (ha2 : IntsIn w a2 n2 c2 z2) (ha3 : RecsIn 2 w a3 n3 c3 z3) :
    Calls Try.prog 12 #[.int .i64 x0, .int .i64 x1, .slice a2 n2 c2, .slice a3 n3 c3] w fun e w' => e = .returned (.bool true) ∧ Below w.heap.size w w' := by
  obtain ⟨hma2, hia2⟩ := ha2
  by_cases hga2 : n2 ≤ 1048576
  rotate_left
  · go_enter Try.func12, Try.ntmps12
    go_wp2
    go_ret
    exact ⟨rfl, Below.refl _ _⟩
  have i0_a2 := hia2 hga2
  clear hia2 hma2
  have hcl0 := wrongTags_len x0 x1 z2 z3
  have HS := fun (W : World) (b2 : Option Addr) (e2 : Nat) (k2 : Ints W b2 n2 e2 z2) (b3 : Option Addr) (e3 : Nat) (k3 : Recs 2 W b3 n3 e3 z3) => s_WrongTags x0 x1 b2 n2 e2 z2 b3 n3 e3 z3 W hx0 hx1 k2 k3
  have HI := fun (W : World) (b2 : Option Addr) (e2 : Nat) (k2 : Ints W b2 n2 e2 z2) (b3 : Option Addr) (e3 : Nat) (k3 : Recs 2 W b3 n3 e3 z3) => i_WrongTags x0 x1 b2 n2 e2 z2 b3 n3 e3 z3 W hx0 hx1 k2 k3
  obtain ⟨y0, hy0⟩ : ∃ y, y = (wrongTags x0 x1 z2 z3).1 := ⟨_, rfl⟩
  obtain ⟨y1, hy1⟩ : ∃ y, y = (wrongTags x0 x1 z2 z3).2 := ⟨_, rfl⟩
  simp only [← hy0, ← hy1] at HS HI
  rw [← hy0] at hcl0
  clear hy0 hy1
  have HHS := Lib.hid HS; have HHI := Lib.hid HI; clear HS HI
  go_enter Try.func12, Try.ntmps12
  go_wp2_with fail
  refine (l_szTaggedS a3 n3 c3 z3 _ _ ha3 (by omega) (by omega)).mono ?_; rintro e wx ⟨l1, rfl, hwx, hsa3⟩; subst hwx
  rcases hsa3 with rfl | ⟨hl1, hl1', i0_a3, ha3T, ha3N⟩
  · go_wp2
    go_ret
    exact ⟨rfl, Below.refl _ _⟩
  go_wp2_with fail
  refine (l_conv a2 n2 c2 z2 _ i0_a2).mono ?_; rintro e wd1 ⟨t0a, t0c, rfl, t0, hb1⟩
  have C1 := hb1
  have sz1 := hb1.size
  have pt0 := t0.pl
  go_wp2_with fail
  refine (l_convP a3 n3 c3 z3 _ (i0_a3.below C1) ha3N).mono ?_; rintro e wd2 ⟨t1a, t1c, rfl, t1, hb2⟩
  replace t0 := t0.below hb2
  have C2 := bel_trans C1 hb2
  have sz2 := hb2.size
  have pt1 := t1.pl
  go_wp2_with fail
  refine (HHS.out _ t0a t0c t0.ints t1a t1c t1.recs).mono ?_; rintro e wd3 ⟨w0a, w0c, rfl, w0, hb3⟩
  replace t0 := t0.below hb3
  replace t1 := t1.below hb3
  have C3 := bel_trans C2 hb3
  have sz3 := hb3.size
  have pw0 := w0.pl
  clear t0 pt0
  clear t1 pt1
  go_wp2_with fail
  refine (l_conv a2 n2 c2 z2 _ (i0_a2.below C3)).mono ?_; rintro e wd4 ⟨t2a, t2c, rfl, t2, hb4⟩
  replace w0 := w0.below hb4
  have C4 := bel_trans C3 hb4
  have sz4 := hb4.size
  have pt2 := t2.pl
  go_wp2_with fail
  refine (l_convP a3 n3 c3 z3 _ (i0_a3.below C4) ha3N).mono ?_; rintro e wd5 ⟨t3a, t3c, rfl, t3, hb5⟩
  replace w0 := w0.below hb5
  replace t2 := t2.below hb5
  have C5 := bel_trans C4 hb5
  have sz5 := hb5.size
  have pt3 := t3.pl
  go_wp2_with fail
  refine (HHI.out _ t2a t2c t2.ints t3a t3c t3.recs).mono ?_; rintro e wd6 ⟨g0a, g0c, rfl, g0, hb6⟩
  replace w0 := w0.below hb6
  replace t2 := t2.below hb6
  replace t3 := t3.below hb6
  have C6 := bel_trans C5 hb6
  have sz6 := hb6.size
  have pg0 := g0.pl
  go_wp2_with fail
  refine (l_eqIntS _ _ _ _ _ y0 _ g0.ints w0.ints).mono ?_; rintro e wd7 ⟨rfl, hb7⟩
  replace w0 := w0.below hb7
  replace t2 := t2.below hb7
  replace t3 := t3.below hb7
  replace g0 := g0.below hb7
  have C7 := bel_trans C6 hb7
  have sz7 := hb7.size
  go_wp2_with fail
  refine (l_conv a2 n2 c2 z2 _ (i0_a2.below C7)).mono ?_; rintro e wd8 ⟨t4a, t4c, rfl, t4, hb8⟩
  replace w0 := w0.below hb8
  replace t2 := t2.below hb8
  replace t3 := t3.below hb8
  replace g0 := g0.below hb8
  have C8 := bel_trans C7 hb8
  have sz8 := hb8.size
  have pt4 := t4.pl
  go_wp2_with fail
  refine (l_eqIntS _ _ _ _ _ z2 _ t2.ints t4.ints).mono ?_; rintro e wd9 ⟨rfl, hb9⟩
  replace w0 := w0.below hb9
  replace t2 := t2.below hb9
  replace t3 := t3.below hb9
  replace g0 := g0.below hb9
  replace t4 := t4.below hb9
  have C9 := bel_trans C8 hb9
  have sz9 := hb9.size
  clear t4 pt4
  go_wp2_with fail
  refine (l_convP a3 n3 c3 z3 _ (i0_a3.below C9) ha3N).mono ?_; rintro e wd10 ⟨t5a, t5c, rfl, t5, hb10⟩
  replace w0 := w0.below hb10
  replace t2 := t2.below hb10
  replace t3 := t3.below hb10
  replace g0 := g0.below hb10
  have C10 := bel_trans C9 hb10
  have sz10 := hb10.size
  have pt5 := t5.pl
  go_wp2_with fail
  refine (l_eqP _ _ _ _ _ z3 _ t3.recs t5.recs).mono ?_; rintro e wd11 ⟨rfl, hb11⟩
  replace w0 := w0.below hb11
  replace t2 := t2.below hb11
  replace t3 := t3.below hb11
  replace g0 := g0.below hb11
  replace t5 := t5.below hb11
  have C11 := bel_trans C10 hb11
  have sz11 := hb11.size
  clear t5 pt5
  go_wp2_with fail
  refine (l_mark _ _ _ _ z2 _ _ t2 (by omega) (by omega)).mono ?_; rintro e wd12 ⟨rfl, x2m, hb12⟩
  have sz12 := hb12.size
  have C12 := Below.onlyI C11 (hb12.onlyI pt2) (by omega)
  replace w0 := w0.onlyI (hb12.onlyI pt2) pw0 (by omega)
  replace t3 := t3.onlyI (hb12.onlyI pt2) pt3 (by omega)
  replace g0 := g0.onlyI (hb12.onlyI pt2) pg0 (by omega)
  clear t2; have t2 := x2m; clear x2m
  go_wp2_with fail
  refine (l_markP _ _ _ _ z3 _ _ t3 (by omega) (by omega)).mono ?_; rintro e wd13 ⟨rfl, x3m, hb13⟩
  have sz13 := hb13.size
  have C13 := Below.onlyI C12 (hb13.onlyI pt3) (by omega)
  replace w0 := w0.onlyI (hb13.onlyI pt3) pw0 (by omega)
  replace t2 := t2.onlyI (hb13.onlyI pt3) pt2 (by omega)
  replace g0 := g0.onlyI (hb13.onlyI pt3) pg0 (by omega)
  clear t3; have t3 := x3m; clear x3m
  go_wp2_with fail
  refine (l_eqIntS _ _ _ _ _ y0 _ g0.ints w0.ints).mono ?_; rintro e wd14 ⟨rfl, hb14⟩
  replace w0 := w0.below hb14
  replace t2 := t2.below hb14
  replace t3 := t3.below hb14
  replace g0 := g0.below hb14
  have C14 := bel_trans C13 hb14
  have sz14 := hb14.size
  go_wp2_with fail
  refine (l_mark _ _ _ _ y0 _ _ g0 (by omega) (by omega)).mono ?_; rintro e wd15 ⟨rfl, g0m, hb15⟩
  have sz15 := hb15.size
  have C15 := Below.onlyI C14 (hb15.onlyI pg0) (by omega)
  replace w0 := w0.onlyI (hb15.onlyI pg0) pw0 (by omega)
  replace t2 := t2.onlyI (hb15.onlyI pg0) pt2 (by omega)
  replace t3 := t3.onlyI (hb15.onlyI pg0) pt3 (by omega)
  clear g0; have g0 := g0m; clear g0m
  go_wp2_with fail
  refine (l_heldIntS _ _ _ _ _ g0.ints (by omega) (by omega)).mono ?_; rintro e wx ⟨rfl, hwx⟩; subst hwx
  go_wp2_with fail
  refine (l_conv a2 n2 c2 z2 _ (i0_a2.below C15)).mono ?_; rintro e wd16 ⟨t6a, t6c, rfl, t6, hb16⟩
  replace w0 := w0.below hb16
  replace t2 := t2.below hb16
  replace t3 := t3.below hb16
  replace g0 := g0.below hb16
  have C16 := bel_trans C15 hb16
  have sz16 := hb16.size
  have pt6 := t6.pl
  go_wp2_with fail
  refine (l_convP a3 n3 c3 z3 _ (i0_a3.below C16) ha3N).mono ?_; rintro e wd17 ⟨t7a, t7c, rfl, t7, hb17⟩
  replace w0 := w0.below hb17
  replace t2 := t2.below hb17
  replace t3 := t3.below hb17
  replace g0 := g0.below hb17
  replace t6 := t6.below hb17
  have C17 := bel_trans C16 hb17
  have sz17 := hb17.size
  have pt7 := t7.pl
  go_wp2_with fail
  refine (HHI.out _ t6a t6c t6.ints t7a t7c t7.recs).mono ?_; rintro e wd18 ⟨h0a, h0c, rfl, h0, hb18⟩
  replace w0 := w0.below hb18
  replace t2 := t2.below hb18
  replace t3 := t3.below hb18
  replace g0 := g0.below hb18
  replace t6 := t6.below hb18
  replace t7 := t7.below hb18
  have C18 := bel_trans C17 hb18
  have sz18 := hb18.size
  have ph0 := h0.pl
  clear t6 pt6
  clear t7 pt7
  go_wp2_with fail
  refine (l_eqIntS _ _ _ _ _ y0 _ h0.ints w0.ints).mono ?_; rintro e wd19 ⟨rfl, hb19⟩
  replace w0 := w0.below hb19
  replace t2 := t2.below hb19
  replace t3 := t3.below hb19
  replace g0 := g0.below hb19
  replace h0 := h0.below hb19
  have C19 := bel_trans C18 hb19
  have sz19 := hb19.size
  go_wp2_with fail
  refine (l_heldIntS _ _ _ _ _ g0.ints (by omega) (by omega)).mono ?_; rintro e wx ⟨rfl, hwx⟩; subst hwx
  go_wp2
  go_ret
  exact ⟨rfl, C19⟩


end Go.Proofs.Ytnamhfaacamihaa
