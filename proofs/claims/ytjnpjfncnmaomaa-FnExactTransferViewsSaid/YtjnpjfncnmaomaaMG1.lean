/-
  The walk of the exact law on TransferViews.
-/
import Derived.Test.YtjnpjfncnmaomaaG3
import Derived.Test.YtjnpjfncnmaomaaG8
import Derived.Test.YtjnpjfncnmaomaaR
namespace Go.Proofs.Ytjnpjfncnmaomaa
open Go.RowKit
set_option linter.unusedVariables false
set_option linter.unusedSimpArgs false
set_option maxRecDepth 100000

set_option maxHeartbeats 8000000 in
theorem law_FnExactTransferViews (P Q G : Int) (x1 : Int) (a2 : Option Addr) (n2 c2 : Nat) (z2 : List Int) (w : World) (hP : Fits P) (hQ : Fits Q) (hG : Fits G) (hx1 : Fits x1) (ha2 : IntsIn w a2 n2 c2 z2) :
    Calls Try.prog 10 #[.agg #[.int .i64 P, .int .i64 Q, .int .i64 G], .int .i64 x1, .slice a2 n2 c2] w fun e w' => e = .returned (.bool true) ∧ Below w.heap.size w w' := by
  obtain ⟨hma2, hia2⟩ := ha2
  by_cases hga2 : n2 ≤ 1048576
  rotate_left
  · go_enter Try.func10, Try.ntmps10
    go_wp2
    go_ret
    exact ⟨rfl, bel_alloc _ _⟩
  have i0_a2 := hia2 hga2
  clear hia2 hma2
  have hcl0 := (transViews_len P Q G x1 z2).1
  have hcl1 := (transViews_len P Q G x1 z2).2
  have HS := fun (W : World) (b2 : Option Addr) (e2 : Nat) (k2 : Ints W b2 n2 e2 z2) => s_TransferViews P Q G x1 b2 n2 e2 z2 W hP hQ hG hx1 k2
  have HI := fun (W : World) (b2 : Option Addr) (e2 : Nat) (k2 : Ints W b2 n2 e2 z2) => i_TransferViews P Q G x1 b2 n2 e2 z2 W hP hQ hG hx1 k2
  obtain ⟨y0, hy0⟩ : ∃ y, y = (transViews P Q G x1 z2).1 := ⟨_, rfl⟩
  obtain ⟨y1, hy1⟩ : ∃ y, y = (transViews P Q G x1 z2).2.1 := ⟨_, rfl⟩
  obtain ⟨y2, hy2⟩ : ∃ y, y = (transViews P Q G x1 z2).2.2 := ⟨_, rfl⟩
  simp only [← hy0, ← hy1, ← hy2] at HS HI
  rw [← hy0] at hcl0
  rw [← hy1] at hcl1
  clear hy0 hy1 hy2
  have HHS := Lib.hid HS; have HHI := Lib.hid HI; clear HS HI
  go_enter Try.func10, Try.ntmps10
  go_wp2_with fail
  have B0 := bel_alloc w (.cells #[.int .i64 P, .int .i64 Q, .int .i64 G] 23)
  have gb0 := Gx.new (w := w) (P := P) (Q := Q) (G := G) (t := 23)
  replace i0_a2 := i0_a2.below B0
  generalize (w.alloc (.cells #[.int .i64 P, .int .i64 Q, .int .i64 G] 23)) = wd0 at *
  have kk := gb0; obtain ⟨k0, k1, k2⟩ := kk
  have szB := B0.size
  go_wp2_with fail
  refine (l_toGroup _ _ _ _).mono ?_; rintro e wd1 ⟨rfl, hb1⟩
  have C1 := hb1
  have sz1 := hb1.size
  clear k0 k1 k2; have kk := gb0.on C1; obtain ⟨k0, k1, k2⟩ := kk
  go_wp2_with fail
  refine (l_conv a2 n2 c2 z2 _ (i0_a2.below C1)).mono ?_; rintro e wd2 ⟨t0a, t0c, rfl, t0, hb2⟩
  have C2 := bel_trans C1 hb2
  have sz2 := hb2.size
  clear k0 k1 k2; have kk := gb0.on C2; obtain ⟨k0, k1, k2⟩ := kk
  have pt0 := t0.pl
  go_wp2_with fail
  refine (HHS.out _ t0a t0c t0.ints).mono ?_; rintro e wd3 ⟨w0a, w0c, w1a, w1c, rfl, w0, w1, ap3, hb3⟩
  replace t0 := t0.below hb3
  have C3 := bel_trans C2 hb3
  have sz3 := hb3.size
  clear k0 k1 k2; have kk := gb0.on C3; obtain ⟨k0, k1, k2⟩ := kk
  have pw0 := w0.pl
  have pw1 := w1.pl
  clear t0 pt0
  go_wp2_with fail
  refine (l_conv a2 n2 c2 z2 _ (i0_a2.below C3)).mono ?_; rintro e wd4 ⟨t1a, t1c, rfl, t1, hb4⟩
  replace w0 := w0.below hb4
  replace w1 := w1.below hb4
  have C4 := bel_trans C3 hb4
  have sz4 := hb4.size
  clear k0 k1 k2; have kk := gb0.on C4; obtain ⟨k0, k1, k2⟩ := kk
  have pt1 := t1.pl
  go_wp2_with fail
  refine (l_toGroup _ _ _ _).mono ?_; rintro e wd5 ⟨rfl, hb5⟩
  replace w0 := w0.below hb5
  replace w1 := w1.below hb5
  replace t1 := t1.below hb5
  have C5 := bel_trans C4 hb5
  have sz5 := hb5.size
  clear k0 k1 k2; have kk := gb0.on C5; obtain ⟨k0, k1, k2⟩ := kk
  go_wp2_with fail
  refine (HHI.out _ t1a t1c t1.ints).mono ?_; rintro e wd6 ⟨g0a, g0c, g1a, g1c, rfl, g0, g1, ap6, hb6⟩
  replace w0 := w0.below hb6
  replace w1 := w1.below hb6
  replace t1 := t1.below hb6
  have C6 := bel_trans C5 hb6
  have sz6 := hb6.size
  clear k0 k1 k2; have kk := gb0.on C6; obtain ⟨k0, k1, k2⟩ := kk
  have pg0 := g0.pl
  have pg1 := g1.pl
  go_wp2_with fail
  refine (l_eqIntS _ _ _ _ _ y0 _ g0.ints w0.ints).mono ?_; rintro e wd7 ⟨rfl, hb7⟩
  replace w0 := w0.below hb7
  replace w1 := w1.below hb7
  replace t1 := t1.below hb7
  replace g0 := g0.below hb7
  replace g1 := g1.below hb7
  have C7 := bel_trans C6 hb7
  have sz7 := hb7.size
  clear k0 k1 k2; have kk := gb0.on C7; obtain ⟨k0, k1, k2⟩ := kk
  go_wp2_with fail
  refine (l_eqIntS _ _ _ _ _ y1 _ g1.ints w1.ints).mono ?_; rintro e wd8 ⟨rfl, hb8⟩
  replace w0 := w0.below hb8
  replace w1 := w1.below hb8
  replace t1 := t1.below hb8
  replace g0 := g0.below hb8
  replace g1 := g1.below hb8
  have C8 := bel_trans C7 hb8
  have sz8 := hb8.size
  clear k0 k1 k2; have kk := gb0.on C8; obtain ⟨k0, k1, k2⟩ := kk
  go_wp2_with fail
  refine (l_conv a2 n2 c2 z2 _ (i0_a2.below C8)).mono ?_; rintro e wd9 ⟨t2a, t2c, rfl, t2, hb9⟩
  replace w0 := w0.below hb9
  replace w1 := w1.below hb9
  replace t1 := t1.below hb9
  replace g0 := g0.below hb9
  replace g1 := g1.below hb9
  have C9 := bel_trans C8 hb9
  have sz9 := hb9.size
  clear k0 k1 k2; have kk := gb0.on C9; obtain ⟨k0, k1, k2⟩ := kk
  have pt2 := t2.pl
  go_wp2_with fail
  refine (l_eqIntS _ _ _ _ _ z2 _ t1.ints t2.ints).mono ?_; rintro e wd10 ⟨rfl, hb10⟩
  replace w0 := w0.below hb10
  replace w1 := w1.below hb10
  replace t1 := t1.below hb10
  replace g0 := g0.below hb10
  replace g1 := g1.below hb10
  replace t2 := t2.below hb10
  have C10 := bel_trans C9 hb10
  have sz10 := hb10.size
  clear k0 k1 k2; have kk := gb0.on C10; obtain ⟨k0, k1, k2⟩ := kk
  clear t2 pt2
  go_wp2_with fail
  refine (l_mark _ _ _ _ z2 _ _ t1 (by omega) (by omega)).mono ?_; rintro e wd11 ⟨rfl, x2m, hb11⟩
  have sz11 := hb11.size
  have C11 := Below.onlyI C10 (hb11.onlyI pt1) (by omega)
  replace w0 := w0.onlyI (hb11.onlyI pt1) pw0 (by omega)
  replace w1 := w1.onlyI (hb11.onlyI pt1) pw1 (by omega)
  replace g0 := g0.onlyI (hb11.onlyI pt1) pg0 (by omega)
  replace g1 := g1.onlyI (hb11.onlyI pt1) pg1 (by omega)
  clear t1; have t1 := x2m; clear x2m
  clear k0 k1 k2; have kk := gb0.on C11; obtain ⟨k0, k1, k2⟩ := kk
  go_wp2_with fail
  refine (l_eqIntS _ _ _ _ _ y0 _ g0.ints w0.ints).mono ?_; rintro e wd12 ⟨rfl, hb12⟩
  replace w0 := w0.below hb12
  replace w1 := w1.below hb12
  replace t1 := t1.below hb12
  replace g0 := g0.below hb12
  replace g1 := g1.below hb12
  have C12 := bel_trans C11 hb12
  have sz12 := hb12.size
  clear k0 k1 k2; have kk := gb0.on C12; obtain ⟨k0, k1, k2⟩ := kk
  go_wp2_with fail
  refine (l_eqIntS _ _ _ _ _ y1 _ g1.ints w1.ints).mono ?_; rintro e wd13 ⟨rfl, hb13⟩
  replace w0 := w0.below hb13
  replace w1 := w1.below hb13
  replace t1 := t1.below hb13
  replace g0 := g0.below hb13
  replace g1 := g1.below hb13
  have C13 := bel_trans C12 hb13
  have sz13 := hb13.size
  clear k0 k1 k2; have kk := gb0.on C13; obtain ⟨k0, k1, k2⟩ := kk
  go_wp2_with fail
  refine (l_mark _ _ _ _ y0 _ _ g0 (by omega) (by omega)).mono ?_; rintro e wd14 ⟨rfl, g0m, hb14⟩
  have sz14 := hb14.size
  have C14 := Below.onlyI C13 (hb14.onlyI pg0) (by omega)
  replace w0 := w0.onlyI (hb14.onlyI pg0) pw0 (by omega)
  replace w1 := w1.onlyI (hb14.onlyI pg0) pw1 (by omega)
  replace t1 := t1.onlyI (hb14.onlyI pg0) pt1 (by omega)
  replace g1 := g1.onlyA hb14 ap6.symm
  clear g0; have g0 := g0m; clear g0m
  clear k0 k1 k2; have kk := gb0.on C14; obtain ⟨k0, k1, k2⟩ := kk
  go_wp2_with fail
  refine (l_mark _ _ _ _ y1 _ _ g1 (by omega) (by omega)).mono ?_; rintro e wd15 ⟨rfl, g1m, hb15⟩
  have sz15 := hb15.size
  have C15 := Below.onlyI C14 (hb15.onlyI pg1) (by omega)
  replace w0 := w0.onlyI (hb15.onlyI pg1) pw0 (by omega)
  replace w1 := w1.onlyI (hb15.onlyI pg1) pw1 (by omega)
  replace t1 := t1.onlyI (hb15.onlyI pg1) pt1 (by omega)
  replace g0 := g0.onlyA hb15 ap6
  clear g1; have g1 := g1m; clear g1m
  clear k0 k1 k2; have kk := gb0.on C15; obtain ⟨k0, k1, k2⟩ := kk
  go_wp2_with fail
  refine (l_heldIntS _ _ _ _ _ g0.ints (by omega) (by omega)).mono ?_; rintro e wx ⟨rfl, hwx⟩; subst hwx
  go_wp2_with fail
  refine (l_heldIntS _ _ _ _ _ g1.ints (by omega) (by omega)).mono ?_; rintro e wx ⟨rfl, hwx⟩; subst hwx
  go_wp2_with fail
  refine (l_toGroup _ _ _ _).mono ?_; rintro e wd16 ⟨rfl, hb16⟩
  replace w0 := w0.below hb16
  replace w1 := w1.below hb16
  replace t1 := t1.below hb16
  replace g0 := g0.below hb16
  replace g1 := g1.below hb16
  have C16 := bel_trans C15 hb16
  have sz16 := hb16.size
  clear k0 k1 k2; have kk := gb0.on C16; obtain ⟨k0, k1, k2⟩ := kk
  go_wp2_with fail
  refine (l_conv a2 n2 c2 z2 _ (i0_a2.below C16)).mono ?_; rintro e wd17 ⟨t3a, t3c, rfl, t3, hb17⟩
  replace w0 := w0.below hb17
  replace w1 := w1.below hb17
  replace t1 := t1.below hb17
  replace g0 := g0.below hb17
  replace g1 := g1.below hb17
  have C17 := bel_trans C16 hb17
  have sz17 := hb17.size
  clear k0 k1 k2; have kk := gb0.on C17; obtain ⟨k0, k1, k2⟩ := kk
  have pt3 := t3.pl
  go_wp2_with fail
  refine (HHI.out _ t3a t3c t3.ints).mono ?_; rintro e wd18 ⟨h0a, h0c, h1a, h1c, rfl, h0, h1, ap18, hb18⟩
  replace w0 := w0.below hb18
  replace w1 := w1.below hb18
  replace t1 := t1.below hb18
  replace g0 := g0.below hb18
  replace g1 := g1.below hb18
  replace t3 := t3.below hb18
  have C18 := bel_trans C17 hb18
  have sz18 := hb18.size
  clear k0 k1 k2; have kk := gb0.on C18; obtain ⟨k0, k1, k2⟩ := kk
  have ph0 := h0.pl
  have ph1 := h1.pl
  clear t3 pt3
  go_wp2_with fail
  refine (l_eqIntS _ _ _ _ _ y0 _ h0.ints w0.ints).mono ?_; rintro e wd19 ⟨rfl, hb19⟩
  replace w0 := w0.below hb19
  replace w1 := w1.below hb19
  replace t1 := t1.below hb19
  replace g0 := g0.below hb19
  replace g1 := g1.below hb19
  replace h0 := h0.below hb19
  replace h1 := h1.below hb19
  have C19 := bel_trans C18 hb19
  have sz19 := hb19.size
  clear k0 k1 k2; have kk := gb0.on C19; obtain ⟨k0, k1, k2⟩ := kk
  go_wp2_with fail
  refine (l_eqIntS _ _ _ _ _ y1 _ h1.ints w1.ints).mono ?_; rintro e wd20 ⟨rfl, hb20⟩
  replace w0 := w0.below hb20
  replace w1 := w1.below hb20
  replace t1 := t1.below hb20
  replace g0 := g0.below hb20
  replace g1 := g1.below hb20
  replace h0 := h0.below hb20
  replace h1 := h1.below hb20
  have C20 := bel_trans C19 hb20
  have sz20 := hb20.size
  clear k0 k1 k2; have kk := gb0.on C20; obtain ⟨k0, k1, k2⟩ := kk
  go_wp2_with fail
  refine (l_heldIntS _ _ _ _ _ g0.ints (by omega) (by omega)).mono ?_; rintro e wx ⟨rfl, hwx⟩; subst hwx
  go_wp2_with fail
  refine (l_heldIntS _ _ _ _ _ g1.ints (by omega) (by omega)).mono ?_; rintro e wx ⟨rfl, hwx⟩; subst hwx
  go_wp2
  go_ret
  exact ⟨rfl, bel_trans B0 C20⟩


end Go.Proofs.Ytjnpjfncnmaomaa
