/-
  The walk of the exact law on TransferAll.
-/
import Derived.Test.YtjnpjfncnmaomaaG3
import Derived.Test.YtjnpjfncnmaomaaG9
import Derived.Test.YtjnpjfncnmaomaaRW
namespace Go.Proofs.Ytjnpjfncnmaomaa
open Go.RowKit
set_option linter.unusedVariables false
set_option linter.unusedSimpArgs false
set_option maxRecDepth 100000

set_option maxHeartbeats 8000000 in
theorem law_FnExactTransferAll (P Q G : Int) (x1 : Int) (a2 : Option Addr) (n2 c2 : Nat) (z2 : List (List Int)) (a3 : Option Addr) (n3 c3 : Nat) (z3 : List Int) (w : World) (hP : Fits P) (hQ : Fits Q) (hG : Fits G) (hx1 : Fits x1) (ha2 : RowsIn w a2 n2 c2 z2) (ha3 : IntsIn w a3 n3 c3 z3) :
    Calls Try.prog 11 #[.agg #[.int .i64 P, .int .i64 Q, .int .i64 G], .int .i64 x1, .slice a2 n2 c2, .slice a3 n3 c3] w fun e w' => e = .returned (.bool true) ∧ Below w.heap.size w w' := by
  obtain ⟨hma3, hia3⟩ := ha3
  by_cases hga3 : n3 ≤ 1048576
  rotate_left
  · go_enter Try.func11, Try.ntmps11
    go_wp2
    go_ret
    exact ⟨rfl, bel_alloc _ _⟩
  have i0_a3 := hia3 hga3
  clear hia3 hma3
  have hcl0 := transAll_len P Q G x1 z2 z3
  have HS := fun (W : World) (b2 : Option Addr) (e2 : Nat) (k2 : Rws W b2 n2 e2 z2) (b3 : Option Addr) (e3 : Nat) (k3 : Ints W b3 n3 e3 z3) => s_TransferAll P Q G x1 b2 n2 e2 z2 b3 n3 e3 z3 W hP hQ hG hx1 k2 k3
  have HI := fun (W : World) (b2 : Option Addr) (e2 : Nat) (k2 : Rws W b2 n2 e2 z2) (b3 : Option Addr) (e3 : Nat) (k3 : Ints W b3 n3 e3 z3) => i_TransferAll P Q G x1 b2 n2 e2 z2 b3 n3 e3 z3 W hP hQ hG hx1 k2 k3
  obtain ⟨y0, hy0⟩ : ∃ y, y = (transAll P Q G x1 z2 z3).1 := ⟨_, rfl⟩
  obtain ⟨y1, hy1⟩ : ∃ y, y = (transAll P Q G x1 z2 z3).2 := ⟨_, rfl⟩
  simp only [← hy0, ← hy1] at HS HI
  rw [← hy0] at hcl0
  clear hy0 hy1
  have HHS := Lib.hid HS; have HHI := Lib.hid HI; clear HS HI
  go_enter Try.func11, Try.ntmps11
  go_wp2_with fail
  have B0 := bel_alloc w (.cells #[.int .i64 P, .int .i64 Q, .int .i64 G] 23)
  have gb0 := Gx.new (w := w) (P := P) (Q := Q) (G := G) (t := 23)
  replace ha2 := RowsIn.below ha2 B0
  replace i0_a3 := i0_a3.below B0
  generalize (w.alloc (.cells #[.int .i64 P, .int .i64 Q, .int .i64 G] 23)) = wd0 at *
  have kk := gb0; obtain ⟨k0, k1, k2⟩ := kk
  have szB := B0.size
  go_wp2_with fail
  refine (l_szIntSS a2 n2 c2 z2 _ _ ha2 (by omega) (by omega)).mono ?_; rintro e wx ⟨l1, rfl, hwx, hsa2⟩; subst hwx
  rcases hsa2 with rfl | ⟨hl1, hl1', i0_a2, ha2T, ha2N⟩
  · go_wp2
    go_ret
    exact ⟨rfl, B0⟩
  go_wp2_with fail
  refine (l_toGroup _ _ _ _).mono ?_; rintro e wd1 ⟨rfl, hb1⟩
  have C1 := hb1
  have sz1 := hb1.size
  clear k0 k1 k2; have kk := gb0.on C1; obtain ⟨k0, k1, k2⟩ := kk
  go_wp2_with fail
  refine (l_convSS a2 n2 c2 z2 _ (i0_a2.below C1) ha2N).mono ?_; rintro e wd2 ⟨t0a, t0c, rfl, t0, hb2⟩
  have C2 := bel_trans C1 hb2
  have sz2 := hb2.size
  clear k0 k1 k2; have kk := gb0.on C2; obtain ⟨k0, k1, k2⟩ := kk
  go_wp2_with fail
  refine (l_conv a3 n3 c3 z3 _ (i0_a3.below C2)).mono ?_; rintro e wd3 ⟨t1a, t1c, rfl, t1, hb3⟩
  replace t0 := t0.below hb3
  have C3 := bel_trans C2 hb3
  have sz3 := hb3.size
  clear k0 k1 k2; have kk := gb0.on C3; obtain ⟨k0, k1, k2⟩ := kk
  have pt1 := t1.pl
  go_wp2_with fail
  refine (HHS.out _ t0a t0c t0.rows t1a t1c t1.ints).mono ?_; rintro e wd4 ⟨w0a, w0c, rfl, w0, hb4⟩
  replace t0 := t0.below hb4
  replace t1 := t1.below hb4
  have C4 := bel_trans C3 hb4
  have sz4 := hb4.size
  clear k0 k1 k2; have kk := gb0.on C4; obtain ⟨k0, k1, k2⟩ := kk
  have pw0 := w0.pl
  clear t0
  clear t1 pt1
  go_wp2_with fail
  refine (l_convSS a2 n2 c2 z2 _ (i0_a2.below C4) ha2N).mono ?_; rintro e wd5 ⟨t2a, t2c, rfl, t2, hb5⟩
  replace w0 := w0.below hb5
  have C5 := bel_trans C4 hb5
  have sz5 := hb5.size
  clear k0 k1 k2; have kk := gb0.on C5; obtain ⟨k0, k1, k2⟩ := kk
  go_wp2_with fail
  refine (l_conv a3 n3 c3 z3 _ (i0_a3.below C5)).mono ?_; rintro e wd6 ⟨t3a, t3c, rfl, t3, hb6⟩
  replace w0 := w0.below hb6
  replace t2 := t2.below hb6
  have C6 := bel_trans C5 hb6
  have sz6 := hb6.size
  clear k0 k1 k2; have kk := gb0.on C6; obtain ⟨k0, k1, k2⟩ := kk
  have pt3 := t3.pl
  go_wp2_with fail
  refine (l_toGroup _ _ _ _).mono ?_; rintro e wd7 ⟨rfl, hb7⟩
  replace w0 := w0.below hb7
  replace t2 := t2.below hb7
  replace t3 := t3.below hb7
  have C7 := bel_trans C6 hb7
  have sz7 := hb7.size
  clear k0 k1 k2; have kk := gb0.on C7; obtain ⟨k0, k1, k2⟩ := kk
  go_wp2_with fail
  refine (HHI.out _ t2a t2c t2.rows t3a t3c t3.ints).mono ?_; rintro e wd8 ⟨g0a, g0c, rfl, g0, hb8⟩
  replace w0 := w0.below hb8
  replace t2 := t2.below hb8
  replace t3 := t3.below hb8
  have C8 := bel_trans C7 hb8
  have sz8 := hb8.size
  clear k0 k1 k2; have kk := gb0.on C8; obtain ⟨k0, k1, k2⟩ := kk
  have pg0 := g0.pl
  go_wp2_with fail
  refine (l_eqIntS _ _ _ _ _ y0 _ g0.ints w0.ints).mono ?_; rintro e wd9 ⟨rfl, hb9⟩
  replace w0 := w0.below hb9
  replace t2 := t2.below hb9
  replace t3 := t3.below hb9
  replace g0 := g0.below hb9
  have C9 := bel_trans C8 hb9
  have sz9 := hb9.size
  clear k0 k1 k2; have kk := gb0.on C9; obtain ⟨k0, k1, k2⟩ := kk
  go_wp2_with fail
  refine (l_convSS a2 n2 c2 z2 _ (i0_a2.below C9) ha2N).mono ?_; rintro e wd10 ⟨t4a, t4c, rfl, t4, hb10⟩
  replace w0 := w0.below hb10
  replace t2 := t2.below hb10
  replace t3 := t3.below hb10
  replace g0 := g0.below hb10
  have C10 := bel_trans C9 hb10
  have sz10 := hb10.size
  clear k0 k1 k2; have kk := gb0.on C10; obtain ⟨k0, k1, k2⟩ := kk
  go_wp2_with fail
  refine (l_eqIntSS _ _ _ _ _ z2 _ t2.rows t4.rows).mono ?_; rintro e wd11 ⟨rfl, hb11⟩
  replace w0 := w0.below hb11
  replace t2 := t2.below hb11
  replace t3 := t3.below hb11
  replace g0 := g0.below hb11
  replace t4 := t4.below hb11
  have C11 := bel_trans C10 hb11
  have sz11 := hb11.size
  clear k0 k1 k2; have kk := gb0.on C11; obtain ⟨k0, k1, k2⟩ := kk
  clear t4
  go_wp2_with fail
  refine (l_conv a3 n3 c3 z3 _ (i0_a3.below C11)).mono ?_; rintro e wd12 ⟨t5a, t5c, rfl, t5, hb12⟩
  replace w0 := w0.below hb12
  replace t2 := t2.below hb12
  replace t3 := t3.below hb12
  replace g0 := g0.below hb12
  have C12 := bel_trans C11 hb12
  have sz12 := hb12.size
  clear k0 k1 k2; have kk := gb0.on C12; obtain ⟨k0, k1, k2⟩ := kk
  have pt5 := t5.pl
  go_wp2_with fail
  refine (l_eqIntS _ _ _ _ _ z3 _ t3.ints t5.ints).mono ?_; rintro e wd13 ⟨rfl, hb13⟩
  replace w0 := w0.below hb13
  replace t2 := t2.below hb13
  replace t3 := t3.below hb13
  replace g0 := g0.below hb13
  replace t5 := t5.below hb13
  have C13 := bel_trans C12 hb13
  have sz13 := hb13.size
  clear k0 k1 k2; have kk := gb0.on C13; obtain ⟨k0, k1, k2⟩ := kk
  clear t5 pt5
  go_wp2_with fail
  refine (l_markSS _ _ _ _ _ z2 _ _ t2 (by omega) (by omega)).mono ?_; rintro e wd14 ⟨rfl, x2m, hb14⟩
  have sz14 := hb14.size
  have C14 := Below.onlyI C13 hb14 (by omega)
  replace w0 := w0.onlyI hb14 pw0 (by omega)
  replace t3 := t3.onlyI hb14 pt3 (by omega)
  replace g0 := g0.onlyI hb14 pg0 (by omega)
  clear t2; have t2 := x2m; clear x2m
  clear k0 k1 k2; have kk := gb0.on C14; obtain ⟨k0, k1, k2⟩ := kk
  go_wp2_with fail
  refine (l_mark _ _ _ _ z3 _ _ t3 (by omega) (by omega)).mono ?_; rintro e wd15 ⟨rfl, x3m, hb15⟩
  have sz15 := hb15.size
  have C15 := Below.onlyI C14 (hb15.onlyI pt3) (by omega)
  replace w0 := w0.onlyI (hb15.onlyI pt3) pw0 (by omega)
  replace t2 := t2.onlyI (hb15.onlyI pt3) (by omega)
  replace g0 := g0.onlyI (hb15.onlyI pt3) pg0 (by omega)
  clear t3; have t3 := x3m; clear x3m
  clear k0 k1 k2; have kk := gb0.on C15; obtain ⟨k0, k1, k2⟩ := kk
  go_wp2_with fail
  refine (l_eqIntS _ _ _ _ _ y0 _ g0.ints w0.ints).mono ?_; rintro e wd16 ⟨rfl, hb16⟩
  replace w0 := w0.below hb16
  replace t2 := t2.below hb16
  replace t3 := t3.below hb16
  replace g0 := g0.below hb16
  have C16 := bel_trans C15 hb16
  have sz16 := hb16.size
  clear k0 k1 k2; have kk := gb0.on C16; obtain ⟨k0, k1, k2⟩ := kk
  go_wp2_with fail
  refine (l_mark _ _ _ _ y0 _ _ g0 (by omega) (by omega)).mono ?_; rintro e wd17 ⟨rfl, g0m, hb17⟩
  have sz17 := hb17.size
  have C17 := Below.onlyI C16 (hb17.onlyI pg0) (by omega)
  replace w0 := w0.onlyI (hb17.onlyI pg0) pw0 (by omega)
  replace t2 := t2.onlyI (hb17.onlyI pg0) (by omega)
  replace t3 := t3.onlyI (hb17.onlyI pg0) pt3 (by omega)
  clear g0; have g0 := g0m; clear g0m
  clear k0 k1 k2; have kk := gb0.on C17; obtain ⟨k0, k1, k2⟩ := kk
  go_wp2_with fail
  refine (l_heldIntS _ _ _ _ _ g0.ints (by omega) (by omega)).mono ?_; rintro e wx ⟨rfl, hwx⟩; subst hwx
  go_wp2_with fail
  refine (l_toGroup _ _ _ _).mono ?_; rintro e wd18 ⟨rfl, hb18⟩
  replace w0 := w0.below hb18
  replace t2 := t2.below hb18
  replace t3 := t3.below hb18
  replace g0 := g0.below hb18
  have C18 := bel_trans C17 hb18
  have sz18 := hb18.size
  clear k0 k1 k2; have kk := gb0.on C18; obtain ⟨k0, k1, k2⟩ := kk
  go_wp2_with fail
  refine (l_convSS a2 n2 c2 z2 _ (i0_a2.below C18) ha2N).mono ?_; rintro e wd19 ⟨t6a, t6c, rfl, t6, hb19⟩
  replace w0 := w0.below hb19
  replace t2 := t2.below hb19
  replace t3 := t3.below hb19
  replace g0 := g0.below hb19
  have C19 := bel_trans C18 hb19
  have sz19 := hb19.size
  clear k0 k1 k2; have kk := gb0.on C19; obtain ⟨k0, k1, k2⟩ := kk
  go_wp2_with fail
  refine (l_conv a3 n3 c3 z3 _ (i0_a3.below C19)).mono ?_; rintro e wd20 ⟨t7a, t7c, rfl, t7, hb20⟩
  replace w0 := w0.below hb20
  replace t2 := t2.below hb20
  replace t3 := t3.below hb20
  replace g0 := g0.below hb20
  replace t6 := t6.below hb20
  have C20 := bel_trans C19 hb20
  have sz20 := hb20.size
  clear k0 k1 k2; have kk := gb0.on C20; obtain ⟨k0, k1, k2⟩ := kk
  have pt7 := t7.pl
  go_wp2_with fail
  refine (HHI.out _ t6a t6c t6.rows t7a t7c t7.ints).mono ?_; rintro e wd21 ⟨h0a, h0c, rfl, h0, hb21⟩
  replace w0 := w0.below hb21
  replace t2 := t2.below hb21
  replace t3 := t3.below hb21
  replace g0 := g0.below hb21
  replace t6 := t6.below hb21
  replace t7 := t7.below hb21
  have C21 := bel_trans C20 hb21
  have sz21 := hb21.size
  clear k0 k1 k2; have kk := gb0.on C21; obtain ⟨k0, k1, k2⟩ := kk
  have ph0 := h0.pl
  clear t6
  clear t7 pt7
  go_wp2_with fail
  refine (l_eqIntS _ _ _ _ _ y0 _ h0.ints w0.ints).mono ?_; rintro e wd22 ⟨rfl, hb22⟩
  replace w0 := w0.below hb22
  replace t2 := t2.below hb22
  replace t3 := t3.below hb22
  replace g0 := g0.below hb22
  replace h0 := h0.below hb22
  have C22 := bel_trans C21 hb22
  have sz22 := hb22.size
  clear k0 k1 k2; have kk := gb0.on C22; obtain ⟨k0, k1, k2⟩ := kk
  go_wp2_with fail
  refine (l_heldIntS _ _ _ _ _ g0.ints (by omega) (by omega)).mono ?_; rintro e wx ⟨rfl, hwx⟩; subst hwx
  go_wp2
  go_ret
  exact ⟨rfl, bel_trans B0 C22⟩


end Go.Proofs.Ytjnpjfncnmaomaa
