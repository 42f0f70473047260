/-
  takeMessages: the exact law from the two walks
-/
import Derived.Test.YtjgacdebmmigpaaE11
namespace Go.Proofs.Ytjgacdebmmigpaa
open Go.RowKit
set_option linter.unusedVariables false
set_option linter.unusedSimpArgs false
set_option maxRecDepth 100000

set_option maxHeartbeats 8000000 in
theorem law_FnExactTakeMessages (a0 : Option Addr) (n0 c0 : Nat) (z0 : List Int) (a1 : Option Addr) (n1 c1 : Nat) (z1 : List (List Int)) (a2 : Option Addr) (n2 c2 : Nat) (z2 : List (List Int)) (w : World) (ha0 : IntsIn w a0 n0 c0 z0) (ha1 : RowsIn w a1 n1 c1 z1) (ha2 : RowsIn w a2 n2 c2 z2) :
    Calls Try.prog 6 #[.slice a0 n0 c0, .slice a1 n1 c1, .slice a2 n2 c2] w fun e w' => e = .returned (.bool true) ∧ Below w.heap.size w w' := by
  obtain ⟨hma0, hia0⟩ := ha0
  by_cases hga0 : n0 ≤ 1048576
  rotate_left
  · go_enter Try.func6, Try.ntmps6
    go_wp2
    go_ret
    exact ⟨rfl, Below.refl _ _⟩
  have i0_a0 := hia0 hga0
  clear hia0 hma0
  have hcl0 := takeMessages_len z0 z1 z2
  have HS := fun (W : World) (b0 : Option Addr) (e0 : Nat) (k0 : Ints W b0 n0 e0 z0) (b1 : Option Addr) (e1 : Nat) (k1 : Rws W b1 n1 e1 z1) (b2 : Option Addr) (e2 : Nat) (k2 : Rws W b2 n2 e2 z2) => s_TakeMessages b0 n0 e0 z0 b1 n1 e1 z1 b2 n2 e2 z2 W k0 k1 k2
  have HI := fun (W : World) (b0 : Option Addr) (e0 : Nat) (k0 : Ints W b0 n0 e0 z0) (b1 : Option Addr) (e1 : Nat) (k1 : Rws W b1 n1 e1 z1) (b2 : Option Addr) (e2 : Nat) (k2 : Rws W b2 n2 e2 z2) => i_TakeMessages b0 n0 e0 z0 b1 n1 e1 z1 b2 n2 e2 z2 W k0 k1 k2
  simp only [ListRetB] at HS HI
  obtain ⟨y0, hy0⟩ : ∃ y, y = (takeMessages z0 z1 z2).1 := ⟨_, rfl⟩
  obtain ⟨y1, hy1⟩ : ∃ y, y = (takeMessages z0 z1 z2).2 := ⟨_, rfl⟩
  simp only [← hy0, ← hy1] at HS HI
  rw [← hy0] at hcl0
  clear hy0 hy1
  have HHS := Lib.hid HS; have HHI := Lib.hid HI; clear HS HI
  go_enter Try.func6, Try.ntmps6
  go_wp2_with fail
  refine (l_szIntSS a1 n1 c1 z1 _ _ ha1 (by omega) (by omega)).mono ?_; rintro e wx ⟨l1, rfl, hwx, hsa1⟩; subst hwx
  rcases hsa1 with rfl | ⟨hl1, hl1', i0_a1, ha1T, ha1N⟩
  · go_wp2
    go_ret
    exact ⟨rfl, Below.refl _ _⟩
  go_wp2_with fail
  refine (l_szIntSS a2 n2 c2 z2 _ _ ha2 (by omega) (by omega)).mono ?_; rintro e wx ⟨l2, rfl, hwx, hsa2⟩; subst hwx
  rcases hsa2 with rfl | ⟨hl2, hl2', i0_a2, ha2T, ha2N⟩
  · go_wp2
    go_ret
    exact ⟨rfl, Below.refl _ _⟩
  go_wp2_with fail
  refine (l_conv a0 n0 c0 z0 _ i0_a0).mono ?_; rintro e wd1 ⟨t0a, t0c, rfl, t0, hb1⟩
  have C1 := hb1
  have sz1 := hb1.size
  have pt0 := t0.pl
  go_wp2_with fail
  refine (l_convSS a1 n1 c1 z1 _ (i0_a1.below C1) ha1N).mono ?_; rintro e wd2 ⟨t1a, t1c, rfl, t1, hb2⟩
  replace t0 := t0.below hb2
  have C2 := bel_trans C1 hb2
  have sz2 := hb2.size
  go_wp2_with fail
  refine (l_convSS a2 n2 c2 z2 _ (i0_a2.below C2) ha2N).mono ?_; rintro e wd3 ⟨t2a, t2c, rfl, t2, hb3⟩
  replace t0 := t0.below hb3
  replace t1 := t1.below hb3
  have C3 := bel_trans C2 hb3
  have sz3 := hb3.size
  go_wp2_with fail
  refine (HHS.out _ t0a t0c t0.ints t1a t1c t1.rows t2a t2c t2.rows).mono ?_; rintro e wd4 ⟨w0a, w0c, rfl, w0, hb4⟩
  replace t0 := t0.below hb4
  replace t1 := t1.below hb4
  replace t2 := t2.below hb4
  have C4 := bel_trans C3 hb4
  have sz4 := hb4.size
  have pw0 := w0.pl
  clear t0 pt0
  clear t1
  clear t2
  go_wp2_with fail
  refine (l_conv a0 n0 c0 z0 _ (i0_a0.below C4)).mono ?_; rintro e wd5 ⟨t3a, t3c, rfl, t3, hb5⟩
  replace w0 := w0.below hb5
  have C5 := bel_trans C4 hb5
  have sz5 := hb5.size
  have pt3 := t3.pl
  go_wp2_with fail
  refine (l_convSS a1 n1 c1 z1 _ (i0_a1.below C5) ha1N).mono ?_; rintro e wd6 ⟨t4a, t4c, rfl, t4, hb6⟩
  replace w0 := w0.below hb6
  replace t3 := t3.below hb6
  have C6 := bel_trans C5 hb6
  have sz6 := hb6.size
  go_wp2_with fail
  refine (l_convSS a2 n2 c2 z2 _ (i0_a2.below C6) ha2N).mono ?_; rintro e wd7 ⟨t5a, t5c, rfl, t5, hb7⟩
  replace w0 := w0.below hb7
  replace t3 := t3.below hb7
  replace t4 := t4.below hb7
  have C7 := bel_trans C6 hb7
  have sz7 := hb7.size
  go_wp2_with fail
  refine (HHI.out _ t3a t3c t3.ints t4a t4c t4.rows t5a t5c t5.rows).mono ?_; rintro e wd8 ⟨g0a, g0c, rfl, g0, hb8⟩
  replace w0 := w0.below hb8
  replace t3 := t3.below hb8
  replace t4 := t4.below hb8
  replace t5 := t5.below hb8
  have C8 := bel_trans C7 hb8
  have sz8 := hb8.size
  have pg0 := g0.pl
  go_wp2_with fail
  refine (l_eqIntS _ _ _ _ _ y0 _ g0.ints w0.ints).mono ?_; rintro e wd9 ⟨rfl, hb9⟩
  replace w0 := w0.below hb9
  replace t3 := t3.below hb9
  replace t4 := t4.below hb9
  replace t5 := t5.below hb9
  replace g0 := g0.below hb9
  have C9 := bel_trans C8 hb9
  have sz9 := hb9.size
  go_wp2_with fail
  refine (l_conv a0 n0 c0 z0 _ (i0_a0.below C9)).mono ?_; rintro e wd10 ⟨t6a, t6c, rfl, t6, hb10⟩
  replace w0 := w0.below hb10
  replace t3 := t3.below hb10
  replace t4 := t4.below hb10
  replace t5 := t5.below hb10
  replace g0 := g0.below hb10
  have C10 := bel_trans C9 hb10
  have sz10 := hb10.size
  have pt6 := t6.pl
  go_wp2_with fail
  refine (l_eqIntS _ _ _ _ _ z0 _ t3.ints t6.ints).mono ?_; rintro e wd11 ⟨rfl, hb11⟩
  replace w0 := w0.below hb11
  replace t3 := t3.below hb11
  replace t4 := t4.below hb11
  replace t5 := t5.below hb11
  replace g0 := g0.below hb11
  replace t6 := t6.below hb11
  have C11 := bel_trans C10 hb11
  have sz11 := hb11.size
  clear t6 pt6
  go_wp2_with fail
  refine (l_convSS a1 n1 c1 z1 _ (i0_a1.below C11) ha1N).mono ?_; rintro e wd12 ⟨t7a, t7c, rfl, t7, hb12⟩
  replace w0 := w0.below hb12
  replace t3 := t3.below hb12
  replace t4 := t4.below hb12
  replace t5 := t5.below hb12
  replace g0 := g0.below hb12
  have C12 := bel_trans C11 hb12
  have sz12 := hb12.size
  go_wp2_with fail
  refine (l_eqIntSS _ _ _ _ _ z1 _ t4.rows t7.rows).mono ?_; rintro e wd13 ⟨rfl, hb13⟩
  replace w0 := w0.below hb13
  replace t3 := t3.below hb13
  replace t4 := t4.below hb13
  replace t5 := t5.below hb13
  replace g0 := g0.below hb13
  replace t7 := t7.below hb13
  have C13 := bel_trans C12 hb13
  have sz13 := hb13.size
  clear t7
  go_wp2_with fail
  refine (l_convSS a2 n2 c2 z2 _ (i0_a2.below C13) ha2N).mono ?_; rintro e wd14 ⟨t8a, t8c, rfl, t8, hb14⟩
  replace w0 := w0.below hb14
  replace t3 := t3.below hb14
  replace t4 := t4.below hb14
  replace t5 := t5.below hb14
  replace g0 := g0.below hb14
  have C14 := bel_trans C13 hb14
  have sz14 := hb14.size
  go_wp2_with fail
  refine (l_eqIntSS _ _ _ _ _ z2 _ t5.rows t8.rows).mono ?_; rintro e wd15 ⟨rfl, hb15⟩
  replace w0 := w0.below hb15
  replace t3 := t3.below hb15
  replace t4 := t4.below hb15
  replace t5 := t5.below hb15
  replace g0 := g0.below hb15
  replace t8 := t8.below hb15
  have C15 := bel_trans C14 hb15
  have sz15 := hb15.size
  clear t8
  go_wp2_with fail
  refine (l_mark _ _ _ _ z0 _ _ t3 (by omega) (by omega)).mono ?_; rintro e wd16 ⟨rfl, x0m, hb16⟩
  have sz16 := hb16.size
  have C16 := Below.onlyI C15 (hb16.onlyI pt3) (by omega)
  replace w0 := w0.onlyI (hb16.onlyI pt3) pw0 (by omega)
  replace t4 := t4.onlyI (hb16.onlyI pt3) (by omega)
  replace t5 := t5.onlyI (hb16.onlyI pt3) (by omega)
  replace g0 := g0.onlyI (hb16.onlyI pt3) pg0 (by omega)
  clear t3; have t3 := x0m; clear x0m
  go_wp2_with fail
  refine (l_markSS _ _ _ _ _ z1 _ _ t4 (by omega) (by omega)).mono ?_; rintro e wd17 ⟨rfl, x1m, hb17⟩
  have sz17 := hb17.size
  have C17 := Below.onlyI C16 hb17 (by omega)
  replace w0 := w0.onlyI hb17 pw0 (by omega)
  replace t3 := t3.onlyI hb17 pt3 (by omega)
  replace t5 := t5.onlyI hb17 (by omega)
  replace g0 := g0.onlyI hb17 pg0 (by omega)
  clear t4; have t4 := x1m; clear x1m
  go_wp2_with fail
  refine (l_markSS _ _ _ _ _ z2 _ _ t5 (by omega) (by omega)).mono ?_; rintro e wd18 ⟨rfl, x2m, hb18⟩
  have sz18 := hb18.size
  have C18 := Below.onlyI C17 hb18 (by omega)
  replace w0 := w0.onlyI hb18 pw0 (by omega)
  replace t3 := t3.onlyI hb18 pt3 (by omega)
  replace t4 := t4.onlyI hb18 (by omega)
  replace g0 := g0.onlyI hb18 pg0 (by omega)
  clear t5; have t5 := x2m; clear x2m
  go_wp2_with fail
  refine (l_eqIntS _ _ _ _ _ y0 _ g0.ints w0.ints).mono ?_; rintro e wd19 ⟨rfl, hb19⟩
  replace w0 := w0.below hb19
  replace t3 := t3.below hb19
  replace t4 := t4.below hb19
  replace t5 := t5.below hb19
  replace g0 := g0.below hb19
  have C19 := bel_trans C18 hb19
  have sz19 := hb19.size
  go_wp2_with fail
  refine (l_mark _ _ _ _ y0 _ _ g0 (by omega) (by omega)).mono ?_; rintro e wd20 ⟨rfl, g0m, hb20⟩
  have sz20 := hb20.size
  have C20 := Below.onlyI C19 (hb20.onlyI pg0) (by omega)
  replace w0 := w0.onlyI (hb20.onlyI pg0) pw0 (by omega)
  replace t3 := t3.onlyI (hb20.onlyI pg0) pt3 (by omega)
  replace t4 := t4.onlyI (hb20.onlyI pg0) (by omega)
  replace t5 := t5.onlyI (hb20.onlyI pg0) (by omega)
  clear g0; have g0 := g0m; clear g0m
  go_wp2_with fail
  refine (l_heldIntS _ _ _ _ _ g0.ints (by omega) (by omega)).mono ?_; rintro e wx ⟨rfl, hwx⟩; subst hwx
  go_wp2_with fail
  refine (l_conv a0 n0 c0 z0 _ (i0_a0.below C20)).mono ?_; rintro e wd21 ⟨t9a, t9c, rfl, t9, hb21⟩
  replace w0 := w0.below hb21
  replace t3 := t3.below hb21
  replace t4 := t4.below hb21
  replace t5 := t5.below hb21
  replace g0 := g0.below hb21
  have C21 := bel_trans C20 hb21
  have sz21 := hb21.size
  have pt9 := t9.pl
  go_wp2_with fail
  refine (l_convSS a1 n1 c1 z1 _ (i0_a1.below C21) ha1N).mono ?_; rintro e wd22 ⟨t10a, t10c, rfl, t10, hb22⟩
  replace w0 := w0.below hb22
  replace t3 := t3.below hb22
  replace t4 := t4.below hb22
  replace t5 := t5.below hb22
  replace g0 := g0.below hb22
  replace t9 := t9.below hb22
  have C22 := bel_trans C21 hb22
  have sz22 := hb22.size
  go_wp2_with fail
  refine (l_convSS a2 n2 c2 z2 _ (i0_a2.below C22) ha2N).mono ?_; rintro e wd23 ⟨t11a, t11c, rfl, t11, hb23⟩
  replace w0 := w0.below hb23
  replace t3 := t3.below hb23
  replace t4 := t4.below hb23
  replace t5 := t5.below hb23
  replace g0 := g0.below hb23
  replace t9 := t9.below hb23
  replace t10 := t10.below hb23
  have C23 := bel_trans C22 hb23
  have sz23 := hb23.size
  go_wp2_with fail
  refine (HHI.out _ t9a t9c t9.ints t10a t10c t10.rows t11a t11c t11.rows).mono ?_; rintro e wd24 ⟨h0a, h0c, rfl, h0, hb24⟩
  replace w0 := w0.below hb24
  replace t3 := t3.below hb24
  replace t4 := t4.below hb24
  replace t5 := t5.below hb24
  replace g0 := g0.below hb24
  replace t9 := t9.below hb24
  replace t10 := t10.below hb24
  replace t11 := t11.below hb24
  have C24 := bel_trans C23 hb24
  have sz24 := hb24.size
  have ph0 := h0.pl
  clear t9 pt9
  clear t10
  clear t11
  go_wp2_with fail
  refine (l_eqIntS _ _ _ _ _ y0 _ h0.ints w0.ints).mono ?_; rintro e wd25 ⟨rfl, hb25⟩
  replace w0 := w0.below hb25
  replace t3 := t3.below hb25
  replace t4 := t4.below hb25
  replace t5 := t5.below hb25
  replace g0 := g0.below hb25
  replace h0 := h0.below hb25
  have C25 := bel_trans C24 hb25
  have sz25 := hb25.size
  go_wp2_with fail
  refine (l_heldIntS _ _ _ _ _ g0.ints (by omega) (by omega)).mono ?_; rintro e wx ⟨rfl, hwx⟩; subst hwx
  go_wp2
  go_ret
  exact ⟨rfl, C25⟩


end Go.Proofs.Ytjgacdebmmigpaa
