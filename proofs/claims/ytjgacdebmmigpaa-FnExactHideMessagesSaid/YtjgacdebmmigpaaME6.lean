/-
  hideMessages: the exact law from the two walks
-/
import Derived.Test.YtjgacdebmmigpaaE10
namespace Go.Proofs.Ytjgacdebmmigpaa
open Go.RowKit
set_option linter.unusedVariables false
set_option linter.unusedSimpArgs false
set_option maxRecDepth 100000

set_option maxHeartbeats 8000000 in
theorem law_FnExactHideMessages (a0 : Option Addr) (n0 c0 : Nat) (z0 : List Int) (a1 : Option Addr) (n1 c1 : Nat) (z1 : List (List Int)) (a2 : Option Addr) (n2 c2 : Nat) (z2 : List Int) (a3 : Option Addr) (n3 c3 : Nat) (z3 : List Int) (w : World) (ha0 : IntsIn w a0 n0 c0 z0) (ha1 : RowsIn w a1 n1 c1 z1) (ha2 : IntsIn w a2 n2 c2 z2) (ha3 : IntsIn w a3 n3 c3 z3) :
    Calls Try.prog 10 #[.slice a0 n0 c0, .slice a1 n1 c1, .slice a2 n2 c2, .slice a3 n3 c3] w fun e w' => e = .returned (.bool true) ∧ Below w.heap.size w w' := by
  obtain ⟨hma0, hia0⟩ := ha0
  obtain ⟨hma2, hia2⟩ := ha2
  obtain ⟨hma3, hia3⟩ := ha3
  by_cases hga0 : n0 ≤ 1048576
  rotate_left
  · go_enter Try.func10, Try.ntmps10
    go_wp2
    go_ret
    exact ⟨rfl, Below.refl _ _⟩
  have i0_a0 := hia0 hga0
  clear hia0 hma0
  by_cases hga2 : n2 ≤ 1048576
  rotate_left
  · go_enter Try.func10, Try.ntmps10
    go_wp2
    go_ret
    exact ⟨rfl, Below.refl _ _⟩
  have i0_a2 := hia2 hga2
  clear hia2 hma2
  by_cases hga3 : n3 ≤ 1048576
  rotate_left
  · go_enter Try.func10, Try.ntmps10
    go_wp2
    go_ret
    exact ⟨rfl, Below.refl _ _⟩
  have i0_a3 := hia3 hga3
  clear hia3 hma3
  have hcl0 := hideMessages_len z0 z1 z2 z3
  have HS := fun (W : World) (b0 : Option Addr) (e0 : Nat) (k0 : Ints W b0 n0 e0 z0) (b1 : Option Addr) (e1 : Nat) (k1 : Rws W b1 n1 e1 z1) (b2 : Option Addr) (e2 : Nat) (k2 : Ints W b2 n2 e2 z2) (b3 : Option Addr) (e3 : Nat) (k3 : Ints W b3 n3 e3 z3) => s_HideMessages b0 n0 e0 z0 b1 n1 e1 z1 b2 n2 e2 z2 b3 n3 e3 z3 W k0 k1 k2 k3
  have HI := fun (W : World) (b0 : Option Addr) (e0 : Nat) (k0 : Ints W b0 n0 e0 z0) (b1 : Option Addr) (e1 : Nat) (k1 : Rws W b1 n1 e1 z1) (b2 : Option Addr) (e2 : Nat) (k2 : Ints W b2 n2 e2 z2) (b3 : Option Addr) (e3 : Nat) (k3 : Ints W b3 n3 e3 z3) => i_HideMessages b0 n0 e0 z0 b1 n1 e1 z1 b2 n2 e2 z2 b3 n3 e3 z3 W k0 k1 k2 k3
  simp only [RowsRetB] at HS HI
  obtain ⟨y0, hy0⟩ : ∃ y, y = (hideMessages z0 z1 z2 z3).1 := ⟨_, rfl⟩
  obtain ⟨y1, hy1⟩ : ∃ y, y = (hideMessages z0 z1 z2 z3).2 := ⟨_, rfl⟩
  simp only [← hy0, ← hy1] at HS HI
  rw [← hy0] at hcl0
  obtain ⟨hcl0, hct0⟩ := hcl0
  clear hy0 hy1
  have HHS := Lib.hid HS; have HHI := Lib.hid HI; clear HS HI
  go_enter Try.func10, Try.ntmps10
  go_wp2_with fail
  refine (l_szIntSS a1 n1 c1 z1 _ _ ha1 (by omega) (by omega)).mono ?_; rintro e wx ⟨l1, rfl, hwx, hsa1⟩; subst hwx
  rcases hsa1 with rfl | ⟨hl1, hl1', i0_a1, ha1T, ha1N⟩
  · go_wp2
    go_ret
    exact ⟨rfl, Below.refl _ _⟩
  go_wp2_with fail
  refine (l_conv a0 n0 c0 z0 _ i0_a0).mono ?_; rintro e wd1 ⟨t0a, t0c, rfl, t0, hb1⟩
  have C1 := hb1
  have sz1 := hb1.size
  have pt0 := t0.pl
  go_wp2_with fail
  refine (l_convSS a1 n1 c1 z1 _ (i0_a1.below C1) ha1N).mono ?_; rintro e wd2 ⟨t1a, t1c, rfl, t1, hb2⟩
  replace t0 := t0.below hb2
  have C2 := bel_trans C1 hb2
  have sz2 := hb2.size
  go_wp2_with fail
  refine (l_conv a2 n2 c2 z2 _ (i0_a2.below C2)).mono ?_; rintro e wd3 ⟨t2a, t2c, rfl, t2, hb3⟩
  replace t0 := t0.below hb3
  replace t1 := t1.below hb3
  have C3 := bel_trans C2 hb3
  have sz3 := hb3.size
  have pt2 := t2.pl
  go_wp2_with fail
  refine (l_conv a3 n3 c3 z3 _ (i0_a3.below C3)).mono ?_; rintro e wd4 ⟨t3a, t3c, rfl, t3, hb4⟩
  replace t0 := t0.below hb4
  replace t1 := t1.below hb4
  replace t2 := t2.below hb4
  have C4 := bel_trans C3 hb4
  have sz4 := hb4.size
  have pt3 := t3.pl
  go_wp2_with fail
  refine (HHS.out _ t0a t0c t0.ints t1a t1c t1.rows t2a t2c t2.ints t3a t3c t3.ints).mono ?_; rintro e wd5 ⟨w0a, w0c, rfl, w0, hb5⟩
  replace t0 := t0.below hb5
  replace t1 := t1.below hb5
  replace t2 := t2.below hb5
  replace t3 := t3.below hb5
  have C5 := bel_trans C4 hb5
  have sz5 := hb5.size
  clear t0 pt0
  clear t1
  clear t2 pt2
  clear t3 pt3
  go_wp2_with fail
  refine (l_conv a0 n0 c0 z0 _ (i0_a0.below C5)).mono ?_; rintro e wd6 ⟨t4a, t4c, rfl, t4, hb6⟩
  replace w0 := w0.below hb6
  have C6 := bel_trans C5 hb6
  have sz6 := hb6.size
  have pt4 := t4.pl
  go_wp2_with fail
  refine (l_convSS a1 n1 c1 z1 _ (i0_a1.below C6) ha1N).mono ?_; rintro e wd7 ⟨t5a, t5c, rfl, t5, hb7⟩
  replace w0 := w0.below hb7
  replace t4 := t4.below hb7
  have C7 := bel_trans C6 hb7
  have sz7 := hb7.size
  go_wp2_with fail
  refine (l_conv a2 n2 c2 z2 _ (i0_a2.below C7)).mono ?_; rintro e wd8 ⟨t6a, t6c, rfl, t6, hb8⟩
  replace w0 := w0.below hb8
  replace t4 := t4.below hb8
  replace t5 := t5.below hb8
  have C8 := bel_trans C7 hb8
  have sz8 := hb8.size
  have pt6 := t6.pl
  go_wp2_with fail
  refine (l_conv a3 n3 c3 z3 _ (i0_a3.below C8)).mono ?_; rintro e wd9 ⟨t7a, t7c, rfl, t7, hb9⟩
  replace w0 := w0.below hb9
  replace t4 := t4.below hb9
  replace t5 := t5.below hb9
  replace t6 := t6.below hb9
  have C9 := bel_trans C8 hb9
  have sz9 := hb9.size
  have pt7 := t7.pl
  go_wp2_with fail
  refine (HHI.out _ t4a t4c t4.ints t5a t5c t5.rows t6a t6c t6.ints t7a t7c t7.ints).mono ?_; rintro e wd10 ⟨g0a, g0c, rfl, g0, hb10⟩
  replace w0 := w0.below hb10
  replace t4 := t4.below hb10
  replace t5 := t5.below hb10
  replace t6 := t6.below hb10
  replace t7 := t7.below hb10
  have C10 := bel_trans C9 hb10
  have sz10 := hb10.size
  go_wp2_with fail
  refine (l_eqIntSS _ _ _ _ _ y0 _ g0.rows w0.rows).mono ?_; rintro e wd11 ⟨rfl, hb11⟩
  replace w0 := w0.below hb11
  replace t4 := t4.below hb11
  replace t5 := t5.below hb11
  replace t6 := t6.below hb11
  replace t7 := t7.below hb11
  replace g0 := g0.below hb11
  have C11 := bel_trans C10 hb11
  have sz11 := hb11.size
  go_wp2_with fail
  refine (l_conv a0 n0 c0 z0 _ (i0_a0.below C11)).mono ?_; rintro e wd12 ⟨t8a, t8c, rfl, t8, hb12⟩
  replace w0 := w0.below hb12
  replace t4 := t4.below hb12
  replace t5 := t5.below hb12
  replace t6 := t6.below hb12
  replace t7 := t7.below hb12
  replace g0 := g0.below hb12
  have C12 := bel_trans C11 hb12
  have sz12 := hb12.size
  have pt8 := t8.pl
  go_wp2_with fail
  refine (l_eqIntS _ _ _ _ _ z0 _ t4.ints t8.ints).mono ?_; rintro e wd13 ⟨rfl, hb13⟩
  replace w0 := w0.below hb13
  replace t4 := t4.below hb13
  replace t5 := t5.below hb13
  replace t6 := t6.below hb13
  replace t7 := t7.below hb13
  replace g0 := g0.below hb13
  replace t8 := t8.below hb13
  have C13 := bel_trans C12 hb13
  have sz13 := hb13.size
  clear t8 pt8
  go_wp2_with fail
  refine (l_convSS a1 n1 c1 z1 _ (i0_a1.below C13) ha1N).mono ?_; rintro e wd14 ⟨t9a, t9c, rfl, t9, hb14⟩
  replace w0 := w0.below hb14
  replace t4 := t4.below hb14
  replace t5 := t5.below hb14
  replace t6 := t6.below hb14
  replace t7 := t7.below hb14
  replace g0 := g0.below hb14
  have C14 := bel_trans C13 hb14
  have sz14 := hb14.size
  go_wp2_with fail
  refine (l_eqIntSS _ _ _ _ _ z1 _ t5.rows t9.rows).mono ?_; rintro e wd15 ⟨rfl, hb15⟩
  replace w0 := w0.below hb15
  replace t4 := t4.below hb15
  replace t5 := t5.below hb15
  replace t6 := t6.below hb15
  replace t7 := t7.below hb15
  replace g0 := g0.below hb15
  replace t9 := t9.below hb15
  have C15 := bel_trans C14 hb15
  have sz15 := hb15.size
  clear t9
  go_wp2_with fail
  refine (l_conv a2 n2 c2 z2 _ (i0_a2.below C15)).mono ?_; rintro e wd16 ⟨t10a, t10c, rfl, t10, hb16⟩
  replace w0 := w0.below hb16
  replace t4 := t4.below hb16
  replace t5 := t5.below hb16
  replace t6 := t6.below hb16
  replace t7 := t7.below hb16
  replace g0 := g0.below hb16
  have C16 := bel_trans C15 hb16
  have sz16 := hb16.size
  have pt10 := t10.pl
  go_wp2_with fail
  refine (l_eqIntS _ _ _ _ _ z2 _ t6.ints t10.ints).mono ?_; rintro e wd17 ⟨rfl, hb17⟩
  replace w0 := w0.below hb17
  replace t4 := t4.below hb17
  replace t5 := t5.below hb17
  replace t6 := t6.below hb17
  replace t7 := t7.below hb17
  replace g0 := g0.below hb17
  replace t10 := t10.below hb17
  have C17 := bel_trans C16 hb17
  have sz17 := hb17.size
  clear t10 pt10
  go_wp2_with fail
  refine (l_conv a3 n3 c3 z3 _ (i0_a3.below C17)).mono ?_; rintro e wd18 ⟨t11a, t11c, rfl, t11, hb18⟩
  replace w0 := w0.below hb18
  replace t4 := t4.below hb18
  replace t5 := t5.below hb18
  replace t6 := t6.below hb18
  replace t7 := t7.below hb18
  replace g0 := g0.below hb18
  have C18 := bel_trans C17 hb18
  have sz18 := hb18.size
  have pt11 := t11.pl
  go_wp2_with fail
  refine (l_eqIntS _ _ _ _ _ z3 _ t7.ints t11.ints).mono ?_; rintro e wd19 ⟨rfl, hb19⟩
  replace w0 := w0.below hb19
  replace t4 := t4.below hb19
  replace t5 := t5.below hb19
  replace t6 := t6.below hb19
  replace t7 := t7.below hb19
  replace g0 := g0.below hb19
  replace t11 := t11.below hb19
  have C19 := bel_trans C18 hb19
  have sz19 := hb19.size
  clear t11 pt11
  go_wp2_with fail
  refine (l_mark _ _ _ _ z0 _ _ t4 (by omega) (by omega)).mono ?_; rintro e wd20 ⟨rfl, x0m, hb20⟩
  have sz20 := hb20.size
  have C20 := Below.onlyI C19 (hb20.onlyI pt4) (by omega)
  replace w0 := w0.onlyI (hb20.onlyI pt4) (by omega)
  replace t5 := t5.onlyI (hb20.onlyI pt4) (by omega)
  replace t6 := t6.onlyI (hb20.onlyI pt4) pt6 (by omega)
  replace t7 := t7.onlyI (hb20.onlyI pt4) pt7 (by omega)
  replace g0 := g0.onlyI (hb20.onlyI pt4) (by omega)
  clear t4; have t4 := x0m; clear x0m
  go_wp2_with fail
  refine (l_markSS _ _ _ _ _ z1 _ _ t5 (by omega) (by omega)).mono ?_; rintro e wd21 ⟨rfl, x1m, hb21⟩
  have sz21 := hb21.size
  have C21 := Below.onlyI C20 hb21 (by omega)
  replace w0 := w0.onlyI hb21 (by omega)
  replace t4 := t4.onlyI hb21 pt4 (by omega)
  replace t6 := t6.onlyI hb21 pt6 (by omega)
  replace t7 := t7.onlyI hb21 pt7 (by omega)
  replace g0 := g0.onlyI hb21 (by omega)
  clear t5; have t5 := x1m; clear x1m
  go_wp2_with fail
  refine (l_mark _ _ _ _ z2 _ _ t6 (by omega) (by omega)).mono ?_; rintro e wd22 ⟨rfl, x2m, hb22⟩
  have sz22 := hb22.size
  have C22 := Below.onlyI C21 (hb22.onlyI pt6) (by omega)
  replace w0 := w0.onlyI (hb22.onlyI pt6) (by omega)
  replace t4 := t4.onlyI (hb22.onlyI pt6) pt4 (by omega)
  replace t5 := t5.onlyI (hb22.onlyI pt6) (by omega)
  replace t7 := t7.onlyI (hb22.onlyI pt6) pt7 (by omega)
  replace g0 := g0.onlyI (hb22.onlyI pt6) (by omega)
  clear t6; have t6 := x2m; clear x2m
  go_wp2_with fail
  refine (l_mark _ _ _ _ z3 _ _ t7 (by omega) (by omega)).mono ?_; rintro e wd23 ⟨rfl, x3m, hb23⟩
  have sz23 := hb23.size
  have C23 := Below.onlyI C22 (hb23.onlyI pt7) (by omega)
  replace w0 := w0.onlyI (hb23.onlyI pt7) (by omega)
  replace t4 := t4.onlyI (hb23.onlyI pt7) pt4 (by omega)
  replace t5 := t5.onlyI (hb23.onlyI pt7) (by omega)
  replace t6 := t6.onlyI (hb23.onlyI pt7) pt6 (by omega)
  replace g0 := g0.onlyI (hb23.onlyI pt7) (by omega)
  clear t7; have t7 := x3m; clear x3m
  go_wp2_with fail
  refine (l_eqIntSS _ _ _ _ _ y0 _ g0.rows w0.rows).mono ?_; rintro e wd24 ⟨rfl, hb24⟩
  replace w0 := w0.below hb24
  replace t4 := t4.below hb24
  replace t5 := t5.below hb24
  replace t6 := t6.below hb24
  replace t7 := t7.below hb24
  replace g0 := g0.below hb24
  have C24 := bel_trans C23 hb24
  have sz24 := hb24.size
  go_wp2_with fail
  refine (l_markSS _ _ _ _ _ y0 _ _ g0 (by omega) (by omega)).mono ?_; rintro e wd25 ⟨rfl, g0m, hb25⟩
  have sz25 := hb25.size
  have C25 := Below.onlyI C24 hb25 (by omega)
  replace w0 := w0.onlyI hb25 (by omega)
  replace t4 := t4.onlyI hb25 pt4 (by omega)
  replace t5 := t5.onlyI hb25 (by omega)
  replace t6 := t6.onlyI hb25 pt6 (by omega)
  replace t7 := t7.onlyI hb25 pt7 (by omega)
  clear g0; have g0 := g0m; clear g0m
  go_wp2_with fail
  refine (l_heldSS _ _ _ y0 _ _ g0.rows rfl (by omega) (by omega)).mono ?_; rintro e wx ⟨rfl, hwx⟩; subst hwx
  go_wp2_with fail
  refine (l_conv a0 n0 c0 z0 _ (i0_a0.below C25)).mono ?_; rintro e wd26 ⟨t12a, t12c, rfl, t12, hb26⟩
  replace w0 := w0.below hb26
  replace t4 := t4.below hb26
  replace t5 := t5.below hb26
  replace t6 := t6.below hb26
  replace t7 := t7.below hb26
  replace g0 := g0.below hb26
  have C26 := bel_trans C25 hb26
  have sz26 := hb26.size
  have pt12 := t12.pl
  go_wp2_with fail
  refine (l_convSS a1 n1 c1 z1 _ (i0_a1.below C26) ha1N).mono ?_; rintro e wd27 ⟨t13a, t13c, rfl, t13, hb27⟩
  replace w0 := w0.below hb27
  replace t4 := t4.below hb27
  replace t5 := t5.below hb27
  replace t6 := t6.below hb27
  replace t7 := t7.below hb27
  replace g0 := g0.below hb27
  replace t12 := t12.below hb27
  have C27 := bel_trans C26 hb27
  have sz27 := hb27.size
  go_wp2_with fail
  refine (l_conv a2 n2 c2 z2 _ (i0_a2.below C27)).mono ?_; rintro e wd28 ⟨t14a, t14c, rfl, t14, hb28⟩
  replace w0 := w0.below hb28
  replace t4 := t4.below hb28
  replace t5 := t5.below hb28
  replace t6 := t6.below hb28
  replace t7 := t7.below hb28
  replace g0 := g0.below hb28
  replace t12 := t12.below hb28
  replace t13 := t13.below hb28
  have C28 := bel_trans C27 hb28
  have sz28 := hb28.size
  have pt14 := t14.pl
  go_wp2_with fail
  refine (l_conv a3 n3 c3 z3 _ (i0_a3.below C28)).mono ?_; rintro e wd29 ⟨t15a, t15c, rfl, t15, hb29⟩
  replace w0 := w0.below hb29
  replace t4 := t4.below hb29
  replace t5 := t5.below hb29
  replace t6 := t6.below hb29
  replace t7 := t7.below hb29
  replace g0 := g0.below hb29
  replace t12 := t12.below hb29
  replace t13 := t13.below hb29
  replace t14 := t14.below hb29
  have C29 := bel_trans C28 hb29
  have sz29 := hb29.size
  have pt15 := t15.pl
  go_wp2_with fail
  refine (HHI.out _ t12a t12c t12.ints t13a t13c t13.rows t14a t14c t14.ints t15a t15c t15.ints).mono ?_; rintro e wd30 ⟨h0a, h0c, rfl, h0, hb30⟩
  replace w0 := w0.below hb30
  replace t4 := t4.below hb30
  replace t5 := t5.below hb30
  replace t6 := t6.below hb30
  replace t7 := t7.below hb30
  replace g0 := g0.below hb30
  replace t12 := t12.below hb30
  replace t13 := t13.below hb30
  replace t14 := t14.below hb30
  replace t15 := t15.below hb30
  have C30 := bel_trans C29 hb30
  have sz30 := hb30.size
  clear t12 pt12
  clear t13
  clear t14 pt14
  clear t15 pt15
  go_wp2_with fail
  refine (l_eqIntSS _ _ _ _ _ y0 _ h0.rows w0.rows).mono ?_; rintro e wd31 ⟨rfl, hb31⟩
  replace w0 := w0.below hb31
  replace t4 := t4.below hb31
  replace t5 := t5.below hb31
  replace t6 := t6.below hb31
  replace t7 := t7.below hb31
  replace g0 := g0.below hb31
  replace h0 := h0.below hb31
  have C31 := bel_trans C30 hb31
  have sz31 := hb31.size
  go_wp2_with fail
  refine (l_heldSS _ _ _ y0 _ _ g0.rows rfl (by omega) (by omega)).mono ?_; rintro e wx ⟨rfl, hwx⟩; subst hwx
  go_wp2
  go_ret
  exact ⟨rfl, C31⟩


end Go.Proofs.Ytjgacdebmmigpaa
