/-
  The walks of the exact laws on CheckRows and CheckPasses.
-/
import Derived.Test.YtjgacdebmmigpaaE8
namespace Go.Proofs.Ytjgacdebmmigpaa
open Go.RowKit
set_option linter.unusedVariables false
set_option linter.unusedSimpArgs false

set_option maxHeartbeats 8000000 in
theorem law_FnExactCheckRows (a0 : Option Addr) (n0 c0 : Nat) (z0 : List (List Int)) (a1 : Option Addr) (n1 c1 : Nat) (z1 : List (List Int)) (w : World) (ha0 : RowsIn w a0 n0 c0 z0) (ha1 : RowsIn w a1 n1 c1 z1) :
    Calls Try.prog 8 #[.slice a0 n0 c0, .slice a1 n1 c1] w fun e w' => e = .returned (.bool true) ∧ Below w.heap.size w w' := by
  have hcl0 := checkRows_len z0 z1
  have HS := fun (W : World) (b0 : Option Addr) (e0 : Nat) (k0 : Rws W b0 n0 e0 z0) (b1 : Option Addr) (e1 : Nat) (k1 : Rws W b1 n1 e1 z1) => s_CheckRows b0 n0 e0 z0 b1 n1 e1 z1 W k0 k1
  have HI := fun (W : World) (b0 : Option Addr) (e0 : Nat) (k0 : Rws W b0 n0 e0 z0) (b1 : Option Addr) (e1 : Nat) (k1 : Rws W b1 n1 e1 z1) => i_CheckRows b0 n0 e0 z0 b1 n1 e1 z1 W k0 k1
  simp only [ListRetB] at HS HI
  obtain ⟨y0, hy0⟩ : ∃ y, y = (checkRows z0 z1).1 := ⟨_, rfl⟩
  obtain ⟨y1, hy1⟩ : ∃ y, y = (checkRows z0 z1).2 := ⟨_, rfl⟩
  simp only [← hy0, ← hy1] at HS HI
  rw [← hy0] at hcl0
  clear hy0 hy1
  have HHS := Lib.hid HS; have HHI := Lib.hid HI; clear HS HI
  go_enter Try.func8, Try.ntmps8
  go_wp2_with fail
  refine (l_szIntSS a0 n0 c0 z0 _ _ ha0 (by omega) (by omega)).mono ?_; rintro e wx ⟨l1, rfl, hwx, hsa0⟩; subst hwx
  rcases hsa0 with rfl | ⟨hl1, hl1', i0_a0, ha0T, ha0N⟩
  · go_wp2
    go_ret
    exact ⟨rfl, Below.refl _ _⟩
  go_wp2_with fail
  refine (l_szIntSS a1 n1 c1 z1 _ _ ha1 (by omega) (by omega)).mono ?_; rintro e wx ⟨l2, rfl, hwx, hsa1⟩; subst hwx
  rcases hsa1 with rfl | ⟨hl2, hl2', i0_a1, ha1T, ha1N⟩
  · go_wp2
    go_ret
    exact ⟨rfl, Below.refl _ _⟩
  go_wp2_with fail
  refine (l_convSS a0 n0 c0 z0 _ i0_a0 ha0N).mono ?_; rintro e wd1 ⟨t0a, t0c, rfl, t0, hb1⟩
  have C1 := hb1
  have sz1 := hb1.size
  go_wp2_with fail
  refine (l_convSS a1 n1 c1 z1 _ (i0_a1.below C1) ha1N).mono ?_; rintro e wd2 ⟨t1a, t1c, rfl, t1, hb2⟩
  replace t0 := t0.below hb2
  have C2 := bel_trans C1 hb2
  have sz2 := hb2.size
  go_wp2_with fail
  refine (HHS.out _ t0a t0c t0.rows t1a t1c t1.rows).mono ?_; rintro e wd3 ⟨w0a, w0c, rfl, w0, hb3⟩
  replace t0 := t0.below hb3
  replace t1 := t1.below hb3
  have C3 := bel_trans C2 hb3
  have sz3 := hb3.size
  have pw0 := w0.pl
  clear t0
  clear t1
  go_wp2_with fail
  refine (l_convSS a0 n0 c0 z0 _ (i0_a0.below C3) ha0N).mono ?_; rintro e wd4 ⟨t2a, t2c, rfl, t2, hb4⟩
  replace w0 := w0.below hb4
  have C4 := bel_trans C3 hb4
  have sz4 := hb4.size
  go_wp2_with fail
  refine (l_convSS a1 n1 c1 z1 _ (i0_a1.below C4) ha1N).mono ?_; rintro e wd5 ⟨t3a, t3c, rfl, t3, hb5⟩
  replace w0 := w0.below hb5
  replace t2 := t2.below hb5
  have C5 := bel_trans C4 hb5
  have sz5 := hb5.size
  go_wp2_with fail
  refine (HHI.out _ t2a t2c t2.rows t3a t3c t3.rows).mono ?_; rintro e wd6 ⟨g0a, g0c, rfl, g0, hb6⟩
  replace w0 := w0.below hb6
  replace t2 := t2.below hb6
  replace t3 := t3.below hb6
  have C6 := bel_trans C5 hb6
  have sz6 := hb6.size
  have pg0 := g0.pl
  go_wp2_with fail
  refine (l_eqIntS _ _ _ _ _ y0 _ g0.ints w0.ints).mono ?_; rintro e wd7 ⟨rfl, hb7⟩
  replace w0 := w0.below hb7
  replace t2 := t2.below hb7
  replace t3 := t3.below hb7
  replace g0 := g0.below hb7
  have C7 := bel_trans C6 hb7
  have sz7 := hb7.size
  go_wp2_with fail
  refine (l_convSS a0 n0 c0 z0 _ (i0_a0.below C7) ha0N).mono ?_; rintro e wd8 ⟨t4a, t4c, rfl, t4, hb8⟩
  replace w0 := w0.below hb8
  replace t2 := t2.below hb8
  replace t3 := t3.below hb8
  replace g0 := g0.below hb8
  have C8 := bel_trans C7 hb8
  have sz8 := hb8.size
  go_wp2_with fail
  refine (l_eqIntSS _ _ _ _ _ z0 _ t2.rows t4.rows).mono ?_; rintro e wd9 ⟨rfl, hb9⟩
  replace w0 := w0.below hb9
  replace t2 := t2.below hb9
  replace t3 := t3.below hb9
  replace g0 := g0.below hb9
  replace t4 := t4.below hb9
  have C9 := bel_trans C8 hb9
  have sz9 := hb9.size
  clear t4
  go_wp2_with fail
  refine (l_convSS a1 n1 c1 z1 _ (i0_a1.below C9) ha1N).mono ?_; rintro e wd10 ⟨t5a, t5c, rfl, t5, hb10⟩
  replace w0 := w0.below hb10
  replace t2 := t2.below hb10
  replace t3 := t3.below hb10
  replace g0 := g0.below hb10
  have C10 := bel_trans C9 hb10
  have sz10 := hb10.size
  go_wp2_with fail
  refine (l_eqIntSS _ _ _ _ _ z1 _ t3.rows t5.rows).mono ?_; rintro e wd11 ⟨rfl, hb11⟩
  replace w0 := w0.below hb11
  replace t2 := t2.below hb11
  replace t3 := t3.below hb11
  replace g0 := g0.below hb11
  replace t5 := t5.below hb11
  have C11 := bel_trans C10 hb11
  have sz11 := hb11.size
  clear t5
  go_wp2_with fail
  refine (l_markSS _ _ _ _ _ z0 _ _ t2 (by omega) (by omega)).mono ?_; rintro e wd12 ⟨rfl, x0m, hb12⟩
  have sz12 := hb12.size
  have C12 := Below.onlyI C11 hb12 (by omega)
  replace w0 := w0.onlyI hb12 pw0 (by omega)
  replace t3 := t3.onlyI hb12 (by omega)
  replace g0 := g0.onlyI hb12 pg0 (by omega)
  clear t2; have t2 := x0m; clear x0m
  go_wp2_with fail
  refine (l_markSS _ _ _ _ _ z1 _ _ t3 (by omega) (by omega)).mono ?_; rintro e wd13 ⟨rfl, x1m, hb13⟩
  have sz13 := hb13.size
  have C13 := Below.onlyI C12 hb13 (by omega)
  replace w0 := w0.onlyI hb13 pw0 (by omega)
  replace t2 := t2.onlyI hb13 (by omega)
  replace g0 := g0.onlyI hb13 pg0 (by omega)
  clear t3; have t3 := x1m; clear x1m
  go_wp2_with fail
  refine (l_eqIntS _ _ _ _ _ y0 _ g0.ints w0.ints).mono ?_; rintro e wd14 ⟨rfl, hb14⟩
  replace w0 := w0.below hb14
  replace t2 := t2.below hb14
  replace t3 := t3.below hb14
  replace g0 := g0.below hb14
  have C14 := bel_trans C13 hb14
  have sz14 := hb14.size
  go_wp2_with fail
  refine (l_mark _ _ _ _ y0 _ _ g0 (by omega) (by omega)).mono ?_; rintro e wd15 ⟨rfl, g0m, hb15⟩
  have sz15 := hb15.size
  have C15 := Below.onlyI C14 (hb15.onlyI pg0) (by omega)
  replace w0 := w0.onlyI (hb15.onlyI pg0) pw0 (by omega)
  replace t2 := t2.onlyI (hb15.onlyI pg0) (by omega)
  replace t3 := t3.onlyI (hb15.onlyI pg0) (by omega)
  clear g0; have g0 := g0m; clear g0m
  go_wp2_with fail
  refine (l_heldIntS _ _ _ _ _ g0.ints (by omega) (by omega)).mono ?_; rintro e wx ⟨rfl, hwx⟩; subst hwx
  go_wp2_with fail
  refine (l_convSS a0 n0 c0 z0 _ (i0_a0.below C15) ha0N).mono ?_; rintro e wd16 ⟨t6a, t6c, rfl, t6, hb16⟩
  replace w0 := w0.below hb16
  replace t2 := t2.below hb16
  replace t3 := t3.below hb16
  replace g0 := g0.below hb16
  have C16 := bel_trans C15 hb16
  have sz16 := hb16.size
  go_wp2_with fail
  refine (l_convSS a1 n1 c1 z1 _ (i0_a1.below C16) ha1N).mono ?_; rintro e wd17 ⟨t7a, t7c, rfl, t7, hb17⟩
  replace w0 := w0.below hb17
  replace t2 := t2.below hb17
  replace t3 := t3.below hb17
  replace g0 := g0.below hb17
  replace t6 := t6.below hb17
  have C17 := bel_trans C16 hb17
  have sz17 := hb17.size
  go_wp2_with fail
  refine (HHI.out _ t6a t6c t6.rows t7a t7c t7.rows).mono ?_; rintro e wd18 ⟨h0a, h0c, rfl, h0, hb18⟩
  replace w0 := w0.below hb18
  replace t2 := t2.below hb18
  replace t3 := t3.below hb18
  replace g0 := g0.below hb18
  replace t6 := t6.below hb18
  replace t7 := t7.below hb18
  have C18 := bel_trans C17 hb18
  have sz18 := hb18.size
  have ph0 := h0.pl
  clear t6
  clear t7
  go_wp2_with fail
  refine (l_eqIntS _ _ _ _ _ y0 _ h0.ints w0.ints).mono ?_; rintro e wd19 ⟨rfl, hb19⟩
  replace w0 := w0.below hb19
  replace t2 := t2.below hb19
  replace t3 := t3.below hb19
  replace g0 := g0.below hb19
  replace h0 := h0.below hb19
  have C19 := bel_trans C18 hb19
  have sz19 := hb19.size
  go_wp2_with fail
  refine (l_heldIntS _ _ _ _ _ g0.ints (by omega) (by omega)).mono ?_; rintro e wx ⟨rfl, hwx⟩; subst hwx
  go_wp2
  go_ret
  exact ⟨rfl, C19⟩

set_option maxHeartbeats 8000000 in
theorem law_FnExactCheckPasses (a0 : Option Addr) (n0 c0 : Nat) (z0 : List Int) (a1 : Option Addr) (n1 c1 : Nat) (z1 : List (List Int)) (a2 : Option Addr) (n2 c2 : Nat) (z2 : List Int) (a3 : Option Addr) (n3 c3 : Nat) (z3 : List (List Int)) (a4 : Option Addr) (n4 c4 : Nat) (z4 : List (List Int)) (w : World) (ha0 : IntsIn w a0 n0 c0 z0) (ha1 : RowsIn w a1 n1 c1 z1) (ha2 : IntsIn w a2 n2 c2 z2) (ha3 : RowsIn w a3 n3 c3 z3) (ha4 : RowsIn w a4 n4 c4 z4) :
    Calls Try.prog 11 #[.slice a0 n0 c0, .slice a1 n1 c1, .slice a2 n2 c2, .slice a3 n3 c3, .slice a4 n4 c4] w fun e w' => e = .returned (.bool true) ∧ Below w.heap.size w w' := by
  obtain ⟨hma0, hia0⟩ := ha0
  obtain ⟨hma2, hia2⟩ := ha2
  by_cases hga0 : n0 ≤ 1048576
  rotate_left
  · go_enter Try.func11, Try.ntmps11
    go_wp2
    go_ret
    exact ⟨rfl, Below.refl _ _⟩
  have i0_a0 := hia0 hga0
  clear hia0 hma0
  by_cases hga2 : n2 ≤ 1048576
  rotate_left
  · go_enter Try.func11, Try.ntmps11
    go_wp2
    go_ret
    exact ⟨rfl, Below.refl _ _⟩
  have i0_a2 := hia2 hga2
  clear hia2 hma2
  have HS := fun (W : World) (b0 : Option Addr) (e0 : Nat) (k0 : Ints W b0 n0 e0 z0) (b1 : Option Addr) (e1 : Nat) (k1 : Rws W b1 n1 e1 z1) (b2 : Option Addr) (e2 : Nat) (k2 : Ints W b2 n2 e2 z2) (b3 : Option Addr) (e3 : Nat) (k3 : Rws W b3 n3 e3 z3) (b4 : Option Addr) (e4 : Nat) (k4 : Rws W b4 n4 e4 z4) => s_CheckPasses b0 n0 e0 z0 b1 n1 e1 z1 b2 n2 e2 z2 b3 n3 e3 z3 b4 n4 e4 z4 W k0 k1 k2 k3 k4
  have HI := fun (W : World) (b0 : Option Addr) (e0 : Nat) (k0 : Ints W b0 n0 e0 z0) (b1 : Option Addr) (e1 : Nat) (k1 : Rws W b1 n1 e1 z1) (b2 : Option Addr) (e2 : Nat) (k2 : Ints W b2 n2 e2 z2) (b3 : Option Addr) (e3 : Nat) (k3 : Rws W b3 n3 e3 z3) (b4 : Option Addr) (e4 : Nat) (k4 : Rws W b4 n4 e4 z4) => i_CheckPasses b0 n0 e0 z0 b1 n1 e1 z1 b2 n2 e2 z2 b3 n3 e3 z3 b4 n4 e4 z4 W k0 k1 k2 k3 k4
  obtain ⟨y0, hy0⟩ : ∃ y, y = (checkPasses z0 z1 z2 z3 z4).1 := ⟨_, rfl⟩
  obtain ⟨y1, hy1⟩ : ∃ y, y = (checkPasses z0 z1 z2 z3 z4).2 := ⟨_, rfl⟩
  simp only [← hy0, ← hy1] at HS HI
  clear hy0 hy1
  have HHS := Lib.hid HS; have HHI := Lib.hid HI; clear HS HI
  go_enter Try.func11, Try.ntmps11
  go_wp2_with fail
  refine (l_szIntSS a1 n1 c1 z1 _ _ ha1 (by omega) (by omega)).mono ?_; rintro e wx ⟨l1, rfl, hwx, hsa1⟩; subst hwx
  rcases hsa1 with rfl | ⟨hl1, hl1', i0_a1, ha1T, ha1N⟩
  · go_wp2
    go_ret
    exact ⟨rfl, Below.refl _ _⟩
  go_wp2_with fail
  refine (l_szIntSS a3 n3 c3 z3 _ _ ha3 (by omega) (by omega)).mono ?_; rintro e wx ⟨l2, rfl, hwx, hsa3⟩; subst hwx
  rcases hsa3 with rfl | ⟨hl2, hl2', i0_a3, ha3T, ha3N⟩
  · go_wp2
    go_ret
    exact ⟨rfl, Below.refl _ _⟩
  go_wp2_with fail
  refine (l_szIntSS a4 n4 c4 z4 _ _ ha4 (by omega) (by omega)).mono ?_; rintro e wx ⟨l3, rfl, hwx, hsa4⟩; subst hwx
  rcases hsa4 with rfl | ⟨hl3, hl3', i0_a4, ha4T, ha4N⟩
  · go_wp2
    go_ret
    exact ⟨rfl, Below.refl _ _⟩
  go_wp2_with fail
  refine (l_conv a0 n0 c0 z0 _ i0_a0).mono ?_; rintro e wd1 ⟨t0a, t0c, rfl, t0, hb1⟩
  have C1 := hb1
  have sz1 := hb1.size
  have pt0 := t0.pl
  go_wp2_with fail
  refine (l_convSS a1 n1 c1 z1 _ (i0_a1.below C1) ha1N).mono ?_; rintro e wd2 ⟨t1a, t1c, rfl, t1, hb2⟩
  replace t0 := t0.below hb2
  have C2 := bel_trans C1 hb2
  have sz2 := hb2.size
  go_wp2_with fail
  refine (l_conv a2 n2 c2 z2 _ (i0_a2.below C2)).mono ?_; rintro e wd3 ⟨t2a, t2c, rfl, t2, hb3⟩
  replace t0 := t0.below hb3
  replace t1 := t1.below hb3
  have C3 := bel_trans C2 hb3
  have sz3 := hb3.size
  have pt2 := t2.pl
  go_wp2_with fail
  refine (l_convSS a3 n3 c3 z3 _ (i0_a3.below C3) ha3N).mono ?_; rintro e wd4 ⟨t3a, t3c, rfl, t3, hb4⟩
  replace t0 := t0.below hb4
  replace t1 := t1.below hb4
  replace t2 := t2.below hb4
  have C4 := bel_trans C3 hb4
  have sz4 := hb4.size
  go_wp2_with fail
  refine (l_convSS a4 n4 c4 z4 _ (i0_a4.below C4) ha4N).mono ?_; rintro e wd5 ⟨t4a, t4c, rfl, t4, hb5⟩
  replace t0 := t0.below hb5
  replace t1 := t1.below hb5
  replace t2 := t2.below hb5
  replace t3 := t3.below hb5
  have C5 := bel_trans C4 hb5
  have sz5 := hb5.size
  go_wp2_with fail
  refine (HHS.out _ t0a t0c t0.ints t1a t1c t1.rows t2a t2c t2.ints t3a t3c t3.rows t4a t4c t4.rows).mono ?_; rintro e wd6 ⟨rfl, hb6⟩
  replace t0 := t0.below hb6
  replace t1 := t1.below hb6
  replace t2 := t2.below hb6
  replace t3 := t3.below hb6
  replace t4 := t4.below hb6
  have C6 := bel_trans C5 hb6
  have sz6 := hb6.size
  clear t0 pt0
  clear t1
  clear t2 pt2
  clear t3
  clear t4
  go_wp2_with fail
  refine (l_conv a0 n0 c0 z0 _ (i0_a0.below C6)).mono ?_; rintro e wd7 ⟨t5a, t5c, rfl, t5, hb7⟩
  have C7 := bel_trans C6 hb7
  have sz7 := hb7.size
  have pt5 := t5.pl
  go_wp2_with fail
  refine (l_convSS a1 n1 c1 z1 _ (i0_a1.below C7) ha1N).mono ?_; rintro e wd8 ⟨t6a, t6c, rfl, t6, hb8⟩
  replace t5 := t5.below hb8
  have C8 := bel_trans C7 hb8
  have sz8 := hb8.size
  go_wp2_with fail
  refine (l_conv a2 n2 c2 z2 _ (i0_a2.below C8)).mono ?_; rintro e wd9 ⟨t7a, t7c, rfl, t7, hb9⟩
  replace t5 := t5.below hb9
  replace t6 := t6.below hb9
  have C9 := bel_trans C8 hb9
  have sz9 := hb9.size
  have pt7 := t7.pl
  go_wp2_with fail
  refine (l_convSS a3 n3 c3 z3 _ (i0_a3.below C9) ha3N).mono ?_; rintro e wd10 ⟨t8a, t8c, rfl, t8, hb10⟩
  replace t5 := t5.below hb10
  replace t6 := t6.below hb10
  replace t7 := t7.below hb10
  have C10 := bel_trans C9 hb10
  have sz10 := hb10.size
  go_wp2_with fail
  refine (l_convSS a4 n4 c4 z4 _ (i0_a4.below C10) ha4N).mono ?_; rintro e wd11 ⟨t9a, t9c, rfl, t9, hb11⟩
  replace t5 := t5.below hb11
  replace t6 := t6.below hb11
  replace t7 := t7.below hb11
  replace t8 := t8.below hb11
  have C11 := bel_trans C10 hb11
  have sz11 := hb11.size
  go_wp2_with fail
  refine (HHI.out _ t5a t5c t5.ints t6a t6c t6.rows t7a t7c t7.ints t8a t8c t8.rows t9a t9c t9.rows).mono ?_; rintro e wd12 ⟨rfl, hb12⟩
  replace t5 := t5.below hb12
  replace t6 := t6.below hb12
  replace t7 := t7.below hb12
  replace t8 := t8.below hb12
  replace t9 := t9.below hb12
  have C12 := bel_trans C11 hb12
  have sz12 := hb12.size
  go_wp2_with fail
  refine (l_conv a0 n0 c0 z0 _ (i0_a0.below C12)).mono ?_; rintro e wd13 ⟨t10a, t10c, rfl, t10, hb13⟩
  replace t5 := t5.below hb13
  replace t6 := t6.below hb13
  replace t7 := t7.below hb13
  replace t8 := t8.below hb13
  replace t9 := t9.below hb13
  have C13 := bel_trans C12 hb13
  have sz13 := hb13.size
  have pt10 := t10.pl
  go_wp2_with fail
  refine (l_eqIntS _ _ _ _ _ z0 _ t5.ints t10.ints).mono ?_; rintro e wd14 ⟨rfl, hb14⟩
  replace t5 := t5.below hb14
  replace t6 := t6.below hb14
  replace t7 := t7.below hb14
  replace t8 := t8.below hb14
  replace t9 := t9.below hb14
  replace t10 := t10.below hb14
  have C14 := bel_trans C13 hb14
  have sz14 := hb14.size
  clear t10 pt10
  go_wp2_with fail
  refine (l_convSS a1 n1 c1 z1 _ (i0_a1.below C14) ha1N).mono ?_; rintro e wd15 ⟨t11a, t11c, rfl, t11, hb15⟩
  replace t5 := t5.below hb15
  replace t6 := t6.below hb15
  replace t7 := t7.below hb15
  replace t8 := t8.below hb15
  replace t9 := t9.below hb15
  have C15 := bel_trans C14 hb15
  have sz15 := hb15.size
  go_wp2_with fail
  refine (l_eqIntSS _ _ _ _ _ z1 _ t6.rows t11.rows).mono ?_; rintro e wd16 ⟨rfl, hb16⟩
  replace t5 := t5.below hb16
  replace t6 := t6.below hb16
  replace t7 := t7.below hb16
  replace t8 := t8.below hb16
  replace t9 := t9.below hb16
  replace t11 := t11.below hb16
  have C16 := bel_trans C15 hb16
  have sz16 := hb16.size
  clear t11
  go_wp2_with fail
  refine (l_conv a2 n2 c2 z2 _ (i0_a2.below C16)).mono ?_; rintro e wd17 ⟨t12a, t12c, rfl, t12, hb17⟩
  replace t5 := t5.below hb17
  replace t6 := t6.below hb17
  replace t7 := t7.below hb17
  replace t8 := t8.below hb17
  replace t9 := t9.below hb17
  have C17 := bel_trans C16 hb17
  have sz17 := hb17.size
  have pt12 := t12.pl
  go_wp2_with fail
  refine (l_eqIntS _ _ _ _ _ z2 _ t7.ints t12.ints).mono ?_; rintro e wd18 ⟨rfl, hb18⟩
  replace t5 := t5.below hb18
  replace t6 := t6.below hb18
  replace t7 := t7.below hb18
  replace t8 := t8.below hb18
  replace t9 := t9.below hb18
  replace t12 := t12.below hb18
  have C18 := bel_trans C17 hb18
  have sz18 := hb18.size
  clear t12 pt12
  go_wp2_with fail
  refine (l_convSS a3 n3 c3 z3 _ (i0_a3.below C18) ha3N).mono ?_; rintro e wd19 ⟨t13a, t13c, rfl, t13, hb19⟩
  replace t5 := t5.below hb19
  replace t6 := t6.below hb19
  replace t7 := t7.below hb19
  replace t8 := t8.below hb19
  replace t9 := t9.below hb19
  have C19 := bel_trans C18 hb19
  have sz19 := hb19.size
  go_wp2_with fail
  refine (l_eqIntSS _ _ _ _ _ z3 _ t8.rows t13.rows).mono ?_; rintro e wd20 ⟨rfl, hb20⟩
  replace t5 := t5.below hb20
  replace t6 := t6.below hb20
  replace t7 := t7.below hb20
  replace t8 := t8.below hb20
  replace t9 := t9.below hb20
  replace t13 := t13.below hb20
  have C20 := bel_trans C19 hb20
  have sz20 := hb20.size
  clear t13
  go_wp2_with fail
  refine (l_convSS a4 n4 c4 z4 _ (i0_a4.below C20) ha4N).mono ?_; rintro e wd21 ⟨t14a, t14c, rfl, t14, hb21⟩
  replace t5 := t5.below hb21
  replace t6 := t6.below hb21
  replace t7 := t7.below hb21
  replace t8 := t8.below hb21
  replace t9 := t9.below hb21
  have C21 := bel_trans C20 hb21
  have sz21 := hb21.size
  go_wp2_with fail
  refine (l_eqIntSS _ _ _ _ _ z4 _ t9.rows t14.rows).mono ?_; rintro e wd22 ⟨rfl, hb22⟩
  replace t5 := t5.below hb22
  replace t6 := t6.below hb22
  replace t7 := t7.below hb22
  replace t8 := t8.below hb22
  replace t9 := t9.below hb22
  replace t14 := t14.below hb22
  have C22 := bel_trans C21 hb22
  have sz22 := hb22.size
  clear t14
  go_wp2
  go_ret
  exact ⟨rfl, C22⟩


end Go.Proofs.Ytjgacdebmmigpaa
