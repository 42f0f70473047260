/-
  The walk of the exact law on RowsMatch.
-/
import Derived.Test.YtjgacdebmmigpaaE4
namespace Go.Proofs.Ytjgacdebmmigpaa
open Go.RowKit
set_option linter.unusedVariables false
set_option linter.unusedSimpArgs false

set_option maxHeartbeats 8000000 in
theorem law_FnExactRowsMatch (a0 : Option Addr) (n0 c0 : Nat) (z0 : List Int) (a1 : Option Addr) (n1 c1 : Nat) (z1 : List Int) (a2 : Option Addr) (n2 c2 : Nat) (z2 : List (List Int)) (a3 : Option Addr) (n3 c3 : Nat) (z3 : List (List Int)) (w : World) (ha0 : IntsIn w a0 n0 c0 z0) (ha1 : IntsIn w a1 n1 c1 z1) (ha2 : RowsIn w a2 n2 c2 z2) (ha3 : RowsIn w a3 n3 c3 z3) :
    Calls Try.prog 5 #[.slice a0 n0 c0, .slice a1 n1 c1, .slice a2 n2 c2, .slice a3 n3 c3] w fun e w' => e = .returned (.bool true) ∧ Below w.heap.size w w' := by
  obtain ⟨hma0, hia0⟩ := ha0
  obtain ⟨hma1, hia1⟩ := ha1
  by_cases hga0 : n0 ≤ 1048576
  rotate_left
  · go_enter Try.func5, Try.ntmps5
    go_wp2
    go_ret
    exact ⟨rfl, Below.refl _ _⟩
  have i0_a0 := hia0 hga0
  clear hia0 hma0
  by_cases hga1 : n1 ≤ 1048576
  rotate_left
  · go_enter Try.func5, Try.ntmps5
    go_wp2
    go_ret
    exact ⟨rfl, Below.refl _ _⟩
  have i0_a1 := hia1 hga1
  clear hia1 hma1
  have HS := fun (W : World) (b0 : Option Addr) (e0 : Nat) (k0 : Ints W b0 n0 e0 z0) (b1 : Option Addr) (e1 : Nat) (k1 : Ints W b1 n1 e1 z1) (b2 : Option Addr) (e2 : Nat) (k2 : Rws W b2 n2 e2 z2) (b3 : Option Addr) (e3 : Nat) (k3 : Rws W b3 n3 e3 z3) => s_RowsMatch b0 n0 e0 z0 b1 n1 e1 z1 b2 n2 e2 z2 b3 n3 e3 z3 W k0 k1 k2 k3
  have HI := fun (W : World) (b0 : Option Addr) (e0 : Nat) (k0 : Ints W b0 n0 e0 z0) (b1 : Option Addr) (e1 : Nat) (k1 : Ints W b1 n1 e1 z1) (b2 : Option Addr) (e2 : Nat) (k2 : Rws W b2 n2 e2 z2) (b3 : Option Addr) (e3 : Nat) (k3 : Rws W b3 n3 e3 z3) => i_RowsMatch b0 n0 e0 z0 b1 n1 e1 z1 b2 n2 e2 z2 b3 n3 e3 z3 W k0 k1 k2 k3
  obtain ⟨y0, hy0⟩ : ∃ y, y = (rowsMatch z0 z1 z2 z3).1 := ⟨_, rfl⟩
  obtain ⟨y1, hy1⟩ : ∃ y, y = (rowsMatch z0 z1 z2 z3).2 := ⟨_, rfl⟩
  simp only [← hy0, ← hy1] at HS HI
  clear hy0 hy1
  have HHS := Lib.hid HS; have HHI := Lib.hid HI; clear HS HI
  go_enter Try.func5, Try.ntmps5
  go_wp2_with fail
  refine (l_szIntSS a2 n2 c2 z2 _ _ ha2 (by omega) (by omega)).mono ?_; rintro e wx ⟨l1, rfl, hwx, hsa2⟩; subst hwx
  rcases hsa2 with rfl | ⟨hl1, hl1', i0_a2, ha2T, ha2N⟩
  · go_wp2
    go_ret
    exact ⟨rfl, Below.refl _ _⟩
  go_wp2_with fail
  refine (l_szIntSS a3 n3 c3 z3 _ _ ha3 (by omega) (by omega)).mono ?_; rintro e wx ⟨l2, rfl, hwx, hsa3⟩; subst hwx
  rcases hsa3 with rfl | ⟨hl2, hl2', i0_a3, ha3T, ha3N⟩
  · go_wp2
    go_ret
    exact ⟨rfl, Below.refl _ _⟩
  go_wp2_with fail
  refine (l_conv a0 n0 c0 z0 _ i0_a0).mono ?_; rintro e wd1 ⟨t0a, t0c, rfl, t0, hb1⟩
  have C1 := hb1
  have sz1 := hb1.size
  have pt0 := t0.pl
  go_wp2_with fail
  refine (l_conv a1 n1 c1 z1 _ (i0_a1.below C1)).mono ?_; rintro e wd2 ⟨t1a, t1c, rfl, t1, hb2⟩
  replace t0 := t0.below hb2
  have C2 := bel_trans C1 hb2
  have sz2 := hb2.size
  have pt1 := t1.pl
  go_wp2_with fail
  refine (l_convSS a2 n2 c2 z2 _ (i0_a2.below C2) ha2N).mono ?_; rintro e wd3 ⟨t2a, t2c, rfl, t2, hb3⟩
  replace t0 := t0.below hb3
  replace t1 := t1.below hb3
  have C3 := bel_trans C2 hb3
  have sz3 := hb3.size
  go_wp2_with fail
  refine (l_convSS a3 n3 c3 z3 _ (i0_a3.below C3) ha3N).mono ?_; rintro e wd4 ⟨t3a, t3c, rfl, t3, hb4⟩
  replace t0 := t0.below hb4
  replace t1 := t1.below hb4
  replace t2 := t2.below hb4
  have C4 := bel_trans C3 hb4
  have sz4 := hb4.size
  go_wp2_with fail
  refine (HHS.out _ t0a t0c t0.ints t1a t1c t1.ints t2a t2c t2.rows t3a t3c t3.rows).mono ?_; rintro e wd5 ⟨rfl, hb5⟩
  replace t0 := t0.below hb5
  replace t1 := t1.below hb5
  replace t2 := t2.below hb5
  replace t3 := t3.below hb5
  have C5 := bel_trans C4 hb5
  have sz5 := hb5.size
  clear t0 pt0
  clear t1 pt1
  clear t2
  clear t3
  go_wp2_with fail
  refine (l_conv a0 n0 c0 z0 _ (i0_a0.below C5)).mono ?_; rintro e wd6 ⟨t4a, t4c, rfl, t4, hb6⟩
  have C6 := bel_trans C5 hb6
  have sz6 := hb6.size
  have pt4 := t4.pl
  go_wp2_with fail
  refine (l_conv a1 n1 c1 z1 _ (i0_a1.below C6)).mono ?_; rintro e wd7 ⟨t5a, t5c, rfl, t5, hb7⟩
  replace t4 := t4.below hb7
  have C7 := bel_trans C6 hb7
  have sz7 := hb7.size
  have pt5 := t5.pl
  go_wp2_with fail
  refine (l_convSS a2 n2 c2 z2 _ (i0_a2.below C7) ha2N).mono ?_; rintro e wd8 ⟨t6a, t6c, rfl, t6, hb8⟩
  replace t4 := t4.below hb8
  replace t5 := t5.below hb8
  have C8 := bel_trans C7 hb8
  have sz8 := hb8.size
  go_wp2_with fail
  refine (l_convSS a3 n3 c3 z3 _ (i0_a3.below C8) ha3N).mono ?_; rintro e wd9 ⟨t7a, t7c, rfl, t7, hb9⟩
  replace t4 := t4.below hb9
  replace t5 := t5.below hb9
  replace t6 := t6.below hb9
  have C9 := bel_trans C8 hb9
  have sz9 := hb9.size
  go_wp2_with fail
  refine (HHI.out _ t4a t4c t4.ints t5a t5c t5.ints t6a t6c t6.rows t7a t7c t7.rows).mono ?_; rintro e wd10 ⟨rfl, hb10⟩
  replace t4 := t4.below hb10
  replace t5 := t5.below hb10
  replace t6 := t6.below hb10
  replace t7 := t7.below hb10
  have C10 := bel_trans C9 hb10
  have sz10 := hb10.size
  go_wp2_with fail
  refine (l_conv a0 n0 c0 z0 _ (i0_a0.below C10)).mono ?_; rintro e wd11 ⟨t8a, t8c, rfl, t8, hb11⟩
  replace t4 := t4.below hb11
  replace t5 := t5.below hb11
  replace t6 := t6.below hb11
  replace t7 := t7.below hb11
  have C11 := bel_trans C10 hb11
  have sz11 := hb11.size
  have pt8 := t8.pl
  go_wp2_with fail
  refine (l_eqIntS _ _ _ _ _ z0 _ t4.ints t8.ints).mono ?_; rintro e wd12 ⟨rfl, hb12⟩
  replace t4 := t4.below hb12
  replace t5 := t5.below hb12
  replace t6 := t6.below hb12
  replace t7 := t7.below hb12
  replace t8 := t8.below hb12
  have C12 := bel_trans C11 hb12
  have sz12 := hb12.size
  clear t8 pt8
  go_wp2_with fail
  refine (l_conv a1 n1 c1 z1 _ (i0_a1.below C12)).mono ?_; rintro e wd13 ⟨t9a, t9c, rfl, t9, hb13⟩
  replace t4 := t4.below hb13
  replace t5 := t5.below hb13
  replace t6 := t6.below hb13
  replace t7 := t7.below hb13
  have C13 := bel_trans C12 hb13
  have sz13 := hb13.size
  have pt9 := t9.pl
  go_wp2_with fail
  refine (l_eqIntS _ _ _ _ _ z1 _ t5.ints t9.ints).mono ?_; rintro e wd14 ⟨rfl, hb14⟩
  replace t4 := t4.below hb14
  replace t5 := t5.below hb14
  replace t6 := t6.below hb14
  replace t7 := t7.below hb14
  replace t9 := t9.below hb14
  have C14 := bel_trans C13 hb14
  have sz14 := hb14.size
  clear t9 pt9
  go_wp2_with fail
  refine (l_convSS a2 n2 c2 z2 _ (i0_a2.below C14) ha2N).mono ?_; rintro e wd15 ⟨t10a, t10c, rfl, t10, hb15⟩
  replace t4 := t4.below hb15
  replace t5 := t5.below hb15
  replace t6 := t6.below hb15
  replace t7 := t7.below hb15
  have C15 := bel_trans C14 hb15
  have sz15 := hb15.size
  go_wp2_with fail
  refine (l_eqIntSS _ _ _ _ _ z2 _ t6.rows t10.rows).mono ?_; rintro e wd16 ⟨rfl, hb16⟩
  replace t4 := t4.below hb16
  replace t5 := t5.below hb16
  replace t6 := t6.below hb16
  replace t7 := t7.below hb16
  replace t10 := t10.below hb16
  have C16 := bel_trans C15 hb16
  have sz16 := hb16.size
  clear t10
  go_wp2_with fail
  refine (l_convSS a3 n3 c3 z3 _ (i0_a3.below C16) ha3N).mono ?_; rintro e wd17 ⟨t11a, t11c, rfl, t11, hb17⟩
  replace t4 := t4.below hb17
  replace t5 := t5.below hb17
  replace t6 := t6.below hb17
  replace t7 := t7.below hb17
  have C17 := bel_trans C16 hb17
  have sz17 := hb17.size
  go_wp2_with fail
  refine (l_eqIntSS _ _ _ _ _ z3 _ t7.rows t11.rows).mono ?_; rintro e wd18 ⟨rfl, hb18⟩
  replace t4 := t4.below hb18
  replace t5 := t5.below hb18
  replace t6 := t6.below hb18
  replace t7 := t7.below hb18
  replace t11 := t11.below hb18
  have C18 := bel_trans C17 hb18
  have sz18 := hb18.size
  clear t11
  go_wp2
  go_ret
  exact ⟨rfl, C18⟩


end Go.Proofs.Ytjgacdebmmigpaa
