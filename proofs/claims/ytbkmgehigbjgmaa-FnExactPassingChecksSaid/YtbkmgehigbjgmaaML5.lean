/-
  The walk of the exact law on PassingChecks.
-/
import Derived.Test.YtbkmgehigbjgmaaM5
namespace Go.Proofs.Ytbkmgehigbjgmaa
open Go.RowKit
set_option linter.unusedVariables false
set_option linter.unusedSimpArgs false

set_option maxHeartbeats 4000000 in
theorem law_FnExactPassingChecks (x0 : Int) (a1 : Option Addr) (n1 c1 : Nat) (z1 : List Int) (a2 : Option Addr) (n2 c2 : Nat) (z2 : List Int) (a3 : Option Addr) (n3 c3 : Nat) (z3 : List Int) (a4 : Option Addr) (n4 c4 : Nat) (z4 : List Int) (w : World) (hx0 : Fits x0) (ha1 : IntsIn w a1 n1 c1 z1) (ha2 : IntsIn w a2 n2 c2 z2) (ha3 : IntsIn w a3 n3 c3 z3) (ha4 : IntsIn w a4 n4 c4 z4) :
    Calls Try.prog 10 #[.int .i64 x0, .slice a1 n1 c1, .slice a2 n2 c2, .slice a3 n3 c3, .slice a4 n4 c4] w fun e w' => e = .returned (.bool true) ∧ Below w.heap.size w w' := by
  obtain ⟨hma1, hia1⟩ := ha1
  obtain ⟨hma2, hia2⟩ := ha2
  obtain ⟨hma3, hia3⟩ := ha3
  obtain ⟨hma4, hia4⟩ := ha4
  by_cases hga1 : n1 ≤ 1048576
  rotate_left
  · go_enter Try.func10, Try.ntmps10
    go_wp2
    go_ret
    exact ⟨rfl, Below.refl _ _⟩
  have ia1 := hia1 hga1
  by_cases hga2 : n2 ≤ 1048576
  rotate_left
  · go_enter Try.func10, Try.ntmps10
    go_wp2
    go_ret
    exact ⟨rfl, Below.refl _ _⟩
  have ia2 := hia2 hga2
  by_cases hga3 : n3 ≤ 1048576
  rotate_left
  · go_enter Try.func10, Try.ntmps10
    go_wp2
    go_ret
    exact ⟨rfl, Below.refl _ _⟩
  have ia3 := hia3 hga3
  by_cases hga4 : n4 ≤ 1048576
  rotate_left
  · go_enter Try.func10, Try.ntmps10
    go_wp2
    go_ret
    exact ⟨rfl, Below.refl _ _⟩
  have ia4 := hia4 hga4
  have HS := fun (W : World) (b1 : Option Addr) (e1 : Nat) (k1 : Ints W b1 n1 e1 z1) (b2 : Option Addr) (e2 : Nat) (k2 : Ints W b2 n2 e2 z2) (b3 : Option Addr) (e3 : Nat) (k3 : Ints W b3 n3 e3 z3) (b4 : Option Addr) (e4 : Nat) (k4 : Ints W b4 n4 e4 z4) => s_PassingChecks x0 b1 n1 e1 z1 b2 n2 e2 z2 b3 n3 e3 z3 b4 n4 e4 z4 W hx0 k1 k2 k3 k4
  have HI := fun (W : World) (b1 : Option Addr) (e1 : Nat) (k1 : Ints W b1 n1 e1 z1) (b2 : Option Addr) (e2 : Nat) (k2 : Ints W b2 n2 e2 z2) (b3 : Option Addr) (e3 : Nat) (k3 : Ints W b3 n3 e3 z3) (b4 : Option Addr) (e4 : Nat) (k4 : Ints W b4 n4 e4 z4) => i_PassingChecks x0 b1 n1 e1 z1 b2 n2 e2 z2 b3 n3 e3 z3 b4 n4 e4 z4 W hx0 k1 k2 k3 k4
  obtain ⟨y0, hy0⟩ : ∃ y, y = (passingChecks x0 z1 z2 z3 z4).1 := ⟨_, rfl⟩
  obtain ⟨y1, hy1⟩ : ∃ y, y = (passingChecks x0 z1 z2 z3 z4).2 := ⟨_, rfl⟩
  simp only [← hy0, ← hy1] at HS HI
  clear hy0 hy1
  have HHS := Lib.hid HS; have HHI := Lib.hid HI; clear HS HI
  go_enter Try.func10, Try.ntmps10
  have i0_ia1 := ia1
  have i0_ia2 := ia2
  have i0_ia3 := ia3
  have i0_ia4 := ia4
  go_wp2_with fail
  refine (l_conv a1 n1 c1 z1 _ ia1).mono ?_; rintro e wd1 ⟨t0a, t0c, rfl, t0, hb1⟩
  replace ia1 := ia1.below hb1
  replace ia2 := ia2.below hb1
  replace ia3 := ia3.below hb1
  replace ia4 := ia4.below hb1
  have B1 := hb1
  have sz1 := hb1.size
  have pt0 := t0.pl
  go_wp2_with fail
  refine (l_conv a2 n2 c2 z2 _ ia2).mono ?_; rintro e wd2 ⟨t1a, t1c, rfl, t1, hb2⟩
  replace ia1 := ia1.below hb2
  replace ia2 := ia2.below hb2
  replace ia3 := ia3.below hb2
  replace ia4 := ia4.below hb2
  replace t0 := t0.below hb2
  have B2 := bel_trans B1 hb2
  have sz2 := hb2.size
  have pt1 := t1.pl
  go_wp2_with fail
  refine (l_conv a3 n3 c3 z3 _ ia3).mono ?_; rintro e wd3 ⟨t2a, t2c, rfl, t2, hb3⟩
  replace ia1 := ia1.below hb3
  replace ia2 := ia2.below hb3
  replace ia3 := ia3.below hb3
  replace ia4 := ia4.below hb3
  replace t0 := t0.below hb3
  replace t1 := t1.below hb3
  have B3 := bel_trans B2 hb3
  have sz3 := hb3.size
  have pt2 := t2.pl
  go_wp2_with fail
  refine (l_conv a4 n4 c4 z4 _ ia4).mono ?_; rintro e wd4 ⟨t3a, t3c, rfl, t3, hb4⟩
  replace ia1 := ia1.below hb4
  replace ia2 := ia2.below hb4
  replace ia3 := ia3.below hb4
  replace ia4 := ia4.below hb4
  replace t0 := t0.below hb4
  replace t1 := t1.below hb4
  replace t2 := t2.below hb4
  have B4 := bel_trans B3 hb4
  have sz4 := hb4.size
  have pt3 := t3.pl
  go_wp2_with fail
  refine (HHS.out _ t0a t0c t0.ints t1a t1c t1.ints t2a t2c t2.ints t3a t3c t3.ints).mono ?_; rintro e wd5 ⟨rfl, hb5⟩
  replace ia1 := ia1.below hb5
  replace ia2 := ia2.below hb5
  replace ia3 := ia3.below hb5
  replace ia4 := ia4.below hb5
  replace t0 := t0.below hb5
  replace t1 := t1.below hb5
  replace t2 := t2.below hb5
  replace t3 := t3.below hb5
  have B5 := bel_trans B4 hb5
  have sz5 := hb5.size
  clear t0 pt0
  clear t1 pt1
  clear t2 pt2
  clear t3 pt3
  go_wp2_with fail
  refine (l_conv a1 n1 c1 z1 _ ia1).mono ?_; rintro e wd6 ⟨t4a, t4c, rfl, t4, hb6⟩
  replace ia1 := ia1.below hb6
  replace ia2 := ia2.below hb6
  replace ia3 := ia3.below hb6
  replace ia4 := ia4.below hb6
  have B6 := bel_trans B5 hb6
  have sz6 := hb6.size
  have pt4 := t4.pl
  go_wp2_with fail
  refine (l_conv a2 n2 c2 z2 _ ia2).mono ?_; rintro e wd7 ⟨t5a, t5c, rfl, t5, hb7⟩
  replace ia1 := ia1.below hb7
  replace ia2 := ia2.below hb7
  replace ia3 := ia3.below hb7
  replace ia4 := ia4.below hb7
  replace t4 := t4.below hb7
  have B7 := bel_trans B6 hb7
  have sz7 := hb7.size
  have pt5 := t5.pl
  go_wp2_with fail
  refine (l_conv a3 n3 c3 z3 _ ia3).mono ?_; rintro e wd8 ⟨t6a, t6c, rfl, t6, hb8⟩
  replace ia1 := ia1.below hb8
  replace ia2 := ia2.below hb8
  replace ia3 := ia3.below hb8
  replace ia4 := ia4.below hb8
  replace t4 := t4.below hb8
  replace t5 := t5.below hb8
  have B8 := bel_trans B7 hb8
  have sz8 := hb8.size
  have pt6 := t6.pl
  go_wp2_with fail
  refine (l_conv a4 n4 c4 z4 _ ia4).mono ?_; rintro e wd9 ⟨t7a, t7c, rfl, t7, hb9⟩
  replace ia1 := ia1.below hb9
  replace ia2 := ia2.below hb9
  replace ia3 := ia3.below hb9
  replace ia4 := ia4.below hb9
  replace t4 := t4.below hb9
  replace t5 := t5.below hb9
  replace t6 := t6.below hb9
  have B9 := bel_trans B8 hb9
  have sz9 := hb9.size
  have pt7 := t7.pl
  go_wp2_with fail
  refine (HHI.out _ t4a t4c t4.ints t5a t5c t5.ints t6a t6c t6.ints t7a t7c t7.ints).mono ?_; rintro e wd10 ⟨rfl, hb10⟩
  replace ia1 := ia1.below hb10
  replace ia2 := ia2.below hb10
  replace ia3 := ia3.below hb10
  replace ia4 := ia4.below hb10
  replace t4 := t4.below hb10
  replace t5 := t5.below hb10
  replace t6 := t6.below hb10
  replace t7 := t7.below hb10
  have B10 := bel_trans B9 hb10
  have sz10 := hb10.size
  go_wp2_with fail
  refine (l_conv a1 n1 c1 z1 _ ia1).mono ?_; rintro e wd11 ⟨t8a, t8c, rfl, t8, hb11⟩
  replace ia1 := ia1.below hb11
  replace ia2 := ia2.below hb11
  replace ia3 := ia3.below hb11
  replace ia4 := ia4.below hb11
  replace t4 := t4.below hb11
  replace t5 := t5.below hb11
  replace t6 := t6.below hb11
  replace t7 := t7.below hb11
  have B11 := bel_trans B10 hb11
  have sz11 := hb11.size
  have pt8 := t8.pl
  go_wp2_with fail
  refine (l_eqIntS _ _ _ _ _ z1 _ t4.ints t8.ints).mono ?_; rintro e wd12 ⟨rfl, hb12⟩
  replace ia1 := ia1.below hb12
  replace ia2 := ia2.below hb12
  replace ia3 := ia3.below hb12
  replace ia4 := ia4.below hb12
  replace t4 := t4.below hb12
  replace t5 := t5.below hb12
  replace t6 := t6.below hb12
  replace t7 := t7.below hb12
  replace t8 := t8.below hb12
  have B12 := bel_trans B11 hb12
  have sz12 := hb12.size
  clear t8 pt8
  go_wp2_with fail
  refine (l_conv a2 n2 c2 z2 _ ia2).mono ?_; rintro e wd13 ⟨t9a, t9c, rfl, t9, hb13⟩
  replace ia1 := ia1.below hb13
  replace ia2 := ia2.below hb13
  replace ia3 := ia3.below hb13
  replace ia4 := ia4.below hb13
  replace t4 := t4.below hb13
  replace t5 := t5.below hb13
  replace t6 := t6.below hb13
  replace t7 := t7.below hb13
  have B13 := bel_trans B12 hb13
  have sz13 := hb13.size
  have pt9 := t9.pl
  go_wp2_with fail
  refine (l_eqIntS _ _ _ _ _ z2 _ t5.ints t9.ints).mono ?_; rintro e wd14 ⟨rfl, hb14⟩
  replace ia1 := ia1.below hb14
  replace ia2 := ia2.below hb14
  replace ia3 := ia3.below hb14
  replace ia4 := ia4.below hb14
  replace t4 := t4.below hb14
  replace t5 := t5.below hb14
  replace t6 := t6.below hb14
  replace t7 := t7.below hb14
  replace t9 := t9.below hb14
  have B14 := bel_trans B13 hb14
  have sz14 := hb14.size
  clear t9 pt9
  go_wp2_with fail
  refine (l_conv a3 n3 c3 z3 _ ia3).mono ?_; rintro e wd15 ⟨t10a, t10c, rfl, t10, hb15⟩
  replace ia1 := ia1.below hb15
  replace ia2 := ia2.below hb15
  replace ia3 := ia3.below hb15
  replace ia4 := ia4.below hb15
  replace t4 := t4.below hb15
  replace t5 := t5.below hb15
  replace t6 := t6.below hb15
  replace t7 := t7.below hb15
  have B15 := bel_trans B14 hb15
  have sz15 := hb15.size
  have pt10 := t10.pl
  go_wp2_with fail
  refine (l_eqIntS _ _ _ _ _ z3 _ t6.ints t10.ints).mono ?_; rintro e wd16 ⟨rfl, hb16⟩
  replace ia1 := ia1.below hb16
  replace ia2 := ia2.below hb16
  replace ia3 := ia3.below hb16
  replace ia4 := ia4.below hb16
  replace t4 := t4.below hb16
  replace t5 := t5.below hb16
  replace t6 := t6.below hb16
  replace t7 := t7.below hb16
  replace t10 := t10.below hb16
  have B16 := bel_trans B15 hb16
  have sz16 := hb16.size
  clear t10 pt10
  go_wp2_with fail
  refine (l_conv a4 n4 c4 z4 _ ia4).mono ?_; rintro e wd17 ⟨t11a, t11c, rfl, t11, hb17⟩
  replace ia1 := ia1.below hb17
  replace ia2 := ia2.below hb17
  replace ia3 := ia3.below hb17
  replace ia4 := ia4.below hb17
  replace t4 := t4.below hb17
  replace t5 := t5.below hb17
  replace t6 := t6.below hb17
  replace t7 := t7.below hb17
  have B17 := bel_trans B16 hb17
  have sz17 := hb17.size
  have pt11 := t11.pl
  go_wp2_with fail
  refine (l_eqIntS _ _ _ _ _ z4 _ t7.ints t11.ints).mono ?_; rintro e wd18 ⟨rfl, hb18⟩
  replace ia1 := ia1.below hb18
  replace ia2 := ia2.below hb18
  replace ia3 := ia3.below hb18
  replace ia4 := ia4.below hb18
  replace t4 := t4.below hb18
  replace t5 := t5.below hb18
  replace t6 := t6.below hb18
  replace t7 := t7.below hb18
  replace t11 := t11.below hb18
  have B18 := bel_trans B17 hb18
  have sz18 := hb18.size
  clear t11 pt11
  go_wp2
  go_ret
  exact ⟨rfl, B18⟩


end Go.Proofs.Ytbkmgehigbjgmaa
