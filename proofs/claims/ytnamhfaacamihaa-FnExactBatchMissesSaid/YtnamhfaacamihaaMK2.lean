/-
  The walk of the exact law on BatchMisses.
-/
import Derived.Test.YtnamhfaacamihaaK2
namespace Go.Proofs.Ytnamhfaacamihaa
open Go.RowKit
set_option linter.unusedVariables false
set_option linter.unusedSimpArgs false

set_option maxHeartbeats 4000000 in
theorem law_FnExactBatchMisses (x0 : Int) (a1 : Option Addr) (n1 c1 : Nat) (z1 : List Int) (a2 : Option Addr) (n2 c2 : Nat) (z2 : List Int) (w : World) (hx0 : Fits x0) (ha1 : IntsIn w a1 n1 c1 z1) (ha2 : IntsIn w a2 n2 c2 z2) :
    Calls Try.prog 10 #[.int .i64 x0, .slice a1 n1 c1, .slice a2 n2 c2] w fun e w' => e = .returned (.bool true) ∧ Below w.heap.size w w' := by
  obtain ⟨hma1, hia1⟩ := ha1
  obtain ⟨hma2, hia2⟩ := ha2
  by_cases hga1 : n1 ≤ 1048576
  rotate_left
  · go_enter Try.func10, Try.ntmps10
    go_wp2
    go_ret
    exact ⟨rfl, Below.refl _ _⟩
  have ia1 := hia1 hga1
  by_cases hga2 : n2 ≤ 1048576
  rotate_left
  · go_enter Try.func10, Try.ntmps10
    go_wp2
    go_ret
    exact ⟨rfl, Below.refl _ _⟩
  have ia2 := hia2 hga2
  have HS := fun (W : World) (b1 : Option Addr) (e1 : Nat) (k1 : Ints W b1 n1 e1 z1) (b2 : Option Addr) (e2 : Nat) (k2 : Ints W b2 n2 e2 z2) => s_BatchMisses x0 b1 n1 e1 z1 b2 n2 e2 z2 W hx0 k1 k2
  have HI := fun (W : World) (b1 : Option Addr) (e1 : Nat) (k1 : Ints W b1 n1 e1 z1) (b2 : Option Addr) (e2 : Nat) (k2 : Ints W b2 n2 e2 z2) => i_BatchMisses x0 b1 n1 e1 z1 b2 n2 e2 z2 W hx0 k1 k2
  obtain ⟨y0, hy0⟩ : ∃ y, y = (batchMisses x0 z1 z2).1 := ⟨_, rfl⟩
  obtain ⟨y1, hy1⟩ : ∃ y, y = (batchMisses x0 z1 z2).2 := ⟨_, rfl⟩
  simp only [← hy0, ← hy1] at HS HI
  clear hy0 hy1
  have HHS := Lib.hid HS; have HHI := Lib.hid HI; clear HS HI
  go_enter Try.func10, Try.ntmps10
  have i0_ia1 := ia1
  have i0_ia2 := ia2
  go_wp2_with fail
  refine (l_conv a1 n1 c1 z1 _ ia1).mono ?_; rintro e wd1 ⟨t0a, t0c, rfl, t0, hb1⟩
  replace ia1 := ia1.below hb1
  replace ia2 := ia2.below hb1
  have B1 := hb1
  have sz1 := hb1.size
  have pt0 := t0.pl
  go_wp2_with fail
  refine (l_conv a2 n2 c2 z2 _ ia2).mono ?_; rintro e wd2 ⟨t1a, t1c, rfl, t1, hb2⟩
  replace ia1 := ia1.below hb2
  replace ia2 := ia2.below hb2
  replace t0 := t0.below hb2
  have B2 := bel_trans B1 hb2
  have sz2 := hb2.size
  have pt1 := t1.pl
  go_wp2_with fail
  refine (HHS.out _ t0a t0c t0.ints t1a t1c t1.ints).mono ?_; rintro e wd3 ⟨rfl, hb3⟩
  replace ia1 := ia1.below hb3
  replace ia2 := ia2.below hb3
  replace t0 := t0.below hb3
  replace t1 := t1.below hb3
  have B3 := bel_trans B2 hb3
  have sz3 := hb3.size
  clear t0 pt0
  clear t1 pt1
  go_wp2_with fail
  refine (l_conv a1 n1 c1 z1 _ ia1).mono ?_; rintro e wd4 ⟨t2a, t2c, rfl, t2, hb4⟩
  replace ia1 := ia1.below hb4
  replace ia2 := ia2.below hb4
  have B4 := bel_trans B3 hb4
  have sz4 := hb4.size
  have pt2 := t2.pl
  go_wp2_with fail
  refine (l_conv a2 n2 c2 z2 _ ia2).mono ?_; rintro e wd5 ⟨t3a, t3c, rfl, t3, hb5⟩
  replace ia1 := ia1.below hb5
  replace ia2 := ia2.below hb5
  replace t2 := t2.below hb5
  have B5 := bel_trans B4 hb5
  have sz5 := hb5.size
  have pt3 := t3.pl
  go_wp2_with fail
  refine (HHI.out _ t2a t2c t2.ints t3a t3c t3.ints).mono ?_; rintro e wd6 ⟨rfl, hb6⟩
  replace ia1 := ia1.below hb6
  replace ia2 := ia2.below hb6
  replace t2 := t2.below hb6
  replace t3 := t3.below hb6
  have B6 := bel_trans B5 hb6
  have sz6 := hb6.size
  go_wp2_with fail
  refine (l_conv a1 n1 c1 z1 _ ia1).mono ?_; rintro e wd7 ⟨t4a, t4c, rfl, t4, hb7⟩
  replace ia1 := ia1.below hb7
  replace ia2 := ia2.below hb7
  replace t2 := t2.below hb7
  replace t3 := t3.below hb7
  have B7 := bel_trans B6 hb7
  have sz7 := hb7.size
  have pt4 := t4.pl
  go_wp2_with fail
  refine (l_eqIntS _ _ _ _ _ z1 _ t2.ints t4.ints).mono ?_; rintro e wd8 ⟨rfl, hb8⟩
  replace ia1 := ia1.below hb8
  replace ia2 := ia2.below hb8
  replace t2 := t2.below hb8
  replace t3 := t3.below hb8
  replace t4 := t4.below hb8
  have B8 := bel_trans B7 hb8
  have sz8 := hb8.size
  clear t4 pt4
  go_wp2_with fail
  refine (l_conv a2 n2 c2 z2 _ ia2).mono ?_; rintro e wd9 ⟨t5a, t5c, rfl, t5, hb9⟩
  replace ia1 := ia1.below hb9
  replace ia2 := ia2.below hb9
  replace t2 := t2.below hb9
  replace t3 := t3.below hb9
  have B9 := bel_trans B8 hb9
  have sz9 := hb9.size
  have pt5 := t5.pl
  go_wp2_with fail
  refine (l_eqIntS _ _ _ _ _ z2 _ t3.ints t5.ints).mono ?_; rintro e wd10 ⟨rfl, hb10⟩
  replace ia1 := ia1.below hb10
  replace ia2 := ia2.below hb10
  replace t2 := t2.below hb10
  replace t3 := t3.below hb10
  replace t5 := t5.below hb10
  have B10 := bel_trans B9 hb10
  have sz10 := hb10.size
  clear t5 pt5
  go_wp2
  go_ret
  exact ⟨rfl, B10⟩


end Go.Proofs.Ytnamhfaacamihaa
