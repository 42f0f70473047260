/-
  The walk of the exact law on BatchHolds.
-/
import Derived.Test.YtnamhfaacamihaaTU
namespace Go.Proofs.Ytnamhfaacamihaa
open Go.RowKit
set_option linter.unusedVariables false
set_option linter.unusedSimpArgs false
set_option maxRecDepth 100000

set_option maxHeartbeats 8000000 in
theorem law_FnExactBatchHolds (x0 : Int) (x1 : Int) (a2 : Option Addr) (n2 c2 : Nat) (z2 : List Int) (a3 : Option Addr) (n3 c3 : Nat) (z3 : List Int) (a4 : Option Addr) (n4 c4 : Nat) (z4 : List Int) (w : World) (hx0 : Fits x0) (hx1 : Fits x1) (ha2 : IntsIn w a2 n2 c2 z2) (ha3 : RecsIn 2 w a3 n3 c3 z3) (ha4 : IntsIn w a4 n4 c4 z4) :
    Calls Try.prog 11 #[.int .i64 x0, .int .i64 x1, .slice a2 n2 c2, .slice a3 n3 c3, .slice a4 n4 c4] w fun e w' => e = .returned (.bool true) ∧ Below w.heap.size w w' := by
  obtain ⟨hma2, hia2⟩ := ha2
  obtain ⟨hma4, hia4⟩ := ha4
  by_cases hga2 : n2 ≤ 1048576
  rotate_left
  · go_enter Try.func11, Try.ntmps11
    go_wp2
    go_ret
    exact ⟨rfl, Below.refl _ _⟩
  have i0_a2 := hia2 hga2
  clear hia2 hma2
  by_cases hga4 : n4 ≤ 1048576
  rotate_left
  · go_enter Try.func11, Try.ntmps11
    go_wp2
    go_ret
    exact ⟨rfl, Below.refl _ _⟩
  have i0_a4 := hia4 hga4
  clear hia4 hma4
  have HS := fun (W : World) (b2 : Option Addr) (e2 : Nat) (k2 : Ints W b2 n2 e2 z2) (b3 : Option Addr) (e3 : Nat) (k3 : Recs 2 W b3 n3 e3 z3) (b4 : Option Addr) (e4 : Nat) (k4 : Ints W b4 n4 e4 z4) => s_BatchHolds x0 x1 b2 n2 e2 z2 b3 n3 e3 z3 b4 n4 e4 z4 W hx0 hx1 k2 k3 k4
  have HI := fun (W : World) (b2 : Option Addr) (e2 : Nat) (k2 : Ints W b2 n2 e2 z2) (b3 : Option Addr) (e3 : Nat) (k3 : Recs 2 W b3 n3 e3 z3) (b4 : Option Addr) (e4 : Nat) (k4 : Ints W b4 n4 e4 z4) => i_BatchHolds x0 x1 b2 n2 e2 z2 b3 n3 e3 z3 b4 n4 e4 z4 W hx0 hx1 k2 k3 k4
  obtain ⟨y0, hy0⟩ : ∃ y, y = (batchHolds x0 x1 z2 z3 z4).1 := ⟨_, rfl⟩
  obtain ⟨y1, hy1⟩ : ∃ y, y = (batchHolds x0 x1 z2 z3 z4).2 := ⟨_, rfl⟩
  simp only [← hy0, ← hy1] at HS HI
  clear hy0 hy1
  have HHS := Lib.hid HS; have HHI := Lib.hid HI; clear HS HI
  go_enter Try.func11, Try.ntmps11
  go_wp2_with fail
  refine (l_szTaggedS a3 n3 c3 z3 _ _ ha3 (by omega) (by omega)).mono ?_; rintro e wx ⟨l1, rfl, hwx, hsa3⟩; subst hwx
  rcases hsa3 with rfl | ⟨hl1, hl1', i0_a3, ha3T, ha3N⟩
  · go_wp2
    go_ret
    exact ⟨rfl, Below.refl _ _⟩
  go_wp2_with fail
  refine (l_conv a2 n2 c2 z2 _ i0_a2).mono ?_; rintro e wd1 ⟨t0a, t0c, rfl, t0, hb1⟩
  have C1 := hb1
  have sz1 := hb1.size
  have pt0 := t0.pl
  go_wp2_with fail
  refine (l_convP a3 n3 c3 z3 _ (i0_a3.below C1) ha3N).mono ?_; rintro e wd2 ⟨t1a, t1c, rfl, t1, hb2⟩
  replace t0 := t0.below hb2
  have C2 := bel_trans C1 hb2
  have sz2 := hb2.size
  have pt1 := t1.pl
  go_wp2_with fail
  refine (l_conv a4 n4 c4 z4 _ (i0_a4.below C2)).mono ?_; rintro e wd3 ⟨t2a, t2c, rfl, t2, hb3⟩
  replace t0 := t0.below hb3
  replace t1 := t1.below hb3
  have C3 := bel_trans C2 hb3
  have sz3 := hb3.size
  have pt2 := t2.pl
  go_wp2_with fail
  refine (HHS.out _ t0a t0c t0.ints t1a t1c t1.recs t2a t2c t2.ints).mono ?_; rintro e wd4 ⟨rfl, hb4⟩
  replace t0 := t0.below hb4
  replace t1 := t1.below hb4
  replace t2 := t2.below hb4
  have C4 := bel_trans C3 hb4
  have sz4 := hb4.size
  clear t0 pt0
  clear t1 pt1
  clear t2 pt2
  go_wp2_with fail
  refine (l_conv a2 n2 c2 z2 _ (i0_a2.below C4)).mono ?_; rintro e wd5 ⟨t3a, t3c, rfl, t3, hb5⟩
  have C5 := bel_trans C4 hb5
  have sz5 := hb5.size
  have pt3 := t3.pl
  go_wp2_with fail
  refine (l_convP a3 n3 c3 z3 _ (i0_a3.below C5) ha3N).mono ?_; rintro e wd6 ⟨t4a, t4c, rfl, t4, hb6⟩
  replace t3 := t3.below hb6
  have C6 := bel_trans C5 hb6
  have sz6 := hb6.size
  have pt4 := t4.pl
  go_wp2_with fail
  refine (l_conv a4 n4 c4 z4 _ (i0_a4.below C6)).mono ?_; rintro e wd7 ⟨t5a, t5c, rfl, t5, hb7⟩
  replace t3 := t3.below hb7
  replace t4 := t4.below hb7
  have C7 := bel_trans C6 hb7
  have sz7 := hb7.size
  have pt5 := t5.pl
  go_wp2_with fail
  refine (HHI.out _ t3a t3c t3.ints t4a t4c t4.recs t5a t5c t5.ints).mono ?_; rintro e wd8 ⟨rfl, hb8⟩
  replace t3 := t3.below hb8
  replace t4 := t4.below hb8
  replace t5 := t5.below hb8
  have C8 := bel_trans C7 hb8
  have sz8 := hb8.size
  go_wp2_with fail
  refine (l_conv a2 n2 c2 z2 _ (i0_a2.below C8)).mono ?_; rintro e wd9 ⟨t6a, t6c, rfl, t6, hb9⟩
  replace t3 := t3.below hb9
  replace t4 := t4.below hb9
  replace t5 := t5.below hb9
  have C9 := bel_trans C8 hb9
  have sz9 := hb9.size
  have pt6 := t6.pl
  go_wp2_with fail
  refine (l_eqIntS _ _ _ _ _ z2 _ t3.ints t6.ints).mono ?_; rintro e wd10 ⟨rfl, hb10⟩
  replace t3 := t3.below hb10
  replace t4 := t4.below hb10
  replace t5 := t5.below hb10
  replace t6 := t6.below hb10
  have C10 := bel_trans C9 hb10
  have sz10 := hb10.size
  clear t6 pt6
  go_wp2_with fail
  refine (l_convP a3 n3 c3 z3 _ (i0_a3.below C10) ha3N).mono ?_; rintro e wd11 ⟨t7a, t7c, rfl, t7, hb11⟩
  replace t3 := t3.below hb11
  replace t4 := t4.below hb11
  replace t5 := t5.below hb11
  have C11 := bel_trans C10 hb11
  have sz11 := hb11.size
  have pt7 := t7.pl
  go_wp2_with fail
  refine (l_eqP _ _ _ _ _ z3 _ t4.recs t7.recs).mono ?_; rintro e wd12 ⟨rfl, hb12⟩
  replace t3 := t3.below hb12
  replace t4 := t4.below hb12
  replace t5 := t5.below hb12
  replace t7 := t7.below hb12
  have C12 := bel_trans C11 hb12
  have sz12 := hb12.size
  clear t7 pt7
  go_wp2_with fail
  refine (l_conv a4 n4 c4 z4 _ (i0_a4.below C12)).mono ?_; rintro e wd13 ⟨t8a, t8c, rfl, t8, hb13⟩
  replace t3 := t3.below hb13
  replace t4 := t4.below hb13
  replace t5 := t5.below hb13
  have C13 := bel_trans C12 hb13
  have sz13 := hb13.size
  have pt8 := t8.pl
  go_wp2_with fail
  refine (l_eqIntS _ _ _ _ _ z4 _ t5.ints t8.ints).mono ?_; rintro e wd14 ⟨rfl, hb14⟩
  replace t3 := t3.below hb14
  replace t4 := t4.below hb14
  replace t5 := t5.below hb14
  replace t8 := t8.below hb14
  have C14 := bel_trans C13 hb14
  have sz14 := hb14.size
  clear t8 pt8
  go_wp2
  go_ret
  exact ⟨rfl, C14⟩


end Go.Proofs.Ytnamhfaacamihaa
