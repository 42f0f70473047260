/-
  The walk of the law FnExactPartyWires.
-/
import Derived.Test.YtmkcanbaleecfaaC12
import Derived.Test.YtmkcanbaleecfaaOp3
namespace Go.Proofs.Ytmkcanbaleecfaa
open Go.RowKit
set_option linter.unusedVariables false
set_option linter.unusedSimpArgs false
set_option maxRecDepth 100000

set_option maxHeartbeats 16000000 in
theorem law_FnExactPartyWires (i0 i1 : Int) (ga : Option Addr) (gn gc : Nat) (gs : List Int) (oa : Option Addr) (on oc : Nat) (os : List Int) (x1 : Int) (x2 : Int) (a3 : Option Addr) (n3 c3 : Nat) (z3 : List Int) (a4 : Option Addr) (n4 c4 : Nat) (z4 : List Int) (w : World) (hi0 : Fits i0) (hi1 : Fits i1) (hCI : CircIn w ga gn gc gs oa on oc os) (hx1 : Fits x1) (hx2 : Fits x2) (ha3 : IntsIn w a3 n3 c3 z3) (ha4 : RecsIn 3 w a4 n4 c4 z4) :
    Calls Try.prog 7 #[.agg #[.int .i64 i0, .int .i64 i1, .slice ga gn gc, .slice oa on oc], .int .i64 x1, .int .i64 x2, .slice a3 n3 c3, .slice a4 n4 c4] w fun e w' => e = .returned (.bool true) ∧ Below w.heap.size w w' := by
  have A0_ := bel_alloc w (.cells #[.int .i64 i0, .int .i64 i1, .slice ga gn gc, .slice oa on oc] 25)
  obtain ⟨hma3, hia3⟩ := ha3
  by_cases hga3 : n3 ≤ 1048576
  rotate_left
  · go_enter Try.func7, Try.ntmps7
    go_wp2
    go_ret
    exact ⟨rfl, A0_⟩
  have i0_a3 := hia3 hga3
  clear hia3 hma3
  have hcl0 := (pwAll_len i0 i1 gs gn os x1 x2 z3 z4)
  clear A0_
  obtain ⟨wd0, hwd0⟩ : ∃ X, X = w.alloc (.cells #[.int .i64 i0, .int .i64 i1, .slice ga gn gc, .slice oa on oc] 25) := ⟨_, rfl⟩
  have B0 : Below w.heap.size w wd0 := by rw [hwd0]; exact bel_alloc _ _
  have gb0 : B4 wd0 w.heap.size (.int .i64 i0) (.int .i64 i1) (.slice ga gn gc) (.slice oa on oc) := by rw [hwd0]; exact B4.new
  replace hwd0 := hwd0.symm
  have szB := B0.size; have szB1 := gb0.lt
  replace hCI : CircIn wd0 ga gn gc gs oa on oc os := ⟨⟨hCI.1.1, fun q => (hCI.1.2 q).below B0⟩, hCI.2.belowC B0⟩
  replace i0_a3 := i0_a3.below B0
  replace ha4 : RecsIn 3 wd0 a4 n4 c4 z4 := ⟨ha4.1, fun q => (ha4.2 q).below B0⟩
  have kk_ := gb0; obtain ⟨gb00, gb01, gb02, gb03⟩ := kk_
  have HS := fun (W : World) (qg : Option Addr) (qgc : Nat) (qo : Option Addr) (qoc : Nat) (kC : Circ W qg gn qgc gs qo on qoc os) (b3 : Option Addr) (e3 : Nat) (k3 : Ints W b3 n3 e3 z3) (b4 : Option Addr) (e4 : Nat) (k4 : Recs 3 W b4 n4 e4 z4) => s_PartyWires i0 i1 qg gn qgc gs qo on qoc os x1 x2 b3 n3 e3 z3 b4 n4 e4 z4 W kC hx1 hx2 k3 k4
  have HI := fun (W : World) (qg : Option Addr) (qgc : Nat) (qo : Option Addr) (qoc : Nat) (kC : Circ W qg gn qgc gs qo on qoc os) (b3 : Option Addr) (e3 : Nat) (k3 : Ints W b3 n3 e3 z3) (b4 : Option Addr) (e4 : Nat) (k4 : Recs 3 W b4 n4 e4 z4) => i_PartyWires i0 i1 qg gn qgc gs qo on qoc os x1 x2 b3 n3 e3 z3 b4 n4 e4 z4 W kC hx1 hx2 k3 k4
  simp only [PwEnd] at HS HI
  obtain ⟨y0, hy0⟩ : ∃ y, y = (pwAll i0 i1 gs gn os x1 x2 z3 z4).1 := ⟨_, rfl⟩
  obtain ⟨y1, hy1⟩ : ∃ y, y = (pwAll i0 i1 gs gn os x1 x2 z3 z4).2 := ⟨_, rfl⟩
  simp only [← hy0, ← hy1] at HS HI
  rw [← hy0] at hcl0
  clear hy0 hy1
  have HHS := Lib.hid HS; have HHI := Lib.hid HI; clear HS HI
  go_enter Try.func7, Try.ntmps7
  go_wp2_with fail
  refine (l_szCircuit i0 i1 ga gn gc gs oa on oc os _ _ hCI (by omega) (by omega)).mono ?_; rintro e wd1 ⟨l1, rfl, hb1, hs_⟩
  have C1 := hb1
  have sz1 := hb1.size
  replace gb0 := gb0.on hb1; clear gb00 gb01 gb02 gb03
  have kk_ := gb0; obtain ⟨gb00, gb01, gb02, gb03⟩ := kk_
  rcases hs_ with rfl | ⟨hl1, hl1', hCC0, hgn, hon⟩
  · go_wp2
    go_ret
    exact ⟨rfl, bel_trans B0 C1⟩
  have hCC : Circ wd0 ga gn gc gs oa on oc os := ⟨hCI.1.2 hgn, hCI.2.2 hon⟩; clear hCC0
  clear hCI
  go_wp2_with fail
  refine (l_szOpenedS a4 n4 c4 z4 _ _ (show RecsIn 3 _ _ _ _ _ from ⟨ha4.1, fun q => (ha4.2 q).below C1⟩) (by omega) (by omega)).mono ?_; rintro e wx ⟨l2, rfl, hwx, hs_⟩; subst hwx
  rcases hs_ with rfl | ⟨hl2, hl2', i0_a4X, ha4T, ha4N⟩
  · go_wp2
    go_ret
    exact ⟨rfl, bel_trans B0 C1⟩
  have i0_a4 := ha4.2 ha4N; clear i0_a4X ha4
  go_wp2_with fail
  refine (l_toCircuit i0 i1 ga gn gc gs oa on oc os _ (hCC.below C1) (by omega)).mono ?_; rintro e wd2 ⟨t0g, t0gc, t0o, t0oc, rfl, t0, hb2⟩
  have C2 := bel_trans C1 hb2
  have sz2 := hb2.size
  replace gb0 := gb0.on hb2; clear gb00 gb01 gb02 gb03
  have kk_ := gb0; obtain ⟨gb00, gb01, gb02, gb03⟩ := kk_
  have pt0 := t0.pl
  go_wp2_with fail
  refine (l_conv a3 n3 c3 z3 _ (i0_a3.below C2)).mono ?_; rintro e wd3 ⟨t1a, t1c, rfl, t1, hb3⟩
  replace t0 := t0.below hb3
  have C3 := bel_trans C2 hb3
  have sz3 := hb3.size
  replace gb0 := gb0.on hb3; clear gb00 gb01 gb02 gb03
  have kk_ := gb0; obtain ⟨gb00, gb01, gb02, gb03⟩ := kk_
  have pt1 := t1.pl
  go_wp2_with fail
  refine (l_convOp a4 n4 c4 z4 _ (i0_a4.below C3) ha4N).mono ?_; rintro e wd4 ⟨t2a, t2c, rfl, t2, hb4⟩
  replace t0 := t0.below hb4
  replace t1 := t1.below hb4
  have C4 := bel_trans C3 hb4
  have sz4 := hb4.size
  replace gb0 := gb0.on hb4; clear gb00 gb01 gb02 gb03
  have kk_ := gb0; obtain ⟨gb00, gb01, gb02, gb03⟩ := kk_
  have pt2 := t2.pl
  go_wp2_with fail
  refine (HHS.out _ t0g t0gc t0o t0oc t0.circ t1a t1c t1.ints t2a t2c t2.recs).mono ?_; rintro e wd5 ⟨w0a, w0c, rfl, w0, hb5⟩
  replace t0 := t0.below hb5
  replace t1 := t1.below hb5
  replace t2 := t2.below hb5
  have C5 := bel_trans C4 hb5
  have sz5 := hb5.size
  replace gb0 := gb0.on hb5; clear gb00 gb01 gb02 gb03
  have kk_ := gb0; obtain ⟨gb00, gb01, gb02, gb03⟩ := kk_
  have pw0 := w0.pl
  clear t0 pt0
  clear t1 pt1
  clear t2 pt2
  go_wp2_with fail
  refine (l_toCircuit i0 i1 ga gn gc gs oa on oc os _ (hCC.below C5) (by omega)).mono ?_; rintro e wd6 ⟨x0g, x0gc, x0o, x0oc, rfl, x0, hb6⟩
  replace w0 := w0.below hb6
  have C6 := bel_trans C5 hb6
  have sz6 := hb6.size
  replace gb0 := gb0.on hb6; clear gb00 gb01 gb02 gb03
  have kk_ := gb0; obtain ⟨gb00, gb01, gb02, gb03⟩ := kk_
  have px0 := x0.pl
  obtain ⟨wd7, hw1_⟩ : ∃ X, X = wd6.alloc (.cells #[.int .i64 i0, .int .i64 i1, .slice x0g gn x0gc, .slice x0o on x0oc] 31) := ⟨_, rfl⟩
  have hb7 : Below wd6.heap.size wd6 wd7 := by rw [hw1_]; exact bel_alloc _ _
  have gb1 : B4 wd7 wd6.heap.size (.int .i64 i0) (.int .i64 i1) (.slice x0g gn x0gc) (.slice x0o on x0oc) := by rw [hw1_]; exact B4.new
  replace hw1_ := hw1_.symm
  replace w0 := w0.below hb7
  replace x0 := x0.below hb7
  have C7 := bel_trans C6 hb7
  have sz7 := hb7.size
  replace gb0 := gb0.on hb7; clear gb00 gb01 gb02 gb03
  have kk_ := gb0; obtain ⟨gb00, gb01, gb02, gb03⟩ := kk_
  have kk_ := gb1; obtain ⟨gb10, gb11, gb12, gb13⟩ := kk_
  go_wp2_with fail
  refine (l_conv a3 n3 c3 z3 _ (i0_a3.below C7)).mono ?_; rintro e wd8 ⟨t3a, t3c, rfl, t3, hb8⟩
  replace w0 := w0.below hb8
  replace x0 := x0.below hb8
  have C8 := bel_trans C7 hb8
  have sz8 := hb8.size
  replace gb0 := gb0.on hb8; clear gb00 gb01 gb02 gb03
  have kk_ := gb0; obtain ⟨gb00, gb01, gb02, gb03⟩ := kk_
  replace gb1 := gb1.on hb8; clear gb10 gb11 gb12 gb13
  have kk_ := gb1; obtain ⟨gb10, gb11, gb12, gb13⟩ := kk_
  have pt3 := t3.pl
  go_wp2_with fail
  refine (l_convOp a4 n4 c4 z4 _ (i0_a4.below C8) ha4N).mono ?_; rintro e wd9 ⟨t4a, t4c, rfl, t4, hb9⟩
  replace w0 := w0.below hb9
  replace x0 := x0.below hb9
  replace t3 := t3.below hb9
  have C9 := bel_trans C8 hb9
  have sz9 := hb9.size
  replace gb0 := gb0.on hb9; clear gb00 gb01 gb02 gb03
  have kk_ := gb0; obtain ⟨gb00, gb01, gb02, gb03⟩ := kk_
  replace gb1 := gb1.on hb9; clear gb10 gb11 gb12 gb13
  have kk_ := gb1; obtain ⟨gb10, gb11, gb12, gb13⟩ := kk_
  have pt4 := t4.pl
  go_wp2_with fail
  refine (HHI.out _ x0g x0gc x0o x0oc x0.circ t3a t3c t3.ints t4a t4c t4.recs).mono ?_; rintro e wd10 ⟨g0a, g0c, rfl, g0, hb10⟩
  replace w0 := w0.below hb10
  replace x0 := x0.below hb10
  replace t3 := t3.below hb10
  replace t4 := t4.below hb10
  have C10 := bel_trans C9 hb10
  have sz10 := hb10.size
  replace gb0 := gb0.on hb10; clear gb00 gb01 gb02 gb03
  have kk_ := gb0; obtain ⟨gb00, gb01, gb02, gb03⟩ := kk_
  replace gb1 := gb1.on hb10; clear gb10 gb11 gb12 gb13
  have kk_ := gb1; obtain ⟨gb10, gb11, gb12, gb13⟩ := kk_
  have pg0 := g0.pl
  go_wp2_with fail
  refine (l_eqIntS _ _ _ _ _ y0 _ g0.ints w0.ints).mono ?_; rintro e wd11 ⟨rfl, hb11⟩
  replace w0 := w0.below hb11
  replace x0 := x0.below hb11
  replace t3 := t3.below hb11
  replace t4 := t4.below hb11
  replace g0 := g0.below hb11
  have C11 := bel_trans C10 hb11
  have sz11 := hb11.size
  replace gb0 := gb0.on hb11; clear gb00 gb01 gb02 gb03
  have kk_ := gb0; obtain ⟨gb00, gb01, gb02, gb03⟩ := kk_
  replace gb1 := gb1.on hb11; clear gb10 gb11 gb12 gb13
  have kk_ := gb1; obtain ⟨gb10, gb11, gb12, gb13⟩ := kk_
  go_wp2
  go_region_held3 (fun W => (W.cell? ⟨w.heap.size, 0, none⟩ = some (.int .i64 i0) ∧ W.cell? ⟨w.heap.size, 1, none⟩ = some (.int .i64 i1) ∧ W.cell? ⟨w.heap.size, 2, none⟩ = some (.slice ga gn gc) ∧ W.cell? ⟨w.heap.size, 3, none⟩ = some (.slice oa on oc)) ∧ W.cell? ⟨wd6.heap.size, 0, none⟩ = some (.int .i64 i0) ∧ W.cell? ⟨wd6.heap.size, 1, none⟩ = some (.int .i64 i1) ∧ W.cell? ⟨wd6.heap.size, 2, none⟩ = some (.slice x0g gn x0gc) ∧ W.cell? ⟨wd6.heap.size, 3, none⟩ = some (.slice x0o on x0oc)) (exact ⟨⟨gb00, gb01, gb02, gb03⟩, gb10, gb11, gb12, gb13⟩) (first | (go_at_call 12; refine (l_toCircuit i0 i1 ga gn gc gs oa on oc os _ ((hCC.below C11).below (bel_drew _)) (by omega)).mono ?_; rintro e wd12 ⟨t5g, t5gc, t5o, t5oc, rfl, t5, hx1⟩; have hb12 := bel_trans (bel_drew _) hx1; have gb00 := cell_on gb00 hb12; have gb01 := cell_on gb01 hb12; have gb02 := cell_on gb02 hb12; have gb03 := cell_on gb03 hb12; have gb10 := cell_on gb10 hb12; have gb11 := cell_on gb11 hb12; have gb12 := cell_on gb12 hb12; have gb13 := cell_on gb13 hb12) | (go_at_call 14; refine (l_eqCircuit i0 i1 _ _ _ _ _ _ _ _ _ _ gs os _ (x0.circ.below hb12) t5.circ).mono ?_; rintro e wd13 ⟨rfl, hb13⟩; have gb00 := cell_on gb00 hb13; have gb01 := cell_on gb01 hb13; have gb02 := cell_on gb02 hb13; have gb03 := cell_on gb03 hb13; have gb10 := cell_on gb10 hb13; have gb11 := cell_on gb11 hb13; have gb12 := cell_on gb12 hb13; have gb13 := cell_on gb13 hb13))
  replace w0 := w0.below hb12
  replace x0 := x0.below hb12
  replace t3 := t3.below hb12
  replace t4 := t4.below hb12
  replace g0 := g0.below hb12
  have C12 := bel_trans C11 hb12
  have sz12 := hb12.size
  replace gb0 := gb0.on hb12; replace gb1 := gb1.on hb12
  replace w0 := w0.below hb13
  replace x0 := x0.below hb13
  replace t3 := t3.below hb13
  replace t4 := t4.below hb13
  replace g0 := g0.below hb13
  have C13 := bel_trans C12 hb13
  have sz13 := hb13.size
  replace gb0 := gb0.on hb13; replace gb1 := gb1.on hb13
  clear t5
  go_wp2_with fail
  refine (l_conv a3 n3 c3 z3 _ (i0_a3.below C13)).mono ?_; rintro e wd14 ⟨t6a, t6c, rfl, t6, hb14⟩
  replace w0 := w0.below hb14
  replace x0 := x0.below hb14
  replace t3 := t3.below hb14
  replace t4 := t4.below hb14
  replace g0 := g0.below hb14
  have C14 := bel_trans C13 hb14
  have sz14 := hb14.size
  replace gb0 := gb0.on hb14; clear gb00 gb01 gb02 gb03
  have kk_ := gb0; obtain ⟨gb00, gb01, gb02, gb03⟩ := kk_
  replace gb1 := gb1.on hb14; clear gb10 gb11 gb12 gb13
  have kk_ := gb1; obtain ⟨gb10, gb11, gb12, gb13⟩ := kk_
  have pt6 := t6.pl
  go_wp2_with fail
  refine (l_eqIntS _ _ _ _ _ z3 _ t3.ints t6.ints).mono ?_; rintro e wd15 ⟨rfl, hb15⟩
  replace w0 := w0.below hb15
  replace x0 := x0.below hb15
  replace t3 := t3.below hb15
  replace t4 := t4.below hb15
  replace g0 := g0.below hb15
  replace t6 := t6.below hb15
  have C15 := bel_trans C14 hb15
  have sz15 := hb15.size
  replace gb0 := gb0.on hb15; clear gb00 gb01 gb02 gb03
  have kk_ := gb0; obtain ⟨gb00, gb01, gb02, gb03⟩ := kk_
  replace gb1 := gb1.on hb15; clear gb10 gb11 gb12 gb13
  have kk_ := gb1; obtain ⟨gb10, gb11, gb12, gb13⟩ := kk_
  clear t6 pt6
  go_wp2_with fail
  refine (l_convOp a4 n4 c4 z4 _ (i0_a4.below C15) ha4N).mono ?_; rintro e wd16 ⟨t7a, t7c, rfl, t7, hb16⟩
  replace w0 := w0.below hb16
  replace x0 := x0.below hb16
  replace t3 := t3.below hb16
  replace t4 := t4.below hb16
  replace g0 := g0.below hb16
  have C16 := bel_trans C15 hb16
  have sz16 := hb16.size
  replace gb0 := gb0.on hb16; clear gb00 gb01 gb02 gb03
  have kk_ := gb0; obtain ⟨gb00, gb01, gb02, gb03⟩ := kk_
  replace gb1 := gb1.on hb16; clear gb10 gb11 gb12 gb13
  have kk_ := gb1; obtain ⟨gb10, gb11, gb12, gb13⟩ := kk_
  have pt7 := t7.pl
  go_wp2_with fail
  refine (l_eqOp _ _ _ _ _ z4 _ t4.recs t7.recs).mono ?_; rintro e wd17 ⟨rfl, hb17⟩
  replace w0 := w0.below hb17
  replace x0 := x0.below hb17
  replace t3 := t3.below hb17
  replace t4 := t4.below hb17
  replace g0 := g0.below hb17
  replace t7 := t7.below hb17
  have C17 := bel_trans C16 hb17
  have sz17 := hb17.size
  replace gb0 := gb0.on hb17; clear gb00 gb01 gb02 gb03
  have kk_ := gb0; obtain ⟨gb00, gb01, gb02, gb03⟩ := kk_
  replace gb1 := gb1.on hb17; clear gb10 gb11 gb12 gb13
  have kk_ := gb1; obtain ⟨gb10, gb11, gb12, gb13⟩ := kk_
  clear t7 pt7
  go_wp2_with fail
  refine (l_markCircuit i0 i1 _ gn _ _ on _ _ _ _ gs os _ _ x0 px0 (by omega) (by omega) (by omega)).mono ?_; rintro e wd19 ⟨gs_, os_, wd18, rfl, x0m, hb18, hI19⟩
  clear x0
  replace w0 := w0.below hb18
  replace t3 := t3.below hb18
  replace t4 := t4.below hb18
  replace g0 := g0.below hb18
  have C18 := bel_trans C17 hb18
  have sz18 := hb18.size
  replace gb0 := gb0.on hb18; clear gb00 gb01 gb02 gb03
  have kk_ := gb0; obtain ⟨gb00, gb01, gb02, gb03⟩ := kk_
  replace gb1 := gb1.on hb18; clear gb10 gb11 gb12 gb13
  have kk_ := gb1; obtain ⟨gb10, gb11, gb12, gb13⟩ := kk_
  have sz19 := hI19.size
  have C19 := Below.onlyI C18 hI19 (by omega)
  replace w0 := w0.onlyI hI19 pw0 (by omega)
  replace t3 := t3.onlyI hI19 pt3 (by omega)
  replace t4 := t4.onlyI hI19 pt4 (by omega)
  replace g0 := g0.onlyI hI19 pg0 (by omega)
  replace gb0 := gb0.onlyI hI19 (by omega); clear gb00 gb01 gb02 gb03
  have kk_ := gb0; obtain ⟨gb00, gb01, gb02, gb03⟩ := kk_
  replace gb1 := gb1.onlyI hI19 (by omega); clear gb10 gb11 gb12 gb13
  have kk_ := gb1; obtain ⟨gb10, gb11, gb12, gb13⟩ := kk_
  clear x0m
  clear gb1 gb10 gb11 gb12 gb13
  go_wp2_with fail
  refine (l_mark _ _ _ _ z3 _ _ t3 (by omega) (by omega)).mono ?_; rintro e wd20 ⟨rfl, x3m, hb20⟩
  have sz20 := hb20.size
  have C20 := Below.onlyI C19 (hb20.onlyI pt3) (by omega)
  replace w0 := w0.onlyI (hb20.onlyI pt3) pw0 (by omega)
  replace t4 := t4.onlyI (hb20.onlyI pt3) pt4 (by omega)
  replace g0 := g0.onlyI (hb20.onlyI pt3) pg0 (by omega)
  replace gb0 := gb0.onlyI (hb20.onlyI pt3) (by omega); clear gb00 gb01 gb02 gb03
  have kk_ := gb0; obtain ⟨gb00, gb01, gb02, gb03⟩ := kk_
  clear t3; have t3 := x3m; clear x3m
  go_wp2_with fail
  refine (l_markOp _ _ _ _ z4 _ _ t4 (by omega) (by omega)).mono ?_; rintro e wd21 ⟨rfl, x4m, hb21⟩
  have sz21 := hb21.size
  have C21 := Below.onlyI C20 (hb21.onlyI pt4) (by omega)
  replace w0 := w0.onlyI (hb21.onlyI pt4) pw0 (by omega)
  replace t3 := t3.onlyI (hb21.onlyI pt4) pt3 (by omega)
  replace g0 := g0.onlyI (hb21.onlyI pt4) pg0 (by omega)
  replace gb0 := gb0.onlyI (hb21.onlyI pt4) (by omega); clear gb00 gb01 gb02 gb03
  have kk_ := gb0; obtain ⟨gb00, gb01, gb02, gb03⟩ := kk_
  clear t4; have t4 := x4m; clear x4m
  go_wp2_with fail
  refine (l_eqIntS _ _ _ _ _ y0 _ g0.ints w0.ints).mono ?_; rintro e wd22 ⟨rfl, hb22⟩
  replace w0 := w0.below hb22
  replace t3 := t3.below hb22
  replace t4 := t4.below hb22
  replace g0 := g0.below hb22
  have C22 := bel_trans C21 hb22
  have sz22 := hb22.size
  replace gb0 := gb0.on hb22; clear gb00 gb01 gb02 gb03
  have kk_ := gb0; obtain ⟨gb00, gb01, gb02, gb03⟩ := kk_
  go_wp2_with fail
  refine (l_mark _ _ _ _ y0 _ _ g0 (by omega) (by omega)).mono ?_; rintro e wd23 ⟨rfl, g0m, hb23⟩
  have sz23 := hb23.size
  have C23 := Below.onlyI C22 (hb23.onlyI pg0) (by omega)
  replace w0 := w0.onlyI (hb23.onlyI pg0) pw0 (by omega)
  replace t3 := t3.onlyI (hb23.onlyI pg0) pt3 (by omega)
  replace t4 := t4.onlyI (hb23.onlyI pg0) pt4 (by omega)
  replace gb0 := gb0.onlyI (hb23.onlyI pg0) (by omega); clear gb00 gb01 gb02 gb03
  have kk_ := gb0; obtain ⟨gb00, gb01, gb02, gb03⟩ := kk_
  clear g0; have g0 := g0m; clear g0m
  go_wp2_with fail
  refine (l_heldIntS _ _ _ _ _ g0.ints (by omega) (by omega)).mono ?_; rintro e wx ⟨rfl, hwx⟩; subst hwx
  go_wp2_with fail
  refine (l_toCircuit i0 i1 ga gn gc gs oa on oc os _ (hCC.below C23) (by omega)).mono ?_; rintro e wd24 ⟨t8g, t8gc, t8o, t8oc, rfl, t8, hb24⟩
  replace w0 := w0.below hb24
  replace t3 := t3.below hb24
  replace t4 := t4.below hb24
  replace g0 := g0.below hb24
  have C24 := bel_trans C23 hb24
  have sz24 := hb24.size
  replace gb0 := gb0.on hb24; clear gb00 gb01 gb02 gb03
  have kk_ := gb0; obtain ⟨gb00, gb01, gb02, gb03⟩ := kk_
  have pt8 := t8.pl
  go_wp2_with fail
  refine (l_conv a3 n3 c3 z3 _ (i0_a3.below C24)).mono ?_; rintro e wd25 ⟨t9a, t9c, rfl, t9, hb25⟩
  replace w0 := w0.below hb25
  replace t3 := t3.below hb25
  replace t4 := t4.below hb25
  replace g0 := g0.below hb25
  replace t8 := t8.below hb25
  have C25 := bel_trans C24 hb25
  have sz25 := hb25.size
  replace gb0 := gb0.on hb25; clear gb00 gb01 gb02 gb03
  have kk_ := gb0; obtain ⟨gb00, gb01, gb02, gb03⟩ := kk_
  have pt9 := t9.pl
  go_wp2_with fail
  refine (l_convOp a4 n4 c4 z4 _ (i0_a4.below C25) ha4N).mono ?_; rintro e wd26 ⟨t10a, t10c, rfl, t10, hb26⟩
  replace w0 := w0.below hb26
  replace t3 := t3.below hb26
  replace t4 := t4.below hb26
  replace g0 := g0.below hb26
  replace t8 := t8.below hb26
  replace t9 := t9.below hb26
  have C26 := bel_trans C25 hb26
  have sz26 := hb26.size
  replace gb0 := gb0.on hb26; clear gb00 gb01 gb02 gb03
  have kk_ := gb0; obtain ⟨gb00, gb01, gb02, gb03⟩ := kk_
  have pt10 := t10.pl
  go_wp2_with fail
  refine (HHI.out _ t8g t8gc t8o t8oc t8.circ t9a t9c t9.ints t10a t10c t10.recs).mono ?_; rintro e wd27 ⟨h0a, h0c, rfl, h0, hb27⟩
  replace w0 := w0.below hb27
  replace t3 := t3.below hb27
  replace t4 := t4.below hb27
  replace g0 := g0.below hb27
  replace t8 := t8.below hb27
  replace t9 := t9.below hb27
  replace t10 := t10.below hb27
  have C27 := bel_trans C26 hb27
  have sz27 := hb27.size
  replace gb0 := gb0.on hb27; clear gb00 gb01 gb02 gb03
  have kk_ := gb0; obtain ⟨gb00, gb01, gb02, gb03⟩ := kk_
  have ph0 := h0.pl
  clear t8 pt8
  clear t9 pt9
  clear t10 pt10
  go_wp2_with fail
  refine (l_eqIntS _ _ _ _ _ y0 _ h0.ints w0.ints).mono ?_; rintro e wd28 ⟨rfl, hb28⟩
  replace w0 := w0.below hb28
  replace t3 := t3.below hb28
  replace t4 := t4.below hb28
  replace g0 := g0.below hb28
  replace h0 := h0.below hb28
  have C28 := bel_trans C27 hb28
  have sz28 := hb28.size
  replace gb0 := gb0.on hb28; clear gb00 gb01 gb02 gb03
  have kk_ := gb0; obtain ⟨gb00, gb01, gb02, gb03⟩ := kk_
  go_wp2_with fail
  refine (l_heldIntS _ _ _ _ _ g0.ints (by omega) (by omega)).mono ?_; rintro e wx ⟨rfl, hwx⟩; subst hwx
  go_wp2
  go_ret
  exact ⟨rfl, bel_trans B0 C28⟩


end Go.Proofs.Ytmkcanbaleecfaa
