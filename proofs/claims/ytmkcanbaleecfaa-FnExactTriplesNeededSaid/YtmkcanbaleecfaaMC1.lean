/-
  The walk of the law FnExactTriplesNeeded.
-/
import Derived.Test.YtmkcanbaleecfaaC5
namespace Go.Proofs.Ytmkcanbaleecfaa
open Go.RowKit
set_option linter.unusedVariables false
set_option linter.unusedSimpArgs false
set_option maxRecDepth 100000

set_option maxHeartbeats 16000000 in
theorem law_FnExactTriplesNeeded (i0 i1 : Int) (ga : Option Addr) (gn gc : Nat) (gs : List Int) (oa : Option Addr) (on oc : Nat) (os : List Int) (w : World) (hi0 : Fits i0) (hi1 : Fits i1) (hCI : CircIn w ga gn gc gs oa on oc os) :
    Calls Try.prog 3 #[.agg #[.int .i64 i0, .int .i64 i1, .slice ga gn gc, .slice oa on oc]] w fun e w' => e = .returned (.bool true) ∧ Below w.heap.size w w' := by
  have A0_ := bel_alloc w (.cells #[.int .i64 i0, .int .i64 i1, .slice ga gn gc, .slice oa on oc] 25)
  clear A0_
  obtain ⟨wd0, hwd0⟩ : ∃ X, X = w.alloc (.cells #[.int .i64 i0, .int .i64 i1, .slice ga gn gc, .slice oa on oc] 25) := ⟨_, rfl⟩
  have B0 : Below w.heap.size w wd0 := by rw [hwd0]; exact bel_alloc _ _
  have gb0 : B4 wd0 w.heap.size (.int .i64 i0) (.int .i64 i1) (.slice ga gn gc) (.slice oa on oc) := by rw [hwd0]; exact B4.new
  replace hwd0 := hwd0.symm
  have szB := B0.size; have szB1 := gb0.lt
  replace hCI : CircIn wd0 ga gn gc gs oa on oc os := ⟨⟨hCI.1.1, fun q => (hCI.1.2 q).below B0⟩, hCI.2.below B0⟩
  have kk_ := gb0; obtain ⟨gb00, gb01, gb02, gb03⟩ := kk_
  have HS := fun (W : World) (qg : Option Addr) (qgc : Nat) (qo : Option Addr) (qoc : Nat) (kC : Circ W qg gn qgc gs qo on qoc os) => s_TriplesNeeded i0 i1 qg gn qgc gs qo on qoc os W kC
  have HI := fun (W : World) (qg : Option Addr) (qgc : Nat) (qo : Option Addr) (qoc : Nat) (kC : Circ W qg gn qgc gs qo on qoc os) => i_TriplesNeeded i0 i1 qg gn qgc gs qo on qoc os W kC
  obtain ⟨y0, hy0⟩ : ∃ y, y = (triplesNeeded i0 i1 gs gn os).1 := ⟨_, rfl⟩
  obtain ⟨y1, hy1⟩ : ∃ y, y = (triplesNeeded i0 i1 gs gn os).2 := ⟨_, rfl⟩
  simp only [← hy0, ← hy1] at HS HI
  clear hy0 hy1
  have HHS := Lib.hid HS; have HHI := Lib.hid HI; clear HS HI
  go_enter Try.func3, Try.ntmps3
  go_wp2_with fail
  refine (l_szCircuit i0 i1 ga gn gc gs oa on oc os _ _ hCI (by omega) (by omega)).mono ?_; rintro e wd1 ⟨l1, rfl, hb1, hs_⟩
  have C1 := hb1
  have sz1 := hb1.size
  replace gb0 := gb0.on hb1; clear gb00 gb01 gb02 gb03
  have kk_ := gb0; obtain ⟨gb00, gb01, gb02, gb03⟩ := kk_
  rcases hs_ with rfl | ⟨hl1, hl1', hCC0, hgn, hon⟩
  · go_wp2
    go_ret
    exact ⟨rfl, bel_trans B0 C1⟩
  have hCC : Circ wd0 ga gn gc gs oa on oc os := ⟨hCI.1.2 hgn, hCI.2.2 hon⟩; clear hCC0
  clear hCI
  go_wp2_with fail
  refine (l_toCircuit i0 i1 ga gn gc gs oa on oc os _ (hCC.below C1) (by omega)).mono ?_; rintro e wd2 ⟨t0g, t0gc, t0o, t0oc, rfl, t0, hb2⟩
  have C2 := bel_trans C1 hb2
  have sz2 := hb2.size
  replace gb0 := gb0.on hb2; clear gb00 gb01 gb02 gb03
  have kk_ := gb0; obtain ⟨gb00, gb01, gb02, gb03⟩ := kk_
  have pt0 := t0.pl
  go_wp2_with fail
  refine (HHS.out _ t0g t0gc t0o t0oc t0.circ).mono ?_; rintro e wd3 ⟨rfl, hb3⟩
  replace t0 := t0.below hb3
  have C3 := bel_trans C2 hb3
  have sz3 := hb3.size
  replace gb0 := gb0.on hb3; clear gb00 gb01 gb02 gb03
  have kk_ := gb0; obtain ⟨gb00, gb01, gb02, gb03⟩ := kk_
  clear t0 pt0
  go_wp2_with fail
  refine (l_toCircuit i0 i1 ga gn gc gs oa on oc os _ (hCC.below C3) (by omega)).mono ?_; rintro e wd4 ⟨x0g, x0gc, x0o, x0oc, rfl, x0, hb4⟩
  have C4 := bel_trans C3 hb4
  have sz4 := hb4.size
  replace gb0 := gb0.on hb4; clear gb00 gb01 gb02 gb03
  have kk_ := gb0; obtain ⟨gb00, gb01, gb02, gb03⟩ := kk_
  have px0 := x0.pl
  obtain ⟨wd5, hw1_⟩ : ∃ X, X = wd4.alloc (.cells #[.int .i64 i0, .int .i64 i1, .slice x0g gn x0gc, .slice x0o on x0oc] 31) := ⟨_, rfl⟩
  have hb5 : Below wd4.heap.size wd4 wd5 := by rw [hw1_]; exact bel_alloc _ _
  have gb1 : B4 wd5 wd4.heap.size (.int .i64 i0) (.int .i64 i1) (.slice x0g gn x0gc) (.slice x0o on x0oc) := by rw [hw1_]; exact B4.new
  replace hw1_ := hw1_.symm
  replace x0 := x0.below hb5
  have C5 := bel_trans C4 hb5
  have sz5 := hb5.size
  replace gb0 := gb0.on hb5; clear gb00 gb01 gb02 gb03
  have kk_ := gb0; obtain ⟨gb00, gb01, gb02, gb03⟩ := kk_
  have kk_ := gb1; obtain ⟨gb10, gb11, gb12, gb13⟩ := kk_
  go_wp2_with fail
  refine (HHI.out _ x0g x0gc x0o x0oc x0.circ).mono ?_; rintro e wd6 ⟨rfl, hb6⟩
  replace x0 := x0.below hb6
  have C6 := bel_trans C5 hb6
  have sz6 := hb6.size
  replace gb0 := gb0.on hb6; clear gb00 gb01 gb02 gb03
  have kk_ := gb0; obtain ⟨gb00, gb01, gb02, gb03⟩ := kk_
  replace gb1 := gb1.on hb6; clear gb10 gb11 gb12 gb13
  have kk_ := gb1; obtain ⟨gb10, gb11, gb12, gb13⟩ := kk_
  go_wp2
  go_region_held3 (fun W => (W.cell? ⟨w.heap.size, 0, none⟩ = some (.int .i64 i0) ∧ W.cell? ⟨w.heap.size, 1, none⟩ = some (.int .i64 i1) ∧ W.cell? ⟨w.heap.size, 2, none⟩ = some (.slice ga gn gc) ∧ W.cell? ⟨w.heap.size, 3, none⟩ = some (.slice oa on oc)) ∧ W.cell? ⟨wd4.heap.size, 0, none⟩ = some (.int .i64 i0) ∧ W.cell? ⟨wd4.heap.size, 1, none⟩ = some (.int .i64 i1) ∧ W.cell? ⟨wd4.heap.size, 2, none⟩ = some (.slice x0g gn x0gc) ∧ W.cell? ⟨wd4.heap.size, 3, none⟩ = some (.slice x0o on x0oc)) (exact ⟨⟨gb00, gb01, gb02, gb03⟩, gb10, gb11, gb12, gb13⟩) (first | (go_at_call 12; refine (l_toCircuit i0 i1 ga gn gc gs oa on oc os _ ((hCC.below C6).below (bel_drew _)) (by omega)).mono ?_; rintro e wd7 ⟨t1g, t1gc, t1o, t1oc, rfl, t1, hx1⟩; have hb7 := bel_trans (bel_drew _) hx1; have gb00 := cell_on gb00 hb7; have gb01 := cell_on gb01 hb7; have gb02 := cell_on gb02 hb7; have gb03 := cell_on gb03 hb7; have gb10 := cell_on gb10 hb7; have gb11 := cell_on gb11 hb7; have gb12 := cell_on gb12 hb7; have gb13 := cell_on gb13 hb7) | (go_at_call 14; refine (l_eqCircuit i0 i1 _ _ _ _ _ _ _ _ _ _ gs os _ (x0.circ.below hb7) t1.circ).mono ?_; rintro e wd8 ⟨rfl, hb8⟩; have gb00 := cell_on gb00 hb8; have gb01 := cell_on gb01 hb8; have gb02 := cell_on gb02 hb8; have gb03 := cell_on gb03 hb8; have gb10 := cell_on gb10 hb8; have gb11 := cell_on gb11 hb8; have gb12 := cell_on gb12 hb8; have gb13 := cell_on gb13 hb8))
  replace x0 := x0.below hb7
  have C7 := bel_trans C6 hb7
  have sz7 := hb7.size
  replace gb0 := gb0.on hb7; replace gb1 := gb1.on hb7
  replace x0 := x0.below hb8
  have C8 := bel_trans C7 hb8
  have sz8 := hb8.size
  replace gb0 := gb0.on hb8; replace gb1 := gb1.on hb8
  clear t1
  go_wp2
  go_ret
  exact ⟨rfl, bel_trans B0 C8⟩


end Go.Proofs.Ytmkcanbaleecfaa
