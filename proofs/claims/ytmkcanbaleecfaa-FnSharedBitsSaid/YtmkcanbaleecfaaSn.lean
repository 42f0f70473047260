/-
  The maker of circuits.
-/
import Derived.Test.YtmkcanbaleecfaaSm
namespace Go.Proofs.Ytmkcanbaleecfaa
open Go.RowKit
set_option linter.unusedVariables false
set_option linter.unusedSimpArgs false
set_option maxRecDepth 10000

/-- A maker of circuits, in block g, that has no outs yet. -/
structure MkG (W : World) (g : Nat) (i0 i1 : Int) (v2 : Value) (n : Nat) (gs : List Int) : Prop where
  box : B4 W g (.int .i64 i0) (.int .i64 i1) v2 (.slice none 0 0)
  f2 : W.frozen? ⟨g, 2, none⟩ = false
  f3 : W.frozen? ⟨g, 3, none⟩ = false
  og : W.ownsRow (g + 1) 83 3 v2 n (ivs gs)
set_option maxHeartbeats 2000000 in
theorem s_gate (g : Nat) (i0 i1 : Int) (v2 : Value) (n : Nat) (gs : List Int) (k a b : Int) (w : World) (h : MkG w g i0 i1 v2 n gs) (hn : n ≤ 299) (hgl : g + 1 ≤ w.heap.size) (h0 : 0 ≤ i0 ∧ i0 ≤ 20) (h1 : 0 ≤ i1 ∧ i1 ≤ 20) :
    Calls Try.prog 120 #[.pointer (some ⟨g, 0, none⟩), .int .i64 k, .int .i64 a, .int .i64 b] w fun e w' => ∃ x v', e = .returned (.int .i64 x) ∧ MkG w' g i0 i1 v' (n + 1) (gs ++ [k, a, b]) ∧ Below g w w' := by
  obtain ⟨⟨c0, c1, c2, c3⟩, f2, f3, og⟩ := h
  have hne : some g ≠ v2.ownBlock := fun e => by have := (ownLt og g e.symm).1; omega
  have OG := Lib.hid og; clear og
  go_enter Try.func120, Try.ntmps120
  go_wp2_with (at_builtin; refine wp_appG w (g + 1) n v2 gs k a b _ _ rfl _ _ rfl rfl rfl (by first | rfl | simp) OG.out (by omega) (by omega) ?_; intro v9 w9 hv9 hb9 hg9; have d0 := hg9.cell (cell_on c0 (bel_alloc _ _)) hne; have d1 := hg9.cell (cell_on c1 (bel_alloc _ _)) hne; have d2 := hg9.cell (cell_on c2 (bel_alloc _ _)) hne; have d3 := hg9.cell (cell_on c3 (bel_alloc _ _)) hne; have e2 : w9.frozen? ⟨g, 2, none⟩ = false := (hb9.frozen (p := ⟨g, 2, none⟩) (by show g < g + 1; omega)).trans f2; obtain ⟨q9, k9, rfl, hq9, hq9'⟩ := World.ownsRow.form hv9 (by omega); have HV := Lib.hid hv9; have HB := Lib.hid hb9; clear hv9 hb9 hg9)
  have kx := Bex.set (b := g) (i := 2) w9 (.slice (some ⟨q9, 0, none⟩) (n + 1) k9)
  have OV := Lib.hid (ownsRow_bex HV.out kx (by omega))
  have e3 : w9.frozen? ⟨g, 3, none⟩ = false := (HB.out.frozen (p := ⟨g, 3, none⟩) (by show g < g + 1; omega)).trans f3
  have B9 : Hid (MkG (w9.setCell ⟨g, 2, none⟩ (.slice (some ⟨q9, 0, none⟩) (n + 1) k9)) g i0 i1 (.slice (some ⟨q9, 0, none⟩) (n + 1) k9) (n + 1) (gs ++ [k, a, b])) :=
    ⟨⟨(World.cell?_setCell_other _ _ _ _ (by simp)).trans d0, (World.cell?_setCell_other _ _ _ _ (by simp)).trans d1, World.cell?_setCell_same _ _ _ d2, (World.cell?_setCell_other _ _ _ _ (by simp)).trans d3⟩, by simpa using e2, by simpa using e3, OV.out⟩
  have HG : Hid (Below g w (w9.setCell ⟨g, 2, none⟩ (.slice (some ⟨q9, 0, none⟩) (n + 1) k9))) := (HB.out.mono (by omega)).setCell (by simp) _
  refine (s_ciWires i0 i1 _ (n + 1) _ _ 0 0 _ h0 h1 (by omega)).mono ?_; rintro e w8 ⟨rfl, hb8⟩
  have HR : Hid (MkG w8 g i0 i1 (.slice (some ⟨q9, 0, none⟩) (n + 1) k9) (n + 1) (gs ++ [k, a, b])) := by
    obtain ⟨⟨b0, b1, b2, b3⟩, p2, p3, og⟩ := B9.out
    have zz : g < (w9.setCell ⟨g, 2, none⟩ (.slice (some ⟨q9, 0, none⟩) (n + 1) k9)).heap.size := World.block_lt_of_cell? _ _ b0
    exact ⟨⟨cell_on b0 hb8, cell_on b1 hb8, cell_on b2 hb8, cell_on b3 hb8⟩, (hb8.frozen (p := ⟨g, 2, none⟩) zz).trans p2, (hb8.frozen (p := ⟨g, 3, none⟩) zz).trans p3, ownsRow_below og hb8⟩
  have HZ : Hid (Below g w w8) := HG.out.trans (hb8.mono (by simp; have := HB.out.size; omega))
  clear B9 HG OV kx hb8
  go_wp2
  go_ret
  exact ⟨_, _, rfl, HR.out, HZ.out⟩
end Go.Proofs.Ytmkcanbaleecfaa
