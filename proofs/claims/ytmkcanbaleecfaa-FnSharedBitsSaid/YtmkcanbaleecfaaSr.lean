/-
  A maker of circuits beside a cursor.
-/
import Derived.Test.YtmkcanbaleecfaaSp
namespace Go.Proofs.Ytmkcanbaleecfaa
open Go.RowKit
set_option linter.unusedVariables false
set_option linter.unusedSimpArgs false
set_option maxRecDepth 10000

theorem MkG.lt {W : World} {g : Nat} {i0 i1 : Int} {v2 : Value} {n : Nat} {gs : List Int} (h : MkG W g i0 i1 v2 n gs) : g < W.heap.size := World.block_lt_of_cell? _ _ h.box.1
theorem MkG.bex {b g : Nat} {W W' : World} {i0 i1 : Int} {v2 : Value} {n : Nat} {gs : List Int} (h : MkG W g i0 i1 v2 n gs) (k : Bex b W W') (hb : b < g) : MkG W' g i0 i1 v2 n gs := by
  have hl := h.lt
  obtain ⟨⟨b0, b1, b2, b3⟩, p2, p3, og⟩ := h
  exact ⟨⟨k.cell b0 (by omega), k.cell b1 (by omega), k.cell b2 (by omega), k.cell b3 (by omega)⟩, (k.frozen hl (by omega)).trans p2, (k.frozen hl (by omega)).trans p3, ownsRow_bex og k (by omega)⟩
theorem MkG.new {w : World} {i0 i1 : Int} : MkG (w.alloc (.cells #[.int .i64 i0, .int .i64 i1, .slice none 0 0, .slice none 0 0] 120)) w.heap.size i0 i1 (.slice none 0 0) 0 [] :=
  ⟨B4.new, by simp, by simp, World.ownsRow_nil _ _ _ _⟩
theorem MkG.sl {W : World} {g : Nat} {i0 i1 : Int} {v2 : Value} {n : Nat} {gs : List Int} (h : MkG W g i0 i1 v2 n gs) : ∃ a c, v2 = .slice a n c := by
  rcases h.og.2 with ⟨h1, h2⟩ | ⟨q, cap, cur, hv, _⟩
  · exact ⟨none, 0, by first | rw [h1, h2] | simp_all⟩
  · exact ⟨_, _, hv⟩
/-- A maker of circuits, in block g, whose gates are laid and whose outs grow from block X on. -/
structure MkO (W : World) (g X : Nat) (i0 i1 : Int) (ga : Option Addr) (n gc : Nat) (gs : List Int) (v3 : Value) (m : Nat) (os : List Int) : Prop where
  box : B4 W g (.int .i64 i0) (.int .i64 i1) (.slice ga n gc) v3
  f3 : W.frozen? ⟨g, 3, none⟩ = false
  og : W.ownsRow (g + 1) 83 3 (.slice ga n gc) n (ivs gs)
  oo : W.ownsRow X 3 1 v3 m (ivs os)
  lt : ∀ q, Value.ownBlock (.slice ga n gc) = some q → q < X
  gX : g < X
  XW : X ≤ W.heap.size
theorem MkG.outs {W : World} {g : Nat} {i0 i1 : Int} {ga : Option Addr} {n gc : Nat} {gs : List Int} (h : MkG W g i0 i1 (.slice ga n gc) n gs) : MkO W g W.heap.size i0 i1 ga n gc gs (.slice none 0 0) 0 [] :=
  ⟨h.box, h.f3, h.og, World.ownsRow_nil _ _ _ _, fun q hq => (ownLt h.og q hq).2, h.lt, Nat.le_refl _⟩
theorem MkO.bex {b g X : Nat} {W W' : World} {i0 i1 : Int} {ga : Option Addr} {n gc : Nat} {gs : List Int} {v3 : Value} {m : Nat} {os : List Int} (h : MkO W g X i0 i1 ga n gc gs v3 m os) (k : Bex b W W') (hb : b < g) : MkO W' g X i0 i1 ga n gc gs v3 m os := by
  have hl : g < W.heap.size := World.block_lt_of_cell? _ _ h.box.1
  have gx := h.gX
  obtain ⟨⟨b0, b1, b2, b3⟩, p3, og, oo, l, _, xw⟩ := h
  exact ⟨⟨k.cell b0 (by omega), k.cell b1 (by omega), k.cell b2 (by omega), k.cell b3 (by omega)⟩, (k.frozen hl (by omega)).trans p3, ownsRow_bex og k (by omega), ownsRow_bex oo k (by omega), l, gx, Nat.le_trans xw k.size⟩
/-- One more out: the append, then the store into the box. -/
theorem MkO.grow {g X : Nat} {W W1 W9 : World} {i0 i1 : Int} {ga : Option Addr} {n gc : Nat} {gs : List Int} {v3 v9 : Value} {m : Nat} {os : List Int} {u : Int} (h : MkO W g X i0 i1 ga n gc gs v3 m os) (hb1 : Below W.heap.size W W1)
    (hv : W9.ownsRow X 3 1 v9 (m + 1) (ivs (os ++ [u]))) (hb : Below X W1 W9) (hg : W1.grownBy W9 v3.ownBlock) : MkO (W9.setCell ⟨g, 3, none⟩ v9) g X i0 i1 ga n gc gs v9 (m + 1) (os ++ [u]) := by
  have gx := h.gX
  obtain ⟨⟨b0, b1, b2, b3⟩, p3, og, oo, l, _, xw⟩ := h
  have hl : g < W.heap.size := World.block_lt_of_cell? _ _ b0
  have c0 := (hb.cell (p := ⟨g, 0, none⟩) gx).trans (cell_on b0 hb1)
  have c1 := (hb.cell (p := ⟨g, 1, none⟩) gx).trans (cell_on b1 hb1)
  have c2 := (hb.cell (p := ⟨g, 2, none⟩) gx).trans (cell_on b2 hb1)
  have c3 := (hb.cell (p := ⟨g, 3, none⟩) gx).trans (cell_on b3 hb1)
  have q3 := (hb.frozen (p := ⟨g, 3, none⟩) gx).trans ((hb1.frozen (p := ⟨g, 3, none⟩) hl).trans p3)
  have og1 := (ownsRow_below og hb1).kept hg (by
    cases h5 : Value.ownBlock (.slice ga n gc) with
    | none => exact Or.inl rfl
    | some q => exact Or.inr fun e => by have x1 := (ownLt oo q e.symm).1; have x2 := l q h5; omega)
  have kx := Bex.set (b := g) (i := 3) W9 v9
  exact ⟨⟨(World.cell?_setCell_other _ _ _ _ (by simp)).trans c0, (World.cell?_setCell_other _ _ _ _ (by simp)).trans c1, (World.cell?_setCell_other _ _ _ _ (by simp)).trans c2, World.cell?_setCell_same _ _ _ c3⟩, by simpa using q3, ownsRow_bex og1 kx (by omega), ownsRow_bex hv kx gx, l, gx, Nat.le_trans xw (Nat.le_trans hb1.size (Nat.le_trans hb.size kx.size))⟩
/-- What is handed back. -/
theorem MkO.circ {g X L : Nat} {W : World} {i0 i1 : Int} {ga : Option Addr} {n gc : Nat} {gs : List Int} {v3 : Value} {m : Nat} {os : List Int} (h : MkO W g X i0 i1 ga n gc gs v3 m os) (hL : L ≤ g) (hn : n ≤ 1000) (hm : m ≤ 1000) (fg : ∀ x ∈ gs, Fits x) (fo : ∀ x ∈ os, Fits x) :
    ∃ oa oc, v3 = .slice oa m oc ∧ CircM W L ga n gc gs oa m oc os := by
  have gx := h.gX
  obtain ⟨a1, c1, e1, m1⟩ := MineK.of h.og (by omega) (by omega) fg
  simp only [Value.slice.injEq] at e1; obtain ⟨rfl, -, rfl⟩ := e1
  obtain ⟨a2, c2, e2, m2⟩ := Mine.of h.oo (by omega) fo
  have hl := h.lt; have ho := h.oo
  subst e2
  refine ⟨a2, c2, rfl, m1.base (by omega), m2.base (by omega), fun h1 h2 q o q' o' e e' k => ?_⟩
  subst e e' k
  have x1 := (m2.place.out h2 q o' rfl).1
  have x2 := hl q rfl
  omega
end Go.Proofs.Ytmkcanbaleecfaa
