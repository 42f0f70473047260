/-
  A circuit as a value: its box, what it reads as, the laws' helpers on it.
-/
import Derived.Test.YtfichpppjpgahaaC1
import Derived.Test.YtfichpppjpgahaaU
import Derived.Test.YtfichpppjpgahaaAp
namespace Go.Proofs.Ytfichpppjpgahaa
open Go.RowKit
set_option linter.unusedVariables false
set_option linter.unusedSimpArgs false

/-- A box of four cells. -/
structure B4 (w : World) (b : Nat) (x0 x1 x2 x3 : Value) : Prop where
  c0 : w.cell? ⟨b, 0, none⟩ = some x0
  c1 : w.cell? ⟨b, 1, none⟩ = some x1
  c2 : w.cell? ⟨b, 2, none⟩ = some x2
  c3 : w.cell? ⟨b, 3, none⟩ = some x3
theorem B4.lt {w : World} {b : Nat} {x0 x1 x2 x3 : Value} (h : B4 w b x0 x1 x2 x3) : b < w.heap.size := lt_of_cell h.c0
theorem B4.on {w w' : World} {b : Nat} {x0 x1 x2 x3 : Value} (h : B4 w b x0 x1 x2 x3) (hb : Below w.heap.size w w') : B4 w' b x0 x1 x2 x3 :=
  ⟨cell_on h.c0 hb, cell_on h.c1 hb, cell_on h.c2 hb, cell_on h.c3 hb⟩
theorem B4.new {w : World} {x0 x1 x2 x3 : Value} {t : TypeId} : B4 (w.alloc (.cells #[x0, x1, x2, x3] t)) w.heap.size x0 x1 x2 x3 :=
  ⟨World.cell?_alloc_at _ _ _ _ rfl, World.cell?_alloc_at _ _ _ _ rfl, World.cell?_alloc_at _ _ _ _ rfl, World.cell?_alloc_at _ _ _ _ rfl⟩
/-- A box of four cells that may be written. -/
structure B4w (w : World) (b : Nat) (x0 x1 x2 x3 : Value) : Prop where
  r : B4 w b x0 x1 x2 x3
  f0 : w.frozen? ⟨b, 0, none⟩ = false
  f1 : w.frozen? ⟨b, 1, none⟩ = false
  f2 : w.frozen? ⟨b, 2, none⟩ = false
  f3 : w.frozen? ⟨b, 3, none⟩ = false
theorem B4w.on {w w' : World} {b : Nat} {x0 x1 x2 x3 : Value} (h : B4w w b x0 x1 x2 x3) (hb : Below w.heap.size w w') : B4w w' b x0 x1 x2 x3 :=
  ⟨h.r.on hb, (hb.frozen (p := ⟨b, 0, none⟩) h.r.lt).trans h.f0, (hb.frozen (p := ⟨b, 1, none⟩) h.r.lt).trans h.f1, (hb.frozen (p := ⟨b, 2, none⟩) h.r.lt).trans h.f2, (hb.frozen (p := ⟨b, 3, none⟩) h.r.lt).trans h.f3⟩
theorem B4w.new {w : World} {x0 x1 x2 x3 : Value} {t : TypeId} : B4w (w.alloc (.cells #[x0, x1, x2, x3] t)) w.heap.size x0 x1 x2 x3 :=
  ⟨B4.new, World.frozen?_alloc_at _ _ _ _ rfl, World.frozen?_alloc_at _ _ _ _ rfl, World.frozen?_alloc_at _ _ _ _ rfl, World.frozen?_alloc_at _ _ _ _ rfl⟩
theorem B4.other {w : World} {b : Nat} {x0 x1 x2 x3 : Value} (h : B4 w b x0 x1 x2 x3) {p : Addr} (hp : p.block ≠ b) (u : Value) : B4 (w.setCell p u) b x0 x1 x2 x3 := by
  have e : ∀ o, (w.setCell p u).cell? ⟨b, o, none⟩ = w.cell? ⟨b, o, none⟩ := fun o => World.cell?_setCell_other _ _ _ _ (fun e => hp (by rw [e]))
  exact ⟨(e 0).trans h.c0, (e 1).trans h.c1, (e 2).trans h.c2, (e 3).trans h.c3⟩
theorem B4w.other {w : World} {b : Nat} {x0 x1 x2 x3 : Value} (h : B4w w b x0 x1 x2 x3) {p : Addr} (hp : p.block ≠ b) (u : Value) : B4w (w.setCell p u) b x0 x1 x2 x3 :=
  ⟨h.r.other hp u, by simpa using h.f0, by simpa using h.f1, by simpa using h.f2, by simpa using h.f3⟩
theorem B4w.s0 {w : World} {b : Nat} {x0 x1 x2 x3 : Value} (h : B4w w b x0 x1 x2 x3) (u : Value) : B4w (w.setCell ⟨b, 0, none⟩ u) b u x1 x2 x3 :=
  ⟨⟨World.cell?_setCell_same _ _ _ h.r.c0, (World.cell?_setCell_other _ _ _ _ (by simp)).trans h.r.c1, (World.cell?_setCell_other _ _ _ _ (by simp)).trans h.r.c2, (World.cell?_setCell_other _ _ _ _ (by simp)).trans h.r.c3⟩, by simpa using h.f0, by simpa using h.f1, by simpa using h.f2, by simpa using h.f3⟩
theorem B4w.s1 {w : World} {b : Nat} {x0 x1 x2 x3 : Value} (h : B4w w b x0 x1 x2 x3) (u : Value) : B4w (w.setCell ⟨b, 1, none⟩ u) b x0 u x2 x3 :=
  ⟨⟨(World.cell?_setCell_other _ _ _ _ (by simp)).trans h.r.c0, World.cell?_setCell_same _ _ _ h.r.c1, (World.cell?_setCell_other _ _ _ _ (by simp)).trans h.r.c2, (World.cell?_setCell_other _ _ _ _ (by simp)).trans h.r.c3⟩, by simpa using h.f0, by simpa using h.f1, by simpa using h.f2, by simpa using h.f3⟩
theorem B4w.s2 {w : World} {b : Nat} {x0 x1 x2 x3 : Value} (h : B4w w b x0 x1 x2 x3) (u : Value) : B4w (w.setCell ⟨b, 2, none⟩ u) b x0 x1 u x3 :=
  ⟨⟨(World.cell?_setCell_other _ _ _ _ (by simp)).trans h.r.c0, (World.cell?_setCell_other _ _ _ _ (by simp)).trans h.r.c1, World.cell?_setCell_same _ _ _ h.r.c2, (World.cell?_setCell_other _ _ _ _ (by simp)).trans h.r.c3⟩, by simpa using h.f0, by simpa using h.f1, by simpa using h.f2, by simpa using h.f3⟩
theorem B4w.s3 {w : World} {b : Nat} {x0 x1 x2 x3 : Value} (h : B4w w b x0 x1 x2 x3) (u : Value) : B4w (w.setCell ⟨b, 3, none⟩ u) b x0 x1 x2 u :=
  ⟨⟨(World.cell?_setCell_other _ _ _ _ (by simp)).trans h.r.c0, (World.cell?_setCell_other _ _ _ _ (by simp)).trans h.r.c1, (World.cell?_setCell_other _ _ _ _ (by simp)).trans h.r.c2, World.cell?_setCell_same _ _ _ h.r.c3⟩, by simpa using h.f0, by simpa using h.f1, by simpa using h.f2, by simpa using h.f3⟩
theorem B4w.set {w : World} {b : Nat} {x0 x1 x2 x3 : Value} (h : B4w w b x0 x1 x2 x3) (a0 a1 a2 a3 : Value) : B4w ((((w.setCell ⟨b, 0, none⟩ a0).setCell ⟨b, 1, none⟩ a1).setCell ⟨b, 2, none⟩ a2).setCell ⟨b, 3, none⟩ a3) b a0 a1 a2 a3 :=
  (((h.s0 a0).s1 a1).s2 a2).s3 a3
theorem bel_set4 {w w0 : World} {B b : Nat} (h : Below B w0 w) (hb : B ≤ b) (x y z u : Value) : Below B w0 ((((w.setCell ⟨b, 0, none⟩ x).setCell ⟨b, 1, none⟩ y).setCell ⟨b, 2, none⟩ z).setCell ⟨b, 3, none⟩ u) :=
  (((h.setCell hb _).setCell hb _).setCell hb _).setCell hb _

/-- What a circuit's slices read as: its gates, its outs. -/
structure Circ (w : World) (ga : Option Addr) (gn gc : Nat) (gs : List Int) (oa : Option Addr) (on oc : Nat) (os : List Int) : Prop where
  g : Recs 3 w ga gn gc gs
  o : Ints w oa on oc os
theorem Circ.below {w w' : World} {ga oa : Option Addr} {gn gc on oc : Nat} {gs os : List Int} (h : Circ w ga gn gc gs oa on oc os) (hb : Below w.heap.size w w') : Circ w' ga gn gc gs oa on oc os := ⟨h.g.below hb, h.o.below hb⟩
/-- A circuit of a call's own. -/
structure CircM (w : World) (B : Nat) (ga : Option Addr) (gn gc : Nat) (gs : List Int) (oa : Option Addr) (on oc : Nat) (os : List Int) : Prop where
  g : MineK 3 w B ga gn gc gs
  o : Mine w B oa on oc os
  ap : Apart ga (gn * 3) oa on
theorem CircM.circ {w : World} {B : Nat} {ga oa : Option Addr} {gn gc on oc : Nat} {gs os : List Int} (h : CircM w B ga gn gc gs oa on oc os) : Circ w ga gn gc gs oa on oc os := ⟨h.g.recs, h.o.ints⟩
theorem CircM.below {w w' : World} {B : Nat} {ga oa : Option Addr} {gn gc on oc : Nat} {gs os : List Int} (h : CircM w B ga gn gc gs oa on oc os) (hb : Below w.heap.size w w') : CircM w' B ga gn gc gs oa on oc os := ⟨h.g.below hb, h.o.below hb, h.ap⟩
theorem CircM.base {w : World} {B B' : Nat} {ga oa : Option Addr} {gn gc on oc : Nat} {gs os : List Int} (h : CircM w B ga gn gc gs oa on oc os) (hB : B' ≤ B) : CircM w B' ga gn gc gs oa on oc os := ⟨h.g.base hB, h.o.base hB, h.ap⟩
/-- Where a circuit of a call's own lies. -/
def PlaceC (ga : Option Addr) (gn : Nat) (oa : Option Addr) (on lo hi : Nat) : Prop := PlaceM ga (gn * 3) lo hi ∧ PlaceM oa on lo hi
theorem CircM.pl {w : World} {B : Nat} {ga oa : Option Addr} {gn gc on oc : Nat} {gs os : List Int} (h : CircM w B ga gn gc gs oa on oc os) : PlaceC ga gn oa on B w.heap.size := ⟨h.g.pl, h.o.pl⟩
theorem CircM.onlyI {w w' : World} {B : Nat} {ga oa : Option Addr} {gn gc on oc : Nat} {gs os : List Int} {lo hi lo' hi' : Nat} (h : CircM w B ga gn gc gs oa on oc os) (ho : OnlyI lo' hi' w w') (p : PlaceC ga gn oa on lo hi) (hd : hi ≤ lo' ∨ hi' ≤ lo) : CircM w' B ga gn gc gs oa on oc os :=
  ⟨h.g.onlyI ho p.1 hd, h.o.onlyI ho p.2 hd, h.ap⟩
theorem onlyI_set {lo hi : Nat} {w w' : World} {p : Addr} (h : OnlyI lo hi w w') (h1 : lo ≤ p.block) (h2 : p.block < hi) (u : Value) : OnlyI lo hi w (w'.setCell p u) :=
  ⟨h.os, h.tape, h.output, by simpa [World.setCell] using h.size, fun k hk => (Below.heap_setCell _ _ _ _ (by omega)).trans (h.block k hk)⟩
/-- A circuit among a law's arguments. -/
def CircIn (w : World) (ga : Option Addr) (gn gc : Nat) (gs : List Int) (oa : Option Addr) (on oc : Nat) (os : List Int) : Prop := RecsIn 3 w ga gn gc gs ∧ IntsIn w oa on oc os
theorem IntsIn.belowC {w w' : World} {a : Option Addr} {n c : Nat} {zs : List Int} (h : IntsIn w a n c zs) (hb : Below w.heap.size w w') : IntsIn w' a n c zs := ⟨h.1, fun hn => (h.2 hn).below hb⟩
