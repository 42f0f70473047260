/-
  A circuit as a value: its box, what it reads as, the laws' helpers on it.
-/
import Derived.Test.YtmkcanbaleecfaaC1
import Derived.Test.YtmkcanbaleecfaaU
import Derived.Test.YtmkcanbaleecfaaAp
namespace Go.Proofs.Ytmkcanbaleecfaa
open Go.RowKit
set_option linter.unusedVariables false
set_option linter.unusedSimpArgs false

/-- A box of four cells. -/
structure B4 (w : World) (b : Nat) (x0 x1 x2 x3 : Value) : Prop where
  c0 : w.cell? ⟨b, 0, none⟩ = some x0
  c1 : w.cell? ⟨b, 1, none⟩ = some x1
  c2 : w.cell? ⟨b, 2, none⟩ = some x2
  c3 : w.cell? ⟨b, 3, none⟩ = some x3
theorem B4.lt {w : World} {b : Nat} {x0 x1 x2 x3 : Value} (h : B4 w b x0 x1 x2 x3) : b < w.heap.size := lt_of_cell h.c0
theorem B4.on {w w' : World} {b : Nat} {x0 x1 x2 x3 : Value} (h : B4 w b x0 x1 x2 x3) (hb : Below w.heap.size w w') : B4 w' b x0 x1 x2 x3 :=
  ⟨cell_on h.c0 hb, cell_on h.c1 hb, cell_on h.c2 hb, cell_on h.c3 hb⟩
theorem B4.new {w : World} {x0 x1 x2 x3 : Value} {t : TypeId} : B4 (w.alloc (.cells #[x0, x1, x2, x3] t)) w.heap.size x0 x1 x2 x3 :=
  ⟨World.cell?_alloc_at _ _ _ _ rfl, World.cell?_alloc_at _ _ _ _ rfl, World.cell?_alloc_at _ _ _ _ rfl, World.cell?_alloc_at _ _ _ _ rfl⟩
/-- A box of four cells that may be written. -/
structure B4w (w : World) (b : Nat) (x0 x1 x2 x3 : Value) : Prop where
  r : B4 w b x0 x1 x2 x3
  f0 : w.frozen? ⟨b, 0, none⟩ = false
  f1 : w.frozen? ⟨b, 1, none⟩ = false
  f2 : w.frozen? ⟨b, 2, none⟩ = false
  f3 : w.frozen? ⟨b, 3, none⟩ = false
theorem B4w.on {w w' : World} {b : Nat} {x0 x1 x2 x3 : Value} (h : B4w w b x0 x1 x2 x3) (hb : Below w.heap.size w w') : B4w w' b x0 x1 x2 x3 :=
  ⟨h.r.on hb, (hb.frozen (p := ⟨b, 0, none⟩) h.r.lt).trans h.f0, (hb.frozen (p := ⟨b, 1, none⟩) h.r.lt).trans h.f1, (hb.frozen (p := ⟨b, 2, none⟩) h.r.lt).trans h.f2, (hb.frozen (p := ⟨b, 3, none⟩) h.r.lt).trans h.f3⟩
theorem B4w.new {w : World} {x0 x1 x2 x3 : Value} {t : TypeId} : B4w (w.alloc (.cells #[x0, x1, x2, x3] t)) w.heap.size x0 x1 x2 x3 :=
  ⟨B4.new, World.frozen?_alloc_at _ _ _ _ rfl, World.frozen?_alloc_at _ _ _ _ rfl, World.frozen?_alloc_at _ _ _ _ rfl, World.frozen?_alloc_at _ _ _ _ rfl⟩
theorem B4.other {w : World} {b : Nat} {x0 x1 x2 x3 : Value} (h : B4 w b x0 x1 x2 x3) {p : Addr} (hp : p.block ≠ b) (u : Value) : B4 (w.setCell p u) b x0 x1 x2 x3 := by
  have e : ∀ o, (w.setCell p u).cell? ⟨b, o, none⟩ = w.cell? ⟨b, o, none⟩ := fun o => World.cell?_setCell_other _ _ _ _ (fun e => hp (by rw [e]))
  exact ⟨(e 0).trans h.c0, (e 1).trans h.c1, (e 2).trans h.c2, (e 3).trans h.c3⟩
theorem B4w.other {w : World} {b : Nat} {x0 x1 x2 x3 : Value} (h : B4w w b x0 x1 x2 x3) {p : Addr} (hp : p.block ≠ b) (u : Value) : B4w (w.setCell p u) b x0 x1 x2 x3 :=
  ⟨h.r.other hp u, by simpa using h.f0, by simpa using h.f1, by simpa using h.f2, by simpa using h.f3⟩
theorem B4w.s0 {w : World} {b : Nat} {x0 x1 x2 x3 : Value} (h : B4w w b x0 x1 x2 x3) (u : Value) : B4w (w.setCell ⟨b, 0, none⟩ u) b u x1 x2 x3 :=
  ⟨⟨World.cell?_setCell_same _ _ _ h.r.c0, (World.cell?_setCell_other _ _ _ _ (by simp)).trans h.r.c1, (World.cell?_setCell_other _ _ _ _ (by simp)).trans h.r.c2, (World.cell?_setCell_other _ _ _ _ (by simp)).trans h.r.c3⟩, by simpa using h.f0, by simpa using h.f1, by simpa using h.f2, by simpa using h.f3⟩
theorem B4w.s1 {w : World} {b : Nat} {x0 x1 x2 x3 : Value} (h : B4w w b x0 x1 x2 x3) (u : Value) : B4w (w.setCell ⟨b, 1, none⟩ u) b x0 u x2 x3 :=
  ⟨⟨(World.cell?_setCell_other _ _ _ _ (by simp)).trans h.r.c0, World.cell?_setCell_same _ _ _ h.r.c1, (World.cell?_setCell_other _ _ _ _ (by simp)).trans h.r.c2, (World.cell?_setCell_other _ _ _ _ (by simp)).trans h.r.c3⟩, by simpa using h.f0, by simpa using h.f1, by simpa using h.f2, by simpa using h.f3⟩
theorem B4w.s2 {w : World} {b : Nat} {x0 x1 x2 x3 : Value} (h : B4w w b x0 x1 x2 x3) (u : Value) : B4w (w.setCell ⟨b, 2, none⟩ u) b x0 x1 u x3 :=
  ⟨⟨(World.cell?_setCell_other _ _ _ _ (by simp)).trans h.r.c0, (World.cell?_setCell_other _ _ _ _ (by simp)).trans h.r.c1, World.cell?_setCell_same _ _ _ h.r.c2, (World.cell?_setCell_other _ _ _ _ (by simp)).trans h.r.c3⟩, by simpa using h.f0, by simpa using h.f1, by simpa using h.f2, by simpa using h.f3⟩
theorem B4w.s3 {w : World} {b : Nat} {x0 x1 x2 x3 : Value} (h : B4w w b x0 x1 x2 x3) (u : Value) : B4w (w.setCell ⟨b, 3, none⟩ u) b x0 x1 x2 u :=
  ⟨⟨(World.cell?_setCell_other _ _ _ _ (by simp)).trans h.r.c0, (World.cell?_setCell_other _ _ _ _ (by simp)).trans h.r.c1, (World.cell?_setCell_other _ _ _ _ (by simp)).trans h.r.c2, World.cell?_setCell_same _ _ _ h.r.c3⟩, by simpa using h.f0, by simpa using h.f1, by simpa using h.f2, by simpa using h.f3⟩
theorem B4w.set {w : World} {b : Nat} {x0 x1 x2 x3 : Value} (h : B4w w b x0 x1 x2 x3) (a0 a1 a2 a3 : Value) : B4w ((((w.setCell ⟨b, 0, none⟩ a0).setCell ⟨b, 1, none⟩ a1).setCell ⟨b, 2, none⟩ a2).setCell ⟨b, 3, none⟩ a3) b a0 a1 a2 a3 :=
  (((h.s0 a0).s1 a1).s2 a2).s3 a3
theorem bel_set4 {w w0 : World} {B b : Nat} (h : Below B w0 w) (hb : B ≤ b) (x y z u : Value) : Below B w0 ((((w.setCell ⟨b, 0, none⟩ x).setCell ⟨b, 1, none⟩ y).setCell ⟨b, 2, none⟩ z).setCell ⟨b, 3, none⟩ u) :=
  (((h.setCell hb _).setCell hb _).setCell hb _).setCell hb _

/-- What a circuit's slices read as: its gates, its outs. -/
structure Circ (w : World) (ga : Option Addr) (gn gc : Nat) (gs : List Int) (oa : Option Addr) (on oc : Nat) (os : List Int) : Prop where
  g : Recs 3 w ga gn gc gs
  o : Ints w oa on oc os
theorem Circ.below {w w' : World} {ga oa : Option Addr} {gn gc on oc : Nat} {gs os : List Int} (h : Circ w ga gn gc gs oa on oc os) (hb : Below w.heap.size w w') : Circ w' ga gn gc gs oa on oc os := ⟨h.g.below hb, h.o.below hb⟩
/-- A circuit of a call's own. -/
structure CircM (w : World) (B : Nat) (ga : Option Addr) (gn gc : Nat) (gs : List Int) (oa : Option Addr) (on oc : Nat) (os : List Int) : Prop where
  g : MineK 3 w B ga gn gc gs
  o : Mine w B oa on oc os
  ap : Apart ga (gn * 3) oa on
theorem CircM.circ {w : World} {B : Nat} {ga oa : Option Addr} {gn gc on oc : Nat} {gs os : List Int} (h : CircM w B ga gn gc gs oa on oc os) : Circ w ga gn gc gs oa on oc os := ⟨h.g.recs, h.o.ints⟩
theorem CircM.below {w w' : World} {B : Nat} {ga oa : Option Addr} {gn gc on oc : Nat} {gs os : List Int} (h : CircM w B ga gn gc gs oa on oc os) (hb : Below w.heap.size w w') : CircM w' B ga gn gc gs oa on oc os := ⟨h.g.below hb, h.o.below hb, h.ap⟩
theorem CircM.base {w : World} {B B' : Nat} {ga oa : Option Addr} {gn gc on oc : Nat} {gs os : List Int} (h : CircM w B ga gn gc gs oa on oc os) (hB : B' ≤ B) : CircM w B' ga gn gc gs oa on oc os := ⟨h.g.base hB, h.o.base hB, h.ap⟩
/-- Where a circuit of a call's own lies. -/
def PlaceC (ga : Option Addr) (gn : Nat) (oa : Option Addr) (on lo hi : Nat) : Prop := PlaceM ga (gn * 3) lo hi ∧ PlaceM oa on lo hi
theorem CircM.pl {w : World} {B : Nat} {ga oa : Option Addr} {gn gc on oc : Nat} {gs os : List Int} (h : CircM w B ga gn gc gs oa on oc os) : PlaceC ga gn oa on B w.heap.size := ⟨h.g.pl, h.o.pl⟩
theorem CircM.onlyI {w w' : World} {B : Nat} {ga oa : Option Addr} {gn gc on oc : Nat} {gs os : List Int} {lo hi lo' hi' : Nat} (h : CircM w B ga gn gc gs oa on oc os) (ho : OnlyI lo' hi' w w') (p : PlaceC ga gn oa on lo hi) (hd : hi ≤ lo' ∨ hi' ≤ lo) : CircM w' B ga gn gc gs oa on oc os :=
  ⟨h.g.onlyI ho p.1 hd, h.o.onlyI ho p.2 hd, h.ap⟩
theorem onlyI_set {lo hi : Nat} {w w' : World} {p : Addr} (h : OnlyI lo hi w w') (h1 : lo ≤ p.block) (h2 : p.block < hi) (u : Value) : OnlyI lo hi w (w'.setCell p u) :=
  ⟨h.os, h.tape, h.output, by simpa [World.setCell] using h.size, fun k hk => (Below.heap_setCell _ _ _ _ (by omega)).trans (h.block k hk)⟩
/-- A circuit among a law's arguments. -/
def CircIn (w : World) (ga : Option Addr) (gn gc : Nat) (gs : List Int) (oa : Option Addr) (on oc : Nat) (os : List Int) : Prop := RecsIn 3 w ga gn gc gs ∧ IntsIn w oa on oc os
theorem IntsIn.belowC {w w' : World} {a : Option Addr} {n c : Nat} {zs : List Int} (h : IntsIn w a n c zs) (hb : Below w.heap.size w w') : IntsIn w' a n c zs := ⟨h.1, fun hn => (h.2 hn).below hb⟩

set_option maxHeartbeats 1000000 in
theorem l_szIntSc (a : Option Addr) (n cap : Nat) (zs : List Int) (left : Int) (w : World) (h : IntsIn w a n cap zs) (h0 : 0 ≤ left) (h1 : left ≤ 1048576) :
    Calls Try.prog 46 #[.slice a n cap, .int .i64 left] w fun e w' => ∃ l' : Int, e = .returned (.int .i64 l') ∧ w = w' ∧ (l' = -1 ∨ (0 ≤ l' ∧ l' ≤ left ∧ Ints w a n cap zs ∧ (n : Int) ≤ left ∧ n ≤ 1048576)) := by
  obtain ⟨hn1, hn2⟩ := h
  by_cases hn : (n : Int) ≤ left
  · have HR := Lib.hid (hn2 (by omega)); clear hn2
    go_enter Try.func46, Try.ntmps46
    go_wp2
    go_ret
    exact ⟨_, rfl, rfl, Or.inr ⟨by omega, by omega, HR.out, hn, by omega⟩⟩
  · clear hn2
    go_enter Try.func46, Try.ntmps46
    go_wp2
    go_ret
    exact ⟨_, rfl, rfl, Or.inl rfl⟩
set_option maxHeartbeats 2000000 in
theorem l_szCircuit (i0 i1 : Int) (ga : Option Addr) (gn gc : Nat) (gs : List Int) (oa : Option Addr) (on oc : Nat) (os : List Int) (left : Int) (w : World) (h : CircIn w ga gn gc gs oa on oc os) (h0 : 0 ≤ left) (h1 : left ≤ 1048576) :
    Calls Try.prog 10 #[.agg #[.int .i64 i0, .int .i64 i1, .slice ga gn gc, .slice oa on oc], .int .i64 left] w fun e w' => ∃ l' : Int, e = .returned (.int .i64 l') ∧ Below w.heap.size w w' ∧ (l' = -1 ∨ (0 ≤ l' ∧ l' ≤ left ∧ Circ w' ga gn gc gs oa on oc os ∧ gn ≤ 1048576 ∧ on ≤ 1048576)) := by
  obtain ⟨hg, ho⟩ := h
  have hb := bel_alloc w (.cells #[.int .i64 i0, .int .i64 i1, .slice ga gn gc, .slice oa on oc] 25)
  have hbx := B4.new (w := w) (x0 := .int .i64 i0) (x1 := .int .i64 i1) (x2 := .slice ga gn gc) (x3 := .slice oa on oc) (t := 25)
  replace hg := hg.below hb
  replace ho := ho.belowC hb
  go_enter Try.func10, Try.ntmps10
  generalize hW : w.alloc (.cells #[.int .i64 i0, .int .i64 i1, .slice ga gn gc, .slice oa on oc] 25) = W at *
  obtain ⟨c0, c1, c2, c3⟩ := hbx
  go_wp2_with fail
  refine (l_szGateS ga gn gc gs left _ hg h0 h1).mono ?_; rintro e w1 ⟨l1, rfl, rfl, hs⟩
  rcases hs with rfl | ⟨q0, q1, qR, q2, q3⟩
  · go_wp2
    go_ret
    exact ⟨-1, rfl, hb, Or.inl rfl⟩
  · go_wp2_with fail
    refine (l_szIntSc oa on oc os l1 _ ho q0 (by omega)).mono ?_; rintro e w1 ⟨l2, rfl, rfl, hs⟩
    rcases hs with rfl | ⟨p0, p1, pR, p2, p3⟩
    · go_wp2
      go_ret
      exact ⟨-1, rfl, hb, Or.inl rfl⟩
    · go_wp2
      go_ret
      exact ⟨l2, rfl, hb, Or.inr ⟨p0, by omega, ⟨qR, pR⟩, q3, p3⟩⟩
set_option maxHeartbeats 4000000 in
theorem l_toCircuit (i0 i1 : Int) (ga : Option Addr) (gn gc : Nat) (gs : List Int) (oa : Option Addr) (on oc : Nat) (os : List Int) (w : World) (h : Circ w ga gn gc gs oa on oc os) (hn : gn ≤ 1048576) :
    Calls Try.prog 12 #[.agg #[.int .i64 i0, .int .i64 i1, .slice ga gn gc, .slice oa on oc]] w fun e w' => ∃ ga' gc' oa' oc', e = .returned (.agg #[.int .i64 i0, .int .i64 i1, .slice ga' gn gc', .slice oa' on oc']) ∧ CircM w' w.heap.size ga' gn gc' gs oa' on oc' os ∧ Below w.heap.size w w' := by
  obtain ⟨hg, ho⟩ := h
  have A1 := bel_alloc w (.cells #[.int .i64 i0, .int .i64 i1, .slice ga gn gc, .slice oa on oc] 25)
  have b1 := B4.new (w := w) (x0 := .int .i64 i0) (x1 := .int .i64 i1) (x2 := .slice ga gn gc) (x3 := .slice oa on oc) (t := 25)
  have s1 : (w.alloc (.cells #[.int .i64 i0, .int .i64 i1, .slice ga gn gc, .slice oa on oc] 25)).heap.size = w.heap.size + 1 := by simp
  have HW : ∃ W1, W1 = w.alloc (.cells #[.int .i64 i0, .int .i64 i1, .slice ga gn gc, .slice oa on oc] 25) := ⟨_, rfl⟩
  obtain ⟨W1, hW1⟩ := HW
  rw [← hW1] at A1 b1 s1
  have A2 := bel_alloc W1 (.cells #[.int .i64 0, .int .i64 0, .slice none 0 0, .slice none 0 0] 31)
  have b2 := B4w.new (w := W1) (x0 := .int .i64 0) (x1 := .int .i64 0) (x2 := .slice none 0 0) (x3 := .slice none 0 0) (t := 31)
  have s2 : (W1.alloc (.cells #[.int .i64 0, .int .i64 0, .slice none 0 0, .slice none 0 0] 31)).heap.size = w.heap.size + 1 + 1 := by simp [s1]
  obtain ⟨W2, hW2⟩ : ∃ W2, W2 = W1.alloc (.cells #[.int .i64 0, .int .i64 0, .slice none 0 0, .slice none 0 0] 31) := ⟨_, rfl⟩
  rw [← hW2] at A2 b2 s2
  have A3 := bel_alloc W2 (.cells #[.int .i64 i0, .int .i64 i1, .slice none 0 0, .slice none 0 0] 31)
  have b3 := B4w.new (w := W2) (x0 := .int .i64 i0) (x1 := .int .i64 i1) (x2 := .slice none 0 0) (x3 := .slice none 0 0) (t := 31)
  have s3 : (W2.alloc (.cells #[.int .i64 i0, .int .i64 i1, .slice none 0 0, .slice none 0 0] 31)).heap.size = w.heap.size + 3 := by simp [s2]
  obtain ⟨W3, hW3⟩ : ∃ W3, W3 = W2.alloc (.cells #[.int .i64 i0, .int .i64 i1, .slice none 0 0, .slice none 0 0] 31) := ⟨_, rfl⟩
  rw [← hW3] at A3 b3 s3
  rw [s2] at b3; rw [s1] at b2
  replace b1 := (b1.on A2).on A3
  replace b2 := b2.on A3
  have B3 := bel_trans (bel_trans A1 A2) A3
  have HD : Hid (W3 = ((w.alloc (.cells #[.int .i64 i0, .int .i64 i1, .slice ga gn gc, .slice oa on oc] 25)).alloc (.cells #[.int .i64 0, .int .i64 0, .slice none 0 0, .slice none 0 0] 31)).alloc (.cells #[.int .i64 i0, .int .i64 i1, .slice none 0 0, .slice none 0 0] 31)) := by show _ = _; rw [hW3, hW2, hW1]
  clear hW1 hW2 hW3 A1 A2 A3 s1 s2
  have hg3 := hg.below B3
  have HHO := Lib.hid ho; clear hg ho
  go_enter Try.func12, Try.ntmps12
  go_wp2_with fail
  rw [← HD.out]; clear HD
  refine (l_convGt ga gn gc gs _ hg3 hn).mono ?_; rintro e w4 ⟨ga', gc', rfl, M1, hb4⟩
  replace b1 := b1.on hb4
  replace b2 := b2.on hb4
  replace b3 := b3.on hb4
  have B4' := bel_trans B3 hb4
  have z4 := hb4.size
  have p1 := M1.pl
  -- the third field
  have c3 := b3.s2 (.slice ga' gn gc')
  have c2 := b2.other (p := ⟨w.heap.size + 1 + 1, 2, none⟩) (by dsimp only; omega) (.slice ga' gn gc')
  have c1 := b1.other (p := ⟨w.heap.size + 1 + 1, 2, none⟩) (by dsimp only; omega) (.slice ga' gn gc')
  have I5 : OnlyI (w.heap.size + 1) (w.heap.size + 3) w4 (w4.setCell ⟨w.heap.size + 1 + 1, 2, none⟩ (.slice ga' gn gc')) := onlyI_set (OnlyI.refl _ _ _) (by dsimp only; omega) (by dsimp only; omega) _
  have M1' := M1.onlyI I5 p1 (Or.inr (by omega))
  have B5 := B4'.setCell (p := ⟨w.heap.size + 1 + 1, 2, none⟩) (by dsimp only; omega) (.slice ga' gn gc')
  have ho5 := HHO.out.below B5
  have z5 : (w4.setCell ⟨w.heap.size + 1 + 1, 2, none⟩ (.slice ga' gn gc')).heap.size = w4.heap.size := by simp
  obtain ⟨⟨_, _, hk2, _⟩, _, _, hf2, _⟩ := b3
  clear HHO b1 b2 B3 B4' hb4 M1 I5 hg3
  obtain ⟨⟨k0, k1, k2, k3⟩, m0, m1, m2, m3⟩ := c3
  obtain ⟨n0, n1, n2, n3⟩ := c1
  have c3 : B4w (w4.setCell ⟨w.heap.size + 1 + 1, 2, none⟩ (.slice ga' gn gc')) (w.heap.size + 1 + 1) (.int .i64 i0) (.int .i64 i1) (.slice ga' gn gc') (.slice none 0 0) := ⟨⟨k0, k1, k2, k3⟩, m0, m1, m2, m3⟩
  go_wp2_with fail
  refine (l_conv oa on oc os _ ho5).mono ?_; rintro e w5 ⟨oa', oc', rfl, M2, hb5⟩
  replace c3 := c3.on hb5
  replace c2 := c2.on hb5
  replace M1' := M1'.below hb5
  have p2 := M2.pl
  have B6 := bel_trans B5 hb5
  have z6 := hb5.size
  rw [z5] at p2 z6
  have I6 : OnlyI (w.heap.size + 1) (w.heap.size + 3) w5 (w5.setCell ⟨w.heap.size + 1 + 1, 3, none⟩ (.slice oa' on oc')) := onlyI_set (OnlyI.refl _ _ _) (by dsimp only; omega) (by dsimp only; omega) _
  have d3 := c3.s3 (.slice oa' on oc')
  have d2 := c2.other (p := ⟨w.heap.size + 1 + 1, 3, none⟩) (by dsimp only; omega) (.slice oa' on oc')
  have I7 := onlyI_set (onlyI_set (onlyI_set (onlyI_set I6 (p := ⟨w.heap.size + 1, 0, none⟩) (by dsimp only; omega) (by dsimp only; omega) (.int .i64 i0)) (p := ⟨w.heap.size + 1, 1, none⟩) (by dsimp only; omega) (by dsimp only; omega) (.int .i64 i1)) (p := ⟨w.heap.size + 1, 2, none⟩) (by dsimp only; omega) (by dsimp only; omega) (.slice ga' gn gc')) (p := ⟨w.heap.size + 1, 3, none⟩) (by dsimp only; omega) (by dsimp only; omega) (.slice oa' on oc')
  have E2 := d2.set (.int .i64 i0) (.int .i64 i1) (.slice ga' gn gc') (.slice oa' on oc')
  have M1f := M1'.onlyI I7 p1 (Or.inr (by omega))
  have M2f := M2.onlyI I7 p2 (Or.inr (by omega))
  have B7 := Below.onlyI B6 I7 (by omega)
  have AP : Apart ga' (gn * 3) oa' on := Apart.of p1 p2 (Or.inl (Nat.le_refl _))
  have CM : CircM _ w.heap.size ga' gn gc' gs oa' on oc' os := ⟨M1f.base (by omega), M2f.base (by omega), AP⟩
  have HE := Lib.hid (And.intro CM B7)
  have E20 := E2.r.c0; have E21 := E2.r.c1; have E22 := E2.r.c2; have E23 := E2.r.c3
  clear CM B7 M1f M2f AP I7 I6 M1' M2 B6 B5 E2 ho5 hb5 k0 k1 k2 k3 m0 m1 m2 m3 n0 n1 n2 n3
  obtain ⟨⟨k0, k1, k2, k3⟩, m0, m1, m2, m3⟩ := c3
  obtain ⟨⟨l0, l1, l2, l3⟩, f0, f1, f2, f3⟩ := d2
  obtain ⟨⟨q0, q1, q2, q3⟩, _, _, _, _⟩ := d3
  go_wp2
  exact bodyPost_ret (v := .agg #[.int .i64 i0, .int .i64 i1, .slice ga' gn gc', .slice oa' on oc']) (by simp [results, Try.results12, go_sem, E20, E21, E22, E23]) rfl ⟨ga', gc', oa', oc', rfl, HE.out.1, HE.out.2⟩
set_option maxHeartbeats 2000000 in
theorem l_eqCircuit (i0 i1 : Int) (ga : Option Addr) (gn gc : Nat) (oa : Option Addr) (on oc : Nat) (ga' : Option Addr) (gc' : Nat) (oa' : Option Addr) (oc' : Nat) (gs os : List Int) (w : World) (h : Circ w ga gn gc gs oa on oc os) (h' : Circ w ga' gn gc' gs oa' on oc' os) :
    Calls Try.prog 14 #[.agg #[.int .i64 i0, .int .i64 i1, .slice ga gn gc, .slice oa on oc], .agg #[.int .i64 i0, .int .i64 i1, .slice ga' gn gc', .slice oa' on oc']] w fun e w' => e = .returned (.bool true) ∧ Below w.heap.size w w' := by
  have b1 := B4.new (w := w) (x0 := .int .i64 i0) (x1 := .int .i64 i1) (x2 := .slice ga gn gc) (x3 := .slice oa on oc) (t := 31)
  have A1 := bel_alloc w (.cells #[.int .i64 i0, .int .i64 i1, .slice ga gn gc, .slice oa on oc] 31)
  have A2 := bel_alloc (w.alloc (.cells #[.int .i64 i0, .int .i64 i1, .slice ga gn gc, .slice oa on oc] 31)) (.cells #[.int .i64 i0, .int .i64 i1, .slice ga' gn gc', .slice oa' on oc'] 31)
  have b2 := B4.new (w := w.alloc (.cells #[.int .i64 i0, .int .i64 i1, .slice ga gn gc, .slice oa on oc] 31)) (x0 := .int .i64 i0) (x1 := .int .i64 i1) (x2 := .slice ga' gn gc') (x3 := .slice oa' on oc') (t := 31)
  replace b1 := b1.on A2
  have B := bel_trans A1 A2
  replace h := h.below B
  replace h' := h'.below B
  have sz : (w.alloc (.cells #[.int .i64 i0, .int .i64 i1, .slice ga gn gc, .slice oa on oc] 31)).heap.size = w.heap.size + 1 := by simp
  rw [sz] at b2
  go_enter Try.func14, Try.ntmps14
  generalize hW1 : w.alloc (.cells #[.int .i64 i0, .int .i64 i1, .slice ga gn gc, .slice oa on oc] 31) = W1 at *
  generalize hW : W1.alloc (.cells #[.int .i64 i0, .int .i64 i1, .slice ga' gn gc', .slice oa' on oc'] 31) = W at *
  have c1 := b1; have c2 := b2
  obtain ⟨k0, k1, k2, k3⟩ := c1
  obtain ⟨l0, l1, l2, l3⟩ := c2
  go_wp2_with fail
  refine (l_eqGt ga ga' gn gc gc' gs _ h.g h'.g).mono ?_; rintro e w1 ⟨rfl, hb1⟩
  replace b1 := b1.on hb1
  replace b2 := b2.on hb1
  have B1 := bel_trans B hb1
  have o1 := h.o.below hb1
  have o2 := h'.o.below hb1
  clear k0 k1 k2 k3 l0 l1 l2 l3
  obtain ⟨k0, k1, k2, k3⟩ := b1
  obtain ⟨l0, l1, l2, l3⟩ := b2
  go_wp2_with fail
  refine (l_eqIntS oa oa' on oc oc' os _ o1 o2).mono ?_; rintro e w2 ⟨rfl, hb2⟩
  go_wp2
  go_ret
  exact ⟨rfl, bel_trans B1 hb2⟩
set_option maxHeartbeats 2000000 in
theorem l_markCircuit (i0 i1 : Int) (ga : Option Addr) (gn gc : Nat) (oa : Option Addr) (on oc B lo hi : Nat) (gs os : List Int) (k0 : Int) (w : World) (h : CircM w B ga gn gc gs oa on oc os) (hp : PlaceC ga gn oa on lo hi) (hk0 : 0 ≤ k0) (hk1 : k0 ≤ 100000000000) (hgn : gn ≤ 1048576) :
    Calls Try.prog 19 #[.agg #[.int .i64 i0, .int .i64 i1, .slice ga gn gc, .slice oa on oc], .int .i64 k0] w fun e w' => ∃ (gs' os' : List Int) (W : World), e = .returned (.int .i64 (k0 + (gn * 3 : Nat) + on)) ∧ CircM w' B ga gn gc gs' oa on oc os' ∧ Below w.heap.size w W ∧ OnlyI lo hi W w' := by
  have hs1 := h.g.small
  have hs3 := h.g.mine.ints.small
  have hs2 := h.o.ints.small
  have b1 := B4.new (w := w) (x0 := .int .i64 i0) (x1 := .int .i64 i1) (x2 := .slice ga gn gc) (x3 := .slice oa on oc) (t := 31)
  have A1 := bel_alloc w (.cells #[.int .i64 i0, .int .i64 i1, .slice ga gn gc, .slice oa on oc] 31)
  have hpl0 := h.g.pl
  replace h := h.below A1
  have hpg := h.g.pl
  have hcirc := h
  go_enter Try.func19, Try.ntmps19
  generalize hW1 : w.alloc (.cells #[.int .i64 i0, .int .i64 i1, .slice ga gn gc, .slice oa on oc] 31) = W1 at *
  obtain ⟨c0, c1, c2, c3⟩ := b1
  go_wp2_with fail
  refine (l_markGt ga gn gc B gs k0 _ h.g (by omega) (by omega)).mono ?_; rintro e w1 ⟨rfl, Mg, hb1⟩
  have hbk : w1.heap[w.heap.size]? = W1.heap[w.heap.size]? := hb1.block _ (fun hn g o e q => by have := hpl0 hn g o e; omega)
  have d2 : w1.cell? ⟨w.heap.size, 2, none⟩ = some (.slice ga gn gc) := (World.cell?_of_block hbk).trans c2
  have d3 : w1.cell? ⟨w.heap.size, 3, none⟩ = some (.slice oa on oc) := (World.cell?_of_block hbk).trans c3
  have Mo := h.o.onlyA hb1 h.ap.symm
  have ap := h.ap
  have I1 := hb1.onlyI hp.1
  clear h hcirc c0 c1 c2 c3 hpg hbk hb1
  go_wp2_with fail
  refine (l_mark oa on oc B os _ _ Mo (by omega) (by omega)).mono ?_; rintro e w2 ⟨rfl, Mo2, hb2⟩
  have Mg2 := Mg.onlyA hb2 ap
  have I2 := I1.trans (hb2.onlyI hp.2)
  have CM : CircM w2 B ga gn gc (marks k0 (gn * 3)) oa on oc (marks (k0 + (gn * 3 : Nat)) on) := ⟨Mg2, Mo2, ap⟩
  go_wp2
  go_ret
  exact ⟨_, _, W1, rfl, CM, A1, I2⟩
end Go.Proofs.Ytmkcanbaleecfaa
