/-
  A circuit as a value: its box, what it reads as, the laws' helpers on it.
  Contracts: valid gates, numbers of inputs and wires, valid circuits; both sides.
  Contracts: valid circuits, both sides.
  Contracts: arithmetic circuits: gates, inputs, wires.
-/
import Derived.Test.YtfichpppjpgahaaGreatDoorFm1
import Derived.Test.YtfichpppjpgahaaGreatDoorFm0
import Derived.Deep.RegionHeld3
namespace Go.Proofs.YtfichpppjpgahaaGreatDoor
open Go.RowKit
set_option linter.unusedVariables false
set_option linter.unusedSimpArgs false

/-- A box of four cells. -/
structure B4 (w : World) (b : Nat) (x0 x1 x2 x3 : Value) : Prop where
  c0 : w.cell? ⟨b, 0, none⟩ = some x0
  c1 : w.cell? ⟨b, 1, none⟩ = some x1
  c2 : w.cell? ⟨b, 2, none⟩ = some x2
  c3 : w.cell? ⟨b, 3, none⟩ = some x3
theorem B4.lt {w : World} {b : Nat} {x0 x1 x2 x3 : Value} (h : B4 w b x0 x1 x2 x3) : b < w.heap.size := lt_of_cell h.c0
theorem B4.on {w w' : World} {b : Nat} {x0 x1 x2 x3 : Value} (h : B4 w b x0 x1 x2 x3) (hb : Below w.heap.size w w') : B4 w' b x0 x1 x2 x3 :=
  ⟨cell_on h.c0 hb, cell_on h.c1 hb, cell_on h.c2 hb, cell_on h.c3 hb⟩
theorem B4.new {w : World} {x0 x1 x2 x3 : Value} {t : TypeId} : B4 (w.alloc (.cells #[x0, x1, x2, x3] t)) w.heap.size x0 x1 x2 x3 :=
  ⟨World.cell?_alloc_at _ _ _ _ rfl, World.cell?_alloc_at _ _ _ _ rfl, World.cell?_alloc_at _ _ _ _ rfl, World.cell?_alloc_at _ _ _ _ rfl⟩
/-- A box of four cells that may be written. -/
structure B4w (w : World) (b : Nat) (x0 x1 x2 x3 : Value) : Prop where
  r : B4 w b x0 x1 x2 x3
  f0 : w.frozen? ⟨b, 0, none⟩ = false
  f1 : w.frozen? ⟨b, 1, none⟩ = false
  f2 : w.frozen? ⟨b, 2, none⟩ = false
  f3 : w.frozen? ⟨b, 3, none⟩ = false
theorem B4w.on {w w' : World} {b : Nat} {x0 x1 x2 x3 : Value} (h : B4w w b x0 x1 x2 x3) (hb : Below w.heap.size w w') : B4w w' b x0 x1 x2 x3 :=
  ⟨h.r.on hb, (hb.frozen (p := ⟨b, 0, none⟩) h.r.lt).trans h.f0, (hb.frozen (p := ⟨b, 1, none⟩) h.r.lt).trans h.f1, (hb.frozen (p := ⟨b, 2, none⟩) h.r.lt).trans h.f2, (hb.frozen (p := ⟨b, 3, none⟩) h.r.lt).trans h.f3⟩
theorem B4w.new {w : World} {x0 x1 x2 x3 : Value} {t : TypeId} : B4w (w.alloc (.cells #[x0, x1, x2, x3] t)) w.heap.size x0 x1 x2 x3 :=
  ⟨B4.new, World.frozen?_alloc_at _ _ _ _ rfl, World.frozen?_alloc_at _ _ _ _ rfl, World.frozen?_alloc_at _ _ _ _ rfl, World.frozen?_alloc_at _ _ _ _ rfl⟩
theorem B4.other {w : World} {b : Nat} {x0 x1 x2 x3 : Value} (h : B4 w b x0 x1 x2 x3) {p : Addr} (hp : p.block ≠ b) (u : Value) : B4 (w.setCell p u) b x0 x1 x2 x3 := by
  have e : ∀ o, (w.setCell p u).cell? ⟨b, o, none⟩ = w.cell? ⟨b, o, none⟩ := fun o => World.cell?_setCell_other _ _ _ _ (fun e => hp (by rw [e]))
  exact ⟨(e 0).trans h.c0, (e 1).trans h.c1, (e 2).trans h.c2, (e 3).trans h.c3⟩
theorem B4w.other {w : World} {b : Nat} {x0 x1 x2 x3 : Value} (h : B4w w b x0 x1 x2 x3) {p : Addr} (hp : p.block ≠ b) (u : Value) : B4w (w.setCell p u) b x0 x1 x2 x3 :=
  ⟨h.r.other hp u, by simpa using h.f0, by simpa using h.f1, by simpa using h.f2, by simpa using h.f3⟩
theorem B4w.s0 {w : World} {b : Nat} {x0 x1 x2 x3 : Value} (h : B4w w b x0 x1 x2 x3) (u : Value) : B4w (w.setCell ⟨b, 0, none⟩ u) b u x1 x2 x3 :=
  ⟨⟨World.cell?_setCell_same _ _ _ h.r.c0, (World.cell?_setCell_other _ _ _ _ (by simp)).trans h.r.c1, (World.cell?_setCell_other _ _ _ _ (by simp)).trans h.r.c2, (World.cell?_setCell_other _ _ _ _ (by simp)).trans h.r.c3⟩, by simpa using h.f0, by simpa using h.f1, by simpa using h.f2, by simpa using h.f3⟩
theorem B4w.s1 {w : World} {b : Nat} {x0 x1 x2 x3 : Value} (h : B4w w b x0 x1 x2 x3) (u : Value) : B4w (w.setCell ⟨b, 1, none⟩ u) b x0 u x2 x3 :=
  ⟨⟨(World.cell?_setCell_other _ _ _ _ (by simp)).trans h.r.c0, World.cell?_setCell_same _ _ _ h.r.c1, (World.cell?_setCell_other _ _ _ _ (by simp)).trans h.r.c2, (World.cell?_setCell_other _ _ _ _ (by simp)).trans h.r.c3⟩, by simpa using h.f0, by simpa using h.f1, by simpa using h.f2, by simpa using h.f3⟩
theorem B4w.s2 {w : World} {b : Nat} {x0 x1 x2 x3 : Value} (h : B4w w b x0 x1 x2 x3) (u : Value) : B4w (w.setCell ⟨b, 2, none⟩ u) b x0 x1 u x3 :=
  ⟨⟨(World.cell?_setCell_other _ _ _ _ (by simp)).trans h.r.c0, (World.cell?_setCell_other _ _ _ _ (by simp)).trans h.r.c1, World.cell?_setCell_same _ _ _ h.r.c2, (World.cell?_setCell_other _ _ _ _ (by simp)).trans h.r.c3⟩, by simpa using h.f0, by simpa using h.f1, by simpa using h.f2, by simpa using h.f3⟩
theorem B4w.s3 {w : World} {b : Nat} {x0 x1 x2 x3 : Value} (h : B4w w b x0 x1 x2 x3) (u : Value) : B4w (w.setCell ⟨b, 3, none⟩ u) b x0 x1 x2 u :=
  ⟨⟨(World.cell?_setCell_other _ _ _ _ (by simp)).trans h.r.c0, (World.cell?_setCell_other _ _ _ _ (by simp)).trans h.r.c1, (World.cell?_setCell_other _ _ _ _ (by simp)).trans h.r.c2, World.cell?_setCell_same _ _ _ h.r.c3⟩, by simpa using h.f0, by simpa using h.f1, by simpa using h.f2, by simpa using h.f3⟩
theorem B4w.set {w : World} {b : Nat} {x0 x1 x2 x3 : Value} (h : B4w w b x0 x1 x2 x3) (a0 a1 a2 a3 : Value) : B4w ((((w.setCell ⟨b, 0, none⟩ a0).setCell ⟨b, 1, none⟩ a1).setCell ⟨b, 2, none⟩ a2).setCell ⟨b, 3, none⟩ a3) b a0 a1 a2 a3 :=
  (((h.s0 a0).s1 a1).s2 a2).s3 a3
theorem bel_set4 {w w0 : World} {B b : Nat} (h : Below B w0 w) (hb : B ≤ b) (x y z u : Value) : Below B w0 ((((w.setCell ⟨b, 0, none⟩ x).setCell ⟨b, 1, none⟩ y).setCell ⟨b, 2, none⟩ z).setCell ⟨b, 3, none⟩ u) :=
  (((h.setCell hb _).setCell hb _).setCell hb _).setCell hb _

/-- What a circuit's slices read as: its gates, its outs. -/
structure Circ (w : World) (ga : Option Addr) (gn gc : Nat) (gs : List Int) (oa : Option Addr) (on oc : Nat) (os : List Int) : Prop where
  g : Recs 3 w ga gn gc gs
  o : Ints w oa on oc os
theorem Circ.below {w w' : World} {ga oa : Option Addr} {gn gc on oc : Nat} {gs os : List Int} (h : Circ w ga gn gc gs oa on oc os) (hb : Below w.heap.size w w') : Circ w' ga gn gc gs oa on oc os := ⟨h.g.below hb, h.o.below hb⟩
/-- A circuit of a call's own. -/
structure CircM (w : World) (B : Nat) (ga : Option Addr) (gn gc : Nat) (gs : List Int) (oa : Option Addr) (on oc : Nat) (os : List Int) : Prop where
  g : MineK 3 w B ga gn gc gs
  o : Mine w B oa on oc os
  ap : Apart ga (gn * 3) oa on
theorem CircM.circ {w : World} {B : Nat} {ga oa : Option Addr} {gn gc on oc : Nat} {gs os : List Int} (h : CircM w B ga gn gc gs oa on oc os) : Circ w ga gn gc gs oa on oc os := ⟨h.g.recs, h.o.ints⟩
theorem CircM.below {w w' : World} {B : Nat} {ga oa : Option Addr} {gn gc on oc : Nat} {gs os : List Int} (h : CircM w B ga gn gc gs oa on oc os) (hb : Below w.heap.size w w') : CircM w' B ga gn gc gs oa on oc os := ⟨h.g.below hb, h.o.below hb, h.ap⟩
theorem CircM.base {w : World} {B B' : Nat} {ga oa : Option Addr} {gn gc on oc : Nat} {gs os : List Int} (h : CircM w B ga gn gc gs oa on oc os) (hB : B' ≤ B) : CircM w B' ga gn gc gs oa on oc os := ⟨h.g.base hB, h.o.base hB, h.ap⟩
/-- Where a circuit of a call's own lies. -/
def PlaceC (ga : Option Addr) (gn : Nat) (oa : Option Addr) (on lo hi : Nat) : Prop := PlaceM ga (gn * 3) lo hi ∧ PlaceM oa on lo hi
theorem CircM.pl {w : World} {B : Nat} {ga oa : Option Addr} {gn gc on oc : Nat} {gs os : List Int} (h : CircM w B ga gn gc gs oa on oc os) : PlaceC ga gn oa on B w.heap.size := ⟨h.g.pl, h.o.pl⟩
theorem CircM.onlyI {w w' : World} {B : Nat} {ga oa : Option Addr} {gn gc on oc : Nat} {gs os : List Int} {lo hi lo' hi' : Nat} (h : CircM w B ga gn gc gs oa on oc os) (ho : OnlyI lo' hi' w w') (p : PlaceC ga gn oa on lo hi) (hd : hi ≤ lo' ∨ hi' ≤ lo) : CircM w' B ga gn gc gs oa on oc os :=
  ⟨h.g.onlyI ho p.1 hd, h.o.onlyI ho p.2 hd, h.ap⟩
theorem onlyI_set {lo hi : Nat} {w w' : World} {p : Addr} (h : OnlyI lo hi w w') (h1 : lo ≤ p.block) (h2 : p.block < hi) (u : Value) : OnlyI lo hi w (w'.setCell p u) :=
  ⟨h.os, h.tape, h.output, by simpa [World.setCell] using h.size, fun k hk => (Below.heap_setCell _ _ _ _ (by omega)).trans (h.block k hk)⟩
/-- A circuit among a law's arguments. -/
def CircIn (w : World) (ga : Option Addr) (gn gc : Nat) (gs : List Int) (oa : Option Addr) (on oc : Nat) (os : List Int) : Prop := RecsIn 3 w ga gn gc gs ∧ IntsIn w oa on oc os
theorem IntsIn.belowC {w w' : World} {a : Option Addr} {n c : Nat} {zs : List Int} (h : IntsIn w a n c zs) (hb : Below w.heap.size w w') : IntsIn w' a n c zs := ⟨h.1, fun hn => (h.2 hn).below hb⟩
end Go.Proofs.YtfichpppjpgahaaGreatDoor
namespace Go.Proofs.YtfichpppjpgahaaGreatDoor
open Go.RowKit
set_option linter.unusedVariables false
set_option linter.unusedSimpArgs false

/-- A valid gate behind some wires. -/
def gateB (k a b own : Int) : Bool := if k = 0 ∨ k = 1 then inB a 0 (own - 1) && inB b 0 (own - 1) else if k = 2 then inB a 0 (own - 1) && decide (b = 0) else decide (k = 3) && (decide (a = 0) && decide (b = 0))
theorem gateB_01 {k a b own : Int} (h : k = 0 ∨ k = 1) : gateB k a b own = (inB a 0 (own - 1) && inB b 0 (own - 1)) := by unfold gateB; rw [if_pos h]
theorem gateB_2 {a b own : Int} : gateB 2 a b own = (inB a 0 (own - 1) && decide (b = 0)) := by unfold gateB; rw [if_neg (by omega), if_pos rfl]
theorem gateB_3 {k a b own : Int} (h : ¬ (k = 0 ∨ k = 1)) (h2 : k ≠ 2) : gateB k a b own = (decide (k = 3) && (decide (a = 0) && decide (b = 0))) := by unfold gateB; rw [if_neg h, if_neg h2]
/-- All gates up to the n-th are valid. -/
def gatesB (base : Int) (gs : List Int) : Nat → Bool
  | 0 => true
  | n + 1 => gatesB base gs n && gateB (fld 3 gs n 0) (fld 3 gs n 1) (fld 3 gs n 2) (base + n)
theorem gatesB_no {base : Int} {gs : List Int} {i : Nat} (h : gateB (fld 3 gs i 0) (fld 3 gs i 1) (fld 3 gs i 2) (base + i) = false) : ∀ {n : Nat}, i < n → gatesB base gs n = false
  | 0, hi => by omega
  | n + 1, hi => by
    rw [gatesB]
    by_cases e : i = n
    · subst e; rw [h, Bool.and_false]
    · rw [gatesB_no h (by omega), Bool.false_and]
theorem gatesB_at {base : Int} {gs : List Int} {i : Nat} : ∀ {n : Nat}, gatesB base gs n = true → i < n → gateB (fld 3 gs i 0) (fld 3 gs i 1) (fld 3 gs i 2) (base + i) = true
  | 0, _, hi => by omega
  | n + 1, h, hi => by
    rw [gatesB, Bool.and_eq_true] at h
    by_cases e : i = n
    · subst e; exact h.2
    · exact gatesB_at h.1 (by omega)
/-- The sizes of a valid circuit. -/
def circS (i0 i1 : Int) (gn on : Nat) : Bool := inB i0 0 20 && (inB i1 0 20 && (decide (gn ≤ 300) && decide (on ≤ 40)))
theorem circS_iff {i0 i1 : Int} {gn on : Nat} : circS i0 i1 gn on = true ↔ (0 ≤ i0 ∧ i0 ≤ 20) ∧ (0 ≤ i1 ∧ i1 ≤ 20) ∧ gn ≤ 300 ∧ on ≤ 40 := by
  unfold circS; simp only [Bool.and_eq_true, inB_iff, decide_eq_true_iff]
/-- A valid circuit. -/
def circB (i0 i1 : Int) (gs : List Int) (gn : Nat) (os : List Int) : Bool := circS i0 i1 gn os.length && (gatesB (i0 + i1) gs gn && allIn os 0 (i0 + i1 + gn - 1))
theorem circB_iff {i0 i1 : Int} {gs os : List Int} {gn : Nat} : circB i0 i1 gs gn os = true ↔ circS i0 i1 gn os.length = true ∧ gatesB (i0 + i1) gs gn = true ∧ allIn os 0 (i0 + i1 + gn - 1) = true := by
  unfold circB; simp only [Bool.and_eq_true]
/-- A box of three cells, just made. -/
structure B3 (w : World) (b : Nat) (x0 x1 x2 : Value) : Prop where
  c0 : w.cell? ⟨b, 0, none⟩ = some x0
  c1 : w.cell? ⟨b, 1, none⟩ = some x1
  c2 : w.cell? ⟨b, 2, none⟩ = some x2
theorem B3.new {w : World} {x0 x1 x2 : Value} {t : TypeId} : B3 (w.alloc (.cells #[x0, x1, x2] t)) w.heap.size x0 x1 x2 :=
  ⟨World.cell?_alloc_at _ _ _ _ rfl, World.cell?_alloc_at _ _ _ _ rfl, World.cell?_alloc_at _ _ _ _ rfl⟩
theorem B3.on {w w' : World} {b : Nat} {x0 x1 x2 : Value} (h : B3 w b x0 x1 x2) (hb : Below w.heap.size w w') : B3 w' b x0 x1 x2 := ⟨cell_on h.c0 hb, cell_on h.c1 hb, cell_on h.c2 hb⟩
end Go.Proofs.YtfichpppjpgahaaGreatDoor
namespace Go.Proofs.YtfichpppjpgahaaGreatDoor
open Go.RowKit
set_option linter.unusedVariables false
set_option linter.unusedSimpArgs false

set_option maxHeartbeats 1000000 in
/-- areAll with a predicate that may make memory. -/
theorem i_areAllB (a : Option Addr) (n cap : Nat) (xs : List Int) (p : Int → Bool) (g : Nat) (lb : Array Value) (eg : ∀ args w, (callFunc g args).run Tryz.prog w = .ok (.enter g args) w) (w : World) (h : Ints w a n cap xs)
    (hp : Hid (∀ (W : World) (x : Int), Below w.heap.size w W → Fits x → Calls Tryz.prog g (#[.int .i64 x] ++ lb) W fun e w' => e = .returned (.bool (p x)) ∧ Below W.heap.size W w')) :
    Calls Tryz.prog 47 #[.slice a n cap, .func (.func g) #[] lb] w fun e w' => e = .returned (.bool (xs.all p)) ∧ Below w.heap.size w w' := by
  have eA : ∀ args w, (callFunc 72 args).run Tryz.prog w = .ok (.enter 72 args) w := enters_of Tryz.func72 (by kernel_rfl) rfl
  have hg := g_ContainsFunc a n cap xs (fun x => !p x) 72 #[.pointer (some ⟨w.heap.size, 0, none⟩)] eA (w.alloc (.cells #[.func (.func g) #[] lb] 57)) (h.alloc _) (fun W x hW hx => by
    have hc : W.cell? ⟨w.heap.size, 0, none⟩ = some (.func (.func g) #[] lb) := by
      rw [hW.cell (p := ⟨w.heap.size, 0, none⟩) (by simp)]
      exact World.cell?_alloc_at _ _ _ _ rfl
    refine (i_areAll1 x w.heap.size (p x) g lb eg W hc (fun w' => Below W.heap.size W w') (hp.out W x (((Below.refl _ _).alloc (Nat.le_refl _) _).trans (hW.mono (by simp))) hx)).mono fun e w' ⟨he, hw⟩ => ⟨he, bel_trans hW hw⟩)
  have HG := Lib.hid hg; clear hg
  have hall : (!xs.any fun x => !p x) = xs.all p := by simp [List.all_eq_not_any_not]
  clear hp eg
  go_enter Tryz.func47, Tryz.ntmps47
  go_wp2_with (go_at_call 71; refine HG.out.mono ?_; rintro e w' ⟨rfl, hb'⟩)
  go_ret
  exact ⟨by first | rfl | exact ret_bool hall, ((Below.refl _ _).alloc (Nat.le_refl _) _).trans (hb'.mono (by simp))⟩
end Go.Proofs.YtfichpppjpgahaaGreatDoor
namespace Go.Proofs.YtfichpppjpgahaaGreatDoor
open Go.RowKit
set_option linter.unusedVariables false
set_option linter.unusedSimpArgs false
set_option maxRecDepth 10000

/-- A box of five cells. -/
structure B5 (w : World) (b : Nat) (x0 x1 x2 x3 x4 : Value) : Prop where
  c0 : w.cell? ⟨b, 0, none⟩ = some x0
  c1 : w.cell? ⟨b, 1, none⟩ = some x1
  c2 : w.cell? ⟨b, 2, none⟩ = some x2
  c3 : w.cell? ⟨b, 3, none⟩ = some x3
  c4 : w.cell? ⟨b, 4, none⟩ = some x4
theorem B5.lt {w : World} {b : Nat} {x0 x1 x2 x3 x4 : Value} (h : B5 w b x0 x1 x2 x3 x4) : b < w.heap.size := lt_of_cell h.c0
theorem B5.on {w w' : World} {b : Nat} {x0 x1 x2 x3 x4 : Value} (h : B5 w b x0 x1 x2 x3 x4) (hb : Below w.heap.size w w') : B5 w' b x0 x1 x2 x3 x4 :=
  ⟨cell_on h.c0 hb, cell_on h.c1 hb, cell_on h.c2 hb, cell_on h.c3 hb, cell_on h.c4 hb⟩
theorem B5.new {w : World} {x0 x1 x2 x3 x4 : Value} {t : TypeId} : B5 (w.alloc (.cells #[x0, x1, x2, x3, x4] t)) w.heap.size x0 x1 x2 x3 x4 :=
  ⟨World.cell?_alloc_at _ _ _ _ rfl, World.cell?_alloc_at _ _ _ _ rfl, World.cell?_alloc_at _ _ _ _ rfl, World.cell?_alloc_at _ _ _ _ rfl, World.cell?_alloc_at _ _ _ _ rfl⟩
/-- A valid gate before a wire. -/
def arB (p k a b own : Int) : Bool := if k = 0 ∨ k = 1 then inB a 0 (own - 1) && inB b 0 (own - 1) else if k = 2 then inB a 0 (own - 1) && inB b 0 (p - 1) else decide (k = 3) && (inB a 0 (p - 1) && decide (b = 0))
theorem arB_01 {p k a b own : Int} (h : k = 0 ∨ k = 1) : arB p k a b own = (inB a 0 (own - 1) && inB b 0 (own - 1)) := by unfold arB; rw [if_pos h]
theorem arB_2 {p a b own : Int} : arB p 2 a b own = (inB a 0 (own - 1) && inB b 0 (p - 1)) := by unfold arB; rw [if_neg (by omega), if_pos rfl]
theorem arB_3 {p k a b own : Int} (h : ¬ (k = 0 ∨ k = 1)) (h2 : k ≠ 2) : arB p k a b own = (decide (k = 3) && (inB a 0 (p - 1) && decide (b = 0))) := by unfold arB; rw [if_neg h, if_neg h2]
def gatesA (p : Int) (base : Int) (gs : List Int) : Nat → Bool
  | 0 => true
  | n + 1 => gatesA p base gs n && arB p (fld 3 gs n 0) (fld 3 gs n 1) (fld 3 gs n 2) (base + n)
theorem gatesA_no {p base : Int} {gs : List Int} {i : Nat} (h : arB p (fld 3 gs i 0) (fld 3 gs i 1) (fld 3 gs i 2) (base + i) = false) : ∀ {n : Nat}, i < n → gatesA p base gs n = false
  | 0, hi => by omega
  | n + 1, hi => by
    rw [gatesA]
    by_cases e : i = n
    · subst e; rw [h, Bool.and_false]
    · rw [gatesA_no h (by omega), Bool.false_and]
theorem gatesA_at {p base : Int} {gs : List Int} {i : Nat} : ∀ {n : Nat}, gatesA p base gs n = true → i < n → arB p (fld 3 gs i 0) (fld 3 gs i 1) (fld 3 gs i 2) (base + i) = true
  | 0, _, hi => by omega
  | n + 1, h, hi => by
    rw [gatesA, Bool.and_eq_true] at h
    by_cases e : i = n
    · subst e; exact h.2
    · exact gatesA_at h.1 (by omega)
/-- The sizes of a valid circuit. -/
def arS (p i0 i1 : Int) (gn on : Nat) : Bool := prB p && (inB i0 0 8 && (inB i1 0 8 && (decide (gn ≤ 100) && decide (on ≤ 20))))
theorem arS_iff {p i0 i1 : Int} {gn on : Nat} : arS p i0 i1 gn on = true ↔ prB p = true ∧ (0 ≤ i0 ∧ i0 ≤ 8) ∧ (0 ≤ i1 ∧ i1 ≤ 8) ∧ gn ≤ 100 ∧ on ≤ 20 := by
  unfold arS; simp only [Bool.and_eq_true, inB_iff, decide_eq_true_iff]
/-- A valid arithmetic circuit. -/
def arC (p i0 i1 : Int) (gs : List Int) (gn : Nat) (os : List Int) : Bool := arS p i0 i1 gn os.length && (gatesA p (i0 + i1) gs gn && allIn os 0 (i0 + i1 + gn - 1))
theorem arC_iff {p i0 i1 : Int} {gs os : List Int} {gn : Nat} : arC p i0 i1 gs gn os = true ↔ arS p i0 i1 gn os.length = true ∧ gatesA p (i0 + i1) gs gn = true ∧ allIn os 0 (i0 + i1 + gn - 1) = true := by
  unfold arC; simp only [Bool.and_eq_true]
set_option maxHeartbeats 4000000 in
theorem i_arGate (p k a b own : Int) (w : World) (hw : 0 ≤ own ∧ own ≤ 1000000) (hp : 2 ≤ p ∧ p ≤ 251) :
    Calls Tryz.prog 45 #[.int .i64 p, .agg #[.int .i64 k, .int .i64 a, .int .i64 b], .int .i64 own] w fun e w' => e = .returned (.bool (arB p k a b own)) ∧ Below w.heap.size w w' := by
  obtain ⟨hw1, hw2⟩ := hw
  obtain ⟨hp1, hp2⟩ := hp
  have e1 : IntKind.i64.wrap (own - 1) = own - 1 := IntWalk.i64_in _ (by omega)
  have e2 : IntKind.i64.wrap (p - 1) = p - 1 := IntWalk.i64_in _ (by omega)
  have g0 := B3.new (w := w) (x0 := .int .i64 k) (x1 := .int .i64 a) (x2 := .int .i64 b) (t := 65)
  obtain ⟨c0, c1, c2⟩ := g0
  by_cases h0 : k = 0 ∨ k = 1
  · rw [arB_01 h0]
    rcases h0 with rfl | rfl
    · cases ha : inB a 0 (own - 1) with
      | false =>
        go_enter Tryz.func45, Tryz.ntmps45
        go_wp2_with (go_at_call 44; refine (i_within _ _ _ _).mono ?_; rintro e w1 ⟨rfl, rfl⟩)
        go_ret
        exact ⟨by first | rfl | simp | (simp; omega), by (repeat (first | exact Below.refl _ _ | assumption | refine bel_trans ?_ (bel_alloc _ _) | refine bel_set ?_ (by first | (dsimp only; omega) | (simp; omega) | simp) _ | refine bel_trans ?_ (bel_drewN _ _) | refine bel_trans ?_ (bel_drew _) | refine bel_trans ?_ (by assumption)))⟩
      | true =>
        go_enter Tryz.func45, Tryz.ntmps45
        go_wp2_with (go_at_call 44; refine (i_within _ _ _ _).mono ?_; rintro e w1 ⟨rfl, rfl⟩)
        go_ret
        exact ⟨by first | rfl | simp | (simp; omega), by (repeat (first | exact Below.refl _ _ | assumption | refine bel_trans ?_ (bel_alloc _ _) | refine bel_set ?_ (by first | (dsimp only; omega) | (simp; omega) | simp) _ | refine bel_trans ?_ (bel_drewN _ _) | refine bel_trans ?_ (bel_drew _) | refine bel_trans ?_ (by assumption)))⟩
    · cases ha : inB a 0 (own - 1) with
      | false =>
        go_enter Tryz.func45, Tryz.ntmps45
        go_wp2_with (go_at_call 44; refine (i_within _ _ _ _).mono ?_; rintro e w1 ⟨rfl, rfl⟩)
        go_ret
        exact ⟨by first | rfl | simp | (simp; omega), by (repeat (first | exact Below.refl _ _ | assumption | refine bel_trans ?_ (bel_alloc _ _) | refine bel_set ?_ (by first | (dsimp only; omega) | (simp; omega) | simp) _ | refine bel_trans ?_ (bel_drewN _ _) | refine bel_trans ?_ (bel_drew _) | refine bel_trans ?_ (by assumption)))⟩
      | true =>
        go_enter Tryz.func45, Tryz.ntmps45
        go_wp2_with (go_at_call 44; refine (i_within _ _ _ _).mono ?_; rintro e w1 ⟨rfl, rfl⟩)
        go_ret
        exact ⟨by first | rfl | simp | (simp; omega), by (repeat (first | exact Below.refl _ _ | assumption | refine bel_trans ?_ (bel_alloc _ _) | refine bel_set ?_ (by first | (dsimp only; omega) | (simp; omega) | simp) _ | refine bel_trans ?_ (bel_drewN _ _) | refine bel_trans ?_ (bel_drew _) | refine bel_trans ?_ (by assumption)))⟩
  · by_cases h2 : k = 2
    · subst h2
      rw [arB_2]
      cases ha : inB a 0 (own - 1) with
      | false =>
        go_enter Tryz.func45, Tryz.ntmps45
        go_wp2_with (go_at_call 44; refine (i_within _ _ _ _).mono ?_; rintro e w1 ⟨rfl, rfl⟩)
        go_ret
        exact ⟨by first | rfl | simp | (simp; omega), by (repeat (first | exact Below.refl _ _ | assumption | refine bel_trans ?_ (bel_alloc _ _) | refine bel_set ?_ (by first | (dsimp only; omega) | (simp; omega) | simp) _ | refine bel_trans ?_ (bel_drewN _ _) | refine bel_trans ?_ (bel_drew _) | refine bel_trans ?_ (by assumption)))⟩
      | true =>
        go_enter Tryz.func45, Tryz.ntmps45
        go_wp2_with (go_at_call 44; refine (i_within _ _ _ _).mono ?_; rintro e w1 ⟨rfl, rfl⟩)
        go_ret
        exact ⟨by first | rfl | simp | (simp; omega), by (repeat (first | exact Below.refl _ _ | assumption | refine bel_trans ?_ (bel_alloc _ _) | refine bel_set ?_ (by first | (dsimp only; omega) | (simp; omega) | simp) _ | refine bel_trans ?_ (bel_drewN _ _) | refine bel_trans ?_ (bel_drew _) | refine bel_trans ?_ (by assumption)))⟩
    · rw [arB_3 h0 h2]
      have k0 : ¬ k = 0 := fun e => h0 (.inl e)
      have k1 : ¬ k = 1 := fun e => h0 (.inr e)
      have k0b : (k == 0) = false := by simpa using k0
      have k1b : (k == 1) = false := by simpa using k1
      have k2b : (k == 2) = false := by simpa using h2
      clear h0
      by_cases h3 : k = 3
      · subst h3
        rw [decide_eq_true (rfl : (3 : Int) = 3), Bool.true_and]
        cases ha : inB a 0 (p - 1) with
        | false =>
          go_enter Tryz.func45, Tryz.ntmps45
          go_wp2_with (go_at_call 44; refine (i_within _ _ _ _).mono ?_; rintro e w1 ⟨rfl, rfl⟩)
          go_ret
          exact ⟨by first | rfl | simp | (simp; omega), by (repeat (first | exact Below.refl _ _ | assumption | refine bel_trans ?_ (bel_alloc _ _) | refine bel_set ?_ (by first | (dsimp only; omega) | (simp; omega) | simp) _ | refine bel_trans ?_ (bel_drewN _ _) | refine bel_trans ?_ (bel_drew _) | refine bel_trans ?_ (by assumption)))⟩
        | true =>
          by_cases hb : b = 0
          · subst hb
            go_enter Tryz.func45, Tryz.ntmps45
            go_wp2_with (go_at_call 44; refine (i_within _ _ _ _).mono ?_; rintro e w1 ⟨rfl, rfl⟩)
            go_ret
            exact ⟨by first | rfl | simp | (simp; omega), by (repeat (first | exact Below.refl _ _ | assumption | refine bel_trans ?_ (bel_alloc _ _) | refine bel_set ?_ (by first | (dsimp only; omega) | (simp; omega) | simp) _ | refine bel_trans ?_ (bel_drewN _ _) | refine bel_trans ?_ (bel_drew _) | refine bel_trans ?_ (by assumption)))⟩
          · have hbb : (b == 0) = false := by simpa using hb
            have hbc : (0 == b) = false := by simpa using fun e => hb e.symm
            rw [decide_eq_false hb]
            go_enter Tryz.func45, Tryz.ntmps45
            go_wp2_with (go_at_call 44; refine (i_within _ _ _ _).mono ?_; rintro e w1 ⟨rfl, rfl⟩)
            go_ret
            exact ⟨by first | rfl | simp | (simp; omega), by (repeat (first | exact Below.refl _ _ | assumption | refine bel_trans ?_ (bel_alloc _ _) | refine bel_set ?_ (by first | (dsimp only; omega) | (simp; omega) | simp) _ | refine bel_trans ?_ (bel_drewN _ _) | refine bel_trans ?_ (bel_drew _) | refine bel_trans ?_ (by assumption)))⟩
      · have k3b : (k == 3) = false := by simpa using h3
        have k3c : (3 == k) = false := by simpa using fun e => h3 e.symm
        rw [decide_eq_false h3]
        go_enter Tryz.func45, Tryz.ntmps45
        go_wp2_with (go_at_call 44; refine (i_within _ _ _ _).mono ?_; rintro e w1 ⟨rfl, rfl⟩)
        go_ret
        exact ⟨by first | rfl | simp | (simp; omega), by (repeat (first | exact Below.refl _ _ | assumption | refine bel_trans ?_ (bel_alloc _ _) | refine bel_set ?_ (by first | (dsimp only; omega) | (simp; omega) | simp) _ | refine bel_trans ?_ (bel_drewN _ _) | refine bel_trans ?_ (bel_drew _) | refine bel_trans ?_ (by assumption)))⟩
set_option maxHeartbeats 4000000 in
theorem s_arGate (p k a b own : Int) (w : World) (hw : 0 ≤ own ∧ own ≤ 1000000) (hp : 2 ≤ p ∧ p ≤ 251) :
    Calls Tryz.prog 68 #[.int .i64 p, .agg #[.int .i64 k, .int .i64 a, .int .i64 b], .int .i64 own] w fun e w' => e = .returned (.bool (arB p k a b own)) ∧ Below w.heap.size w w' := by
  obtain ⟨hw1, hw2⟩ := hw
  obtain ⟨hp1, hp2⟩ := hp
  have e1 : IntKind.i64.wrap (own - 1) = own - 1 := IntWalk.i64_in _ (by omega)
  have e2 : IntKind.i64.wrap (p - 1) = p - 1 := IntWalk.i64_in _ (by omega)
  have g0 := B3.new (w := w) (x0 := .int .i64 k) (x1 := .int .i64 a) (x2 := .int .i64 b) (t := 65)
  obtain ⟨c0, c1, c2⟩ := g0
  by_cases h0 : k = 0 ∨ k = 1
  · rw [arB_01 h0]
    rcases h0 with rfl | rfl
    · cases ha : inB a 0 (own - 1) with
      | false =>
        go_enter Tryz.func68, Tryz.ntmps68
        go_wp2_with (go_at_call 52; refine (s_l1In _ _ _ _).mono ?_; rintro e w1 ⟨rfl, rfl⟩)
        go_ret
        exact ⟨by first | rfl | simp | (simp; omega), by (repeat (first | exact Below.refl _ _ | assumption | refine bel_trans ?_ (bel_alloc _ _) | refine bel_set ?_ (by first | (dsimp only; omega) | (simp; omega) | simp) _ | refine bel_trans ?_ (bel_drewN _ _) | refine bel_trans ?_ (bel_drew _) | refine bel_trans ?_ (by assumption)))⟩
      | true =>
        go_enter Tryz.func68, Tryz.ntmps68
        go_wp2_with (go_at_call 52; refine (s_l1In _ _ _ _).mono ?_; rintro e w1 ⟨rfl, rfl⟩)
        go_ret
        exact ⟨by first | rfl | simp | (simp; omega), by (repeat (first | exact Below.refl _ _ | assumption | refine bel_trans ?_ (bel_alloc _ _) | refine bel_set ?_ (by first | (dsimp only; omega) | (simp; omega) | simp) _ | refine bel_trans ?_ (bel_drewN _ _) | refine bel_trans ?_ (bel_drew _) | refine bel_trans ?_ (by assumption)))⟩
    · cases ha : inB a 0 (own - 1) with
      | false =>
        go_enter Tryz.func68, Tryz.ntmps68
        go_wp2_with (go_at_call 52; refine (s_l1In _ _ _ _).mono ?_; rintro e w1 ⟨rfl, rfl⟩)
        go_ret
        exact ⟨by first | rfl | simp | (simp; omega), by (repeat (first | exact Below.refl _ _ | assumption | refine bel_trans ?_ (bel_alloc _ _) | refine bel_set ?_ (by first | (dsimp only; omega) | (simp; omega) | simp) _ | refine bel_trans ?_ (bel_drewN _ _) | refine bel_trans ?_ (bel_drew _) | refine bel_trans ?_ (by assumption)))⟩
      | true =>
        go_enter Tryz.func68, Tryz.ntmps68
        go_wp2_with (go_at_call 52; refine (s_l1In _ _ _ _).mono ?_; rintro e w1 ⟨rfl, rfl⟩)
        go_ret
        exact ⟨by first | rfl | simp | (simp; omega), by (repeat (first | exact Below.refl _ _ | assumption | refine bel_trans ?_ (bel_alloc _ _) | refine bel_set ?_ (by first | (dsimp only; omega) | (simp; omega) | simp) _ | refine bel_trans ?_ (bel_drewN _ _) | refine bel_trans ?_ (bel_drew _) | refine bel_trans ?_ (by assumption)))⟩
  · by_cases h2 : k = 2
    · subst h2
      rw [arB_2]
      cases ha : inB a 0 (own - 1) with
      | false =>
        go_enter Tryz.func68, Tryz.ntmps68
        go_wp2_with (go_at_call 52; refine (s_l1In _ _ _ _).mono ?_; rintro e w1 ⟨rfl, rfl⟩)
        go_ret
        exact ⟨by first | rfl | simp | (simp; omega), by (repeat (first | exact Below.refl _ _ | assumption | refine bel_trans ?_ (bel_alloc _ _) | refine bel_set ?_ (by first | (dsimp only; omega) | (simp; omega) | simp) _ | refine bel_trans ?_ (bel_drewN _ _) | refine bel_trans ?_ (bel_drew _) | refine bel_trans ?_ (by assumption)))⟩
      | true =>
        go_enter Tryz.func68, Tryz.ntmps68
        go_wp2_with (go_at_call 52; refine (s_l1In _ _ _ _).mono ?_; rintro e w1 ⟨rfl, rfl⟩)
        go_ret
        exact ⟨by first | rfl | simp | (simp; omega), by (repeat (first | exact Below.refl _ _ | assumption | refine bel_trans ?_ (bel_alloc _ _) | refine bel_set ?_ (by first | (dsimp only; omega) | (simp; omega) | simp) _ | refine bel_trans ?_ (bel_drewN _ _) | refine bel_trans ?_ (bel_drew _) | refine bel_trans ?_ (by assumption)))⟩
    · rw [arB_3 h0 h2]
      have k0 : ¬ k = 0 := fun e => h0 (.inl e)
      have k1 : ¬ k = 1 := fun e => h0 (.inr e)
      have k0b : (k == 0) = false := by simpa using k0
      have k1b : (k == 1) = false := by simpa using k1
      have k2b : (k == 2) = false := by simpa using h2
      clear h0
      by_cases h3 : k = 3
      · subst h3
        rw [decide_eq_true (rfl : (3 : Int) = 3), Bool.true_and]
        cases ha : inB a 0 (p - 1) with
        | false =>
          go_enter Tryz.func68, Tryz.ntmps68
          go_wp2_with (go_at_call 52; refine (s_l1In _ _ _ _).mono ?_; rintro e w1 ⟨rfl, rfl⟩)
          go_ret
          exact ⟨by first | rfl | simp | (simp; omega), by (repeat (first | exact Below.refl _ _ | assumption | refine bel_trans ?_ (bel_alloc _ _) | refine bel_set ?_ (by first | (dsimp only; omega) | (simp; omega) | simp) _ | refine bel_trans ?_ (bel_drewN _ _) | refine bel_trans ?_ (bel_drew _) | refine bel_trans ?_ (by assumption)))⟩
        | true =>
          by_cases hb : b = 0
          · subst hb
            go_enter Tryz.func68, Tryz.ntmps68
            go_wp2_with (go_at_call 52; refine (s_l1In _ _ _ _).mono ?_; rintro e w1 ⟨rfl, rfl⟩)
            go_ret
            exact ⟨by first | rfl | simp | (simp; omega), by (repeat (first | exact Below.refl _ _ | assumption | refine bel_trans ?_ (bel_alloc _ _) | refine bel_set ?_ (by first | (dsimp only; omega) | (simp; omega) | simp) _ | refine bel_trans ?_ (bel_drewN _ _) | refine bel_trans ?_ (bel_drew _) | refine bel_trans ?_ (by assumption)))⟩
          · have hbb : (b == 0) = false := by simpa using hb
            have hbc : (0 == b) = false := by simpa using fun e => hb e.symm
            rw [decide_eq_false hb]
            go_enter Tryz.func68, Tryz.ntmps68
            go_wp2_with (go_at_call 52; refine (s_l1In _ _ _ _).mono ?_; rintro e w1 ⟨rfl, rfl⟩)
            go_ret
            exact ⟨by first | rfl | simp | (simp; omega), by (repeat (first | exact Below.refl _ _ | assumption | refine bel_trans ?_ (bel_alloc _ _) | refine bel_set ?_ (by first | (dsimp only; omega) | (simp; omega) | simp) _ | refine bel_trans ?_ (bel_drewN _ _) | refine bel_trans ?_ (bel_drew _) | refine bel_trans ?_ (by assumption)))⟩
      · have k3b : (k == 3) = false := by simpa using h3
        have k3c : (3 == k) = false := by simpa using fun e => h3 e.symm
        rw [decide_eq_false h3]
        go_enter Tryz.func68, Tryz.ntmps68
        go_wp2_with (go_at_call 52; refine (s_l1In _ _ _ _).mono ?_; rintro e w1 ⟨rfl, rfl⟩)
        go_ret
        exact ⟨by first | rfl | simp | (simp; omega), by (repeat (first | exact Below.refl _ _ | assumption | refine bel_trans ?_ (bel_alloc _ _) | refine bel_set ?_ (by first | (dsimp only; omega) | (simp; omega) | simp) _ | refine bel_trans ?_ (bel_drewN _ _) | refine bel_trans ?_ (bel_drew _) | refine bel_trans ?_ (by assumption)))⟩
set_option maxHeartbeats 1000000 in
theorem i_arInputs (p i0 i1 : Int) (ga : Option Addr) (gn gc : Nat) (oa : Option Addr) (on oc : Nat) (w : World) (h0 : -1000 ≤ i0 ∧ i0 ≤ 1000) (h1 : -1000 ≤ i1 ∧ i1 ≤ 1000) :
    Calls Tryz.prog 46 #[.agg #[.int .i64 p, .int .i64 i0, .int .i64 i1, .slice ga gn gc, .slice oa on oc]] w fun e w' => e = .returned (.int .i64 (i0 + i1)) ∧ Below w.heap.size w w' := by
  obtain ⟨h01, h02⟩ := h0; obtain ⟨h11, h12⟩ := h1
  have e1 : IntKind.i64.wrap (i0 + i1) = i0 + i1 := IntWalk.i64_in _ (by omega)
  have g0 := B5.new (w := w) (x0 := .int .i64 p) (x1 := .int .i64 i0) (x2 := .int .i64 i1) (x3 := .slice ga gn gc) (x4 := .slice oa on oc) (t := 26)
  obtain ⟨c0, c1, c2, c3, c4⟩ := g0
  go_enter Tryz.func46, Tryz.ntmps46
  go_wp2
  go_ret
  exact ⟨rfl, by (repeat (first | exact Below.refl _ _ | assumption | refine bel_trans ?_ (bel_alloc _ _) | refine bel_set ?_ (by first | (dsimp only; omega) | (simp; omega) | simp) _ | refine bel_trans ?_ (bel_drewN _ _) | refine bel_trans ?_ (bel_drew _) | refine bel_trans ?_ (by assumption)))⟩
set_option maxHeartbeats 1000000 in
theorem s_arInputs (p i0 i1 : Int) (ga : Option Addr) (gn gc : Nat) (oa : Option Addr) (on oc : Nat) (w : World) (h0 : -1000 ≤ i0 ∧ i0 ≤ 1000) (h1 : -1000 ≤ i1 ∧ i1 ≤ 1000) :
    Calls Tryz.prog 69 #[.agg #[.int .i64 p, .int .i64 i0, .int .i64 i1, .slice ga gn gc, .slice oa on oc]] w fun e w' => e = .returned (.int .i64 (i0 + i1)) ∧ Below w.heap.size w w' := by
  obtain ⟨h01, h02⟩ := h0; obtain ⟨h11, h12⟩ := h1
  have e1 : IntKind.i64.wrap (i0 + i1) = i0 + i1 := IntWalk.i64_in _ (by omega)
  have g0 := B5.new (w := w) (x0 := .int .i64 p) (x1 := .int .i64 i0) (x2 := .int .i64 i1) (x3 := .slice ga gn gc) (x4 := .slice oa on oc) (t := 26)
  obtain ⟨c0, c1, c2, c3, c4⟩ := g0
  go_enter Tryz.func69, Tryz.ntmps69
  go_wp2
  go_ret
  exact ⟨rfl, by (repeat (first | exact Below.refl _ _ | assumption | refine bel_trans ?_ (bel_alloc _ _) | refine bel_set ?_ (by first | (dsimp only; omega) | (simp; omega) | simp) _ | refine bel_trans ?_ (bel_drewN _ _) | refine bel_trans ?_ (bel_drew _) | refine bel_trans ?_ (by assumption)))⟩
set_option maxHeartbeats 2000000 in
theorem s_arWires (p i0 i1 : Int) (ga : Option Addr) (gn gc : Nat) (oa : Option Addr) (on oc : Nat) (w : World) (h0 : -1000 ≤ i0 ∧ i0 ≤ 1000) (h1 : -1000 ≤ i1 ∧ i1 ≤ 1000) (hn : gn ≤ 1000000) :
    Calls Tryz.prog 54 #[.agg #[.int .i64 p, .int .i64 i0, .int .i64 i1, .slice ga gn gc, .slice oa on oc]] w fun e w' => e = .returned (.int .i64 (i0 + i1 + gn)) ∧ Below w.heap.size w w' := by
  have e1 : IntKind.i64.wrap (i0 + i1 + gn) = i0 + i1 + gn := IntWalk.i64_in _ (by omega)
  have A0 := bel_alloc w (.cells #[.int .i64 p, .int .i64 i0, .int .i64 i1, .slice ga gn gc, .slice oa on oc] 26)
  have g0 := B5.new (w := w) (x0 := .int .i64 p) (x1 := .int .i64 i0) (x2 := .int .i64 i1) (x3 := .slice ga gn gc) (x4 := .slice oa on oc) (t := 26)
  obtain ⟨c0, c1, c2, c3, c4⟩ := g0
  go_enter Tryz.func54, Tryz.ntmps54
  go_wp2
  go_region_held3 (fun W => W.cell? ⟨w.heap.size, 0, none⟩ = some (.int .i64 p) ∧ W.cell? ⟨w.heap.size, 1, none⟩ = some (.int .i64 i0) ∧ W.cell? ⟨w.heap.size, 2, none⟩ = some (.int .i64 i1) ∧ W.cell? ⟨w.heap.size, 3, none⟩ = some (.slice ga gn gc) ∧ W.cell? ⟨w.heap.size, 4, none⟩ = some (.slice oa on oc)) (exact ⟨c0, c1, c2, c3, c4⟩) (first | (go_at_call 69; refine (s_arInputs _ _ _ _ _ _ _ _ _ _ h0 h1).mono ?_; rintro e w1 ⟨rfl, hb1⟩; have hb2 := bel_trans (bel_drew _) hb1; have c0 := cell_on c0 hb2; have c1 := cell_on c1 hb2; have c2 := cell_on c2 hb2; have c3 := cell_on c3 hb2; have c4 := cell_on c4 hb2))
  go_wp2
  go_ret
  exact ⟨rfl, bel_trans A0 hb2⟩
end Go.Proofs.YtfichpppjpgahaaGreatDoor
