/-
  An arithmetic circuit in a box of its own, beside a cursor.
  Contracts: valid arithmetic circuits.
  Primes: what a product of two numbers, and a linear equation, are modulo a prime; nothing of the program stands here.
-/
import Derived.Test.YtfichpppjpgahaaGreatDoorFm2
import Derived.Test.YtfichpppjpgahaaGreatDoorFm4
import Derived.Deep.RegionLaw
import Derived.BigRegion
import Derived.Test.YtfichpppjpgahaaGreatDoorFm0
namespace Go.Proofs.YtfichpppjpgahaaGreatDoor
open Go.RowKit
set_option linter.unusedVariables false
set_option linter.unusedSimpArgs false
set_option maxRecDepth 10000

theorem ownsRow_keptNe {E : TypeId} {w w' : World} {B s n : Nat} {v : Value} {xs : List Value} {o : Option Nat} (h : w.ownsRow B E s v n xs) (k : w.grownBy w' o) (hne : ∀ g, v.ownBlock = some g → o ≠ some g) : w'.ownsRow B E s v n xs :=
  h.kept k (by
    cases hb : v.ownBlock with
    | none => exact .inl rfl
    | some g => exact .inr (fun e => hne g hb e.symm))
/-- A box of five cells that may be written. -/
structure B5w (w : World) (b : Nat) (x0 x1 x2 x3 x4 : Value) : Prop where
  r : B5 w b x0 x1 x2 x3 x4
  f0 : w.frozen? ⟨b, 0, none⟩ = false
  f1 : w.frozen? ⟨b, 1, none⟩ = false
  f2 : w.frozen? ⟨b, 2, none⟩ = false
  f3 : w.frozen? ⟨b, 3, none⟩ = false
  f4 : w.frozen? ⟨b, 4, none⟩ = false
theorem B5w.on {w w' : World} {b : Nat} {x0 x1 x2 x3 x4 : Value} (h : B5w w b x0 x1 x2 x3 x4) (hb : Below w.heap.size w w') : B5w w' b x0 x1 x2 x3 x4 :=
  ⟨h.r.on hb, (hb.frozen (p := ⟨b, 0, none⟩) h.r.lt).trans h.f0, (hb.frozen (p := ⟨b, 1, none⟩) h.r.lt).trans h.f1, (hb.frozen (p := ⟨b, 2, none⟩) h.r.lt).trans h.f2, (hb.frozen (p := ⟨b, 3, none⟩) h.r.lt).trans h.f3, (hb.frozen (p := ⟨b, 4, none⟩) h.r.lt).trans h.f4⟩
theorem B5w.new {w : World} {x0 x1 x2 x3 x4 : Value} {t : TypeId} : B5w (w.alloc (.cells #[x0, x1, x2, x3, x4] t)) w.heap.size x0 x1 x2 x3 x4 :=
  ⟨B5.new, World.frozen?_alloc_at _ _ _ _ rfl, World.frozen?_alloc_at _ _ _ _ rfl, World.frozen?_alloc_at _ _ _ _ rfl, World.frozen?_alloc_at _ _ _ _ rfl, World.frozen?_alloc_at _ _ _ _ rfl⟩
theorem B5.otherW {w : World} {b : Nat} {x0 x1 x2 x3 x4 : Value} (h : B5 w b x0 x1 x2 x3 x4) {p : Addr} (hp : p.block ≠ b) (u : Value) : B5 (w.setCell p u) b x0 x1 x2 x3 x4 := by
  have e : ∀ o, (w.setCell p u).cell? ⟨b, o, none⟩ = w.cell? ⟨b, o, none⟩ := fun o => World.cell?_setCell_other _ _ _ _ (fun e => hp (by rw [e]))
  exact ⟨(e 0).trans h.c0, (e 1).trans h.c1, (e 2).trans h.c2, (e 3).trans h.c3, (e 4).trans h.c4⟩
theorem B5w.other {w : World} {b : Nat} {x0 x1 x2 x3 x4 : Value} (h : B5w w b x0 x1 x2 x3 x4) {p : Addr} (hp : p.block ≠ b) (u : Value) : B5w (w.setCell p u) b x0 x1 x2 x3 x4 :=
  ⟨h.r.otherW hp u, by simpa using h.f0, by simpa using h.f1, by simpa using h.f2, by simpa using h.f3, by simpa using h.f4⟩
theorem B5w.s0 {w : World} {b : Nat} {x0 x1 x2 x3 x4 : Value} (h : B5w w b x0 x1 x2 x3 x4) (u : Value) : B5w (w.setCell ⟨b, 0, none⟩ u) b u x1 x2 x3 x4 :=
  ⟨⟨World.cell?_setCell_same _ _ _ h.r.c0, (World.cell?_setCell_other _ _ _ _ (by simp)).trans h.r.c1, (World.cell?_setCell_other _ _ _ _ (by simp)).trans h.r.c2, (World.cell?_setCell_other _ _ _ _ (by simp)).trans h.r.c3, (World.cell?_setCell_other _ _ _ _ (by simp)).trans h.r.c4⟩, by simpa using h.f0, by simpa using h.f1, by simpa using h.f2, by simpa using h.f3, by simpa using h.f4⟩
theorem B5w.s1 {w : World} {b : Nat} {x0 x1 x2 x3 x4 : Value} (h : B5w w b x0 x1 x2 x3 x4) (u : Value) : B5w (w.setCell ⟨b, 1, none⟩ u) b x0 u x2 x3 x4 :=
  ⟨⟨(World.cell?_setCell_other _ _ _ _ (by simp)).trans h.r.c0, World.cell?_setCell_same _ _ _ h.r.c1, (World.cell?_setCell_other _ _ _ _ (by simp)).trans h.r.c2, (World.cell?_setCell_other _ _ _ _ (by simp)).trans h.r.c3, (World.cell?_setCell_other _ _ _ _ (by simp)).trans h.r.c4⟩, by simpa using h.f0, by simpa using h.f1, by simpa using h.f2, by simpa using h.f3, by simpa using h.f4⟩
theorem B5w.s2 {w : World} {b : Nat} {x0 x1 x2 x3 x4 : Value} (h : B5w w b x0 x1 x2 x3 x4) (u : Value) : B5w (w.setCell ⟨b, 2, none⟩ u) b x0 x1 u x3 x4 :=
  ⟨⟨(World.cell?_setCell_other _ _ _ _ (by simp)).trans h.r.c0, (World.cell?_setCell_other _ _ _ _ (by simp)).trans h.r.c1, World.cell?_setCell_same _ _ _ h.r.c2, (World.cell?_setCell_other _ _ _ _ (by simp)).trans h.r.c3, (World.cell?_setCell_other _ _ _ _ (by simp)).trans h.r.c4⟩, by simpa using h.f0, by simpa using h.f1, by simpa using h.f2, by simpa using h.f3, by simpa using h.f4⟩
theorem B5w.s3 {w : World} {b : Nat} {x0 x1 x2 x3 x4 : Value} (h : B5w w b x0 x1 x2 x3 x4) (u : Value) : B5w (w.setCell ⟨b, 3, none⟩ u) b x0 x1 x2 u x4 :=
  ⟨⟨(World.cell?_setCell_other _ _ _ _ (by simp)).trans h.r.c0, (World.cell?_setCell_other _ _ _ _ (by simp)).trans h.r.c1, (World.cell?_setCell_other _ _ _ _ (by simp)).trans h.r.c2, World.cell?_setCell_same _ _ _ h.r.c3, (World.cell?_setCell_other _ _ _ _ (by simp)).trans h.r.c4⟩, by simpa using h.f0, by simpa using h.f1, by simpa using h.f2, by simpa using h.f3, by simpa using h.f4⟩
theorem B5w.s4 {w : World} {b : Nat} {x0 x1 x2 x3 x4 : Value} (h : B5w w b x0 x1 x2 x3 x4) (u : Value) : B5w (w.setCell ⟨b, 4, none⟩ u) b x0 x1 x2 x3 u :=
  ⟨⟨(World.cell?_setCell_other _ _ _ _ (by simp)).trans h.r.c0, (World.cell?_setCell_other _ _ _ _ (by simp)).trans h.r.c1, (World.cell?_setCell_other _ _ _ _ (by simp)).trans h.r.c2, (World.cell?_setCell_other _ _ _ _ (by simp)).trans h.r.c3, World.cell?_setCell_same _ _ _ h.r.c4⟩, by simpa using h.f0, by simpa using h.f1, by simpa using h.f2, by simpa using h.f3, by simpa using h.f4⟩
theorem B5w.bex {b g : Nat} {w w' : World} {x0 x1 x2 x3 x4 : Value} (h : B5w w g x0 x1 x2 x3 x4) (k : Bex b w w') (hg : g ≠ b) : B5w w' g x0 x1 x2 x3 x4 :=
  ⟨⟨k.cell h.r.c0 hg, k.cell h.r.c1 hg, k.cell h.r.c2 hg, k.cell h.r.c3 hg, k.cell h.r.c4 hg⟩, (k.frozen h.r.lt hg).trans h.f0, (k.frozen h.r.lt hg).trans h.f1, (k.frozen h.r.lt hg).trans h.f2, (k.frozen h.r.lt hg).trans h.f3, (k.frozen h.r.lt hg).trans h.f4⟩
theorem B5w.grown {w w' : World} {g : Nat} {x0 x1 x2 x3 x4 : Value} {o : Option Nat} (h : B5w w g x0 x1 x2 x3 x4) (k : w.grownBy w' o) (hne : some g ≠ o) : B5w w' g x0 x1 x2 x3 x4 :=
  ⟨⟨k.cell h.r.c0 hne, k.cell h.r.c1 hne, k.cell h.r.c2 hne, k.cell h.r.c3 hne, k.cell h.r.c4 hne⟩, (k.frozen_far ⟨g, 0, none⟩ h.r.lt hne).trans h.f0, (k.frozen_far ⟨g, 1, none⟩ h.r.lt hne).trans h.f1, (k.frozen_far ⟨g, 2, none⟩ h.r.lt hne).trans h.f2, (k.frozen_far ⟨g, 3, none⟩ h.r.lt hne).trans h.f3, (k.frozen_far ⟨g, 4, none⟩ h.r.lt hne).trans h.f4⟩
theorem grow_set (w : World) (g j : Nat) (u : Value) : w.grownBy (w.setCell ⟨g, j, none⟩ u) (some g) :=
  ⟨rfl, rfl, rfl, by simp, fun k _ hk => heap_setCell_other w ⟨g, j, none⟩ k u (fun e => hk (by simp [e]))⟩
theorem ne_some {v : Value} {g : Nat} (h : v.ownBlock ≠ some g) : ∀ q, v.ownBlock = some q → some g ≠ some q := fun q e k => h (by rw [e, ← k])
theorem own_sl {E : TypeId} {w : World} {B s n : Nat} {v : Value} {xs : List Value} (h : w.ownsRow B E s v n xs) : ∃ a c, v = .slice a n c := by
  rcases h.2 with ⟨h1, h2⟩ | ⟨q, cap, cur, hv, _⟩
  · exact ⟨none, 0, by first | rw [h1, h2] | simp_all⟩
  · exact ⟨_, _, hv⟩
/-- Two rows of the call's own: gates and outs. -/
structure CirO (w : World) (L : Nat) (v2 : Value) (n : Nat) (gs : List Int) (v3 : Value) (m : Nat) (os : List Int) : Prop where
  og : w.ownsRow L 65 3 v2 n (ivs gs)
  oo : w.ownsRow L 3 1 v3 m (ivs os)
  dj : ∀ q, v2.ownBlock = some q → v3.ownBlock ≠ some q
  fg : Hid (∀ x ∈ gs, Fits x)
  fo : Hid (∀ x ∈ os, Fits x)
theorem CirO.bex {b L : Nat} {w w' : World} {v2 v3 : Value} {n m : Nat} {gs os : List Int} (h : CirO w L v2 n gs v3 m os) (k : Bex b w w') (hb : b < L) : CirO w' L v2 n gs v3 m os := ⟨ownsRow_bex h.og k hb, ownsRow_bex h.oo k hb, h.dj, h.fg, h.fo⟩
theorem CirO.base {L L' : Nat} {w : World} {v2 v3 : Value} {n m : Nat} {gs os : List Int} (h : CirO w L v2 n gs v3 m os) (hb : L' ≤ L) : CirO w L' v2 n gs v3 m os := ⟨ownsRow_base h.og hb, ownsRow_base h.oo hb, h.dj, h.fg, h.fo⟩
theorem CirO.kept {L : Nat} {w w' : World} {v2 v3 : Value} {n m : Nat} {gs os : List Int} {o : Option Nat} (h : CirO w L v2 n gs v3 m os) (k : w.grownBy w' o) (d2 : ∀ q, v2.ownBlock = some q → o ≠ some q) (d3 : ∀ q, v3.ownBlock = some q → o ≠ some q) : CirO w' L v2 n gs v3 m os :=
  ⟨ownsRow_keptNe h.og k d2, ownsRow_keptNe h.oo k d3, h.dj, h.fg, h.fo⟩
theorem CirO.below {L : Nat} {w w' : World} {v2 v3 : Value} {n m : Nat} {gs os : List Int} (h : CirO w L v2 n gs v3 m os) (k : Below w.heap.size w w') : CirO w' L v2 n gs v3 m os := ⟨ownsRow_below h.og k, ownsRow_below h.oo k, h.dj, h.fg, h.fo⟩
/-- A circuit in box g, its rows from block L on. -/
structure AnyA (W : World) (L g : Nat) (x0 x1 x2 : Int) (v2 : Value) (n : Nat) (gs : List Int) (v3 : Value) (m : Nat) (os : List Int) : Prop where
  box : B5w W g (.int .i64 x0) (.int .i64 x1) (.int .i64 x2) v2 v3
  r : CirO W L v2 n gs v3 m os
  d2 : v2.ownBlock ≠ some g
  d3 : v3.ownBlock ≠ some g
  Lg : L ≤ g
variable {W W' : World} {L g : Nat} {x0 x1 x2 : Int} {v2 v3 : Value} {n m : Nat} {gs os : List Int}
theorem AnyA.lt (h : AnyA W L g x0 x1 x2 v2 n gs v3 m os) : g < W.heap.size := h.box.r.lt
theorem AnyA.new {t : TypeId} (h : CirO W L v2 n gs v3 m os) (hL : L ≤ W.heap.size) : AnyA (W.alloc (.cells #[.int .i64 x0, .int .i64 x1, .int .i64 x2, v2, v3] t)) L W.heap.size x0 x1 x2 v2 n gs v3 m os :=
  ⟨B5w.new, h.below (bel_alloc _ _), fun e => by have := (ownLt h.og _ e).2; omega, fun e => by have := (ownLt h.oo _ e).2; omega, hL⟩
theorem AnyA.below (h : AnyA W L g x0 x1 x2 v2 n gs v3 m os) (k : Below W.heap.size W W') : AnyA W' L g x0 x1 x2 v2 n gs v3 m os := ⟨h.box.on k, h.r.below k, h.d2, h.d3, h.Lg⟩
theorem AnyA.bex {b : Nat} (h : AnyA W L g x0 x1 x2 v2 n gs v3 m os) (k : Bex b W W') (hb : b < L) : AnyA W' L g x0 x1 x2 v2 n gs v3 m os := ⟨h.box.bex k (by have := h.Lg; omega), h.r.bex k hb, h.d2, h.d3, h.Lg⟩
theorem AnyA.set0 (h : AnyA W L g x0 x1 x2 v2 n gs v3 m os) (u : Int) : AnyA (W.setCell ⟨g, 0, none⟩ (.int .i64 u)) L g u x1 x2 v2 n gs v3 m os :=
  ⟨h.box.s0 _, h.r.kept (grow_set W g 0 _) (ne_some h.d2) (ne_some h.d3), h.d2, h.d3, h.Lg⟩
theorem AnyA.set1 (h : AnyA W L g x0 x1 x2 v2 n gs v3 m os) (u : Int) : AnyA (W.setCell ⟨g, 1, none⟩ (.int .i64 u)) L g x0 u x2 v2 n gs v3 m os :=
  ⟨h.box.s1 _, h.r.kept (grow_set W g 1 _) (ne_some h.d2) (ne_some h.d3), h.d2, h.d3, h.Lg⟩
/-- Other outs. -/
theorem AnyA.outs {v9 : Value} {m9 : Nat} {os9 : List Int} (h : AnyA W L g x0 x1 x2 v2 n gs v3 m os) (k : W'.ownsRow L 3 1 v9 m9 (ivs os9)) (hg : W.grownBy W' v3.ownBlock) (hb : v9.ownBlock = v3.ownBlock ∨ v9.ownBlock = some W.heap.size) (fo : Hid (∀ x ∈ os9, Fits x)) :
    AnyA (W'.setCell ⟨g, 4, none⟩ v9) L g x0 x1 x2 v2 n gs v9 m9 os9 := by
  have hl := h.lt
  have e3 : v9.ownBlock ≠ some g := by rcases hb with e | e <;> rw [e]; exact h.d3; intro q; simp only [Option.some.injEq] at q; omega
  have dj : ∀ q, v2.ownBlock = some q → v9.ownBlock ≠ some q := fun q hq => by
    rcases hb with e | e <;> rw [e]
    · exact h.r.dj q hq
    · intro z; simp only [Option.some.injEq] at z; have := (ownLt h.r.og q hq).2; omega
  have r' : CirO W' L v2 n gs v9 m9 os9 := ⟨ownsRow_keptNe h.r.og hg (fun q hq e => h.r.dj q hq e), k, dj, h.r.fg, fo⟩
  exact ⟨(h.box.grown hg (fun e => h.d3 e.symm)).s4 _, r'.kept (grow_set W' g 4 _) (ne_some h.d2) (ne_some e3), h.d2, e3, h.Lg⟩
/-- Other gates. -/
theorem AnyA.gates {v9 : Value} {n9 : Nat} {gs9 : List Int} (h : AnyA W L g x0 x1 x2 v2 n gs v3 m os) (k : W'.ownsRow L 65 3 v9 n9 (ivs gs9)) (hg : W.grownBy W' v2.ownBlock) (hb : v9.ownBlock = v2.ownBlock ∨ v9.ownBlock = some W.heap.size) (fg : Hid (∀ x ∈ gs9, Fits x)) :
    AnyA (W'.setCell ⟨g, 3, none⟩ v9) L g x0 x1 x2 v9 n9 gs9 v3 m os := by
  have hl := h.lt
  have e2 : v9.ownBlock ≠ some g := by rcases hb with e | e <;> rw [e]; exact h.d2; intro q; simp only [Option.some.injEq] at q; omega
  have dj : ∀ q, v9.ownBlock = some q → v3.ownBlock ≠ some q := fun q hq z => by
    rcases hb with e | e <;> rw [e] at hq
    · exact h.r.dj q hq z
    · simp only [Option.some.injEq] at hq; have := (ownLt h.r.oo q z).2; omega
  have r' : CirO W' L v9 n9 gs9 v3 m os := ⟨k, ownsRow_keptNe h.r.oo hg (fun q hq e => h.r.dj q e hq), dj, fg, h.r.fo⟩
  exact ⟨(h.box.grown hg (fun e => h.d2 e.symm)).s3 _, r'.kept (grow_set W' g 3 _) (ne_some e2) (ne_some h.d3), e2, h.d3, h.Lg⟩
theorem ivs_set (l : List Int) (j : Nat) (u : Int) : (ivs l).set j (.int .i64 u) = ivs (l.set j u) := by unfold ivs; rw [List.map_set]
/-- A field of a gate is written. -/
theorem AnyA.put {q j c : Nat} {u : Int} (h : AnyA W L g x0 x1 x2 (.slice (some ⟨q, 0, none⟩) n c) n gs v3 m os) (hu : Fits u) : AnyA (W.setCell ⟨q, j, none⟩ (.int .i64 u)) L g x0 x1 x2 (.slice (some ⟨q, 0, none⟩) n c) n (gs.set j u) v3 m os := by
  obtain ⟨h1, h2⟩ := World.ownsRow.stored h.r.og j (.int .i64 u)
  rw [ivs_set] at h1
  have hne : q ≠ g := fun e => h.d2 (by subst e; rfl)
  exact ⟨h.box.other (p := ⟨q, j, none⟩) hne _, ⟨h1, ownsRow_keptNe h.r.oo h2 (fun z hz e => h.r.dj q rfl (by rw [hz, ← e])), h.r.dj, fun x hx => by rcases List.mem_or_eq_of_mem_set hx with e | e; exact h.r.fg.out x e; rw [e]; exact hu, h.r.fo⟩, h.d2, h.d3, h.Lg⟩
/-- The gates' row, when there are any. -/
theorem AnyA.row (h : AnyA W L g x0 x1 x2 v2 n gs v3 m os) (hn : 0 < n) : ∃ q c, v2 = .slice (some ⟨q, 0, none⟩) n c ∧ L ≤ q ∧ q < W.heap.size := by
  obtain ⟨q, c, e, h1, h2⟩ := World.ownsRow.form h.r.og hn
  exact ⟨q, c, e, h1, h2⟩
theorem AnyA.cells {q c : Nat} (h : AnyA W L g x0 x1 x2 (.slice (some ⟨q, 0, none⟩) n c) n gs v3 m os) {j : Nat} (hj : j < n * 3) : (∃ u, W.cell? ⟨q, j, none⟩ = some (.int .i64 u)) ∧ W.frozen? ⟨q, j, none⟩ = false := by
  refine ⟨?_, World.ownsRow.frozenAt h.r.og j⟩
  have hl := h.r.og.1
  rw [World.ownsRow.cellAt h.r.og j hj]
  simp only [ivs, List.length_map] at hl
  exact ⟨gs[j]'(by omega), by simp only [ivs, List.getElem?_map]; rw [List.getElem?_eq_getElem (by omega)]; rfl⟩
/-- append of one int to a row, at a step of a region that draws its order: what is known of the new row. -/
theorem step_appX {ops : Array Oper} {o : Oper} {a : Act} {w : World} {K : Act → World → Prop} {Q : Exit → Act → World → Prop} {E : Prop} (B k : Nat) (v : Value) (xs : List Int) (u : Int) (ad : Addr)
    (hg : o.guard = none) (s x : Operand) (ho : o.op = .call { callee := .builtin .append, args := #[s, x], argTypes := #[24, 24] })
    (hs : a.eval s = v) (hx : a.eval x = .slice (some ad) 1 1) (hc : w.cell? ad = some (.int .i64 u)) (hown : w.ownsRow B 3 1 v k (ivs xs)) (hB : B ≤ w.heap.size) (hn : k ≤ 1000000000000)
    (h : ∀ v' w', w'.ownsRow B 3 1 v' (k + 1) (ivs (xs ++ [u])) → Below B w w' → w.grownBy w' v.ownBlock → (v'.ownBlock = v.ownBlock ∨ v'.ownBlock = some w.heap.size) → K (a.put o.dst v') w') :
    if Region.wanted o (yielded ops a.tmps) = true then Oper.wp Tryz.prog o a w K Q else E := by
  have hw : Region.wanted o (yielded ops a.tmps) = true := by simp [Region.wanted, hg]
  rw [if_pos hw]
  obtain ⟨i0, hi, hz0, hz1, hz2⟩ := info_parts info_int
  obtain ⟨v', w', hrun, k1, k2, k0, k3⟩ := run_append_own_at (P := Tryz.prog) w B 24 o.type 3 i0 (.int .i64 0) 1 8 Tryz.underlying24 hi hz0 hz1 hz2 rfl (by decide) v k (ivs xs) hown ad 1 1 [.int .i64 u] rfl (by
    intro j c hj
    match j, hj with
    | 0, hj =>
      simp at hj; subst hj
      have : ad.add 0 = ad := by simp [Addr.add]
      rw [this]; exact hc) (by intro c hc; simp at hc; subst hc; rfl) (by unfold maxLen; omega) (by omega) hB
  unfold Oper.wp execOp
  simp only [ho, resolve, invoke, builtin, Sem.run_bind, Sem.run_pure, Result.andThen_ok, List.map_toArray, List.map_cons, List.map_nil, hs, hx, hrun]
  exact h v' w' (by rw [ivs_snoc]; exact k1) (below_grown_own hown k2 hB) k2 k3
theorem info_GtA : (Tryz.prog.info? 65).map (fun i => (i.zero, i.size, i.bytes)) = some (some (.agg #[.int .i64 0, .int .i64 0, .int .i64 0]), 3, 24) := by kernel_rfl
/-- append of one gate: what is known of the new row. -/
theorem wp_appGX {ops : Array Oper} {rest : List Oper} {o : Oper} {a : Act} {Q : Exit → Act → World → Prop} (w : World) (B k : Nat) (v : Value) (zs : List Int) (p q r : Int) (t : TypeId) (m : Nat)
    (hg : o.guard = none) (s x : Operand) (ho : o.op = .call { callee := .builtin .append, args := #[s, x], argTypes := #[23, 23] })
    (hs : a.eval s = v) (hx : a.eval x = .slice (some ⟨m, 0, none⟩) 1 1) (hm : m = w.heap.size) (hown : w.ownsRow B 65 3 v k (ivs zs)) (hB : B ≤ w.heap.size) (hn : k ≤ 100000000)
    (h : ∀ v' w', w'.ownsRow B 65 3 v' (k + 1) (ivs (zs ++ [p, q, r])) → Below B w w' → (w.alloc (.cells #[.int .i64 p, .int .i64 q, .int .i64 r] t)).grownBy w' v.ownBlock → (v'.ownBlock = v.ownBlock ∨ v'.ownBlock = some (w.alloc (.cells #[.int .i64 p, .int .i64 q, .int .i64 r] t)).heap.size) → wpList Tryz.prog ops Q rest (a.put o.dst v') w') :
    wpList Tryz.prog ops Q (o :: rest) a (w.alloc (.cells #[.int .i64 p, .int .i64 q, .int .i64 r] t)) := by
  obtain ⟨i0, hi, hz0, hz1, hz2⟩ := info_parts info_GtA
  subst hm
  obtain ⟨v', w', hrun, k1, k2, k0, k3⟩ := run_append_own_at (P := Tryz.prog) (w.alloc (.cells #[.int .i64 p, .int .i64 q, .int .i64 r] t)) B 23 o.type 65 i0 (.agg #[.int .i64 0, .int .i64 0, .int .i64 0]) 3 24 Tryz.underlying23 hi hz0 hz1 hz2 rfl (by decide) v k (ivs zs) (hown.alloc _) ⟨w.heap.size, 0, none⟩ 1 1 [.int .i64 p, .int .i64 q, .int .i64 r] rfl (by
    intro j c hj
    match j, hj with
    | 0, hj => simp at hj; subst hj; simp [Addr.add, World.cell?_alloc_at]
    | 1, hj => simp at hj; subst hj; simp [Addr.add, World.cell?_alloc_at]
    | 2, hj => simp at hj; subst hj; simp [Addr.add, World.cell?_alloc_at]) (by intro c hc; simp at hc; rcases hc with rfl | rfl | rfl <;> rfl) (by unfold maxLen; omega) (by omega) (by simp; omega)
  refine wpList_plain hg fun K hK' => ?_
  unfold Oper.wp execOp
  simp only [ho, resolve, invoke, builtin, Sem.run_bind, Sem.run_pure, Result.andThen_ok, List.map_toArray, List.map_cons, List.map_nil, hs, hx, hrun]
  have e : ivs zs ++ [.int .i64 p, .int .i64 q, .int .i64 r] = ivs (zs ++ [p, q, r]) := by simp [ivs]
  rw [e] at k1
  exact hK' _ _ (h v' w' k1 (((Below.refl B w).alloc hB _).trans (below_grown_own (hown.alloc _) k2 (by simp; omega))) k2 k3)
end Go.Proofs.YtfichpppjpgahaaGreatDoor
namespace Go.Proofs.YtfichpppjpgahaaGreatDoor
open Go.RowKit
set_option linter.unusedVariables false
set_option linter.unusedSimpArgs false
set_option maxRecDepth 10000
set_option maxHeartbeats 1000000 in
theorem i_IsArith1 (x p i0 i1 : Int) (ga : Option Addr) (gn gc : Nat) (oa : Option Addr) (on oc b : Nat) (w : World) (h0 : 0 ≤ i0 ∧ i0 ≤ 8) (h1 : 0 ≤ i1 ∧ i1 ≤ 8) (hn : gn ≤ 100) (hc : B5 w b (.int .i64 p) (.int .i64 i0) (.int .i64 i1) (.slice ga gn gc) (.slice oa on oc)) :
    Calls Tryz.prog 48 #[.int .i64 x, .pointer (some ⟨b, 0, none⟩)] w fun e w' => e = .returned (.bool (inB x 0 (i0 + i1 + gn - 1))) ∧ Below w.heap.size w w' := by
  have e0 : IntKind.i64.wrap (i0 + i1 + gn) = i0 + i1 + gn := IntWalk.i64_in _ (by omega)
  have e1 : IntKind.i64.wrap (i0 + i1 + gn - 1) = i0 + i1 + gn - 1 := IntWalk.i64_in _ (by omega)
  have D0 := bel_drew w
  obtain ⟨c0, c1, c2, c3, c4⟩ := hc
  go_enter Tryz.func48, Tryz.ntmps48
  go_wp2
  go_region_held3 (fun W => W.cell? ⟨b, 0, none⟩ = some (.int .i64 p) ∧ W.cell? ⟨b, 1, none⟩ = some (.int .i64 i0) ∧ W.cell? ⟨b, 2, none⟩ = some (.int .i64 i1) ∧ W.cell? ⟨b, 3, none⟩ = some (.slice ga gn gc) ∧ W.cell? ⟨b, 4, none⟩ = some (.slice oa on oc)) (exact ⟨c0, c1, c2, c3, c4⟩) (first | (go_at_call 46; refine (i_arInputs _ _ _ _ _ _ _ _ _ _ ⟨by omega, by omega⟩ ⟨by omega, by omega⟩).mono ?_; rintro e w1 ⟨rfl, hb1⟩; have hb2 := bel_trans (bel_drew _) hb1; have c0 := cell_on c0 hb2; have c1 := cell_on c1 hb2; have c2 := cell_on c2 hb2; have c3 := cell_on c3 hb2; have c4 := cell_on c4 hb2) | (go_at_call 44; refine (i_within _ _ _ _).mono ?_; rintro e w2 ⟨rfl, rfl⟩))
  go_wp2
  go_ret
  exact ⟨rfl, hb2⟩
set_option maxHeartbeats 8000000 in
theorem s_arGood (p i0 i1 : Int) (ga : Option Addr) (gn gc : Nat) (gs : List Int) (oa : Option Addr) (on oc : Nat) (os : List Int) (w : World) (h : Circ w ga gn gc gs oa on oc os) :
    Calls Tryz.prog 41 #[.agg #[.int .i64 p, .int .i64 i0, .int .i64 i1, .slice ga gn gc, .slice oa on oc]] w fun e w' => e = .returned (.bool (arC p i0 i1 gs gn os)) ∧ Below w.heap.size w w' := by
  have hl := h.o.len
  unfold arC
  rw [hl.out]
  have A0 := bel_alloc w (.cells #[.int .i64 p, .int .i64 i0, .int .i64 i1, .slice ga gn gc, .slice oa on oc] 26)
  have g0 := B5.new (w := w) (x0 := .int .i64 p) (x1 := .int .i64 i0) (x2 := .int .i64 i1) (x3 := .slice ga gn gc) (x4 := .slice oa on oc) (t := 26)
  have gk := g0
  obtain ⟨c0, c1, c2, c3, c4⟩ := gk
  have hgs := h.g.small; have hos := h.o.small
  cases hS : arS p i0 i1 gn on with
  | false =>
    unfold arS at hS
    cases hpp : prB p with
    | false =>
      go_enter Tryz.func41, Tryz.ntmps41
      go_wp2_with (first | (go_at_call 67; refine (s_fpGood _ _).mono ?_; rintro e w1 ⟨rfl, rfl⟩) | (go_at_call 52; refine (s_l1In _ _ _ _).mono ?_; rintro e w1 ⟨rfl, rfl⟩))
      go_ret
      exact ⟨by first | rfl | simp, A0⟩
    | true =>
     cases ha : inB i0 0 8 with
     | false =>
      go_enter Tryz.func41, Tryz.ntmps41
      go_wp2_with (first | (go_at_call 67; refine (s_fpGood _ _).mono ?_; rintro e w1 ⟨rfl, rfl⟩) | (go_at_call 52; refine (s_l1In _ _ _ _).mono ?_; rintro e w1 ⟨rfl, rfl⟩))
      go_ret
      exact ⟨by first | rfl | simp, A0⟩
     | true =>
      cases hb : inB i1 0 8 with
      | false =>
        go_enter Tryz.func41, Tryz.ntmps41
        go_wp2_with (first | (go_at_call 67; refine (s_fpGood _ _).mono ?_; rintro e w1 ⟨rfl, rfl⟩) | (go_at_call 52; refine (s_l1In _ _ _ _).mono ?_; rintro e w1 ⟨rfl, rfl⟩))
        go_ret
        exact ⟨by first | rfl | simp, A0⟩
      | true =>
        rw [hpp, ha, hb] at hS
        by_cases hn : gn ≤ 100
        · have hn2 : ¬ on ≤ 20 := by intro q; rw [decide_eq_true hn, decide_eq_true q] at hS; cases hS
          have n1 : ¬ (100 : Int) < (gn : Int) := by omega
          have n2 : (20 : Int) < (on : Int) := by omega
          clear hS
          go_enter Tryz.func41, Tryz.ntmps41
          go_wp2_with (first | (go_at_call 67; refine (s_fpGood _ _).mono ?_; rintro e w1 ⟨rfl, rfl⟩) | (go_at_call 52; refine (s_l1In _ _ _ _).mono ?_; rintro e w1 ⟨rfl, rfl⟩))
          go_ret
          exact ⟨by first | rfl | simp, A0⟩
        · have n1 : (100 : Int) < (gn : Int) := by omega
          clear hS
          go_enter Tryz.func41, Tryz.ntmps41
          go_wp2_with (first | (go_at_call 67; refine (s_fpGood _ _).mono ?_; rintro e w1 ⟨rfl, rfl⟩) | (go_at_call 52; refine (s_l1In _ _ _ _).mono ?_; rintro e w1 ⟨rfl, rfl⟩))
          go_ret
          exact ⟨by first | rfl | simp, A0⟩
  | true =>
    obtain ⟨hpp, h0, h1, hn, hon⟩ := arS_iff.1 hS
    obtain ⟨hp1, hp2⟩ := prB_lo hpp
    have ha : inB i0 0 8 = true := inB_iff.2 h0
    have hb : inB i1 0 8 = true := inB_iff.2 h1
    obtain ⟨h01, h02⟩ := h0; obtain ⟨h11, h12⟩ := h1
    have n1 : ¬ (100 : Int) < (gn : Int) := by omega
    have n2 : ¬ (20 : Int) < (on : Int) := by omega
    have HS := Lib.hid hS; clear hS
    go_enter Tryz.func41, Tryz.ntmps41
    go_wp2_with (first | (go_at_call 67; refine (s_fpGood _ _).mono ?_; rintro e w1 ⟨rfl, rfl⟩) | (go_at_call 52; refine (s_l1In _ _ _ _).mono ?_; rintro e w1 ⟨rfl, rfl⟩))
    go_loopw [36] (fun i W => ∃ k : Nat, k ≤ gn ∧ i = .int .i64 k ∧ Hid (gatesA p (i0 + i1) gs k = true) ∧ Hid (Below w.heap.size w W) ∧ Hid (B5 W w.heap.size (.int .i64 p) (.int .i64 i0) (.int .i64 i1) (.slice ga gn gc) (.slice oa on oc))) (fun i _ => gn - (intOf i).toNat)
    case atStart => exact ⟨0, by omega, rfl, rfl, A0, g0⟩
    case round =>
      clear c0 c1 c2 c3 c4 g0 A0 ha hb hpp
      obtain ⟨k, hk, rfl, HG, HB, HC⟩ := hrel
      obtain ⟨wo, rfl⟩ : ∃ wo : World, wo = wr := ⟨_, rfl⟩
      have hcc := HC.out
      obtain ⟨c0, c1, c2, c3, c4⟩ := hcc
      have hcl := HC.out.lt
      by_cases hlt : k < gn
      · have hlti : (k : Int) < (gn : Int) := by omega
        obtain ⟨gb, go, rfl, gl, g0, g1, g2⟩ := (h.g.below HB.out).at3 hlt
        have HE : Hid (gatesA p (i0 + i1) gs (k + 1) = (gatesA p (i0 + i1) gs k && arB p (fld 3 gs k 0) (fld 3 gs k 1) (fld 3 gs k 2) (i0 + i1 + k))) := rfl
        have HN := Lib.hid (fun q : arB p (fld 3 gs k 0) (fld 3 gs k 1) (fld 3 gs k 2) (i0 + i1 + k) = false => gatesA_no q hlt)
        generalize fld 3 gs k 0 = x at *
        generalize fld 3 gs k 1 = y at *
        generalize fld 3 gs k 2 = z at *
        have e1 : IntKind.i64.wrap (i0 + i1 + k) = i0 + i1 + k := IntWalk.i64_in _ (by omega)
        have A1 := bel_alloc wo (.cells #[.int .i64 x, .int .i64 y, .int .i64 z] 65)
        have b3 := B3.new (w := wo) (x0 := .int .i64 x) (x1 := .int .i64 y) (x2 := .int .i64 z) (t := 65)
        obtain ⟨d0, d1, d2⟩ := b3
        have hcc := HC.out.on A1
        clear c0 c1 c2 c3 c4
        obtain ⟨c0, c1, c2, c3, c4⟩ := hcc
        cases hgb : arB p x y z (i0 + i1 + k) with
        | false =>
          go_wp2
          go_region_held3 (fun W => (W.cell? ⟨w.heap.size, 0, none⟩ = some (.int .i64 p) ∧ W.cell? ⟨w.heap.size, 1, none⟩ = some (.int .i64 i0) ∧ W.cell? ⟨w.heap.size, 2, none⟩ = some (.int .i64 i1) ∧ W.cell? ⟨w.heap.size, 3, none⟩ = some (.slice (some ⟨gb, go, none⟩) gn gc) ∧ W.cell? ⟨w.heap.size, 4, none⟩ = some (.slice oa on oc)) ∧ W.cell? ⟨wo.heap.size, 0, none⟩ = some (.int .i64 x) ∧ W.cell? ⟨wo.heap.size, 1, none⟩ = some (.int .i64 y) ∧ W.cell? ⟨wo.heap.size, 2, none⟩ = some (.int .i64 z)) (exact ⟨⟨c0, c1, c2, c3, c4⟩, d0, d1, d2⟩) (first | (go_at_call 69; refine (s_arInputs _ _ _ _ _ _ _ _ _ _ ⟨by omega, by omega⟩ ⟨by omega, by omega⟩).mono ?_; rintro e w2 ⟨rfl, hb2⟩; have hb3 := bel_trans (bel_drew _) hb2; have c0 := cell_on c0 hb3; have c1 := cell_on c1 hb3; have c2 := cell_on c2 hb3; have c3 := cell_on c3 hb3; have c4 := cell_on c4 hb3; have d0 := cell_on d0 hb3; have d1 := cell_on d1 hb3; have d2 := cell_on d2 hb3) | (go_at_call 68; refine (s_arGate _ _ _ _ _ _ ⟨by omega, by omega⟩ ⟨hp1, hp2⟩).mono ?_; rintro e w4 ⟨rfl, hb4⟩; rw [hgb]; have hb5 := bel_trans hb3 hb4; have c0 := cell_on c0 hb4; have c1 := cell_on c1 hb4; have c2 := cell_on c2 hb4; have c3 := cell_on c3 hb4; have c4 := cell_on c4 hb4; have d0 := cell_on d0 hb4; have d1 := cell_on d1 hb4; have d2 := cell_on d2 hb4))
          go_wp2
          go_ret
          exact ⟨by rw [HN.out hgb]; rfl, bel_trans (bel_trans HB.out A1) hb5⟩
        | true =>
          go_wp2
          go_region_held3 (fun W => (W.cell? ⟨w.heap.size, 0, none⟩ = some (.int .i64 p) ∧ W.cell? ⟨w.heap.size, 1, none⟩ = some (.int .i64 i0) ∧ W.cell? ⟨w.heap.size, 2, none⟩ = some (.int .i64 i1) ∧ W.cell? ⟨w.heap.size, 3, none⟩ = some (.slice (some ⟨gb, go, none⟩) gn gc) ∧ W.cell? ⟨w.heap.size, 4, none⟩ = some (.slice oa on oc)) ∧ W.cell? ⟨wo.heap.size, 0, none⟩ = some (.int .i64 x) ∧ W.cell? ⟨wo.heap.size, 1, none⟩ = some (.int .i64 y) ∧ W.cell? ⟨wo.heap.size, 2, none⟩ = some (.int .i64 z)) (exact ⟨⟨c0, c1, c2, c3, c4⟩, d0, d1, d2⟩) (first | (go_at_call 69; refine (s_arInputs _ _ _ _ _ _ _ _ _ _ ⟨by omega, by omega⟩ ⟨by omega, by omega⟩).mono ?_; rintro e w2 ⟨rfl, hb2⟩; have hb3 := bel_trans (bel_drew _) hb2; have c0 := cell_on c0 hb3; have c1 := cell_on c1 hb3; have c2 := cell_on c2 hb3; have c3 := cell_on c3 hb3; have c4 := cell_on c4 hb3; have d0 := cell_on d0 hb3; have d1 := cell_on d1 hb3; have d2 := cell_on d2 hb3) | (go_at_call 68; refine (s_arGate _ _ _ _ _ _ ⟨by omega, by omega⟩ ⟨hp1, hp2⟩).mono ?_; rintro e w4 ⟨rfl, hb4⟩; rw [hgb]; have hb5 := bel_trans hb3 hb4; have c0 := cell_on c0 hb4; have c1 := cell_on c1 hb4; have c2 := cell_on c2 hb4; have c3 := cell_on c3 hb4; have c4 := cell_on c4 hb4; have d0 := cell_on d0 hb4; have d1 := cell_on d1 hb4; have d2 := cell_on d2 hb4))
          go_wp2
          go_roundw
          case rel => exact ⟨k + 1, by omega, by go_num, (show Hid _ from by show _ = _; rw [HE.out, HG.out, hgb]; rfl), (show Hid _ from bel_trans (bel_trans HB.out A1) hb5), (show Hid _ from ⟨c0, c1, c2, c3, c4⟩)⟩
          case measure => simp [intOf]; omega
      · obtain rfl : k = gn := by omega
        have hlti : ¬ (k : Int) < (k : Int) := by omega
        have e1 : IntKind.i64.wrap (i0 + i1 + k - 1) = i0 + i1 + k - 1 := IntWalk.i64_in _ (by omega)
        have ho := h.o.below HB.out
        go_wp2
        go_region_held3 (fun W => (W.cell? ⟨w.heap.size, 0, none⟩ = some (.int .i64 p) ∧ W.cell? ⟨w.heap.size, 1, none⟩ = some (.int .i64 i0) ∧ W.cell? ⟨w.heap.size, 2, none⟩ = some (.int .i64 i1) ∧ W.cell? ⟨w.heap.size, 3, none⟩ = some (.slice ga k gc) ∧ W.cell? ⟨w.heap.size, 4, none⟩ = some (.slice oa on oc))) (exact ⟨c0, c1, c2, c3, c4⟩) (first | (go_at_call 54; refine (s_arWires _ _ _ _ _ _ _ _ _ _ ⟨by omega, by omega⟩ ⟨by omega, by omega⟩ (by omega)).mono ?_; rintro e w2 ⟨rfl, hb2⟩; have hb3 := bel_trans (bel_drew _) hb2; have c0 := cell_on c0 hb3; have c1 := cell_on c1 hb3; have c2 := cell_on c2 hb3; have c3 := cell_on c3 hb3; have c4 := cell_on c4 hb3) | (go_at_call 70; refine (s_l1All _ _ _ os _ _ _ (ho.below hb3)).mono ?_; rintro e w4 ⟨rfl, rfl⟩))
        go_wp2
        go_ret
        exact ⟨by rw [HG.out]; first | rfl | simp, bel_trans HB.out hb3⟩
set_option maxHeartbeats 8000000 in
theorem i_IsArith (p i0 i1 : Int) (ga : Option Addr) (gn gc : Nat) (gs : List Int) (oa : Option Addr) (on oc : Nat) (os : List Int) (w : World) (h : Circ w ga gn gc gs oa on oc os) :
    Calls Tryz.prog 14 #[.agg #[.int .i64 p, .int .i64 i0, .int .i64 i1, .slice ga gn gc, .slice oa on oc]] w fun e w' => e = .returned (.bool (arC p i0 i1 gs gn os)) ∧ Below w.heap.size w w' := by
  have hl := h.o.len
  unfold arC
  rw [hl.out]
  have A0 := bel_alloc w (.cells #[.int .i64 p, .int .i64 i0, .int .i64 i1, .slice ga gn gc, .slice oa on oc] 26)
  have g0 := B5.new (w := w) (x0 := .int .i64 p) (x1 := .int .i64 i0) (x2 := .int .i64 i1) (x3 := .slice ga gn gc) (x4 := .slice oa on oc) (t := 26)
  have gk := g0
  obtain ⟨c0, c1, c2, c3, c4⟩ := gk
  have hgs := h.g.small; have hos := h.o.small
  cases hS : arS p i0 i1 gn on with
  | false =>
    unfold arS at hS
    cases hpp : prB p with
    | false =>
      go_enter Tryz.func14, Tryz.ntmps14
      go_wp2_with (first | (go_at_call 43; refine (i_IsPrime _ _).mono ?_; rintro e w1 ⟨rfl, rfl⟩) | (go_at_call 44; refine (i_within _ _ _ _).mono ?_; rintro e w1 ⟨rfl, rfl⟩))
      go_ret
      exact ⟨by first | rfl | simp, A0⟩
    | true =>
     cases ha : inB i0 0 8 with
     | false =>
      go_enter Tryz.func14, Tryz.ntmps14
      go_wp2_with (first | (go_at_call 43; refine (i_IsPrime _ _).mono ?_; rintro e w1 ⟨rfl, rfl⟩) | (go_at_call 44; refine (i_within _ _ _ _).mono ?_; rintro e w1 ⟨rfl, rfl⟩))
      go_ret
      exact ⟨by first | rfl | simp, A0⟩
     | true =>
      cases hb : inB i1 0 8 with
      | false =>
        go_enter Tryz.func14, Tryz.ntmps14
        go_wp2_with (first | (go_at_call 43; refine (i_IsPrime _ _).mono ?_; rintro e w1 ⟨rfl, rfl⟩) | (go_at_call 44; refine (i_within _ _ _ _).mono ?_; rintro e w1 ⟨rfl, rfl⟩))
        go_ret
        exact ⟨by first | rfl | simp, A0⟩
      | true =>
        rw [hpp, ha, hb] at hS
        by_cases hn : gn ≤ 100
        · have hn2 : ¬ on ≤ 20 := by intro q; rw [decide_eq_true hn, decide_eq_true q] at hS; cases hS
          have n1 : ¬ (100 : Int) < (gn : Int) := by omega
          have n2 : (20 : Int) < (on : Int) := by omega
          clear hS
          go_enter Tryz.func14, Tryz.ntmps14
          go_wp2_with (first | (go_at_call 43; refine (i_IsPrime _ _).mono ?_; rintro e w1 ⟨rfl, rfl⟩) | (go_at_call 44; refine (i_within _ _ _ _).mono ?_; rintro e w1 ⟨rfl, rfl⟩))
          go_ret
          exact ⟨by first | rfl | simp, A0⟩
        · have n1 : (100 : Int) < (gn : Int) := by omega
          clear hS
          go_enter Tryz.func14, Tryz.ntmps14
          go_wp2_with (first | (go_at_call 43; refine (i_IsPrime _ _).mono ?_; rintro e w1 ⟨rfl, rfl⟩) | (go_at_call 44; refine (i_within _ _ _ _).mono ?_; rintro e w1 ⟨rfl, rfl⟩))
          go_ret
          exact ⟨by first | rfl | simp, A0⟩
  | true =>
    obtain ⟨hpp, h0, h1, hn, hon⟩ := arS_iff.1 hS
    obtain ⟨hp1, hp2⟩ := prB_lo hpp
    have ha : inB i0 0 8 = true := inB_iff.2 h0
    have hb : inB i1 0 8 = true := inB_iff.2 h1
    obtain ⟨h01, h02⟩ := h0; obtain ⟨h11, h12⟩ := h1
    have n1 : ¬ (100 : Int) < (gn : Int) := by omega
    have n2 : ¬ (20 : Int) < (on : Int) := by omega
    have HS := Lib.hid hS; clear hS
    go_enter Tryz.func14, Tryz.ntmps14
    go_wp2_with (first | (go_at_call 43; refine (i_IsPrime _ _).mono ?_; rintro e w1 ⟨rfl, rfl⟩) | (go_at_call 44; refine (i_within _ _ _ _).mono ?_; rintro e w1 ⟨rfl, rfl⟩))
    go_loopw [36] (fun i W => ∃ k : Nat, k ≤ gn ∧ i = .int .i64 k ∧ Hid (gatesA p (i0 + i1) gs k = true) ∧ Hid (Below w.heap.size w W) ∧ Hid (B5 W w.heap.size (.int .i64 p) (.int .i64 i0) (.int .i64 i1) (.slice ga gn gc) (.slice oa on oc))) (fun i _ => gn - (intOf i).toNat)
    case atStart => exact ⟨0, by omega, rfl, rfl, A0, g0⟩
    case round =>
      clear c0 c1 c2 c3 c4 g0 A0 ha hb hpp
      obtain ⟨k, hk, rfl, HG, HB, HC⟩ := hrel
      obtain ⟨wo, rfl⟩ : ∃ wo : World, wo = wr := ⟨_, rfl⟩
      have hcc := HC.out
      obtain ⟨c0, c1, c2, c3, c4⟩ := hcc
      have hcl := HC.out.lt
      by_cases hlt : k < gn
      · have hlti : (k : Int) < (gn : Int) := by omega
        obtain ⟨gb, go, rfl, gl, g0, g1, g2⟩ := (h.g.below HB.out).at3 hlt
        have HE : Hid (gatesA p (i0 + i1) gs (k + 1) = (gatesA p (i0 + i1) gs k && arB p (fld 3 gs k 0) (fld 3 gs k 1) (fld 3 gs k 2) (i0 + i1 + k))) := rfl
        have HN := Lib.hid (fun q : arB p (fld 3 gs k 0) (fld 3 gs k 1) (fld 3 gs k 2) (i0 + i1 + k) = false => gatesA_no q hlt)
        generalize fld 3 gs k 0 = x at *
        generalize fld 3 gs k 1 = y at *
        generalize fld 3 gs k 2 = z at *
        have e1 : IntKind.i64.wrap (i0 + i1 + k) = i0 + i1 + k := IntWalk.i64_in _ (by omega)
        have A1 := bel_alloc wo (.cells #[.int .i64 x, .int .i64 y, .int .i64 z] 65)
        have b3 := B3.new (w := wo) (x0 := .int .i64 x) (x1 := .int .i64 y) (x2 := .int .i64 z) (t := 65)
        obtain ⟨d0, d1, d2⟩ := b3
        have hcc := HC.out.on A1
        clear c0 c1 c2 c3 c4
        obtain ⟨c0, c1, c2, c3, c4⟩ := hcc
        cases hgb : arB p x y z (i0 + i1 + k) with
        | false =>
          go_wp2
          go_region_held3 (fun W => (W.cell? ⟨w.heap.size, 0, none⟩ = some (.int .i64 p) ∧ W.cell? ⟨w.heap.size, 1, none⟩ = some (.int .i64 i0) ∧ W.cell? ⟨w.heap.size, 2, none⟩ = some (.int .i64 i1) ∧ W.cell? ⟨w.heap.size, 3, none⟩ = some (.slice (some ⟨gb, go, none⟩) gn gc) ∧ W.cell? ⟨w.heap.size, 4, none⟩ = some (.slice oa on oc)) ∧ W.cell? ⟨wo.heap.size, 0, none⟩ = some (.int .i64 x) ∧ W.cell? ⟨wo.heap.size, 1, none⟩ = some (.int .i64 y) ∧ W.cell? ⟨wo.heap.size, 2, none⟩ = some (.int .i64 z)) (exact ⟨⟨c0, c1, c2, c3, c4⟩, d0, d1, d2⟩) (first | (go_at_call 46; refine (i_arInputs _ _ _ _ _ _ _ _ _ _ ⟨by omega, by omega⟩ ⟨by omega, by omega⟩).mono ?_; rintro e w2 ⟨rfl, hb2⟩; have hb3 := bel_trans (bel_drew _) hb2; have c0 := cell_on c0 hb3; have c1 := cell_on c1 hb3; have c2 := cell_on c2 hb3; have c3 := cell_on c3 hb3; have c4 := cell_on c4 hb3; have d0 := cell_on d0 hb3; have d1 := cell_on d1 hb3; have d2 := cell_on d2 hb3) | (go_at_call 45; refine (i_arGate _ _ _ _ _ _ ⟨by omega, by omega⟩ ⟨hp1, hp2⟩).mono ?_; rintro e w4 ⟨rfl, hb4⟩; rw [hgb]; have hb5 := bel_trans hb3 hb4; have c0 := cell_on c0 hb4; have c1 := cell_on c1 hb4; have c2 := cell_on c2 hb4; have c3 := cell_on c3 hb4; have c4 := cell_on c4 hb4; have d0 := cell_on d0 hb4; have d1 := cell_on d1 hb4; have d2 := cell_on d2 hb4))
          go_wp2
          go_ret
          exact ⟨by rw [HN.out hgb]; rfl, bel_trans (bel_trans HB.out A1) hb5⟩
        | true =>
          go_wp2
          go_region_held3 (fun W => (W.cell? ⟨w.heap.size, 0, none⟩ = some (.int .i64 p) ∧ W.cell? ⟨w.heap.size, 1, none⟩ = some (.int .i64 i0) ∧ W.cell? ⟨w.heap.size, 2, none⟩ = some (.int .i64 i1) ∧ W.cell? ⟨w.heap.size, 3, none⟩ = some (.slice (some ⟨gb, go, none⟩) gn gc) ∧ W.cell? ⟨w.heap.size, 4, none⟩ = some (.slice oa on oc)) ∧ W.cell? ⟨wo.heap.size, 0, none⟩ = some (.int .i64 x) ∧ W.cell? ⟨wo.heap.size, 1, none⟩ = some (.int .i64 y) ∧ W.cell? ⟨wo.heap.size, 2, none⟩ = some (.int .i64 z)) (exact ⟨⟨c0, c1, c2, c3, c4⟩, d0, d1, d2⟩) (first | (go_at_call 46; refine (i_arInputs _ _ _ _ _ _ _ _ _ _ ⟨by omega, by omega⟩ ⟨by omega, by omega⟩).mono ?_; rintro e w2 ⟨rfl, hb2⟩; have hb3 := bel_trans (bel_drew _) hb2; have c0 := cell_on c0 hb3; have c1 := cell_on c1 hb3; have c2 := cell_on c2 hb3; have c3 := cell_on c3 hb3; have c4 := cell_on c4 hb3; have d0 := cell_on d0 hb3; have d1 := cell_on d1 hb3; have d2 := cell_on d2 hb3) | (go_at_call 45; refine (i_arGate _ _ _ _ _ _ ⟨by omega, by omega⟩ ⟨hp1, hp2⟩).mono ?_; rintro e w4 ⟨rfl, hb4⟩; rw [hgb]; have hb5 := bel_trans hb3 hb4; have c0 := cell_on c0 hb4; have c1 := cell_on c1 hb4; have c2 := cell_on c2 hb4; have c3 := cell_on c3 hb4; have c4 := cell_on c4 hb4; have d0 := cell_on d0 hb4; have d1 := cell_on d1 hb4; have d2 := cell_on d2 hb4))
          go_wp2
          go_roundw
          case rel => exact ⟨k + 1, by omega, by go_num, (show Hid _ from by show _ = _; rw [HE.out, HG.out, hgb]; rfl), (show Hid _ from bel_trans (bel_trans HB.out A1) hb5), (show Hid _ from ⟨c0, c1, c2, c3, c4⟩)⟩
          case measure => simp [intOf]; omega
      · obtain rfl : k = gn := by omega
        have hlti : ¬ (k : Int) < (k : Int) := by omega
        have e1 : IntKind.i64.wrap (i0 + i1 + k - 1) = i0 + i1 + k - 1 := IntWalk.i64_in _ (by omega)
        have ho := h.o.below HB.out
        have eA : ∀ args w, (callFunc 48 args).run Tryz.prog w = .ok (.enter 48 args) w := enters_of Tryz.func48 (by kernel_rfl) rfl
        have hg := i_areAllB oa on oc os (fun x => inB x 0 (i0 + i1 + k - 1)) 48 #[.pointer (some ⟨w.heap.size, 0, none⟩)] eA wo ho (fun W x hW hx => i_IsArith1 x p i0 i1 ga k gc oa on oc w.heap.size W ⟨h01, h02⟩ ⟨h11, h12⟩ hn (HC.out.on hW))
        have HGG := Lib.hid hg; clear hg
        go_wp2_with (go_at_call 47; refine HGG.out.mono ?_; rintro e w2 ⟨rfl, hb2⟩)
        go_ret
        exact ⟨by rw [HG.out]; first | rfl | (unfold allIn; rfl) | simp [allIn], bel_trans HB.out hb2⟩
end Go.Proofs.YtfichpppjpgahaaGreatDoor
namespace Go.Proofs.YtfichpppjpgahaaGreatDoor
set_option linter.unusedVariables false
set_option linter.unusedSimpArgs false

/-- A prime, plainly. -/
def Pr (p : Nat) : Prop := 2 ≤ p ∧ ∀ d, 2 ≤ d → d < p → p % d ≠ 0
theorem Pr.gcd {p a : Nat} (h : Pr p) (h0 : 0 < a) (h1 : a < p) : Nat.gcd a p = 1 := by
  have hd := Nat.gcd_dvd_left a p
  have hp := Nat.gcd_dvd_right a p
  have hl := Nat.le_of_dvd h0 hd
  have hpos : 0 < Nat.gcd a p := Nat.gcd_pos_of_pos_left _ h0
  rcases Nat.lt_or_ge (Nat.gcd a p) 2 with k | k
  · omega
  · exact absurd (Nat.mod_eq_zero_of_dvd hp) (h.2 _ k (by omega))
theorem Pr.dvd {p a b : Nat} (h : Pr p) (hab : p ∣ a * b) : p ∣ a ∨ p ∣ b := by
  rcases Nat.eq_zero_or_pos (a % p) with k | k
  · exact Or.inl (Nat.dvd_of_mod_eq_zero k)
  · right
    have h2 := h.1
    have hg := h.gcd k (Nat.mod_lt _ (by omega))
    have hg' : Nat.gcd p a = 1 := by rw [Nat.gcd_rec]; exact hg
    exact Nat.Coprime.dvd_of_dvd_mul_left hg' hab
theorem Pr.mul {p : Nat} (h : Pr p) {a b : Int} (hab : a * b % p = 0) : a % p = 0 ∨ b % p = 0 := by
  have h1 : (p : Int) ∣ a * b := Int.dvd_of_emod_eq_zero hab
  have h2 : p ∣ a.natAbs * b.natAbs := by
    have := Int.natAbs_dvd_natAbs.2 h1
    rwa [Int.natAbs_mul, Int.natAbs_natCast] at this
  rcases h.dvd h2 with k | k
  · exact Or.inl (Int.emod_eq_zero_of_dvd (Int.natAbs_dvd_natAbs.1 (by rw [Int.natAbs_natCast]; exact k)))
  · exact Or.inr (Int.emod_eq_zero_of_dvd (Int.natAbs_dvd_natAbs.1 (by rw [Int.natAbs_natCast]; exact k)))
/-- Bezout. -/
theorem bezout (a : Nat) : ∀ b : Nat, ∃ x y : Int, (a : Int) * x + b * y = Nat.gcd a b := by
  induction a using Nat.strongRecOn with
  | ind a ih =>
    intro b
    rcases Nat.eq_zero_or_pos a with k | k
    · subst k
      exact ⟨0, 1, by simp⟩
    · obtain ⟨x, y, h⟩ := ih (b % a) (Nat.mod_lt _ k) a
      refine ⟨y - (b / a : Nat) * x, x, ?_⟩
      rw [Nat.gcd_rec a b, ← h]
      have e : (b : Int) = ((b % a : Nat) : Int) + a * ((b / a : Nat) : Int) := by
        rw [← Int.natCast_mul, ← Int.natCast_add, Nat.mod_add_div]
      generalize ((b % a : Nat) : Int) = r at *
      generalize ((b / a : Nat) : Int) = q at *
      rw [e, Int.mul_sub, Int.add_mul, Int.mul_assoc]
      omega
theorem Pr.inv {p : Nat} (h : Pr p) {a : Int} (ha : a % p ≠ 0) : ∃ x : Int, 0 ≤ x ∧ x < p ∧ a * x % p = 1 := by
  have h2 := h.1
  have hb := emod_bd (n := a) (p := (p : Int)) (by omega)
  obtain ⟨r, hr⟩ : ∃ r : Nat, (r : Int) = a % p := ⟨(a % p).toNat, by omega⟩
  have hg := h.gcd (a := r) (by omega) (by omega)
  obtain ⟨x, y, hxy⟩ := bezout r p
  rw [hg] at hxy
  have hx := emod_bd (n := x) (p := (p : Int)) (by omega)
  refine ⟨x % p, hx.1, hx.2, ?_⟩
  rw [Int.mul_emod, Int.emod_emod_of_dvd _ (Int.dvd_refl _), ← Int.mul_emod, Int.mul_emod, ← hr, Int.mul_emod, Int.emod_emod_of_dvd _ (Int.dvd_refl _), ← Int.mul_emod]
  have e : (r : Int) * x = 1 + p * (- y) := by rw [Int.mul_neg]; omega
  rw [e, Int.add_mul_emod_self_left]
  exact Int.emod_eq_of_lt (by omega) (by omega)
theorem emod_sub_zero {a b p : Int} : a % p = b % p ↔ (a - b) % p = 0 := Int.emod_eq_emod_iff_emod_sub_eq_zero
theorem Pr.cancel {p : Nat} (h : Pr p) {a x y : Int} (ha : a % p ≠ 0) (he : a * x % p = a * y % p) : x % p = y % p := by
  rw [emod_sub_zero, ← Int.mul_sub] at he
  rcases h.mul he with k | k
  · exact absurd k ha
  · exact emod_sub_zero.2 k
/-- a x = b has one solution from 0 to p - 1. -/
theorem Pr.solve {p : Nat} (h : Pr p) {a : Int} (b : Int) (ha : a % p ≠ 0) : ∃ x : Nat, x < p ∧ (a * x - b) % p = 0 ∧ ∀ y : Nat, y < p → (a * y - b) % p = 0 → y = x := by
  have h2 := h.1
  obtain ⟨i, hi0, hi1, hi⟩ := h.inv ha
  have hx := emod_bd (n := i * b) (p := (p : Int)) (by omega)
  have hx0 : (((i * b % p).toNat : Nat) : Int) = i * b % p := by omega
  have hs : (a * (i * b % p) - b) % p = 0 := by
    rw [← emod_sub_zero, Int.mul_emod, Int.emod_emod_of_dvd _ (Int.dvd_refl _), ← Int.mul_emod, ← Int.mul_assoc, Int.mul_emod, hi]
    rw [Int.one_mul, Int.emod_emod_of_dvd _ (Int.dvd_refl _)]
  refine ⟨(i * b % p).toNat, by omega, by rw [hx0]; exact hs, fun y hy hy2 => ?_⟩
  have e1 := emod_sub_zero.2 hs
  have e2 := emod_sub_zero.2 hy2
  have e3 := h.cancel ha (e2.trans e1.symm)
  rw [Int.emod_eq_of_lt (by omega) (by omega), Int.emod_eq_of_lt (by omega) (by omega)] at e3
  omega
/-- How many numbers below n fulfil something. -/
def cnt (f : Nat → Bool) : Nat → Int
  | 0 => 0
  | n + 1 => cnt f n + (if f n then 1 else 0)
theorem cnt_zero {f : Nat → Bool} : ∀ {n : Nat}, (∀ i, i < n → f i = false) → cnt f n = 0
  | 0, _ => rfl
  | n + 1, h => by rw [cnt, cnt_zero (fun i hi => h i (by omega)), h n (by omega)]; rfl
theorem cnt_all {f : Nat → Bool} : ∀ {n : Nat}, (∀ i, i < n → f i = true) → cnt f n = n
  | 0, _ => rfl
  | n + 1, h => by rw [cnt, cnt_all (fun i hi => h i (by omega)), h n (by omega)]; simp
theorem cnt_one {f : Nat → Bool} {x : Nat} : ∀ {n : Nat}, x < n → f x = true → (∀ i, i < n → f i = true → i = x) → cnt f n = 1
  | 0, hx, _, _ => by omega
  | n + 1, hx, h, hu => by
    rw [cnt]
    by_cases e : x = n
    · subst e
      rw [cnt_zero (fun i hi => ?_), h]; rfl
      cases k : f i with
      | false => rfl
      | true => have := hu i (by omega) k; omega
    · rw [cnt_one (x := x) (n := n) (by omega) h (fun i hi => hu i (by omega))]
      cases k : f n with
      | false => rfl
      | true => have := hu n (by omega) k; omega
theorem cnt_lt {f : Nat → Bool} {x : Nat} : ∀ {n : Nat}, x < n → f x = false → cnt f n < n
  | 0, hx, _ => by omega
  | n + 1, hx, h => by
    have hle : ∀ m, cnt f m ≤ m := by
      intro m
      induction m with
      | zero => simp [cnt]
      | succ m ih => rw [cnt]; split <;> omega
    rw [cnt]
    by_cases e : x = n
    · subst e
      rw [h]
      have := hle x
      simp; omega
    · have := cnt_lt (x := x) (n := n) (by omega) h
      split <;> omega
theorem cnt_congr {f g : Nat → Bool} : ∀ {n : Nat}, (∀ i, i < n → f i = g i) → cnt f n = cnt g n
  | 0, _ => rfl
  | n + 1, h => by rw [cnt, cnt, cnt_congr (fun i hi => h i (by omega)), h n (by omega)]
/-- A prime of the fields. -/
theorem prB_pr {p : Int} (h : prB p = true) : Pr p.toNat := by
  have hd := of_decide_eq_true h
  obtain ⟨h1, h2, h3⟩ := hd
  refine ⟨by omega, fun d hd1 hd2 hm => ?_⟩
  -- d or p / d is small
  have hpd : d * (p.toNat / d) = p.toNat := Nat.mul_div_cancel' (Nat.dvd_of_mod_eq_zero hm)
  have hq1 : 2 ≤ p.toNat / d := by
    rcases Nat.lt_or_ge (p.toNat / d) 2 with k | k
    · have h01 : ∀ q : Nat, q < 2 → q = 0 ∨ q = 1 := fun q hq => by omega
      rcases h01 _ k with e | e
      · rw [e] at hpd; omega
      · rw [e] at hpd; omega
    · exact k
  have key : ∀ a b : Nat, 2 ≤ a → a ≤ b → a * b = p.toNat → False := by
    intro a b ha hab he
    have hsq : a * a ≤ p.toNat := by rw [← he]; exact Nat.mul_le_mul_left a hab
    have hsqi : (a : Int) * a ≤ p := by
      have : ((a * a : Nat) : Int) ≤ (p.toNat : Int) := by exact_mod_cast hsq
      rw [Int.natCast_mul] at this; omega
    have ha16 := sq_le (Int.natCast_nonneg a) hsqi h2
    refine h3 a (by omega) ha hsqi ?_
    have e2 : p = (a : Int) * b := by
      have : ((a * b : Nat) : Int) = (p.toNat : Int) := by rw [he]
      rw [Int.natCast_mul] at this; omega
    rw [e2]; exact Int.mul_emod_right _ _
  rcases Nat.le_total d (p.toNat / d) with k | k
  · exact key d _ hd1 k hpd
  · exact key _ d hq1 k (by rw [Nat.mul_comm]; exact hpd)
theorem prB_nat {p : Int} (h : prB p = true) : ∃ q : Nat, p = q ∧ Pr q := by
  have h1 := prB_lo h
  exact ⟨p.toNat, by omega, prB_pr h⟩
end Go.Proofs.YtfichpppjpgahaaGreatDoor
