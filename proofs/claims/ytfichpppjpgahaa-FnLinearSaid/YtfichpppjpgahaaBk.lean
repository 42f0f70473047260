/-
  An arithmetic circuit in a box of its own, beside a cursor.
-/
import Derived.Test.YtfichpppjpgahaaBa
import Derived.Test.YtfichpppjpgahaaCv
import Derived.Test.YtfichpppjpgahaaDu
import Derived.Test.YtfichpppjpgahaaSt
import Derived.Deep.RegionLaw
import Derived.BigRegion
namespace Go.Proofs.Ytfichpppjpgahaa
open Go.RowKit
set_option linter.unusedVariables false
set_option linter.unusedSimpArgs false
set_option maxRecDepth 10000

theorem ownsRow_keptNe {E : TypeId} {w w' : World} {B s n : Nat} {v : Value} {xs : List Value} {o : Option Nat} (h : w.ownsRow B E s v n xs) (k : w.grownBy w' o) (hne : ∀ g, v.ownBlock = some g → o ≠ some g) : w'.ownsRow B E s v n xs :=
  h.kept k (by
    cases hb : v.ownBlock with
    | none => exact .inl rfl
    | some g => exact .inr (fun e => hne g hb e.symm))
/-- A box of five cells that may be written. -/
structure B5w (w : World) (b : Nat) (x0 x1 x2 x3 x4 : Value) : Prop where
  r : B5 w b x0 x1 x2 x3 x4
  f0 : w.frozen? ⟨b, 0, none⟩ = false
  f1 : w.frozen? ⟨b, 1, none⟩ = false
  f2 : w.frozen? ⟨b, 2, none⟩ = false
  f3 : w.frozen? ⟨b, 3, none⟩ = false
  f4 : w.frozen? ⟨b, 4, none⟩ = false
theorem B5w.on {w w' : World} {b : Nat} {x0 x1 x2 x3 x4 : Value} (h : B5w w b x0 x1 x2 x3 x4) (hb : Below w.heap.size w w') : B5w w' b x0 x1 x2 x3 x4 :=
  ⟨h.r.on hb, (hb.frozen (p := ⟨b, 0, none⟩) h.r.lt).trans h.f0, (hb.frozen (p := ⟨b, 1, none⟩) h.r.lt).trans h.f1, (hb.frozen (p := ⟨b, 2, none⟩) h.r.lt).trans h.f2, (hb.frozen (p := ⟨b, 3, none⟩) h.r.lt).trans h.f3, (hb.frozen (p := ⟨b, 4, none⟩) h.r.lt).trans h.f4⟩
theorem B5w.new {w : World} {x0 x1 x2 x3 x4 : Value} {t : TypeId} : B5w (w.alloc (.cells #[x0, x1, x2, x3, x4] t)) w.heap.size x0 x1 x2 x3 x4 :=
  ⟨B5.new, World.frozen?_alloc_at _ _ _ _ rfl, World.frozen?_alloc_at _ _ _ _ rfl, World.frozen?_alloc_at _ _ _ _ rfl, World.frozen?_alloc_at _ _ _ _ rfl, World.frozen?_alloc_at _ _ _ _ rfl⟩
theorem B5.otherW {w : World} {b : Nat} {x0 x1 x2 x3 x4 : Value} (h : B5 w b x0 x1 x2 x3 x4) {p : Addr} (hp : p.block ≠ b) (u : Value) : B5 (w.setCell p u) b x0 x1 x2 x3 x4 := by
  have e : ∀ o, (w.setCell p u).cell? ⟨b, o, none⟩ = w.cell? ⟨b, o, none⟩ := fun o => World.cell?_setCell_other _ _ _ _ (fun e => hp (by rw [e]))
  exact ⟨(e 0).trans h.c0, (e 1).trans h.c1, (e 2).trans h.c2, (e 3).trans h.c3, (e 4).trans h.c4⟩
theorem B5w.other {w : World} {b : Nat} {x0 x1 x2 x3 x4 : Value} (h : B5w w b x0 x1 x2 x3 x4) {p : Addr} (hp : p.block ≠ b) (u : Value) : B5w (w.setCell p u) b x0 x1 x2 x3 x4 :=
  ⟨h.r.otherW hp u, by simpa using h.f0, by simpa using h.f1, by simpa using h.f2, by simpa using h.f3, by simpa using h.f4⟩
theorem B5w.s0 {w : World} {b : Nat} {x0 x1 x2 x3 x4 : Value} (h : B5w w b x0 x1 x2 x3 x4) (u : Value) : B5w (w.setCell ⟨b, 0, none⟩ u) b u x1 x2 x3 x4 :=
  ⟨⟨World.cell?_setCell_same _ _ _ h.r.c0, (World.cell?_setCell_other _ _ _ _ (by simp)).trans h.r.c1, (World.cell?_setCell_other _ _ _ _ (by simp)).trans h.r.c2, (World.cell?_setCell_other _ _ _ _ (by simp)).trans h.r.c3, (World.cell?_setCell_other _ _ _ _ (by simp)).trans h.r.c4⟩, by simpa using h.f0, by simpa using h.f1, by simpa using h.f2, by simpa using h.f3, by simpa using h.f4⟩
theorem B5w.s1 {w : World} {b : Nat} {x0 x1 x2 x3 x4 : Value} (h : B5w w b x0 x1 x2 x3 x4) (u : Value) : B5w (w.setCell ⟨b, 1, none⟩ u) b x0 u x2 x3 x4 :=
  ⟨⟨(World.cell?_setCell_other _ _ _ _ (by simp)).trans h.r.c0, World.cell?_setCell_same _ _ _ h.r.c1, (World.cell?_setCell_other _ _ _ _ (by simp)).trans h.r.c2, (World.cell?_setCell_other _ _ _ _ (by simp)).trans h.r.c3, (World.cell?_setCell_other _ _ _ _ (by simp)).trans h.r.c4⟩, by simpa using h.f0, by simpa using h.f1, by simpa using h.f2, by simpa using h.f3, by simpa using h.f4⟩
theorem B5w.s2 {w : World} {b : Nat} {x0 x1 x2 x3 x4 : Value} (h : B5w w b x0 x1 x2 x3 x4) (u : Value) : B5w (w.setCell ⟨b, 2, none⟩ u) b x0 x1 u x3 x4 :=
  ⟨⟨(World.cell?_setCell_other _ _ _ _ (by simp)).trans h.r.c0, (World.cell?_setCell_other _ _ _ _ (by simp)).trans h.r.c1, World.cell?_setCell_same _ _ _ h.r.c2, (World.cell?_setCell_other _ _ _ _ (by simp)).trans h.r.c3, (World.cell?_setCell_other _ _ _ _ (by simp)).trans h.r.c4⟩, by simpa using h.f0, by simpa using h.f1, by simpa using h.f2, by simpa using h.f3, by simpa using h.f4⟩
theorem B5w.s3 {w : World} {b : Nat} {x0 x1 x2 x3 x4 : Value} (h : B5w w b x0 x1 x2 x3 x4) (u : Value) : B5w (w.setCell ⟨b, 3, none⟩ u) b x0 x1 x2 u x4 :=
  ⟨⟨(World.cell?_setCell_other _ _ _ _ (by simp)).trans h.r.c0, (World.cell?_setCell_other _ _ _ _ (by simp)).trans h.r.c1, (World.cell?_setCell_other _ _ _ _ (by simp)).trans h.r.c2, World.cell?_setCell_same _ _ _ h.r.c3, (World.cell?_setCell_other _ _ _ _ (by simp)).trans h.r.c4⟩, by simpa using h.f0, by simpa using h.f1, by simpa using h.f2, by simpa using h.f3, by simpa using h.f4⟩
theorem B5w.s4 {w : World} {b : Nat} {x0 x1 x2 x3 x4 : Value} (h : B5w w b x0 x1 x2 x3 x4) (u : Value) : B5w (w.setCell ⟨b, 4, none⟩ u) b x0 x1 x2 x3 u :=
  ⟨⟨(World.cell?_setCell_other _ _ _ _ (by simp)).trans h.r.c0, (World.cell?_setCell_other _ _ _ _ (by simp)).trans h.r.c1, (World.cell?_setCell_other _ _ _ _ (by simp)).trans h.r.c2, (World.cell?_setCell_other _ _ _ _ (by simp)).trans h.r.c3, World.cell?_setCell_same _ _ _ h.r.c4⟩, by simpa using h.f0, by simpa using h.f1, by simpa using h.f2, by simpa using h.f3, by simpa using h.f4⟩
theorem B5w.bex {b g : Nat} {w w' : World} {x0 x1 x2 x3 x4 : Value} (h : B5w w g x0 x1 x2 x3 x4) (k : Bex b w w') (hg : g ≠ b) : B5w w' g x0 x1 x2 x3 x4 :=
  ⟨⟨k.cell h.r.c0 hg, k.cell h.r.c1 hg, k.cell h.r.c2 hg, k.cell h.r.c3 hg, k.cell h.r.c4 hg⟩, (k.frozen h.r.lt hg).trans h.f0, (k.frozen h.r.lt hg).trans h.f1, (k.frozen h.r.lt hg).trans h.f2, (k.frozen h.r.lt hg).trans h.f3, (k.frozen h.r.lt hg).trans h.f4⟩
theorem B5w.grown {w w' : World} {g : Nat} {x0 x1 x2 x3 x4 : Value} {o : Option Nat} (h : B5w w g x0 x1 x2 x3 x4) (k : w.grownBy w' o) (hne : some g ≠ o) : B5w w' g x0 x1 x2 x3 x4 :=
  ⟨⟨k.cell h.r.c0 hne, k.cell h.r.c1 hne, k.cell h.r.c2 hne, k.cell h.r.c3 hne, k.cell h.r.c4 hne⟩, (k.frozen_far ⟨g, 0, none⟩ h.r.lt hne).trans h.f0, (k.frozen_far ⟨g, 1, none⟩ h.r.lt hne).trans h.f1, (k.frozen_far ⟨g, 2, none⟩ h.r.lt hne).trans h.f2, (k.frozen_far ⟨g, 3, none⟩ h.r.lt hne).trans h.f3, (k.frozen_far ⟨g, 4, none⟩ h.r.lt hne).trans h.f4⟩
theorem grow_set (w : World) (g j : Nat) (u : Value) : w.grownBy (w.setCell ⟨g, j, none⟩ u) (some g) :=
  ⟨rfl, rfl, rfl, by simp, fun k _ hk => heap_setCell_other w ⟨g, j, none⟩ k u (fun e => hk (by simp [e]))⟩
theorem ne_some {v : Value} {g : Nat} (h : v.ownBlock ≠ some g) : ∀ q, v.ownBlock = some q → some g ≠ some q := fun q e k => h (by rw [e, ← k])
theorem own_sl {E : TypeId} {w : World} {B s n : Nat} {v : Value} {xs : List Value} (h : w.ownsRow B E s v n xs) : ∃ a c, v = .slice a n c := by
  rcases h.2 with ⟨h1, h2⟩ | ⟨q, cap, cur, hv, _⟩
  · exact ⟨none, 0, by first | rw [h1, h2] | simp_all⟩
  · exact ⟨_, _, hv⟩
/-- Two rows of the call's own: gates and outs. -/
structure CirO (w : World) (L : Nat) (v2 : Value) (n : Nat) (gs : List Int) (v3 : Value) (m : Nat) (os : List Int) : Prop where
  og : w.ownsRow L 91 3 v2 n (ivs gs)
  oo : w.ownsRow L 3 1 v3 m (ivs os)
  dj : ∀ q, v2.ownBlock = some q → v3.ownBlock ≠ some q
  fg : Hid (∀ x ∈ gs, Fits x)
  fo : Hid (∀ x ∈ os, Fits x)
theorem CirO.bex {b L : Nat} {w w' : World} {v2 v3 : Value} {n m : Nat} {gs os : List Int} (h : CirO w L v2 n gs v3 m os) (k : Bex b w w') (hb : b < L) : CirO w' L v2 n gs v3 m os := ⟨ownsRow_bex h.og k hb, ownsRow_bex h.oo k hb, h.dj, h.fg, h.fo⟩
theorem CirO.base {L L' : Nat} {w : World} {v2 v3 : Value} {n m : Nat} {gs os : List Int} (h : CirO w L v2 n gs v3 m os) (hb : L' ≤ L) : CirO w L' v2 n gs v3 m os := ⟨ownsRow_base h.og hb, ownsRow_base h.oo hb, h.dj, h.fg, h.fo⟩
theorem CirO.kept {L : Nat} {w w' : World} {v2 v3 : Value} {n m : Nat} {gs os : List Int} {o : Option Nat} (h : CirO w L v2 n gs v3 m os) (k : w.grownBy w' o) (d2 : ∀ q, v2.ownBlock = some q → o ≠ some q) (d3 : ∀ q, v3.ownBlock = some q → o ≠ some q) : CirO w' L v2 n gs v3 m os :=
  ⟨ownsRow_keptNe h.og k d2, ownsRow_keptNe h.oo k d3, h.dj, h.fg, h.fo⟩
theorem CirO.below {L : Nat} {w w' : World} {v2 v3 : Value} {n m : Nat} {gs os : List Int} (h : CirO w L v2 n gs v3 m os) (k : Below w.heap.size w w') : CirO w' L v2 n gs v3 m os := ⟨ownsRow_below h.og k, ownsRow_below h.oo k, h.dj, h.fg, h.fo⟩
/-- A circuit in box g, its rows from block L on. -/
structure AnyA (W : World) (L g : Nat) (x0 x1 x2 : Int) (v2 : Value) (n : Nat) (gs : List Int) (v3 : Value) (m : Nat) (os : List Int) : Prop where
  box : B5w W g (.int .i64 x0) (.int .i64 x1) (.int .i64 x2) v2 v3
  r : CirO W L v2 n gs v3 m os
  d2 : v2.ownBlock ≠ some g
  d3 : v3.ownBlock ≠ some g
  Lg : L ≤ g
variable {W W' : World} {L g : Nat} {x0 x1 x2 : Int} {v2 v3 : Value} {n m : Nat} {gs os : List Int}
theorem AnyA.lt (h : AnyA W L g x0 x1 x2 v2 n gs v3 m os) : g < W.heap.size := h.box.r.lt
theorem AnyA.new {t : TypeId} (h : CirO W L v2 n gs v3 m os) (hL : L ≤ W.heap.size) : AnyA (W.alloc (.cells #[.int .i64 x0, .int .i64 x1, .int .i64 x2, v2, v3] t)) L W.heap.size x0 x1 x2 v2 n gs v3 m os :=
  ⟨B5w.new, h.below (bel_alloc _ _), fun e => by have := (ownLt h.og _ e).2; omega, fun e => by have := (ownLt h.oo _ e).2; omega, hL⟩
theorem AnyA.below (h : AnyA W L g x0 x1 x2 v2 n gs v3 m os) (k : Below W.heap.size W W') : AnyA W' L g x0 x1 x2 v2 n gs v3 m os := ⟨h.box.on k, h.r.below k, h.d2, h.d3, h.Lg⟩
theorem AnyA.bex {b : Nat} (h : AnyA W L g x0 x1 x2 v2 n gs v3 m os) (k : Bex b W W') (hb : b < L) : AnyA W' L g x0 x1 x2 v2 n gs v3 m os := ⟨h.box.bex k (by have := h.Lg; omega), h.r.bex k hb, h.d2, h.d3, h.Lg⟩
theorem AnyA.set0 (h : AnyA W L g x0 x1 x2 v2 n gs v3 m os) (u : Int) : AnyA (W.setCell ⟨g, 0, none⟩ (.int .i64 u)) L g u x1 x2 v2 n gs v3 m os :=
  ⟨h.box.s0 _, h.r.kept (grow_set W g 0 _) (ne_some h.d2) (ne_some h.d3), h.d2, h.d3, h.Lg⟩
theorem AnyA.set1 (h : AnyA W L g x0 x1 x2 v2 n gs v3 m os) (u : Int) : AnyA (W.setCell ⟨g, 1, none⟩ (.int .i64 u)) L g x0 u x2 v2 n gs v3 m os :=
  ⟨h.box.s1 _, h.r.kept (grow_set W g 1 _) (ne_some h.d2) (ne_some h.d3), h.d2, h.d3, h.Lg⟩
/-- Other outs. -/
theorem AnyA.outs {v9 : Value} {m9 : Nat} {os9 : List Int} (h : AnyA W L g x0 x1 x2 v2 n gs v3 m os) (k : W'.ownsRow L 3 1 v9 m9 (ivs os9)) (hg : W.grownBy W' v3.ownBlock) (hb : v9.ownBlock = v3.ownBlock ∨ v9.ownBlock = some W.heap.size) (fo : Hid (∀ x ∈ os9, Fits x)) :
    AnyA (W'.setCell ⟨g, 4, none⟩ v9) L g x0 x1 x2 v2 n gs v9 m9 os9 := by
  have hl := h.lt
  have e3 : v9.ownBlock ≠ some g := by rcases hb with e | e <;> rw [e]; exact h.d3; intro q; simp only [Option.some.injEq] at q; omega
  have dj : ∀ q, v2.ownBlock = some q → v9.ownBlock ≠ some q := fun q hq => by
    rcases hb with e | e <;> rw [e]
    · exact h.r.dj q hq
    · intro z; simp only [Option.some.injEq] at z; have := (ownLt h.r.og q hq).2; omega
  have r' : CirO W' L v2 n gs v9 m9 os9 := ⟨ownsRow_keptNe h.r.og hg (fun q hq e => h.r.dj q hq e), k, dj, h.r.fg, fo⟩
  exact ⟨(h.box.grown hg (fun e => h.d3 e.symm)).s4 _, r'.kept (grow_set W' g 4 _) (ne_some h.d2) (ne_some e3), h.d2, e3, h.Lg⟩
/-- Other gates. -/
theorem AnyA.gates {v9 : Value} {n9 : Nat} {gs9 : List Int} (h : AnyA W L g x0 x1 x2 v2 n gs v3 m os) (k : W'.ownsRow L 91 3 v9 n9 (ivs gs9)) (hg : W.grownBy W' v2.ownBlock) (hb : v9.ownBlock = v2.ownBlock ∨ v9.ownBlock = some W.heap.size) (fg : Hid (∀ x ∈ gs9, Fits x)) :
    AnyA (W'.setCell ⟨g, 3, none⟩ v9) L g x0 x1 x2 v9 n9 gs9 v3 m os := by
  have hl := h.lt
  have e2 : v9.ownBlock ≠ some g := by rcases hb with e | e <;> rw [e]; exact h.d2; intro q; simp only [Option.some.injEq] at q; omega
  have dj : ∀ q, v9.ownBlock = some q → v3.ownBlock ≠ some q := fun q hq z => by
    rcases hb with e | e <;> rw [e] at hq
    · exact h.r.dj q hq z
    · simp only [Option.some.injEq] at hq; have := (ownLt h.r.oo q z).2; omega
  have r' : CirO W' L v9 n9 gs9 v3 m os := ⟨k, ownsRow_keptNe h.r.oo hg (fun q hq e => h.r.dj q e hq), dj, fg, h.r.fo⟩
  exact ⟨(h.box.grown hg (fun e => h.d2 e.symm)).s3 _, r'.kept (grow_set W' g 3 _) (ne_some e2) (ne_some h.d3), e2, h.d3, h.Lg⟩
theorem ivs_set (l : List Int) (j : Nat) (u : Int) : (ivs l).set j (.int .i64 u) = ivs (l.set j u) := by unfold ivs; rw [List.map_set]
/-- A field of a gate is written. -/
theorem AnyA.put {q j c : Nat} {u : Int} (h : AnyA W L g x0 x1 x2 (.slice (some ⟨q, 0, none⟩) n c) n gs v3 m os) (hu : Fits u) : AnyA (W.setCell ⟨q, j, none⟩ (.int .i64 u)) L g x0 x1 x2 (.slice (some ⟨q, 0, none⟩) n c) n (gs.set j u) v3 m os := by
  obtain ⟨h1, h2⟩ := World.ownsRow.stored h.r.og j (.int .i64 u)
  rw [ivs_set] at h1
  have hne : q ≠ g := fun e => h.d2 (by subst e; rfl)
  exact ⟨h.box.other (p := ⟨q, j, none⟩) hne _, ⟨h1, ownsRow_keptNe h.r.oo h2 (fun z hz e => h.r.dj q rfl (by rw [hz, ← e])), h.r.dj, fun x hx => by rcases List.mem_or_eq_of_mem_set hx with e | e; exact h.r.fg.out x e; rw [e]; exact hu, h.r.fo⟩, h.d2, h.d3, h.Lg⟩
/-- The gates' row, when there are any. -/
theorem AnyA.row (h : AnyA W L g x0 x1 x2 v2 n gs v3 m os) (hn : 0 < n) : ∃ q c, v2 = .slice (some ⟨q, 0, none⟩) n c ∧ L ≤ q ∧ q < W.heap.size := by
  obtain ⟨q, c, e, h1, h2⟩ := World.ownsRow.form h.r.og hn
  exact ⟨q, c, e, h1, h2⟩
theorem AnyA.cells {q c : Nat} (h : AnyA W L g x0 x1 x2 (.slice (some ⟨q, 0, none⟩) n c) n gs v3 m os) {j : Nat} (hj : j < n * 3) : (∃ u, W.cell? ⟨q, j, none⟩ = some (.int .i64 u)) ∧ W.frozen? ⟨q, j, none⟩ = false := by
  refine ⟨?_, World.ownsRow.frozenAt h.r.og j⟩
  have hl := h.r.og.1
  rw [World.ownsRow.cellAt h.r.og j hj]
  simp only [ivs, List.length_map] at hl
  exact ⟨gs[j]'(by omega), by simp only [ivs, List.getElem?_map]; rw [List.getElem?_eq_getElem (by omega)]; rfl⟩
/-- append of one int to a row, at a step of a region that draws its order: what is known of the new row. -/
theorem step_appX {ops : Array Oper} {o : Oper} {a : Act} {w : World} {K : Act → World → Prop} {Q : Exit → Act → World → Prop} {E : Prop} (B k : Nat) (v : Value) (xs : List Int) (u : Int) (ad : Addr)
    (hg : o.guard = none) (s x : Operand) (ho : o.op = .call { callee := .builtin .append, args := #[s, x], argTypes := #[24, 24] })
    (hs : a.eval s = v) (hx : a.eval x = .slice (some ad) 1 1) (hc : w.cell? ad = some (.int .i64 u)) (hown : w.ownsRow B 3 1 v k (ivs xs)) (hB : B ≤ w.heap.size) (hn : k ≤ 1000000000000)
    (h : ∀ v' w', w'.ownsRow B 3 1 v' (k + 1) (ivs (xs ++ [u])) → Below B w w' → w.grownBy w' v.ownBlock → (v'.ownBlock = v.ownBlock ∨ v'.ownBlock = some w.heap.size) → K (a.put o.dst v') w') :
    if Region.wanted o (yielded ops a.tmps) = true then Oper.wp Try.prog o a w K Q else E := by
  have hw : Region.wanted o (yielded ops a.tmps) = true := by simp [Region.wanted, hg]
  rw [if_pos hw]
  obtain ⟨i0, hi, hz0, hz1, hz2⟩ := info_parts info_int
  obtain ⟨v', w', hrun, k1, k2, k0, k3⟩ := run_append_own_at (P := Try.prog) w B 24 o.type 3 i0 (.int .i64 0) 1 8 Try.underlying24 hi hz0 hz1 hz2 rfl (by decide) v k (ivs xs) hown ad 1 1 [.int .i64 u] rfl (by
    intro j c hj
    match j, hj with
    | 0, hj =>
      simp at hj; subst hj
      have : ad.add 0 = ad := by simp [Addr.add]
      rw [this]; exact hc) (by intro c hc; simp at hc; subst hc; rfl) (by unfold maxLen; omega) (by omega) hB
  unfold Oper.wp execOp
  simp only [ho, resolve, invoke, builtin, Sem.run_bind, Sem.run_pure, Result.andThen_ok, List.map_toArray, List.map_cons, List.map_nil, hs, hx, hrun]
  exact h v' w' (by rw [ivs_snoc]; exact k1) (below_grown_own hown k2 hB) k2 k3
theorem info_GtA : (Try.prog.info? 91).map (fun i => (i.zero, i.size, i.bytes)) = some (some (.agg #[.int .i64 0, .int .i64 0, .int .i64 0]), 3, 24) := by kernel_rfl
/-- append of one gate: what is known of the new row. -/
theorem wp_appGX {ops : Array Oper} {rest : List Oper} {o : Oper} {a : Act} {Q : Exit → Act → World → Prop} (w : World) (B k : Nat) (v : Value) (zs : List Int) (p q r : Int) (t : TypeId) (m : Nat)
    (hg : o.guard = none) (s x : Operand) (ho : o.op = .call { callee := .builtin .append, args := #[s, x], argTypes := #[46, 46] })
    (hs : a.eval s = v) (hx : a.eval x = .slice (some ⟨m, 0, none⟩) 1 1) (hm : m = w.heap.size) (hown : w.ownsRow B 91 3 v k (ivs zs)) (hB : B ≤ w.heap.size) (hn : k ≤ 100000000)
    (h : ∀ v' w', w'.ownsRow B 91 3 v' (k + 1) (ivs (zs ++ [p, q, r])) → Below B w w' → (w.alloc (.cells #[.int .i64 p, .int .i64 q, .int .i64 r] t)).grownBy w' v.ownBlock → (v'.ownBlock = v.ownBlock ∨ v'.ownBlock = some (w.alloc (.cells #[.int .i64 p, .int .i64 q, .int .i64 r] t)).heap.size) → wpList Try.prog ops Q rest (a.put o.dst v') w') :
    wpList Try.prog ops Q (o :: rest) a (w.alloc (.cells #[.int .i64 p, .int .i64 q, .int .i64 r] t)) := by
  obtain ⟨i0, hi, hz0, hz1, hz2⟩ := info_parts info_GtA
  subst hm
  obtain ⟨v', w', hrun, k1, k2, k0, k3⟩ := run_append_own_at (P := Try.prog) (w.alloc (.cells #[.int .i64 p, .int .i64 q, .int .i64 r] t)) B 46 o.type 91 i0 (.agg #[.int .i64 0, .int .i64 0, .int .i64 0]) 3 24 Try.underlying46 hi hz0 hz1 hz2 rfl (by decide) v k (ivs zs) (hown.alloc _) ⟨w.heap.size, 0, none⟩ 1 1 [.int .i64 p, .int .i64 q, .int .i64 r] rfl (by
    intro j c hj
    match j, hj with
    | 0, hj => simp at hj; subst hj; simp [Addr.add, World.cell?_alloc_at]
    | 1, hj => simp at hj; subst hj; simp [Addr.add, World.cell?_alloc_at]
    | 2, hj => simp at hj; subst hj; simp [Addr.add, World.cell?_alloc_at]) (by intro c hc; simp at hc; rcases hc with rfl | rfl | rfl <;> rfl) (by unfold maxLen; omega) (by omega) (by simp; omega)
  refine wpList_plain hg fun K hK' => ?_
  unfold Oper.wp execOp
  simp only [ho, resolve, invoke, builtin, Sem.run_bind, Sem.run_pure, Result.andThen_ok, List.map_toArray, List.map_cons, List.map_nil, hs, hx, hrun]
  have e : ivs zs ++ [.int .i64 p, .int .i64 q, .int .i64 r] = ivs (zs ++ [p, q, r]) := by simp [ivs]
  rw [e] at k1
  exact hK' _ _ (h v' w' k1 (((Below.refl B w).alloc hB _).trans (below_grown_own (hown.alloc _) k2 (by simp; omega))) k2 k3)
end Go.Proofs.Ytfichpppjpgahaa
