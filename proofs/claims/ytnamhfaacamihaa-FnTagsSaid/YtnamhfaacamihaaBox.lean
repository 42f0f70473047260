/-
  Boxes of two cells behind calls, draws, new blocks and stores: plain facts on worlds.
-/
import Derived.Test.YtnamhfaacamihaaPlain
namespace Go.Proofs.Ytnamhfaacamihaa
open Go.RowKit
set_option linter.unusedVariables false
set_option linter.unusedSimpArgs false

/-- Two boxes hold what they hold, and lie below the end of the heap. -/
def Two (n : Nat) (x y x' y' : Value) (W : World) : Prop :=
  W.cell? ⟨n, 0, none⟩ = some x ∧ W.cell? ⟨n, 1, none⟩ = some y ∧ W.cell? ⟨n + 1, 0, none⟩ = some x' ∧ W.cell? ⟨n + 1, 1, none⟩ = some y' ∧ n + 1 < W.heap.size
theorem Two.on {n : Nat} {x y x' y' : Value} {w w' : World} (h : Two n x y x' y' w) (hb : Below w.heap.size w w') : Two n x y x' y' w' :=
  ⟨cell_on h.1 hb, cell_on h.2.1 hb, cell_on h.2.2.1 hb, cell_on h.2.2.2.1 hb, Nat.lt_of_lt_of_le h.2.2.2.2 hb.size⟩
theorem Two.onB {n B : Nat} {x y x' y' : Value} {w w' : World} (h : Two n x y x' y' w) (hb : Below B w w') (hB : n + 1 < B) : Two n x y x' y' w' :=
  ⟨(hb.cell (p := ⟨n, 0, none⟩) (by dsimp only; omega)).trans h.1, (hb.cell (p := ⟨n, 1, none⟩) (by dsimp only; omega)).trans h.2.1, (hb.cell (p := ⟨n + 1, 0, none⟩) (by dsimp only; omega)).trans h.2.2.1,
   (hb.cell (p := ⟨n + 1, 1, none⟩) (by dsimp only; omega)).trans h.2.2.2.1, Nat.lt_of_lt_of_le h.2.2.2.2 hb.size⟩
theorem Two.alloc {n : Nat} {x y x' y' : Value} {w : World} (h : Two n x y x' y' w) (o : Obj) : Two n x y x' y' (w.alloc o) := h.on (bel_alloc _ _)
theorem Two.set {n : Nat} {x y x' y' : Value} {w : World} (h : Two n x y x' y' w) {p : Addr} (hp : n + 1 < p.block) (u : Value) : Two n x y x' y' (w.setCell p u) := by
  have e : ∀ b o, b ≤ n + 1 → (w.setCell p u).cell? ⟨b, o, none⟩ = w.cell? ⟨b, o, none⟩ := fun b o hb =>
    World.cell?_setCell_other _ _ _ _ (by intro e; rw [e] at hp; simp at hp; omega)
  exact ⟨(e _ _ (by omega)).trans h.1, (e _ _ (by omega)).trans h.2.1, (e _ _ (by omega)).trans h.2.2.1, (e _ _ (by omega)).trans h.2.2.2.1, by simpa using h.2.2.2.2⟩
/-- One box. -/
def One (n : Nat) (x y : Value) (W : World) : Prop := W.cell? ⟨n, 0, none⟩ = some x ∧ W.cell? ⟨n, 1, none⟩ = some y ∧ n < W.heap.size
theorem One.on {n : Nat} {x y : Value} {w w' : World} (h : One n x y w) (hb : Below w.heap.size w w') : One n x y w' :=
  ⟨cell_on h.1 hb, cell_on h.2.1 hb, Nat.lt_of_lt_of_le h.2.2 hb.size⟩
theorem One.alloc {n : Nat} {x y : Value} {w : World} (h : One n x y w) (o : Obj) : One n x y (w.alloc o) := h.on (bel_alloc _ _)
theorem One.set {n : Nat} {x y : Value} {w : World} (h : One n x y w) {p : Addr} (hp : n < p.block) (u : Value) : One n x y (w.setCell p u) := by
  have e : ∀ o, (w.setCell p u).cell? ⟨n, o, none⟩ = w.cell? ⟨n, o, none⟩ := fun o =>
    World.cell?_setCell_other _ _ _ _ (by intro e; rw [e] at hp; simp at hp)
  exact ⟨(e _).trans h.1, (e _).trans h.2.1, by simpa using h.2.2⟩
/-- None. -/
def Zero (n : Nat) (W : World) : Prop := n ≤ W.heap.size
theorem Zero.on {n : Nat} {w w' : World} (h : Zero n w) (hb : Below w.heap.size w w') : Zero n w' := Nat.le_trans h hb.size
theorem Zero.alloc {n : Nat} {w : World} (h : Zero n w) (o : Obj) : Zero n (w.alloc o) := h.on (bel_alloc _ _)
theorem Zero.set {n : Nat} {w : World} (h : Zero n w) {p : Addr} (hp : n ≤ p.block) (u : Value) : Zero n (w.setCell p u) := by unfold Zero at *; simpa using h
theorem Bx.alloc {w : World} {b : Nat} {x y : Value} (h : Bx w b x y) (o : Obj) : Bx (w.alloc o) b x y := h.on (bel_alloc _ _)
theorem Bx.other {w : World} {b : Nat} {x y : Value} (h : Bx w b x y) {p : Addr} (hp : b < p.block) (u : Value) : Bx (w.setCell p u) b x y := by
  have e : ∀ o, (w.setCell p u).cell? ⟨b, o, none⟩ = w.cell? ⟨b, o, none⟩ := fun o =>
    World.cell?_setCell_other _ _ _ _ (by intro e; rw [e] at hp; simp at hp)
  have f : ∀ o, (w.setCell p u).frozen? ⟨b, o, none⟩ = w.frozen? ⟨b, o, none⟩ := fun o => by
    refine World.frozen?_of_block ?_
    exact Below.heap_setCell _ _ _ _ (by simp; omega)
  exact ⟨(e _).trans h.1, (e _).trans h.2.1, (f _).trans h.2.2.1, (f _).trans h.2.2.2⟩
theorem Bx.set2 {w : World} {b : Nat} {x y : Value} (h : Bx w b x y) (u v : Value) : Bx ((w.setCell ⟨b, 0, none⟩ u).setCell ⟨b, 1, none⟩ v) b u v := by
  have h0 : (w.setCell ⟨b, 0, none⟩ u).cell? ⟨b, 0, none⟩ = some u := World.cell?_setCell_same _ _ _ h.1
  have h1 : (w.setCell ⟨b, 0, none⟩ u).cell? ⟨b, 1, none⟩ = some y := (World.cell?_setCell_other _ _ _ _ (by simp)).trans h.2.1
  refine ⟨(World.cell?_setCell_other _ _ _ _ (by simp)).trans h0, World.cell?_setCell_same _ _ _ h1, ?_, ?_⟩
  · simpa using h.2.2.1
  · simpa using h.2.2.2
theorem Bx.drew {w : World} {b : Nat} {x y : Value} (h : Bx w b x y) : Bx w.drew b x y := h
theorem size_drew' (w : World) : w.drew.heap.size = w.heap.size := rfl
theorem boxes1d {w w' : World} {x y : Value} {t : TypeId} (hb : Below (w.alloc (.cells #[x, y] t)).drew.heap.size (w.alloc (.cells #[x, y] t)).drew w') : Bx w' w.heap.size x y := (Bx.drew Bx.new).on hb
end Go.Proofs.Ytnamhfaacamihaa
