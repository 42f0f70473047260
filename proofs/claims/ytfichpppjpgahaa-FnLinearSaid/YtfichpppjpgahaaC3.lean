/-
  Contracts: valid gates, numbers of inputs and wires, valid circuits; both sides.
-/
import Derived.Test.YtfichpppjpgahaaC2
import Derived.Test.YtfichpppjpgahaaA
import Derived.Deep.RegionHeld3
namespace Go.Proofs.Ytfichpppjpgahaa
open Go.RowKit
set_option linter.unusedVariables false
set_option linter.unusedSimpArgs false

/-- A valid gate behind some wires. -/
def gateB (k a b own : Int) : Bool := if k = 0 ∨ k = 1 then inB a 0 (own - 1) && inB b 0 (own - 1) else if k = 2 then inB a 0 (own - 1) && decide (b = 0) else decide (k = 3) && (decide (a = 0) && decide (b = 0))
theorem gateB_01 {k a b own : Int} (h : k = 0 ∨ k = 1) : gateB k a b own = (inB a 0 (own - 1) && inB b 0 (own - 1)) := by unfold gateB; rw [if_pos h]
theorem gateB_2 {a b own : Int} : gateB 2 a b own = (inB a 0 (own - 1) && decide (b = 0)) := by unfold gateB; rw [if_neg (by omega), if_pos rfl]
theorem gateB_3 {k a b own : Int} (h : ¬ (k = 0 ∨ k = 1)) (h2 : k ≠ 2) : gateB k a b own = (decide (k = 3) && (decide (a = 0) && decide (b = 0))) := by unfold gateB; rw [if_neg h, if_neg h2]
/-- All gates up to the n-th are valid. -/
def gatesB (base : Int) (gs : List Int) : Nat → Bool
  | 0 => true
  | n + 1 => gatesB base gs n && gateB (fld 3 gs n 0) (fld 3 gs n 1) (fld 3 gs n 2) (base + n)
theorem gatesB_no {base : Int} {gs : List Int} {i : Nat} (h : gateB (fld 3 gs i 0) (fld 3 gs i 1) (fld 3 gs i 2) (base + i) = false) : ∀ {n : Nat}, i < n → gatesB base gs n = false
  | 0, hi => by omega
  | n + 1, hi => by
    rw [gatesB]
    by_cases e : i = n
    · subst e; rw [h, Bool.and_false]
    · rw [gatesB_no h (by omega), Bool.false_and]
theorem gatesB_at {base : Int} {gs : List Int} {i : Nat} : ∀ {n : Nat}, gatesB base gs n = true → i < n → gateB (fld 3 gs i 0) (fld 3 gs i 1) (fld 3 gs i 2) (base + i) = true
  | 0, _, hi => by omega
  | n + 1, h, hi => by
    rw [gatesB, Bool.and_eq_true] at h
    by_cases e : i = n
    · subst e; exact h.2
    · exact gatesB_at h.1 (by omega)
/-- The sizes of a valid circuit. -/
def circS (i0 i1 : Int) (gn on : Nat) : Bool := inB i0 0 20 && (inB i1 0 20 && (decide (gn ≤ 300) && decide (on ≤ 40)))
theorem circS_iff {i0 i1 : Int} {gn on : Nat} : circS i0 i1 gn on = true ↔ (0 ≤ i0 ∧ i0 ≤ 20) ∧ (0 ≤ i1 ∧ i1 ≤ 20) ∧ gn ≤ 300 ∧ on ≤ 40 := by
  unfold circS; simp only [Bool.and_eq_true, inB_iff, decide_eq_true_iff]
/-- A valid circuit. -/
def circB (i0 i1 : Int) (gs : List Int) (gn : Nat) (os : List Int) : Bool := circS i0 i1 gn os.length && (gatesB (i0 + i1) gs gn && allIn os 0 (i0 + i1 + gn - 1))
theorem circB_iff {i0 i1 : Int} {gs os : List Int} {gn : Nat} : circB i0 i1 gs gn os = true ↔ circS i0 i1 gn os.length = true ∧ gatesB (i0 + i1) gs gn = true ∧ allIn os 0 (i0 + i1 + gn - 1) = true := by
  unfold circB; simp only [Bool.and_eq_true]
/-- A box of three cells, just made. -/
structure B3 (w : World) (b : Nat) (x0 x1 x2 : Value) : Prop where
  c0 : w.cell? ⟨b, 0, none⟩ = some x0
  c1 : w.cell? ⟨b, 1, none⟩ = some x1
  c2 : w.cell? ⟨b, 2, none⟩ = some x2
theorem B3.new {w : World} {x0 x1 x2 : Value} {t : TypeId} : B3 (w.alloc (.cells #[x0, x1, x2] t)) w.heap.size x0 x1 x2 :=
  ⟨World.cell?_alloc_at _ _ _ _ rfl, World.cell?_alloc_at _ _ _ _ rfl, World.cell?_alloc_at _ _ _ _ rfl⟩
theorem B3.on {w w' : World} {b : Nat} {x0 x1 x2 : Value} (h : B3 w b x0 x1 x2) (hb : Below w.heap.size w w') : B3 w' b x0 x1 x2 := ⟨cell_on h.c0 hb, cell_on h.c1 hb, cell_on h.c2 hb⟩
