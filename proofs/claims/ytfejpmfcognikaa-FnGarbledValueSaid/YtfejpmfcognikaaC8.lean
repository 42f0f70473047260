/-
  Contracts: the share of a single gate, both sides.
-/
import Derived.Test.YtfejpmfcognikaaC7
import Derived.BigQuiet
namespace Go.Proofs.Ytfejpmfcognikaa
open Go.RowKit
set_option linter.unusedVariables false
set_option linter.unusedSimpArgs false
set_option maxRecDepth 10000

/-- The share of a party of a gate of another kind than And. -/
def locS (p k a b : Int) (l : List Int) : Int := if k = 0 then xr (nth l a.toNat) (nth l b.toNat) else if k = 2 then xr (nth l a.toNat) (1 - p) else 1 - p
/-- The share of a party of a gate And. -/
def andS (p s0 s1 s2 d e : Int) : Int := if p = 0 then xr (xr (xr s2 (d * s1)) (e * s0)) (d * e) else xr (xr s2 (d * s1)) (e * s0)
def bitsL0 (l : List Int) (n : Nat) : Prop := ∀ i, i < n → 0 ≤ nth l i ∧ nth l i ≤ 1
theorem mul_bit {a b : Int} (ha : 0 ≤ a ∧ a ≤ 1) (hb : 0 ≤ b ∧ b ≤ 1) : 0 ≤ a * b ∧ a * b ≤ 1 := by
  rcases (show a = 0 ∨ a = 1 by omega) with rfl | rfl <;> omega
theorem an_eq {a b : Int} (ha : 0 ≤ a ∧ a ≤ 1) (hb : 0 ≤ b ∧ b ≤ 1) : bits .and .i64 a b = a * b := by
  rcases (show a = 0 ∨ a = 1 by omega) with rfl | rfl <;> rcases (show b = 0 ∨ b = 1 by omega) with rfl | rfl <;> decide
theorem locS_bd {p k a b : Int} {l : List Int} (hp : p = 0 ∨ p = 1) : 0 ≤ locS p k a b l ∧ locS p k a b l ≤ 1 := by
  unfold locS
  split
  · exact xr_bd _ _
  · split
    · exact xr_bd _ _
    · omega
theorem andS_bd {p s0 s1 s2 d e : Int} : 0 ≤ andS p s0 s1 s2 d e ∧ andS p s0 s1 s2 d e ≤ 1 := by
  unfold andS
  split <;> exact xr_bd _ _
theorem Ints.wire {w : World} {v : Option Addr} {n cap : Nat} {l : List Int} (h : Ints w v n cap l) {a : Int} (ha : inB a 0 ((n : Int) - 1) = true) : ∃ q : Nat, a = q ∧ q < n ∧ ∃ b off, v = some ⟨b, off, none⟩ ∧ b < w.heap.size ∧ w.cell? ⟨b, off + q, none⟩ = some (.int .i64 (nth l q)) := by
  obtain ⟨h0, h1⟩ := inB_iff.1 ha
  refine ⟨a.toNat, by omega, by omega, ?_⟩
  exact h.at (by omega)
theorem Ints.wires {w : World} {v : Option Addr} {n cap : Nat} {l : List Int} (h : Ints w v n cap l) {a a' : Int} (ha : inB a 0 ((n : Int) - 1) = true) (ha' : inB a' 0 ((n : Int) - 1) = true) :
    ∃ q q' : Nat, a = q ∧ a' = q' ∧ q < n ∧ q' < n ∧ ∃ b off, v = some ⟨b, off, none⟩ ∧ b < w.heap.size ∧ w.cell? ⟨b, off + q, none⟩ = some (.int .i64 (nth l q)) ∧ w.cell? ⟨b, off + q', none⟩ = some (.int .i64 (nth l q')) := by
  obtain ⟨q, e, hq, b, off, ev, hb, hc⟩ := h.wire ha
  obtain ⟨q', e', hq', b', off', ev', hb', hc'⟩ := h.wire ha'
  rw [ev] at ev'
  simp only [Option.some.injEq, Addr.mk.injEq] at ev'
  obtain ⟨rfl, rfl, _⟩ := ev'
  exact ⟨q, q', e, e', hq, hq', b, off, ev, hb, hc, hc'⟩