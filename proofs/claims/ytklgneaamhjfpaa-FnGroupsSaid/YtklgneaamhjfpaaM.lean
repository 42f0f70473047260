/-
  Contracts of the functions on triples of numbers.
-/
import Derived.Test.YtklgneaamhjfpaaU
import Derived.Deep.RegionHeld3
namespace Go.Proofs.Ytklgneaamhjfpaa
open Go.RowKit
set_option linter.unusedVariables false
set_option linter.unusedSimpArgs false

/-- A quiet call in a region that draws, behind draws (the caller's world on the left). -/
theorem quiet_left {P : Program} {f : FuncId} {args : Array Value} {w : World} {n : Nat} {v : Value}
    (h : Calls P f args (w.drewN n) fun e w' => e = .returned v ∧ w.drewN n = w') : Calls P f args (w.drewN n) fun e w'' => e = .returned v ∧ ∃ m, w'' = w.drewN m :=
  h.mono fun _ _ ⟨he, hm⟩ => ⟨he, n, hm.symm⟩
theorem quiet_add_left {P : Program} {f : FuncId} {args : Array Value} {w : World} {a n : Nat} {v : Value}
    (h : Calls P f args (w.drewN (a + n)) fun e w' => e = .returned v ∧ w.drewN (a + n) = w') :
    Calls P f args (w.drewN (a + n)) fun e w'' => e = .returned v ∧ ∃ m, w'' = w.drewN (a + m) :=
  h.mono fun _ _ ⟨he, hm⟩ => ⟨he, n, hm.symm⟩

/-- Elements of the field, so many. -/
def lnB (p : Int) (s : List Int) (k : Nat) : Bool := elsB p s && decide (s.length = k)
theorem lnB_iff {p : Int} {s : List Int} {k : Nat} : lnB p s k = true ↔ elsB p s = true ∧ s.length = k := by
  unfold lnB; rw [Bool.and_eq_true, decide_eq_true_iff]
theorem len3 {s : List Int} (h : s.length = 3) : ∃ x0 x1 x2, s = [x0, x1, x2] := by
  match s, h with
  | [x0, x1, x2], _ => exact ⟨_, _, _, rfl⟩
theorem len2 {s : List Int} (h : s.length = 2) : ∃ x0 x1, s = [x0, x1] := by
  match s, h with
  | [x0, x1], _ => exact ⟨_, _, rfl⟩
theorem len6 {s : List Int} (h : s.length = 6) : ∃ x0 x1 x2 x3 x4 x5, s = [x0, x1, x2, x3, x4, x5] := by
  match s, h with
  | [x0, x1, x2, x3, x4, x5], _ => exact ⟨_, _, _, _, _, _, rfl⟩
/-- Three elements of a field, opened. -/
theorem ln3 {p : Int} {s : List Int} (h : lnB p s 3 = true) : ∃ x0 x1 x2, s = [x0, x1, x2] ∧ (0 ≤ x0 ∧ x0 ≤ p - 1) ∧ (0 ≤ x1 ∧ x1 ≤ p - 1) ∧ (0 ≤ x2 ∧ x2 ≤ p - 1) := by
  obtain ⟨h1, h2⟩ := lnB_iff.1 h
  obtain ⟨x0, x1, x2, rfl⟩ := len3 h2
  exact ⟨x0, x1, x2, rfl, elsB_nth h1 (i := 0) (by simp), elsB_nth h1 (i := 1) (by simp), elsB_nth h1 (i := 2) (by simp)⟩
theorem ln2 {p : Int} {s : List Int} (h : lnB p s 2 = true) : ∃ x0 x1, s = [x0, x1] ∧ (0 ≤ x0 ∧ x0 ≤ p - 1) ∧ (0 ≤ x1 ∧ x1 ≤ p - 1) := by
  obtain ⟨h1, h2⟩ := lnB_iff.1 h
  obtain ⟨x0, x1, rfl⟩ := len2 h2
  exact ⟨x0, x1, rfl, elsB_nth h1 (i := 0) (by simp), elsB_nth h1 (i := 1) (by simp)⟩
theorem ln6 {p : Int} {s : List Int} (h : lnB p s 6 = true) : ∃ x0 x1 x2 x3 x4 x5, s = [x0, x1, x2, x3, x4, x5] ∧ (0 ≤ x0 ∧ x0 ≤ p - 1) ∧ (0 ≤ x1 ∧ x1 ≤ p - 1) ∧ (0 ≤ x2 ∧ x2 ≤ p - 1) ∧ (0 ≤ x3 ∧ x3 ≤ p - 1) ∧ (0 ≤ x4 ∧ x4 ≤ p - 1) ∧ (0 ≤ x5 ∧ x5 ≤ p - 1) := by
  obtain ⟨h1, h2⟩ := lnB_iff.1 h
  obtain ⟨x0, x1, x2, x3, x4, x5, rfl⟩ := len6 h2
  exact ⟨x0, x1, x2, x3, x4, x5, rfl, elsB_nth h1 (i := 0) (by simp), elsB_nth h1 (i := 1) (by simp), elsB_nth h1 (i := 2) (by simp), elsB_nth h1 (i := 3) (by simp), elsB_nth h1 (i := 4) (by simp), elsB_nth h1 (i := 5) (by simp)⟩
theorem lnB_p {p : Int} {s : List Int} {k : Nat} (h : lnB p s k = true) : 2 ≤ p ∧ p ≤ 251 := elsB_p (lnB_iff.1 h).1

/-- The cells of short slices. -/
theorem Ints.three {w : World} {a : Option Addr} {n cap : Nat} {x0 x1 x2 : Int} (h : Ints w a n cap [x0, x1, x2]) : n = 3 ∧ ∃ b off, a = some ⟨b, off, none⟩ ∧ w.cell? ⟨b, off, none⟩ = some (.int .i64 x0) ∧ w.cell? ⟨b, off + 1, none⟩ = some (.int .i64 x1) ∧ w.cell? ⟨b, off + 2, none⟩ = some (.int .i64 x2) := by
  obtain rfl : n = 3 := by have := h.len.out; simpa using this.symm
  obtain ⟨b, off, e, _, h0⟩ := h.at (i := 0) (by omega)
  obtain ⟨b1, off1, e1, _, h1⟩ := h.at (i := 1) (by omega)
  obtain ⟨b2, off2, e2, _, h2⟩ := h.at (i := 2) (by omega)
  rw [e] at e1 e2
  simp only [Option.some.injEq, Addr.mk.injEq] at e1 e2
  obtain ⟨rfl, rfl, _⟩ := e1; obtain ⟨rfl, rfl, _⟩ := e2
  exact ⟨rfl, b, off, e, h0, h1, h2⟩
theorem Ints.two {w : World} {a : Option Addr} {n cap : Nat} {x0 x1 : Int} (h : Ints w a n cap [x0, x1]) : n = 2 ∧ ∃ b off, a = some ⟨b, off, none⟩ ∧ w.cell? ⟨b, off, none⟩ = some (.int .i64 x0) ∧ w.cell? ⟨b, off + 1, none⟩ = some (.int .i64 x1) := by
  obtain rfl : n = 2 := by have := h.len.out; simpa using this.symm
  obtain ⟨b, off, e, _, h0⟩ := h.at (i := 0) (by omega)
  obtain ⟨b1, off1, e1, _, h1⟩ := h.at (i := 1) (by omega)
  rw [e] at e1
  simp only [Option.some.injEq, Addr.mk.injEq] at e1
  obtain ⟨rfl, rfl, _⟩ := e1
  exact ⟨rfl, b, off, e, h0, h1⟩
theorem Ints.six {w : World} {a : Option Addr} {n cap : Nat} {x0 x1 x2 x3 x4 x5 : Int} (h : Ints w a n cap [x0, x1, x2, x3, x4, x5]) : n = 6 ∧ ∃ b off, a = some ⟨b, off, none⟩ ∧ w.cell? ⟨b, off, none⟩ = some (.int .i64 x0) ∧ w.cell? ⟨b, off + 1, none⟩ = some (.int .i64 x1) ∧ w.cell? ⟨b, off + 2, none⟩ = some (.int .i64 x2) ∧
    w.cell? ⟨b, off + 3, none⟩ = some (.int .i64 x3) ∧ w.cell? ⟨b, off + 4, none⟩ = some (.int .i64 x4) ∧ w.cell? ⟨b, off + 5, none⟩ = some (.int .i64 x5) := by
  obtain rfl : n = 6 := by have := h.len.out; simpa using this.symm
  obtain ⟨b, off, e, _, h0⟩ := h.at (i := 0) (by omega)
  have k : ∀ i, i < 6 → w.cell? ⟨b, off + i, none⟩ = some (.int .i64 (nth [x0, x1, x2, x3, x4, x5] i)) := fun i hi => by
    obtain ⟨b1, off1, e1, _, h1⟩ := h.at hi
    rw [e] at e1
    simp only [Option.some.injEq, Addr.mk.injEq] at e1
    obtain ⟨rfl, rfl, _⟩ := e1
    exact h1
  exact ⟨rfl, b, off, e, h0, k 1 (by omega), k 2 (by omega), k 3 (by omega), k 4 (by omega), k 5 (by omega)⟩
