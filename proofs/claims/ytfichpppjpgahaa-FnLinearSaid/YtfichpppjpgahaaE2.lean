/-
  Seed columns, rows of columns: both sides; SeedColumns, ReceiverRows.
-/
import Derived.Test.YtfichpppjpgahaaE
namespace Go.Proofs.Ytfichpppjpgahaa
open Go.RowKit
set_option linter.unusedVariables false
set_option linter.unusedSimpArgs false

/-- A slice of rows handed back, in memory of the call's own. -/
def RowsRet (X : List (List Int)) (w : World) (e : Ending) (w' : World) : Prop :=
  ∃ r c, e = .returned (.slice r X.length c) ∧ MineR w' w.heap.size w'.heap.size r X.length c X ∧ Below w.heap.size w w'
/-- The same with a bool. -/
def RowsRetB (X : List (List Int) × Bool) (w : World) (e : Ending) (w' : World) : Prop :=
  ∃ r c, e = .returned (.tuple #[.slice r X.1.length c, .bool X.2]) ∧ MineR w' w.heap.size w'.heap.size r X.1.length c X.1 ∧ Below w.heap.size w w'
theorem RowsRetB.no {w w' : World} (hb : Below w.heap.size w w') : RowsRetB ([], false) w (.returned (.tuple #[.slice none 0 0, .bool false])) w' :=
  ⟨none, 0, rfl, MineR.nil' (Nat.le_refl _), hb⟩
theorem RowsRetB.yes {w w0 w' : World} {X : List (List Int)} {r : Option Addr} {c : Nat} (hm : MineR w' w0.heap.size w'.heap.size r X.length c X) (h0 : w.heap.size ≤ w0.heap.size) (hb : Below w.heap.size w w') : RowsRetB (X, true) w (.returned (.tuple #[.slice r X.length c, .bool true])) w' :=
  ⟨r, c, rfl, hm.wider h0 (Nat.le_refl _) (Nat.le_refl _), hb⟩

def seedColumns (key k m side : Int) : List (List Int) × Bool := if keyE key && (inB k 1 8 && (inB m 0 24 && inB side 0 1)) then (seedCs key side m.toNat k.toNat, true) else ([], false)
theorem seedColumns_len (key k m side : Int) : (seedColumns key k m side).1.length ≤ 1000 ∧ pre (seedColumns key k m side).1 (seedColumns key k m side).1.length ≤ 100000 := by
  unfold seedColumns
  split
  · rename_i h
    simp only [Bool.and_eq_true] at h
    have h1 := inB_iff.1 h.2.1; have h2 := inB_iff.1 h.2.2.1
    show (seedCs key side m.toNat k.toNat).length ≤ 1000 ∧ pre (seedCs key side m.toNat k.toNat) (seedCs key side m.toNat k.toNat).length ≤ 100000
    rw [seedCs_len]
    have := pre_le (seedCs key side m.toNat k.toNat) k.toNat 24 (fun i hi => by rw [rowN_seedCs hi, seedC_len]; omega)
    omega
  · simp [pre]
def receiverRows (key k m : Int) : List (List Int) × Bool := if keyE key && (inB k 1 8 && inB m 0 24) then (turnL (seedCs key 0 m.toNat k.toNat) k.toNat m.toNat, true) else ([], false)
theorem receiverRows_len (key k m : Int) : (receiverRows key k m).1.length ≤ 1000 ∧ pre (receiverRows key k m).1 (receiverRows key k m).1.length ≤ 100000 := by
  unfold receiverRows
  split
  · rename_i h
    simp only [Bool.and_eq_true] at h
    have h1 := inB_iff.1 h.2.1; have h2 := inB_iff.1 h.2.2
    show (turnL (seedCs key 0 m.toNat k.toNat) k.toNat m.toNat).length ≤ 1000 ∧ pre (turnL (seedCs key 0 m.toNat k.toNat) k.toNat m.toNat) (turnL (seedCs key 0 m.toNat k.toNat) k.toNat m.toNat).length ≤ 100000
    rw [turnL_len]
    have := pre_le (turnL (seedCs key 0 m.toNat k.toNat) k.toNat m.toNat) m.toNat 8 (fun i hi => by rw [rowN_turnL hi, colAt_len]; omega)
    omega
  · simp [pre]
theorem sc_f {key k m side : Int} (h : (keyE key && (inB k 1 8 && inB m 0 24)) = false) : seedColumns key k m side = ([], false) := by
  unfold seedColumns
  refine if_neg fun q => ?_
  simp only [Bool.and_eq_true] at q
  simp only [q.1, q.2.1, q.2.2.1] at h
  cases h
theorem sc_f2 {key k m side : Int} (h : inB side 0 1 = false) : seedColumns key k m side = ([], false) := by
  unfold seedColumns
  refine if_neg fun q => ?_
  simp only [Bool.and_eq_true] at q
  rw [h] at q; cases q.2.2.2
theorem sc_t {key side : Int} {kN mN : Nat} (h : (keyE key && (inB (kN : Int) 1 8 && inB (mN : Int) 0 24)) = true) (h2 : inB side 0 1 = true) : seedColumns key kN mN side = (seedCs key side mN kN, true) := by
  unfold seedColumns
  simp only [Bool.and_eq_true] at h
  simp only [h.1, h.2.1, h.2.2, h2]
  rfl