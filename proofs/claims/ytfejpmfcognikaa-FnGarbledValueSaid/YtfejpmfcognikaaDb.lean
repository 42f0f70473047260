/-
  Bit triples of a key, both sides (for a seat without the triples over fields).
-/
import Derived.Test.YtfejpmfcognikaaD10
import Derived.Test.YtfejpmfcognikaaD
import Derived.Test.YtfejpmfcognikaaAp
import Derived.Deep.RegionHeld3
namespace Go.Proofs.Ytfejpmfcognikaa
open Go.RowKit
set_option linter.unusedVariables false
set_option linter.unusedSimpArgs false
theorem lit3_mine {w : World} {x y z : Int} (t : TypeId) (hx : Fits x) (hy : Fits y) (hz : Fits z) : Mine (w.alloc (.cells #[.int .i64 x, .int .i64 y, .int .i64 z] t)) w.heap.size (some ⟨w.heap.size, 0, none⟩) 3 3 [x, y, z] := by
  refine ⟨Ints.lit3 rfl hx hy hz, fun _ b off e => ?_, fun i hi b off e => ?_⟩
  · simp only [Option.some.injEq, Addr.mk.injEq] at e
    obtain ⟨rfl, _, _⟩ := e
    exact ⟨Nat.le_refl _, by simp⟩
  · simp only [Option.some.injEq, Addr.mk.injEq] at e
    obtain ⟨rfl, rfl, _⟩ := e
    exact World.frozen?_alloc_at _ _ _ _ rfl
theorem Ints.drop2 {w : World} {g cap : Nat} {x0 x1 x2 x3 x4 : Int} (h : Ints w (some ⟨g, 0, none⟩) 5 cap [x0, x1, x2, x3, x4]) : Ints w (some ⟨g, 2, none⟩) 3 (cap - 2) [x2, x3, x4] := by
  have hn := h.ncap; have hc := h.capm
  refine ⟨rfl, by omega, by omega, by omega, fun i hi => ?_, fun x hx => h.wf.out x (by simp at hx ⊢; omega), fun e => by cases e⟩
  obtain ⟨b, off, e, hl, hcell⟩ := h.at (i := i + 2) (by omega)
  simp only [Option.some.injEq, Addr.mk.injEq] at e
  obtain ⟨rfl, rfl, _⟩ := e
  refine ⟨g, 2, rfl, hl, ?_⟩
  rw [show 2 + i = 0 + (i + 2) by omega, hcell]
  rcases (show i = 0 ∨ i = 1 ∨ i = 2 by omega) with rfl | rfl | rfl <;> rfl
theorem Ints.three {w : World} {a : Option Addr} {n cap : Nat} {x0 x1 x2 : Int} (h : Ints w a n cap [x0, x1, x2]) : n = 3 ∧ ∃ b off, a = some ⟨b, off, none⟩ ∧ w.cell? ⟨b, off, none⟩ = some (.int .i64 x0) ∧ w.cell? ⟨b, off + 1, none⟩ = some (.int .i64 x1) ∧ w.cell? ⟨b, off + 2, none⟩ = some (.int .i64 x2) := by
  obtain rfl : n = 3 := by have := h.len.out; simpa using this.symm
  obtain ⟨b, off, e, _, h0⟩ := h.at (i := 0) (by omega)
  obtain ⟨b1, off1, e1, _, h1⟩ := h.at (i := 1) (by omega)
  obtain ⟨b2, off2, e2, _, h2⟩ := h.at (i := 2) (by omega)
  rw [e] at e1 e2
  simp only [Option.some.injEq, Addr.mk.injEq] at e1 e2
  obtain ⟨rfl, rfl, _⟩ := e1; obtain ⟨rfl, rfl, _⟩ := e2
  exact ⟨rfl, b, off, e, h0, h1, h2⟩
theorem Mine.drop2 {w : World} {B g cap : Nat} {x0 x1 x2 x3 x4 : Int} (h : Mine w B (some ⟨g, 0, none⟩) 5 cap [x0, x1, x2, x3, x4]) : Mine w B (some ⟨g, 2, none⟩) 3 (cap - 2) [x2, x3, x4] :=
  ⟨h.ints.drop2, fun _ b off e => by
    simp only [Option.some.injEq, Addr.mk.injEq] at e
    obtain ⟨rfl, _, _⟩ := e
    exact h.place.out (by omega) g 0 rfl, fun i hi b off e => by
    simp only [Option.some.injEq, Addr.mk.injEq] at e
    obtain ⟨rfl, rfl, _⟩ := e
    have := h.free.out (i + 2) (by omega) g 0 rfl
    rwa [show 0 + (i + 2) = 2 + i by omega] at this⟩

def keyB (key : Int) : Bool := inB key 0 1000000000
theorem keyB_iff {key : Int} : keyB key = true ↔ 0 ≤ key ∧ key ≤ 1000000000 := inB_iff

set_option maxHeartbeats 400000 in
theorem i_isKey (x : Int) (w : World) : Calls Try.prog 41 #[.int .i64 x] w fun e w' => e = .returned (.bool (keyB x)) ∧ w = w' := by
  go_enter Try.func41, Try.ntmps41
  go_wp2_with (go_at_call 49; refine (i_within _ _ _ _).mono ?_; rintro e w' ⟨rfl, rfl⟩)
  go_ret
  exact ⟨rfl, rfl⟩


def bt (key i : Int) (k : Nat) : Int := bitAt [key, i, 22] k
theorem bt_bd (key i : Int) (k : Nat) : 0 ≤ bt key i k ∧ bt key i k ≤ 1 := bitAt_bd _ _
def btA (key i : Int) : List Int := [bt key i 2, bt key i 3, bt key i 4]
def btB (key i : Int) : List Int := [xr (bt key i 2) (bt key i 0), xr (bt key i 3) (bt key i 1), xr (bt key i 4) (bt key i 0 * bt key i 1)]
theorem small3 {key i : Int} (hk : 0 ≤ key ∧ key ≤ 1000000000) (hi : 0 ≤ i ∧ i ≤ 100000) : ∀ x ∈ [key, i, 22], Small x := by
  intro x hx; simp at hx; unfold Small
  rcases hx with rfl | rfl | rfl <;> omega


theorem size_drew (w : World) : w.drew.heap.size = w.heap.size := rfl

def bitTriple (key i : Int) : List Int × List Int × Bool := if keyB key && inB i 0 299 then (btA key i, btB key i, true) else ([], [], false)
theorem bitTriple_len (key i : Int) : (bitTriple key i).1.length ≤ 3 ∧ (bitTriple key i).2.1.length ≤ 3 := by
  unfold bitTriple; split <;> simp [btA, btB]