/-
  Contracts of tripleFor: the program's and the reference's.
-/
import Derived.Test.YtklgneaamhjfpaaD2
import Derived.Test.YtklgneaamhjfpaaM4
namespace Go.Proofs.Ytklgneaamhjfpaa
open Go.RowKit
set_option linter.unusedVariables false
set_option linter.unusedSimpArgs false

/-- The k-th number that a triple is made of. -/
def t5 (p key i : Int) (k : Nat) : Int := numFrom [key, i, 20, (k : Int)] p
def t5l (p key i : Int) (n : Nat) : List Int := (List.range n).map (t5 p key i)
theorem t5_bd (p key i : Int) (k : Nat) (hp : 1 ≤ p) : 0 ≤ t5 p key i k ∧ t5 p key i k ≤ p - 1 := numFrom_bd _ _ hp
theorem t5l_succ (p key i : Int) (n : Nat) : t5l p key i (n + 1) = t5l p key i n ++ [t5 p key i n] := by simp [t5l, List.range_succ]
theorem t5l_fit (p key i : Int) (n : Nat) (hp : 2 ≤ p ∧ p ≤ 251) : ∀ x ∈ t5l p key i n, Fits x := by
  intro x hx
  simp only [t5l, List.mem_map] at hx
  obtain ⟨k, _, rfl⟩ := hx
  have := t5_bd p key i k (by omega)
  unfold Fits; omega
def tripA (p key i : Int) : List Int := [t5 p key i 2, t5 p key i 3, t5 p key i 4]
def tripB (p key i : Int) : List Int := [(t5 p key i 0 - t5 p key i 2) % p, (t5 p key i 1 - t5 p key i 3) % p, (t5 p key i 0 * t5 p key i 1 - t5 p key i 4) % p]

theorem Ints.drop2 {w : World} {g cap : Nat} {x0 x1 x2 x3 x4 : Int} (h : Ints w (some ⟨g, 0, none⟩) 5 cap [x0, x1, x2, x3, x4]) : Ints w (some ⟨g, 2, none⟩) 3 (cap - 2) [x2, x3, x4] := by
  have hn := h.ncap; have hc := h.capm
  refine ⟨rfl, by omega, by omega, by omega, fun i hi => ?_, fun x hx => h.wf.out x (by simp at hx ⊢; omega), fun e => by cases e⟩
  obtain ⟨b, off, e, hl, hcell⟩ := h.at (i := i + 2) (by omega)
  simp only [Option.some.injEq, Addr.mk.injEq] at e
  obtain ⟨rfl, rfl, _⟩ := e
  refine ⟨g, 2, rfl, hl, ?_⟩
  rw [show 2 + i = 0 + (i + 2) by omega, hcell]
  rcases (show i = 0 ∨ i = 1 ∨ i = 2 by omega) with rfl | rfl | rfl <;> rfl
theorem lit3_mine {w : World} {x y z : Int} (t : TypeId) (hx : Fits x) (hy : Fits y) (hz : Fits z) : Mine (w.alloc (.cells #[.int .i64 x, .int .i64 y, .int .i64 z] t)) w.heap.size (some ⟨w.heap.size, 0, none⟩) 3 3 [x, y, z] := by
  refine ⟨Ints.lit3 rfl hx hy hz, fun _ b off e => ?_, fun i hi b off e => ?_⟩
  · simp only [Option.some.injEq, Addr.mk.injEq] at e
    obtain ⟨rfl, _, _⟩ := e
    exact ⟨Nat.le_refl _, by simp⟩
  · simp only [Option.some.injEq, Addr.mk.injEq] at e
    obtain ⟨rfl, rfl, _⟩ := e
    exact World.frozen?_alloc_at _ _ _ _ rfl
theorem small4 {key i : Int} {k : Nat} (hk : 0 ≤ key ∧ key ≤ 1000000000) (hi : 0 ≤ i ∧ i ≤ 1000) (hk5 : k ≤ 5) : ∀ x ∈ [key, i, 20, (k : Int)], Small x := by
  intro x hx
  simp at hx
  unfold Small
  rcases hx with rfl | rfl | rfl | rfl <;> omega
