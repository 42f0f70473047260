/-
  A slice of structs of three int fields among a law's arguments: its cells.
-/
import Derived.Test.YtfejpmfcognikaaRec
import Derived.Deep.Slices
import Derived.ChangeSame
namespace Go.Proofs.Ytfejpmfcognikaa
open Go.RowKit Go.ChangeShapes Go.WideShapes
set_option linter.unusedVariables false
set_option linter.unusedSimpArgs false

variable {H : Type} {enc : TypeId × Value → H} {P : Program} {w : World} {base : Nat} {spare : Nat → Bool} {held : Bool}
theorem open_int3 {t e I : TypeId} {f0 f1 f2 : Field} {fuel : Nat} {cs : List Value} {x : DataW H × List MemPlace} (ht : P.underlying t = some (.slice e)) (he : P.underlying e = some (.struct #[f0, f1, f2]))
    (ce : P.cellsOf e = 3) (o0 : f0.offset = 0) (o1 : f1.offset = 1) (o2 : f2.offset = 2) (t0 : f0.type = I) (t1 : f1.type = I) (t2 : f2.type = I) (c0 : P.cellsOf I = 1) (hI : P.underlying I = some (.int .i64))
    (h : DataW.trod enc P w base spare held fuel t cs = some x) :
    cs = [.slice none 0 0] ∨
    ∃ (a : Addr) (len cap : Nat), cs = [.slice (some a) len cap] ∧ len ≤ cap ∧ cap ≤ maxLen ∧ ∀ i, i < len → ∀ j, j < 3 → ∃ y, w.cell? (a.add (i * 3 + j)) = some (.int .i64 y) ∧ Fits y := by
  rcases Go.Deep.open_slice ht h with ⟨h0, _⟩ | ⟨a, len, cap, m, n, D, Pl, rfl, hb, hl, hm, hmm, _, hx⟩
  · exact Or.inl h0
  right
  have hlm : len ≤ m := by rw [hmm]; split <;> omega
  refine ⟨a, len, cap, rfl, hl, hm, fun i hi j hj => ?_⟩
  obtain ⟨cs', h1, h2⟩ := hx i (by omega)
  rw [ce] at h1
  obtain ⟨_, hlen, hcell⟩ := World.cells?_some h1
  obtain ⟨xs, k, hk, hxy, _, hxl, hf⟩ := DataW.trod_struct he h2
  match xs, hxl, cs', hlen with
  | [y0, y1, y2], _, [v0, v1, v2], _ =>
    have g0 := hf 0 f0 rfl
    have g1 := hf 1 f1 rfl
    have g2 := hf 2 f2 rfl
    simp [o0, o1, o2, t0, t1, t2, c0] at g0 g1 g2
    have ej := hcell j hj
    rw [Go.Deep.add_add] at ej
    match j, hj, ej with
    | 0, _, ej =>
      obtain ⟨z, e0, _, wz⟩ := DataW.trod_int hI g0
      simp at e0; subst e0
      exact ⟨z, by simpa using ej, fits_wf wz⟩
    | 1, _, ej =>
      obtain ⟨z, e0, _, wz⟩ := DataW.trod_int hI g1
      simp at e0; subst e0
      exact ⟨z, by simpa using ej, fits_wf wz⟩
    | 2, _, ej =>
      obtain ⟨z, e0, _, wz⟩ := DataW.trod_int hI g2
      simp at e0; subst e0
      exact ⟨z, by simpa using ej, fits_wf wz⟩
end Go.Proofs.Ytfejpmfcognikaa
