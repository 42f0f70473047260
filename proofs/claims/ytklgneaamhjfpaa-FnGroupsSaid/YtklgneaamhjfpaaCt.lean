/-
  What is drawn for the laws on triples: lists of elements, pairs, triple shares.
-/
import Derived.Test.YtklgneaamhjfpaaCv
import Derived.Test.YtklgneaamhjfpaaD3
import Derived.Test.YtklgneaamhjfpaaAp
namespace Go.Proofs.Ytklgneaamhjfpaa
open Go.RowKit
set_option linter.unusedVariables false
set_option linter.unusedSimpArgs false

theorem Cur.onB {w w' : World} {b B K X : Nat} (h : Cur w b B K) (hb : Below X w w') (hX : b < X) : Cur w' b B K := by
  have hBb := h.base
  refine ⟨Nat.lt_of_lt_of_le h.lt hb.size, h.base, ?_⟩
  obtain ⟨a, n, cap, i, s, h0, h1, h2, f1, f2, hi, hs, hB, ho⟩ := h.cells.out
  refine ⟨a, n, cap, i, s, (hb.cell (p := ⟨b, 0, none⟩) hX).trans h0, (hb.cell (p := ⟨b, 1, none⟩) hX).trans h1, (hb.cell (p := ⟨b, 2, none⟩) hX).trans h2, (hb.frozen (p := ⟨b, 1, none⟩) hX).trans f1, (hb.frozen (p := ⟨b, 2, none⟩) hX).trans f2, hi, hs, ⟨hB.ncap, hB.capm, hB.small, fun j hj => ?_⟩, ho⟩
  obtain ⟨g, off, y, e, hl, hc, hy⟩ := hB.cell.out j hj
  have hg := ho (by omega) g off e
  exact ⟨g, off, y, e, Nat.lt_of_lt_of_le hl hb.size, (hb.cell (p := ⟨g, off + j, none⟩) (by show g < X; omega)).trans hc, hy⟩
theorem Bex.thenB {b : Nat} {w0 w w' : World} (h : Bex b w0 w) (hb : Below w0.heap.size w w') : Bex b w0 w' :=
  ⟨hb.os.trans h.os, hb.tape.trans h.tape, hb.output.trans h.output, Nat.le_trans h.size hb.size, fun k hk hne => (hb.block k hk).trans (h.block k hk hne)⟩
theorem Bex.store {b : Nat} {w w' : World} {p : Addr} (h : Bex b w w') (hp : w.heap.size ≤ p.block) (u : Value) : Bex b w (w'.setCell p u) :=
  ⟨h.os, h.tape, h.output, by simpa [World.setCell] using h.size, fun k hk hne => (Below.heap_setCell _ _ _ _ (by omega)).trans (h.block k hk hne)⟩