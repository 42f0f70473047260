/-
  Slices of slices among a law's arguments, behind whatever leaves the old blocks alone.
-/
import Derived.Test.YtjnpjfncnmaomaaR
namespace Go.Proofs.Ytjnpjfncnmaomaa
open Go.RowKit

theorem IntsIn.below {w w' : World} {a : Option Addr} {n c : Nat} {zs : List Int} (h : IntsIn w a n c zs) (hb : Below w.heap.size w w') : IntsIn w' a n c zs := ⟨h.1, fun hn => (h.2 hn).below hb⟩
theorem RowsIn.below {w w' : World} {a : Option Addr} {n c : Nat} {xss : List (List Int)} (h : RowsIn w a n c xss) (hb : Below w.heap.size w w') : RowsIn w' a n c xss := by
  refine ⟨h.1, fun hn => ?_⟩
  obtain ⟨h1, h2, h3, h4, h5⟩ := h.2 hn
  refine ⟨h1, h2, h3, h4, fun i hi => ?_⟩
  obtain ⟨b, off, r, m, k, e, hl, hc, hr⟩ := h5 i hi
  exact ⟨b, off, r, m, k, e, Nat.lt_of_lt_of_le hl hb.size, (hb.cell (p := ⟨b, off + i, none⟩) hl).trans hc, IntsIn.below hr hb⟩
end Go.Proofs.Ytjnpjfncnmaomaa
