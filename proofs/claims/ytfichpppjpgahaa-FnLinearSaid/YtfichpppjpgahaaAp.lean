/-
  Two slices that lie apart from each other.
-/
import Derived.Test.YtfichpppjpgahaaOwn
namespace Go.Proofs.Ytfichpppjpgahaa
open Go.RowKit
set_option linter.unusedVariables false
set_option linter.unusedSimpArgs false

/-- Two slices (of n and of m elements) lie in different blocks. -/
def Apart (a : Option Addr) (n : Nat) (b : Option Addr) (m : Nat) : Prop := 0 < n → 0 < m → ∀ g o g' o', a = some ⟨g, o, none⟩ → b = some ⟨g', o', none⟩ → g ≠ g'
theorem Apart.symm {a b : Option Addr} {n m : Nat} (h : Apart a n b m) : Apart b m a n := fun hm hn g o g' o' e e' k => h hn hm g' o' g o e' e k.symm
theorem Apart.of {a b : Option Addr} {n m lo hi lo' hi' : Nat} (p : PlaceM a n lo hi) (q : PlaceM b m lo' hi') (hd : hi ≤ lo' ∨ hi' ≤ lo) : Apart a n b m := by
  intro hn hm g o g' o' e e'
  have h1 := p hn g o e
  have h2 := q hm g' o' e'
  omega
theorem Apart.zero {a b : Option Addr} {m : Nat} : Apart a 0 b m := fun h => by omega
theorem Mine.onlyA {w w' : World} {B : Nat} {a t : Option Addr} {n m cap : Nat} {xs : List Int} (h : Mine w B t n cap xs) (ho : OnlyM a m w w') (hd : Apart t n a m) : Mine w' B t n cap xs :=
  ⟨⟨h.ints.len, h.ints.ncap, h.ints.small, h.ints.capm, fun i hi => by
      obtain ⟨b, off, e, hl, hc⟩ := h.ints.cell.out i hi
      exact ⟨b, off, e, Nat.lt_of_lt_of_le hl ho.size, (World.cell?_of_block (ho.block b (fun hm g o e' => hd (by omega) hm b off g o e e'))).trans hc⟩, h.ints.wf, h.ints.nilc⟩,
   fun hn b off e => ⟨(h.place.out hn b off e).1, Nat.lt_of_lt_of_le (h.place.out hn b off e).2 ho.size⟩,
   fun i hi b off e => (World.frozen?_of_block (ho.block b (fun hm g o e' => hd (by omega) hm b off g o e e'))).trans (h.free.out i hi b off e)⟩
/-- Two slices handed back, in memory of the call's own, apart from each other, and a bool. -/
def TwoA (A B : List Int) (ok : Bool) (w : World) (e : Ending) (w' : World) : Prop :=
  ∃ r1 c1 r2 c2, e = .returned (.tuple #[.slice r1 A.length c1, .slice r2 B.length c2, .bool ok]) ∧ Mine w' w.heap.size r1 A.length c1 A ∧ Mine w' w.heap.size r2 B.length c2 B ∧ Apart r1 A.length r2 B.length ∧ Below w.heap.size w w'
end Go.Proofs.Ytfichpppjpgahaa
