/-
  The Draw functions that the law on extended transfers asks.
-/
import Derived.Test.YtfejpmfcognikaaGreatY3
import Derived.Test.YtfejpmfcognikaaGreatDu
namespace Go.Proofs.YtfejpmfcognikaaGreat
open Go.RowKit
set_option linter.unusedVariables false
set_option linter.unusedSimpArgs false
set_option maxRecDepth 10000

theorem Duo.bexY {b B n1 n2 : Nat} {w w' : World} {v1 v2 : Value} {xs1 xs2 : List Int} (h : Duo w B v1 n1 xs1 v2 n2 xs2) (k : Bex b w w') (hb : b < B) : Duo w' B v1 n1 xs1 v2 n2 xs2 :=
  ⟨ownsRow_bex h.own1 k hb, ownsRow_bex h.own2 k hb, h.dj, Nat.le_trans h.base k.size⟩
theorem fits_snocY {xs : List Int} {x : Int} (h : ∀ y ∈ xs, Fits y) (hx : Fits x) : ∀ y ∈ xs ++ [x], Fits y := by
  intro y hy
  rw [List.mem_append] at hy
  rcases hy with hy | hy
  · exact h y hy
  · simp at hy; rw [hy]; exact hx