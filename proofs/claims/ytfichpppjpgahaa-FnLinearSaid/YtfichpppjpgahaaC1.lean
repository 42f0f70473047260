/-
  Contracts of the laws' own helpers on slices of gates and of what is opened: sizes, copies, comparisons, marks.
-/
import Derived.Test.YtfichpppjpgahaaRec
import Derived.Deep.RegionHeld3
namespace Go.Proofs.Ytfichpppjpgahaa
open Go.RowKit
set_option linter.unusedVariables false
set_option linter.unusedSimpArgs false

/-- What the size's count says. -/
def SzK (K : Nat) (w : World) (a : Option Addr) (n cap : Nat) (zs : List Int) (left l' : Int) : Prop := l' = -1 ∨ (0 ≤ l' ∧ l' ≤ left ∧ Recs K w a n cap zs ∧ (n : Int) ≤ left ∧ n ≤ 1048576)
/-- Three cells of a slice of structs. -/
theorem nth_set3 {zs ys : List Int} {n k : Nat} (hl : ys.length = n * 3) (hk : k < n) (H : ∀ j, j < k * 3 → nth ys j = nth zs j) {a b c : Int} (ha : a = fld 3 zs k 0) (hb : b = fld 3 zs k 1) (hc : c = fld 3 zs k 2) :
    ∀ j, j < (k + 1) * 3 → nth (((ys.set (k * 3) a).set (k * 3 + 1) b).set (k * 3 + 2) c) j = nth zs j := by
  intro j hj
  rw [nth_set (by rw [List.length_set, List.length_set, hl]; omega), nth_set (by rw [List.length_set, hl]; omega), nth_set (by rw [hl]; omega)]
  by_cases e0 : j = k * 3 + 2
  · subst e0; rw [if_pos rfl]; exact hc
  · rw [if_neg e0]
    by_cases e1 : j = k * 3 + 1
    · subst e1; rw [if_pos rfl]; exact hb
    · rw [if_neg e1]
      by_cases e2 : j = k * 3
      · subst e2; rw [if_pos rfl]; exact ha
      · rw [if_neg e2]; exact H j (by omega)
theorem fld_marks {k0 : Int} {n k j : Nat} (hk : k < n) (hj : j < 3) : fld 3 (marks k0 (n * 3)) k j = k0 + (k * 3 + j : Nat) := by
  unfold fld; exact nth_marks (by omega)
theorem MineK.set3 {w : World} {B b off n cap : Nat} {ys : List Int} (h : MineK 3 w B (some ⟨b, off, none⟩) n cap ys) {k : Nat} (hk : k < n) {x y z : Int} (hx : Fits x) (hy : Fits y) (hz : Fits z) :
    MineK 3 (((w.setCell ⟨b, off + k * 3, none⟩ (.int .i64 x)).setCell ⟨b, off + k * 3 + 1, none⟩ (.int .i64 y)).setCell ⟨b, off + k * 3 + 2, none⟩ (.int .i64 z)) B (some ⟨b, off, none⟩) n cap (((ys.set (k * 3) x).set (k * 3 + 1) y).set (k * 3 + 2) z) := by
  have g1 := h.set (q := k * 3) (by omega) x hx
  have g2 := g1.set (q := k * 3 + 1) (by omega) y hy
  have g3 := g2.set (q := k * 3 + 2) (by omega) z hz
  exact g3
