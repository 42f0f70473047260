/-
  A slice of slices of ints that grows by append.
-/
import Derived.Test.YtmkcanbaleecfaaR
namespace Go.Proofs.Ytmkcanbaleecfaa
open Go.RowKit
set_option linter.unusedVariables false
set_option linter.unusedSimpArgs false

/-- A growing slice of rows: every row in a block of its own, not the outer slice's. -/
def OwnR (E : TypeId) (w : World) (B : Nat) (v : Value) (k : Nat) (xss : List (List Int)) : Prop :=
  ∃ hs : List Value, w.ownsRow B E 1 v k hs ∧ xss.length = k ∧
    (∀ i, i < k → ∃ r m c, hs[i]? = some (.slice r m c) ∧ Mine w B r m c (rowN xss i) ∧ (0 < m → ∀ g o, r = some ⟨g, o, none⟩ → some g ≠ v.ownBlock)) ∧
    (∀ i j, i < k → j < k → i ≠ j → ∀ r m c r' m' c', hs[i]? = some (.slice r m c) → hs[j]? = some (.slice r' m' c') → Apart r m r' m')
theorem OwnR.nil {E : TypeId} {w : World} {B : Nat} : OwnR E w B (.slice none 0 0) 0 [] :=
  ⟨[], World.ownsRow_nil _ _ _ _, rfl, fun i hi => by omega, fun i j hi => by omega⟩
theorem OwnR.lit {E : TypeId} {w : World} {B m : Nat} (hB : B ≤ w.heap.size) (hm : m = w.heap.size) : OwnR E (w.alloc (.cells #[] E)) B (.slice (some ⟨m, 0, none⟩) 0 0) 0 [] := by
  subst hm
  exact ⟨[], World.ownsRow_lit w #[] 0 hB (by decide) rfl, rfl, fun i hi => by omega, fun i j hi => by omega⟩
theorem OwnR.below {E : TypeId} {w w' : World} {B k : Nat} {v : Value} {xss : List (List Int)} (h : OwnR E w B v k xss) (hb : Below w.heap.size w w') : OwnR E w' B v k xss := by
  obtain ⟨hs, h1, h2, h3, h4⟩ := h
  refine ⟨hs, ownsRow_below h1 hb, h2, fun i hi => ?_, h4⟩
  obtain ⟨r, m, c, e, hm, hn⟩ := h3 i hi
  exact ⟨r, m, c, e, hm.below hb, hn⟩
theorem Mine.grown {w w' : World} {B : Nat} {r : Option Addr} {m c : Nat} {xs : List Int} {row : Option Nat} (h : Mine w B r m c xs) (hg : w.grownBy w' row) (hn : 0 < m → ∀ g o, r = some ⟨g, o, none⟩ → some g ≠ row) : Mine w' B r m c xs := by
  have pl := h.place.out
  refine ⟨⟨h.ints.len, h.ints.ncap, h.ints.small, h.ints.capm, fun i hi => ?_, h.ints.wf, h.ints.nilc⟩, fun hm b off e => ⟨(pl hm b off e).1, Nat.lt_of_lt_of_le (pl hm b off e).2 hg.size⟩, fun i hi b off e => ?_⟩
  · obtain ⟨b, off, e, hl, hc⟩ := h.ints.at hi
    exact ⟨b, off, e, Nat.lt_of_lt_of_le hl hg.size, (World.cell?_of_block (hg.block b hl (hn (by omega) b off e))).trans hc⟩
  · have hl := (pl (by omega) b off e).2
    exact (World.frozen?_of_block (hg.block b hl (hn (by omega) b off e))).trans (h.free.out i hi b off e)
theorem ownBlock_lt {E : TypeId} {w : World} {B s n : Nat} {v : Value} {xs : List Value} (h : w.ownsRow B E s v n xs) : ∀ g, v.ownBlock = some g → B ≤ g ∧ g < w.heap.size := by
  intro g hg
  obtain ⟨_, h2⟩ := h
  rcases h2 with ⟨hv, _⟩ | ⟨g', cap', cur, hv, hB, hh, _⟩
  · rw [hv] at hg; simp [Value.ownBlock] at hg
  · rw [hv] at hg
    simp only [Value.ownBlock, Option.some.injEq] at hg
    subst hg
    refine ⟨hB, ?_⟩
    rcases Nat.lt_or_ge g' w.heap.size with k | k
    · exact k
    · rw [Array.getElem?_eq_none k] at hh; cases hh
/-- The slice as a whole, when it has grown. -/
theorem OwnR.mine {E : TypeId} {w : World} {B k : Nat} {v : Value} {xss : List (List Int)} (h : OwnR E w B v k xss) (hs : k ≤ 17592186044416) (hB : B ≤ w.heap.size) : ∃ a c, v = .slice a k c ∧ MineR w B w.heap.size a k c xss := by
  obtain ⟨hs', h1, h2, h3, h4⟩ := h
  have h1' := h1
  obtain ⟨hl, h5⟩ := h1
  rcases h5 with ⟨rfl, rfl⟩ | ⟨g, cap, cur, rfl, hg, hh, hn, hm, hc, ht⟩
  · have : xss = [] := List.length_eq_zero_iff.1 h2
    subst this
    exact ⟨none, 0, rfl, MineR.nil' (Nat.le_refl _)⟩
  · have hlt : g < w.heap.size := (ownBlock_lt h1' g rfl).2
    have cell : ∀ i r m c, i < k → hs'[i]? = some (.slice r m c) → w.cell? ⟨g, 0 + i, none⟩ = some (.slice r m c) := by
      intro i r m c hi e
      rw [Nat.zero_add]
      have := World.ownsRow.cellAt h1' i (by omega)
      rw [this]
      simp only [List.getD_eq_getElem?_getD, e, Option.getD_some]
    refine ⟨some ⟨g, 0, none⟩, cap, rfl, ⟨h2, hn, hs, by unfold maxLen at hm; omega, (fun e => by cases e), Nat.le_refl _, fun i hi => ?_, fun i j hi hj hne b off r m c r' m' c' e q1 q2 => ?_⟩⟩
    · obtain ⟨r, m, c, e, hm', hn'⟩ := h3 i hi
      refine ⟨g, 0, r, m, c, rfl, hg, hlt, cell i r m c hi e, by rw [Nat.zero_add]; exact World.ownsRow.frozenAt h1' i, hm', hm'.pl, fun h0 o e' => hn' h0 g o e' rfl⟩
    · simp only [Option.some.injEq, Addr.mk.injEq] at e
      obtain ⟨rfl, rfl, _⟩ := e
      obtain ⟨r1, m1, c1, e1, _, _⟩ := h3 i hi
      obtain ⟨r2, m2, c2, e2, _, _⟩ := h3 j hj
      rw [cell i r1 m1 c1 hi e1] at q1
      rw [cell j r2 m2 c2 hj e2] at q2
      simp only [Option.some.injEq, Value.slice.injEq] at q1 q2
      obtain ⟨rfl, rfl, rfl⟩ := q1
      obtain ⟨rfl, rfl, rfl⟩ := q2
      exact h4 i j hi hj hne _ _ _ _ _ _ e1 e2