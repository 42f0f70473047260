/-
  A slice of slices of ints that grows by append.
-/
import Derived.Test.YtfichpppjpgahaaR
namespace Go.Proofs.Ytfichpppjpgahaa
open Go.RowKit
set_option linter.unusedVariables false
set_option linter.unusedSimpArgs false

/-- A growing slice of rows: every row in a block of its own, not the outer slice's. -/
def OwnR (E : TypeId) (w : World) (B : Nat) (v : Value) (k : Nat) (xss : List (List Int)) : Prop :=
  ∃ hs : List Value, w.ownsRow B E 1 v k hs ∧ xss.length = k ∧
    (∀ i, i < k → ∃ r m c, hs[i]? = some (.slice r m c) ∧ Mine w B r m c (rowN xss i) ∧ (0 < m → ∀ g o, r = some ⟨g, o, none⟩ → some g ≠ v.ownBlock)) ∧
    (∀ i j, i < k → j < k → i ≠ j → ∀ r m c r' m' c', hs[i]? = some (.slice r m c) → hs[j]? = some (.slice r' m' c') → Apart r m r' m')
theorem OwnR.nil {E : TypeId} {w : World} {B : Nat} : OwnR E w B (.slice none 0 0) 0 [] :=
  ⟨[], World.ownsRow_nil _ _ _ _, rfl, fun i hi => by omega, fun i j hi => by omega⟩
theorem OwnR.lit {E : TypeId} {w : World} {B m : Nat} (hB : B ≤ w.heap.size) (hm : m = w.heap.size) : OwnR E (w.alloc (.cells #[] E)) B (.slice (some ⟨m, 0, none⟩) 0 0) 0 [] := by
  subst hm
  exact ⟨[], World.ownsRow_lit w #[] 0 hB (by decide) rfl, rfl, fun i hi => by omega, fun i j hi => by omega⟩
theorem OwnR.below {E : TypeId} {w w' : World} {B k : Nat} {v : Value} {xss : List (List Int)} (h : OwnR E w B v k xss) (hb : Below w.heap.size w w') : OwnR E w' B v k xss := by
  obtain ⟨hs, h1, h2, h3, h4⟩ := h
  refine ⟨hs, ownsRow_below h1 hb, h2, fun i hi => ?_, h4⟩
  obtain ⟨r, m, c, e, hm, hn⟩ := h3 i hi
  exact ⟨r, m, c, e, hm.below hb, hn⟩
theorem Mine.grown {w w' : World} {B : Nat} {r : Option Addr} {m c : Nat} {xs : List Int} {row : Option Nat} (h : Mine w B r m c xs) (hg : w.grownBy w' row) (hn : 0 < m → ∀ g o, r = some ⟨g, o, none⟩ → some g ≠ row) : Mine w' B r m c xs := by
  have pl := h.place.out
  refine ⟨⟨h.ints.len, h.ints.ncap, h.ints.small, h.ints.capm, fun i hi => ?_, h.ints.wf, h.ints.nilc⟩, fun hm b off e => ⟨(pl hm b off e).1, Nat.lt_of_lt_of_le (pl hm b off e).2 hg.size⟩, fun i hi b off e => ?_⟩
  · obtain ⟨b, off, e, hl, hc⟩ := h.ints.at hi
    exact ⟨b, off, e, Nat.lt_of_lt_of_le hl hg.size, (World.cell?_of_block (hg.block b hl (hn (by omega) b off e))).trans hc⟩
  · have hl := (pl (by omega) b off e).2
    exact (World.frozen?_of_block (hg.block b hl (hn (by omega) b off e))).trans (h.free.out i hi b off e)
theorem ownBlock_lt {E : TypeId} {w : World} {B s n : Nat} {v : Value} {xs : List Value} (h : w.ownsRow B E s v n xs) : ∀ g, v.ownBlock = some g → B ≤ g ∧ g < w.heap.size := by
  intro g hg
  obtain ⟨_, h2⟩ := h
  rcases h2 with ⟨hv, _⟩ | ⟨g', cap', cur, hv, hB, hh, _⟩
  · rw [hv] at hg; simp [Value.ownBlock] at hg
  · rw [hv] at hg
    simp only [Value.ownBlock, Option.some.injEq] at hg
    subst hg
    refine ⟨hB, ?_⟩
    rcases Nat.lt_or_ge g' w.heap.size with k | k
    · exact k
    · rw [Array.getElem?_eq_none k] at hh; cases hh
/-- The slice as a whole, when it has grown. -/
theorem OwnR.mine {E : TypeId} {w : World} {B k : Nat} {v : Value} {xss : List (List Int)} (h : OwnR E w B v k xss) (hs : k ≤ 17592186044416) (hB : B ≤ w.heap.size) : ∃ a c, v = .slice a k c ∧ MineR w B w.heap.size a k c xss := by
  obtain ⟨hs', h1, h2, h3, h4⟩ := h
  have h1' := h1
  obtain ⟨hl, h5⟩ := h1
  rcases h5 with ⟨rfl, rfl⟩ | ⟨g, cap, cur, rfl, hg, hh, hn, hm, hc, ht⟩
  · have : xss = [] := List.length_eq_zero_iff.1 h2
    subst this
    exact ⟨none, 0, rfl, MineR.nil' (Nat.le_refl _)⟩
  · have hlt : g < w.heap.size := (ownBlock_lt h1' g rfl).2
    have cell : ∀ i r m c, i < k → hs'[i]? = some (.slice r m c) → w.cell? ⟨g, 0 + i, none⟩ = some (.slice r m c) := by
      intro i r m c hi e
      rw [Nat.zero_add]
      have := World.ownsRow.cellAt h1' i (by omega)
      rw [this]
      simp only [List.getD_eq_getElem?_getD, e, Option.getD_some]
    refine ⟨some ⟨g, 0, none⟩, cap, rfl, ⟨h2, hn, hs, by unfold maxLen at hm; omega, (fun e => by cases e), Nat.le_refl _, fun i hi => ?_, fun i j hi hj hne b off r m c r' m' c' e q1 q2 => ?_⟩⟩
    · obtain ⟨r, m, c, e, hm', hn'⟩ := h3 i hi
      refine ⟨g, 0, r, m, c, rfl, hg, hlt, cell i r m c hi e, by rw [Nat.zero_add]; exact World.ownsRow.frozenAt h1' i, hm', hm'.pl, fun h0 o e' => hn' h0 g o e' rfl⟩
    · simp only [Option.some.injEq, Addr.mk.injEq] at e
      obtain ⟨rfl, rfl, _⟩ := e
      obtain ⟨r1, m1, c1, e1, _, _⟩ := h3 i hi
      obtain ⟨r2, m2, c2, e2, _, _⟩ := h3 j hj
      rw [cell i r1 m1 c1 hi e1] at q1
      rw [cell j r2 m2 c2 hj e2] at q2
      simp only [Option.some.injEq, Value.slice.injEq] at q1 q2
      obtain ⟨rfl, rfl, rfl⟩ := q1
      obtain ⟨rfl, rfl, rfl⟩ := q2
      exact h4 i j hi hj hne _ _ _ _ _ _ e1 e2
theorem info_row : (Try.prog.info? 24).map (fun i => (i.zero, i.size, i.bytes)) = some (some (.slice none 0 0), 1, 24) := by kernel_rfl
/-- 'append(out, row)': the row came about behind the world w0. -/
theorem wp_appR {ops : Array Oper} {rest : List Oper} {o : Oper} {a : Act} {Q : Exit → Act → World → Prop} (w0 w : World) (B k : Nat) (v : Value) (xss : List (List Int)) (r : Option Addr) (m c : Nat) (xs : List Int) (t : TypeId) (q : Nat)
    (hg : o.guard = none) (s x : Operand) (ho : o.op = .call { callee := .builtin .append, args := #[s, x], argTypes := #[35, 35] })
    (hs : a.eval s = v) (hx : a.eval x = .slice (some ⟨q, 0, none⟩) 1 1) (hq : q = w.heap.size)
    (hown : OwnR 24 w0 B v k xss) (hb : Below w0.heap.size w0 w) (hm : Mine w w0.heap.size r m c xs) (hB : B ≤ w0.heap.size) (hn : k ≤ 1000000000000)
    (h : ∀ v' w', OwnR 24 w' B v' (k + 1) (xss ++ [xs]) → Below B w w' → wpList Try.prog ops Q rest (a.put o.dst v') w') :
    wpList Try.prog ops Q (o :: rest) a (w.alloc (.cells #[.slice r m c] t)) := by
  obtain ⟨i0, hi, hz0, hz1, hz2⟩ := info_parts info_row
  subst hq
  obtain ⟨hs', h1, h2, h3, h4⟩ := hown
  have hsz := hb.size
  have hlen : hs'.length = k := by have := h1.1; omega
  refine wpList_append_own_at _ hg s x 35 ho B 24 i0 (.slice none 0 0) 1 24 Try.underlying35 hi hz0 hz1 hz2 rfl (by decide) v k hs' hs ((ownsRow_below h1 hb).alloc _) ⟨w.heap.size, 0, none⟩ 1 1 [.slice r m c] hx rfl ?_ ?_ (by unfold maxLen; omega) (by omega) (by simp; omega) ?_
  · intro j u hj
    match j, hj with
    | 0, hj =>
      simp at hj; subst hj
      simp [Addr.add, World.cell?_alloc_at]
  · intro u hu; simp at hu; subst hu; rfl
  · intro v' w' k1 k2 _ k3
    have kb : Below B w w' := ((Below.refl B w).alloc (by omega) _).trans (below_grown_own ((ownsRow_below h1 hb).alloc _) k2 (by simp; omega))
    have hbl : ∀ g, v'.ownBlock = some g → v.ownBlock = some g ∨ g = w.heap.size + 1 := by
      intro g e
      rcases k3 with k3 | k3
      · exact .inl (by rw [← k3]; exact e)
      · right; rw [e] at k3; simpa using k3
    refine h v' w' ⟨hs' ++ [.slice r m c], k1, by simp [h2], fun i hi' => ?_, fun i j hi' hj' hne r1 m1 c1 r2 m2 c2 e1 e2 => ?_⟩ kb
    · rw [rowN_snoc]
      by_cases ei : i = k
      · subst ei
        rw [if_pos h2.symm]
        refine ⟨r, m, c, by simp [hlen], ?_, fun h0 g o e q => ?_⟩
        · refine Mine.base ?_ hB
          refine (hm.below (bel_alloc _ _)).grown k2 (fun h0 g o e q => ?_)
          have := (ownBlock_lt h1 g q.symm).2
          have := (hm.pl h0 g o e).1
          omega
        · have p := hm.pl h0 g o e
          rcases hbl g q.symm with q | q
          · have := (ownBlock_lt h1 g q).2; omega
          · omega
      · obtain ⟨r1, m1, c1, e1, hm1, hn1⟩ := h3 i (by omega)
        rw [if_neg (by omega)]
        refine ⟨r1, m1, c1, by rw [List.getElem?_append_left (by omega)]; exact e1, ?_, fun h0 g o e q => ?_⟩
        · exact ((hm1.below hb).below (bel_alloc _ _)).grown k2 hn1
        · rcases hbl g q.symm with q | q
          · exact hn1 h0 g o e q.symm
          · have := (hm1.pl h0 g o e).2; omega
    · have old : ∀ q u, q < k → (hs' ++ [.slice r m c])[q]? = some u → hs'[q]? = some u := fun q u hq e => by rw [List.getElem?_append_left (by omega)] at e; exact e
      have new : ∀ u, (hs' ++ [Value.slice r m c])[k]? = some u → u = .slice r m c := fun u e => by
        rw [List.getElem?_append_right (by omega), hlen, Nat.sub_self] at e
        simpa using e.symm
      have plo : ∀ q r1 m1 c1, q < k → hs'[q]? = some (.slice r1 m1 c1) → PlaceM r1 m1 0 w0.heap.size := by
        intro q r1 m1 c1 hq e
        obtain ⟨r3, m3, c3, e3, hm3, _⟩ := h3 q hq
        rw [e] at e3
        simp only [Option.some.injEq, Value.slice.injEq] at e3
        obtain ⟨rfl, rfl, rfl⟩ := e3
        exact fun h0 b o e' => ⟨Nat.zero_le _, (hm3.pl h0 b o e').2⟩
      by_cases ei : i = k
      · subst ei
        have n1 := new _ e1
        simp only [Value.slice.injEq] at n1
        obtain ⟨rfl, rfl, rfl⟩ := n1
        have hjk : j < i := by omega
        exact Apart.of hm.pl (plo j _ _ _ hjk (old j _ hjk e2)) (Or.inr (Nat.le_refl _))
      · have hik : i < k := by omega
        by_cases ej : j = k
        · subst ej
          have n2 := new _ e2
          simp only [Value.slice.injEq] at n2
          obtain ⟨rfl, rfl, rfl⟩ := n2
          exact Apart.of (plo i _ _ _ hik (old i _ hik e1)) hm.pl (Or.inl (Nat.le_refl _))
        · exact h4 i j hik (by omega) hne _ _ _ _ _ _ (old i _ hik e1) (old j _ (by omega) e2)
end Go.Proofs.Ytfichpppjpgahaa
