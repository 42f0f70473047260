/-
  Two slices of rows that both grow: the append, and what they are in the end.
-/
import Derived.Test.YtfichpppjpgahaaRG
import Derived.Test.YtfichpppjpgahaaRA
namespace Go.Proofs.Ytfichpppjpgahaa
open Go.RowKit
set_option linter.unusedVariables false
set_option linter.unusedSimpArgs false

theorem RG.val {w : World} {B k : Nat} {v v2 : Value} {xss : List (List Int)} (h : RG w B v k xss v2) : ∃ a c, v = .slice a k c := by
  obtain ⟨hs, h1, _⟩ := h
  obtain ⟨hl, h5⟩ := h1
  rcases h5 with ⟨rfl, rfl⟩ | ⟨g, cap, cur, rfl, _⟩
  · exact ⟨_, _, rfl⟩
  · exact ⟨_, _, rfl⟩
theorem RG.rws {w : World} {B k : Nat} {v v2 : Value} {xss : List (List Int)} (h : RG w B v k xss v2) (hs : k ≤ 17592186044416) : ∃ a c, v = .slice a k c ∧ Rws w a k c xss := by
  obtain ⟨hs', h1, h2, h3⟩ := h
  have h1' := h1
  obtain ⟨hl, h5⟩ := h1
  rcases h5 with ⟨rfl, rfl⟩ | ⟨g, cap, cur, rfl, hg, hh, hn, hm, hc, ht⟩
  · have : xss = [] := List.length_eq_zero_iff.1 h2
    subst this
    exact ⟨none, 0, rfl, Rws.nil⟩
  · have hlt : g < w.heap.size := (ownBlock_lt h1' g rfl).2
    refine ⟨some ⟨g, 0, none⟩, cap, rfl, h2, hn, hs, by unfold maxLen at hm; omega, fun i hi => ?_, fun e => by cases e⟩
    obtain ⟨r, m, c, e, hmi, _⟩ := h3 i hi
    refine ⟨g, 0, r, m, c, rfl, hlt, ?_, hmi⟩
    rw [Nat.zero_add]
    have := World.ownsRow.cellAt h1' i (by omega)
    rw [this]
    simp only [List.getD_eq_getElem?_getD, e, Option.getD_some]
/-- 'append(out, row)' to the first of the two. -/
theorem wp_rduo {ops : Array Oper} {rest : List Oper} {o : Oper} {a : Act} {Q : Exit → Act → World → Prop} (w : World) (B n1 : Nat) (v1 : Value) (xs : List (List Int)) (v2 : Value) (n2 : Nat) (ys : List (List Int)) (r : Option Addr) (m c : Nat) (x : List Int) (t : TypeId) (q : Nat)
    (hg : o.guard = none) (s z : Operand) (ho : o.op = .call { callee := .builtin .append, args := #[s, z], argTypes := #[35, 35] })
    (hs : a.eval s = v1) (hx : a.eval z = .slice (some ⟨q, 0, none⟩) 1 1) (hq : q = w.heap.size)
    (hD : RDuo w B v1 n1 xs v2 n2 ys) (hm : Ints w r m c x) (hr : 0 < m → ∀ g o, r = some ⟨g, o, none⟩ → B ≤ g ∧ some g ≠ v1.ownBlock ∧ some g ≠ v2.ownBlock) (hB0 : 0 < B) (hn : n1 ≤ 1000000000000)
    (h : ∀ v' w', RDuo w' B v' (n1 + 1) (xs ++ [x]) v2 n2 ys → Below B w w' → wpList Try.prog ops Q rest (a.put o.dst v') w') :
    wpList Try.prog ops Q (o :: rest) a (w.alloc (.cells #[.slice r m c] t)) := by
  obtain ⟨i0, hi, hz0, hz1, hz2⟩ := info_parts info_row
  subst hq
  have hDa : RDuo (w.alloc (.cells #[.slice r m c] t)) B v1 n1 xs v2 n2 ys := hD.bex (Bex.of (b := 0) (bel_alloc _ _)) hB0
  have hma := hm.below (bel_alloc w (.cells #[.slice r m c] t))
  obtain ⟨hs', h1, h2, h3⟩ := hDa.one
  have hlen : hs'.length = n1 := by have := h1.1; omega
  have hBb := hD.base
  refine wpList_append_own_at _ hg s z 35 ho B 24 i0 (.slice none 0 0) 1 24 Try.underlying35 hi hz0 hz1 hz2 rfl (by decide) v1 n1 hs' hs h1 ⟨w.heap.size, 0, none⟩ 1 1 [.slice r m c] hx rfl ?_ ?_ (by unfold maxLen; omega) (by omega) (by simp; omega) ?_
  · intro j u hj
    match j, hj with
    | 0, hj =>
      simp at hj; subst hj
      simp [Addr.add, World.cell?_alloc_at]
  · intro u hu; simp at hu; subst hu; rfl
  · intro v' w' k1 k2 _ k3
    exact h v' w' (hDa.grow h2 hlen h3 hma hr k1 k2 k3) (((Below.refl B w).alloc (by omega) _).trans (below_grown_own h1 k2 (by simp; omega)))
/-- The same for the second of the two. -/
theorem wp_rduo2 {ops : Array Oper} {rest : List Oper} {o : Oper} {a : Act} {Q : Exit → Act → World → Prop} (w : World) (B n1 : Nat) (v1 : Value) (xs : List (List Int)) (v2 : Value) (n2 : Nat) (ys : List (List Int)) (r : Option Addr) (m c : Nat) (x : List Int) (t : TypeId) (q : Nat)
    (hg : o.guard = none) (s z : Operand) (ho : o.op = .call { callee := .builtin .append, args := #[s, z], argTypes := #[35, 35] })
    (hs : a.eval s = v2) (hx : a.eval z = .slice (some ⟨q, 0, none⟩) 1 1) (hq : q = w.heap.size)
    (hD : RDuo w B v1 n1 xs v2 n2 ys) (hm : Ints w r m c x) (hr : 0 < m → ∀ g o, r = some ⟨g, o, none⟩ → B ≤ g ∧ some g ≠ v1.ownBlock ∧ some g ≠ v2.ownBlock) (hB0 : 0 < B) (hn : n2 ≤ 1000000000000)
    (h : ∀ v' w', RDuo w' B v1 n1 xs v' (n2 + 1) (ys ++ [x]) → Below B w w' → wpList Try.prog ops Q rest (a.put o.dst v') w') :
    wpList Try.prog ops Q (o :: rest) a (w.alloc (.cells #[.slice r m c] t)) :=
  wp_rduo w B n2 v2 ys v1 n1 xs r m c x t q hg s z ho hs hx hq hD.swap hm (fun h0 g o e => ⟨(hr h0 g o e).1, (hr h0 g o e).2.2, (hr h0 g o e).2.1⟩) hB0 hn (fun v' w' k b => h v' w' k.swap b)
end Go.Proofs.Ytfichpppjpgahaa
