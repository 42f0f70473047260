/-
  Contracts of the laws' own helpers on slices of ints: copies, comparisons, marks.
-/
import Derived.Test.YtfichpppjpgahaaA
import Derived.Test.YtfichpppjpgahaaOwn
namespace Go.Proofs.Ytfichpppjpgahaa
open Go.RowKit
set_option linter.unusedVariables false
set_option linter.unusedSimpArgs false

theorem info_int : (Try.prog.info? 3).map (fun i => (i.zero, i.size, i.bytes)) = some (some (.int .i64 0), 1, 8) := by kernel_rfl

theorem made_ivs (n : Nat) : (madeCells #[Value.int .i64 0] n).toList = ivs (List.replicate n 0) := by
  rw [toList_madeCells_one]; simp [ivs]

/-- 'append(out, u)' onto a slice of the call's own: the walk's law, at ints. -/
theorem wp_app {ops : Array Oper} {rest : List Oper} {o : Oper} {a : Act} {Q : Exit → Act → World → Prop} (w : World) (B n : Nat) (v : Value) (xs : List Int) (u : Int) (t : TypeId) (m : Nat)
    (hg : o.guard = none) (s x : Operand) (ho : o.op = .call { callee := .builtin .append, args := #[s, x], argTypes := #[24, 24] })
    (hs : a.eval s = v) (hx : a.eval x = .slice (some ⟨m, 0, none⟩) 1 1) (hm : m = w.heap.size)
    (hown : w.ownsRow B 3 1 v n (ivs xs)) (hB : B ≤ w.heap.size) (hn : n ≤ 1000000000000)
    (h : ∀ v' w', w'.ownsRow B 3 1 v' (n + 1) (ivs (xs ++ [u])) → Below B w w' → (w.alloc (.cells #[.int .i64 u] t)).grownBy w' v.ownBlock → wpList Try.prog ops Q rest (a.put o.dst v') w') :
    wpList Try.prog ops Q (o :: rest) a (w.alloc (.cells #[.int .i64 u] t)) := by
  obtain ⟨i0, hi, hz0, hz1, hz2⟩ := info_parts info_int
  subst hm
  refine wpList_append_own _ hg s x 24 ho B 3 i0 (.int .i64 0) 1 8 Try.underlying24 hi hz0 hz1 hz2 rfl (by decide) v n (ivs xs) hs (hown.alloc _) ⟨w.heap.size, 0, none⟩ 1 1 [.int .i64 u] hx rfl ?_ ?_ (by unfold maxLen; omega) (by omega) (by simp; omega) ?_
  · intro j c hj
    match j, hj with
    | 0, hj =>
      simp at hj; subst hj
      simp [Addr.add, World.cell?_alloc_at]
  · intro c hc; simp at hc; subst hc; rfl
  · intro v' w' h1 h2 _
    rw [← ivs_snoc] at h1
    exact h v' w' h1 (((Below.refl B w).alloc hB _).trans (below_grown_own (hown.alloc _) h2 (by simp; omega))) h2
