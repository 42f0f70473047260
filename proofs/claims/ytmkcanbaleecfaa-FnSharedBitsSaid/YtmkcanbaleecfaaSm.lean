/-
  The maker of circuits.
-/
import Derived.Test.YtmkcanbaleecfaaSi
namespace Go.Proofs.Ytmkcanbaleecfaa
open Go.RowKit
set_option linter.unusedVariables false
set_option linter.unusedSimpArgs false
set_option maxRecDepth 10000

/-- append of one gate to a row of the call's own. -/
theorem wp_appG {ops : Array Oper} {rest : List Oper} {o : Oper} {a : Act} {Q : Exit → Act → World → Prop} (w : World) (B n : Nat) (v : Value) (zs : List Int) (p q r : Int) (t : TypeId) (m : Nat)
    (hg : o.guard = none) (s x : Operand) (ho : o.op = .call { callee := .builtin .append, args := #[s, x], argTypes := #[29, 29] })
    (hs : a.eval s = v) (hx : a.eval x = .slice (some ⟨m, 0, none⟩) 1 1) (hm : m = w.heap.size) (hown : w.ownsRow B 83 3 v n (ivs zs)) (hB : B ≤ w.heap.size) (hn : n ≤ 100000000)
    (h : ∀ v' w', w'.ownsRow B 83 3 v' (n + 1) (ivs (zs ++ [p, q, r])) → Below B w w' → (w.alloc (.cells #[.int .i64 p, .int .i64 q, .int .i64 r] t)).grownBy w' v.ownBlock → wpList Try.prog ops Q rest (a.put o.dst v') w') :
    wpList Try.prog ops Q (o :: rest) a (w.alloc (.cells #[.int .i64 p, .int .i64 q, .int .i64 r] t)) := by
  obtain ⟨i0, hi, hz0, hz1, hz2⟩ := info_parts info_Gt
  subst hm
  refine wpList_append_own _ hg s x 29 ho B 83 i0 (.agg #[.int .i64 0, .int .i64 0, .int .i64 0]) 3 24 Try.underlying29 hi hz0 hz1 hz2 rfl (by decide) v n (ivs zs) hs (hown.alloc _) ⟨w.heap.size, 0, none⟩ 1 1 [.int .i64 p, .int .i64 q, .int .i64 r] hx rfl ?_ ?_ (by unfold maxLen; omega) (by omega) (by simp; omega) ?_
  · intro j c hj
    match j, hj with
    | 0, hj => simp at hj; subst hj; simp [Addr.add, World.cell?_alloc_at]
    | 1, hj => simp at hj; subst hj; simp [Addr.add, World.cell?_alloc_at]
    | 2, hj => simp at hj; subst hj; simp [Addr.add, World.cell?_alloc_at]
  · intro c hc; simp at hc; rcases hc with rfl | rfl | rfl <;> rfl
  · intro v' w' h1 h2 _
    have e : ivs zs ++ [.int .i64 p, .int .i64 q, .int .i64 r] = ivs (zs ++ [p, q, r]) := by simp [ivs]
    rw [e] at h1
    exact h v' w' h1 (((Below.refl B w).alloc hB _).trans (below_grown_own (hown.alloc _) h2 (by simp; omega))) h2
set_option maxHeartbeats 1000000 in
theorem s_ciNew (i0 i1 : Int) (w : World) :
    Calls Try.prog 115 #[.int .i64 i0, .int .i64 i1] w fun e w' => e = .returned (.pointer (some ⟨w.heap.size, 0, none⟩)) ∧ w' = w.alloc (.cells #[.int .i64 i0, .int .i64 i1, .slice none 0 0, .slice none 0 0] 120) := by
  go_enter Try.func115, Try.ntmps115
  go_wp2
  go_ret
  exact ⟨rfl, rfl⟩
end Go.Proofs.Ytmkcanbaleecfaa
