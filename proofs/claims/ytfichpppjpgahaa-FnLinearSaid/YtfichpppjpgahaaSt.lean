/-
  append at a step of a region that draws its order: ints, and rows.
-/
import Derived.Test.YtfichpppjpgahaaRA
import Derived.Deep.RegionHeld3
import Derived.Deep.AppendLies
import Derived.Test.YtfichpppjpgahaaD
namespace Go.Proofs.Ytfichpppjpgahaa
open Go.RowKit
set_option linter.unusedVariables false
set_option linter.unusedSimpArgs false

/-- 'append(out, u)' at a step of a drawn region: out was owned in the world w0, the new cell holds u now. -/
theorem step_app {ops : Array Oper} {o : Oper} {a : Act} {w : World} {K : Act → World → Prop} {Q : Exit → Act → World → Prop} {E : Prop} (w0 : World) (B n : Nat) (v : Value) (xs : List Int) (u : Int) (ad : Addr)
    (hg : o.guard = none) (s x : Operand) (ho : o.op = .call { callee := .builtin .append, args := #[s, x], argTypes := #[24, 24] })
    (hs : a.eval s = v) (hx : a.eval x = .slice (some ad) 1 1) (hc : w.cell? ad = some (.int .i64 u))
    (hown : w0.ownsRow B 3 1 v n (ivs xs)) (hb : Below w0.heap.size w0 w) (hB : B ≤ w0.heap.size) (hn : n ≤ 1000000000000)
    (h : ∀ v' w', w'.ownsRow B 3 1 v' (n + 1) (ivs (xs ++ [u])) → Below B w w' → w.grownBy w' v.ownBlock → K (a.put o.dst v') w') :
    if Region.wanted o (yielded ops a.tmps) = true then Oper.wp Try.prog o a w K Q else E := by
  have hw : Region.wanted o (yielded ops a.tmps) = true := by simp [Region.wanted, hg]
  rw [if_pos hw]
  obtain ⟨i0, hi, hz0, hz1, hz2⟩ := info_parts info_int
  have hown' := ownsRow_below hown hb
  have hsz := hb.size
  refine wp_append_own w s x 24 ho B 3 i0 (.int .i64 0) 1 8 Try.underlying24 hi hz0 hz1 hz2 rfl (by decide) v n (ivs xs) hs hown' ad 1 1 [.int .i64 u] hx rfl ?_ ?_ (by unfold maxLen; omega) (by omega) (by omega) ?_
  · intro j c hj
    match j, hj with
    | 0, hj =>
      simp at hj; subst hj
      have : ad.add 0 = ad := by simp [Addr.add]
      rw [this]; exact hc
  · intro c hc; simp at hc; subst hc; rfl
  · intro v' w' h1 h2 _
    rw [← ivs_snoc] at h1
    exact h v' w' h1 (below_grown_own hown' h2 (by omega)) h2
end Go.Proofs.Ytfichpppjpgahaa
