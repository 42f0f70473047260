/-
  append of a row at a step of a region that draws its order.
-/
import Derived.Test.YtfichpppjpgahaaRA
import Derived.Deep.RegionHeld3
import Derived.Deep.AppendLies
import Derived.Test.YtfichpppjpgahaaD
namespace Go.Proofs.Ytfichpppjpgahaa
open Go.RowKit
set_option linter.unusedVariables false
set_option linter.unusedSimpArgs false

/-- 'append(out, row)' at a step of a drawn region. -/
theorem step_appR {ops : Array Oper} {o : Oper} {a : Act} {w : World} {K : Act → World → Prop} {Q : Exit → Act → World → Prop} {E : Prop} (w0 : World) (B k : Nat) (v : Value) (xss : List (List Int)) (r : Option Addr) (m c : Nat) (xs : List Int) (ad : Addr)
    (hg : o.guard = none) (s x : Operand) (ho : o.op = .call { callee := .builtin .append, args := #[s, x], argTypes := #[35, 35] })
    (hs : a.eval s = v) (hx : a.eval x = .slice (some ad) 1 1) (hc : w.cell? ad = some (.slice r m c))
    (hown : OwnR 24 w0 B v k xss) (hb : Below w0.heap.size w0 w) (hm : Mine w w0.heap.size r m c xs) (hB : B ≤ w0.heap.size) (hn : k ≤ 1000000000000)
    (h : ∀ v' w', OwnR 24 w' B v' (k + 1) (xss ++ [xs]) → Below B w w' → w.grownBy w' v.ownBlock → K (a.put o.dst v') w') :
    if Region.wanted o (yielded ops a.tmps) = true then Oper.wp Try.prog o a w K Q else E := by
  have hw : Region.wanted o (yielded ops a.tmps) = true := by simp [Region.wanted, hg]
  rw [if_pos hw]
  obtain ⟨i0, hi, hz0, hz1, hz2⟩ := info_parts info_row
  obtain ⟨hs', h1, h2, h3, h4⟩ := hown
  have hsz := hb.size
  have hlen : hs'.length = k := by have := h1.1; omega
  obtain ⟨v', w', hrun, k1, k2, k0, k3⟩ := run_append_own_at (P := Try.prog) w B 35 o.type 24 i0 (.slice none 0 0) 1 24 Try.underlying35 hi hz0 hz1 hz2 rfl (by decide) v k hs' (ownsRow_below h1 hb) ad 1 1 [.slice r m c] rfl (by
    intro j u hj
    match j, hj with
    | 0, hj =>
      simp at hj; subst hj
      have : ad.add 0 = ad := by simp [Addr.add]
      rw [this]; exact hc) (by intro u hu; simp at hu; subst hu; rfl) (by unfold maxLen; omega) (by omega) (by omega)
  unfold Oper.wp execOp
  simp only [ho, resolve, invoke, builtin, Sem.run_bind, Sem.run_pure, Result.andThen_ok, List.map_toArray, List.map_cons, List.map_nil, hs, hx, hrun]
  have kb : Below B w w' := below_grown_own (ownsRow_below h1 hb) k2 (by omega)
  have hbl : ∀ g, v'.ownBlock = some g → v.ownBlock = some g ∨ g = w.heap.size := by
    intro g e
    rcases k3 with k3 | k3
    · exact .inl (by rw [← k3]; exact e)
    · right; rw [e] at k3; simpa using k3
  refine h v' w' ⟨hs' ++ [.slice r m c], k1, by simp [h2], fun i hi' => ?_, fun i j hi' hj' hne r1 m1 c1 r2 m2 c2 e1 e2 => ?_⟩ kb k2
  · rw [rowN_snoc]
    by_cases ei : i = k
    · subst ei
      rw [if_pos h2.symm]
      refine ⟨r, m, c, by simp [hlen], ?_, fun h0 g o e q => ?_⟩
      · refine Mine.base ?_ hB
        refine hm.grown k2 (fun h0 g o e q => ?_)
        have := (ownBlock_lt h1 g q.symm).2
        have := (hm.pl h0 g o e).1
        omega
      · have p := hm.pl h0 g o e
        rcases hbl g q.symm with q | q
        · have := (ownBlock_lt h1 g q).2; omega
        · omega
    · obtain ⟨r1, m1, c1, e1, hm1, hn1⟩ := h3 i (by omega)
      rw [if_neg (by omega)]
      refine ⟨r1, m1, c1, by rw [List.getElem?_append_left (by omega)]; exact e1, ?_, fun h0 g o e q => ?_⟩
      · exact (hm1.below hb).grown k2 hn1
      · rcases hbl g q.symm with q | q
        · exact hn1 h0 g o e q.symm
        · have := (hm1.pl h0 g o e).2; omega
  · have old : ∀ q u, q < k → (hs' ++ [.slice r m c])[q]? = some u → hs'[q]? = some u := fun q u hq e => by rw [List.getElem?_append_left (by omega)] at e; exact e
    have new : ∀ u, (hs' ++ [Value.slice r m c])[k]? = some u → u = .slice r m c := fun u e => by
      rw [List.getElem?_append_right (by omega), hlen, Nat.sub_self] at e
      simpa using e.symm
    have plo : ∀ q r1 m1 c1, q < k → hs'[q]? = some (.slice r1 m1 c1) → PlaceM r1 m1 0 w0.heap.size := by
      intro q r1 m1 c1 hq e
      obtain ⟨r3, m3, c3, e3, hm3, _⟩ := h3 q hq
      rw [e] at e3
      simp only [Option.some.injEq, Value.slice.injEq] at e3
      obtain ⟨rfl, rfl, rfl⟩ := e3
      exact fun h0 b o e' => ⟨Nat.zero_le _, (hm3.pl h0 b o e').2⟩
    by_cases ei : i = k
    · subst ei
      have n1 := new _ e1
      simp only [Value.slice.injEq] at n1
      obtain ⟨rfl, rfl, rfl⟩ := n1
      have hjk : j < i := by omega
      exact Apart.of hm.pl (plo j _ _ _ hjk (old j _ hjk e2)) (Or.inr (Nat.le_refl _))
    · have hik : i < k := by omega
      by_cases ej : j = k
      · subst ej
        have n2 := new _ e2
        simp only [Value.slice.injEq] at n2
        obtain ⟨rfl, rfl, rfl⟩ := n2
        exact Apart.of (plo i _ _ _ hik (old i _ hik e1)) hm.pl (Or.inl (Nat.le_refl _))
      · exact h4 i j hik (by omega) hne _ _ _ _ _ _ (old i _ hik e1) (old j _ (by omega) e2)
end Go.Proofs.Ytfichpppjpgahaa
