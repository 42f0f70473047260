/-
  Contracts of copies, digests and what is derived from them.
-/
import Derived.Test.YtfichpppjpgahaaU
import Derived.Laws.AppendOwnNone
namespace Go.Proofs.Ytfichpppjpgahaa
open Go.RowKit
set_option linter.unusedVariables false
set_option linter.unusedSimpArgs false

theorem ivs_app (xs ys : List Int) : ivs (xs ++ ys) = ivs xs ++ ivs ys := by simp [ivs]
/-- 'append(out, src...)' onto a slice of the call's own, whatever slice of ints is appended. -/
theorem wp_apps {ops : Array Oper} {rest : List Oper} {o : Oper} {a : Act} {Q : Exit → Act → World → Prop} (w : World) (B n : Nat) (v : Value) (xs ys : List Int) (ad : Option Addr) (m cap : Nat)
    (hg : o.guard = none) (s x : Operand) (ho : o.op = .call { callee := .builtin .append, args := #[s, x], argTypes := #[24, 24] })
    (hs : a.eval s = v) (hx : a.eval x = .slice ad m cap) (hy : Ints w ad m cap ys)
    (hown : w.ownsRow B 3 1 v n (ivs xs)) (hB : B ≤ w.heap.size) (hn : n + m ≤ 1000000000000)
    (h : ∀ v' w', w'.ownsRow B 3 1 v' (n + m) (ivs (xs ++ ys)) → Below B w w' → w.grownBy w' v.ownBlock → wpList Try.prog ops Q rest (a.put o.dst v') w') :
    wpList Try.prog ops Q (o :: rest) a w := by
  obtain ⟨i0, hi, hz0, hz1, hz2⟩ := info_parts info_int
  have hlen := hy.len.out
  cases ad with
  | none =>
    have hc := hy.nilc.out rfl
    have hnc := hy.ncap
    obtain rfl : cap = 0 := hc
    obtain rfl : m = 0 := by omega
    obtain rfl : ys = [] := List.length_eq_zero_iff.1 hlen
    refine wpList_append_own_none hg s x 24 ho B 3 i0 1 Try.underlying24 hi v n (ivs xs) hs hown hx ?_
    refine h v w (by simpa using hown) (Below.refl _ _) ⟨rfl, rfl, rfl, Nat.le_refl _, fun _ _ _ => rfl⟩
  | some ad =>
    refine wpList_append_own _ hg s x 24 ho B 3 i0 (.int .i64 0) 1 8 Try.underlying24 hi hz0 hz1 hz2 rfl (by decide) v n (ivs xs) hs hown ad m cap (ivs ys) hx (by rw [ivs_len, hlen]; omega) ?_ ?_ (by unfold maxLen; omega) (by omega) hB ?_
    · intro j c hj
      have hjm : j < m := by
        rcases Nat.lt_or_ge j m with k | k
        · exact k
        · rw [List.getElem?_eq_none (by rw [ivs_len, hlen]; exact k)] at hj; cases hj
      obtain ⟨b, off, e, _, hcell⟩ := hy.at hjm
      simp only [Option.some.injEq] at e
      subst e
      have e2 : (⟨b, off, none⟩ : Addr).add j = ⟨b, off + j, none⟩ := by
        unfold Addr.add; split
        · rename_i h0; subst h0; rfl
        · rfl
      rw [e2, hcell]
      simp only [ivs, List.getElem?_map] at hj
      rw [List.getElem?_eq_getElem (by omega)] at hj
      simp only [Option.map_some, Option.some.injEq] at hj
      rw [← hj, nth_get (by omega)]
    · intro c hc
      simp only [ivs, List.mem_map] at hc
      obtain ⟨q, _, rfl⟩ := hc
      rfl
    · intro v' w' h1 h2 _
      rw [← ivs_app] at h1
      exact h v' w' h1 (below_grown_own hown h2 hB) h2

set_option maxHeartbeats 400000 in
theorem g_Clone (a : Option Addr) (n cap : Nat) (xs : List Int) (w : World) (h : Ints w a n cap xs) (hn : n ≤ 100000000000) :
    Calls Try.prog 120 #[.slice a n cap] w fun e w' => ∃ r c, e = .returned (.slice r n c) ∧ OwnI 3 w' w.heap.size r n c xs ∧ Below w.heap.size w w' := by
  have hlen := h.len.out
  have hwf := h.wf
  cases a with
  | none =>
    have hc := h.nilc.out rfl
    have hnc := h.ncap
    obtain rfl : cap = 0 := hc
    obtain rfl : n = 0 := by omega
    obtain rfl : xs = [] := List.length_eq_zero_iff.1 hlen
    have e0 := @Lib.run_eql_slice_nil Try.prog
    clear h
    go_enter Try.func120, Try.ntmps120
    go_wp2
    go_ret
    exact ⟨_, _, rfl, OwnI.nil, Below.refl _ _⟩
  | some ad =>
    have e0 := @Lib.run_eql_slice_nil Try.prog
    clear hlen
    go_enter Try.func120, Try.ntmps120
    go_wp2_with (at_builtin; refine wp_apps _ w.heap.size 0 _ [] xs _ _ _ rfl _ _ rfl rfl rfl (h.alloc _) (World.ownsRow_lit w #[] 0 (Nat.le_refl _) (by decide) rfl) (by simp) (by omega) ?_; intro v9 w9 hv9 hb9 hg9)
    rw [Nat.zero_add, List.nil_append] at hv9
    obtain ⟨r, c, hr, ho⟩ := OwnI.of hv9 (by omega) hwf.out
    subst hr
    go_ret
    exact ⟨_, _, rfl, ho, (bel_alloc w _).trans hb9⟩
set_option maxHeartbeats 400000 in
theorem s_l1Own (a : Option Addr) (n cap : Nat) (xs : List Int) (w : World) (h : Ints w a n cap xs) (hn : n ≤ 100000000000) :
    Calls Try.prog 63 #[.slice a n cap] w fun e w' => ∃ r c, e = .returned (.slice r n c) ∧ OwnI 3 w' w.heap.size r n c xs ∧ Below w.heap.size w w' := by
  have hwf := h.wf
  go_enter Try.func63, Try.ntmps63
  go_wp2_with (at_builtin; refine wp_apps _ w.heap.size 0 _ [] xs _ _ _ rfl _ _ rfl rfl rfl (h.alloc _) (World.ownsRow_lit w #[] 0 (Nat.le_refl _) (by decide) rfl) (by simp) (by omega) ?_; intro v9 w9 hv9 hb9 hg9)
  rw [Nat.zero_add, List.nil_append] at hv9
  obtain ⟨r, c, hr, ho⟩ := OwnI.of hv9 (by omega) hwf.out
  subst hr
  go_ret
  exact ⟨_, _, rfl, ho, (bel_alloc w _).trans hb9⟩
end Go.Proofs.Ytfichpppjpgahaa
