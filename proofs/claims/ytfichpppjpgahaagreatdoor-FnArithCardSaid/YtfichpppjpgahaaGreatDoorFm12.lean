/-
  The draws of arithmetic circuits: one with the number of an out, one with values for its outs.
  Contracts: rows of gates that are copied, circuits that are copied.
  Equal lists, as the laws compare them.
  Contracts: how many gates of each kind; TriplesNeeded, both sides.
-/
import Derived.Test.YtfichpppjpgahaaGreatDoorBm
import Derived.Test.YtfichpppjpgahaaGreatDoorFm10
import Derived.Test.YtfichpppjpgahaaGreatDoorFm5
import Derived.Test.YtfichpppjpgahaaGreatDoorFm6
import Derived.Laws.OwnMore
import Derived.Deep.RegionHeld3
import Derived.Test.YtfichpppjpgahaaGreatDoorFm4
import Derived.Test.YtfichpppjpgahaaGreatDoorFm2
namespace Go.Proofs.YtfichpppjpgahaaGreatDoor
open Go.RowKit
set_option linter.unusedVariables false
set_option linter.unusedSimpArgs false
set_option maxRecDepth 10000

theorem CirO.circM {w : World} {L : Nat} {v2 v3 : Value} {n m : Nat} {gs os : List Int} (h : CirO w L v2 n gs v3 m os) (hn : n ≤ 1000) (hm : m ≤ 1000) : ∃ ga gc oa oc, v2 = .slice ga n gc ∧ v3 = .slice oa m oc ∧ CircM w L ga n gc gs oa m oc os := by
  obtain ⟨a1, c1, e1, m1⟩ := MineK.of h.og (by omega) (by omega) h.fg.out
  obtain ⟨a2, c2, e2, m2⟩ := Mine.of h.oo (by omega) h.fo.out
  have hj := h.dj
  subst e1 e2
  refine ⟨a1, c1, a2, c2, rfl, rfl, m1, m2, fun h1 h2 q o q' o' e e' k => ?_⟩
  subst e e' k
  exact hj q rfl rfl
theorem CirO.circ {w : World} {L : Nat} {ga oa : Option Addr} {gc oc : Nat} {n m : Nat} {gs os : List Int} (h : CirO w L (.slice ga n gc) n gs (.slice oa m oc) m os) (hn : n ≤ 1000) (hm : m ≤ 1000) : Circ w ga n gc gs oa m oc os := by
  obtain ⟨a1, c1, a2, c2, e1, e2, k⟩ := h.circM hn hm
  simp only [Value.slice.injEq, true_and] at e1 e2
  obtain ⟨rfl, rfl⟩ := e1; obtain ⟨rfl, rfl⟩ := e2
  exact k.circ
theorem bel_set5 {w w0 : World} {B b : Nat} (h : Below B w0 w) (hb : B ≤ b) (x y z u v : Value) : Below B w0 (((((w.setCell ⟨b, 0, none⟩ x).setCell ⟨b, 1, none⟩ y).setCell ⟨b, 2, none⟩ z).setCell ⟨b, 3, none⟩ u).setCell ⟨b, 4, none⟩ v) :=
  ((((h.setCell hb _).setCell hb _).setCell hb _).setCell hb _).setCell hb _
/-- What DrawLinearForm hands back. -/
def LfRet (w : World) (e : Ending) (w' : World) : Prop :=
  ∃ (p x0 x1 : Int) (ga : Option Addr) (gn gc : Nat) (gs : List Int) (oa : Option Addr) (on oc : Nat) (os : List Int) (k : Int), e = .returned (.tuple #[.agg #[.int .i64 p, .int .i64 x0, .int .i64 x1, .slice ga gn gc, .slice oa on oc], .int .i64 k]) ∧ Circ w' ga gn gc gs oa on oc os ∧ (1 ≤ p ∧ p ≤ 253) ∧ (-1 ≤ x0 ∧ x0 ≤ 9) ∧ (0 ≤ x1 ∧ x1 ≤ 2) ∧ (-1 ≤ k ∧ k ≤ 21) ∧ Below w.heap.size w w'
/-- What DrawCountInputs hands back. -/
def CntRet (w : World) (e : Ending) (w' : World) : Prop :=
  ∃ (p x0 x1 : Int) (ga : Option Addr) (gn gc : Nat) (gs : List Int) (oa : Option Addr) (on oc : Nat) (os : List Int) (ta : Option Addr) (tn tc : Nat) (ts : List Int), e = .returned (.tuple #[.agg #[.int .i64 p, .int .i64 x0, .int .i64 x1, .slice ga gn gc, .slice oa on oc], .slice ta tn tc]) ∧ Circ w' ga gn gc gs oa on oc os ∧ Ints w' ta tn tc ts ∧ Below w.heap.size w w'
end Go.Proofs.YtfichpppjpgahaaGreatDoor
namespace Go.Proofs.YtfichpppjpgahaaGreatDoor
open Go.RowKit
set_option linter.unusedVariables false
set_option linter.unusedSimpArgs false
set_option maxRecDepth 10000

theorem run_appGs (w : World) (B k : Nat) (v : Value) (zs ys : List Int) (ad : Option Addr) (m cap : Nat) (ty : TypeId)
    (hy : Recs 3 w ad m cap ys) (hown : w.ownsRow B 65 3 v k (ivs zs)) (hB : B ≤ w.heap.size) (hn : k + m ≤ 100000000) :
    ∃ v' w', (Builtin.append_ #[23, 23] ty #[v, .slice ad m cap]).run Tryz.prog w = .ok v' w' ∧ w'.ownsRow B 65 3 v' (k + m) (ivs (zs ++ ys)) ∧ Below B w w' ∧ w.grownBy w' v.ownBlock ∧ (v'.ownBlock = v.ownBlock ∨ v'.ownBlock = some w.heap.size) := by
  obtain ⟨i0, hi, hz0, hz1, hz2⟩ := info_parts info_GtA
  have hlen := hy.len
  cases ad with
  | none =>
    have hc := hy.nilc.out rfl
    have hnc := hy.ncap
    obtain rfl : cap = 0 := hc
    obtain rfl : m = 0 := by omega
    obtain rfl : ys = [] := List.length_eq_zero_iff.1 (by omega)
    refine ⟨v, w, run_append_owned_none (P := Tryz.prog) (w := w) B 23 ty 65 i0 3 Tryz.underlying23 hi v k (ivs zs) hown, by simpa using hown, Below.refl _ _, ⟨rfl, rfl, rfl, Nat.le_refl _, fun _ _ _ => rfl⟩, .inl rfl⟩
  | some ad =>
    have hN1 : ∀ j c, (ivs ys)[j]? = some c → w.cell? (ad.add j) = some c := by
      intro j c hj
      have hjm : j < m * 3 := by
        rcases Nat.lt_or_ge j (m * 3) with q | q
        · exact q
        · rw [List.getElem?_eq_none (by rw [ivs_len, hlen]; exact q)] at hj; cases hj
      obtain ⟨b, off, e, _, hcell⟩ := hy.ints.at hjm
      simp only [Option.some.injEq] at e
      subst e
      have e2 : (⟨b, off, none⟩ : Addr).add j = ⟨b, off + j, none⟩ := by
        unfold Addr.add; split
        · rename_i h0; subst h0; rfl
        · rfl
      rw [e2, hcell]
      simp only [ivs, List.getElem?_map] at hj
      rw [List.getElem?_eq_getElem (by omega)] at hj
      simp only [Option.map_some, Option.some.injEq] at hj
      rw [← hj, nth_get (by omega)]
    have hN2 : ∀ c ∈ ivs ys, c.oneCell' = true := by
      intro c hc
      simp only [ivs, List.mem_map] at hc
      obtain ⟨q, _, rfl⟩ := hc
      rfl
    obtain ⟨v', w', hrun, k1, k2, k0, k3⟩ := run_append_own_at (P := Tryz.prog) w B 23 ty 65 i0 (.agg #[.int .i64 0, .int .i64 0, .int .i64 0]) 3 24 Tryz.underlying23 hi hz0 hz1 hz2 rfl (by decide) v k (ivs zs) hown ad m cap (ivs ys) (by rw [ivs_len, hlen]) hN1 hN2 (by unfold maxLen; omega) (by omega) hB
    exact ⟨v', w', hrun, by rw [ivs_app]; exact k1, below_grown_own hown k2 hB, k2, k3⟩
theorem wp_appGs {ops : Array Oper} {rest : List Oper} {o : Oper} {a : Act} {Q : Exit → Act → World → Prop} (w : World) (B k : Nat) (v : Value) (zs ys : List Int) (ad : Option Addr) (m cap : Nat)
    (hg : o.guard = none) (s x : Operand) (ho : o.op = .call { callee := .builtin .append, args := #[s, x], argTypes := #[23, 23] })
    (hs : a.eval s = v) (hx : a.eval x = .slice ad m cap) (hy : Recs 3 w ad m cap ys) (hown : w.ownsRow B 65 3 v k (ivs zs)) (hB : B ≤ w.heap.size) (hn : k + m ≤ 100000000)
    (h : ∀ v' w', w'.ownsRow B 65 3 v' (k + m) (ivs (zs ++ ys)) → Below B w w' → w.grownBy w' v.ownBlock → (v'.ownBlock = v.ownBlock ∨ v'.ownBlock = some w.heap.size) → wpList Tryz.prog ops Q rest (a.put o.dst v') w') :
    wpList Tryz.prog ops Q (o :: rest) a w := by
  obtain ⟨v', w', hrun, k1, kb, k2, k3⟩ := run_appGs w B k v zs ys ad m cap o.type hy hown hB hn
  refine wpList_plain hg fun K hK' => ?_
  unfold Oper.wp execOp
  simp only [ho, resolve, invoke, builtin, Sem.run_bind, Sem.run_pure, Result.andThen_ok, List.map_toArray, List.map_cons, List.map_nil, hs, hx, hrun]
  exact hK' _ _ (h v' w' k1 kb k2 k3)
theorem step_appGs {ops : Array Oper} {o : Oper} {a : Act} {w : World} {K : Act → World → Prop} {Q : Exit → Act → World → Prop} {E : Prop} (B k : Nat) (v : Value) (zs ys : List Int) (ad : Option Addr) (m cap : Nat)
    (hg : o.guard = none) (s x : Operand) (ho : o.op = .call { callee := .builtin .append, args := #[s, x], argTypes := #[23, 23] })
    (hs : a.eval s = v) (hx : a.eval x = .slice ad m cap) (hy : Recs 3 w ad m cap ys) (hown : w.ownsRow B 65 3 v k (ivs zs)) (hB : B ≤ w.heap.size) (hn : k + m ≤ 100000000)
    (h : ∀ v' w', w'.ownsRow B 65 3 v' (k + m) (ivs (zs ++ ys)) → Below B w w' → w.grownBy w' v.ownBlock → (v'.ownBlock = v.ownBlock ∨ v'.ownBlock = some w.heap.size) → K (a.put o.dst v') w') :
    if Region.wanted o (yielded ops a.tmps) = true then Oper.wp Tryz.prog o a w K Q else E := by
  have hw : Region.wanted o (yielded ops a.tmps) = true := by simp [Region.wanted, hg]
  rw [if_pos hw]
  obtain ⟨v', w', hrun, k1, kb, k2, k3⟩ := run_appGs w B k v zs ys ad m cap o.type hy hown hB hn
  unfold Oper.wp execOp
  simp only [ho, resolve, invoke, builtin, Sem.run_bind, Sem.run_pure, Result.andThen_ok, List.map_toArray, List.map_cons, List.map_nil, hs, hx, hrun]
  exact h v' w' k1 kb k2 k3
set_option maxHeartbeats 400000 in
theorem g_CloneG (a : Option Addr) (n cap : Nat) (xs : List Int) (w : World) (h : Recs 3 w a n cap xs) (hn : n ≤ 1000000) :
    Calls Tryz.prog 51 #[.slice a n cap] w fun e w' => ∃ v, e = .returned v ∧ w'.ownsRow w.heap.size 65 3 v n (ivs xs) ∧ Below w.heap.size w w' := by
  have hlen := h.len
  cases a with
  | none =>
    have hc := h.nilc.out rfl
    have hnc := h.ncap
    obtain rfl : cap = 0 := hc
    obtain rfl : n = 0 := by omega
    obtain rfl : xs = [] := List.length_eq_zero_iff.1 (by omega)
    have e0 := @Lib.run_eql_slice_nil Tryz.prog
    clear h
    go_enter Tryz.func51, Tryz.ntmps51
    go_wp2
    go_ret
    exact ⟨_, rfl, World.ownsRow_nil _ _ _ _, Below.refl _ _⟩
  | some ad =>
    have e0 := @Lib.run_eql_slice_nil Tryz.prog
    clear hlen
    go_enter Tryz.func51, Tryz.ntmps51
    go_wp2_with (at_builtin; refine wp_appGs _ w.heap.size 0 _ [] xs _ _ _ rfl _ _ rfl rfl rfl (h.alloc _) (World.ownsRow_lit w #[] 0 (Nat.le_refl _) (by decide) rfl) (by simp) (by omega) ?_; intro v9 w9 hv9 hb9 hg9 ho9)
    rw [Nat.zero_add, List.nil_append] at hv9
    go_ret
    exact ⟨_, rfl, hv9, (bel_alloc w _).trans hb9⟩
set_option maxHeartbeats 400000 in
theorem i_withO (a : Option Addr) (n cap : Nat) (xs : List Int) (a' : Option Addr) (n' cap' : Nat) (ys : List Int) (w : World) (h : Ints w a n cap xs) (h' : Ints w a' n' cap' ys) (hn : n ≤ 1000000) (hn' : n' ≤ 1000000) :
    Calls Tryz.prog 26 #[.slice a n cap, .slice a' n' cap'] w fun e w' => ∃ v, e = .returned v ∧ w'.ownsRow w.heap.size 3 1 v (n + n') (ivs (xs ++ ys)) ∧ Below w.heap.size w w' := by
  have hf := h.wf; have hf' := h'.wf
  go_enter Tryz.func26, Tryz.ntmps26
  go_wp2_with fail
  refine (g_Clone _ _ _ xs _ h (by omega)).mono ?_; rintro e w1 ⟨r, c, rfl, ho, hb1⟩
  have hz1 := hb1.size
  go_wp2_with (at_builtin; refine wp_apps w1 w.heap.size n _ xs ys _ _ _ rfl _ _ rfl rfl rfl (h'.below hb1) ho.own hz1 (by omega) ?_; intro v9 w9 hv9 hb9 hg9)
  go_ret
  exact ⟨_, rfl, hv9, hb1.trans hb9⟩
theorem cell_else5 {W : World} {b j g : Nat} {v : Value} (h : W.cell? ⟨b, j, none⟩ = some v) (hne : g ≠ b) (x y z u t : Value) : (((((W.setCell ⟨g, 0, none⟩ x).setCell ⟨g, 1, none⟩ y).setCell ⟨g, 2, none⟩ z).setCell ⟨g, 3, none⟩ u).setCell ⟨g, 4, none⟩ t).cell? ⟨b, j, none⟩ = some v := by
  have e : ∀ (V : World) (i : Nat) (a : Value), (V.setCell ⟨g, i, none⟩ a).cell? ⟨b, j, none⟩ = V.cell? ⟨b, j, none⟩ := fun V i a => World.cell?_setCell_other _ _ _ _ (fun e => hne (Addr.mk.inj e).1)
  rw [e, e, e, e, e]; exact h
set_option maxHeartbeats 4000000 in
theorem s_arOwn (p i0 i1 : Int) (ga : Option Addr) (gn gc : Nat) (gs : List Int) (oa : Option Addr) (on oc : Nat) (os : List Int) (w : World) (h : Circ w ga gn gc gs oa on oc os) (hn : gn ≤ 1000000) (hm : on ≤ 1000000) :
    Calls Tryz.prog 53 #[.agg #[.int .i64 p, .int .i64 i0, .int .i64 i1, .slice ga gn gc, .slice oa on oc]] w fun e w' => ∃ v2 v3, e = .returned (.agg #[.int .i64 p, .int .i64 i0, .int .i64 i1, v2, v3]) ∧ CirO w' w.heap.size v2 gn gs v3 on os ∧ Below w.heap.size w w' := by
  have A0 := bel_alloc w (.cells #[.int .i64 p, .int .i64 i0, .int .i64 i1, .slice ga gn gc, .slice oa on oc] 26)
  have g0 := B5.new (w := w) (x0 := .int .i64 p) (x1 := .int .i64 i0) (x2 := .int .i64 i1) (x3 := .slice ga gn gc) (x4 := .slice oa on oc) (t := 26)
  obtain ⟨W1, hW1⟩ : ∃ X, w.alloc (.cells #[.int .i64 p, .int .i64 i0, .int .i64 i1, .slice ga gn gc, .slice oa on oc] 26) = X := ⟨_, rfl⟩
  rw [hW1] at A0 g0
  have hz1 : W1.heap.size = w.heap.size + 1 := by rw [← hW1]; simp
  have A1 := bel_alloc W1 (.cells #[.int .i64 0, .int .i64 0, .int .i64 0, .slice none 0 0, .slice none 0 0] 26)
  have R1 := B5w.new (w := W1) (x0 := .int .i64 0) (x1 := .int .i64 0) (x2 := .int .i64 0) (x3 := .slice none 0 0) (x4 := .slice none 0 0) (t := 26)
  obtain ⟨W2, hW2⟩ : ∃ X, W1.alloc (.cells #[.int .i64 0, .int .i64 0, .int .i64 0, .slice none 0 0, .slice none 0 0] 26) = X := ⟨_, rfl⟩
  rw [hW2] at A1 R1
  have hz2 : W2.heap.size = w.heap.size + 2 := by rw [← hW2]; simp; omega
  rw [hz1] at R1
  have B2 := bel_trans A0 A1
  have HH := Lib.hid (h.below B2)
  have g2 := g0.on A1
  obtain ⟨c0, c1, c2, c3, c4⟩ := id g2
  go_enter Tryz.func53, Tryz.ntmps53
  have BL := bel_trans (bel_alloc W2 (.cells #[] 65)) (bel_drew _)
  have hL := (ownsRow_below (World.ownsRow_lit (base := W2.heap.size) W2 #[] 0 (Nat.le_refl _) (by decide) rfl : World.ownsRow (W2.alloc (.cells #[] 65)) _ _ 3 _ 0 (ivs [])) (bel_drew _))
  have HL := Lib.hid (show World.ownsRow (W2.alloc (.cells #[] 65)).drew (w.heap.size + 2) _ 3 (.slice (some ⟨w.heap.size + 2, 0, none⟩) 0 0) 0 (ivs []) by rw [← hz2]; exact hL)
  clear hL
  have hzd := BL.size
  have BL2 : Below (w.heap.size + 2) W2 (W2.alloc (.cells #[] 65)).drew := by rw [← hz2]; exact BL
  obtain ⟨p0, p1, p2, p3, p4⟩ : _ ∧ _ ∧ _ ∧ _ ∧ _ := ⟨c0, c1, c2, c3, c4⟩
  have c0 := cell_on c0 (bel_drew W2); have c1 := cell_on c1 (bel_drew W2); have c2 := cell_on c2 (bel_drew W2); have c3 := cell_on c3 (bel_drew W2); have c4 := cell_on c4 (bel_drew W2)
  go_wp2_with fail
  refine wp_region_held_drew (S := (fun W => W.cell? ⟨w.heap.size, 0, none⟩ = some (.int .i64 p) ∧ W.cell? ⟨w.heap.size, 1, none⟩ = some (.int .i64 i0) ∧ W.cell? ⟨w.heap.size, 2, none⟩ = some (.int .i64 i1) ∧ W.cell? ⟨w.heap.size, 3, none⟩ = some (.slice ga gn gc) ∧ W.cell? ⟨w.heap.size, 4, none⟩ = some (.slice oa on oc))) (by kernel_rfl) (by exact ⟨c0, c1, c2, c3, c4⟩) (fun hHeld => ?_)
  refine wpAnyH_take (i := 0) (oi := ?oi0_1) (v := ?v0_1) ?ho0_1 (by kernel_rfl) (by kernel_rfl) (by kernel_rfl) ?hQ0_1 ?hy0_1 hHeld ?hr0_1
  case ho0_1 => simp only [List.getElem?_toArray, List.getElem?_cons_succ, List.getElem?_cons_zero]; rfl
  case hQ0_1 => exact fun _ _ _ h => h
  case hy0_1 => exact Or.inl ⟨by rfl, by (intro w hSw; go_simp; try with_reducible rfl)⟩
  try simp only [Act.put, List.setIfInBounds_toArray, List.set_cons_zero, List.set_cons_succ]
  refine wpAnyH_take (i := 1) (oi := ?oi1_1) (v := ?v1_1) ?ho1_1 (by kernel_rfl) (by kernel_rfl) (by kernel_rfl) ?hQ1_1 ?hy1_1 hHeld ?hr1_1
  case ho1_1 => simp only [List.getElem?_toArray, List.getElem?_cons_succ, List.getElem?_cons_zero]; rfl
  case hQ1_1 => exact fun _ _ _ h => h
  case hy1_1 => exact Or.inl ⟨by rfl, by (intro w hSw; go_simp; try with_reducible rfl)⟩
  try simp only [Act.put, List.setIfInBounds_toArray, List.set_cons_zero, List.set_cons_succ]
  refine wpAnyH_take (i := 2) (oi := ?oi2_1) (v := ?v2_1) ?ho2_1 (by kernel_rfl) (by kernel_rfl) (by kernel_rfl) ?hQ2_1 ?hy2_1 hHeld ?hr2_1
  case ho2_1 => simp only [List.getElem?_toArray, List.getElem?_cons_succ, List.getElem?_cons_zero]; rfl
  case hQ2_1 => exact fun _ _ _ h => h
  case hy2_1 => exact Or.inl ⟨by rfl, by (intro w hSw; go_simp; try with_reducible rfl)⟩
  try simp only [Act.put, List.setIfInBounds_toArray, List.set_cons_zero, List.set_cons_succ]
  refine wpAnyH_take (i := 3) (oi := ?oi3_1) (v := ?v3_1) ?ho3_1 (by kernel_rfl) (by kernel_rfl) (by kernel_rfl) ?hQ3_1 ?hy3_1 hHeld ?hr3_1
  case ho3_1 => simp only [List.getElem?_toArray, List.getElem?_cons_succ, List.getElem?_cons_zero]; rfl
  case hQ3_1 => exact fun _ _ _ h => h
  case hy3_1 => exact Or.inl ⟨by rfl, by (intro w hSw; go_simp; try with_reducible rfl)⟩
  try simp only [Act.put, List.setIfInBounds_toArray, List.set_cons_zero, List.set_cons_succ]
  refine wpAnyH_take (i := 4) (oi := ?oi4_1) (v := ?v4_1) ?ho4_1 (by kernel_rfl) (by kernel_rfl) (by kernel_rfl) ?hQ4_1 ?hy4_1 hHeld ?hr4_1
  case ho4_1 => simp only [List.getElem?_toArray, List.getElem?_cons_succ, List.getElem?_cons_zero]; rfl
  case hQ4_1 => exact fun _ _ _ h => h
  case hy4_1 => exact Or.inl ⟨by rfl, by (intro w hSw; go_simp; try with_reducible rfl)⟩
  try simp only [Act.put, List.setIfInBounds_toArray, List.set_cons_zero, List.set_cons_succ]
  refine wpAnyH_take (i := 5) (oi := ?oi5_1) (v := ?v5_1) ?ho5_1 (by kernel_rfl) (by kernel_rfl) (by kernel_rfl) ?hQ5_1 ?hy5_1 hHeld ?hr5_1
  case ho5_1 => simp only [List.getElem?_toArray, List.getElem?_cons_succ, List.getElem?_cons_zero]; rfl
  case hQ5_1 => exact fun _ _ _ h => h
  case hy5_1 => exact Or.inl ⟨by rfl, by (intro w hSw; go_simp; try with_reducible rfl)⟩
  try simp only [Act.put, List.setIfInBounds_toArray, List.set_cons_zero, List.set_cons_succ]
  refine wpAnyH_take (i := 7) (oi := ?oi7_1) (v := ?v7_1) ?ho7_1 (by kernel_rfl) (by kernel_rfl) (by kernel_rfl) ?hQ7_1 ?hy7_1 hHeld ?hr7_1
  case ho7_1 => simp only [List.getElem?_toArray, List.getElem?_cons_succ, List.getElem?_cons_zero]; rfl
  case hQ7_1 => exact fun _ _ _ h => h
  case hy7_1 => exact Or.inl ⟨by rfl, by (intro w hSw; go_simp; try with_reducible rfl)⟩
  try simp only [Act.put, List.setIfInBounds_toArray, List.set_cons_zero, List.set_cons_succ]
  refine wpAnyH_take (i := 8) (oi := ?oi8_1) (v := ?v8_1) ?ho8_1 (by kernel_rfl) (by kernel_rfl) (by kernel_rfl) ?hQ8_1 ?hy8_1 hHeld ?hr8_1
  case ho8_1 => simp only [List.getElem?_toArray, List.getElem?_cons_succ, List.getElem?_cons_zero]; rfl
  case hQ8_1 => exact fun _ _ _ h => h
  case hy8_1 => exact Or.inl ⟨by rfl, by (intro w hSw; go_simp; try with_reducible rfl)⟩
  try simp only [Act.put, List.setIfInBounds_toArray, List.set_cons_zero, List.set_cons_succ]
  refine wpAnyH_take (i := 10) (oi := ?oi10_1) (v := ?v10_1) ?ho10_1 (by kernel_rfl) (by kernel_rfl) (by kernel_rfl) ?hQ10_1 ?hy10_1 hHeld ?hr10_1
  case ho10_1 => simp only [List.getElem?_toArray, List.getElem?_cons_succ, List.getElem?_cons_zero]; rfl
  case hQ10_1 => exact fun _ _ _ h => h
  case hy10_1 => exact Or.inl ⟨by rfl, by (intro w hSw; go_simp; try with_reducible rfl)⟩
  try simp only [Act.put, List.setIfInBounds_toArray, List.set_cons_zero, List.set_cons_succ]
  refine wpAnyH_take (i := 11) (oi := ?oi11_1) (v := ?v11_1) ?ho11_1 (by kernel_rfl) (by kernel_rfl) (by kernel_rfl) ?hQ11_1 ?hy11_1 hHeld ?hr11_1
  case ho11_1 => simp only [List.getElem?_toArray, List.getElem?_cons_succ, List.getElem?_cons_zero]; rfl
  case hQ11_1 => exact fun _ _ _ h => h
  case hy11_1 => exact Or.inl ⟨by rfl, by (intro w hSw; go_simp; try with_reducible rfl)⟩
  try simp only [Act.put, List.setIfInBounds_toArray, List.set_cons_zero, List.set_cons_succ]
  refine wpAnyH_ready (rs := [6]) (by kernel_rfl) (by simp) ?_
  refine AllReadyH.cons (o := ?o6_1) ?ho6_1 (fun K hK => ?hs6_1) AllReadyH.nil
  case ho6_1 => simp only [List.getElem?_toArray, List.getElem?_cons_succ, List.getElem?_cons_zero]; rfl
  go_simp
  have c0 := cell_on p0 BL; have c1 := cell_on p1 BL; have c2 := cell_on p2 BL; have c3 := cell_on p3 BL; have c4 := cell_on p4 BL; clear p0 p1 p2 p3 p4
  refine hK.out _ _ ?hS6_1 (fun hHeld => ?hr6_1)
  case hS6_1 => exact ⟨c0, c1, c2, c3, c4⟩
  clear hK K
  try simp only [Act.put, List.setIfInBounds_toArray, List.set_cons_zero, List.set_cons_succ]
  refine wpAnyH_ready (rs := [9]) (by kernel_rfl) (by simp) ?_
  refine AllReadyH.cons (o := ?o9_1) ?ho9_1 (fun K hK => ?hs9_1) AllReadyH.nil
  case ho9_1 => simp only [List.getElem?_toArray, List.getElem?_cons_succ, List.getElem?_cons_zero]; rfl
  refine step_appGs (w.heap.size + 2) 0 _ [] gs ga gn gc (by rfl) _ _ (by rfl) (by rfl) (by rfl) (HH.out.below BL).g HL.out (by omega) (by omega) ?_; intro v9 w9 hv9 hb9 hg9 ho9; obtain ⟨r9, k9, rfl⟩ := own_sl hv9; have B9 := (show Below W2.heap.size W2 w9 by rw [hz2]; exact BL2.trans hb9); have HO9 := Lib.hid (HH.out.below B9).o
  refine hK.out _ _ ?hS9_1 (fun hHeld => ?hr9_1)
  case hS9_1 => exact ⟨(hb9.cell (p := ⟨w.heap.size, 0, none⟩) (by simp only []; omega)).trans c0, (hb9.cell (p := ⟨w.heap.size, 1, none⟩) (by simp only []; omega)).trans c1, (hb9.cell (p := ⟨w.heap.size, 2, none⟩) (by simp only []; omega)).trans c2, (hb9.cell (p := ⟨w.heap.size, 3, none⟩) (by simp only []; omega)).trans c3, (hb9.cell (p := ⟨w.heap.size, 4, none⟩) (by simp only []; omega)).trans c4⟩
  clear hK K
  try simp only [Act.put, List.setIfInBounds_toArray, List.set_cons_zero, List.set_cons_succ]
  clear c0 c1 c2 c3 c4; obtain ⟨c0, c1, c2, c3, c4⟩ := id hHeld
  refine wpAnyH_ready (rs := [12]) (by kernel_rfl) (by simp) ?_
  refine AllReadyH.cons (o := ?o12_1) ?ho12_1 (fun K hK => ?hs12_1) AllReadyH.nil
  case ho12_1 => simp only [List.getElem?_toArray, List.getElem?_cons_succ, List.getElem?_cons_zero]; rfl
  go_simp
  go_at_call 62; refine (s_l1Own _ _ _ os _ HO9.out (by omega)).mono ?_; rintro e w5 ⟨r5, k5, rfl, hO5, hb5⟩; have B5 := bel_trans B9 hb5; have c0 := cell_on c0 hb5; have c1 := cell_on c1 hb5; have c2 := cell_on c2 hb5; have c3 := cell_on c3 hb5; have c4 := cell_on c4 hb5; have R5 := R1.on B5; obtain ⟨⟨r0, r1, r2, r3, r4⟩, f0, f1, f2, f3, f4⟩ := id R5
  refine hK.out _ _ ?hS12_1 (fun hHeld => ?hr12_1)
  case hS12_1 => exact ⟨c0, c1, c2, c3, c4⟩
  clear hK K
  try simp only [Act.put, List.setIfInBounds_toArray, List.set_cons_zero, List.set_cons_succ]
  refine wpAnyH_take (i := 13) (oi := ?oi13_1) (v := ?v13_1) ?ho13_1 (by kernel_rfl) (by kernel_rfl) (by kernel_rfl) ?hQ13_1 ?hy13_1 hHeld ?hr13_1
  case ho13_1 => simp only [List.getElem?_toArray, List.getElem?_cons_succ, List.getElem?_cons_zero]; rfl
  case hQ13_1 => exact fun _ _ _ h => h
  case hy13_1 => exact Or.inl ⟨by rfl, by (intro w hSw; go_simp; try with_reducible rfl)⟩
  try simp only [Act.put, List.setIfInBounds_toArray, List.set_cons_zero, List.set_cons_succ]
  refine wpAnyH_ready (rs := [14]) (by kernel_rfl) (by simp) ?_
  refine AllReadyH.cons (o := ?o14_1) ?ho14_1 (fun K hK => ?hs14_1) AllReadyH.nil
  case ho14_1 => simp only [List.getElem?_toArray, List.getElem?_cons_succ, List.getElem?_cons_zero]; rfl
  go_simp
  refine hK.out _ _ ?hS14_1 (fun hHeld => ?hr14_1)
  case hS14_1 => exact ⟨cell_else5 c0 (by omega) _ _ _ _ _, cell_else5 c1 (by omega) _ _ _ _ _, cell_else5 c2 (by omega) _ _ _ _ _, cell_else5 c3 (by omega) _ _ _ _ _, cell_else5 c4 (by omega) _ _ _ _ _⟩
  clear hK K
  try simp only [Act.put, List.setIfInBounds_toArray, List.set_cons_zero, List.set_cons_succ]
  refine wpAnyH_done (by kernel_rfl) ?_ _
  have hs9 := hb9.size
  have hsB := B9.size
  have hC5 : CirO w5 (w.heap.size + 2) (.slice r9 gn k9) gn gs (.slice r5 on k5) on os := ⟨by
    rw [Nat.zero_add, List.nil_append] at hv9
    exact ownsRow_below hv9 hb5, ownsRow_base hO5.own (by omega), (fun q hq e => by
      have h1 := (World.ownsRow.lt hv9 q (by rw [Nat.zero_add]; exact hq)).2
      have h2 := (World.ownsRow.lt hO5.own q e).1
      omega), HH.out.g.ints.wf, HH.out.o.wf⟩
  have F1 := Lib.hid ((hC5.bex (Bex.only5 (g := w.heap.size + 1) _ (.int .i64 p) (.int .i64 i0) (.int .i64 i1) (.slice r9 gn k9) (.slice r5 on k5)) (by omega)).base (L' := w.heap.size) (by omega))
  have F4 := Lib.hid (bel_set5 (b := w.heap.size + 1) (bel_trans B2 B5) (by omega) (.int .i64 p) (.int .i64 i0) (.int .i64 i1) (.slice r9 gn k9) (.slice r5 on k5))
  have E5 := Lib.hid (R5.set (.int .i64 p) (.int .i64 i0) (.int .i64 i1) (.slice r9 gn k9) (.slice r5 on k5))
  clear hC5
  go_wp2
  obtain ⟨E0, E1, E2, E3, E4⟩ := id E5.out.r
  exact bodyPost_ret (v := .agg #[.int .i64 p, .int .i64 i0, .int .i64 i1, .slice r9 gn k9, .slice r5 on k5]) (by simp [results, Tryz.results53, go_sem, E0, E1, E2, E3, E4]) rfl ⟨_, _, rfl, F1.out, F4.out⟩
end Go.Proofs.YtfichpppjpgahaaGreatDoor
namespace Go.Proofs.YtfichpppjpgahaaGreatDoor
open Go.RowKit
set_option linter.unusedVariables false
set_option linter.unusedSimpArgs false

set_option maxHeartbeats 1000000 in
theorem l_qInts (a a' : Option Addr) (n cap cap' : Nat) (xs : List Int) (w : World) (h : Ints w a n cap xs) (h' : Ints w a' n cap' xs) :
    Calls Tryz.prog 12 #[.slice a n cap, .slice a' n cap'] w fun e w' => e = .returned (.bool true) ∧ Below w.heap.size w w' := by
  have hs := h.small
  go_enter Tryz.func12, Tryz.ntmps12
  go_wp2
  go_loopw [13] (fun i wr => ∃ k : Nat, k ≤ n ∧ i = .int .i64 k ∧ Hid (Below w.heap.size w wr)) (fun i _ => n - (intOf i).toNat)
  case atStart => exact ⟨0, by omega, rfl, Below.refl _ _⟩
  case round =>
    obtain ⟨k, hk, rfl, BW⟩ := hrel
    by_cases hlt : k < n
    · obtain ⟨b, off, rfl, hbl, hc⟩ := (h.below BW.out).at hlt
      obtain ⟨b', off', rfl, hbl', hc'⟩ := (h'.below BW.out).at hlt
      have hlti : (k : Int) < (n : Int) := by omega
      go_wp2
      go_quiet (fail)
      go_wp2
      go_roundw
      case rel => exact ⟨k + 1, by omega, by go_num, (show Hid _ from below_drewN BW.out _)⟩
      case measure => simp [intOf]; omega
    · obtain rfl : k = n := by omega
      go_wp2
      go_ret
      exact ⟨rfl, BW.out⟩
end Go.Proofs.YtfichpppjpgahaaGreatDoor
namespace Go.Proofs.YtfichpppjpgahaaGreatDoor
open Go.RowKit
set_option linter.unusedVariables false
set_option linter.unusedSimpArgs false

theorem B4.onlyI {w w' : World} {b lo hi : Nat} {x0 x1 x2 x3 : Value} (h : B4 w b x0 x1 x2 x3) (ho : OnlyI lo hi w w') (hd : b < lo ∨ hi ≤ b) : B4 w' b x0 x1 x2 x3 :=
  ⟨(World.cell?_of_block (ho.block b (by omega))).trans h.c0, (World.cell?_of_block (ho.block b (by omega))).trans h.c1, (World.cell?_of_block (ho.block b (by omega))).trans h.c2, (World.cell?_of_block (ho.block b (by omega))).trans h.c3⟩
/-- How many of the first n gates are of a kind. -/
def cntK (gs : List Int) (q : Int) : Nat → Int
  | 0 => 0
  | n + 1 => cntK gs q n + (if fld 3 gs n 0 = q then 1 else 0)
theorem cntK_bd (gs : List Int) (q : Int) : ∀ n : Nat, 0 ≤ cntK gs q n ∧ cntK gs q n ≤ n
  | 0 => by simp [cntK]
  | n + 1 => by
    have := cntK_bd gs q n
    rw [cntK]; split <;> omega
theorem gateB_kind {k a b own : Int} (h : gateB k a b own = true) : k = 0 ∨ k = 1 ∨ k = 2 ∨ k = 3 := by
  by_cases h0 : k = 0 ∨ k = 1
  · omega
  · by_cases h2 : k = 2
    · omega
    · rw [gateB_3 h0 h2, Bool.and_eq_true, decide_eq_true_iff] at h; omega
/-- All gates are of a known kind. -/
def kindsOk (gs : List Int) (n : Nat) : Prop := ∀ i, i < n → fld 3 gs i 0 = 0 ∨ fld 3 gs i 0 = 1 ∨ fld 3 gs i 0 = 2 ∨ fld 3 gs i 0 = 3
theorem kindsOk.of {base : Int} {gs : List Int} {n : Nat} (h : gatesB base gs n = true) : kindsOk gs n := fun i hi => gateB_kind (gatesB_at h hi)
def kinds (gs : List Int) (n : Nat) : List Int := [cntK gs 0 n, cntK gs 1 n, cntK gs 2 n, cntK gs 3 n]

set_option maxHeartbeats 4000000 in
theorem i_countKinds (ga : Option Addr) (gn gc : Nat) (gs : List Int) (w : World) (h : Recs 3 w ga gn gc gs) (hk : kindsOk gs gn) (hn : gn ≤ 300) :
    Calls Tryz.prog 50 #[.slice ga gn gc] w fun e w' => ∃ r c, e = .returned (.slice r 4 c) ∧ OwnI 3 w' w.heap.size r 4 c (kinds gs gn) ∧ Below w.heap.size w w' := by
  obtain ⟨W0, hW0⟩ : ∃ X : World, X = w := ⟨_, rfl⟩
  subst hW0
  have A0 := Below.refl W0.heap.size W0
  have HK := Lib.hid hk; clear hk
  obtain ⟨ii, hi, hz0, hz1, hz2⟩ := info_parts info_int
  go_enter Tryz.func50, Tryz.ntmps50
  go_wp2_with (at_make; refine wpList_make_full _ rfl _ _ 24 rfl W0.heap.size 3 ii (.int .i64 0) 1 Tryz.underlying24 hi hz0 hz1 _ _ _ _ 4 rfl rfl rfl rfl ?b1 ?b2 ?b3 ?_)
  case b1 => rw [hz2]; omega
  case b2 => unfold maxLen; omega
  case b3 => exact Nat.le_refl _
  intro w1 hown hgrow
  have hb1 : Below W0.heap.size W0 w1 := (Below.refl _ _).grown hgrow (Nat.le_refl _) (fun k hk => by cases hk)
  try simp only [Nat.mul_one, Value.cells] at hown
  rw [made_ivs] at hown
  obtain ⟨a', cap', hv, ho⟩ := OwnI.of hown (by omega) (fun x hx => by rw [List.eq_of_mem_replicate hx]; unfold Fits; omega)
  simp only [Value.slice.injEq] at hv
  obtain ⟨rfl, _, rfl⟩ := hv
  have ho2 : OwnI 3 w1 W0.heap.size (some ⟨W0.heap.size, 0, none⟩) 4 4 (kinds gs 0) := ho
  clear hown hgrow hi hz0 hz1 hz2 ho
  have HO := Lib.hid ho2; have HB := Lib.hid hb1; clear ho2
  clear hb1
  go_wp2
  go_loopw [9] (fun i W => ∃ k : Nat, k ≤ gn ∧ i = .int .i64 k ∧ Hid (OwnI 3 W W0.heap.size (some ⟨W0.heap.size, 0, none⟩) 4 4 (kinds gs k)) ∧ Hid (Below W0.heap.size W0 W)) (fun i _ => gn - (intOf i).toNat)
  case atStart => exact ⟨0, by omega, rfl, HO, HB⟩
  case round =>
    clear HO HB
    obtain ⟨k, hk, rfl, HO, HB⟩ := hrel
    by_cases hlt : k < gn
    · have hlti : (k : Int) < (gn : Int) := by omega
      obtain ⟨gb, go, rfl, gl, g0, g1, g2⟩ := (h.below (bel_trans A0 HB.out)).at3 hlt
      have hkk := HK.out k hlt
      have bd0 := cntK_bd gs 0 k
      have bd1 := cntK_bd gs 1 k
      have bd2 := cntK_bd gs 2 k
      have bd3 := cntK_bd gs 3 k
      obtain ⟨b00, b01⟩ := bd0
      obtain ⟨b10, b11⟩ := bd1
      obtain ⟨b20, b21⟩ := bd2
      obtain ⟨b30, b31⟩ := bd3
      have hgl := HB.out.size
      have A1 := bel_alloc wr (.cells #[.int .i64 (fld 3 gs k 0), .int .i64 (fld 3 gs k 1), .int .i64 (fld 3 gs k 2)] 65)
      have HO1 := HO.out.below A1
      have HS : ∀ q : Int, cntK gs q (k + 1) = cntK gs q k + (if fld 3 gs k 0 = q then 1 else 0) := fun q => rfl
      have HSS := Lib.hid HS; clear HS
      rcases hkk with hx | hx | hx | hx
      · obtain ⟨_, e9, _, l9, m9, f9⟩ := HO1.at (i := 0) (by omega)
        simp only [Option.some.injEq, Addr.mk.injEq] at e9
        obtain ⟨rfl, _, _⟩ := e9
        have m8 : (wr.alloc (.cells #[.int .i64 (fld 3 gs k 0), .int .i64 (fld 3 gs k 1), .int .i64 (fld 3 gs k 2)] 65)).cell? ⟨W0.heap.size, 0, none⟩ = some (.int .i64 (cntK gs 0 k)) := m9
        have e1 : IntKind.i64.wrap (cntK gs 0 k + 1) = cntK gs 0 k + 1 := IntWalk.i64_in _ (by omega)
        have HN := HO1.set (i := 0) (by omega) (cntK gs 0 k + 1) (by unfold Fits; omega)
        have HN2 : kinds gs (k + 1) = (kinds gs k).set 0 (cntK gs 0 k + 1) := by unfold kinds; rw [HSS.out, HSS.out, HSS.out, HSS.out, hx]; simp
        have HNN := Lib.hid HN; have HNE := Lib.hid HN2; clear HN HN2 HO1 m9 HO
        rw [hx] at m8 f9 A1 HNN g0
        go_wp2
        go_roundw
        case rel => exact ⟨k + 1, by omega, by go_num, (show Hid _ from by show OwnI _ _ _ _ _ _ _; rw [HNE.out]; exact HNN.out), (show Hid _ from (bel_trans HB.out A1).setCell (by dsimp only; omega) _)⟩
        case measure => simp [intOf]; omega
      · obtain ⟨_, e9, _, l9, m9, f9⟩ := HO1.at (i := 1) (by omega)
        simp only [Option.some.injEq, Addr.mk.injEq] at e9
        obtain ⟨rfl, _, _⟩ := e9
        have m8 : (wr.alloc (.cells #[.int .i64 (fld 3 gs k 0), .int .i64 (fld 3 gs k 1), .int .i64 (fld 3 gs k 2)] 65)).cell? ⟨W0.heap.size, 1, none⟩ = some (.int .i64 (cntK gs 1 k)) := m9
        have e1 : IntKind.i64.wrap (cntK gs 1 k + 1) = cntK gs 1 k + 1 := IntWalk.i64_in _ (by omega)
        have HN := HO1.set (i := 1) (by omega) (cntK gs 1 k + 1) (by unfold Fits; omega)
        have HN2 : kinds gs (k + 1) = (kinds gs k).set 1 (cntK gs 1 k + 1) := by unfold kinds; rw [HSS.out, HSS.out, HSS.out, HSS.out, hx]; simp
        have HNN := Lib.hid HN; have HNE := Lib.hid HN2; clear HN HN2 HO1 m9 HO
        rw [hx] at m8 f9 A1 HNN g0
        go_wp2
        go_roundw
        case rel => exact ⟨k + 1, by omega, by go_num, (show Hid _ from by show OwnI _ _ _ _ _ _ _; rw [HNE.out]; exact HNN.out), (show Hid _ from (bel_trans HB.out A1).setCell (by dsimp only; omega) _)⟩
        case measure => simp [intOf]; omega
      · obtain ⟨_, e9, _, l9, m9, f9⟩ := HO1.at (i := 2) (by omega)
        simp only [Option.some.injEq, Addr.mk.injEq] at e9
        obtain ⟨rfl, _, _⟩ := e9
        have m8 : (wr.alloc (.cells #[.int .i64 (fld 3 gs k 0), .int .i64 (fld 3 gs k 1), .int .i64 (fld 3 gs k 2)] 65)).cell? ⟨W0.heap.size, 2, none⟩ = some (.int .i64 (cntK gs 2 k)) := m9
        have e1 : IntKind.i64.wrap (cntK gs 2 k + 1) = cntK gs 2 k + 1 := IntWalk.i64_in _ (by omega)
        have HN := HO1.set (i := 2) (by omega) (cntK gs 2 k + 1) (by unfold Fits; omega)
        have HN2 : kinds gs (k + 1) = (kinds gs k).set 2 (cntK gs 2 k + 1) := by unfold kinds; rw [HSS.out, HSS.out, HSS.out, HSS.out, hx]; simp
        have HNN := Lib.hid HN; have HNE := Lib.hid HN2; clear HN HN2 HO1 m9 HO
        rw [hx] at m8 f9 A1 HNN g0
        go_wp2
        go_roundw
        case rel => exact ⟨k + 1, by omega, by go_num, (show Hid _ from by show OwnI _ _ _ _ _ _ _; rw [HNE.out]; exact HNN.out), (show Hid _ from (bel_trans HB.out A1).setCell (by dsimp only; omega) _)⟩
        case measure => simp [intOf]; omega
      · obtain ⟨_, e9, _, l9, m9, f9⟩ := HO1.at (i := 3) (by omega)
        simp only [Option.some.injEq, Addr.mk.injEq] at e9
        obtain ⟨rfl, _, _⟩ := e9
        have m8 : (wr.alloc (.cells #[.int .i64 (fld 3 gs k 0), .int .i64 (fld 3 gs k 1), .int .i64 (fld 3 gs k 2)] 65)).cell? ⟨W0.heap.size, 3, none⟩ = some (.int .i64 (cntK gs 3 k)) := m9
        have e1 : IntKind.i64.wrap (cntK gs 3 k + 1) = cntK gs 3 k + 1 := IntWalk.i64_in _ (by omega)
        have HN := HO1.set (i := 3) (by omega) (cntK gs 3 k + 1) (by unfold Fits; omega)
        have HN2 : kinds gs (k + 1) = (kinds gs k).set 3 (cntK gs 3 k + 1) := by unfold kinds; rw [HSS.out, HSS.out, HSS.out, HSS.out, hx]; simp
        have HNN := Lib.hid HN; have HNE := Lib.hid HN2; clear HN HN2 HO1 m9 HO
        rw [hx] at m8 f9 A1 HNN g0
        go_wp2
        go_roundw
        case rel => exact ⟨k + 1, by omega, by go_num, (show Hid _ from by show OwnI _ _ _ _ _ _ _; rw [HNE.out]; exact HNN.out), (show Hid _ from (bel_trans HB.out A1).setCell (by dsimp only; omega) _)⟩
        case measure => simp [intOf]; omega
    · obtain rfl : k = gn := by omega
      have hlti : ¬ (k : Int) < (k : Int) := by omega
      have HF := Lib.hid (HO.out.base (B' := W0.heap.size) (by have := A0.size; omega)); have HBF := Lib.hid (bel_trans A0 HB.out)
      go_wp2
      go_ret
      exact ⟨_, _, rfl, HF.out, HBF.out⟩
end Go.Proofs.YtfichpppjpgahaaGreatDoor
