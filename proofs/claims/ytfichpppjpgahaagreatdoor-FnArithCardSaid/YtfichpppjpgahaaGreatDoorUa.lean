/-
  Contracts: a circuit with the sum and the product of two outs added, the reference's side.
-/
import Derived.Test.YtfichpppjpgahaaGreatDoorFm12
import Derived.Test.YtfichpppjpgahaaGreatDoorFm14
import Derived.Deep.RegionHeld3
namespace Go.Proofs.YtfichpppjpgahaaGreatDoor
open Go.RowKit
set_option linter.unusedVariables false
set_option linter.unusedSimpArgs false
set_option maxRecDepth 10000

/-- append of a slice of ints to a row: what is known of the new row. -/
theorem run_appIs (w : World) (B k : Nat) (v : Value) (zs ys : List Int) (ad : Addr) (m cap : Nat) (ty : TypeId)
    (hy : Ints w (some ad) m cap ys) (hown : w.ownsRow B 3 1 v k (ivs zs)) (hB : B ≤ w.heap.size) (hn : k + m ≤ 100000000) :
    ∃ v' w', (Builtin.append_ #[24, 24] ty #[v, .slice (some ad) m cap]).run Tryz.prog w = .ok v' w' ∧ w'.ownsRow B 3 1 v' (k + m) (ivs (zs ++ ys)) ∧ Below B w w' ∧ w.grownBy w' v.ownBlock ∧ (v'.ownBlock = v.ownBlock ∨ v'.ownBlock = some w.heap.size) := by
  obtain ⟨i0, hi, hz0, hz1, hz2⟩ := info_parts info_int
  have hlen := hy.len.out
  have hN1 : ∀ j c, (ivs ys)[j]? = some c → w.cell? (ad.add j) = some c := by
    intro j c hj
    have hjm : j < m := by
      rcases Nat.lt_or_ge j m with q | q
      · exact q
      · rw [List.getElem?_eq_none (by rw [ivs_len, hlen]; exact q)] at hj; cases hj
    obtain ⟨b, off, e, _, hcell⟩ := hy.at hjm
    simp only [Option.some.injEq] at e
    subst e
    have e2 : (⟨b, off, none⟩ : Addr).add j = ⟨b, off + j, none⟩ := by
      unfold Addr.add; split
      · rename_i h0; subst h0; rfl
      · rfl
    rw [e2, hcell]
    simp only [ivs, List.getElem?_map] at hj
    rw [List.getElem?_eq_getElem (by omega)] at hj
    simp only [Option.map_some, Option.some.injEq] at hj
    rw [← hj, nth_get (by omega)]
  have hN2 : ∀ c ∈ ivs ys, c.oneCell' = true := by
    intro c hc
    simp only [ivs, List.mem_map] at hc
    obtain ⟨q, _, rfl⟩ := hc
    rfl
  obtain ⟨v', w', hrun, k1, k2, k0, k3⟩ := run_append_own_at (P := Tryz.prog) w B 24 ty 3 i0 (.int .i64 0) 1 8 Tryz.underlying24 hi hz0 hz1 hz2 rfl (by decide) v k (ivs zs) hown ad m cap (ivs ys) (by rw [ivs_len, hlen, Nat.mul_one]) hN1 hN2 (by unfold maxLen; omega) (by omega) hB
  exact ⟨v', w', hrun, by rw [ivs_app]; exact k1, below_grown_own hown k2 hB, k2, k3⟩
theorem wp_appIs {ops : Array Oper} {rest : List Oper} {o : Oper} {a : Act} {Q : Exit → Act → World → Prop} (w : World) (B k : Nat) (v : Value) (zs ys : List Int) (ad : Addr) (m cap : Nat)
    (hg : o.guard = none) (s x : Operand) (ho : o.op = .call { callee := .builtin .append, args := #[s, x], argTypes := #[24, 24] })
    (hs : a.eval s = v) (hx : a.eval x = .slice (some ad) m cap) (hy : Ints w (some ad) m cap ys) (hown : w.ownsRow B 3 1 v k (ivs zs)) (hB : B ≤ w.heap.size) (hn : k + m ≤ 100000000)
    (h : ∀ v' w', w'.ownsRow B 3 1 v' (k + m) (ivs (zs ++ ys)) → Below B w w' → w.grownBy w' v.ownBlock → (v'.ownBlock = v.ownBlock ∨ v'.ownBlock = some w.heap.size) → wpList Tryz.prog ops Q rest (a.put o.dst v') w') :
    wpList Tryz.prog ops Q (o :: rest) a w := by
  obtain ⟨v', w', hrun, k1, kb, k2, k3⟩ := run_appIs w B k v zs ys ad m cap o.type hy hown hB hn
  refine wpList_plain hg fun K hK' => ?_
  unfold Oper.wp execOp
  simp only [ho, resolve, invoke, builtin, Sem.run_bind, Sem.run_pure, Result.andThen_ok, List.map_toArray, List.map_cons, List.map_nil, hs, hx, hrun]
  exact hK' _ _ (h v' w' k1 kb k2 k3)
theorem Recs.lit6 {w : World} {m : Nat} {t : TypeId} {x0 x1 x2 x3 x4 x5 : Int} (hm : m = w.heap.size) (h0 : Fits x0) (h1 : Fits x1) (h2 : Fits x2) (h3 : Fits x3) (h4 : Fits x4) (h5 : Fits x5) :
    Recs 3 (w.alloc (.cells #[.int .i64 x0, .int .i64 x1, .int .i64 x2, .int .i64 x3, .int .i64 x4, .int .i64 x5] t)) (some ⟨m, 0, none⟩) 2 2 [x0, x1, x2, x3, x4, x5] :=
  ⟨Ints.lit [x0, x1, x2, x3, x4, x5] _ t hm rfl (by simp) (by simp [h0, h1, h2, h3, h4, h5]), by omega, by omega, by omega, fun e => by cases e⟩
theorem B5w.far {w w' : World} {b B : Nat} {x0 x1 x2 x3 x4 : Value} (h : B5w w b x0 x1 x2 x3 x4) (hb : Below B w w') (hB : b < B) : B5w w' b x0 x1 x2 x3 x4 :=
  ⟨⟨(hb.cell (p := ⟨b, 0, none⟩) hB).trans h.r.c0, (hb.cell (p := ⟨b, 1, none⟩) hB).trans h.r.c1, (hb.cell (p := ⟨b, 2, none⟩) hB).trans h.r.c2, (hb.cell (p := ⟨b, 3, none⟩) hB).trans h.r.c3, (hb.cell (p := ⟨b, 4, none⟩) hB).trans h.r.c4⟩,
    (World.frozen?_of_block (a := ⟨b, 0, none⟩) (hb.block b hB)).trans h.f0, (World.frozen?_of_block (a := ⟨b, 1, none⟩) (hb.block b hB)).trans h.f1, (World.frozen?_of_block (a := ⟨b, 2, none⟩) (hb.block b hB)).trans h.f2, (World.frozen?_of_block (a := ⟨b, 3, none⟩) (hb.block b hB)).trans h.f3, (World.frozen?_of_block (a := ⟨b, 4, none⟩) (hb.block b hB)).trans h.f4⟩
/-- What AddOut answers at the first and the last out. -/
def aoOf (p i0 i1 : Int) (gs : List Int) (gn : Nat) (os : List Int) (m : Nat) : Cand × Bool :=
  if arC p i0 i1 (addGs gs (nth os 0) (nth os m)) (gn + 2) (addOs os (i0 + i1 + gn)) then (⟨p, i0, i1, addGs gs (nth os 0) (nth os m), gn + 2, addOs os (i0 + i1 + gn)⟩, true) else (Cand.zero, false)
set_option maxHeartbeats 8000000 in
theorem s_AddOut (p i0 i1 : Int) (ga : Option Addr) (gn gc : Nat) (gs : List Int) (oa : Option Addr) (on oc : Nat) (os : List Int) (m : Nat) (w : World) (h : Circ w ga gn gc gs oa on oc os) (hAC : arC p i0 i1 gs gn os = true) (hm : on = m + 1) :
    Calls Tryz.prog 21 #[.agg #[.int .i64 p, .int .i64 i0, .int .i64 i1, .slice ga gn gc, .slice oa on oc], .int .i64 0, .int .i64 (m : Int)] w fun e w' => ∃ (c : Cand) (ok : Bool) (ga : Option Addr) (gc : Nat) (oa : Option Addr) (oc : Nat), (c, ok) = aoOf p i0 i1 gs gn os m ∧ e = .returned (.tuple #[.agg #[.int .i64 c.p, .int .i64 c.i0, .int .i64 c.i1, .slice ga c.gn gc, .slice oa c.os.length oc], .bool ok]) ∧ Circ w' ga c.gn gc c.gs oa c.os.length oc c.os ∧ Below w.heap.size w w' := by
  have hm1 : m + 1 ≤ on := by omega
  have hm2 : on ≤ m + 1 := by omega
  clear hm
  have hlo := h.o.len.out
  obtain ⟨⟨hp1, hp2⟩, ⟨h01, h02⟩, ⟨h11, h12⟩, hKG, hKO, hgn, hon⟩ := arC_ok hAC
  rw [hlo] at hon
  have hI0 : inB 0 0 (m : Int) = true := inB_iff.2 ⟨by omega, by omega⟩
  have hI1 : inB (m : Int) 0 (m : Int) = true := inB_iff.2 ⟨by omega, by omega⟩
  have e1 : IntKind.i64.wrap ((on : Int) - 1) = (m : Int) := by rw [IntWalk.i64_in _ (by omega)]; omega
  obtain ⟨N, hN⟩ : ∃ N : Int, i0 + i1 + gn = N := ⟨_, rfl⟩
  have hN0 : 0 ≤ N ∧ N ≤ 200 := by omega
  obtain ⟨hN0, hN1⟩ := hN0
  have A0 := bel_alloc w (.cells #[.int .i64 p, .int .i64 i0, .int .i64 i1, .slice ga gn gc, .slice oa on oc] 26)
  have g0 := B5.new (w := w) (x0 := .int .i64 p) (x1 := .int .i64 i0) (x2 := .int .i64 i1) (x3 := .slice ga gn gc) (x4 := .slice oa on oc) (t := 26)
  obtain ⟨W1, hW1⟩ : ∃ X, w.alloc (.cells #[.int .i64 p, .int .i64 i0, .int .i64 i1, .slice ga gn gc, .slice oa on oc] 26) = X := ⟨_, rfl⟩
  rw [hW1] at A0 g0
  have hz1 : W1.heap.size = w.heap.size + 1 := by rw [← hW1]; simp
  have A1 := bel_alloc W1 (.cells #[.int .i64 0, .int .i64 0, .int .i64 0, .slice none 0 0, .slice none 0 0] 26)
  have R1 := B5w.new (w := W1) (x0 := .int .i64 0) (x1 := .int .i64 0) (x2 := .int .i64 0) (x3 := .slice none 0 0) (x4 := .slice none 0 0) (t := 26)
  obtain ⟨W2, hW2⟩ : ∃ X, W1.alloc (.cells #[.int .i64 0, .int .i64 0, .int .i64 0, .slice none 0 0, .slice none 0 0] 26) = X := ⟨_, rfl⟩
  rw [hW2] at A1 R1
  have hz2 : W2.heap.size = w.heap.size + 2 := by rw [← hW2]; simp; omega
  rw [hz1] at R1
  have B2 := bel_trans A0 A1
  have HH := Lib.hid (h.below B2)
  have hf0 : Fits (nth os 0) := h.o.wf _ (nth_mem (by omega))
  have hfm : Fits (nth os m) := h.o.wf _ (nth_mem (by omega))
  have hFG := Lib.hid h.g.ints.wf; have hFO := Lib.hid h.o.wf
  have g2 := g0.on A1
  obtain ⟨c0, c1, c2, c3, c4⟩ := id g2
  have RC := Lib.hid R1; have HL := Lib.hid hlo; have HNN := Lib.hid hN; have HAC := Lib.hid hAC
  clear h hKG hKO R1 g0 g2 A0 A1 hlo hN hAC
  have hGood := Lib.hid (s_arGood p i0 i1 ga gn gc gs oa on oc os W2 HH.out)
  rw [HAC.out] at hGood
  go_enter Tryz.func21, Tryz.ntmps21
  go_wp2_with fail
  refine hGood.out.mono ?_; rintro e w3 ⟨rfl, hb3⟩
  have B3 := Lib.hid (bel_trans B2 hb3); have HH3 := Lib.hid (HH.out.below hb3); replace RC := Lib.hid (RC.out.on hb3)
  replace c0 := cell_on c0 hb3; replace c1 := cell_on c1 hb3; replace c2 := cell_on c2 hb3; replace c3 := cell_on c3 hb3; replace c4 := cell_on c4 hb3
  have hz3 := hb3.size
  clear hb3 hGood HH
  go_wp2_with fail
  refine (s_l1In _ _ _ _).mono ?_; rintro e wl ⟨rfl, rfl⟩; rw [hI0]
  go_wp2_with fail
  refine (s_l1In _ _ _ _).mono ?_; rintro e wl ⟨rfl, rfl⟩; rw [hI1]
  go_wp2_with fail
  refine (s_arOwn p i0 i1 ga gn gc gs oa on oc os _ HH3.out (by omega) (by omega)).mono ?_; rintro e w4 ⟨v2, v3, rfl, hR, hb4⟩
  obtain ⟨ra, rc, rfl⟩ := own_sl hR.og; obtain ⟨sa, sc, rfl⟩ := own_sl hR.oo
  have hA := AnyA.new (t := 26) (x0 := p) (x1 := i0) (x2 := i1) hR hb4.size
  have A4 := bel_alloc w4 (.cells #[.int .i64 p, .int .i64 i0, .int .i64 i1, .slice ra gn rc, .slice sa on sc] 26)
  have hb5 := bel_trans hb4 A4
  obtain ⟨W5, hW5⟩ : ∃ X, w4.alloc (.cells #[.int .i64 p, .int .i64 i0, .int .i64 i1, .slice ra gn rc, .slice sa on sc] 26) = X := ⟨_, rfl⟩
  rw [hW5] at hA A4 hb5
  have B5 := Lib.hid (bel_trans B3.out hb5); have HH5 := Lib.hid (HH3.out.below hb5); replace RC := Lib.hid (RC.out.on hb5)
  replace c0 := cell_on c0 hb5; replace c1 := cell_on c1 hb5; replace c2 := cell_on c2 hb5; replace c3 := cell_on c3 hb5; replace c4 := cell_on c4 hb5
  have hz5 := hb5.size; have hz4 := hb4.size
  have HA := Lib.hid hA
  clear hA A4 hb5 hb4 hR HH3 B3
  obtain ⟨ob, oo, rfl, hobl, ko⟩ := HH5.out.o.at (i := 0) (by omega)
  obtain ⟨ob', oo', eo, hobl', km⟩ := HH5.out.o.at (i := m) (by omega)
  simp only [Option.some.injEq, Addr.mk.injEq, and_true] at eo; obtain ⟨rfl, rfl⟩ := eo
  rw [Nat.add_zero] at ko
  have hon0 : (0 : Int) < (on : Int) := by omega
  have honm : (m : Int) < (on : Int) := by omega
  have hon0n : 0 < on := by omega
  have honmn : m < on := by omega
  have c0 := cell_on c0 (bel_drew W5); have c1 := cell_on c1 (bel_drew W5); have c2 := cell_on c2 (bel_drew W5); have c3 := cell_on c3 (bel_drew W5); have c4 := cell_on c4 (bel_drew W5); have ko := cell_on ko (bel_drew W5); have km := cell_on km (bel_drew W5)
  go_wp2_with fail
  refine wp_region_held_drew (S := (fun W => W.cell? ⟨w.heap.size, 0, none⟩ = some (.int .i64 p) ∧ W.cell? ⟨w.heap.size, 1, none⟩ = some (.int .i64 i0) ∧ W.cell? ⟨w.heap.size, 2, none⟩ = some (.int .i64 i1) ∧ W.cell? ⟨w.heap.size, 3, none⟩ = some (.slice ga gn gc) ∧ W.cell? ⟨w.heap.size, 4, none⟩ = some (.slice (some ⟨ob, oo, none⟩) on oc) ∧ W.cell? ⟨ob, oo, none⟩ = some (.int .i64 (nth os 0)) ∧ W.cell? ⟨ob, oo + m, none⟩ = some (.int .i64 (nth os m)))) (by kernel_rfl) (by exact ⟨c0, c1, c2, c3, c4, ko, km⟩) (fun hHeld => ?_)
  refine wpAnyH_take (i := 0) (oi := ?oi0_1) (v := ?v0_1) ?ho0_1 (by kernel_rfl) (by kernel_rfl) (by kernel_rfl) ?hQ0_1 ?hy0_1 hHeld ?hr0_1
  case ho0_1 => simp only [List.getElem?_toArray, List.getElem?_cons_succ, List.getElem?_cons_zero]; rfl
  case hQ0_1 => exact fun _ _ _ h => h
  case hy0_1 => exact Or.inl ⟨by rfl, by (intro w hSw; go_simp; try with_reducible rfl)⟩
  try simp only [Act.put, List.setIfInBounds_toArray, List.set_cons_zero, List.set_cons_succ]
  refine wpAnyH_take (i := 1) (oi := ?oi1_1) (v := ?v1_1) ?ho1_1 (by kernel_rfl) (by kernel_rfl) (by kernel_rfl) ?hQ1_1 ?hy1_1 hHeld ?hr1_1
  case ho1_1 => simp only [List.getElem?_toArray, List.getElem?_cons_succ, List.getElem?_cons_zero]; rfl
  case hQ1_1 => exact fun _ _ _ h => h
  case hy1_1 => exact Or.inl ⟨by rfl, by (intro w hSw; go_simp; try with_reducible rfl)⟩
  try simp only [Act.put, List.setIfInBounds_toArray, List.set_cons_zero, List.set_cons_succ]
  refine wpAnyH_take (i := 2) (oi := ?oi2_1) (v := ?v2_1) ?ho2_1 (by kernel_rfl) (by kernel_rfl) (by kernel_rfl) ?hQ2_1 ?hy2_1 hHeld ?hr2_1
  case ho2_1 => simp only [List.getElem?_toArray, List.getElem?_cons_succ, List.getElem?_cons_zero]; rfl
  case hQ2_1 => exact fun _ _ _ h => h
  case hy2_1 => exact Or.inl ⟨by rfl, by (intro w hSw; go_simp; try with_reducible rfl)⟩
  try simp only [Act.put, List.setIfInBounds_toArray, List.set_cons_zero, List.set_cons_succ]
  refine wpAnyH_take (i := 3) (oi := ?oi3_1) (v := ?v3_1) ?ho3_1 (by kernel_rfl) (by kernel_rfl) (by kernel_rfl) ?hQ3_1 ?hy3_1 hHeld ?hr3_1
  case ho3_1 => simp only [List.getElem?_toArray, List.getElem?_cons_succ, List.getElem?_cons_zero]; rfl
  case hQ3_1 => exact fun _ _ _ h => h
  case hy3_1 => exact Or.inl ⟨by rfl, by (intro w hSw; go_simp; try with_reducible rfl)⟩
  try simp only [Act.put, List.setIfInBounds_toArray, List.set_cons_zero, List.set_cons_succ]
  refine wpAnyH_take (i := 4) (oi := ?oi4_1) (v := ?v4_1) ?ho4_1 (by kernel_rfl) (by kernel_rfl) (by kernel_rfl) ?hQ4_1 ?hy4_1 hHeld ?hr4_1
  case ho4_1 => simp only [List.getElem?_toArray, List.getElem?_cons_succ, List.getElem?_cons_zero]; rfl
  case hQ4_1 => exact fun _ _ _ h => h
  case hy4_1 => exact Or.inl ⟨by rfl, by (intro w hSw; go_simp; try with_reducible rfl)⟩
  try simp only [Act.put, List.setIfInBounds_toArray, List.set_cons_zero, List.set_cons_succ]
  refine wpAnyH_take (i := 5) (oi := ?oi5_1) (v := ?v5_1) ?ho5_1 (by kernel_rfl) (by kernel_rfl) (by kernel_rfl) ?hQ5_1 ?hy5_1 hHeld ?hr5_1
  case ho5_1 => simp only [List.getElem?_toArray, List.getElem?_cons_succ, List.getElem?_cons_zero]; rfl
  case hQ5_1 => exact fun _ _ _ h => h
  case hy5_1 => exact Or.inl ⟨by rfl, by (intro w hSw; go_simp; try with_reducible rfl)⟩
  try simp only [Act.put, List.setIfInBounds_toArray, List.set_cons_zero, List.set_cons_succ]
  refine wpAnyH_take (i := 6) (oi := ?oi6_1) (v := ?v6_1) ?ho6_1 (by kernel_rfl) (by kernel_rfl) (by kernel_rfl) ?hQ6_1 ?hy6_1 hHeld ?hr6_1
  case ho6_1 => simp only [List.getElem?_toArray, List.getElem?_cons_succ, List.getElem?_cons_zero]; rfl
  case hQ6_1 => exact fun _ _ _ h => h
  case hy6_1 => exact Or.inl ⟨by rfl, by (intro w hSw; go_simp; try with_reducible rfl)⟩
  try simp only [Act.put, List.setIfInBounds_toArray, List.set_cons_zero, List.set_cons_succ]
  refine wpAnyH_take (i := 7) (oi := ?oi7_1) (v := ?v7_1) ?ho7_1 (by kernel_rfl) (by kernel_rfl) (by kernel_rfl) ?hQ7_1 ?hy7_1 hHeld ?hr7_1
  case ho7_1 => simp only [List.getElem?_toArray, List.getElem?_cons_succ, List.getElem?_cons_zero]; rfl
  case hQ7_1 => exact fun _ _ _ h => h
  case hy7_1 => exact Or.inl ⟨by rfl, by (intro w hSw; go_simp; try with_reducible rfl)⟩
  try simp only [Act.put, List.setIfInBounds_toArray, List.set_cons_zero, List.set_cons_succ]
  refine wpAnyH_take (i := 8) (oi := ?oi8_1) (v := ?v8_1) ?ho8_1 (by kernel_rfl) (by kernel_rfl) (by kernel_rfl) ?hQ8_1 ?hy8_1 hHeld ?hr8_1
  case ho8_1 => simp only [List.getElem?_toArray, List.getElem?_cons_succ, List.getElem?_cons_zero]; rfl
  case hQ8_1 => exact fun _ _ _ h => h
  case hy8_1 => exact Or.inl ⟨by rfl, by (intro w hSw; go_simp; try with_reducible rfl)⟩
  try simp only [Act.put, List.setIfInBounds_toArray, List.set_cons_zero, List.set_cons_succ]
  refine wpAnyH_take (i := 9) (oi := ?oi9_1) (v := ?v9_1) ?ho9_1 (by kernel_rfl) (by kernel_rfl) (by kernel_rfl) ?hQ9_1 ?hy9_1 hHeld ?hr9_1
  case ho9_1 => simp only [List.getElem?_toArray, List.getElem?_cons_succ, List.getElem?_cons_zero]; rfl
  case hQ9_1 => exact fun _ _ _ h => h
  case hy9_1 => exact Or.inl ⟨by rfl, by (intro w hSw; go_simp; try with_reducible rfl)⟩
  try simp only [Act.put, List.setIfInBounds_toArray, List.set_cons_zero, List.set_cons_succ]
  refine wpAnyH_take (i := 10) (oi := ?oi10_1) (v := ?v10_1) ?ho10_1 (by kernel_rfl) (by kernel_rfl) (by kernel_rfl) ?hQ10_1 ?hy10_1 hHeld ?hr10_1
  case ho10_1 => simp only [List.getElem?_toArray, List.getElem?_cons_succ, List.getElem?_cons_zero]; rfl
  case hQ10_1 => exact fun _ _ _ h => h
  case hy10_1 => exact Or.inl ⟨by rfl, by (intro w hSw; go_simp; try with_reducible rfl)⟩
  try simp only [Act.put, List.setIfInBounds_toArray, List.set_cons_zero, List.set_cons_succ]
  refine wpAnyH_ready (rs := [11]) (by kernel_rfl) (by simp) ?_
  refine AllReadyH.cons (o := ?o11_1) ?ho11_1 (fun K hK => ?hs11_1) AllReadyH.nil
  case ho11_1 => simp only [List.getElem?_toArray, List.getElem?_cons_succ, List.getElem?_cons_zero]; rfl
  go_simp
  go_at_call 54; refine (s_arWires p i0 i1 ga gn gc (some ⟨ob, oo, none⟩) on oc _ (by omega) (by omega) (by omega)).mono ?_; rintro e w6 ⟨he, hb6⟩; rw [HNN.out] at he; subst he; have hb7 := bel_trans (bel_drew W5) hb6; have c0 := cell_on c0 hb6; have c1 := cell_on c1 hb6; have c2 := cell_on c2 hb6; have c3 := cell_on c3 hb6; have c4 := cell_on c4 hb6; have ko := cell_on ko hb6; have km := cell_on km hb6
  refine hK.out _ _ ?hS11_1 (fun hHeld => ?hr11_1)
  case hS11_1 => exact ⟨c0, c1, c2, c3, c4, ko, km⟩
  clear hK K
  try simp only [Act.put, List.setIfInBounds_toArray, List.set_cons_zero, List.set_cons_succ]
  refine wpAnyH_take (i := 12) (oi := ?oi12_1) (v := ?v12_1) ?ho12_1 (by kernel_rfl) (by kernel_rfl) (by kernel_rfl) ?hQ12_1 ?hy12_1 hHeld ?hr12_1
  case ho12_1 => simp only [List.getElem?_toArray, List.getElem?_cons_succ, List.getElem?_cons_zero]; rfl
  case hQ12_1 => exact fun _ _ _ h => h
  case hy12_1 => exact Or.inl ⟨by rfl, by (intro w hSw; go_simp; try with_reducible rfl)⟩
  try simp only [Act.put, List.setIfInBounds_toArray, List.set_cons_zero, List.set_cons_succ]
  refine wpAnyH_take (i := 13) (oi := ?oi13_1) (v := ?v13_1) ?ho13_1 (by kernel_rfl) (by kernel_rfl) (by kernel_rfl) ?hQ13_1 ?hy13_1 hHeld ?hr13_1
  case ho13_1 => simp only [List.getElem?_toArray, List.getElem?_cons_succ, List.getElem?_cons_zero]; rfl
  case hQ13_1 => exact fun _ _ _ h => h
  case hy13_1 => exact Or.inl ⟨by rfl, by (intro w hSw; go_simp; try with_reducible rfl)⟩
  try simp only [Act.put, List.setIfInBounds_toArray, List.set_cons_zero, List.set_cons_succ]
  refine wpAnyH_take (i := 14) (oi := ?oi14_1) (v := ?v14_1) ?ho14_1 (by kernel_rfl) (by kernel_rfl) (by kernel_rfl) ?hQ14_1 ?hy14_1 hHeld ?hr14_1
  case ho14_1 => simp only [List.getElem?_toArray, List.getElem?_cons_succ, List.getElem?_cons_zero]; rfl
  case hQ14_1 => exact fun _ _ _ h => h
  case hy14_1 => exact Or.inl ⟨by rfl, by (intro w hSw; go_simp; try with_reducible rfl)⟩
  try simp only [Act.put, List.setIfInBounds_toArray, List.set_cons_zero, List.set_cons_succ]
  refine wpAnyH_done (by kernel_rfl) ?_ _
  have B7 := Lib.hid (bel_trans B5.out hb7); replace RC := Lib.hid (RC.out.on hb7); replace HA := Lib.hid (HA.out.below hb7)
  have hz7 := hb7.size; have hg7 := HA.out.lt
  clear c0 c1 c2 c3 c4 ko km hb6 hb7 B5 HH5
  obtain ⟨c0, c1, c2, c3, c4⟩ := id HA.out.box.r
  have A6 := bel_alloc w6 (.cells #[.int .i64 0, .int .i64 (nth os 0), .int .i64 (nth os m), .int .i64 1, .int .i64 (nth os 0), .int .i64 (nth os m)] 65)
  have HA6 := Lib.hid (HA.out.below A6)
  have hR6 := Recs.lit6 (w := w6) (m := w6.heap.size) (t := 65) rfl (show Fits 0 by unfold Fits; omega) hf0 hfm (show Fits 1 by unfold Fits; omega) hf0 hfm
  have hz6 := A6.size
  have HF6 := Lib.hid (show ∀ x ∈ gs ++ [0, nth os 0, nth os m, 1, nth os 0, nth os m], Fits x from fun x hx => by
    rcases List.mem_append.1 hx with e | e
    · exact HA.out.r.fg.out x e
    · simp only [List.mem_cons, List.not_mem_nil, or_false] at e
      rcases e with rfl | rfl | rfl | rfl | rfl | rfl <;> first | assumption | (unfold Fits; omega))
  have HF2 := Lib.hid (show ∀ x ∈ os ++ [N, N + 1], Fits x from fun x hx => by
    rcases List.mem_append.1 hx with e | e
    · exact HA.out.r.fo.out x e
    · simp only [List.mem_cons, List.not_mem_nil, or_false] at e
      rcases e with rfl | rfl <;> (unfold Fits; omega))
  have eN : IntKind.i64.wrap (N + 1) = N + 1 := IntWalk.i64_in _ (by omega)
  have BA6 := Lib.hid (bel_trans B7.out A6); replace RC := Lib.hid (RC.out.on A6)
  go_wp2_with (at_builtin; first | (refine wp_appGs (w6.alloc (.cells #[.int .i64 0, .int .i64 (nth os 0), .int .i64 (nth os m), .int .i64 1, .int .i64 (nth os 0), .int .i64 (nth os m)] 65)) w3.heap.size gn _ gs [0, nth os 0, nth os m, 1, nth os 0, nth os m] _ _ _ rfl _ _ rfl rfl rfl hR6 HA6.out.r.og (by omega) (by omega) ?_; intro v9 w9 hv9 hb9 hg9 ho9; obtain ⟨r9, k9, rfl⟩ := own_sl hv9; have hB := HA6.out.box.grown hg9 (fun e => HA6.out.d2 e.symm); have j3 := hB.r.c3; have jf := hB.f3; have HA9 := Lib.hid (HA6.out.gates hv9 hg9 ho9 HF6); have BA9 := Lib.hid ((BA6.out.trans (hb9.mono (by omega))).setCell (p := ⟨w4.heap.size, 3, none⟩) (by simp only []; omega) (.slice r9 (gn + 2) k9)); have RC9 := Lib.hid ((RC.out.far hb9 (by omega)).other (p := ⟨w4.heap.size, 3, none⟩) (by simp only []; omega) (.slice r9 (gn + 2) k9)); have hs9 := hb9.size; obtain ⟨W9, hW9⟩ : ∃ X, w9.setCell ⟨w4.heap.size, 3, none⟩ (.slice r9 (gn + 2) k9) = X := ⟨_, rfl⟩; have hz9 : W9.heap.size = w9.heap.size := (by rw [← hW9]; simp); rw [hW9] at HA9 BA9 RC9; have d4 := HA9.out.box.r.c4; have A9 := bel_alloc W9 (.cells #[.int .i64 N, .int .i64 (N + 1)] 3); have HA9a := Lib.hid (HA9.out.below A9); have hI9 := Ints.lit2 (w := W9) (m := W9.heap.size) (t := 3) (a := N) (b := N + 1) rfl (by unfold Fits; omega) (by unfold Fits; omega); have hz10 := A9.size; rw [hz9] at hI9) | (refine wp_appIs (W9.alloc (.cells #[.int .i64 N, .int .i64 (N + 1)] 3)) w3.heap.size on _ os [N, N + 1] _ _ _ rfl _ _ rfl rfl rfl hI9 HA9a.out.r.oo (by omega) (by omega) ?_; intro v10 w10 hv10 hb10 hg10 ho10; obtain ⟨r10, k10, rfl⟩ := own_sl hv10; have hB10 := HA9a.out.box.grown hg10 (fun e => HA9a.out.d3 e.symm); have j4 := hB10.r.c4; have jf4 := hB10.f4; have HA10 := Lib.hid (HA9a.out.outs hv10 hg10 ho10 HF2); have BA10 := Lib.hid (((bel_trans BA9.out A9).trans (hb10.mono (by omega))).setCell (p := ⟨w4.heap.size, 4, none⟩) (by simp only []; omega) (.slice r10 (on + 2) k10)); have RC10 := Lib.hid (((RC9.out.on A9).far hb10 (by omega)).other (p := ⟨w4.heap.size, 4, none⟩) (by simp only []; omega) (.slice r10 (on + 2) k10)); obtain ⟨W10, hW10⟩ : ∃ X, w10.setCell ⟨w4.heap.size, 4, none⟩ (.slice r10 (on + 2) k10) = X := ⟨_, rfl⟩; rw [hW10] at HA10 BA10 RC10; obtain ⟨c0, c1, c2, c3, c4⟩ := id HA10.out.box.r))
  have HA11 := Lib.hid (show AnyA W10 w3.heap.size w4.heap.size p i0 i1 (.slice r9 (gn + 2) k9) (gn + 2) (addGs gs (nth os 0) (nth os m)) (.slice r10 (on + 2) k10) (on + 2) (addOs os N) from HA10.out)
  clear HA10 HA9a HA9 HA6 RC9 BA9 BA6 j3 jf j4 jf4 hB hB10 d4 hv9 hg9 ho9 hv10 hg10 ho10 HF6 HF2 hI9 hR6
  have hCi := HA11.out.r.circ (by omega) (by omega)
  have hGood := Lib.hid (s_arGood p i0 i1 r9 (gn + 2) k9 _ r10 (on + 2) k10 _ W10 hCi)
  clear hCi
  obtain ⟨ok, hok⟩ : ∃ ok, arC p i0 i1 (addGs gs (nth os 0) (nth os m)) (gn + 2) (addOs os N) = ok := ⟨_, rfl⟩
  rw [hok] at hGood
  have HOK := Lib.hid hok; clear hok
  refine hGood.out.mono ?_; rintro e w11 ⟨rfl, hb11⟩
  have BB := Lib.hid (bel_trans BA10.out hb11); have R11 := RC10.out.on hb11; have HA12 := Lib.hid (HA11.out.below hb11)
  have hL2 : (addOs os N).length = on + 2 := by unfold addOs; rw [List.length_append, HL.out]; rfl
  have HLL := Lib.hid hL2; clear hL2
  clear c0 c1 c2 c3 c4 hb11 hGood RC10 BA10 HA11
  obtain ⟨c0, c1, c2, c3, c4⟩ := id HA12.out.box.r
  obtain ⟨⟨r0, r1, r2, r3, r4⟩, f0, f1, f2, f3, f4⟩ := id R11
  cases ok with
  | false =>
    have HPA := Lib.hid (show (Cand.zero, false) = aoOf p i0 i1 gs gn os m by unfold aoOf; rw [HNN.out, if_neg (by rw [HOK.out]; exact Bool.false_ne_true)])
    have E5 := Lib.hid (R11.set (.int .i64 0) (.int .i64 0) (.int .i64 0) (.slice none 0 0) (.slice none 0 0))
    go_wp2
    obtain ⟨E0, E1, E2, E3, E4⟩ := id E5.out.r
    exact bodyPost_ret (v := .tuple #[.agg #[.int .i64 0, .int .i64 0, .int .i64 0, .slice none 0 0, .slice none 0 0], .bool false]) (by simp [results, Tryz.results21, go_sem, E0, E1, E2, E3, E4]) rfl ⟨Cand.zero, false, none, 0, none, 0, HPA.out, rfl, (CirO.nil (L := 0)).circ (by omega) (by omega), bel_set5 BB.out (by omega) _ _ _ _ _⟩
  | true =>
    have HPA := Lib.hid (show ((⟨p, i0, i1, addGs gs (nth os 0) (nth os m), gn + 2, addOs os N⟩ : Cand), true) = aoOf p i0 i1 gs gn os m by unfold aoOf; rw [HNN.out, if_pos HOK.out])
    have E5 := Lib.hid (R11.set (.int .i64 p) (.int .i64 i0) (.int .i64 i1) (.slice r9 (gn + 2) k9) (.slice r10 (on + 2) k10))
    have F1 := Lib.hid ((HA12.out.r.bex (Bex.only5 (g := w.heap.size + 1) _ (.int .i64 p) (.int .i64 i0) (.int .i64 i1) (.slice r9 (gn + 2) k9) (.slice r10 (on + 2) k10)) (by omega)).circ (by omega) (by omega))
    have F4 := Lib.hid (bel_set5 (b := w.heap.size + 1) BB.out (by omega) (.int .i64 p) (.int .i64 i0) (.int .i64 i1) (.slice r9 (gn + 2) k9) (.slice r10 (on + 2) k10))
    go_wp2
    obtain ⟨E0, E1, E2, E3, E4⟩ := id E5.out.r
    exact bodyPost_ret (v := .tuple #[.agg #[.int .i64 p, .int .i64 i0, .int .i64 i1, .slice r9 (gn + 2) k9, .slice r10 (on + 2) k10], .bool true]) (by simp [results, Tryz.results21, go_sem, E0, E1, E2, E3, E4]) rfl ⟨⟨p, i0, i1, addGs gs (nth os 0) (nth os m), gn + 2, addOs os N⟩, true, r9, k9, r10, k10, HPA.out, by rw [HLL.out], (by rw [HLL.out]; exact F1.out), F4.out⟩
end Go.Proofs.YtfichpppjpgahaaGreatDoor
