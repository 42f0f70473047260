/-
  Contracts: a circuit with the sum and the product of two outs added, the program's side.
-/
import Derived.Test.YtfichpppjpgahaaGreatDoorUa
import Derived.Test.YtfichpppjpgahaaGreatDoorBm
namespace Go.Proofs.YtfichpppjpgahaaGreatDoor
open Go.RowKit
set_option linter.unusedVariables false
set_option linter.unusedSimpArgs false
set_option maxRecDepth 10000

set_option maxHeartbeats 8000000 in
theorem i_AddOut (p i0 i1 : Int) (ga : Option Addr) (gn gc : Nat) (gs : List Int) (oa : Option Addr) (on oc : Nat) (os : List Int) (m : Nat) (w : World) (h : Circ w ga gn gc gs oa on oc os) (hAC : arC p i0 i1 gs gn os = true) (hm : on = m + 1) :
    Calls Tryz.prog 20 #[.agg #[.int .i64 p, .int .i64 i0, .int .i64 i1, .slice ga gn gc, .slice oa on oc], .int .i64 0, .int .i64 (m : Int)] w fun e w' => ∃ (c : Cand) (ok : Bool) (ga : Option Addr) (gc : Nat) (oa : Option Addr) (oc : Nat), (c, ok) = aoOf p i0 i1 gs gn os m ∧ e = .returned (.tuple #[.agg #[.int .i64 c.p, .int .i64 c.i0, .int .i64 c.i1, .slice ga c.gn gc, .slice oa c.os.length oc], .bool ok]) ∧ Circ w' ga c.gn gc c.gs oa c.os.length oc c.os ∧ Below w.heap.size w w' := by
  have hm1 : m + 1 ≤ on := by omega
  have hm2 : on ≤ m + 1 := by omega
  clear hm
  have hlo := h.o.len.out
  obtain ⟨⟨hp1, hp2⟩, ⟨h01, h02⟩, ⟨h11, h12⟩, hKG, hKO, hgn, hon⟩ := arC_ok hAC
  rw [hlo] at hon
  have hI0 : inB 0 0 (m : Int) = true := inB_iff.2 ⟨by omega, by omega⟩
  have hI1 : inB (m : Int) 0 (m : Int) = true := inB_iff.2 ⟨by omega, by omega⟩
  have e1 : IntKind.i64.wrap ((on : Int) - 1) = (m : Int) := by rw [IntWalk.i64_in _ (by omega)]; omega
  obtain ⟨N, hN⟩ : ∃ N : Int, i0 + i1 + gn = N := ⟨_, rfl⟩
  have hN0 : 0 ≤ N ∧ N ≤ 200 := by omega
  obtain ⟨hN0, hN1⟩ := hN0
  have e2 : IntKind.i64.wrap (i0 + i1 + gn) = N := by rw [IntWalk.i64_in _ (by omega)]; omega
  have e3 : IntKind.i64.wrap (N + 1) = N + 1 := IntWalk.i64_in _ (by omega)
  have A0 := bel_alloc w (.cells #[.int .i64 p, .int .i64 i0, .int .i64 i1, .slice ga gn gc, .slice oa on oc] 26)
  have g0 := B5.new (w := w) (x0 := .int .i64 p) (x1 := .int .i64 i0) (x2 := .int .i64 i1) (x3 := .slice ga gn gc) (x4 := .slice oa on oc) (t := 26)
  obtain ⟨W1, hW1⟩ : ∃ X, w.alloc (.cells #[.int .i64 p, .int .i64 i0, .int .i64 i1, .slice ga gn gc, .slice oa on oc] 26) = X := ⟨_, rfl⟩
  rw [hW1] at A0 g0
  have hz1 : W1.heap.size = w.heap.size + 1 := by rw [← hW1]; simp
  have A1 := bel_alloc W1 (.cells #[.int .i64 0, .int .i64 0, .int .i64 0, .slice none 0 0, .slice none 0 0] 26)
  have R1 := B5w.new (w := W1) (x0 := .int .i64 0) (x1 := .int .i64 0) (x2 := .int .i64 0) (x3 := .slice none 0 0) (x4 := .slice none 0 0) (t := 26)
  obtain ⟨W2, hW2⟩ : ∃ X, W1.alloc (.cells #[.int .i64 0, .int .i64 0, .int .i64 0, .slice none 0 0, .slice none 0 0] 26) = X := ⟨_, rfl⟩
  rw [hW2] at A1 R1
  have hz2 : W2.heap.size = w.heap.size + 2 := by rw [← hW2]; simp; omega
  rw [hz1] at R1
  have B2 := bel_trans A0 A1
  have HH := Lib.hid (h.below B2)
  have hf0 : Fits (nth os 0) := h.o.wf _ (nth_mem (by omega))
  have hfm : Fits (nth os m) := h.o.wf _ (nth_mem (by omega))
  have HFO := Lib.hid (show ∀ x ∈ os ++ [N, N + 1], Fits x from fun x hx => by
    rcases List.mem_append.1 hx with e | e
    · exact h.o.wf x e
    · simp only [List.mem_cons, List.not_mem_nil, or_false] at e
      rcases e with rfl | rfl <;> (unfold Fits; omega))
  have HFG := h.g.ints.wf
  have g2 := g0.on A1
  obtain ⟨c0, c1, c2, c3, c4⟩ := id g2
  have RC := Lib.hid R1; have HL := Lib.hid hlo; have HNN := Lib.hid hN; have HAC := Lib.hid hAC
  clear h hKG hKO R1 g0 g2 A0 A1 hlo hN hAC
  have hGood := Lib.hid (i_IsArith p i0 i1 ga gn gc gs oa on oc os W2 HH.out)
  rw [HAC.out] at hGood
  go_enter Tryz.func20, Tryz.ntmps20
  go_wp2_with fail
  refine hGood.out.mono ?_; rintro e w3 ⟨rfl, hb3⟩
  have B3 := Lib.hid (bel_trans B2 hb3); have HH3 := Lib.hid (HH.out.below hb3); replace RC := Lib.hid (RC.out.on hb3)
  replace c0 := cell_on c0 hb3; replace c1 := cell_on c1 hb3; replace c2 := cell_on c2 hb3; replace c3 := cell_on c3 hb3; replace c4 := cell_on c4 hb3
  have hz3 := hb3.size
  clear hb3 hGood HH
  go_wp2_with fail
  refine (i_within _ _ _ _).mono ?_; rintro e wl ⟨rfl, rfl⟩; rw [hI0]
  go_wp2_with fail
  refine (i_within _ _ _ _).mono ?_; rintro e wl ⟨rfl, rfl⟩; rw [hI1]
  obtain ⟨ob, oo, rfl, hobl, ko⟩ := HH3.out.o.at (i := 0) (by omega)
  obtain ⟨ob', oo', eo, hobl', km⟩ := HH3.out.o.at (i := m) (by omega)
  simp only [Option.some.injEq, Addr.mk.injEq, and_true] at eo; obtain ⟨rfl, rfl⟩ := eo
  rw [Nat.add_zero] at ko
  have hon0 : (0 : Int) < (on : Int) := by omega
  have honm : (m : Int) < (on : Int) := by omega
  have hon0n : 0 < on := by omega
  have honmn : m < on := by omega
  have c0 := cell_on c0 (bel_drew w3); have c1 := cell_on c1 (bel_drew w3); have c2 := cell_on c2 (bel_drew w3); have c3 := cell_on c3 (bel_drew w3); have c4 := cell_on c4 (bel_drew w3); have ko := cell_on ko (bel_drew w3); have km := cell_on km (bel_drew w3)
  go_wp2_with fail
  refine wp_region_held_drew (S := (fun W => W.cell? ⟨w.heap.size, 0, none⟩ = some (.int .i64 p) ∧ W.cell? ⟨w.heap.size, 1, none⟩ = some (.int .i64 i0) ∧ W.cell? ⟨w.heap.size, 2, none⟩ = some (.int .i64 i1) ∧ W.cell? ⟨w.heap.size, 3, none⟩ = some (.slice ga gn gc) ∧ W.cell? ⟨w.heap.size, 4, none⟩ = some (.slice (some ⟨ob, oo, none⟩) on oc) ∧ W.cell? ⟨ob, oo, none⟩ = some (.int .i64 (nth os 0)) ∧ W.cell? ⟨ob, oo + m, none⟩ = some (.int .i64 (nth os m)))) (by kernel_rfl) (by exact ⟨c0, c1, c2, c3, c4, ko, km⟩) (fun hHeld => ?_)
  refine wpAnyH_take (i := 0) (oi := ?oi0_1) (v := ?v0_1) ?ho0_1 (by kernel_rfl) (by kernel_rfl) (by kernel_rfl) ?hQ0_1 ?hy0_1 hHeld ?hr0_1
  case ho0_1 => simp only [List.getElem?_toArray, List.getElem?_cons_succ, List.getElem?_cons_zero]; rfl
  case hQ0_1 => exact fun _ _ _ h => h
  case hy0_1 => exact Or.inl ⟨by rfl, by (intro w hSw; go_simp; try with_reducible rfl)⟩
  try simp only [Act.put, List.setIfInBounds_toArray, List.set_cons_zero, List.set_cons_succ]
  refine wpAnyH_take (i := 2) (oi := ?oi2_1) (v := ?v2_1) ?ho2_1 (by kernel_rfl) (by kernel_rfl) (by kernel_rfl) ?hQ2_1 ?hy2_1 hHeld ?hr2_1
  case ho2_1 => simp only [List.getElem?_toArray, List.getElem?_cons_succ, List.getElem?_cons_zero]; rfl
  case hQ2_1 => exact fun _ _ _ h => h
  case hy2_1 => exact Or.inl ⟨by rfl, by (intro w hSw; go_simp; try with_reducible rfl)⟩
  try simp only [Act.put, List.setIfInBounds_toArray, List.set_cons_zero, List.set_cons_succ]
  refine wpAnyH_take (i := 3) (oi := ?oi3_1) (v := ?v3_1) ?ho3_1 (by kernel_rfl) (by kernel_rfl) (by kernel_rfl) ?hQ3_1 ?hy3_1 hHeld ?hr3_1
  case ho3_1 => simp only [List.getElem?_toArray, List.getElem?_cons_succ, List.getElem?_cons_zero]; rfl
  case hQ3_1 => exact fun _ _ _ h => h
  case hy3_1 => exact Or.inl ⟨by rfl, by (intro w hSw; go_simp; try with_reducible rfl)⟩
  try simp only [Act.put, List.setIfInBounds_toArray, List.set_cons_zero, List.set_cons_succ]
  refine wpAnyH_take (i := 4) (oi := ?oi4_1) (v := ?v4_1) ?ho4_1 (by kernel_rfl) (by kernel_rfl) (by kernel_rfl) ?hQ4_1 ?hy4_1 hHeld ?hr4_1
  case ho4_1 => simp only [List.getElem?_toArray, List.getElem?_cons_succ, List.getElem?_cons_zero]; rfl
  case hQ4_1 => exact fun _ _ _ h => h
  case hy4_1 => exact Or.inl ⟨by rfl, by (intro w hSw; go_simp; try with_reducible rfl)⟩
  try simp only [Act.put, List.setIfInBounds_toArray, List.set_cons_zero, List.set_cons_succ]
  refine wpAnyH_take (i := 6) (oi := ?oi6_1) (v := ?v6_1) ?ho6_1 (by kernel_rfl) (by kernel_rfl) (by kernel_rfl) ?hQ6_1 ?hy6_1 hHeld ?hr6_1
  case ho6_1 => simp only [List.getElem?_toArray, List.getElem?_cons_succ, List.getElem?_cons_zero]; rfl
  case hQ6_1 => exact fun _ _ _ h => h
  case hy6_1 => exact Or.inl ⟨by rfl, by (intro w hSw; go_simp; try with_reducible rfl)⟩
  try simp only [Act.put, List.setIfInBounds_toArray, List.set_cons_zero, List.set_cons_succ]
  refine wpAnyH_take (i := 7) (oi := ?oi7_1) (v := ?v7_1) ?ho7_1 (by kernel_rfl) (by kernel_rfl) (by kernel_rfl) ?hQ7_1 ?hy7_1 hHeld ?hr7_1
  case ho7_1 => simp only [List.getElem?_toArray, List.getElem?_cons_succ, List.getElem?_cons_zero]; rfl
  case hQ7_1 => exact fun _ _ _ h => h
  case hy7_1 => exact Or.inl ⟨by rfl, by (intro w hSw; go_simp; try with_reducible rfl)⟩
  try simp only [Act.put, List.setIfInBounds_toArray, List.set_cons_zero, List.set_cons_succ]
  refine wpAnyH_take (i := 8) (oi := ?oi8_1) (v := ?v8_1) ?ho8_1 (by kernel_rfl) (by kernel_rfl) (by kernel_rfl) ?hQ8_1 ?hy8_1 hHeld ?hr8_1
  case ho8_1 => simp only [List.getElem?_toArray, List.getElem?_cons_succ, List.getElem?_cons_zero]; rfl
  case hQ8_1 => exact fun _ _ _ h => h
  case hy8_1 => exact Or.inl ⟨by rfl, by (intro w hSw; go_simp; try with_reducible rfl)⟩
  try simp only [Act.put, List.setIfInBounds_toArray, List.set_cons_zero, List.set_cons_succ]
  refine wpAnyH_take (i := 9) (oi := ?oi9_1) (v := ?v9_1) ?ho9_1 (by kernel_rfl) (by kernel_rfl) (by kernel_rfl) ?hQ9_1 ?hy9_1 hHeld ?hr9_1
  case ho9_1 => simp only [List.getElem?_toArray, List.getElem?_cons_succ, List.getElem?_cons_zero]; rfl
  case hQ9_1 => exact fun _ _ _ h => h
  case hy9_1 => exact Or.inl ⟨by rfl, by (intro w hSw; go_simp; try with_reducible rfl)⟩
  try simp only [Act.put, List.setIfInBounds_toArray, List.set_cons_zero, List.set_cons_succ]
  refine wpAnyH_take (i := 10) (oi := ?oi10_1) (v := ?v10_1) ?ho10_1 (by kernel_rfl) (by kernel_rfl) (by kernel_rfl) ?hQ10_1 ?hy10_1 hHeld ?hr10_1
  case ho10_1 => simp only [List.getElem?_toArray, List.getElem?_cons_succ, List.getElem?_cons_zero]; rfl
  case hQ10_1 => exact fun _ _ _ h => h
  case hy10_1 => exact Or.inl ⟨by rfl, by (intro w hSw; go_simp; try with_reducible rfl)⟩
  try simp only [Act.put, List.setIfInBounds_toArray, List.set_cons_zero, List.set_cons_succ]
  refine wpAnyH_take (i := 11) (oi := ?oi11_1) (v := ?v11_1) ?ho11_1 (by kernel_rfl) (by kernel_rfl) (by kernel_rfl) ?hQ11_1 ?hy11_1 hHeld ?hr11_1
  case ho11_1 => simp only [List.getElem?_toArray, List.getElem?_cons_succ, List.getElem?_cons_zero]; rfl
  case hQ11_1 => exact fun _ _ _ h => h
  case hy11_1 => exact Or.inl ⟨by rfl, by (intro w hSw; go_simp; try with_reducible rfl)⟩
  try simp only [Act.put, List.setIfInBounds_toArray, List.set_cons_zero, List.set_cons_succ]
  refine wpAnyH_take (i := 12) (oi := ?oi12_1) (v := ?v12_1) ?ho12_1 (by kernel_rfl) (by kernel_rfl) (by kernel_rfl) ?hQ12_1 ?hy12_1 hHeld ?hr12_1
  case ho12_1 => simp only [List.getElem?_toArray, List.getElem?_cons_succ, List.getElem?_cons_zero]; rfl
  case hQ12_1 => exact fun _ _ _ h => h
  case hy12_1 => exact Or.inl ⟨by rfl, by (intro w hSw; go_simp; try with_reducible rfl)⟩
  try simp only [Act.put, List.setIfInBounds_toArray, List.set_cons_zero, List.set_cons_succ]
  refine wpAnyH_take (i := 13) (oi := ?oi13_1) (v := ?v13_1) ?ho13_1 (by kernel_rfl) (by kernel_rfl) (by kernel_rfl) ?hQ13_1 ?hy13_1 hHeld ?hr13_1
  case ho13_1 => simp only [List.getElem?_toArray, List.getElem?_cons_succ, List.getElem?_cons_zero]; rfl
  case hQ13_1 => exact fun _ _ _ h => h
  case hy13_1 => exact Or.inl ⟨by rfl, by (intro w hSw; go_simp; try with_reducible rfl)⟩
  try simp only [Act.put, List.setIfInBounds_toArray, List.set_cons_zero, List.set_cons_succ]
  refine wpAnyH_take (i := 14) (oi := ?oi14_1) (v := ?v14_1) ?ho14_1 (by kernel_rfl) (by kernel_rfl) (by kernel_rfl) ?hQ14_1 ?hy14_1 hHeld ?hr14_1
  case ho14_1 => simp only [List.getElem?_toArray, List.getElem?_cons_succ, List.getElem?_cons_zero]; rfl
  case hQ14_1 => exact fun _ _ _ h => h
  case hy14_1 => exact Or.inl ⟨by rfl, by (intro w hSw; go_simp; try with_reducible rfl)⟩
  try simp only [Act.put, List.setIfInBounds_toArray, List.set_cons_zero, List.set_cons_succ]
  refine wpAnyH_take (i := 15) (oi := ?oi15_1) (v := ?v15_1) ?ho15_1 (by kernel_rfl) (by kernel_rfl) (by kernel_rfl) ?hQ15_1 ?hy15_1 hHeld ?hr15_1
  case ho15_1 => simp only [List.getElem?_toArray, List.getElem?_cons_succ, List.getElem?_cons_zero]; rfl
  case hQ15_1 => exact fun _ _ _ h => h
  case hy15_1 => exact Or.inl ⟨by rfl, by (intro w hSw; go_simp; try with_reducible rfl)⟩
  try simp only [Act.put, List.setIfInBounds_toArray, List.set_cons_zero, List.set_cons_succ]
  refine wpAnyH_ready (rs := [1]) (by kernel_rfl) (by simp) ?_
  refine AllReadyH.cons (o := ?o1_1) ?ho1_1 (fun K hK => ?hs1_1) AllReadyH.nil
  case ho1_1 => simp only [List.getElem?_toArray, List.getElem?_cons_succ, List.getElem?_cons_zero]; rfl
  go_simp
  go_at_call 46; refine (i_arInputs p i0 i1 ga gn gc (some ⟨ob, oo, none⟩) on oc _ (by omega) (by omega)).mono ?_; rintro e w6 ⟨rfl, hb6⟩; have hb7 := bel_trans (bel_drew w3) hb6; have c0 := cell_on c0 hb6; have c1 := cell_on c1 hb6; have c2 := cell_on c2 hb6; have c3 := cell_on c3 hb6; have c4 := cell_on c4 hb6; have ko := cell_on ko hb6; have km := cell_on km hb6
  refine hK.out _ _ ?hS1_1 (fun hHeld => ?hr1_1)
  case hS1_1 => exact ⟨c0, c1, c2, c3, c4, ko, km⟩
  clear hK K
  try simp only [Act.put, List.setIfInBounds_toArray, List.set_cons_zero, List.set_cons_succ]
  refine wpAnyH_take (i := 5) (oi := ?oi5_1) (v := ?v5_1) ?ho5_1 (by kernel_rfl) (by kernel_rfl) (by kernel_rfl) ?hQ5_1 ?hy5_1 hHeld ?hr5_1
  case ho5_1 => simp only [List.getElem?_toArray, List.getElem?_cons_succ, List.getElem?_cons_zero]; rfl
  case hQ5_1 => exact fun _ _ _ h => h
  case hy5_1 => exact Or.inl ⟨by rfl, by (intro w hSw; go_simp; try with_reducible rfl)⟩
  try simp only [Act.put, List.setIfInBounds_toArray, List.set_cons_zero, List.set_cons_succ]
  refine wpAnyH_take (i := 16) (oi := ?oi16_1) (v := ?v16_1) ?ho16_1 (by kernel_rfl) (by kernel_rfl) (by kernel_rfl) ?hQ16_1 ?hy16_1 hHeld ?hr16_1
  case ho16_1 => simp only [List.getElem?_toArray, List.getElem?_cons_succ, List.getElem?_cons_zero]; rfl
  case hQ16_1 => exact fun _ _ _ h => h
  case hy16_1 => exact Or.inl ⟨by rfl, by (intro w hSw; go_simp; try with_reducible rfl)⟩
  try simp only [Act.put, List.setIfInBounds_toArray, List.set_cons_zero, List.set_cons_succ]
  refine wpAnyH_take (i := 17) (oi := ?oi17_1) (v := ?v17_1) ?ho17_1 (by kernel_rfl) (by kernel_rfl) (by kernel_rfl) ?hQ17_1 ?hy17_1 hHeld ?hr17_1
  case ho17_1 => simp only [List.getElem?_toArray, List.getElem?_cons_succ, List.getElem?_cons_zero]; rfl
  case hQ17_1 => exact fun _ _ _ h => h
  case hy17_1 => exact Or.inl ⟨by rfl, by (intro w hSw; go_simp; try with_reducible rfl)⟩
  try simp only [Act.put, List.setIfInBounds_toArray, List.set_cons_zero, List.set_cons_succ]
  refine wpAnyH_take (i := 18) (oi := ?oi18_1) (v := ?v18_1) ?ho18_1 (by kernel_rfl) (by kernel_rfl) (by kernel_rfl) ?hQ18_1 ?hy18_1 hHeld ?hr18_1
  case ho18_1 => simp only [List.getElem?_toArray, List.getElem?_cons_succ, List.getElem?_cons_zero]; rfl
  case hQ18_1 => exact fun _ _ _ h => h
  case hy18_1 => exact Or.inl ⟨by rfl, by (intro w hSw; go_simp; try with_reducible rfl)⟩
  try simp only [Act.put, List.setIfInBounds_toArray, List.set_cons_zero, List.set_cons_succ]
  refine wpAnyH_done (by kernel_rfl) ?_ _
  have B7 := Lib.hid (bel_trans B3.out hb7); replace RC := Lib.hid (RC.out.on hb7); have HH := Lib.hid (HH3.out.below hb7)
  have hz7 := hb7.size
  clear hHeld ko km hb6 hb7 B3 HH3
  go_upto_region 4 with (fail)
  go_cut [9, 10, 11] (fun s9 s10 s11 W => s9 = .int .i64 (nth os 0) ∧ s10 = .int .i64 (nth os m) ∧ (∃ g ra rc sa sc, s11 = .pointer (some ⟨g, 0, none⟩) ∧ Hid (AnyA W (w.heap.size + 2) g p i0 i1 (.slice ra gn rc) gn gs (.slice sa (on + 2) sc) (on + 2) (os ++ [N, N + 1]))) ∧ Hid (Below w.heap.size w W) ∧ Hid (B5w W (w.heap.size + 1) (.int .i64 0) (.int .i64 0) (.int .i64 0) (.slice none 0 0) (.slice none 0 0)))
  case first =>
    have hz8 : w.heap.size + 2 ≤ w6.heap.size := by omega
    clear hobl hobl' hon0 honm hon0n honmn e1 e2 hI0 hI1 hf0 hfm hz1 hz2 hz3 hz7
    replace c0 := cell_on c0 (bel_drew w6); replace c1 := cell_on c1 (bel_drew w6); replace c2 := cell_on c2 (bel_drew w6); replace c3 := cell_on c3 (bel_drew w6); replace c4 := cell_on c4 (bel_drew w6)
    go_wp2_with fail
    refine wp_region_held_drew (S := (fun W => W.cell? ⟨w.heap.size, 0, none⟩ = some (.int .i64 p) ∧ W.cell? ⟨w.heap.size, 1, none⟩ = some (.int .i64 i0) ∧ W.cell? ⟨w.heap.size, 2, none⟩ = some (.int .i64 i1) ∧ W.cell? ⟨w.heap.size, 3, none⟩ = some (.slice ga gn gc) ∧ W.cell? ⟨w.heap.size, 4, none⟩ = some (.slice (some ⟨ob, oo, none⟩) on oc))) (by kernel_rfl) (by exact ⟨c0, c1, c2, c3, c4⟩) (fun hHeld => ?_)
    replace HH := Lib.hid (HH.out.below (bel_drew w6)); replace RC := Lib.hid (RC.out.on (bel_drew w6)); have BB := Lib.hid (bel_trans B7.out (bel_drew w6)); have hzD := (bel_drew w6).size; have hzd : w.heap.size + 2 ≤ w6.drew.heap.size := by omega
    obtain ⟨D0, hD0⟩ : ∃ X, w6.drew = X := ⟨_, rfl⟩
    rw [hD0] at HH RC BB hzd hHeld c0 c1 c2 c3 c4 ⊢
    clear B7 hzD hz8 hD0
    refine wpAnyH_take (i := 0) (oi := ?oi0_2) (v := ?v0_2) ?ho0_2 (by kernel_rfl) (by kernel_rfl) (by kernel_rfl) ?hQ0_2 ?hy0_2 hHeld ?hr0_2
    case ho0_2 => simp only [List.getElem?_toArray, List.getElem?_cons_succ, List.getElem?_cons_zero]; rfl
    case hQ0_2 => exact fun _ _ _ h => h
    case hy0_2 => exact Or.inl ⟨by rfl, by (intro w hSw; go_simp; try with_reducible rfl)⟩
    try simp only [Act.put, List.setIfInBounds_toArray, List.set_cons_zero, List.set_cons_succ]
    refine wpAnyH_take (i := 1) (oi := ?oi1_2) (v := ?v1_2) ?ho1_2 (by kernel_rfl) (by kernel_rfl) (by kernel_rfl) ?hQ1_2 ?hy1_2 hHeld ?hr1_2
    case ho1_2 => simp only [List.getElem?_toArray, List.getElem?_cons_succ, List.getElem?_cons_zero]; rfl
    case hQ1_2 => exact fun _ _ _ h => h
    case hy1_2 => exact Or.inl ⟨by rfl, by (intro w hSw; go_simp; try with_reducible rfl)⟩
    try simp only [Act.put, List.setIfInBounds_toArray, List.set_cons_zero, List.set_cons_succ]
    refine wpAnyH_take (i := 2) (oi := ?oi2_2) (v := ?v2_2) ?ho2_2 (by kernel_rfl) (by kernel_rfl) (by kernel_rfl) ?hQ2_2 ?hy2_2 hHeld ?hr2_2
    case ho2_2 => simp only [List.getElem?_toArray, List.getElem?_cons_succ, List.getElem?_cons_zero]; rfl
    case hQ2_2 => exact fun _ _ _ h => h
    case hy2_2 => exact Or.inl ⟨by rfl, by (intro w hSw; go_simp; try with_reducible rfl)⟩
    try simp only [Act.put, List.setIfInBounds_toArray, List.set_cons_zero, List.set_cons_succ]
    refine wpAnyH_take (i := 3) (oi := ?oi3_2) (v := ?v3_2) ?ho3_2 (by kernel_rfl) (by kernel_rfl) (by kernel_rfl) ?hQ3_2 ?hy3_2 hHeld ?hr3_2
    case ho3_2 => simp only [List.getElem?_toArray, List.getElem?_cons_succ, List.getElem?_cons_zero]; rfl
    case hQ3_2 => exact fun _ _ _ h => h
    case hy3_2 => exact Or.inl ⟨by rfl, by (intro w hSw; go_simp; try with_reducible rfl)⟩
    try simp only [Act.put, List.setIfInBounds_toArray, List.set_cons_zero, List.set_cons_succ]
    refine wpAnyH_take (i := 4) (oi := ?oi4_2) (v := ?v4_2) ?ho4_2 (by kernel_rfl) (by kernel_rfl) (by kernel_rfl) ?hQ4_2 ?hy4_2 hHeld ?hr4_2
    case ho4_2 => simp only [List.getElem?_toArray, List.getElem?_cons_succ, List.getElem?_cons_zero]; rfl
    case hQ4_2 => exact fun _ _ _ h => h
    case hy4_2 => exact Or.inl ⟨by rfl, by (intro w hSw; go_simp; try with_reducible rfl)⟩
    try simp only [Act.put, List.setIfInBounds_toArray, List.set_cons_zero, List.set_cons_succ]
    refine wpAnyH_take (i := 5) (oi := ?oi5_2) (v := ?v5_2) ?ho5_2 (by kernel_rfl) (by kernel_rfl) (by kernel_rfl) ?hQ5_2 ?hy5_2 hHeld ?hr5_2
    case ho5_2 => simp only [List.getElem?_toArray, List.getElem?_cons_succ, List.getElem?_cons_zero]; rfl
    case hQ5_2 => exact fun _ _ _ h => h
    case hy5_2 => exact Or.inl ⟨by rfl, by (intro w hSw; go_simp; try with_reducible rfl)⟩
    try simp only [Act.put, List.setIfInBounds_toArray, List.set_cons_zero, List.set_cons_succ]
    refine wpAnyH_take (i := 6) (oi := ?oi6_2) (v := ?v6_2) ?ho6_2 (by kernel_rfl) (by kernel_rfl) (by kernel_rfl) ?hQ6_2 ?hy6_2 hHeld ?hr6_2
    case ho6_2 => simp only [List.getElem?_toArray, List.getElem?_cons_succ, List.getElem?_cons_zero]; rfl
    case hQ6_2 => exact fun _ _ _ h => h
    case hy6_2 => exact Or.inl ⟨by rfl, by (intro w hSw; go_simp; try with_reducible rfl)⟩
    try simp only [Act.put, List.setIfInBounds_toArray, List.set_cons_zero, List.set_cons_succ]
    refine wpAnyH_take (i := 7) (oi := ?oi7_2) (v := ?v7_2) ?ho7_2 (by kernel_rfl) (by kernel_rfl) (by kernel_rfl) ?hQ7_2 ?hy7_2 hHeld ?hr7_2
    case ho7_2 => simp only [List.getElem?_toArray, List.getElem?_cons_succ, List.getElem?_cons_zero]; rfl
    case hQ7_2 => exact fun _ _ _ h => h
    case hy7_2 => exact Or.inl ⟨by rfl, by (intro w hSw; go_simp; try with_reducible rfl)⟩
    try simp only [Act.put, List.setIfInBounds_toArray, List.set_cons_zero, List.set_cons_succ]
    refine wpAnyH_take (i := 9) (oi := ?oi9_2) (v := ?v9_2) ?ho9_2 (by kernel_rfl) (by kernel_rfl) (by kernel_rfl) ?hQ9_2 ?hy9_2 hHeld ?hr9_2
    case ho9_2 => simp only [List.getElem?_toArray, List.getElem?_cons_succ, List.getElem?_cons_zero]; rfl
    case hQ9_2 => exact fun _ _ _ h => h
    case hy9_2 => exact Or.inl ⟨by rfl, by (intro w hSw; go_simp; try with_reducible rfl)⟩
    try simp only [Act.put, List.setIfInBounds_toArray, List.set_cons_zero, List.set_cons_succ]
    refine wpAnyH_take (i := 10) (oi := ?oi10_2) (v := ?v10_2) ?ho10_2 (by kernel_rfl) (by kernel_rfl) (by kernel_rfl) ?hQ10_2 ?hy10_2 hHeld ?hr10_2
    case ho10_2 => simp only [List.getElem?_toArray, List.getElem?_cons_succ, List.getElem?_cons_zero]; rfl
    case hQ10_2 => exact fun _ _ _ h => h
    case hy10_2 => exact Or.inl ⟨by rfl, by (intro w hSw; go_simp; try with_reducible rfl)⟩
    try simp only [Act.put, List.setIfInBounds_toArray, List.set_cons_zero, List.set_cons_succ]
    refine wpAnyH_take (i := 11) (oi := ?oi11_2) (v := ?v11_2) ?ho11_2 (by kernel_rfl) (by kernel_rfl) (by kernel_rfl) ?hQ11_2 ?hy11_2 hHeld ?hr11_2
    case ho11_2 => simp only [List.getElem?_toArray, List.getElem?_cons_succ, List.getElem?_cons_zero]; rfl
    case hQ11_2 => exact fun _ _ _ h => h
    case hy11_2 => exact Or.inl ⟨by rfl, by (intro w hSw; go_simp; try with_reducible rfl)⟩
    try simp only [Act.put, List.setIfInBounds_toArray, List.set_cons_zero, List.set_cons_succ]
    refine wpAnyH_take (i := 12) (oi := ?oi12_2) (v := ?v12_2) ?ho12_2 (by kernel_rfl) (by kernel_rfl) (by kernel_rfl) ?hQ12_2 ?hy12_2 hHeld ?hr12_2
    case ho12_2 => simp only [List.getElem?_toArray, List.getElem?_cons_succ, List.getElem?_cons_zero]; rfl
    case hQ12_2 => exact fun _ _ _ h => h
    case hy12_2 => exact Or.inl ⟨by rfl, by (intro w hSw; go_simp; try with_reducible rfl)⟩
    try simp only [Act.put, List.setIfInBounds_toArray, List.set_cons_zero, List.set_cons_succ]
    refine wpAnyH_take (i := 13) (oi := ?oi13_2) (v := ?v13_2) ?ho13_2 (by kernel_rfl) (by kernel_rfl) (by kernel_rfl) ?hQ13_2 ?hy13_2 hHeld ?hr13_2
    case ho13_2 => simp only [List.getElem?_toArray, List.getElem?_cons_succ, List.getElem?_cons_zero]; rfl
    case hQ13_2 => exact fun _ _ _ h => h
    case hy13_2 => exact Or.inl ⟨by rfl, by (intro w hSw; go_simp; try with_reducible rfl)⟩
    try simp only [Act.put, List.setIfInBounds_toArray, List.set_cons_zero, List.set_cons_succ]
    refine wpAnyH_ready (rs := [8, 14, 17]) (by kernel_rfl) (by simp) ?_
    refine (AllReadyH.cons (o := ?o8_101) ?ho8_101 (fun K hK => ?hs8_101) (AllReadyH.cons (o := ?o14_101) ?ho14_101 (fun K hK => ?hs14_101) (AllReadyH.cons (o := ?o17_101) ?ho17_101 (fun K hK => ?hs17_101) AllReadyH.nil)))
    case ho8_101 => simp only [List.getElem?_toArray, List.getElem?_cons_succ, List.getElem?_cons_zero]; rfl
    case ho14_101 => simp only [List.getElem?_toArray, List.getElem?_cons_succ, List.getElem?_cons_zero]; rfl
    case ho17_101 => simp only [List.getElem?_toArray, List.getElem?_cons_succ, List.getElem?_cons_zero]; rfl
    case hs8_101 =>
      go_simp
      go_at_call 51
      refine (g_CloneG ga gn gc gs _ HH.out.g (by omega)).mono ?_; rintro e D8_101 ⟨vC, rfl, hv, hb8_101⟩; obtain ⟨ra, rc, rfl⟩ := own_sl hv
      replace HH := Lib.hid (HH.out.below hb8_101); replace BB := Lib.hid (bel_trans BB.out hb8_101); replace RC := Lib.hid (RC.out.on hb8_101); have hzhb8_101 := hb8_101.size
      replace c0 := cell_on c0 hb8_101; replace c1 := cell_on c1 hb8_101; replace c2 := cell_on c2 hb8_101; replace c3 := cell_on c3 hb8_101; replace c4 := cell_on c4 hb8_101
      have HC := Lib.hid (ownsRow_base hv (B' := w.heap.size + 2) (by omega)); clear hv
      refine hK.out _ _ ?hS8_101 (fun hHeld => ?hr8_101)
      case hS8_101 => exact ⟨c0, c1, c2, c3, c4⟩
      clear hK K
      try simp only [Act.put, List.setIfInBounds_toArray, List.set_cons_zero, List.set_cons_succ]
      refine wpAnyH_ready (rs := [14, 17]) (by kernel_rfl) (by simp) ?_
      refine (AllReadyH.cons (o := ?o14_102) ?ho14_102 (fun K hK => ?hs14_102) (AllReadyH.cons (o := ?o17_102) ?ho17_102 (fun K hK => ?hs17_102) AllReadyH.nil))
      case ho14_102 => simp only [List.getElem?_toArray, List.getElem?_cons_succ, List.getElem?_cons_zero]; rfl
      case ho17_102 => simp only [List.getElem?_toArray, List.getElem?_cons_succ, List.getElem?_cons_zero]; rfl
      case hs14_102 =>
        go_simp
        have hb14_102 := bel_alloc D8_101 (.cells #[.int .i64 N, .int .i64 (N + 1)] 3)
        have HI := Ints.lit2 (w := D8_101) (m := D8_101.heap.size) (t := 3) (a := N) (b := N + 1) rfl (by unfold Fits; omega) (by unfold Fits; omega)
        replace HH := Lib.hid (HH.out.below hb14_102); replace BB := Lib.hid (bel_trans BB.out hb14_102); replace RC := Lib.hid (RC.out.on hb14_102); have hzhb14_102 := hb14_102.size
        replace c0 := cell_on c0 hb14_102; replace c1 := cell_on c1 hb14_102; replace c2 := cell_on c2 hb14_102; replace c3 := cell_on c3 hb14_102; replace c4 := cell_on c4 hb14_102
        replace HC := Lib.hid (ownsRow_below HC.out hb14_102)
        obtain ⟨D14_102, hD14_102⟩ : ∃ X, D8_101.alloc (.cells #[.int .i64 N, .int .i64 (N + 1)] 3) = X := ⟨_, rfl⟩
        rw [hD14_102] at HH BB RC HI c0 c1 c2 c3 c4 hzhb14_102 HC ⊢; clear hb14_102 hD14_102
        refine hK.out _ _ ?hS14_102 (fun hHeld => ?hr14_102)
        case hS14_102 => exact ⟨c0, c1, c2, c3, c4⟩
        clear hK K
        try simp only [Act.put, List.setIfInBounds_toArray, List.set_cons_zero, List.set_cons_succ]
        refine wpAnyH_ready (rs := [15, 17]) (by kernel_rfl) (by simp) ?_
        refine (AllReadyH.cons (o := ?o15_103) ?ho15_103 (fun K hK => ?hs15_103) (AllReadyH.cons (o := ?o17_103) ?ho17_103 (fun K hK => ?hs17_103) AllReadyH.nil))
        case ho15_103 => simp only [List.getElem?_toArray, List.getElem?_cons_succ, List.getElem?_cons_zero]; rfl
        case ho17_103 => simp only [List.getElem?_toArray, List.getElem?_cons_succ, List.getElem?_cons_zero]; rfl
        case hs15_103 =>
          go_simp
          go_at_call 26
          refine (i_withO _ on oc os _ 2 2 [N, N + 1] _ HH.out.o HI (by omega) (by omega)).mono ?_; rintro e D15_103 ⟨vW, rfl, hv, hb15_103⟩; obtain ⟨sa, sc, rfl⟩ := own_sl hv
          have hdj : ∀ q, (Value.slice ra gn rc).ownBlock = some q → (Value.slice sa (on + 2) sc).ownBlock ≠ some q := fun q hq e => by
            have h1 := (World.ownsRow.lt HC.out q hq).2
            have h2 := (World.ownsRow.lt hv q e).1
            omega
          replace HH := Lib.hid (HH.out.below hb15_103); replace BB := Lib.hid (bel_trans BB.out hb15_103); replace RC := Lib.hid (RC.out.on hb15_103); have hzhb15_103 := hb15_103.size
          replace c0 := cell_on c0 hb15_103; replace c1 := cell_on c1 hb15_103; replace c2 := cell_on c2 hb15_103; replace c3 := cell_on c3 hb15_103; replace c4 := cell_on c4 hb15_103
          replace HI := HI.below hb15_103
          replace HC := Lib.hid (ownsRow_below HC.out hb15_103)
          have HW := Lib.hid (ownsRow_base hv (B' := w.heap.size + 2) (by omega)); clear hv
          refine hK.out _ _ ?hS15_103 (fun hHeld => ?hr15_103)
          case hS15_103 => exact ⟨c0, c1, c2, c3, c4⟩
          clear hK K
          try simp only [Act.put, List.setIfInBounds_toArray, List.set_cons_zero, List.set_cons_succ]
          refine wpAnyH_take (i := 16) (oi := ?oi16_3) (v := ?v16_3) ?ho16_3 (by kernel_rfl) (by kernel_rfl) (by kernel_rfl) ?hQ16_3 ?hy16_3 hHeld ?hr16_3
          case ho16_3 => simp only [List.getElem?_toArray, List.getElem?_cons_succ, List.getElem?_cons_zero]; rfl
          case hQ16_3 => exact fun _ _ _ h => h
          case hy16_3 => exact Or.inl ⟨by rfl, by (intro w hSw; go_simp; try with_reducible rfl)⟩
          try simp only [Act.put, List.setIfInBounds_toArray, List.set_cons_zero, List.set_cons_succ]
          refine wpAnyH_ready (rs := [17]) (by kernel_rfl) (by simp) ?_
          refine (AllReadyH.cons (o := ?o17_104) ?ho17_104 (fun K hK => ?hs17_104) AllReadyH.nil)
          case ho17_104 => simp only [List.getElem?_toArray, List.getElem?_cons_succ, List.getElem?_cons_zero]; rfl
          case hs17_104 =>
            go_simp
            have hb17_104 := bel_alloc D15_103 (.cells #[.int .i64 0, .int .i64 0, .int .i64 0, .slice none 0 0, .slice none 0 0] 26)
            have HX := Lib.hid (B5w.new (w := D15_103) (x0 := .int .i64 0) (x1 := .int .i64 0) (x2 := .int .i64 0) (x3 := .slice none 0 0) (x4 := .slice none 0 0) (t := 26))
            have hg17_104 : D15_103.heap.size < (D15_103.alloc (.cells #[.int .i64 0, .int .i64 0, .int .i64 0, .slice none 0 0, .slice none 0 0] 26)).heap.size := by simp
            have hdC : (Value.slice ra gn rc).ownBlock ≠ some D15_103.heap.size := fun e => by have := (World.ownsRow.lt HC.out _ e).2; omega
            have hdW : (Value.slice sa (on + 2) sc).ownBlock ≠ some D15_103.heap.size := fun e => by have := (World.ownsRow.lt HW.out _ e).2; omega
            replace HH := Lib.hid (HH.out.below hb17_104); replace BB := Lib.hid (bel_trans BB.out hb17_104); replace RC := Lib.hid (RC.out.on hb17_104); have hzhb17_104 := hb17_104.size
            replace c0 := cell_on c0 hb17_104; replace c1 := cell_on c1 hb17_104; replace c2 := cell_on c2 hb17_104; replace c3 := cell_on c3 hb17_104; replace c4 := cell_on c4 hb17_104
            replace HI := HI.below hb17_104
            replace HC := Lib.hid (ownsRow_below HC.out hb17_104)
            replace HW := Lib.hid (ownsRow_below HW.out hb17_104)
            obtain ⟨D17_104, hD17_104⟩ : ∃ X, D15_103.alloc (.cells #[.int .i64 0, .int .i64 0, .int .i64 0, .slice none 0 0, .slice none 0 0] 26) = X := ⟨_, rfl⟩
            rw [hD17_104] at HH BB RC HX c0 c1 c2 c3 c4 hzhb17_104 hg17_104 HI HC HW ⊢; clear hb17_104 hD17_104
            refine hK.out _ _ ?hS17_104 (fun hHeld => ?hr17_104)
            case hS17_104 => exact ⟨c0, c1, c2, c3, c4⟩
            clear hK K
            try simp only [Act.put, List.setIfInBounds_toArray, List.set_cons_zero, List.set_cons_succ]
            obtain ⟨⟨r0, r1, r2, r3, r4⟩, f0, f1, f2, f3, f4⟩ := id HX.out
            refine wpAnyH_ready (rs := [18]) (by kernel_rfl) (by simp) ?_
            refine AllReadyH.cons (o := ?o18_4) ?ho18_4 (fun K hK => ?hs18_4) AllReadyH.nil
            case ho18_4 => simp only [List.getElem?_toArray, List.getElem?_cons_succ, List.getElem?_cons_zero]; rfl
            go_simp
            refine hK.out _ _ ?hS18_4 (fun hHeld => ?hr18_4)
            case hS18_4 => exact ⟨cell_else5 c0 (by omega) _ _ _ _ _, cell_else5 c1 (by omega) _ _ _ _ _, cell_else5 c2 (by omega) _ _ _ _ _, cell_else5 c3 (by omega) _ _ _ _ _, cell_else5 c4 (by omega) _ _ _ _ _⟩
            clear hK K
            try simp only [Act.put, List.setIfInBounds_toArray, List.set_cons_zero, List.set_cons_succ]
            refine wpAnyH_done (by kernel_rfl) ?_ _
            have HA := Lib.hid (AnyA.reset (x0 := p) (x1 := i0) (x2 := i1) HX.out ⟨HC.out, HW.out, hdj, HFG, HFO⟩ hdC hdW (by omega))
            have RCz := Lib.hid (RC.out.bex (Bex.only5 (g := D15_103.heap.size) _ (.int .i64 p) (.int .i64 i0) (.int .i64 i1) (.slice ra gn rc) (.slice sa (on + 2) sc)) (by omega))
            have BBz := Lib.hid (bel_set5 (b := D15_103.heap.size) BB.out (by omega) (.int .i64 p) (.int .i64 i0) (.int .i64 i1) (.slice ra gn rc) (.slice sa (on + 2) sc))
            clear HH RC BB c0 c1 c2 c3 c4 r0 r1 r2 r3 r4 f0 f1 f2 f3 f4 HX HC HW hHeld
            go_wp2_with fail
            go_meet
            exact ⟨rfl, rfl, ⟨_, ra, rc, sa, sc, rfl, HA⟩, BBz, RCz⟩
        case hs17_103 =>
          go_simp
          have hb17_103 := bel_alloc D14_102 (.cells #[.int .i64 0, .int .i64 0, .int .i64 0, .slice none 0 0, .slice none 0 0] 26)
          have HX := Lib.hid (B5w.new (w := D14_102) (x0 := .int .i64 0) (x1 := .int .i64 0) (x2 := .int .i64 0) (x3 := .slice none 0 0) (x4 := .slice none 0 0) (t := 26))
          have hg17_103 : D14_102.heap.size < (D14_102.alloc (.cells #[.int .i64 0, .int .i64 0, .int .i64 0, .slice none 0 0, .slice none 0 0] 26)).heap.size := by simp
          have hdC : (Value.slice ra gn rc).ownBlock ≠ some D14_102.heap.size := fun e => by have := (World.ownsRow.lt HC.out _ e).2; omega
          replace HH := Lib.hid (HH.out.below hb17_103); replace BB := Lib.hid (bel_trans BB.out hb17_103); replace RC := Lib.hid (RC.out.on hb17_103); have hzhb17_103 := hb17_103.size
          replace c0 := cell_on c0 hb17_103; replace c1 := cell_on c1 hb17_103; replace c2 := cell_on c2 hb17_103; replace c3 := cell_on c3 hb17_103; replace c4 := cell_on c4 hb17_103
          replace HI := HI.below hb17_103
          replace HC := Lib.hid (ownsRow_below HC.out hb17_103)
          obtain ⟨D17_103, hD17_103⟩ : ∃ X, D14_102.alloc (.cells #[.int .i64 0, .int .i64 0, .int .i64 0, .slice none 0 0, .slice none 0 0] 26) = X := ⟨_, rfl⟩
          rw [hD17_103] at HH BB RC HX c0 c1 c2 c3 c4 hzhb17_103 hg17_103 HI HC ⊢; clear hb17_103 hD17_103
          refine hK.out _ _ ?hS17_103 (fun hHeld => ?hr17_103)
          case hS17_103 => exact ⟨c0, c1, c2, c3, c4⟩
          clear hK K
          try simp only [Act.put, List.setIfInBounds_toArray, List.set_cons_zero, List.set_cons_succ]
          refine wpAnyH_ready (rs := [15]) (by kernel_rfl) (by simp) ?_
          refine (AllReadyH.cons (o := ?o15_105) ?ho15_105 (fun K hK => ?hs15_105) AllReadyH.nil)
          case ho15_105 => simp only [List.getElem?_toArray, List.getElem?_cons_succ, List.getElem?_cons_zero]; rfl
          case hs15_105 =>
            go_simp
            go_at_call 26
            refine (i_withO _ on oc os _ 2 2 [N, N + 1] _ HH.out.o HI (by omega) (by omega)).mono ?_; rintro e D15_105 ⟨vW, rfl, hv, hb15_105⟩; obtain ⟨sa, sc, rfl⟩ := own_sl hv
            have hdj : ∀ q, (Value.slice ra gn rc).ownBlock = some q → (Value.slice sa (on + 2) sc).ownBlock ≠ some q := fun q hq e => by
              have h1 := (World.ownsRow.lt HC.out q hq).2
              have h2 := (World.ownsRow.lt hv q e).1
              omega
            have hdW : (Value.slice sa (on + 2) sc).ownBlock ≠ some D14_102.heap.size := fun e => by have := (World.ownsRow.lt hv _ e).1; omega
            replace HH := Lib.hid (HH.out.below hb15_105); replace BB := Lib.hid (bel_trans BB.out hb15_105); replace RC := Lib.hid (RC.out.on hb15_105); have hzhb15_105 := hb15_105.size
            replace c0 := cell_on c0 hb15_105; replace c1 := cell_on c1 hb15_105; replace c2 := cell_on c2 hb15_105; replace c3 := cell_on c3 hb15_105; replace c4 := cell_on c4 hb15_105
            replace HI := HI.below hb15_105
            replace HX := Lib.hid (HX.out.on hb15_105)
            replace HC := Lib.hid (ownsRow_below HC.out hb15_105)
            have HW := Lib.hid (ownsRow_base hv (B' := w.heap.size + 2) (by omega)); clear hv
            refine hK.out _ _ ?hS15_105 (fun hHeld => ?hr15_105)
            case hS15_105 => exact ⟨c0, c1, c2, c3, c4⟩
            clear hK K
            try simp only [Act.put, List.setIfInBounds_toArray, List.set_cons_zero, List.set_cons_succ]
            refine wpAnyH_take (i := 16) (oi := ?oi16_5) (v := ?v16_5) ?ho16_5 (by kernel_rfl) (by kernel_rfl) (by kernel_rfl) ?hQ16_5 ?hy16_5 hHeld ?hr16_5
            case ho16_5 => simp only [List.getElem?_toArray, List.getElem?_cons_succ, List.getElem?_cons_zero]; rfl
            case hQ16_5 => exact fun _ _ _ h => h
            case hy16_5 => exact Or.inl ⟨by rfl, by (intro w hSw; go_simp; try with_reducible rfl)⟩
            try simp only [Act.put, List.setIfInBounds_toArray, List.set_cons_zero, List.set_cons_succ]
            obtain ⟨⟨r0, r1, r2, r3, r4⟩, f0, f1, f2, f3, f4⟩ := id HX.out
            refine wpAnyH_ready (rs := [18]) (by kernel_rfl) (by simp) ?_
            refine AllReadyH.cons (o := ?o18_6) ?ho18_6 (fun K hK => ?hs18_6) AllReadyH.nil
            case ho18_6 => simp only [List.getElem?_toArray, List.getElem?_cons_succ, List.getElem?_cons_zero]; rfl
            go_simp
            refine hK.out _ _ ?hS18_6 (fun hHeld => ?hr18_6)
            case hS18_6 => exact ⟨cell_else5 c0 (by omega) _ _ _ _ _, cell_else5 c1 (by omega) _ _ _ _ _, cell_else5 c2 (by omega) _ _ _ _ _, cell_else5 c3 (by omega) _ _ _ _ _, cell_else5 c4 (by omega) _ _ _ _ _⟩
            clear hK K
            try simp only [Act.put, List.setIfInBounds_toArray, List.set_cons_zero, List.set_cons_succ]
            refine wpAnyH_done (by kernel_rfl) ?_ _
            have HA := Lib.hid (AnyA.reset (x0 := p) (x1 := i0) (x2 := i1) HX.out ⟨HC.out, HW.out, hdj, HFG, HFO⟩ hdC hdW (by omega))
            have RCz := Lib.hid (RC.out.bex (Bex.only5 (g := D14_102.heap.size) _ (.int .i64 p) (.int .i64 i0) (.int .i64 i1) (.slice ra gn rc) (.slice sa (on + 2) sc)) (by omega))
            have BBz := Lib.hid (bel_set5 (b := D14_102.heap.size) BB.out (by omega) (.int .i64 p) (.int .i64 i0) (.int .i64 i1) (.slice ra gn rc) (.slice sa (on + 2) sc))
            clear HH RC BB c0 c1 c2 c3 c4 r0 r1 r2 r3 r4 f0 f1 f2 f3 f4 HX HC HW hHeld
            go_wp2_with fail
            go_meet
            exact ⟨rfl, rfl, ⟨_, ra, rc, sa, sc, rfl, HA⟩, BBz, RCz⟩
      case hs17_102 =>
        go_simp
        have hb17_102 := bel_alloc D8_101 (.cells #[.int .i64 0, .int .i64 0, .int .i64 0, .slice none 0 0, .slice none 0 0] 26)
        have HX := Lib.hid (B5w.new (w := D8_101) (x0 := .int .i64 0) (x1 := .int .i64 0) (x2 := .int .i64 0) (x3 := .slice none 0 0) (x4 := .slice none 0 0) (t := 26))
        have hg17_102 : D8_101.heap.size < (D8_101.alloc (.cells #[.int .i64 0, .int .i64 0, .int .i64 0, .slice none 0 0, .slice none 0 0] 26)).heap.size := by simp
        have hdC : (Value.slice ra gn rc).ownBlock ≠ some D8_101.heap.size := fun e => by have := (World.ownsRow.lt HC.out _ e).2; omega
        replace HH := Lib.hid (HH.out.below hb17_102); replace BB := Lib.hid (bel_trans BB.out hb17_102); replace RC := Lib.hid (RC.out.on hb17_102); have hzhb17_102 := hb17_102.size
        replace c0 := cell_on c0 hb17_102; replace c1 := cell_on c1 hb17_102; replace c2 := cell_on c2 hb17_102; replace c3 := cell_on c3 hb17_102; replace c4 := cell_on c4 hb17_102
        replace HC := Lib.hid (ownsRow_below HC.out hb17_102)
        obtain ⟨D17_102, hD17_102⟩ : ∃ X, D8_101.alloc (.cells #[.int .i64 0, .int .i64 0, .int .i64 0, .slice none 0 0, .slice none 0 0] 26) = X := ⟨_, rfl⟩
        rw [hD17_102] at HH BB RC HX c0 c1 c2 c3 c4 hzhb17_102 hg17_102 HC ⊢; clear hb17_102 hD17_102
        refine hK.out _ _ ?hS17_102 (fun hHeld => ?hr17_102)
        case hS17_102 => exact ⟨c0, c1, c2, c3, c4⟩
        clear hK K
        try simp only [Act.put, List.setIfInBounds_toArray, List.set_cons_zero, List.set_cons_succ]
        refine wpAnyH_ready (rs := [14]) (by kernel_rfl) (by simp) ?_
        refine (AllReadyH.cons (o := ?o14_106) ?ho14_106 (fun K hK => ?hs14_106) AllReadyH.nil)
        case ho14_106 => simp only [List.getElem?_toArray, List.getElem?_cons_succ, List.getElem?_cons_zero]; rfl
        case hs14_106 =>
          go_simp
          have hb14_106 := bel_alloc D17_102 (.cells #[.int .i64 N, .int .i64 (N + 1)] 3)
          have HI := Ints.lit2 (w := D17_102) (m := D17_102.heap.size) (t := 3) (a := N) (b := N + 1) rfl (by unfold Fits; omega) (by unfold Fits; omega)
          replace HH := Lib.hid (HH.out.below hb14_106); replace BB := Lib.hid (bel_trans BB.out hb14_106); replace RC := Lib.hid (RC.out.on hb14_106); have hzhb14_106 := hb14_106.size
          replace c0 := cell_on c0 hb14_106; replace c1 := cell_on c1 hb14_106; replace c2 := cell_on c2 hb14_106; replace c3 := cell_on c3 hb14_106; replace c4 := cell_on c4 hb14_106
          replace HX := Lib.hid (HX.out.on hb14_106)
          replace HC := Lib.hid (ownsRow_below HC.out hb14_106)
          obtain ⟨D14_106, hD14_106⟩ : ∃ X, D17_102.alloc (.cells #[.int .i64 N, .int .i64 (N + 1)] 3) = X := ⟨_, rfl⟩
          rw [hD14_106] at HH BB RC HI c0 c1 c2 c3 c4 hzhb14_106 HX HC ⊢; clear hb14_106 hD14_106
          refine hK.out _ _ ?hS14_106 (fun hHeld => ?hr14_106)
          case hS14_106 => exact ⟨c0, c1, c2, c3, c4⟩
          clear hK K
          try simp only [Act.put, List.setIfInBounds_toArray, List.set_cons_zero, List.set_cons_succ]
          refine wpAnyH_ready (rs := [15]) (by kernel_rfl) (by simp) ?_
          refine (AllReadyH.cons (o := ?o15_107) ?ho15_107 (fun K hK => ?hs15_107) AllReadyH.nil)
          case ho15_107 => simp only [List.getElem?_toArray, List.getElem?_cons_succ, List.getElem?_cons_zero]; rfl
          case hs15_107 =>
            go_simp
            go_at_call 26
            refine (i_withO _ on oc os _ 2 2 [N, N + 1] _ HH.out.o HI (by omega) (by omega)).mono ?_; rintro e D15_107 ⟨vW, rfl, hv, hb15_107⟩; obtain ⟨sa, sc, rfl⟩ := own_sl hv
            have hdj : ∀ q, (Value.slice ra gn rc).ownBlock = some q → (Value.slice sa (on + 2) sc).ownBlock ≠ some q := fun q hq e => by
              have h1 := (World.ownsRow.lt HC.out q hq).2
              have h2 := (World.ownsRow.lt hv q e).1
              omega
            have hdW : (Value.slice sa (on + 2) sc).ownBlock ≠ some D8_101.heap.size := fun e => by have := (World.ownsRow.lt hv _ e).1; omega
            replace HH := Lib.hid (HH.out.below hb15_107); replace BB := Lib.hid (bel_trans BB.out hb15_107); replace RC := Lib.hid (RC.out.on hb15_107); have hzhb15_107 := hb15_107.size
            replace c0 := cell_on c0 hb15_107; replace c1 := cell_on c1 hb15_107; replace c2 := cell_on c2 hb15_107; replace c3 := cell_on c3 hb15_107; replace c4 := cell_on c4 hb15_107
            replace HI := HI.below hb15_107
            replace HX := Lib.hid (HX.out.on hb15_107)
            replace HC := Lib.hid (ownsRow_below HC.out hb15_107)
            have HW := Lib.hid (ownsRow_base hv (B' := w.heap.size + 2) (by omega)); clear hv
            refine hK.out _ _ ?hS15_107 (fun hHeld => ?hr15_107)
            case hS15_107 => exact ⟨c0, c1, c2, c3, c4⟩
            clear hK K
            try simp only [Act.put, List.setIfInBounds_toArray, List.set_cons_zero, List.set_cons_succ]
            refine wpAnyH_take (i := 16) (oi := ?oi16_7) (v := ?v16_7) ?ho16_7 (by kernel_rfl) (by kernel_rfl) (by kernel_rfl) ?hQ16_7 ?hy16_7 hHeld ?hr16_7
            case ho16_7 => simp only [List.getElem?_toArray, List.getElem?_cons_succ, List.getElem?_cons_zero]; rfl
            case hQ16_7 => exact fun _ _ _ h => h
            case hy16_7 => exact Or.inl ⟨by rfl, by (intro w hSw; go_simp; try with_reducible rfl)⟩
            try simp only [Act.put, List.setIfInBounds_toArray, List.set_cons_zero, List.set_cons_succ]
            obtain ⟨⟨r0, r1, r2, r3, r4⟩, f0, f1, f2, f3, f4⟩ := id HX.out
            refine wpAnyH_ready (rs := [18]) (by kernel_rfl) (by simp) ?_
            refine AllReadyH.cons (o := ?o18_8) ?ho18_8 (fun K hK => ?hs18_8) AllReadyH.nil
            case ho18_8 => simp only [List.getElem?_toArray, List.getElem?_cons_succ, List.getElem?_cons_zero]; rfl
            go_simp
            refine hK.out _ _ ?hS18_8 (fun hHeld => ?hr18_8)
            case hS18_8 => exact ⟨cell_else5 c0 (by omega) _ _ _ _ _, cell_else5 c1 (by omega) _ _ _ _ _, cell_else5 c2 (by omega) _ _ _ _ _, cell_else5 c3 (by omega) _ _ _ _ _, cell_else5 c4 (by omega) _ _ _ _ _⟩
            clear hK K
            try simp only [Act.put, List.setIfInBounds_toArray, List.set_cons_zero, List.set_cons_succ]
            refine wpAnyH_done (by kernel_rfl) ?_ _
            have HA := Lib.hid (AnyA.reset (x0 := p) (x1 := i0) (x2 := i1) HX.out ⟨HC.out, HW.out, hdj, HFG, HFO⟩ hdC hdW (by omega))
            have RCz := Lib.hid (RC.out.bex (Bex.only5 (g := D8_101.heap.size) _ (.int .i64 p) (.int .i64 i0) (.int .i64 i1) (.slice ra gn rc) (.slice sa (on + 2) sc)) (by omega))
            have BBz := Lib.hid (bel_set5 (b := D8_101.heap.size) BB.out (by omega) (.int .i64 p) (.int .i64 i0) (.int .i64 i1) (.slice ra gn rc) (.slice sa (on + 2) sc))
            clear HH RC BB c0 c1 c2 c3 c4 r0 r1 r2 r3 r4 f0 f1 f2 f3 f4 HX HC HW hHeld
            go_wp2_with fail
            go_meet
            exact ⟨rfl, rfl, ⟨_, ra, rc, sa, sc, rfl, HA⟩, BBz, RCz⟩
    case hs14_101 =>
      go_simp
      have hb14_101 := bel_alloc D0 (.cells #[.int .i64 N, .int .i64 (N + 1)] 3)
      have HI := Ints.lit2 (w := D0) (m := D0.heap.size) (t := 3) (a := N) (b := N + 1) rfl (by unfold Fits; omega) (by unfold Fits; omega)
      replace HH := Lib.hid (HH.out.below hb14_101); replace BB := Lib.hid (bel_trans BB.out hb14_101); replace RC := Lib.hid (RC.out.on hb14_101); have hzhb14_101 := hb14_101.size
      replace c0 := cell_on c0 hb14_101; replace c1 := cell_on c1 hb14_101; replace c2 := cell_on c2 hb14_101; replace c3 := cell_on c3 hb14_101; replace c4 := cell_on c4 hb14_101
      obtain ⟨D14_101, hD14_101⟩ : ∃ X, D0.alloc (.cells #[.int .i64 N, .int .i64 (N + 1)] 3) = X := ⟨_, rfl⟩
      rw [hD14_101] at HH BB RC HI c0 c1 c2 c3 c4 hzhb14_101 ⊢; clear hb14_101 hD14_101
      refine hK.out _ _ ?hS14_101 (fun hHeld => ?hr14_101)
      case hS14_101 => exact ⟨c0, c1, c2, c3, c4⟩
      clear hK K
      try simp only [Act.put, List.setIfInBounds_toArray, List.set_cons_zero, List.set_cons_succ]
      refine wpAnyH_ready (rs := [8, 17]) (by kernel_rfl) (by simp) ?_
      refine (AllReadyH.cons (o := ?o8_108) ?ho8_108 (fun K hK => ?hs8_108) (AllReadyH.cons (o := ?o17_108) ?ho17_108 (fun K hK => ?hs17_108) AllReadyH.nil))
      case ho8_108 => simp only [List.getElem?_toArray, List.getElem?_cons_succ, List.getElem?_cons_zero]; rfl
      case ho17_108 => simp only [List.getElem?_toArray, List.getElem?_cons_succ, List.getElem?_cons_zero]; rfl
      case hs8_108 =>
        go_simp
        go_at_call 51
        refine (g_CloneG ga gn gc gs _ HH.out.g (by omega)).mono ?_; rintro e D8_108 ⟨vC, rfl, hv, hb8_108⟩; obtain ⟨ra, rc, rfl⟩ := own_sl hv
        replace HH := Lib.hid (HH.out.below hb8_108); replace BB := Lib.hid (bel_trans BB.out hb8_108); replace RC := Lib.hid (RC.out.on hb8_108); have hzhb8_108 := hb8_108.size
        replace c0 := cell_on c0 hb8_108; replace c1 := cell_on c1 hb8_108; replace c2 := cell_on c2 hb8_108; replace c3 := cell_on c3 hb8_108; replace c4 := cell_on c4 hb8_108
        replace HI := HI.below hb8_108
        have HC := Lib.hid (ownsRow_base hv (B' := w.heap.size + 2) (by omega)); clear hv
        refine hK.out _ _ ?hS8_108 (fun hHeld => ?hr8_108)
        case hS8_108 => exact ⟨c0, c1, c2, c3, c4⟩
        clear hK K
        try simp only [Act.put, List.setIfInBounds_toArray, List.set_cons_zero, List.set_cons_succ]
        refine wpAnyH_ready (rs := [15, 17]) (by kernel_rfl) (by simp) ?_
        refine (AllReadyH.cons (o := ?o15_109) ?ho15_109 (fun K hK => ?hs15_109) (AllReadyH.cons (o := ?o17_109) ?ho17_109 (fun K hK => ?hs17_109) AllReadyH.nil))
        case ho15_109 => simp only [List.getElem?_toArray, List.getElem?_cons_succ, List.getElem?_cons_zero]; rfl
        case ho17_109 => simp only [List.getElem?_toArray, List.getElem?_cons_succ, List.getElem?_cons_zero]; rfl
        case hs15_109 =>
          go_simp
          go_at_call 26
          refine (i_withO _ on oc os _ 2 2 [N, N + 1] _ HH.out.o HI (by omega) (by omega)).mono ?_; rintro e D15_109 ⟨vW, rfl, hv, hb15_109⟩; obtain ⟨sa, sc, rfl⟩ := own_sl hv
          have hdj : ∀ q, (Value.slice ra gn rc).ownBlock = some q → (Value.slice sa (on + 2) sc).ownBlock ≠ some q := fun q hq e => by
            have h1 := (World.ownsRow.lt HC.out q hq).2
            have h2 := (World.ownsRow.lt hv q e).1
            omega
          replace HH := Lib.hid (HH.out.below hb15_109); replace BB := Lib.hid (bel_trans BB.out hb15_109); replace RC := Lib.hid (RC.out.on hb15_109); have hzhb15_109 := hb15_109.size
          replace c0 := cell_on c0 hb15_109; replace c1 := cell_on c1 hb15_109; replace c2 := cell_on c2 hb15_109; replace c3 := cell_on c3 hb15_109; replace c4 := cell_on c4 hb15_109
          replace HI := HI.below hb15_109
          replace HC := Lib.hid (ownsRow_below HC.out hb15_109)
          have HW := Lib.hid (ownsRow_base hv (B' := w.heap.size + 2) (by omega)); clear hv
          refine hK.out _ _ ?hS15_109 (fun hHeld => ?hr15_109)
          case hS15_109 => exact ⟨c0, c1, c2, c3, c4⟩
          clear hK K
          try simp only [Act.put, List.setIfInBounds_toArray, List.set_cons_zero, List.set_cons_succ]
          refine wpAnyH_take (i := 16) (oi := ?oi16_9) (v := ?v16_9) ?ho16_9 (by kernel_rfl) (by kernel_rfl) (by kernel_rfl) ?hQ16_9 ?hy16_9 hHeld ?hr16_9
          case ho16_9 => simp only [List.getElem?_toArray, List.getElem?_cons_succ, List.getElem?_cons_zero]; rfl
          case hQ16_9 => exact fun _ _ _ h => h
          case hy16_9 => exact Or.inl ⟨by rfl, by (intro w hSw; go_simp; try with_reducible rfl)⟩
          try simp only [Act.put, List.setIfInBounds_toArray, List.set_cons_zero, List.set_cons_succ]
          refine wpAnyH_ready (rs := [17]) (by kernel_rfl) (by simp) ?_
          refine (AllReadyH.cons (o := ?o17_110) ?ho17_110 (fun K hK => ?hs17_110) AllReadyH.nil)
          case ho17_110 => simp only [List.getElem?_toArray, List.getElem?_cons_succ, List.getElem?_cons_zero]; rfl
          case hs17_110 =>
            go_simp
            have hb17_110 := bel_alloc D15_109 (.cells #[.int .i64 0, .int .i64 0, .int .i64 0, .slice none 0 0, .slice none 0 0] 26)
            have HX := Lib.hid (B5w.new (w := D15_109) (x0 := .int .i64 0) (x1 := .int .i64 0) (x2 := .int .i64 0) (x3 := .slice none 0 0) (x4 := .slice none 0 0) (t := 26))
            have hg17_110 : D15_109.heap.size < (D15_109.alloc (.cells #[.int .i64 0, .int .i64 0, .int .i64 0, .slice none 0 0, .slice none 0 0] 26)).heap.size := by simp
            have hdC : (Value.slice ra gn rc).ownBlock ≠ some D15_109.heap.size := fun e => by have := (World.ownsRow.lt HC.out _ e).2; omega
            have hdW : (Value.slice sa (on + 2) sc).ownBlock ≠ some D15_109.heap.size := fun e => by have := (World.ownsRow.lt HW.out _ e).2; omega
            replace HH := Lib.hid (HH.out.below hb17_110); replace BB := Lib.hid (bel_trans BB.out hb17_110); replace RC := Lib.hid (RC.out.on hb17_110); have hzhb17_110 := hb17_110.size
            replace c0 := cell_on c0 hb17_110; replace c1 := cell_on c1 hb17_110; replace c2 := cell_on c2 hb17_110; replace c3 := cell_on c3 hb17_110; replace c4 := cell_on c4 hb17_110
            replace HI := HI.below hb17_110
            replace HC := Lib.hid (ownsRow_below HC.out hb17_110)
            replace HW := Lib.hid (ownsRow_below HW.out hb17_110)
            obtain ⟨D17_110, hD17_110⟩ : ∃ X, D15_109.alloc (.cells #[.int .i64 0, .int .i64 0, .int .i64 0, .slice none 0 0, .slice none 0 0] 26) = X := ⟨_, rfl⟩
            rw [hD17_110] at HH BB RC HX c0 c1 c2 c3 c4 hzhb17_110 hg17_110 HI HC HW ⊢; clear hb17_110 hD17_110
            refine hK.out _ _ ?hS17_110 (fun hHeld => ?hr17_110)
            case hS17_110 => exact ⟨c0, c1, c2, c3, c4⟩
            clear hK K
            try simp only [Act.put, List.setIfInBounds_toArray, List.set_cons_zero, List.set_cons_succ]
            obtain ⟨⟨r0, r1, r2, r3, r4⟩, f0, f1, f2, f3, f4⟩ := id HX.out
            refine wpAnyH_ready (rs := [18]) (by kernel_rfl) (by simp) ?_
            refine AllReadyH.cons (o := ?o18_10) ?ho18_10 (fun K hK => ?hs18_10) AllReadyH.nil
            case ho18_10 => simp only [List.getElem?_toArray, List.getElem?_cons_succ, List.getElem?_cons_zero]; rfl
            go_simp
            refine hK.out _ _ ?hS18_10 (fun hHeld => ?hr18_10)
            case hS18_10 => exact ⟨cell_else5 c0 (by omega) _ _ _ _ _, cell_else5 c1 (by omega) _ _ _ _ _, cell_else5 c2 (by omega) _ _ _ _ _, cell_else5 c3 (by omega) _ _ _ _ _, cell_else5 c4 (by omega) _ _ _ _ _⟩
            clear hK K
            try simp only [Act.put, List.setIfInBounds_toArray, List.set_cons_zero, List.set_cons_succ]
            refine wpAnyH_done (by kernel_rfl) ?_ _
            have HA := Lib.hid (AnyA.reset (x0 := p) (x1 := i0) (x2 := i1) HX.out ⟨HC.out, HW.out, hdj, HFG, HFO⟩ hdC hdW (by omega))
            have RCz := Lib.hid (RC.out.bex (Bex.only5 (g := D15_109.heap.size) _ (.int .i64 p) (.int .i64 i0) (.int .i64 i1) (.slice ra gn rc) (.slice sa (on + 2) sc)) (by omega))
            have BBz := Lib.hid (bel_set5 (b := D15_109.heap.size) BB.out (by omega) (.int .i64 p) (.int .i64 i0) (.int .i64 i1) (.slice ra gn rc) (.slice sa (on + 2) sc))
            clear HH RC BB c0 c1 c2 c3 c4 r0 r1 r2 r3 r4 f0 f1 f2 f3 f4 HX HC HW hHeld
            go_wp2_with fail
            go_meet
            exact ⟨rfl, rfl, ⟨_, ra, rc, sa, sc, rfl, HA⟩, BBz, RCz⟩
        case hs17_109 =>
          go_simp
          have hb17_109 := bel_alloc D8_108 (.cells #[.int .i64 0, .int .i64 0, .int .i64 0, .slice none 0 0, .slice none 0 0] 26)
          have HX := Lib.hid (B5w.new (w := D8_108) (x0 := .int .i64 0) (x1 := .int .i64 0) (x2 := .int .i64 0) (x3 := .slice none 0 0) (x4 := .slice none 0 0) (t := 26))
          have hg17_109 : D8_108.heap.size < (D8_108.alloc (.cells #[.int .i64 0, .int .i64 0, .int .i64 0, .slice none 0 0, .slice none 0 0] 26)).heap.size := by simp
          have hdC : (Value.slice ra gn rc).ownBlock ≠ some D8_108.heap.size := fun e => by have := (World.ownsRow.lt HC.out _ e).2; omega
          replace HH := Lib.hid (HH.out.below hb17_109); replace BB := Lib.hid (bel_trans BB.out hb17_109); replace RC := Lib.hid (RC.out.on hb17_109); have hzhb17_109 := hb17_109.size
          replace c0 := cell_on c0 hb17_109; replace c1 := cell_on c1 hb17_109; replace c2 := cell_on c2 hb17_109; replace c3 := cell_on c3 hb17_109; replace c4 := cell_on c4 hb17_109
          replace HI := HI.below hb17_109
          replace HC := Lib.hid (ownsRow_below HC.out hb17_109)
          obtain ⟨D17_109, hD17_109⟩ : ∃ X, D8_108.alloc (.cells #[.int .i64 0, .int .i64 0, .int .i64 0, .slice none 0 0, .slice none 0 0] 26) = X := ⟨_, rfl⟩
          rw [hD17_109] at HH BB RC HX c0 c1 c2 c3 c4 hzhb17_109 hg17_109 HI HC ⊢; clear hb17_109 hD17_109
          refine hK.out _ _ ?hS17_109 (fun hHeld => ?hr17_109)
          case hS17_109 => exact ⟨c0, c1, c2, c3, c4⟩
          clear hK K
          try simp only [Act.put, List.setIfInBounds_toArray, List.set_cons_zero, List.set_cons_succ]
          refine wpAnyH_ready (rs := [15]) (by kernel_rfl) (by simp) ?_
          refine (AllReadyH.cons (o := ?o15_111) ?ho15_111 (fun K hK => ?hs15_111) AllReadyH.nil)
          case ho15_111 => simp only [List.getElem?_toArray, List.getElem?_cons_succ, List.getElem?_cons_zero]; rfl
          case hs15_111 =>
            go_simp
            go_at_call 26
            refine (i_withO _ on oc os _ 2 2 [N, N + 1] _ HH.out.o HI (by omega) (by omega)).mono ?_; rintro e D15_111 ⟨vW, rfl, hv, hb15_111⟩; obtain ⟨sa, sc, rfl⟩ := own_sl hv
            have hdj : ∀ q, (Value.slice ra gn rc).ownBlock = some q → (Value.slice sa (on + 2) sc).ownBlock ≠ some q := fun q hq e => by
              have h1 := (World.ownsRow.lt HC.out q hq).2
              have h2 := (World.ownsRow.lt hv q e).1
              omega
            have hdW : (Value.slice sa (on + 2) sc).ownBlock ≠ some D8_108.heap.size := fun e => by have := (World.ownsRow.lt hv _ e).1; omega
            replace HH := Lib.hid (HH.out.below hb15_111); replace BB := Lib.hid (bel_trans BB.out hb15_111); replace RC := Lib.hid (RC.out.on hb15_111); have hzhb15_111 := hb15_111.size
            replace c0 := cell_on c0 hb15_111; replace c1 := cell_on c1 hb15_111; replace c2 := cell_on c2 hb15_111; replace c3 := cell_on c3 hb15_111; replace c4 := cell_on c4 hb15_111
            replace HI := HI.below hb15_111
            replace HX := Lib.hid (HX.out.on hb15_111)
            replace HC := Lib.hid (ownsRow_below HC.out hb15_111)
            have HW := Lib.hid (ownsRow_base hv (B' := w.heap.size + 2) (by omega)); clear hv
            refine hK.out _ _ ?hS15_111 (fun hHeld => ?hr15_111)
            case hS15_111 => exact ⟨c0, c1, c2, c3, c4⟩
            clear hK K
            try simp only [Act.put, List.setIfInBounds_toArray, List.set_cons_zero, List.set_cons_succ]
            refine wpAnyH_take (i := 16) (oi := ?oi16_11) (v := ?v16_11) ?ho16_11 (by kernel_rfl) (by kernel_rfl) (by kernel_rfl) ?hQ16_11 ?hy16_11 hHeld ?hr16_11
            case ho16_11 => simp only [List.getElem?_toArray, List.getElem?_cons_succ, List.getElem?_cons_zero]; rfl
            case hQ16_11 => exact fun _ _ _ h => h
            case hy16_11 => exact Or.inl ⟨by rfl, by (intro w hSw; go_simp; try with_reducible rfl)⟩
            try simp only [Act.put, List.setIfInBounds_toArray, List.set_cons_zero, List.set_cons_succ]
            obtain ⟨⟨r0, r1, r2, r3, r4⟩, f0, f1, f2, f3, f4⟩ := id HX.out
            refine wpAnyH_ready (rs := [18]) (by kernel_rfl) (by simp) ?_
            refine AllReadyH.cons (o := ?o18_12) ?ho18_12 (fun K hK => ?hs18_12) AllReadyH.nil
            case ho18_12 => simp only [List.getElem?_toArray, List.getElem?_cons_succ, List.getElem?_cons_zero]; rfl
            go_simp
            refine hK.out _ _ ?hS18_12 (fun hHeld => ?hr18_12)
            case hS18_12 => exact ⟨cell_else5 c0 (by omega) _ _ _ _ _, cell_else5 c1 (by omega) _ _ _ _ _, cell_else5 c2 (by omega) _ _ _ _ _, cell_else5 c3 (by omega) _ _ _ _ _, cell_else5 c4 (by omega) _ _ _ _ _⟩
            clear hK K
            try simp only [Act.put, List.setIfInBounds_toArray, List.set_cons_zero, List.set_cons_succ]
            refine wpAnyH_done (by kernel_rfl) ?_ _
            have HA := Lib.hid (AnyA.reset (x0 := p) (x1 := i0) (x2 := i1) HX.out ⟨HC.out, HW.out, hdj, HFG, HFO⟩ hdC hdW (by omega))
            have RCz := Lib.hid (RC.out.bex (Bex.only5 (g := D8_108.heap.size) _ (.int .i64 p) (.int .i64 i0) (.int .i64 i1) (.slice ra gn rc) (.slice sa (on + 2) sc)) (by omega))
            have BBz := Lib.hid (bel_set5 (b := D8_108.heap.size) BB.out (by omega) (.int .i64 p) (.int .i64 i0) (.int .i64 i1) (.slice ra gn rc) (.slice sa (on + 2) sc))
            clear HH RC BB c0 c1 c2 c3 c4 r0 r1 r2 r3 r4 f0 f1 f2 f3 f4 HX HC HW hHeld
            go_wp2_with fail
            go_meet
            exact ⟨rfl, rfl, ⟨_, ra, rc, sa, sc, rfl, HA⟩, BBz, RCz⟩
      case hs17_108 =>
        go_simp
        have hb17_108 := bel_alloc D14_101 (.cells #[.int .i64 0, .int .i64 0, .int .i64 0, .slice none 0 0, .slice none 0 0] 26)
        have HX := Lib.hid (B5w.new (w := D14_101) (x0 := .int .i64 0) (x1 := .int .i64 0) (x2 := .int .i64 0) (x3 := .slice none 0 0) (x4 := .slice none 0 0) (t := 26))
        have hg17_108 : D14_101.heap.size < (D14_101.alloc (.cells #[.int .i64 0, .int .i64 0, .int .i64 0, .slice none 0 0, .slice none 0 0] 26)).heap.size := by simp
        replace HH := Lib.hid (HH.out.below hb17_108); replace BB := Lib.hid (bel_trans BB.out hb17_108); replace RC := Lib.hid (RC.out.on hb17_108); have hzhb17_108 := hb17_108.size
        replace c0 := cell_on c0 hb17_108; replace c1 := cell_on c1 hb17_108; replace c2 := cell_on c2 hb17_108; replace c3 := cell_on c3 hb17_108; replace c4 := cell_on c4 hb17_108
        replace HI := HI.below hb17_108
        obtain ⟨D17_108, hD17_108⟩ : ∃ X, D14_101.alloc (.cells #[.int .i64 0, .int .i64 0, .int .i64 0, .slice none 0 0, .slice none 0 0] 26) = X := ⟨_, rfl⟩
        rw [hD17_108] at HH BB RC HX c0 c1 c2 c3 c4 hzhb17_108 hg17_108 HI ⊢; clear hb17_108 hD17_108
        refine hK.out _ _ ?hS17_108 (fun hHeld => ?hr17_108)
        case hS17_108 => exact ⟨c0, c1, c2, c3, c4⟩
        clear hK K
        try simp only [Act.put, List.setIfInBounds_toArray, List.set_cons_zero, List.set_cons_succ]
        refine wpAnyH_ready (rs := [8]) (by kernel_rfl) (by simp) ?_
        refine (AllReadyH.cons (o := ?o8_112) ?ho8_112 (fun K hK => ?hs8_112) AllReadyH.nil)
        case ho8_112 => simp only [List.getElem?_toArray, List.getElem?_cons_succ, List.getElem?_cons_zero]; rfl
        case hs8_112 =>
          go_simp
          go_at_call 51
          refine (g_CloneG ga gn gc gs _ HH.out.g (by omega)).mono ?_; rintro e D8_112 ⟨vC, rfl, hv, hb8_112⟩; obtain ⟨ra, rc, rfl⟩ := own_sl hv
          have hdC : (Value.slice ra gn rc).ownBlock ≠ some D14_101.heap.size := fun e => by have := (World.ownsRow.lt hv _ e).1; omega
          replace HH := Lib.hid (HH.out.below hb8_112); replace BB := Lib.hid (bel_trans BB.out hb8_112); replace RC := Lib.hid (RC.out.on hb8_112); have hzhb8_112 := hb8_112.size
          replace c0 := cell_on c0 hb8_112; replace c1 := cell_on c1 hb8_112; replace c2 := cell_on c2 hb8_112; replace c3 := cell_on c3 hb8_112; replace c4 := cell_on c4 hb8_112
          replace HI := HI.below hb8_112
          replace HX := Lib.hid (HX.out.on hb8_112)
          have HC := Lib.hid (ownsRow_base hv (B' := w.heap.size + 2) (by omega)); clear hv
          refine hK.out _ _ ?hS8_112 (fun hHeld => ?hr8_112)
          case hS8_112 => exact ⟨c0, c1, c2, c3, c4⟩
          clear hK K
          try simp only [Act.put, List.setIfInBounds_toArray, List.set_cons_zero, List.set_cons_succ]
          refine wpAnyH_ready (rs := [15]) (by kernel_rfl) (by simp) ?_
          refine (AllReadyH.cons (o := ?o15_113) ?ho15_113 (fun K hK => ?hs15_113) AllReadyH.nil)
          case ho15_113 => simp only [List.getElem?_toArray, List.getElem?_cons_succ, List.getElem?_cons_zero]; rfl
          case hs15_113 =>
            go_simp
            go_at_call 26
            refine (i_withO _ on oc os _ 2 2 [N, N + 1] _ HH.out.o HI (by omega) (by omega)).mono ?_; rintro e D15_113 ⟨vW, rfl, hv, hb15_113⟩; obtain ⟨sa, sc, rfl⟩ := own_sl hv
            have hdj : ∀ q, (Value.slice ra gn rc).ownBlock = some q → (Value.slice sa (on + 2) sc).ownBlock ≠ some q := fun q hq e => by
              have h1 := (World.ownsRow.lt HC.out q hq).2
              have h2 := (World.ownsRow.lt hv q e).1
              omega
            have hdW : (Value.slice sa (on + 2) sc).ownBlock ≠ some D14_101.heap.size := fun e => by have := (World.ownsRow.lt hv _ e).1; omega
            replace HH := Lib.hid (HH.out.below hb15_113); replace BB := Lib.hid (bel_trans BB.out hb15_113); replace RC := Lib.hid (RC.out.on hb15_113); have hzhb15_113 := hb15_113.size
            replace c0 := cell_on c0 hb15_113; replace c1 := cell_on c1 hb15_113; replace c2 := cell_on c2 hb15_113; replace c3 := cell_on c3 hb15_113; replace c4 := cell_on c4 hb15_113
            replace HI := HI.below hb15_113
            replace HX := Lib.hid (HX.out.on hb15_113)
            replace HC := Lib.hid (ownsRow_below HC.out hb15_113)
            have HW := Lib.hid (ownsRow_base hv (B' := w.heap.size + 2) (by omega)); clear hv
            refine hK.out _ _ ?hS15_113 (fun hHeld => ?hr15_113)
            case hS15_113 => exact ⟨c0, c1, c2, c3, c4⟩
            clear hK K
            try simp only [Act.put, List.setIfInBounds_toArray, List.set_cons_zero, List.set_cons_succ]
            refine wpAnyH_take (i := 16) (oi := ?oi16_13) (v := ?v16_13) ?ho16_13 (by kernel_rfl) (by kernel_rfl) (by kernel_rfl) ?hQ16_13 ?hy16_13 hHeld ?hr16_13
            case ho16_13 => simp only [List.getElem?_toArray, List.getElem?_cons_succ, List.getElem?_cons_zero]; rfl
            case hQ16_13 => exact fun _ _ _ h => h
            case hy16_13 => exact Or.inl ⟨by rfl, by (intro w hSw; go_simp; try with_reducible rfl)⟩
            try simp only [Act.put, List.setIfInBounds_toArray, List.set_cons_zero, List.set_cons_succ]
            obtain ⟨⟨r0, r1, r2, r3, r4⟩, f0, f1, f2, f3, f4⟩ := id HX.out
            refine wpAnyH_ready (rs := [18]) (by kernel_rfl) (by simp) ?_
            refine AllReadyH.cons (o := ?o18_14) ?ho18_14 (fun K hK => ?hs18_14) AllReadyH.nil
            case ho18_14 => simp only [List.getElem?_toArray, List.getElem?_cons_succ, List.getElem?_cons_zero]; rfl
            go_simp
            refine hK.out _ _ ?hS18_14 (fun hHeld => ?hr18_14)
            case hS18_14 => exact ⟨cell_else5 c0 (by omega) _ _ _ _ _, cell_else5 c1 (by omega) _ _ _ _ _, cell_else5 c2 (by omega) _ _ _ _ _, cell_else5 c3 (by omega) _ _ _ _ _, cell_else5 c4 (by omega) _ _ _ _ _⟩
            clear hK K
            try simp only [Act.put, List.setIfInBounds_toArray, List.set_cons_zero, List.set_cons_succ]
            refine wpAnyH_done (by kernel_rfl) ?_ _
            have HA := Lib.hid (AnyA.reset (x0 := p) (x1 := i0) (x2 := i1) HX.out ⟨HC.out, HW.out, hdj, HFG, HFO⟩ hdC hdW (by omega))
            have RCz := Lib.hid (RC.out.bex (Bex.only5 (g := D14_101.heap.size) _ (.int .i64 p) (.int .i64 i0) (.int .i64 i1) (.slice ra gn rc) (.slice sa (on + 2) sc)) (by omega))
            have BBz := Lib.hid (bel_set5 (b := D14_101.heap.size) BB.out (by omega) (.int .i64 p) (.int .i64 i0) (.int .i64 i1) (.slice ra gn rc) (.slice sa (on + 2) sc))
            clear HH RC BB c0 c1 c2 c3 c4 r0 r1 r2 r3 r4 f0 f1 f2 f3 f4 HX HC HW hHeld
            go_wp2_with fail
            go_meet
            exact ⟨rfl, rfl, ⟨_, ra, rc, sa, sc, rfl, HA⟩, BBz, RCz⟩
    case hs17_101 =>
      go_simp
      have hb17_101 := bel_alloc D0 (.cells #[.int .i64 0, .int .i64 0, .int .i64 0, .slice none 0 0, .slice none 0 0] 26)
      have HX := Lib.hid (B5w.new (w := D0) (x0 := .int .i64 0) (x1 := .int .i64 0) (x2 := .int .i64 0) (x3 := .slice none 0 0) (x4 := .slice none 0 0) (t := 26))
      have hg17_101 : D0.heap.size < (D0.alloc (.cells #[.int .i64 0, .int .i64 0, .int .i64 0, .slice none 0 0, .slice none 0 0] 26)).heap.size := by simp
      replace HH := Lib.hid (HH.out.below hb17_101); replace BB := Lib.hid (bel_trans BB.out hb17_101); replace RC := Lib.hid (RC.out.on hb17_101); have hzhb17_101 := hb17_101.size
      replace c0 := cell_on c0 hb17_101; replace c1 := cell_on c1 hb17_101; replace c2 := cell_on c2 hb17_101; replace c3 := cell_on c3 hb17_101; replace c4 := cell_on c4 hb17_101
      obtain ⟨D17_101, hD17_101⟩ : ∃ X, D0.alloc (.cells #[.int .i64 0, .int .i64 0, .int .i64 0, .slice none 0 0, .slice none 0 0] 26) = X := ⟨_, rfl⟩
      rw [hD17_101] at HH BB RC HX c0 c1 c2 c3 c4 hzhb17_101 hg17_101 ⊢; clear hb17_101 hD17_101
      refine hK.out _ _ ?hS17_101 (fun hHeld => ?hr17_101)
      case hS17_101 => exact ⟨c0, c1, c2, c3, c4⟩
      clear hK K
      try simp only [Act.put, List.setIfInBounds_toArray, List.set_cons_zero, List.set_cons_succ]
      refine wpAnyH_ready (rs := [8, 14]) (by kernel_rfl) (by simp) ?_
      refine (AllReadyH.cons (o := ?o8_114) ?ho8_114 (fun K hK => ?hs8_114) (AllReadyH.cons (o := ?o14_114) ?ho14_114 (fun K hK => ?hs14_114) AllReadyH.nil))
      case ho8_114 => simp only [List.getElem?_toArray, List.getElem?_cons_succ, List.getElem?_cons_zero]; rfl
      case ho14_114 => simp only [List.getElem?_toArray, List.getElem?_cons_succ, List.getElem?_cons_zero]; rfl
      case hs8_114 =>
        go_simp
        go_at_call 51
        refine (g_CloneG ga gn gc gs _ HH.out.g (by omega)).mono ?_; rintro e D8_114 ⟨vC, rfl, hv, hb8_114⟩; obtain ⟨ra, rc, rfl⟩ := own_sl hv
        have hdC : (Value.slice ra gn rc).ownBlock ≠ some D0.heap.size := fun e => by have := (World.ownsRow.lt hv _ e).1; omega
        replace HH := Lib.hid (HH.out.below hb8_114); replace BB := Lib.hid (bel_trans BB.out hb8_114); replace RC := Lib.hid (RC.out.on hb8_114); have hzhb8_114 := hb8_114.size
        replace c0 := cell_on c0 hb8_114; replace c1 := cell_on c1 hb8_114; replace c2 := cell_on c2 hb8_114; replace c3 := cell_on c3 hb8_114; replace c4 := cell_on c4 hb8_114
        replace HX := Lib.hid (HX.out.on hb8_114)
        have HC := Lib.hid (ownsRow_base hv (B' := w.heap.size + 2) (by omega)); clear hv
        refine hK.out _ _ ?hS8_114 (fun hHeld => ?hr8_114)
        case hS8_114 => exact ⟨c0, c1, c2, c3, c4⟩
        clear hK K
        try simp only [Act.put, List.setIfInBounds_toArray, List.set_cons_zero, List.set_cons_succ]
        refine wpAnyH_ready (rs := [14]) (by kernel_rfl) (by simp) ?_
        refine (AllReadyH.cons (o := ?o14_115) ?ho14_115 (fun K hK => ?hs14_115) AllReadyH.nil)
        case ho14_115 => simp only [List.getElem?_toArray, List.getElem?_cons_succ, List.getElem?_cons_zero]; rfl
        case hs14_115 =>
          go_simp
          have hb14_115 := bel_alloc D8_114 (.cells #[.int .i64 N, .int .i64 (N + 1)] 3)
          have HI := Ints.lit2 (w := D8_114) (m := D8_114.heap.size) (t := 3) (a := N) (b := N + 1) rfl (by unfold Fits; omega) (by unfold Fits; omega)
          replace HH := Lib.hid (HH.out.below hb14_115); replace BB := Lib.hid (bel_trans BB.out hb14_115); replace RC := Lib.hid (RC.out.on hb14_115); have hzhb14_115 := hb14_115.size
          replace c0 := cell_on c0 hb14_115; replace c1 := cell_on c1 hb14_115; replace c2 := cell_on c2 hb14_115; replace c3 := cell_on c3 hb14_115; replace c4 := cell_on c4 hb14_115
          replace HX := Lib.hid (HX.out.on hb14_115)
          replace HC := Lib.hid (ownsRow_below HC.out hb14_115)
          obtain ⟨D14_115, hD14_115⟩ : ∃ X, D8_114.alloc (.cells #[.int .i64 N, .int .i64 (N + 1)] 3) = X := ⟨_, rfl⟩
          rw [hD14_115] at HH BB RC HI c0 c1 c2 c3 c4 hzhb14_115 HX HC ⊢; clear hb14_115 hD14_115
          refine hK.out _ _ ?hS14_115 (fun hHeld => ?hr14_115)
          case hS14_115 => exact ⟨c0, c1, c2, c3, c4⟩
          clear hK K
          try simp only [Act.put, List.setIfInBounds_toArray, List.set_cons_zero, List.set_cons_succ]
          refine wpAnyH_ready (rs := [15]) (by kernel_rfl) (by simp) ?_
          refine (AllReadyH.cons (o := ?o15_116) ?ho15_116 (fun K hK => ?hs15_116) AllReadyH.nil)
          case ho15_116 => simp only [List.getElem?_toArray, List.getElem?_cons_succ, List.getElem?_cons_zero]; rfl
          case hs15_116 =>
            go_simp
            go_at_call 26
            refine (i_withO _ on oc os _ 2 2 [N, N + 1] _ HH.out.o HI (by omega) (by omega)).mono ?_; rintro e D15_116 ⟨vW, rfl, hv, hb15_116⟩; obtain ⟨sa, sc, rfl⟩ := own_sl hv
            have hdj : ∀ q, (Value.slice ra gn rc).ownBlock = some q → (Value.slice sa (on + 2) sc).ownBlock ≠ some q := fun q hq e => by
              have h1 := (World.ownsRow.lt HC.out q hq).2
              have h2 := (World.ownsRow.lt hv q e).1
              omega
            have hdW : (Value.slice sa (on + 2) sc).ownBlock ≠ some D0.heap.size := fun e => by have := (World.ownsRow.lt hv _ e).1; omega
            replace HH := Lib.hid (HH.out.below hb15_116); replace BB := Lib.hid (bel_trans BB.out hb15_116); replace RC := Lib.hid (RC.out.on hb15_116); have hzhb15_116 := hb15_116.size
            replace c0 := cell_on c0 hb15_116; replace c1 := cell_on c1 hb15_116; replace c2 := cell_on c2 hb15_116; replace c3 := cell_on c3 hb15_116; replace c4 := cell_on c4 hb15_116
            replace HI := HI.below hb15_116
            replace HX := Lib.hid (HX.out.on hb15_116)
            replace HC := Lib.hid (ownsRow_below HC.out hb15_116)
            have HW := Lib.hid (ownsRow_base hv (B' := w.heap.size + 2) (by omega)); clear hv
            refine hK.out _ _ ?hS15_116 (fun hHeld => ?hr15_116)
            case hS15_116 => exact ⟨c0, c1, c2, c3, c4⟩
            clear hK K
            try simp only [Act.put, List.setIfInBounds_toArray, List.set_cons_zero, List.set_cons_succ]
            refine wpAnyH_take (i := 16) (oi := ?oi16_15) (v := ?v16_15) ?ho16_15 (by kernel_rfl) (by kernel_rfl) (by kernel_rfl) ?hQ16_15 ?hy16_15 hHeld ?hr16_15
            case ho16_15 => simp only [List.getElem?_toArray, List.getElem?_cons_succ, List.getElem?_cons_zero]; rfl
            case hQ16_15 => exact fun _ _ _ h => h
            case hy16_15 => exact Or.inl ⟨by rfl, by (intro w hSw; go_simp; try with_reducible rfl)⟩
            try simp only [Act.put, List.setIfInBounds_toArray, List.set_cons_zero, List.set_cons_succ]
            obtain ⟨⟨r0, r1, r2, r3, r4⟩, f0, f1, f2, f3, f4⟩ := id HX.out
            refine wpAnyH_ready (rs := [18]) (by kernel_rfl) (by simp) ?_
            refine AllReadyH.cons (o := ?o18_16) ?ho18_16 (fun K hK => ?hs18_16) AllReadyH.nil
            case ho18_16 => simp only [List.getElem?_toArray, List.getElem?_cons_succ, List.getElem?_cons_zero]; rfl
            go_simp
            refine hK.out _ _ ?hS18_16 (fun hHeld => ?hr18_16)
            case hS18_16 => exact ⟨cell_else5 c0 (by omega) _ _ _ _ _, cell_else5 c1 (by omega) _ _ _ _ _, cell_else5 c2 (by omega) _ _ _ _ _, cell_else5 c3 (by omega) _ _ _ _ _, cell_else5 c4 (by omega) _ _ _ _ _⟩
            clear hK K
            try simp only [Act.put, List.setIfInBounds_toArray, List.set_cons_zero, List.set_cons_succ]
            refine wpAnyH_done (by kernel_rfl) ?_ _
            have HA := Lib.hid (AnyA.reset (x0 := p) (x1 := i0) (x2 := i1) HX.out ⟨HC.out, HW.out, hdj, HFG, HFO⟩ hdC hdW (by omega))
            have RCz := Lib.hid (RC.out.bex (Bex.only5 (g := D0.heap.size) _ (.int .i64 p) (.int .i64 i0) (.int .i64 i1) (.slice ra gn rc) (.slice sa (on + 2) sc)) (by omega))
            have BBz := Lib.hid (bel_set5 (b := D0.heap.size) BB.out (by omega) (.int .i64 p) (.int .i64 i0) (.int .i64 i1) (.slice ra gn rc) (.slice sa (on + 2) sc))
            clear HH RC BB c0 c1 c2 c3 c4 r0 r1 r2 r3 r4 f0 f1 f2 f3 f4 HX HC HW hHeld
            go_wp2_with fail
            go_meet
            exact ⟨rfl, rfl, ⟨_, ra, rc, sa, sc, rfl, HA⟩, BBz, RCz⟩
      case hs14_114 =>
        go_simp
        have hb14_114 := bel_alloc D17_101 (.cells #[.int .i64 N, .int .i64 (N + 1)] 3)
        have HI := Ints.lit2 (w := D17_101) (m := D17_101.heap.size) (t := 3) (a := N) (b := N + 1) rfl (by unfold Fits; omega) (by unfold Fits; omega)
        replace HH := Lib.hid (HH.out.below hb14_114); replace BB := Lib.hid (bel_trans BB.out hb14_114); replace RC := Lib.hid (RC.out.on hb14_114); have hzhb14_114 := hb14_114.size
        replace c0 := cell_on c0 hb14_114; replace c1 := cell_on c1 hb14_114; replace c2 := cell_on c2 hb14_114; replace c3 := cell_on c3 hb14_114; replace c4 := cell_on c4 hb14_114
        replace HX := Lib.hid (HX.out.on hb14_114)
        obtain ⟨D14_114, hD14_114⟩ : ∃ X, D17_101.alloc (.cells #[.int .i64 N, .int .i64 (N + 1)] 3) = X := ⟨_, rfl⟩
        rw [hD14_114] at HH BB RC HI c0 c1 c2 c3 c4 hzhb14_114 HX ⊢; clear hb14_114 hD14_114
        refine hK.out _ _ ?hS14_114 (fun hHeld => ?hr14_114)
        case hS14_114 => exact ⟨c0, c1, c2, c3, c4⟩
        clear hK K
        try simp only [Act.put, List.setIfInBounds_toArray, List.set_cons_zero, List.set_cons_succ]
        refine wpAnyH_ready (rs := [8]) (by kernel_rfl) (by simp) ?_
        refine (AllReadyH.cons (o := ?o8_117) ?ho8_117 (fun K hK => ?hs8_117) AllReadyH.nil)
        case ho8_117 => simp only [List.getElem?_toArray, List.getElem?_cons_succ, List.getElem?_cons_zero]; rfl
        case hs8_117 =>
          go_simp
          go_at_call 51
          refine (g_CloneG ga gn gc gs _ HH.out.g (by omega)).mono ?_; rintro e D8_117 ⟨vC, rfl, hv, hb8_117⟩; obtain ⟨ra, rc, rfl⟩ := own_sl hv
          have hdC : (Value.slice ra gn rc).ownBlock ≠ some D0.heap.size := fun e => by have := (World.ownsRow.lt hv _ e).1; omega
          replace HH := Lib.hid (HH.out.below hb8_117); replace BB := Lib.hid (bel_trans BB.out hb8_117); replace RC := Lib.hid (RC.out.on hb8_117); have hzhb8_117 := hb8_117.size
          replace c0 := cell_on c0 hb8_117; replace c1 := cell_on c1 hb8_117; replace c2 := cell_on c2 hb8_117; replace c3 := cell_on c3 hb8_117; replace c4 := cell_on c4 hb8_117
          replace HI := HI.below hb8_117
          replace HX := Lib.hid (HX.out.on hb8_117)
          have HC := Lib.hid (ownsRow_base hv (B' := w.heap.size + 2) (by omega)); clear hv
          refine hK.out _ _ ?hS8_117 (fun hHeld => ?hr8_117)
          case hS8_117 => exact ⟨c0, c1, c2, c3, c4⟩
          clear hK K
          try simp only [Act.put, List.setIfInBounds_toArray, List.set_cons_zero, List.set_cons_succ]
          refine wpAnyH_ready (rs := [15]) (by kernel_rfl) (by simp) ?_
          refine (AllReadyH.cons (o := ?o15_118) ?ho15_118 (fun K hK => ?hs15_118) AllReadyH.nil)
          case ho15_118 => simp only [List.getElem?_toArray, List.getElem?_cons_succ, List.getElem?_cons_zero]; rfl
          case hs15_118 =>
            go_simp
            go_at_call 26
            refine (i_withO _ on oc os _ 2 2 [N, N + 1] _ HH.out.o HI (by omega) (by omega)).mono ?_; rintro e D15_118 ⟨vW, rfl, hv, hb15_118⟩; obtain ⟨sa, sc, rfl⟩ := own_sl hv
            have hdj : ∀ q, (Value.slice ra gn rc).ownBlock = some q → (Value.slice sa (on + 2) sc).ownBlock ≠ some q := fun q hq e => by
              have h1 := (World.ownsRow.lt HC.out q hq).2
              have h2 := (World.ownsRow.lt hv q e).1
              omega
            have hdW : (Value.slice sa (on + 2) sc).ownBlock ≠ some D0.heap.size := fun e => by have := (World.ownsRow.lt hv _ e).1; omega
            replace HH := Lib.hid (HH.out.below hb15_118); replace BB := Lib.hid (bel_trans BB.out hb15_118); replace RC := Lib.hid (RC.out.on hb15_118); have hzhb15_118 := hb15_118.size
            replace c0 := cell_on c0 hb15_118; replace c1 := cell_on c1 hb15_118; replace c2 := cell_on c2 hb15_118; replace c3 := cell_on c3 hb15_118; replace c4 := cell_on c4 hb15_118
            replace HI := HI.below hb15_118
            replace HX := Lib.hid (HX.out.on hb15_118)
            replace HC := Lib.hid (ownsRow_below HC.out hb15_118)
            have HW := Lib.hid (ownsRow_base hv (B' := w.heap.size + 2) (by omega)); clear hv
            refine hK.out _ _ ?hS15_118 (fun hHeld => ?hr15_118)
            case hS15_118 => exact ⟨c0, c1, c2, c3, c4⟩
            clear hK K
            try simp only [Act.put, List.setIfInBounds_toArray, List.set_cons_zero, List.set_cons_succ]
            refine wpAnyH_take (i := 16) (oi := ?oi16_17) (v := ?v16_17) ?ho16_17 (by kernel_rfl) (by kernel_rfl) (by kernel_rfl) ?hQ16_17 ?hy16_17 hHeld ?hr16_17
            case ho16_17 => simp only [List.getElem?_toArray, List.getElem?_cons_succ, List.getElem?_cons_zero]; rfl
            case hQ16_17 => exact fun _ _ _ h => h
            case hy16_17 => exact Or.inl ⟨by rfl, by (intro w hSw; go_simp; try with_reducible rfl)⟩
            try simp only [Act.put, List.setIfInBounds_toArray, List.set_cons_zero, List.set_cons_succ]
            obtain ⟨⟨r0, r1, r2, r3, r4⟩, f0, f1, f2, f3, f4⟩ := id HX.out
            refine wpAnyH_ready (rs := [18]) (by kernel_rfl) (by simp) ?_
            refine AllReadyH.cons (o := ?o18_18) ?ho18_18 (fun K hK => ?hs18_18) AllReadyH.nil
            case ho18_18 => simp only [List.getElem?_toArray, List.getElem?_cons_succ, List.getElem?_cons_zero]; rfl
            go_simp
            refine hK.out _ _ ?hS18_18 (fun hHeld => ?hr18_18)
            case hS18_18 => exact ⟨cell_else5 c0 (by omega) _ _ _ _ _, cell_else5 c1 (by omega) _ _ _ _ _, cell_else5 c2 (by omega) _ _ _ _ _, cell_else5 c3 (by omega) _ _ _ _ _, cell_else5 c4 (by omega) _ _ _ _ _⟩
            clear hK K
            try simp only [Act.put, List.setIfInBounds_toArray, List.set_cons_zero, List.set_cons_succ]
            refine wpAnyH_done (by kernel_rfl) ?_ _
            have HA := Lib.hid (AnyA.reset (x0 := p) (x1 := i0) (x2 := i1) HX.out ⟨HC.out, HW.out, hdj, HFG, HFO⟩ hdC hdW (by omega))
            have RCz := Lib.hid (RC.out.bex (Bex.only5 (g := D0.heap.size) _ (.int .i64 p) (.int .i64 i0) (.int .i64 i1) (.slice ra gn rc) (.slice sa (on + 2) sc)) (by omega))
            have BBz := Lib.hid (bel_set5 (b := D0.heap.size) BB.out (by omega) (.int .i64 p) (.int .i64 i0) (.int .i64 i1) (.slice ra gn rc) (.slice sa (on + 2) sc))
            clear HH RC BB c0 c1 c2 c3 c4 r0 r1 r2 r3 r4 f0 f1 f2 f3 f4 HX HC HW hHeld
            go_wp2_with fail
            go_meet
            exact ⟨rfl, rfl, ⟨_, ra, rc, sa, sc, rfl, HA⟩, BBz, RCz⟩
  case rest =>
    obtain ⟨rfl, rfl, ⟨g, ra, rc, sa, sc, rfl, HA⟩, BB, RC⟩ := hcut
    have HA11 := Lib.hid HA; clear HA
    obtain ⟨W6, hW6⟩ : ∃ X : World, X = wc := ⟨_, rfl⟩
    subst hW6
    clear c0 c1 c2 c3 c4
    obtain ⟨c0, c1, c2, c3, c4⟩ := id HA11.out.box.r
    have hzB := BB.out.size; have hgl := HA11.out.lt; have hgL := HA11.out.Lg
    have A6 := bel_alloc W6 (.cells #[.int .i64 0, .int .i64 (nth os 0), .int .i64 (nth os m), .int .i64 1, .int .i64 (nth os 0), .int .i64 (nth os m)] 65)
    have HA6 := Lib.hid (HA11.out.below A6)
    have hR6 := Recs.lit6 (w := W6) (m := W6.heap.size) (t := 65) rfl (show Fits 0 by unfold Fits; omega) hf0 hfm (show Fits 1 by unfold Fits; omega) hf0 hfm
    have HF6 := Lib.hid (show ∀ x ∈ gs ++ [0, nth os 0, nth os m, 1, nth os 0, nth os m], Fits x from fun x hx => by
      rcases List.mem_append.1 hx with e | e
      · exact HA11.out.r.fg.out x e
      · simp only [List.mem_cons, List.not_mem_nil, or_false] at e
        rcases e with rfl | rfl | rfl | rfl | rfl | rfl <;> first | assumption | (unfold Fits; omega))
    have BA6 := Lib.hid (bel_trans BB.out A6); have RC6 := Lib.hid (RC.out.on A6)
    have hz6 := A6.size
    go_wp2_with (at_builtin; (refine wp_appGs (W6.alloc (.cells #[.int .i64 0, .int .i64 (nth os 0), .int .i64 (nth os m), .int .i64 1, .int .i64 (nth os 0), .int .i64 (nth os m)] 65)) (w.heap.size + 2) gn _ gs [0, nth os 0, nth os m, 1, nth os 0, nth os m] _ _ _ rfl _ _ rfl rfl rfl hR6 HA6.out.r.og (by omega) (by omega) ?_; intro v9 w9 hv9 hb9 hg9 ho9; obtain ⟨r9, k9, rfl⟩ := own_sl hv9; have hB := HA6.out.box.grown hg9 (fun e => HA6.out.d2 e.symm); have j3 := hB.r.c3; have jf := hB.f3; have HA9 := Lib.hid (HA6.out.gates hv9 hg9 ho9 HF6); have BA9 := Lib.hid ((BA6.out.trans (hb9.mono (by omega))).setCell (p := ⟨g, 3, none⟩) (by simp only []; omega) (.slice r9 (gn + 2) k9)); have RC9 := Lib.hid ((RC6.out.far hb9 (by omega)).other (p := ⟨g, 3, none⟩) (by simp only []; omega) (.slice r9 (gn + 2) k9)); obtain ⟨W9, hW9⟩ : ∃ X, w9.setCell ⟨g, 3, none⟩ (.slice r9 (gn + 2) k9) = X := ⟨_, rfl⟩; rw [hW9] at HA9 BA9 RC9; obtain ⟨c0, c1, c2, c3, c4⟩ := id HA9.out.box.r))
    have HA12 := Lib.hid (show AnyA W9 (w.heap.size + 2) g p i0 i1 (.slice r9 (gn + 2) k9) (gn + 2) (addGs gs (nth os 0) (nth os m)) (.slice sa (on + 2) sc) (on + 2) (addOs os N) from HA9.out)
    clear HA9 HA6 HA11 BA6 RC6 RC BB j3 jf hB hv9 hg9 ho9 HF6 hR6
    have hCi := HA12.out.r.circ (by omega) (by omega)
    have hGood := Lib.hid (i_IsArith p i0 i1 r9 (gn + 2) k9 _ sa (on + 2) sc _ W9 hCi)
    clear hCi
    obtain ⟨ok, hok⟩ : ∃ ok, arC p i0 i1 (addGs gs (nth os 0) (nth os m)) (gn + 2) (addOs os N) = ok := ⟨_, rfl⟩
    rw [hok] at hGood
    have HOK := Lib.hid hok; clear hok
    refine hGood.out.mono ?_; rintro e w11 ⟨rfl, hb11⟩
    have BB := Lib.hid (bel_trans BA9.out hb11); have R11 := RC9.out.on hb11; have HA13 := Lib.hid (HA12.out.below hb11)
    have hL2 : (addOs os N).length = on + 2 := by unfold addOs; rw [List.length_append, HL.out]; rfl
    have HLL := Lib.hid hL2; clear hL2
    clear c0 c1 c2 c3 c4 hb11 hGood RC9 BA9 HA12
    obtain ⟨c0, c1, c2, c3, c4⟩ := id HA13.out.box.r
    obtain ⟨⟨r0, r1, r2, r3, r4⟩, f0, f1, f2, f3, f4⟩ := id R11
    cases ok with
    | false =>
      have HPA := Lib.hid (show (Cand.zero, false) = aoOf p i0 i1 gs gn os m by unfold aoOf; rw [HNN.out, if_neg (by rw [HOK.out]; exact Bool.false_ne_true)])
      have E5 := Lib.hid (R11.set (.int .i64 0) (.int .i64 0) (.int .i64 0) (.slice none 0 0) (.slice none 0 0))
      go_wp2
      obtain ⟨E0, E1, E2, E3, E4⟩ := id E5.out.r
      exact bodyPost_ret (v := .tuple #[.agg #[.int .i64 0, .int .i64 0, .int .i64 0, .slice none 0 0, .slice none 0 0], .bool false]) (by simp [results, Tryz.results20, go_sem, E0, E1, E2, E3, E4]) rfl ⟨Cand.zero, false, none, 0, none, 0, HPA.out, rfl, (CirO.nil (L := 0)).circ (by omega) (by omega), bel_set5 BB.out (by omega) _ _ _ _ _⟩
    | true =>
      have HPA := Lib.hid (show ((⟨p, i0, i1, addGs gs (nth os 0) (nth os m), gn + 2, addOs os N⟩ : Cand), true) = aoOf p i0 i1 gs gn os m by unfold aoOf; rw [HNN.out, if_pos HOK.out])
      have E5 := Lib.hid (R11.set (.int .i64 p) (.int .i64 i0) (.int .i64 i1) (.slice r9 (gn + 2) k9) (.slice sa (on + 2) sc))
      have F1 := Lib.hid ((HA13.out.r.bex (Bex.only5 (g := w.heap.size + 1) _ (.int .i64 p) (.int .i64 i0) (.int .i64 i1) (.slice r9 (gn + 2) k9) (.slice sa (on + 2) sc)) (by omega)).circ (by omega) (by omega))
      have F4 := Lib.hid (bel_set5 (b := w.heap.size + 1) BB.out (by omega) (.int .i64 p) (.int .i64 i0) (.int .i64 i1) (.slice r9 (gn + 2) k9) (.slice sa (on + 2) sc))
      go_wp2
      obtain ⟨E0, E1, E2, E3, E4⟩ := id E5.out.r
      exact bodyPost_ret (v := .tuple #[.agg #[.int .i64 p, .int .i64 i0, .int .i64 i1, .slice r9 (gn + 2) k9, .slice sa (on + 2) sc], .bool true]) (by simp [results, Tryz.results20, go_sem, E0, E1, E2, E3, E4]) rfl ⟨⟨p, i0, i1, addGs gs (nth os 0) (nth os m), gn + 2, addOs os N⟩, true, r9, k9, sa, sc, HPA.out, by rw [HLL.out], (by rw [HLL.out]; exact F1.out), F4.out⟩
end Go.Proofs.YtfichpppjpgahaaGreatDoor
