/-
  The walk of the law FnArith.
-/
import Derived.Test.YtfichpppjpgahaaGreatDoorUb
import Derived.Test.YtfichpppjpgahaaGreatDoorFm17
import Derived.Test.YtfichpppjpgahaaGreatDoorFm19
import Derived.Test.YtfichpppjpgahaaGreatDoorTg
namespace Go.Proofs.YtfichpppjpgahaaGreatDoor
open Go.RowKit
set_option linter.unusedVariables false
set_option linter.unusedSimpArgs false
set_option maxRecDepth 100000

theorem B5.below {w w' : World} {b : Nat} {x0 x1 x2 x3 x4 : Value} (h : B5 w b x0 x1 x2 x3 x4) (hb : Below w.heap.size w w') : B5 w' b x0 x1 x2 x3 x4 := h.on hb
theorem pa_true {c d : Cand} {l : List UInt8} (h : (c, true) = paOf d l) : arC c.p c.i0 c.i1 c.gs c.gn c.os = true ∧ textL c.p c.i0 c.i1 c.gs c.gn c.os = l := by
  unfold paOf at h
  split at h
  · rename_i k
    unfold pick2 at k
    rw [Bool.and_eq_true, decide_eq_true_iff] at k
    obtain rfl : c = d := congrArg Prod.fst h
    exact k
  · exact absurd (congrArg Prod.snd h) (fun e => by cases e)
theorem step_appIsW {ops : Array Oper} {o : Oper} {a : Act} {w : World} {K : Act → World → Prop} {Q : Exit → Act → World → Prop} {R : Prop} (B k : Nat) (v : Value) (zs ys : List Int) (ad : Addr) (m cap : Nat)
    (hw : Region.wanted o (yielded ops a.tmps) = true) (s x : Operand) (ho : o.op = .call { callee := .builtin .append, args := #[s, x], argTypes := #[24, 24] })
    (hs : a.eval s = v) (hx : a.eval x = .slice (some ad) m cap) (hy : Ints w (some ad) m cap ys) (hown : w.ownsRow B 3 1 v k (ivs zs)) (hB : B ≤ w.heap.size) (hn : k + m ≤ 100000000)
    (h : ∀ v' w', w'.ownsRow B 3 1 v' (k + m) (ivs (zs ++ ys)) → Below B w w' → w.grownBy w' v.ownBlock → (v'.ownBlock = v.ownBlock ∨ v'.ownBlock = some w.heap.size) → K (a.put o.dst v') w') :
    if Region.wanted o (yielded ops a.tmps) = true then Oper.wp Tryz.prog o a w K Q else R := by
  rw [if_pos hw]
  obtain ⟨v', w', hrun, k1, kb, k2, k3⟩ := run_appIs w B k v zs ys ad m cap o.type hy hown hB hn
  unfold Oper.wp execOp
  simp only [ho, resolve, invoke, builtin, Sem.run_bind, Sem.run_pure, Result.andThen_ok, List.map_toArray, List.map_cons, List.map_nil, hs, hx, hrun]
  exact h v' w' k1 kb k2 k3
set_option maxHeartbeats 16000000 in
theorem law_FnArith (a0 : Option Addr) (n0 c0 : Nat) (z0 : List Int) (a1 : Option Addr) (n1 c1 : Nat) (z1 : List Int) (w : World) (h0 : BytesIn w a0 n0 c0 z0) (h1 : BytesIn w a1 n1 c1 z1) (KL : GL w) :
    Calls Tryz.prog 3 #[.slice a0 n0 c0, .slice a1 n1 c1] w fun e w' => e = .returned (.bool true) ∧ Below w.heap.size w w' := by
  have hn0 := h0.small; have hn1 := h1.small
  have hB : Byts w a1 n1 c1 := h1
  have hA : Byts w a0 n0 c0 := h0
  clear h0 h1
  obtain ⟨G, hG⟩ : ∃ G, IntKind.i64.wrap ((n0 : Int) + (n1 : Int)) = G := ⟨_, rfl⟩
  by_cases hg : 1048576 < G
  · go_enter Tryz.func3, Tryz.ntmps3
    go_wp2
    go_ret
    exact ⟨rfl, Below.refl _ _⟩
  go_enter Tryz.func3, Tryz.ntmps3
  go_wp2_with fail
  refine (s_DrawArithValues _ _ _ _ hA).mono ?_; rintro e w1 ⟨p, x0, x1, ga, gn, gc, gs, oa, on, oc, os, ra, rn, rc, us, sa, sn, sc, vs, rfl, M, U, S, hon, hbw1⟩
  replace hB := hB.below hbw1
  replace hA := hA.below hbw1
  replace KL := KL.below hbw1
  have Bw1 := bel_trans (Below.refl w.heap.size w) hbw1
  clear hbw1
  clear hA
  have hol := Lib.hid M.o.len.out; have hgl := Lib.hid M.g.len
  have AX := bel_alloc w1 (.cells #[.int .i64 p, .int .i64 x0, .int .i64 x1, .slice ga gn gc, .slice oa on oc] 26)
  replace hB := hB.below AX
  replace KL := KL.below AX
  replace M := M.below AX
  replace U := U.below AX
  replace S := S.below AX
  have C := B5.new (w := w1) (x0 := .int .i64 p) (x1 := .int .i64 x0) (x2 := .int .i64 x1) (x3 := .slice ga gn gc) (x4 := .slice oa on oc) (t := 26)
  have BC := bel_trans Bw1 AX; clear AX
  obtain ⟨wc1, hwc1⟩ : ∃ zz_, w1.alloc (.cells #[.int .i64 p, .int .i64 x0, .int .i64 x1, .slice ga gn gc, .slice oa on oc] 26) = zz_ := ⟨_, rfl⟩
  rw [hwc1] at hB KL M U S C BC
  obtain ⟨c0, c1, c2, c3, c4⟩ := id C
  obtain ⟨V, hV⟩ : ∃ zz_, zz_ = avV p x0 x1 gs gn os us vs := ⟨_, rfl⟩; have HV := Lib.hid hV; clear hV
  obtain ⟨E, hE⟩ : ∃ zz_, zz_ = avE p x0 x1 gs gn os us vs := ⟨_, rfl⟩; have HE := Lib.hid hE; clear hE
  obtain ⟨O, hO⟩ : ∃ zz_, zz_ = okA p x0 x1 gs gn os us vs := ⟨_, rfl⟩; have HO := Lib.hid hO; clear hO
  obtain ⟨Q, hQ⟩ : ∃ zz_, zz_ = arC p x0 x1 gs gn os := ⟨_, rfl⟩; have HQ := Lib.hid hQ; clear hQ
  go_wp2_with fail
  refine (i_ArithValues p x0 x1 ga gn gc gs oa on oc os ra rn rc us sa sn sc vs _ M U S).mono ?_; rintro e w2 ⟨r1, k1, rfl, V1, hbw2⟩
  replace hB := hB.below hbw2
  replace KL := KL.below hbw2
  replace M := M.below hbw2
  replace U := U.below hbw2
  replace S := S.below hbw2
  replace C := C.below hbw2
  have Bw2 := bel_trans BC hbw2
  clear hbw2
  rw [← HV.out] at V1 ⊢; rw [← HO.out]
  clear c0 c1 c2 c3 c4
  obtain ⟨c0, c1, c2, c3, c4⟩ := id C
  go_wp2_with fail
  refine (s_ArithValues p x0 x1 ga gn gc gs oa on oc os ra rn rc us sa sn sc vs _ M U S).mono ?_; rintro e w3 ⟨r2, k2, rfl, V2, hbw3⟩
  replace hB := hB.below hbw3
  replace KL := KL.below hbw3
  replace M := M.below hbw3
  replace U := U.below hbw3
  replace S := S.below hbw3
  replace C := C.below hbw3
  replace V1 := V1.below hbw3
  have Bw3 := bel_trans Bw2 hbw3
  clear hbw3
  rw [← HV.out] at V2 ⊢; rw [← HO.out]
  clear c0 c1 c2 c3 c4
  obtain ⟨c0, c1, c2, c3, c4⟩ := id C
  go_wp2_with fail
  refine (i_EvalArith p x0 x1 ga gn gc gs oa on oc os ra rn rc us sa sn sc vs _ M U S).mono ?_; rintro e w4 ⟨r3, k3, rfl, E1, hbw4⟩
  replace hB := hB.below hbw4
  replace KL := KL.below hbw4
  replace M := M.below hbw4
  replace U := U.below hbw4
  replace S := S.below hbw4
  replace C := C.below hbw4
  replace V1 := V1.below hbw4
  replace V2 := V2.below hbw4
  have Bw4 := bel_trans Bw3 hbw4
  clear hbw4
  rw [← HE.out] at E1 ⊢; rw [← HO.out]
  clear c0 c1 c2 c3 c4
  obtain ⟨c0, c1, c2, c3, c4⟩ := id C
  go_wp2_with fail
  refine (s_EvalArith p x0 x1 ga gn gc gs oa on oc os ra rn rc us sa sn sc vs _ M U S).mono ?_; rintro e w5 ⟨r4, k4, rfl, E2, hbw5⟩
  replace hB := hB.below hbw5
  replace KL := KL.below hbw5
  replace M := M.below hbw5
  replace U := U.below hbw5
  replace S := S.below hbw5
  replace C := C.below hbw5
  replace V1 := V1.below hbw5
  replace V2 := V2.below hbw5
  replace E1 := E1.below hbw5
  have Bw5 := bel_trans Bw4 hbw5
  clear hbw5
  rw [← HE.out] at E2 ⊢; rw [← HO.out]
  clear c0 c1 c2 c3 c4
  obtain ⟨c0, c1, c2, c3, c4⟩ := id C
  go_wp2_with fail
  refine (s_DrawParseArith _ _ _ _ hB).mono ?_; rintro e w6 ⟨l, rfl, hl, hbw6⟩
  replace hB := hB.below hbw6
  replace KL := KL.below hbw6
  replace M := M.below hbw6
  replace U := U.below hbw6
  replace S := S.below hbw6
  replace C := C.below hbw6
  replace V1 := V1.below hbw6
  replace V2 := V2.below hbw6
  replace E1 := E1.below hbw6
  replace E2 := E2.below hbw6
  have Bw6 := bel_trans Bw5 hbw6
  clear hbw6
  clear c0 c1 c2 c3 c4
  obtain ⟨c0, c1, c2, c3, c4⟩ := id C
  clear hB
  go_wp2_with fail
  refine (i_ParseArith l _ KL hl).mono ?_; rintro e w7 ⟨c, ok, ha, hc, ja, jc, hPA, rfl, X1, hbw7⟩
  replace KL := KL.below hbw7
  replace M := M.below hbw7
  replace U := U.below hbw7
  replace S := S.below hbw7
  replace C := C.below hbw7
  replace V1 := V1.below hbw7
  replace V2 := V2.below hbw7
  replace E1 := E1.below hbw7
  replace E2 := E2.below hbw7
  have Bw7 := bel_trans Bw6 hbw7
  clear hbw7
  clear c0 c1 c2 c3 c4
  obtain ⟨c0, c1, c2, c3, c4⟩ := id C
  have HPA := Lib.hid hPA; clear hPA
  have AX := bel_alloc w7 (.cells #[.int .i64 c.p, .int .i64 c.i0, .int .i64 c.i1, .slice ha c.gn hc, .slice ja c.os.length jc] 26)
  replace KL := KL.below AX
  replace M := M.below AX
  replace U := U.below AX
  replace S := S.below AX
  replace C := C.below AX
  replace V1 := V1.below AX
  replace V2 := V2.below AX
  replace E1 := E1.below AX
  replace E2 := E2.below AX
  replace X1 := X1.below AX
  have X := B5.new (w := w7) (x0 := .int .i64 c.p) (x1 := .int .i64 c.i0) (x2 := .int .i64 c.i1) (x3 := .slice ha c.gn hc) (x4 := .slice ja c.os.length jc) (t := 26)
  have BX := bel_trans Bw7 AX; clear AX
  obtain ⟨wc2, hwc2⟩ : ∃ zz_, w7.alloc (.cells #[.int .i64 c.p, .int .i64 c.i0, .int .i64 c.i1, .slice ha c.gn hc, .slice ja c.os.length jc] 26) = zz_ := ⟨_, rfl⟩
  rw [hwc2] at KL M U S C V1 V2 E1 E2 X1 X BX
  clear c0 c1 c2 c3 c4
  obtain ⟨c0, c1, c2, c3, c4⟩ := id C
  obtain ⟨d0, d1, d2, d3, d4⟩ := id X
  go_wp2_with fail
  refine (s_ParseArith l _ hl).mono ?_; rintro e w8 ⟨cz, okz, hb, hd, jb, jd, hPA2, rfl, X2, hbw8⟩
  replace KL := KL.below hbw8
  replace M := M.below hbw8
  replace U := U.below hbw8
  replace S := S.below hbw8
  replace C := C.below hbw8
  replace V1 := V1.below hbw8
  replace V2 := V2.below hbw8
  replace E1 := E1.below hbw8
  replace E2 := E2.below hbw8
  replace X1 := X1.below hbw8
  replace X := X.below hbw8
  have Bw8 := bel_trans BX hbw8
  clear hbw8
  clear c0 c1 c2 c3 c4
  clear d0 d1 d2 d3 d4
  obtain ⟨hcz, hokz⟩ : c = cz ∧ ok = okz := by have hh := HPA.out.trans hPA2.symm; exact ⟨congrArg Prod.fst hh, congrArg Prod.snd hh⟩
  subst hcz; subst hokz; clear hPA2
  have AX := bel_alloc w8 (.cells #[.int .i64 c.p, .int .i64 c.i0, .int .i64 c.i1, .slice hb c.gn hd, .slice jb c.os.length jd] 26)
  replace KL := KL.below AX
  replace M := M.below AX
  replace U := U.below AX
  replace S := S.below AX
  replace C := C.below AX
  replace V1 := V1.below AX
  replace V2 := V2.below AX
  replace E1 := E1.below AX
  replace E2 := E2.below AX
  replace X1 := X1.below AX
  replace X := X.below AX
  replace X2 := X2.below AX
  have Y := B5.new (w := w8) (x0 := .int .i64 c.p) (x1 := .int .i64 c.i0) (x2 := .int .i64 c.i1) (x3 := .slice hb c.gn hd) (x4 := .slice jb c.os.length jd) (t := 26)
  have BY := bel_trans Bw8 AX; clear AX
  obtain ⟨wc3, hwc3⟩ : ∃ zz_, w8.alloc (.cells #[.int .i64 c.p, .int .i64 c.i0, .int .i64 c.i1, .slice hb c.gn hd, .slice jb c.os.length jd] 26) = zz_ := ⟨_, rfl⟩
  rw [hwc3] at KL M U S C V1 V2 E1 E2 X1 X X2 Y BY
  obtain ⟨c0, c1, c2, c3, c4⟩ := id C
  obtain ⟨d0, d1, d2, d3, d4⟩ := id X
  obtain ⟨e0, e1, e2, e3, e4⟩ := id Y
  go_upto_region 11 with (fail)
  go_cut [131] (fun s131 W => s131 = .bool false ∧ Hid (Below wc3.heap.size wc3 W))
  case first =>
    as_aux_lemma =>
      replace V1 := Lib.hid (V1.below (bel_drew wc3))
      replace V2 := Lib.hid (V2.below (bel_drew wc3))
      replace E1 := Lib.hid (E1.below (bel_drew wc3))
      replace E2 := Lib.hid (E2.below (bel_drew wc3))
      replace X1 := Lib.hid (X1.below (bel_drew wc3))
      replace X2 := Lib.hid (X2.below (bel_drew wc3))
      replace M := Lib.hid (M.below (bel_drew wc3))
      have BB := Lib.hid (bel_drew wc3)
      replace c0 := cell_on c0 (bel_drew wc3); replace c1 := cell_on c1 (bel_drew wc3); replace c2 := cell_on c2 (bel_drew wc3); replace c3 := cell_on c3 (bel_drew wc3); replace c4 := cell_on c4 (bel_drew wc3); replace d0 := cell_on d0 (bel_drew wc3); replace d1 := cell_on d1 (bel_drew wc3); replace d2 := cell_on d2 (bel_drew wc3); replace d3 := cell_on d3 (bel_drew wc3); replace d4 := cell_on d4 (bel_drew wc3); replace e0 := cell_on e0 (bel_drew wc3); replace e1 := cell_on e1 (bel_drew wc3); replace e2 := cell_on e2 (bel_drew wc3); replace e3 := cell_on e3 (bel_drew wc3); replace e4 := cell_on e4 (bel_drew wc3)
      go_wp2_with fail
      refine wp_region_held_drew (S := (fun W => W.cell? ⟨w1.heap.size, 0, none⟩ = some (.int .i64 p) ∧ W.cell? ⟨w1.heap.size, 1, none⟩ = some (.int .i64 x0) ∧ W.cell? ⟨w1.heap.size, 2, none⟩ = some (.int .i64 x1) ∧ W.cell? ⟨w1.heap.size, 3, none⟩ = some (.slice ga gn gc) ∧ W.cell? ⟨w1.heap.size, 4, none⟩ = some (.slice oa on oc) ∧ W.cell? ⟨w7.heap.size, 0, none⟩ = some (.int .i64 c.p) ∧ W.cell? ⟨w7.heap.size, 1, none⟩ = some (.int .i64 c.i0) ∧ W.cell? ⟨w7.heap.size, 2, none⟩ = some (.int .i64 c.i1) ∧ W.cell? ⟨w7.heap.size, 3, none⟩ = some (.slice ha c.gn hc) ∧ W.cell? ⟨w7.heap.size, 4, none⟩ = some (.slice ja c.os.length jc) ∧ W.cell? ⟨w8.heap.size, 0, none⟩ = some (.int .i64 c.p) ∧ W.cell? ⟨w8.heap.size, 1, none⟩ = some (.int .i64 c.i0) ∧ W.cell? ⟨w8.heap.size, 2, none⟩ = some (.int .i64 c.i1) ∧ W.cell? ⟨w8.heap.size, 3, none⟩ = some (.slice hb c.gn hd) ∧ W.cell? ⟨w8.heap.size, 4, none⟩ = some (.slice jb c.os.length jd))) (by kernel_rfl) (by exact ⟨c0, c1, c2, c3, c4, d0, d1, d2, d3, d4, e0, e1, e2, e3, e4⟩) (fun hHeld => ?_)
      refine wpAnyH_take (i := 0) (oi := ?oi0_1) (v := ?v0_1) ?ho0_1 (by kernel_rfl) (by kernel_rfl) (by kernel_rfl) ?hQ0_1 ?hy0_1 hHeld ?hr0_1
      case ho0_1 => simp only [List.getElem?_toArray, List.getElem?_cons_succ, List.getElem?_cons_zero]; rfl
      case hQ0_1 => exact fun _ _ _ h => h
      case hy0_1 => exact Or.inl ⟨by rfl, by (intro w hSw; go_simp; try with_reducible rfl)⟩
      try simp only [Act.put, List.setIfInBounds_toArray, List.set_cons_zero, List.set_cons_succ]
      refine wpAnyH_take (i := 1) (oi := ?oi1_1) (v := ?v1_1) ?ho1_1 (by kernel_rfl) (by kernel_rfl) (by kernel_rfl) ?hQ1_1 ?hy1_1 hHeld ?hr1_1
      case ho1_1 => simp only [List.getElem?_toArray, List.getElem?_cons_succ, List.getElem?_cons_zero]; rfl
      case hQ1_1 => exact fun _ _ _ h => h
      case hy1_1 => exact Or.inl ⟨by rfl, by (intro w hSw; go_simp; try with_reducible rfl)⟩
      try simp only [Act.put, List.setIfInBounds_toArray, List.set_cons_zero, List.set_cons_succ]
      refine wpAnyH_take (i := 2) (oi := ?oi2_1) (v := ?v2_1) ?ho2_1 (by kernel_rfl) (by kernel_rfl) (by kernel_rfl) ?hQ2_1 ?hy2_1 hHeld ?hr2_1
      case ho2_1 => simp only [List.getElem?_toArray, List.getElem?_cons_succ, List.getElem?_cons_zero]; rfl
      case hQ2_1 => exact fun _ _ _ h => h
      case hy2_1 => exact Or.inl ⟨by rfl, by (intro w hSw; go_simp; try with_reducible rfl)⟩
      try simp only [Act.put, List.setIfInBounds_toArray, List.set_cons_zero, List.set_cons_succ]
      refine wpAnyH_take (i := 3) (oi := ?oi3_1) (v := ?v3_1) ?ho3_1 (by kernel_rfl) (by kernel_rfl) (by kernel_rfl) ?hQ3_1 ?hy3_1 hHeld ?hr3_1
      case ho3_1 => simp only [List.getElem?_toArray, List.getElem?_cons_succ, List.getElem?_cons_zero]; rfl
      case hQ3_1 => exact fun _ _ _ h => h
      case hy3_1 => exact Or.inl ⟨by rfl, by (intro w hSw; go_simp; try with_reducible rfl)⟩
      try simp only [Act.put, List.setIfInBounds_toArray, List.set_cons_zero, List.set_cons_succ]
      refine wpAnyH_take (i := 4) (oi := ?oi4_1) (v := ?v4_1) ?ho4_1 (by kernel_rfl) (by kernel_rfl) (by kernel_rfl) ?hQ4_1 ?hy4_1 hHeld ?hr4_1
      case ho4_1 => simp only [List.getElem?_toArray, List.getElem?_cons_succ, List.getElem?_cons_zero]; rfl
      case hQ4_1 => exact fun _ _ _ h => h
      case hy4_1 => exact Or.inl ⟨by rfl, by (intro w hSw; go_simp; try with_reducible rfl)⟩
      try simp only [Act.put, List.setIfInBounds_toArray, List.set_cons_zero, List.set_cons_succ]
      refine wpAnyH_take (i := 5) (oi := ?oi5_1) (v := ?v5_1) ?ho5_1 (by kernel_rfl) (by kernel_rfl) (by kernel_rfl) ?hQ5_1 ?hy5_1 hHeld ?hr5_1
      case ho5_1 => simp only [List.getElem?_toArray, List.getElem?_cons_succ, List.getElem?_cons_zero]; rfl
      case hQ5_1 => exact fun _ _ _ h => h
      case hy5_1 => exact Or.inl ⟨by rfl, by (intro w hSw; go_simp; try with_reducible rfl)⟩
      try simp only [Act.put, List.setIfInBounds_toArray, List.set_cons_zero, List.set_cons_succ]
      refine wpAnyH_ready (rs := [6]) (by kernel_rfl) (by simp) ?_
      refine AllReadyH.cons (o := ?o6_1) ?ho6_1 (fun KK hK => ?hs6_1) AllReadyH.nil
      case ho6_1 => simp only [List.getElem?_toArray, List.getElem?_cons_succ, List.getElem?_cons_zero]; rfl
      go_simp
      go_at_call 12; refine (l_qInts _ _ _ _ _ _ _ V1.out V2.out).mono ?_; rintro e wq6 ⟨rfl, hq6⟩; replace V1 := Lib.hid (V1.out.below hq6); replace V2 := Lib.hid (V2.out.below hq6); replace E1 := Lib.hid (E1.out.below hq6); replace E2 := Lib.hid (E2.out.below hq6); replace X1 := Lib.hid (X1.out.below hq6); replace X2 := Lib.hid (X2.out.below hq6); replace M := Lib.hid (M.out.below hq6); replace c0 := cell_on c0 hq6; replace c1 := cell_on c1 hq6; replace c2 := cell_on c2 hq6; replace c3 := cell_on c3 hq6; replace c4 := cell_on c4 hq6; replace d0 := cell_on d0 hq6; replace d1 := cell_on d1 hq6; replace d2 := cell_on d2 hq6; replace d3 := cell_on d3 hq6; replace d4 := cell_on d4 hq6; replace e0 := cell_on e0 hq6; replace e1 := cell_on e1 hq6; replace e2 := cell_on e2 hq6; replace e3 := cell_on e3 hq6; replace e4 := cell_on e4 hq6; replace BB := Lib.hid (bel_trans BB.out hq6)
      refine hK.out _ _ ?hS6_1 (fun hHeld => ?hr6_1)
      case hS6_1 => exact ⟨c0, c1, c2, c3, c4, d0, d1, d2, d3, d4, e0, e1, e2, e3, e4⟩
      clear hK KK
      try simp only [Act.put, List.setIfInBounds_toArray, List.set_cons_zero, List.set_cons_succ]
      refine wpAnyH_take (i := 7) (oi := ?oi7_1) (v := ?v7_1) ?ho7_1 (by kernel_rfl) (by kernel_rfl) (by kernel_rfl) ?hQ7_1 ?hy7_1 hHeld ?hr7_1
      case ho7_1 => simp only [List.getElem?_toArray, List.getElem?_cons_succ, List.getElem?_cons_zero]; rfl
      case hQ7_1 => exact fun _ _ _ h => h
      case hy7_1 => exact Or.inl ⟨by rfl, by (intro w hSw; go_simp; try with_reducible rfl)⟩
      try simp only [Act.put, List.setIfInBounds_toArray, List.set_cons_zero, List.set_cons_succ]
      refine wpAnyH_take (i := 8) (oi := ?oi8_1) (v := ?v8_1) ?ho8_1 (by kernel_rfl) (by kernel_rfl) (by kernel_rfl) ?hQ8_1 ?hy8_1 hHeld ?hr8_1
      case ho8_1 => simp only [List.getElem?_toArray, List.getElem?_cons_succ, List.getElem?_cons_zero]; rfl
      case hQ8_1 => exact fun _ _ _ h => h
      case hy8_1 => exact Or.inl ⟨by rfl, by (intro w hSw; go_simp; try with_reducible rfl)⟩
      try simp only [Act.put, List.setIfInBounds_toArray, List.set_cons_zero, List.set_cons_succ]
      refine wpAnyH_take (i := 9) (oi := ?oi9_1) (v := ?v9_1) ?ho9_1 (by kernel_rfl) (by kernel_rfl) (by kernel_rfl) ?hQ9_1 ?hy9_1 hHeld ?hr9_1
      case ho9_1 => simp only [List.getElem?_toArray, List.getElem?_cons_succ, List.getElem?_cons_zero]; rfl
      case hQ9_1 => exact fun _ _ _ h => h
      case hy9_1 => exact Or.inl ⟨by rfl, by (intro w hSw; go_simp; try with_reducible rfl)⟩
      try simp only [Act.put, List.setIfInBounds_toArray, List.set_cons_zero, List.set_cons_succ]
      refine wpAnyH_take (i := 10) (oi := ?oi10_1) (v := ?v10_1) ?ho10_1 (by kernel_rfl) (by kernel_rfl) (by kernel_rfl) ?hQ10_1 ?hy10_1 hHeld ?hr10_1
      case ho10_1 => simp only [List.getElem?_toArray, List.getElem?_cons_succ, List.getElem?_cons_zero]; rfl
      case hQ10_1 => exact fun _ _ _ h => h
      case hy10_1 => exact Or.inl ⟨by rfl, by (intro w hSw; go_simp; try with_reducible rfl)⟩
      try simp only [Act.put, List.setIfInBounds_toArray, List.set_cons_zero, List.set_cons_succ]
      refine wpAnyH_take (i := 11) (oi := ?oi11_1) (v := ?v11_1) ?ho11_1 (by kernel_rfl) (by kernel_rfl) (by kernel_rfl) ?hQ11_1 ?hy11_1 hHeld ?hr11_1
      case ho11_1 => simp only [List.getElem?_toArray, List.getElem?_cons_succ, List.getElem?_cons_zero]; rfl
      case hQ11_1 => exact fun _ _ _ h => h
      case hy11_1 => exact Or.inl ⟨by rfl, by (intro w hSw; go_simp; try with_reducible rfl)⟩
      try simp only [Act.put, List.setIfInBounds_toArray, List.set_cons_zero, List.set_cons_succ]
      refine wpAnyH_take (i := 12) (oi := ?oi12_1) (v := ?v12_1) ?ho12_1 (by kernel_rfl) (by kernel_rfl) (by kernel_rfl) ?hQ12_1 ?hy12_1 hHeld ?hr12_1
      case ho12_1 => simp only [List.getElem?_toArray, List.getElem?_cons_succ, List.getElem?_cons_zero]; rfl
      case hQ12_1 => exact fun _ _ _ h => h
      case hy12_1 => exact Or.inl ⟨by rfl, by (intro w hSw; go_simp; try with_reducible rfl)⟩
      try simp only [Act.put, List.setIfInBounds_toArray, List.set_cons_zero, List.set_cons_succ]
      refine wpAnyH_take (i := 13) (oi := ?oi13_1) (v := ?v13_1) ?ho13_1 (by kernel_rfl) (by kernel_rfl) (by kernel_rfl) ?hQ13_1 ?hy13_1 hHeld ?hr13_1
      case ho13_1 => simp only [List.getElem?_toArray, List.getElem?_cons_succ, List.getElem?_cons_zero]; rfl
      case hQ13_1 => exact fun _ _ _ h => h
      case hy13_1 => exact Or.inl ⟨by rfl, by (intro w hSw; go_simp; try with_reducible rfl)⟩
      try simp only [Act.put, List.setIfInBounds_toArray, List.set_cons_zero, List.set_cons_succ]
      refine wpAnyH_take (i := 14) (oi := ?oi14_1) (v := ?v14_1) ?ho14_1 (by kernel_rfl) (by kernel_rfl) (by kernel_rfl) ?hQ14_1 ?hy14_1 hHeld ?hr14_1
      case ho14_1 => simp only [List.getElem?_toArray, List.getElem?_cons_succ, List.getElem?_cons_zero]; rfl
      case hQ14_1 => exact fun _ _ _ h => h
      case hy14_1 => exact Or.inl ⟨by rfl, by (intro w hSw; go_simp; try with_reducible rfl)⟩
      try simp only [Act.put, List.setIfInBounds_toArray, List.set_cons_zero, List.set_cons_succ]
      refine wpAnyH_take (i := 15) (oi := ?oi15_1) (v := ?v15_1) ?ho15_1 (by kernel_rfl) (by kernel_rfl) (by kernel_rfl) ?hQ15_1 ?hy15_1 hHeld ?hr15_1
      case ho15_1 => simp only [List.getElem?_toArray, List.getElem?_cons_succ, List.getElem?_cons_zero]; rfl
      case hQ15_1 => exact fun _ _ _ h => h
      case hy15_1 => exact Or.inl ⟨by rfl, by (intro w hSw; go_simp; try with_reducible rfl)⟩
      try simp only [Act.put, List.setIfInBounds_toArray, List.set_cons_zero, List.set_cons_succ]
      refine wpAnyH_take (i := 16) (oi := ?oi16_1) (v := ?v16_1) ?ho16_1 (by kernel_rfl) (by kernel_rfl) (by kernel_rfl) ?hQ16_1 ?hy16_1 hHeld ?hr16_1
      case ho16_1 => simp only [List.getElem?_toArray, List.getElem?_cons_succ, List.getElem?_cons_zero]; rfl
      case hQ16_1 => exact fun _ _ _ h => h
      case hy16_1 => exact Or.inl ⟨by rfl, by (intro w hSw; go_simp; try with_reducible rfl)⟩
      try simp only [Act.put, List.setIfInBounds_toArray, List.set_cons_zero, List.set_cons_succ]
      refine wpAnyH_ready (rs := [17]) (by kernel_rfl) (by simp) ?_
      refine AllReadyH.cons (o := ?o17_1) ?ho17_1 (fun KK hK => ?hs17_1) AllReadyH.nil
      case ho17_1 => simp only [List.getElem?_toArray, List.getElem?_cons_succ, List.getElem?_cons_zero]; rfl
      go_simp
      go_at_call 12; refine (l_qInts _ _ _ _ _ _ _ E1.out E2.out).mono ?_; rintro e wq17 ⟨rfl, hq17⟩; replace V1 := Lib.hid (V1.out.below hq17); replace V2 := Lib.hid (V2.out.below hq17); replace E1 := Lib.hid (E1.out.below hq17); replace E2 := Lib.hid (E2.out.below hq17); replace X1 := Lib.hid (X1.out.below hq17); replace X2 := Lib.hid (X2.out.below hq17); replace M := Lib.hid (M.out.below hq17); replace c0 := cell_on c0 hq17; replace c1 := cell_on c1 hq17; replace c2 := cell_on c2 hq17; replace c3 := cell_on c3 hq17; replace c4 := cell_on c4 hq17; replace d0 := cell_on d0 hq17; replace d1 := cell_on d1 hq17; replace d2 := cell_on d2 hq17; replace d3 := cell_on d3 hq17; replace d4 := cell_on d4 hq17; replace e0 := cell_on e0 hq17; replace e1 := cell_on e1 hq17; replace e2 := cell_on e2 hq17; replace e3 := cell_on e3 hq17; replace e4 := cell_on e4 hq17; replace BB := Lib.hid (bel_trans BB.out hq17)
      refine hK.out _ _ ?hS17_1 (fun hHeld => ?hr17_1)
      case hS17_1 => exact ⟨c0, c1, c2, c3, c4, d0, d1, d2, d3, d4, e0, e1, e2, e3, e4⟩
      clear hK KK
      try simp only [Act.put, List.setIfInBounds_toArray, List.set_cons_zero, List.set_cons_succ]
      refine wpAnyH_take (i := 18) (oi := ?oi18_1) (v := ?v18_1) ?ho18_1 (by kernel_rfl) (by kernel_rfl) (by kernel_rfl) ?hQ18_1 ?hy18_1 hHeld ?hr18_1
      case ho18_1 => simp only [List.getElem?_toArray, List.getElem?_cons_succ, List.getElem?_cons_zero]; rfl
      case hQ18_1 => exact fun _ _ _ h => h
      case hy18_1 => exact Or.inl ⟨by rfl, by (intro w hSw; go_simp; try with_reducible rfl)⟩
      try simp only [Act.put, List.setIfInBounds_toArray, List.set_cons_zero, List.set_cons_succ]
      refine wpAnyH_take (i := 19) (oi := ?oi19_1) (v := ?v19_1) ?ho19_1 (by kernel_rfl) (by kernel_rfl) (by kernel_rfl) ?hQ19_1 ?hy19_1 hHeld ?hr19_1
      case ho19_1 => simp only [List.getElem?_toArray, List.getElem?_cons_succ, List.getElem?_cons_zero]; rfl
      case hQ19_1 => exact fun _ _ _ h => h
      case hy19_1 => exact Or.inl ⟨by rfl, by (intro w hSw; go_simp; try with_reducible rfl)⟩
      try simp only [Act.put, List.setIfInBounds_toArray, List.set_cons_zero, List.set_cons_succ]
      refine wpAnyH_take (i := 20) (oi := ?oi20_1) (v := ?v20_1) ?ho20_1 (by kernel_rfl) (by kernel_rfl) (by kernel_rfl) ?hQ20_1 ?hy20_1 hHeld ?hr20_1
      case ho20_1 => simp only [List.getElem?_toArray, List.getElem?_cons_succ, List.getElem?_cons_zero]; rfl
      case hQ20_1 => exact fun _ _ _ h => h
      case hy20_1 => exact Or.inl ⟨by rfl, by (intro w hSw; go_simp; try with_reducible rfl)⟩
      try simp only [Act.put, List.setIfInBounds_toArray, List.set_cons_zero, List.set_cons_succ]
      refine wpAnyH_take (i := 21) (oi := ?oi21_1) (v := ?v21_1) ?ho21_1 (by kernel_rfl) (by kernel_rfl) (by kernel_rfl) ?hQ21_1 ?hy21_1 hHeld ?hr21_1
      case ho21_1 => simp only [List.getElem?_toArray, List.getElem?_cons_succ, List.getElem?_cons_zero]; rfl
      case hQ21_1 => exact fun _ _ _ h => h
      case hy21_1 => exact Or.inl ⟨by rfl, by (intro w hSw; go_simp; try with_reducible rfl)⟩
      try simp only [Act.put, List.setIfInBounds_toArray, List.set_cons_zero, List.set_cons_succ]
      refine wpAnyH_take (i := 22) (oi := ?oi22_1) (v := ?v22_1) ?ho22_1 (by kernel_rfl) (by kernel_rfl) (by kernel_rfl) ?hQ22_1 ?hy22_1 hHeld ?hr22_1
      case ho22_1 => simp only [List.getElem?_toArray, List.getElem?_cons_succ, List.getElem?_cons_zero]; rfl
      case hQ22_1 => exact fun _ _ _ h => h
      case hy22_1 => exact Or.inl ⟨by rfl, by (intro w hSw; go_simp; try with_reducible rfl)⟩
      try simp only [Act.put, List.setIfInBounds_toArray, List.set_cons_zero, List.set_cons_succ]
      refine wpAnyH_take (i := 23) (oi := ?oi23_1) (v := ?v23_1) ?ho23_1 (by kernel_rfl) (by kernel_rfl) (by kernel_rfl) ?hQ23_1 ?hy23_1 hHeld ?hr23_1
      case ho23_1 => simp only [List.getElem?_toArray, List.getElem?_cons_succ, List.getElem?_cons_zero]; rfl
      case hQ23_1 => exact fun _ _ _ h => h
      case hy23_1 => exact Or.inl ⟨by rfl, by (intro w hSw; go_simp; try with_reducible rfl)⟩
      try simp only [Act.put, List.setIfInBounds_toArray, List.set_cons_zero, List.set_cons_succ]
      refine wpAnyH_take (i := 24) (oi := ?oi24_1) (v := ?v24_1) ?ho24_1 (by kernel_rfl) (by kernel_rfl) (by kernel_rfl) ?hQ24_1 ?hy24_1 hHeld ?hr24_1
      case ho24_1 => simp only [List.getElem?_toArray, List.getElem?_cons_succ, List.getElem?_cons_zero]; rfl
      case hQ24_1 => exact fun _ _ _ h => h
      case hy24_1 => exact Or.inl ⟨by rfl, by (intro w hSw; go_simp; try with_reducible rfl)⟩
      try simp only [Act.put, List.setIfInBounds_toArray, List.set_cons_zero, List.set_cons_succ]
      refine wpAnyH_take (i := 25) (oi := ?oi25_1) (v := ?v25_1) ?ho25_1 (by kernel_rfl) (by kernel_rfl) (by kernel_rfl) ?hQ25_1 ?hy25_1 hHeld ?hr25_1
      case ho25_1 => simp only [List.getElem?_toArray, List.getElem?_cons_succ, List.getElem?_cons_zero]; rfl
      case hQ25_1 => exact fun _ _ _ h => h
      case hy25_1 => exact Or.inl ⟨by rfl, by (intro w hSw; go_simp; try with_reducible rfl)⟩
      try simp only [Act.put, List.setIfInBounds_toArray, List.set_cons_zero, List.set_cons_succ]
      refine wpAnyH_take (i := 26) (oi := ?oi26_1) (v := ?v26_1) ?ho26_1 (by kernel_rfl) (by kernel_rfl) (by kernel_rfl) ?hQ26_1 ?hy26_1 hHeld ?hr26_1
      case ho26_1 => simp only [List.getElem?_toArray, List.getElem?_cons_succ, List.getElem?_cons_zero]; rfl
      case hQ26_1 => exact fun _ _ _ h => h
      case hy26_1 => exact Or.inl ⟨by rfl, by (intro w hSw; go_simp; try with_reducible rfl)⟩
      try simp only [Act.put, List.setIfInBounds_toArray, List.set_cons_zero, List.set_cons_succ]
      refine wpAnyH_take (i := 27) (oi := ?oi27_1) (v := ?v27_1) ?ho27_1 (by kernel_rfl) (by kernel_rfl) (by kernel_rfl) ?hQ27_1 ?hy27_1 hHeld ?hr27_1
      case ho27_1 => simp only [List.getElem?_toArray, List.getElem?_cons_succ, List.getElem?_cons_zero]; rfl
      case hQ27_1 => exact fun _ _ _ h => h
      case hy27_1 => exact Or.inl ⟨by rfl, by (intro w hSw; go_simp; try with_reducible rfl)⟩
      try simp only [Act.put, List.setIfInBounds_toArray, List.set_cons_zero, List.set_cons_succ]
      refine wpAnyH_ready (rs := [28]) (by kernel_rfl) (by simp) ?_
      refine AllReadyH.cons (o := ?o28_1) ?ho28_1 (fun KK hK => ?hs28_1) AllReadyH.nil
      case ho28_1 => simp only [List.getElem?_toArray, List.getElem?_cons_succ, List.getElem?_cons_zero]; rfl
      go_simp
      go_at_call 13; refine (l_qArith _ _ _ _ _ _ _ _ _ _ _ _ _ _ _ _ X1.out X2.out).mono ?_; rintro e wq28 ⟨rfl, hq28⟩; replace V1 := Lib.hid (V1.out.below hq28); replace V2 := Lib.hid (V2.out.below hq28); replace E1 := Lib.hid (E1.out.below hq28); replace E2 := Lib.hid (E2.out.below hq28); replace X1 := Lib.hid (X1.out.below hq28); replace X2 := Lib.hid (X2.out.below hq28); replace M := Lib.hid (M.out.below hq28); replace c0 := cell_on c0 hq28; replace c1 := cell_on c1 hq28; replace c2 := cell_on c2 hq28; replace c3 := cell_on c3 hq28; replace c4 := cell_on c4 hq28; replace d0 := cell_on d0 hq28; replace d1 := cell_on d1 hq28; replace d2 := cell_on d2 hq28; replace d3 := cell_on d3 hq28; replace d4 := cell_on d4 hq28; replace e0 := cell_on e0 hq28; replace e1 := cell_on e1 hq28; replace e2 := cell_on e2 hq28; replace e3 := cell_on e3 hq28; replace e4 := cell_on e4 hq28; replace BB := Lib.hid (bel_trans BB.out hq28)
      refine hK.out _ _ ?hS28_1 (fun hHeld => ?hr28_1)
      case hS28_1 => exact ⟨c0, c1, c2, c3, c4, d0, d1, d2, d3, d4, e0, e1, e2, e3, e4⟩
      clear hK KK
      try simp only [Act.put, List.setIfInBounds_toArray, List.set_cons_zero, List.set_cons_succ]
      refine wpAnyH_take (i := 29) (oi := ?oi29_1) (v := ?v29_1) ?ho29_1 (by kernel_rfl) (by kernel_rfl) (by kernel_rfl) ?hQ29_1 ?hy29_1 hHeld ?hr29_1
      case ho29_1 => simp only [List.getElem?_toArray, List.getElem?_cons_succ, List.getElem?_cons_zero]; rfl
      case hQ29_1 => exact fun _ _ _ h => h
      case hy29_1 => exact Or.inl ⟨by rfl, by (intro w hSw; go_simp; try with_reducible rfl)⟩
      try simp only [Act.put, List.setIfInBounds_toArray, List.set_cons_zero, List.set_cons_succ]
      refine wpAnyH_take (i := 30) (oi := ?oi30_1) (v := ?v30_1) ?ho30_1 (by kernel_rfl) (by kernel_rfl) (by kernel_rfl) ?hQ30_1 ?hy30_1 hHeld ?hr30_1
      case ho30_1 => simp only [List.getElem?_toArray, List.getElem?_cons_succ, List.getElem?_cons_zero]; rfl
      case hQ30_1 => exact fun _ _ _ h => h
      case hy30_1 => exact Or.inl ⟨by rfl, by (intro w hSw; go_simp; try with_reducible rfl)⟩
      try simp only [Act.put, List.setIfInBounds_toArray, List.set_cons_zero, List.set_cons_succ]
      refine wpAnyH_take (i := 31) (oi := ?oi31_1) (v := ?v31_1) ?ho31_1 (by kernel_rfl) (by kernel_rfl) (by kernel_rfl) ?hQ31_1 ?hy31_1 hHeld ?hr31_1
      case ho31_1 => simp only [List.getElem?_toArray, List.getElem?_cons_succ, List.getElem?_cons_zero]; rfl
      case hQ31_1 => exact fun _ _ _ h => h
      case hy31_1 => exact Or.inl ⟨by rfl, by (intro w hSw; go_simp; try with_reducible rfl)⟩
      try simp only [Act.put, List.setIfInBounds_toArray, List.set_cons_zero, List.set_cons_succ]
      refine wpAnyH_take (i := 32) (oi := ?oi32_1) (v := ?v32_1) ?ho32_1 (by kernel_rfl) (by kernel_rfl) (by kernel_rfl) ?hQ32_1 ?hy32_1 hHeld ?hr32_1
      case ho32_1 => simp only [List.getElem?_toArray, List.getElem?_cons_succ, List.getElem?_cons_zero]; rfl
      case hQ32_1 => exact fun _ _ _ h => h
      case hy32_1 => exact Or.inl ⟨by rfl, by (intro w hSw; go_simp; try with_reducible rfl)⟩
      try simp only [Act.put, List.setIfInBounds_toArray, List.set_cons_zero, List.set_cons_succ]
      refine wpAnyH_take (i := 34) (oi := ?oi34_1) (v := ?v34_1) ?ho34_1 (by kernel_rfl) (by kernel_rfl) (by kernel_rfl) ?hQ34_1 ?hy34_1 hHeld ?hr34_1
      case ho34_1 => simp only [List.getElem?_toArray, List.getElem?_cons_succ, List.getElem?_cons_zero]; rfl
      case hQ34_1 => exact fun _ _ _ h => h
      case hy34_1 => exact Or.inl ⟨by rfl, by (intro w hSw; go_simp; try with_reducible rfl)⟩
      try simp only [Act.put, List.setIfInBounds_toArray, List.set_cons_zero, List.set_cons_succ]
      refine wpAnyH_ready (rs := [33]) (by kernel_rfl) (by simp) ?_
      refine AllReadyH.cons (o := ?o33_1) ?ho33_1 (fun KK hK => ?hs33_1) AllReadyH.nil
      case ho33_1 => simp only [List.getElem?_toArray, List.getElem?_cons_succ, List.getElem?_cons_zero]; rfl
      go_simp
      go_at_call 14; refine (i_IsArith p x0 x1 ga gn gc gs oa on oc os _ M.out).mono ?_; rintro e wq33 ⟨rfl, hq33⟩; replace V1 := Lib.hid (V1.out.below hq33); replace V2 := Lib.hid (V2.out.below hq33); replace E1 := Lib.hid (E1.out.below hq33); replace E2 := Lib.hid (E2.out.below hq33); replace X1 := Lib.hid (X1.out.below hq33); replace X2 := Lib.hid (X2.out.below hq33); replace M := Lib.hid (M.out.below hq33); replace c0 := cell_on c0 hq33; replace c1 := cell_on c1 hq33; replace c2 := cell_on c2 hq33; replace c3 := cell_on c3 hq33; replace c4 := cell_on c4 hq33; replace d0 := cell_on d0 hq33; replace d1 := cell_on d1 hq33; replace d2 := cell_on d2 hq33; replace d3 := cell_on d3 hq33; replace d4 := cell_on d4 hq33; replace e0 := cell_on e0 hq33; replace e1 := cell_on e1 hq33; replace e2 := cell_on e2 hq33; replace e3 := cell_on e3 hq33; replace e4 := cell_on e4 hq33; replace BB := Lib.hid (bel_trans BB.out hq33)
      refine hK.out _ _ ?hS33_1 (fun hHeld => ?hr33_1)
      case hS33_1 => exact ⟨c0, c1, c2, c3, c4, d0, d1, d2, d3, d4, e0, e1, e2, e3, e4⟩
      clear hK KK
      try simp only [Act.put, List.setIfInBounds_toArray, List.set_cons_zero, List.set_cons_succ]
      refine wpAnyH_ready (rs := [35]) (by kernel_rfl) (by simp) ?_
      refine AllReadyH.cons (o := ?o35_1) ?ho35_1 (fun KK hK => ?hs35_1) AllReadyH.nil
      case ho35_1 => simp only [List.getElem?_toArray, List.getElem?_cons_succ, List.getElem?_cons_zero]; rfl
      go_simp
      go_at_call 15; refine (s_IsArith p x0 x1 ga gn gc gs oa on oc os _ M.out).mono ?_; rintro e wq35 ⟨rfl, hq35⟩; replace V1 := Lib.hid (V1.out.below hq35); replace V2 := Lib.hid (V2.out.below hq35); replace E1 := Lib.hid (E1.out.below hq35); replace E2 := Lib.hid (E2.out.below hq35); replace X1 := Lib.hid (X1.out.below hq35); replace X2 := Lib.hid (X2.out.below hq35); replace M := Lib.hid (M.out.below hq35); replace c0 := cell_on c0 hq35; replace c1 := cell_on c1 hq35; replace c2 := cell_on c2 hq35; replace c3 := cell_on c3 hq35; replace c4 := cell_on c4 hq35; replace d0 := cell_on d0 hq35; replace d1 := cell_on d1 hq35; replace d2 := cell_on d2 hq35; replace d3 := cell_on d3 hq35; replace d4 := cell_on d4 hq35; replace e0 := cell_on e0 hq35; replace e1 := cell_on e1 hq35; replace e2 := cell_on e2 hq35; replace e3 := cell_on e3 hq35; replace e4 := cell_on e4 hq35; replace BB := Lib.hid (bel_trans BB.out hq35)
      refine hK.out _ _ ?hS35_1 (fun hHeld => ?hr35_1)
      case hS35_1 => exact ⟨c0, c1, c2, c3, c4, d0, d1, d2, d3, d4, e0, e1, e2, e3, e4⟩
      clear hK KK
      try simp only [Act.put, List.setIfInBounds_toArray, List.set_cons_zero, List.set_cons_succ]
      refine wpAnyH_take (i := 36) (oi := ?oi36_1) (v := ?v36_1) ?ho36_1 (by kernel_rfl) (by kernel_rfl) (by kernel_rfl) ?hQ36_1 ?hy36_1 hHeld ?hr36_1
      case ho36_1 => simp only [List.getElem?_toArray, List.getElem?_cons_succ, List.getElem?_cons_zero]; rfl
      case hQ36_1 => exact fun _ _ _ h => h
      case hy36_1 => exact Or.inl ⟨by rfl, by (intro w hSw; go_simp; try with_reducible rfl)⟩
      try simp only [Act.put, List.setIfInBounds_toArray, List.set_cons_zero, List.set_cons_succ]
      refine wpAnyH_take (i := 37) (oi := ?oi37_1) (v := ?v37_1) ?ho37_1 (by kernel_rfl) (by kernel_rfl) (by kernel_rfl) ?hQ37_1 ?hy37_1 hHeld ?hr37_1
      case ho37_1 => simp only [List.getElem?_toArray, List.getElem?_cons_succ, List.getElem?_cons_zero]; rfl
      case hQ37_1 => exact fun _ _ _ h => h
      case hy37_1 => exact Or.inl ⟨by rfl, by (intro w hSw; go_simp; try with_reducible rfl)⟩
      try simp only [Act.put, List.setIfInBounds_toArray, List.set_cons_zero, List.set_cons_succ]
      refine wpAnyH_take (i := 38) (oi := ?oi38_1) (v := ?v38_1) ?ho38_1 (by kernel_rfl) (by kernel_rfl) (by kernel_rfl) ?hQ38_1 ?hy38_1 hHeld ?hr38_1
      case ho38_1 => simp only [List.getElem?_toArray, List.getElem?_cons_succ, List.getElem?_cons_zero]; rfl
      case hQ38_1 => exact fun _ _ _ h => h
      case hy38_1 => exact Or.inl ⟨by rfl, by (intro w hSw; go_simp; try with_reducible rfl)⟩
      try simp only [Act.put, List.setIfInBounds_toArray, List.set_cons_zero, List.set_cons_succ]
      refine wpAnyH_take (i := 39) (oi := ?oi39_1) (v := ?v39_1) ?ho39_1 (by kernel_rfl) (by kernel_rfl) (by kernel_rfl) ?hQ39_1 ?hy39_1 hHeld ?hr39_1
      case ho39_1 => simp only [List.getElem?_toArray, List.getElem?_cons_succ, List.getElem?_cons_zero]; rfl
      case hQ39_1 => exact fun _ _ _ h => h
      case hy39_1 => exact Or.inl ⟨by rfl, by (intro w hSw; go_simp; try with_reducible rfl)⟩
      try simp only [Act.put, List.setIfInBounds_toArray, List.set_cons_zero, List.set_cons_succ]
      refine wpAnyH_take (i := 40) (oi := ?oi40_1) (v := ?v40_1) ?ho40_1 (by kernel_rfl) (by kernel_rfl) (by kernel_rfl) ?hQ40_1 ?hy40_1 hHeld ?hr40_1
      case ho40_1 => simp only [List.getElem?_toArray, List.getElem?_cons_succ, List.getElem?_cons_zero]; rfl
      case hQ40_1 => exact fun _ _ _ h => h
      case hy40_1 => exact Or.inl ⟨by rfl, by (intro w hSw; go_simp; try with_reducible rfl)⟩
      try simp only [Act.put, List.setIfInBounds_toArray, List.set_cons_zero, List.set_cons_succ]
      refine wpAnyH_take (i := 41) (oi := ?oi41_1) (v := ?v41_1) ?ho41_1 (by kernel_rfl) (by kernel_rfl) (by kernel_rfl) ?hQ41_1 ?hy41_1 hHeld ?hr41_1
      case ho41_1 => simp only [List.getElem?_toArray, List.getElem?_cons_succ, List.getElem?_cons_zero]; rfl
      case hQ41_1 => exact fun _ _ _ h => h
      case hy41_1 => exact Or.inl ⟨by rfl, by (intro w hSw; go_simp; try with_reducible rfl)⟩
      try simp only [Act.put, List.setIfInBounds_toArray, List.set_cons_zero, List.set_cons_succ]
      refine wpAnyH_take (i := 42) (oi := ?oi42_1) (v := ?v42_1) ?ho42_1 (by kernel_rfl) (by kernel_rfl) (by kernel_rfl) ?hQ42_1 ?hy42_1 hHeld ?hr42_1
      case ho42_1 => simp only [List.getElem?_toArray, List.getElem?_cons_succ, List.getElem?_cons_zero]; rfl
      case hQ42_1 => exact fun _ _ _ h => h
      case hy42_1 => exact Or.inl ⟨by rfl, by (intro w hSw; go_simp; try with_reducible rfl)⟩
      try simp only [Act.put, List.setIfInBounds_toArray, List.set_cons_zero, List.set_cons_succ]
      refine wpAnyH_done (by kernel_rfl) ?_ _
      go_wp2_with fail
      go_meet
      exact ⟨by first | rfl | simp, BB⟩
  case rest =>
    as_aux_lemma =>
      obtain ⟨rfl, HZ⟩ := hcut
      clear V1 E1 X2
      obtain ⟨wr, hwr⟩ : ∃ X : World, X = wc := ⟨_, rfl⟩
      subst hwr
      replace KL := KL.below HZ.out
      replace M := M.below HZ.out
      replace U := U.below HZ.out
      replace S := S.below HZ.out
      replace C := C.below HZ.out
      replace V2 := V2.below HZ.out
      replace E2 := E2.below HZ.out
      replace X1 := X1.below HZ.out
      replace X := X.below HZ.out
      replace Y := Y.below HZ.out
      have BZ := bel_trans BY HZ.out
      clear c0 c1 c2 c3 c4
      clear d0 d1 d2 d3 d4
      clear e0 e1 e2 e3 e4
      obtain ⟨c0, c1, c2, c3, c4⟩ := id C
      obtain ⟨d0, d1, d2, d3, d4⟩ := id X
      obtain ⟨e0, e1, e2, e3, e4⟩ := id Y
      go_upto_if 132 with (fail)
      go_cut [21, 22, 23, 24, 25, 26, 132] (fun _ _ _ _ _ _ _ W => Hid (Below wr.heap.size wr W))
      case first =>
        as_aux_lemma =>
          cases ok with
          | false =>
            go_wp2_with fail
            go_meet
            exact (Below.refl _ _ : Below wr.heap.size wr wr)
          | true =>
            obtain ⟨hCA, hCT⟩ := pa_true HPA.out
            have hT := i_ArithText c.p c.i0 c.i1 ha c.gn hc c.gs ja c.os.length jc c.os wr KL X1
            rw [if_pos hCA, hCT, hCA] at hT
            have HT := Lib.hid hT; have HCA := Lib.hid hCA; have HCG := Lib.hid (arC_ok hCA).2.2.2.2.2.1; clear hT hCA hCT
            go_wp2_with fail
            refine (HT.out).mono ?_; rintro e w9 ⟨rfl, hbw9⟩
            replace KL := KL.below hbw9
            replace M := M.below hbw9
            replace U := U.below hbw9
            replace S := S.below hbw9
            replace C := C.below hbw9
            replace V2 := V2.below hbw9
            replace E2 := E2.below hbw9
            replace X1 := X1.below hbw9
            replace X := X.below hbw9
            replace Y := Y.below hbw9
            have Bw9 := bel_trans (Below.refl wr.heap.size wr) hbw9
            clear hbw9
            clear c0 c1 c2 c3 c4
            clear d0 d1 d2 d3 d4
            clear e0 e1 e2 e3 e4
            obtain ⟨c0, c1, c2, c3, c4⟩ := id C
            obtain ⟨d0, d1, d2, d3, d4⟩ := id X
            obtain ⟨e0, e1, e2, e3, e4⟩ := id Y
            go_wp2_with fail
            refine (i_CountArith c.p c.i0 c.i1 ha c.gn hc c.gs ja c.os.length jc c.os _ X1 HCA.out).mono ?_; rintro e w10 ⟨q1, j1, rfl, N1, hbw10⟩
            replace KL := KL.below hbw10
            replace M := M.below hbw10
            replace U := U.below hbw10
            replace S := S.below hbw10
            replace C := C.below hbw10
            replace V2 := V2.below hbw10
            replace E2 := E2.below hbw10
            replace X1 := X1.below hbw10
            replace X := X.below hbw10
            replace Y := Y.below hbw10
            have Bw10 := bel_trans Bw9 hbw10
            clear hbw10
            clear c0 c1 c2 c3 c4
            clear d0 d1 d2 d3 d4
            clear e0 e1 e2 e3 e4
            obtain ⟨c0, c1, c2, c3, c4⟩ := id C
            obtain ⟨d0, d1, d2, d3, d4⟩ := id X
            obtain ⟨e0, e1, e2, e3, e4⟩ := id Y
            go_wp2_with fail
            refine (s_CountArith c.p c.i0 c.i1 ha c.gn hc c.gs ja c.os.length jc c.os _ X1 HCA.out).mono ?_; rintro e w11 ⟨q2, j2, rfl, N2, hbw11⟩
            replace KL := KL.below hbw11
            replace M := M.below hbw11
            replace U := U.below hbw11
            replace S := S.below hbw11
            replace C := C.below hbw11
            replace V2 := V2.below hbw11
            replace E2 := E2.below hbw11
            replace X1 := X1.below hbw11
            replace X := X.below hbw11
            replace Y := Y.below hbw11
            replace N1 := N1.below hbw11
            have Bw11 := bel_trans Bw10 hbw11
            clear hbw11
            clear c0 c1 c2 c3 c4
            clear d0 d1 d2 d3 d4
            clear e0 e1 e2 e3 e4
            obtain ⟨c0, c1, c2, c3, c4⟩ := id C
            obtain ⟨d0, d1, d2, d3, d4⟩ := id X
            obtain ⟨e0, e1, e2, e3, e4⟩ := id Y
            have tl : ((B l).toList == (B l).toList) = true := by simp
            have HKS := Lib.hid (kinds_sum (kindsOkA HCA.out)); have HKB := kinds_bd (gs := c.gs) HCG.out
            go_upto_region 17 with (fail)
            replace N1 := Lib.hid (N1.below (bel_drew w11)); replace N2 := Lib.hid (N2.below (bel_drew w11)); have BB := Lib.hid (bel_trans Bw11 (bel_drew w11)); replace e3 := cell_on e3 (bel_drew w11)
            clear c0 c1 c2 c3 c4 d0 d1 d2 d3 d4 e0 e1 e2 e4
            go_wp2_with fail
            refine wp_region_held_drew (S := (fun W => W.cell? ⟨w8.heap.size, 3, none⟩ = some (.slice hb c.gn hd))) (by kernel_rfl) (by exact e3) (fun hHeld => ?_)
            refine wpAnyH_take (i := 0) (oi := ?oi0_2) (v := ?v0_2) ?ho0_2 (by kernel_rfl) (by kernel_rfl) (by kernel_rfl) ?hQ0_2 ?hy0_2 hHeld ?hr0_2
            case ho0_2 => simp only [List.getElem?_toArray, List.getElem?_cons_succ, List.getElem?_cons_zero]; rfl
            case hQ0_2 => exact fun _ _ _ h => h
            case hy0_2 => exact Or.inl ⟨by rfl, by (intro w hSw; go_simp; try with_reducible rfl)⟩
            try simp only [Act.put, List.setIfInBounds_toArray, List.set_cons_zero, List.set_cons_succ]
            refine wpAnyH_take (i := 1) (oi := ?oi1_2) (v := ?v1_2) ?ho1_2 (by kernel_rfl) (by kernel_rfl) (by kernel_rfl) ?hQ1_2 ?hy1_2 hHeld ?hr1_2
            case ho1_2 => simp only [List.getElem?_toArray, List.getElem?_cons_succ, List.getElem?_cons_zero]; rfl
            case hQ1_2 => exact fun _ _ _ h => h
            case hy1_2 => exact Or.inl ⟨by rfl, by (intro w hSw; go_simp; try with_reducible rfl)⟩
            try simp only [Act.put, List.setIfInBounds_toArray, List.set_cons_zero, List.set_cons_succ]
            refine wpAnyH_take (i := 2) (oi := ?oi2_2) (v := ?v2_2) ?ho2_2 (by kernel_rfl) (by kernel_rfl) (by kernel_rfl) ?hQ2_2 ?hy2_2 hHeld ?hr2_2
            case ho2_2 => simp only [List.getElem?_toArray, List.getElem?_cons_succ, List.getElem?_cons_zero]; rfl
            case hQ2_2 => exact fun _ _ _ h => h
            case hy2_2 => exact Or.inl ⟨by rfl, by (intro w hSw; go_simp; try with_reducible rfl)⟩
            try simp only [Act.put, List.setIfInBounds_toArray, List.set_cons_zero, List.set_cons_succ]
            refine wpAnyH_take (i := 3) (oi := ?oi3_2) (v := ?v3_2) ?ho3_2 (by kernel_rfl) (by kernel_rfl) (by kernel_rfl) ?hQ3_2 ?hy3_2 hHeld ?hr3_2
            case ho3_2 => simp only [List.getElem?_toArray, List.getElem?_cons_succ, List.getElem?_cons_zero]; rfl
            case hQ3_2 => exact fun _ _ _ h => h
            case hy3_2 => exact Or.inl ⟨by rfl, by (intro w hSw; go_simp; try with_reducible rfl)⟩
            try simp only [Act.put, List.setIfInBounds_toArray, List.set_cons_zero, List.set_cons_succ]
            refine wpAnyH_take (i := 4) (oi := ?oi4_2) (v := ?v4_2) ?ho4_2 (by kernel_rfl) (by kernel_rfl) (by kernel_rfl) ?hQ4_2 ?hy4_2 hHeld ?hr4_2
            case ho4_2 => simp only [List.getElem?_toArray, List.getElem?_cons_succ, List.getElem?_cons_zero]; rfl
            case hQ4_2 => exact fun _ _ _ h => h
            case hy4_2 => exact Or.inl ⟨by rfl, by (intro w hSw; go_simp; try with_reducible rfl)⟩
            try simp only [Act.put, List.setIfInBounds_toArray, List.set_cons_zero, List.set_cons_succ]
            refine wpAnyH_take (i := 5) (oi := ?oi5_2) (v := ?v5_2) ?ho5_2 (by kernel_rfl) (by kernel_rfl) (by kernel_rfl) ?hQ5_2 ?hy5_2 hHeld ?hr5_2
            case ho5_2 => simp only [List.getElem?_toArray, List.getElem?_cons_succ, List.getElem?_cons_zero]; rfl
            case hQ5_2 => exact fun _ _ _ h => h
            case hy5_2 => exact Or.inl ⟨by rfl, by (intro w hSw; go_simp; try with_reducible rfl)⟩
            try simp only [Act.put, List.setIfInBounds_toArray, List.set_cons_zero, List.set_cons_succ]
            refine wpAnyH_take (i := 6) (oi := ?oi6_2) (v := ?v6_2) ?ho6_2 (by kernel_rfl) (by kernel_rfl) (by kernel_rfl) ?hQ6_2 ?hy6_2 hHeld ?hr6_2
            case ho6_2 => simp only [List.getElem?_toArray, List.getElem?_cons_succ, List.getElem?_cons_zero]; rfl
            case hQ6_2 => exact fun _ _ _ h => h
            case hy6_2 => exact Or.inl ⟨by rfl, by (intro w hSw; go_simp; try with_reducible rfl)⟩
            try simp only [Act.put, List.setIfInBounds_toArray, List.set_cons_zero, List.set_cons_succ]
            refine wpAnyH_take (i := 7) (oi := ?oi7_2) (v := ?v7_2) ?ho7_2 (by kernel_rfl) (by kernel_rfl) (by kernel_rfl) ?hQ7_2 ?hy7_2 hHeld ?hr7_2
            case ho7_2 => simp only [List.getElem?_toArray, List.getElem?_cons_succ, List.getElem?_cons_zero]; rfl
            case hQ7_2 => exact fun _ _ _ h => h
            case hy7_2 => exact Or.inl ⟨by rfl, by (intro w hSw; go_simp; try with_reducible rfl)⟩
            try simp only [Act.put, List.setIfInBounds_toArray, List.set_cons_zero, List.set_cons_succ]
            refine wpAnyH_take (i := 8) (oi := ?oi8_2) (v := ?v8_2) ?ho8_2 (by kernel_rfl) (by kernel_rfl) (by kernel_rfl) ?hQ8_2 ?hy8_2 hHeld ?hr8_2
            case ho8_2 => simp only [List.getElem?_toArray, List.getElem?_cons_succ, List.getElem?_cons_zero]; rfl
            case hQ8_2 => exact fun _ _ _ h => h
            case hy8_2 => exact Or.inl ⟨by rfl, by (intro w hSw; go_simp; try with_reducible rfl)⟩
            try simp only [Act.put, List.setIfInBounds_toArray, List.set_cons_zero, List.set_cons_succ]
            refine wpAnyH_take (i := 9) (oi := ?oi9_2) (v := ?v9_2) ?ho9_2 (by kernel_rfl) (by kernel_rfl) (by kernel_rfl) ?hQ9_2 ?hy9_2 hHeld ?hr9_2
            case ho9_2 => simp only [List.getElem?_toArray, List.getElem?_cons_succ, List.getElem?_cons_zero]; rfl
            case hQ9_2 => exact fun _ _ _ h => h
            case hy9_2 => exact Or.inl ⟨by rfl, by (intro w hSw; go_simp; try with_reducible rfl)⟩
            try simp only [Act.put, List.setIfInBounds_toArray, List.set_cons_zero, List.set_cons_succ]
            refine wpAnyH_take (i := 10) (oi := ?oi10_2) (v := ?v10_2) ?ho10_2 (by kernel_rfl) (by kernel_rfl) (by kernel_rfl) ?hQ10_2 ?hy10_2 hHeld ?hr10_2
            case ho10_2 => simp only [List.getElem?_toArray, List.getElem?_cons_succ, List.getElem?_cons_zero]; rfl
            case hQ10_2 => exact fun _ _ _ h => h
            case hy10_2 => exact Or.inl ⟨by rfl, by (intro w hSw; go_simp; try with_reducible rfl)⟩
            try simp only [Act.put, List.setIfInBounds_toArray, List.set_cons_zero, List.set_cons_succ]
            refine wpAnyH_take (i := 11) (oi := ?oi11_2) (v := ?v11_2) ?ho11_2 (by kernel_rfl) (by kernel_rfl) (by kernel_rfl) ?hQ11_2 ?hy11_2 hHeld ?hr11_2
            case ho11_2 => simp only [List.getElem?_toArray, List.getElem?_cons_succ, List.getElem?_cons_zero]; rfl
            case hQ11_2 => exact fun _ _ _ h => h
            case hy11_2 => exact Or.inl ⟨by rfl, by (intro w hSw; go_simp; try with_reducible rfl)⟩
            try simp only [Act.put, List.setIfInBounds_toArray, List.set_cons_zero, List.set_cons_succ]
            refine wpAnyH_take (i := 12) (oi := ?oi12_2) (v := ?v12_2) ?ho12_2 (by kernel_rfl) (by kernel_rfl) (by kernel_rfl) ?hQ12_2 ?hy12_2 hHeld ?hr12_2
            case ho12_2 => simp only [List.getElem?_toArray, List.getElem?_cons_succ, List.getElem?_cons_zero]; rfl
            case hQ12_2 => exact fun _ _ _ h => h
            case hy12_2 => exact Or.inl ⟨by rfl, by (intro w hSw; go_simp; try with_reducible rfl)⟩
            try simp only [Act.put, List.setIfInBounds_toArray, List.set_cons_zero, List.set_cons_succ]
            refine wpAnyH_take (i := 13) (oi := ?oi13_2) (v := ?v13_2) ?ho13_2 (by kernel_rfl) (by kernel_rfl) (by kernel_rfl) ?hQ13_2 ?hy13_2 hHeld ?hr13_2
            case ho13_2 => simp only [List.getElem?_toArray, List.getElem?_cons_succ, List.getElem?_cons_zero]; rfl
            case hQ13_2 => exact fun _ _ _ h => h
            case hy13_2 => exact Or.inl ⟨by rfl, by (intro w hSw; go_simp; try with_reducible rfl)⟩
            try simp only [Act.put, List.setIfInBounds_toArray, List.set_cons_zero, List.set_cons_succ]
            refine wpAnyH_take (i := 14) (oi := ?oi14_2) (v := ?v14_2) ?ho14_2 (by kernel_rfl) (by kernel_rfl) (by kernel_rfl) ?hQ14_2 ?hy14_2 hHeld ?hr14_2
            case ho14_2 => simp only [List.getElem?_toArray, List.getElem?_cons_succ, List.getElem?_cons_zero]; rfl
            case hQ14_2 => exact fun _ _ _ h => h
            case hy14_2 => exact Or.inl ⟨by rfl, by (intro w hSw; go_simp; try with_reducible rfl)⟩
            try simp only [Act.put, List.setIfInBounds_toArray, List.set_cons_zero, List.set_cons_succ]
            refine wpAnyH_take (i := 15) (oi := ?oi15_2) (v := ?v15_2) ?ho15_2 (by kernel_rfl) (by kernel_rfl) (by kernel_rfl) ?hQ15_2 ?hy15_2 hHeld ?hr15_2
            case ho15_2 => simp only [List.getElem?_toArray, List.getElem?_cons_succ, List.getElem?_cons_zero]; rfl
            case hQ15_2 => exact fun _ _ _ h => h
            case hy15_2 => exact Or.inl ⟨by rfl, by (intro w hSw; go_simp; try with_reducible rfl)⟩
            try simp only [Act.put, List.setIfInBounds_toArray, List.set_cons_zero, List.set_cons_succ]
            refine wpAnyH_take (i := 16) (oi := ?oi16_2) (v := ?v16_2) ?ho16_2 (by kernel_rfl) (by kernel_rfl) (by kernel_rfl) ?hQ16_2 ?hy16_2 hHeld ?hr16_2
            case ho16_2 => simp only [List.getElem?_toArray, List.getElem?_cons_succ, List.getElem?_cons_zero]; rfl
            case hQ16_2 => exact fun _ _ _ h => h
            case hy16_2 => exact Or.inl ⟨by rfl, by (intro w hSw; go_simp; try with_reducible rfl)⟩
            try simp only [Act.put, List.setIfInBounds_toArray, List.set_cons_zero, List.set_cons_succ]
            refine wpAnyH_take (i := 17) (oi := ?oi17_2) (v := ?v17_2) ?ho17_2 (by kernel_rfl) (by kernel_rfl) (by kernel_rfl) ?hQ17_2 ?hy17_2 hHeld ?hr17_2
            case ho17_2 => simp only [List.getElem?_toArray, List.getElem?_cons_succ, List.getElem?_cons_zero]; rfl
            case hQ17_2 => exact fun _ _ _ h => h
            case hy17_2 => exact Or.inl ⟨by rfl, by (intro w hSw; go_simp; try with_reducible rfl)⟩
            try simp only [Act.put, List.setIfInBounds_toArray, List.set_cons_zero, List.set_cons_succ]
            refine wpAnyH_ready (rs := [18]) (by kernel_rfl) (by simp) ?_
            refine AllReadyH.cons (o := ?o18_2) ?ho18_2 (fun KK hK => ?hs18_2) AllReadyH.nil
            case ho18_2 => simp only [List.getElem?_toArray, List.getElem?_cons_succ, List.getElem?_cons_zero]; rfl
            go_simp
            go_at_call 12; refine (l_qInts _ _ _ _ _ _ _ N1.out N2.out).mono ?_; rintro e wq ⟨rfl, hq⟩; replace N2 := Lib.hid (N2.out.below hq); replace e3 := cell_on e3 hq; replace BB := Lib.hid (bel_trans BB.out hq)
            refine hK.out _ _ ?hS18_2 (fun hHeld => ?hr18_2)
            case hS18_2 => exact e3
            clear hK KK
            try simp only [Act.put, List.setIfInBounds_toArray, List.set_cons_zero, List.set_cons_succ]
            refine wpAnyH_take (i := 19) (oi := ?oi19_2) (v := ?v19_2) ?ho19_2 (by kernel_rfl) (by kernel_rfl) (by kernel_rfl) ?hQ19_2 ?hy19_2 hHeld ?hr19_2
            case ho19_2 => simp only [List.getElem?_toArray, List.getElem?_cons_succ, List.getElem?_cons_zero]; rfl
            case hQ19_2 => exact fun _ _ _ h => h
            case hy19_2 => exact Or.inl ⟨by rfl, by (intro w hSw; go_simp; try with_reducible rfl)⟩
            try simp only [Act.put, List.setIfInBounds_toArray, List.set_cons_zero, List.set_cons_succ]
            refine wpAnyH_take (i := 20) (oi := ?oi20_2) (v := ?v20_2) ?ho20_2 (by kernel_rfl) (by kernel_rfl) (by kernel_rfl) ?hQ20_2 ?hy20_2 hHeld ?hr20_2
            case ho20_2 => simp only [List.getElem?_toArray, List.getElem?_cons_succ, List.getElem?_cons_zero]; rfl
            case hQ20_2 => exact fun _ _ _ h => h
            case hy20_2 => exact Or.inl ⟨by rfl, by (intro w hSw; go_simp; try with_reducible rfl)⟩
            try simp only [Act.put, List.setIfInBounds_toArray, List.set_cons_zero, List.set_cons_succ]
            refine wpAnyH_take (i := 21) (oi := ?oi21_2) (v := ?v21_2) ?ho21_2 (by kernel_rfl) (by kernel_rfl) (by kernel_rfl) ?hQ21_2 ?hy21_2 hHeld ?hr21_2
            case ho21_2 => simp only [List.getElem?_toArray, List.getElem?_cons_succ, List.getElem?_cons_zero]; rfl
            case hQ21_2 => exact fun _ _ _ h => h
            case hy21_2 => exact Or.inl ⟨by rfl, by (intro w hSw; go_simp; try with_reducible rfl)⟩
            try simp only [Act.put, List.setIfInBounds_toArray, List.set_cons_zero, List.set_cons_succ]
            refine wpAnyH_take (i := 22) (oi := ?oi22_2) (v := ?v22_2) ?ho22_2 (by kernel_rfl) (by kernel_rfl) (by kernel_rfl) ?hQ22_2 ?hy22_2 hHeld ?hr22_2
            case ho22_2 => simp only [List.getElem?_toArray, List.getElem?_cons_succ, List.getElem?_cons_zero]; rfl
            case hQ22_2 => exact fun _ _ _ h => h
            case hy22_2 => exact Or.inl ⟨by rfl, by (intro w hSw; go_simp; try with_reducible rfl)⟩
            try simp only [Act.put, List.setIfInBounds_toArray, List.set_cons_zero, List.set_cons_succ]
            refine wpAnyH_take (i := 24) (oi := ?oi24_2) (v := ?v24_2) ?ho24_2 (by kernel_rfl) (by kernel_rfl) (by kernel_rfl) ?hQ24_2 ?hy24_2 hHeld ?hr24_2
            case ho24_2 => simp only [List.getElem?_toArray, List.getElem?_cons_succ, List.getElem?_cons_zero]; rfl
            case hQ24_2 => exact fun _ _ _ h => h
            case hy24_2 => exact Or.inl ⟨by rfl, by (intro w hSw; go_simp; try with_reducible rfl)⟩
            try simp only [Act.put, List.setIfInBounds_toArray, List.set_cons_zero, List.set_cons_succ]
            refine wpAnyH_take (i := 25) (oi := ?oi25_2) (v := ?v25_2) ?ho25_2 (by kernel_rfl) (by kernel_rfl) (by kernel_rfl) ?hQ25_2 ?hy25_2 hHeld ?hr25_2
            case ho25_2 => simp only [List.getElem?_toArray, List.getElem?_cons_succ, List.getElem?_cons_zero]; rfl
            case hQ25_2 => exact fun _ _ _ h => h
            case hy25_2 => exact Or.inl ⟨by rfl, by (intro w hSw; go_simp; try with_reducible rfl)⟩
            try simp only [Act.put, List.setIfInBounds_toArray, List.set_cons_zero, List.set_cons_succ]
            refine wpAnyH_take (i := 26) (oi := ?oi26_2) (v := ?v26_2) ?ho26_2 (by kernel_rfl) (by kernel_rfl) (by kernel_rfl) ?hQ26_2 ?hy26_2 hHeld ?hr26_2
            case ho26_2 => simp only [List.getElem?_toArray, List.getElem?_cons_succ, List.getElem?_cons_zero]; rfl
            case hQ26_2 => exact fun _ _ _ h => h
            case hy26_2 => exact Or.inl ⟨by rfl, by (intro w hSw; go_simp; try with_reducible rfl)⟩
            try simp only [Act.put, List.setIfInBounds_toArray, List.set_cons_zero, List.set_cons_succ]
            refine wpAnyH_ready (rs := [23]) (by kernel_rfl) (by simp) ?_
            refine AllReadyH.cons (o := ?o23_2) ?ho23_2 (fun KK hK => ?hs23_2) AllReadyH.nil
            case ho23_2 => simp only [List.getElem?_toArray, List.getElem?_cons_succ, List.getElem?_cons_zero]; rfl
            go_simp
            go_at_call 19; refine (l_qSumI _ _ _ _ _ N2.out HKB).mono ?_; rintro e wq2 ⟨he, rfl⟩; rw [HKS.out] at he; subst he
            refine hK.out _ _ ?hS23_2 (fun hHeld => ?hr23_2)
            case hS23_2 => exact e3
            clear hK KK
            try simp only [Act.put, List.setIfInBounds_toArray, List.set_cons_zero, List.set_cons_succ]
            refine wpAnyH_take (i := 27) (oi := ?oi27_2) (v := ?v27_2) ?ho27_2 (by kernel_rfl) (by kernel_rfl) (by kernel_rfl) ?hQ27_2 ?hy27_2 hHeld ?hr27_2
            case ho27_2 => simp only [List.getElem?_toArray, List.getElem?_cons_succ, List.getElem?_cons_zero]; rfl
            case hQ27_2 => exact fun _ _ _ h => h
            case hy27_2 => exact Or.inl ⟨by rfl, by (intro w hSw; go_simp; try with_reducible rfl)⟩
            try simp only [Act.put, List.setIfInBounds_toArray, List.set_cons_zero, List.set_cons_succ]
            refine wpAnyH_take (i := 28) (oi := ?oi28_2) (v := ?v28_2) ?ho28_2 (by kernel_rfl) (by kernel_rfl) (by kernel_rfl) ?hQ28_2 ?hy28_2 hHeld ?hr28_2
            case ho28_2 => simp only [List.getElem?_toArray, List.getElem?_cons_succ, List.getElem?_cons_zero]; rfl
            case hQ28_2 => exact fun _ _ _ h => h
            case hy28_2 => exact Or.inl ⟨by rfl, by (intro w hSw; go_simp; try with_reducible rfl)⟩
            try simp only [Act.put, List.setIfInBounds_toArray, List.set_cons_zero, List.set_cons_succ]
            refine wpAnyH_done (by kernel_rfl) ?_ _
            go_wp2_with fail
            go_meet
            exact BB
      case rest =>
        as_aux_lemma =>
          have HY := hcut
          obtain ⟨wy, hwy⟩ : ∃ X : World, X = wc := ⟨_, rfl⟩
          subst hwy
          replace KL := KL.below HY.out
          replace M := M.below HY.out
          replace U := U.below HY.out
          replace S := S.below HY.out
          replace C := C.below HY.out
          replace V2 := V2.below HY.out
          replace E2 := E2.below HY.out
          replace X1 := X1.below HY.out
          replace X := X.below HY.out
          replace Y := Y.below HY.out
          have BYY := bel_trans BZ HY.out
          clear c0 c1 c2 c3 c4
          clear d0 d1 d2 d3 d4
          clear e0 e1 e2 e3 e4
          obtain ⟨c0, c1, c2, c3, c4⟩ := id C
          obtain ⟨d0, d1, d2, d3, d4⟩ := id X
          obtain ⟨e0, e1, e2, e3, e4⟩ := id Y
          clear KL X1 X Y
          cases O with
          | false =>
            go_wp2
            go_ret
            exact ⟨by first | rfl | simp, BYY⟩
          | true =>
            have hOK := HO.out.symm
            have hQ : arC p x0 x1 gs gn os = true := (okA_iff.1 hOK).1
            have hEl : E.length = on := by rw [HE.out, avE_len hOK]; exact hol.out
            have hVl : V.length = (us ++ vs).length + gn := by rw [HV.out, avV_len hOK]
            obtain ⟨⟨hp1, hp2⟩, ⟨h01, h02⟩, ⟨h11, h12⟩, _, _, hgn, _⟩ := arC_ok hQ
            have HWR := Lib.hid (show ∀ k, k < on → nth E k = nth V (nth os k).toNat ∧ 0 ≤ nth os k ∧ (nth os k).toNat < V.length from fun k hk => by
              have h1 := wireZ hOK (i := k) (by rw [hol.out]; exact hk)
              have h2 := out_wire hOK (i := k) (by rw [hol.out]; exact hk)
              rw [← HE.out, ← HV.out] at h2
              exact ⟨h2, h1.1, by rw [hVl]; exact h1.2⟩)
            have HEB := Lib.hid (show ∀ k, 0 ≤ nth E k ∧ nth E k < p from fun k => by have := avE_bd hOK k; rw [← HE.out] at this; exact this)
            rw [hEl] at E2 ⊢
            have HOK := Lib.hid hOK; have HQ2 := Lib.hid hQ; have HEL := Lib.hid hEl; clear hOK hQ hEl hVl
            have HM := Lib.hid M; have HE2 := Lib.hid E2; have HV2 := Lib.hid V2; have HC := Lib.hid C; have HU := Lib.hid U; have HS := Lib.hid S; have HB0 := Lib.hid BYY
            clear M E2 V2 C U S
            go_wp2
            go_loopw [182] (fun i V0 => ∃ k : Nat, k ≤ on ∧ i = .int .i64 k ∧ Hid (Below wy.heap.size wy V0)) (fun i _ => on - (intOf i).toNat)
            case atStart => exact ⟨0, by omega, rfl, Below.refl _ _⟩
            case round =>
              as_aux_lemma =>
                obtain ⟨k, hk, rfl, HB1⟩ := hrel
                skip
                clear c0 c1 c2 c3 c4
                by_cases hlt : k < on
                · have hlti : (k : Int) < (on : Int) := by omega
                  obtain ⟨hk1, hk2, hk3⟩ := HWR.out k hlt
                  obtain ⟨q, hq⟩ : ∃ q : Nat, nth os k = (q : Int) := ⟨_, (Int.toNat_of_nonneg hk2).symm⟩
                  rw [hq, Int.toNat_natCast] at hk1 hk3
                  obtain ⟨ob, oo, rfl, hob, ko⟩ := (HM.out.below HB1.out).o.at hlt
                  rw [hq] at ko
                  obtain ⟨eb, eo, rfl, heb, ke⟩ := (HE2.out.below HB1.out).at hlt
                  obtain ⟨vb, vo, rfl, hvb, kv⟩ := (HV2.out.below HB1.out).at hk3
                  rw [hk1] at ke
                  have hqi : (q : Int) < (V.length : Int) := by omega
                  clear hk1 hk2 hq
                  go_wp2
                  go_quiet (fail)
                  go_wp2
                  go_roundw
                  case rel => exact ⟨k + 1, by omega, by go_num, (show Hid _ from below_drewN HB1.out _)⟩
                  case measure => simp [intOf]; omega
                · obtain rfl : k = on := by omega
                  have hnl : ¬ ((k : Int) < (k : Int)) := by omega
                  clear hlt hk
                  skip
                  have BB1 := Lib.hid (bel_trans HB0.out HB1.out)
                  have HC1 := HC.out.below HB1.out
                  obtain ⟨c0, c1, c2, c3, c4⟩ := id HC1
                  by_cases hz : k = 0
                  · subst hz
                    go_wp2
                    go_ret
                    exact ⟨by first | rfl | simp, BB1.out⟩
                  have hz1 : ¬ (k : Int) = 0 := by omega
                  have hz2 : ((k : Int) == 0) = false := by simpa using hz1
                  obtain ⟨m, hm⟩ : ∃ m, k = m + 1 := ⟨k - 1, by omega⟩
                  have e1 : IntKind.i64.wrap ((k : Int) - 1) = (m : Int) := by rw [IntWalk.i64_in _ (by omega)]; omega
                  have hm1 : m + 1 ≤ k := by omega
                  have hm2 : k ≤ m + 1 := by omega
                  have HMM := Lib.hid hm; clear hm
                  have M1 := HM.out.below HB1.out; have U1 := HU.out.below HB1.out; have S1 := HS.out.below HB1.out; have F1 := HE2.out.below HB1.out; have B1 := BB1.out
                  clear HM HE2 HV2 HC HU HS HB0 BB1 HB1 HWR
                  go_wp2_with fail
                  refine (i_AddOut p x0 x1 ga gn gc gs oa k oc os m _ M1 HQ2.out HMM.out).mono ?_; rintro e w9 ⟨d, ok1, ya, yc, za, zc, hAO, rfl, Y1, hbw9⟩
                  replace HC1 := HC1.below hbw9
                  replace M1 := M1.below hbw9
                  replace U1 := U1.below hbw9
                  replace S1 := S1.below hbw9
                  replace F1 := F1.below hbw9
                  have Bw9 := bel_trans B1 hbw9
                  clear hbw9
                  clear c0 c1 c2 c3 c4
                  obtain ⟨c0, c1, c2, c3, c4⟩ := id HC1
                  have HAO := Lib.hid hAO; clear hAO
                  have AX := bel_alloc w9 (.cells #[.int .i64 d.p, .int .i64 d.i0, .int .i64 d.i1, .slice ya d.gn yc, .slice za d.os.length zc] 26)
                  replace HC1 := HC1.below AX
                  replace M1 := M1.below AX
                  replace U1 := U1.below AX
                  replace S1 := S1.below AX
                  replace F1 := F1.below AX
                  replace Y1 := Y1.below AX
                  have YB := B5.new (w := w9) (x0 := .int .i64 d.p) (x1 := .int .i64 d.i0) (x2 := .int .i64 d.i1) (x3 := .slice ya d.gn yc) (x4 := .slice za d.os.length zc) (t := 26)
                  have BYB := bel_trans Bw9 AX; clear AX
                  obtain ⟨wd1, hwd1⟩ : ∃ zz_, w9.alloc (.cells #[.int .i64 d.p, .int .i64 d.i0, .int .i64 d.i1, .slice ya d.gn yc, .slice za d.os.length zc] 26) = zz_ := ⟨_, rfl⟩
                  rw [hwd1] at HC1 M1 U1 S1 F1 Y1 YB BYB
                  clear c0 c1 c2 c3 c4
                  obtain ⟨c0, c1, c2, c3, c4⟩ := id HC1
                  obtain ⟨d0, d1, d2, d3, d4⟩ := id YB
                  go_wp2_with fail
                  refine (s_AddOut p x0 x1 ga gn gc gs oa k oc os m _ M1 HQ2.out HMM.out).mono ?_; rintro e w10 ⟨dz, okz1, yb, yd, zb, zd, hAO2, rfl, Y2, hbw10⟩
                  replace HC1 := HC1.below hbw10
                  replace M1 := M1.below hbw10
                  replace U1 := U1.below hbw10
                  replace S1 := S1.below hbw10
                  replace F1 := F1.below hbw10
                  replace Y1 := Y1.below hbw10
                  replace YB := YB.below hbw10
                  have Bw10 := bel_trans BYB hbw10
                  clear hbw10
                  clear c0 c1 c2 c3 c4
                  obtain ⟨c0, c1, c2, c3, c4⟩ := id HC1
                  clear d0 d1 d2 d3 d4
                  obtain ⟨hdz, hokz1⟩ : d = dz ∧ ok1 = okz1 := by have hh := HAO.out.trans hAO2.symm; exact ⟨congrArg Prod.fst hh, congrArg Prod.snd hh⟩
                  subst hdz; subst hokz1; clear hAO2
                  have AX := bel_alloc w10 (.cells #[.int .i64 d.p, .int .i64 d.i0, .int .i64 d.i1, .slice yb d.gn yd, .slice zb d.os.length zd] 26)
                  replace HC1 := HC1.below AX
                  replace M1 := M1.below AX
                  replace U1 := U1.below AX
                  replace S1 := S1.below AX
                  replace F1 := F1.below AX
                  replace Y1 := Y1.below AX
                  replace YB := YB.below AX
                  replace Y2 := Y2.below AX
                  have YC := B5.new (w := w10) (x0 := .int .i64 d.p) (x1 := .int .i64 d.i0) (x2 := .int .i64 d.i1) (x3 := .slice yb d.gn yd) (x4 := .slice zb d.os.length zd) (t := 26)
                  have BYC := bel_trans Bw10 AX; clear AX
                  obtain ⟨wd2, hwd2⟩ : ∃ zz_, w10.alloc (.cells #[.int .i64 d.p, .int .i64 d.i0, .int .i64 d.i1, .slice yb d.gn yd, .slice zb d.os.length zd] 26) = zz_ := ⟨_, rfl⟩
                  rw [hwd2] at HC1 M1 U1 S1 F1 Y1 YB Y2 YC BYC
                  clear c0 c1 c2 c3 c4
                  obtain ⟨c0, c1, c2, c3, c4⟩ := id HC1
                  obtain ⟨d0, d1, d2, d3, d4⟩ := id YB
                  obtain ⟨e0, e1, e2, e3, e4⟩ := id YC
                  go_wp2_with fail
                  refine (l_qArith _ _ _ _ _ _ _ _ _ _ _ _ _ _ _ _ Y1 Y2).mono ?_; rintro e w11 ⟨rfl, hbw11⟩
                  replace HC1 := HC1.below hbw11
                  replace M1 := M1.below hbw11
                  replace U1 := U1.below hbw11
                  replace S1 := S1.below hbw11
                  replace F1 := F1.below hbw11
                  replace Y1 := Y1.below hbw11
                  replace YB := YB.below hbw11
                  replace Y2 := Y2.below hbw11
                  replace YC := YC.below hbw11
                  have Bw11 := bel_trans BYC hbw11
                  clear hbw11
                  clear c0 c1 c2 c3 c4
                  obtain ⟨c0, c1, c2, c3, c4⟩ := id HC1
                  clear d0 d1 d2 d3 d4
                  clear e0 e1 e2 e3 e4
                  obtain ⟨d0, d1, d2, d3, d4⟩ := id YB
                  clear Y2 YC
                  cases ok1 with
                  | false =>
                    go_wp2
                    go_ret
                    exact ⟨by first | rfl | simp, Bw11⟩
                  | true =>
                    have hD : arC p x0 x1 (addGs gs (nth os 0) (nth os m)) (gn + 2) (addOs os (x0 + x1 + gn)) = true ∧ d = ⟨p, x0, x1, addGs gs (nth os 0) (nth os m), gn + 2, addOs os (x0 + x1 + gn)⟩ := by
                      have hh := HAO.out
                      unfold aoOf at hh
                      split at hh
                      · rename_i hc; exact ⟨hc, congrArg Prod.fst hh⟩
                      · exact absurd (congrArg Prod.snd hh) (fun e => by cases e)
                    obtain ⟨hI, hd⟩ := hD
                    have hlm : os.length - 1 = m := by rw [hol.out, HMM.out]; omega
                    have hRes := add_end HOK.out hgl.out (by rw [hol.out, HMM.out]; omega) (by rw [hlm]; exact hI)
                    obtain ⟨hR1, hR2⟩ := hRes
                    rw [hlm, ← HE.out] at hR2; rw [hlm] at hR1
                    have HR1 := Lib.hid (show okA d.p d.i0 d.i1 d.gs d.gn d.os us vs = true by rw [hd]; exact hR1)
                    have HR2 := Lib.hid (show avE d.p d.i0 d.i1 d.gs d.gn d.os us vs = E ++ [(nth E 0 + nth E m) % p, nth E 0 * nth E m % p] by rw [hd]; exact hR2)
                    clear hI hd hlm hR1 hR2
                    obtain ⟨eb, eo, rfl, heb, ke⟩ := F1.at (i := 0) (by omega)
                    obtain ⟨eb', eo', eq, heb', km⟩ := F1.at (i := m) (by omega)
                    simp only [Option.some.injEq, Addr.mk.injEq, and_true] at eq; obtain ⟨rfl, rfl⟩ := eq
                    rw [Nat.add_zero] at ke
                    have hk0 : (0 : Int) < (k : Int) := by omega
                    have hkm : (m : Int) < (k : Int) := by omega
                    have hk0n : 0 < k := by omega
                    have hkmn : m < k := by omega
                    go_wp2
                    go_quiet (fail)
                    obtain ⟨w12, hw12⟩ : ∃ X, w11.drewN nq = X := ⟨_, rfl⟩
                    have AZ : Below w11.heap.size w11 w12 := by rw [← hw12]; exact bel_drewN _ _
                    rw [hw12]; clear hw12
                    replace HC1 := HC1.below AZ
                    replace M1 := M1.below AZ
                    replace U1 := U1.below AZ
                    replace S1 := S1.below AZ
                    replace F1 := F1.below AZ
                    replace Y1 := Y1.below AZ
                    replace YB := YB.below AZ
                    have BW12 := bel_trans Bw11 AZ; clear AZ
                    clear c0 c1 c2 c3 c4
                    obtain ⟨c0, c1, c2, c3, c4⟩ := id HC1
                    clear d0 d1 d2 d3 d4
                    obtain ⟨d0, d1, d2, d3, d4⟩ := id YB
                    go_wp2_with fail
                    refine (i_EvalArith d.p d.i0 d.i1 ya d.gn yc d.gs za d.os.length zc d.os ra rn rc us sa sn sc vs _ Y1 U1 S1).mono ?_; rintro e w12 ⟨r9, k9, rfl, L1, hbw12⟩
                    replace HC1 := HC1.below hbw12
                    replace M1 := M1.below hbw12
                    replace U1 := U1.below hbw12
                    replace S1 := S1.below hbw12
                    replace F1 := F1.below hbw12
                    replace Y1 := Y1.below hbw12
                    replace YB := YB.below hbw12
                    have Bw12 := bel_trans BW12 hbw12
                    clear hbw12
                    rw [HR2.out] at L1 ⊢; rw [HR1.out]
                    clear c0 c1 c2 c3 c4
                    obtain ⟨c0, c1, c2, c3, c4⟩ := id HC1
                    clear d0 d1 d2 d3 d4
                    obtain ⟨L, hL⟩ : ∃ L, E ++ [(nth E 0 + nth E m) % p, nth E 0 * nth E m % p] = L := ⟨_, rfl⟩
                    have hLl : L.length = k + 2 := by rw [← hL, List.length_append, HEL.out]; rfl
                    rw [hL, hLl] at L1 ⊢
                    have HL := Lib.hid hL; clear hL hLl
                    obtain ⟨hE0, hE1⟩ := HEB.out 0; obtain ⟨hE2, hE3⟩ := HEB.out m
                    obtain ⟨hm3, hm4⟩ := mul_bdA (p := p) (by omega) ⟨hE0, hE1⟩ ⟨hE2, hE3⟩
                    have e2 : IntKind.i64.wrap (nth E 0 + nth E m) = nth E 0 + nth E m := IntWalk.i64_in _ (by omega)
                    have e3 : IntKind.i64.wrap (nth E 0 * nth E m) = nth E 0 * nth E m := IntWalk.i64_in _ (by omega)
                    have t2 : (nth E 0 + nth E m).tmod p = (nth E 0 + nth E m) % p := Int.tmod_eq_emod_of_nonneg (by omega)
                    have t3 : (nth E 0 * nth E m).tmod p = nth E 0 * nth E m % p := Int.tmod_eq_emod_of_nonneg (by omega)
                    have hr0 : ¬ p = 0 := by omega
                    have hf1 : Fits ((nth E 0 + nth E m) % p) := by have := Int.emod_nonneg (nth E 0 + nth E m) (show p ≠ 0 by omega); have := Int.emod_lt_of_pos (nth E 0 + nth E m) (show 0 < p by omega); unfold Fits; omega
                    have hf2 : Fits (nth E 0 * nth E m % p) := by have := Int.emod_nonneg (nth E 0 * nth E m) (show p ≠ 0 by omega); have := Int.emod_lt_of_pos (nth E 0 * nth E m) (show 0 < p by omega); unfold Fits; omega
                    have hlt1 := lt_of_cell HC1.c0
                    have HLL := Lib.hid (L1.below (bel_drew w12)); have HFF := Lib.hid (F1.below (bel_drew w12)); replace c0 := cell_on c0 (bel_drew w12); have BB := Lib.hid (bel_trans Bw12 (bel_drew w12))
                    have hzd := (bel_drew w12).size
                    have hlt0 : w1.heap.size < w12.drew.heap.size := Nat.lt_of_lt_of_le hlt1 hzd
                    clear c1 c2 c3 c4 ke km hk0 hkm hk0n hkmn L1 F1 YB Y1 HC1 U1 S1 M1 hlt1 hzd heb heb' e1 hz1 hz2 hE0 hE1 hE2 hE3 hm3 hm4
                    go_wp2_with fail
                    refine wp_region_held_drew (S := (fun W => W.cell? ⟨w1.heap.size, 0, none⟩ = some (.int .i64 p))) (by kernel_rfl) (by exact c0) (fun hHeld => ?_)
                    obtain ⟨D0, hD0⟩ : ∃ X, w12.drew = X := ⟨_, rfl⟩
                    rw [hD0] at HLL HFF c0 BB hlt0 hHeld ⊢
                    clear hD0
                    have BD := Lib.hid (Below.refl D0.heap.size D0)
                    refine wpAnyH_take (i := 0) (oi := ?oi0_3) (v := ?v0_3) ?ho0_3 (by kernel_rfl) (by kernel_rfl) (by kernel_rfl) ?hQ0_3 ?hy0_3 hHeld ?hr0_3
                    case ho0_3 => simp only [List.getElem?_toArray, List.getElem?_cons_succ, List.getElem?_cons_zero]; rfl
                    case hQ0_3 => exact fun _ _ _ h => h
                    case hy0_3 => exact Or.inl ⟨by rfl, by (intro w hSw; go_simp; try with_reducible rfl)⟩
                    try simp only [Act.put, List.setIfInBounds_toArray, List.set_cons_zero, List.set_cons_succ]
                    refine wpAnyH_take (i := 1) (oi := ?oi1_3) (v := ?v1_3) ?ho1_3 (by kernel_rfl) (by kernel_rfl) (by kernel_rfl) ?hQ1_3 ?hy1_3 hHeld ?hr1_3
                    case ho1_3 => simp only [List.getElem?_toArray, List.getElem?_cons_succ, List.getElem?_cons_zero]; rfl
                    case hQ1_3 => exact fun _ _ _ h => h
                    case hy1_3 => exact Or.inl ⟨by rfl, by (intro w hSw; go_simp; try with_reducible rfl)⟩
                    try simp only [Act.put, List.setIfInBounds_toArray, List.set_cons_zero, List.set_cons_succ]
                    refine wpAnyH_take (i := 2) (oi := ?oi2_3) (v := ?v2_3) ?ho2_3 (by kernel_rfl) (by kernel_rfl) (by kernel_rfl) ?hQ2_3 ?hy2_3 hHeld ?hr2_3
                    case ho2_3 => simp only [List.getElem?_toArray, List.getElem?_cons_succ, List.getElem?_cons_zero]; rfl
                    case hQ2_3 => exact fun _ _ _ h => h
                    case hy2_3 => exact Or.inl ⟨by rfl, by (intro w hSw; go_simp; try with_reducible rfl)⟩
                    try simp only [Act.put, List.setIfInBounds_toArray, List.set_cons_zero, List.set_cons_succ]
                    refine wpAnyH_take (i := 4) (oi := ?oi4_3) (v := ?v4_3) ?ho4_3 (by kernel_rfl) (by kernel_rfl) (by kernel_rfl) ?hQ4_3 ?hy4_3 hHeld ?hr4_3
                    case ho4_3 => simp only [List.getElem?_toArray, List.getElem?_cons_succ, List.getElem?_cons_zero]; rfl
                    case hQ4_3 => exact fun _ _ _ h => h
                    case hy4_3 => exact Or.inl ⟨by rfl, by (intro w hSw; go_simp; try with_reducible rfl)⟩
                    try simp only [Act.put, List.setIfInBounds_toArray, List.set_cons_zero, List.set_cons_succ]
                    refine wpAnyH_take (i := 6) (oi := ?oi6_3) (v := ?v6_3) ?ho6_3 (by kernel_rfl) (by kernel_rfl) (by kernel_rfl) ?hQ6_3 ?hy6_3 hHeld ?hr6_3
                    case ho6_3 => simp only [List.getElem?_toArray, List.getElem?_cons_succ, List.getElem?_cons_zero]; rfl
                    case hQ6_3 => exact fun _ _ _ h => h
                    case hy6_3 => exact Or.inl ⟨by rfl, by (intro w hSw; go_simp; try with_reducible rfl)⟩
                    try simp only [Act.put, List.setIfInBounds_toArray, List.set_cons_zero, List.set_cons_succ]
                    refine wpAnyH_take (i := 7) (oi := ?oi7_3) (v := ?v7_3) ?ho7_3 (by kernel_rfl) (by kernel_rfl) (by kernel_rfl) ?hQ7_3 ?hy7_3 hHeld ?hr7_3
                    case ho7_3 => simp only [List.getElem?_toArray, List.getElem?_cons_succ, List.getElem?_cons_zero]; rfl
                    case hQ7_3 => exact fun _ _ _ h => h
                    case hy7_3 => exact Or.inl ⟨by rfl, by (intro w hSw; go_simp; try with_reducible rfl)⟩
                    try simp only [Act.put, List.setIfInBounds_toArray, List.set_cons_zero, List.set_cons_succ]
                    refine wpAnyH_take (i := 8) (oi := ?oi8_3) (v := ?v8_3) ?ho8_3 (by kernel_rfl) (by kernel_rfl) (by kernel_rfl) ?hQ8_3 ?hy8_3 hHeld ?hr8_3
                    case ho8_3 => simp only [List.getElem?_toArray, List.getElem?_cons_succ, List.getElem?_cons_zero]; rfl
                    case hQ8_3 => exact fun _ _ _ h => h
                    case hy8_3 => exact Or.inl ⟨by rfl, by (intro w hSw; go_simp; try with_reducible rfl)⟩
                    try simp only [Act.put, List.setIfInBounds_toArray, List.set_cons_zero, List.set_cons_succ]
                    refine wpAnyH_take (i := 9) (oi := ?oi9_3) (v := ?v9_3) ?ho9_3 (by kernel_rfl) (by kernel_rfl) (by kernel_rfl) ?hQ9_3 ?hy9_3 hHeld ?hr9_3
                    case ho9_3 => simp only [List.getElem?_toArray, List.getElem?_cons_succ, List.getElem?_cons_zero]; rfl
                    case hQ9_3 => exact fun _ _ _ h => h
                    case hy9_3 => exact Or.inl ⟨by rfl, by (intro w hSw; go_simp; try with_reducible rfl)⟩
                    try simp only [Act.put, List.setIfInBounds_toArray, List.set_cons_zero, List.set_cons_succ]
                    refine wpAnyH_take (i := 10) (oi := ?oi10_3) (v := ?v10_3) ?ho10_3 (by kernel_rfl) (by kernel_rfl) (by kernel_rfl) ?hQ10_3 ?hy10_3 hHeld ?hr10_3
                    case ho10_3 => simp only [List.getElem?_toArray, List.getElem?_cons_succ, List.getElem?_cons_zero]; rfl
                    case hQ10_3 => exact fun _ _ _ h => h
                    case hy10_3 => exact Or.inl ⟨by rfl, by (intro w hSw; go_simp; try with_reducible rfl)⟩
                    try simp only [Act.put, List.setIfInBounds_toArray, List.set_cons_zero, List.set_cons_succ]
                    refine wpAnyH_take (i := 11) (oi := ?oi11_3) (v := ?v11_3) ?ho11_3 (by kernel_rfl) (by kernel_rfl) (by kernel_rfl) ?hQ11_3 ?hy11_3 hHeld ?hr11_3
                    case ho11_3 => simp only [List.getElem?_toArray, List.getElem?_cons_succ, List.getElem?_cons_zero]; rfl
                    case hQ11_3 => exact fun _ _ _ h => h
                    case hy11_3 => exact Or.inl ⟨by rfl, by (intro w hSw; go_simp; try with_reducible rfl)⟩
                    try simp only [Act.put, List.setIfInBounds_toArray, List.set_cons_zero, List.set_cons_succ]
                    refine wpAnyH_take (i := 12) (oi := ?oi12_3) (v := ?v12_3) ?ho12_3 (by kernel_rfl) (by kernel_rfl) (by kernel_rfl) ?hQ12_3 ?hy12_3 hHeld ?hr12_3
                    case ho12_3 => simp only [List.getElem?_toArray, List.getElem?_cons_succ, List.getElem?_cons_zero]; rfl
                    case hQ12_3 => exact fun _ _ _ h => h
                    case hy12_3 => exact Or.inl ⟨by rfl, by (intro w hSw; go_simp; try with_reducible rfl)⟩
                    try simp only [Act.put, List.setIfInBounds_toArray, List.set_cons_zero, List.set_cons_succ]
                    refine wpAnyH_take (i := 13) (oi := ?oi13_3) (v := ?v13_3) ?ho13_3 (by kernel_rfl) (by kernel_rfl) (by kernel_rfl) ?hQ13_3 ?hy13_3 hHeld ?hr13_3
                    case ho13_3 => simp only [List.getElem?_toArray, List.getElem?_cons_succ, List.getElem?_cons_zero]; rfl
                    case hQ13_3 => exact fun _ _ _ h => h
                    case hy13_3 => exact Or.inl ⟨by rfl, by (intro w hSw; go_simp; try with_reducible rfl)⟩
                    try simp only [Act.put, List.setIfInBounds_toArray, List.set_cons_zero, List.set_cons_succ]
                    refine wpAnyH_take (i := 14) (oi := ?oi14_3) (v := ?v14_3) ?ho14_3 (by kernel_rfl) (by kernel_rfl) (by kernel_rfl) ?hQ14_3 ?hy14_3 hHeld ?hr14_3
                    case ho14_3 => simp only [List.getElem?_toArray, List.getElem?_cons_succ, List.getElem?_cons_zero]; rfl
                    case hQ14_3 => exact fun _ _ _ h => h
                    case hy14_3 => exact Or.inl ⟨by rfl, by (intro w hSw; go_simp; try with_reducible rfl)⟩
                    try simp only [Act.put, List.setIfInBounds_toArray, List.set_cons_zero, List.set_cons_succ]
                    refine wpAnyH_take (i := 15) (oi := ?oi15_3) (v := ?v15_3) ?ho15_3 (by kernel_rfl) (by kernel_rfl) (by kernel_rfl) ?hQ15_3 ?hy15_3 hHeld ?hr15_3
                    case ho15_3 => simp only [List.getElem?_toArray, List.getElem?_cons_succ, List.getElem?_cons_zero]; rfl
                    case hQ15_3 => exact fun _ _ _ h => h
                    case hy15_3 => exact Or.inl ⟨by rfl, by (intro w hSw; go_simp; try with_reducible rfl)⟩
                    try simp only [Act.put, List.setIfInBounds_toArray, List.set_cons_zero, List.set_cons_succ]
                    refine wpAnyH_take (i := 16) (oi := ?oi16_3) (v := ?v16_3) ?ho16_3 (by kernel_rfl) (by kernel_rfl) (by kernel_rfl) ?hQ16_3 ?hy16_3 hHeld ?hr16_3
                    case ho16_3 => simp only [List.getElem?_toArray, List.getElem?_cons_succ, List.getElem?_cons_zero]; rfl
                    case hQ16_3 => exact fun _ _ _ h => h
                    case hy16_3 => exact Or.inl ⟨by rfl, by (intro w hSw; go_simp; try with_reducible rfl)⟩
                    try simp only [Act.put, List.setIfInBounds_toArray, List.set_cons_zero, List.set_cons_succ]
                    refine wpAnyH_take (i := 17) (oi := ?oi17_3) (v := ?v17_3) ?ho17_3 (by kernel_rfl) (by kernel_rfl) (by kernel_rfl) ?hQ17_3 ?hy17_3 hHeld ?hr17_3
                    case ho17_3 => simp only [List.getElem?_toArray, List.getElem?_cons_succ, List.getElem?_cons_zero]; rfl
                    case hQ17_3 => exact fun _ _ _ h => h
                    case hy17_3 => exact Or.inl ⟨by rfl, by (intro w hSw; go_simp; try with_reducible rfl)⟩
                    try simp only [Act.put, List.setIfInBounds_toArray, List.set_cons_zero, List.set_cons_succ]
                    refine wpAnyH_ready (rs := [3, 18]) (by kernel_rfl) (by simp) ?_
                    refine (AllReadyH.cons (o := ?o3_201) ?ho3_201 (fun KK hK => ?hs3_201) (AllReadyH.cons (o := ?o18_201) ?ho18_201 (fun KK hK => ?hs18_201) AllReadyH.nil))
                    case ho3_201 => simp only [List.getElem?_toArray, List.getElem?_cons_succ, List.getElem?_cons_zero]; rfl
                    case ho18_201 => simp only [List.getElem?_toArray, List.getElem?_cons_succ, List.getElem?_cons_zero]; rfl
                    case hs3_201 =>
                      go_simp
                      have hbz := bel_alloc D0 (.cells #[] 3)
                      have hzz := BD.out.size
                      have HR0 := Lib.hid (show World.ownsRow (D0.alloc (.cells #[] 3)) D0.heap.size 3 1 (.slice (some ⟨D0.heap.size, 0, none⟩) 0 0) 0 (ivs []) from World.ownsRow_lit D0 #[] 0 hzz (by decide) rfl)
                      have hl3_201 : D0.heap.size < (D0.alloc (.cells #[] 3)).heap.size := by simp
                      replace BD := Lib.hid (BD.out.trans (hbz.mono hzz)); replace c0 := cell_on c0 hbz
                      obtain ⟨D3_201, hD3_201⟩ : ∃ X, D0.alloc (.cells #[] 3) = X := ⟨_, rfl⟩
                      rw [hD3_201] at BD c0 hl3_201 HR0 ⊢; clear hD3_201 hbz hzz
                      refine hK.out _ _ ?hS3_201 (fun hHeld => ?hr3_201)
                      case hS3_201 => exact c0
                      clear hK KK
                      try simp only [Act.put, List.setIfInBounds_toArray, List.set_cons_zero, List.set_cons_succ]
                      refine wpAnyH_ready (rs := [5, 18]) (by kernel_rfl) (by simp) ?_
                      refine (AllReadyH.cons (o := ?o5_202) ?ho5_202 (fun KK hK => ?hs5_202) (AllReadyH.cons (o := ?o18_202) ?ho18_202 (fun KK hK => ?hs18_202) AllReadyH.nil))
                      case ho5_202 => simp only [List.getElem?_toArray, List.getElem?_cons_succ, List.getElem?_cons_zero]; rfl
                      case ho18_202 => simp only [List.getElem?_toArray, List.getElem?_cons_succ, List.getElem?_cons_zero]; rfl
                      case hs5_202 =>
                        refine step_appIsW D0.heap.size 0 _ [] E _ k k4 (by rfl) _ _ (by rfl) (by rfl) (by rfl) (HFF.out.below BD.out) HR0.out BD.out.size (by omega) ?_; intro v9 D5_202 hv9 hb9 hg9 ho9
                        rw [Nat.zero_add, List.nil_append] at hv9
                        obtain ⟨ca, cc, rfl⟩ := own_sl hv9
                        have HR9 := Lib.hid hv9; replace BD := Lib.hid (BD.out.trans hb9); replace c0 := (hb9.cell (p := ⟨w1.heap.size, 0, none⟩) hlt0).trans c0
                        clear hv9 hb9 hg9 ho9 HR0
                        refine hK.out _ _ ?hS5_202 (fun hHeld => ?hr5_202)
                        case hS5_202 => exact c0
                        clear hK KK
                        try simp only [Act.put, List.setIfInBounds_toArray, List.set_cons_zero, List.set_cons_succ]
                        refine wpAnyH_ready (rs := [18]) (by kernel_rfl) (by simp) ?_
                        refine (AllReadyH.cons (o := ?o18_203) ?ho18_203 (fun KK hK => ?hs18_203) AllReadyH.nil)
                        case ho18_203 => simp only [List.getElem?_toArray, List.getElem?_cons_succ, List.getElem?_cons_zero]; rfl
                        case hs18_203 =>
                          go_simp
                          have hbz := bel_alloc D5_202 (.cells #[.int .i64 ((nth E 0 + nth E m) % p), .int .i64 (nth E 0 * nth E m % p)] 3)
                          have hzz := BD.out.size
                          have HLI := Lib.hid (show World.ownsRow (D5_202.alloc (.cells #[.int .i64 ((nth E 0 + nth E m) % p), .int .i64 (nth E 0 * nth E m % p)] 3)) D0.heap.size 3 1 (.slice (some ⟨D5_202.heap.size, 0, none⟩) 2 2) 2 (ivs [((nth E 0 + nth E m) % p), (nth E 0 * nth E m % p)]) from World.ownsRow_lit D5_202 #[.int .i64 ((nth E 0 + nth E m) % p), .int .i64 (nth E 0 * nth E m % p)] 2 hzz (by decide) rfl)
                          have hl18_203 : D5_202.heap.size < (D5_202.alloc (.cells #[.int .i64 ((nth E 0 + nth E m) % p), .int .i64 (nth E 0 * nth E m % p)] 3)).heap.size := by simp
                          replace BD := Lib.hid (BD.out.trans (hbz.mono hzz)); replace c0 := cell_on c0 hbz
                          replace HR9 := Lib.hid (ownsRow_below HR9.out hbz)
                          obtain ⟨D18_203, hD18_203⟩ : ∃ X, D5_202.alloc (.cells #[.int .i64 ((nth E 0 + nth E m) % p), .int .i64 (nth E 0 * nth E m % p)] 3) = X := ⟨_, rfl⟩
                          rw [hD18_203] at BD c0 hl18_203 HLI HR9 ⊢; clear hD18_203 hbz hzz
                          refine hK.out _ _ ?hS18_203 (fun hHeld => ?hr18_203)
                          case hS18_203 => exact c0
                          clear hK KK
                          try simp only [Act.put, List.setIfInBounds_toArray, List.set_cons_zero, List.set_cons_succ]
                          refine wpAnyH_ready (rs := [19]) (by kernel_rfl) (by simp) ?_
                          refine (AllReadyH.cons (o := ?o19_204) ?ho19_204 (fun KK hK => ?hs19_204) AllReadyH.nil)
                          case ho19_204 => simp only [List.getElem?_toArray, List.getElem?_cons_succ, List.getElem?_cons_zero]; rfl
                          case hs19_204 =>
                            obtain ⟨la, lc, hle, hlo⟩ := OwnI.of HLI.out (by omega) (by intro x hx; simp only [List.mem_cons, List.not_mem_nil, or_false] at hx; rcases hx with rfl | rfl <;> assumption)
                            simp only [Value.slice.injEq, true_and] at hle; obtain ⟨rfl, rfl⟩ := hle
                            refine step_appIsW D0.heap.size k _ E [((nth E 0 + nth E m) % p), (nth E 0 * nth E m % p)] _ 2 2 (by rfl) _ _ (by rfl) (by rfl) (by rfl) hlo.ints HR9.out BD.out.size (by omega) ?_; intro v10 D19_204 hv10 hb10 hg10 ho10
                            rw [HL.out] at hv10
                            obtain ⟨fa, fc, rfl, hfo⟩ := OwnI.of hv10 (by omega) HLL.out.wf.out
                            have HRF := Lib.hid hfo.ints; replace BD := Lib.hid (BD.out.trans hb10); replace c0 := (hb10.cell (p := ⟨w1.heap.size, 0, none⟩) hlt0).trans c0
                            clear hv10 hb10 hg10 ho10 hfo hlo HR9 HLI
                            refine hK.out _ _ ?hS19_204 (fun hHeld => ?hr19_204)
                            case hS19_204 => exact c0
                            clear hK KK
                            try simp only [Act.put, List.setIfInBounds_toArray, List.set_cons_zero, List.set_cons_succ]
                            refine wpAnyH_ready (rs := [20]) (by kernel_rfl) (by simp) ?_
                            refine (AllReadyH.cons (o := ?o20_205) ?ho20_205 (fun KK hK => ?hs20_205) AllReadyH.nil)
                            case ho20_205 => simp only [List.getElem?_toArray, List.getElem?_cons_succ, List.getElem?_cons_zero]; rfl
                            case hs20_205 =>
                              go_simp
                              go_at_call 12; refine (l_qInts _ _ _ _ _ L _ (HLL.out.below BD.out) HRF.out).mono ?_; rintro e D20_205 ⟨rfl, hqq⟩
                              replace c0 := cell_on c0 hqq; replace BD := Lib.hid (BD.out.trans (hqq.mono BD.out.size)); clear hqq
                              refine hK.out _ _ ?hS20_205 (fun hHeld => ?hr20_205)
                              case hS20_205 => exact c0
                              clear hK KK
                              try simp only [Act.put, List.setIfInBounds_toArray, List.set_cons_zero, List.set_cons_succ]
                              refine wpAnyH_take (i := 21) (oi := ?oi21_4) (v := ?v21_4) ?ho21_4 (by kernel_rfl) (by kernel_rfl) (by kernel_rfl) ?hQ21_4 ?hy21_4 hHeld ?hr21_4
                              case ho21_4 => simp only [List.getElem?_toArray, List.getElem?_cons_succ, List.getElem?_cons_zero]; rfl
                              case hQ21_4 => exact fun _ _ _ h => h
                              case hy21_4 => exact Or.inl ⟨by rfl, by (intro w hSw; go_simp; try with_reducible rfl)⟩
                              try simp only [Act.put, List.setIfInBounds_toArray, List.set_cons_zero, List.set_cons_succ]
                              refine wpAnyH_take (i := 22) (oi := ?oi22_4) (v := ?v22_4) ?ho22_4 (by kernel_rfl) (by kernel_rfl) (by kernel_rfl) ?hQ22_4 ?hy22_4 hHeld ?hr22_4
                              case ho22_4 => simp only [List.getElem?_toArray, List.getElem?_cons_succ, List.getElem?_cons_zero]; rfl
                              case hQ22_4 => exact fun _ _ _ h => h
                              case hy22_4 => exact Or.inl ⟨by rfl, by (intro w hSw; go_simp; try with_reducible rfl)⟩
                              try simp only [Act.put, List.setIfInBounds_toArray, List.set_cons_zero, List.set_cons_succ]
                              refine wpAnyH_done (by kernel_rfl) ?_ _
                              have BF := bel_trans BB.out BD.out
                              go_wp2
                              go_ret
                              exact ⟨by first | rfl | simp, BF⟩
                      case hs18_202 =>
                        go_simp
                        have hbz := bel_alloc D3_201 (.cells #[.int .i64 ((nth E 0 + nth E m) % p), .int .i64 (nth E 0 * nth E m % p)] 3)
                        have hzz := BD.out.size
                        have HLI := Lib.hid (show World.ownsRow (D3_201.alloc (.cells #[.int .i64 ((nth E 0 + nth E m) % p), .int .i64 (nth E 0 * nth E m % p)] 3)) D0.heap.size 3 1 (.slice (some ⟨D3_201.heap.size, 0, none⟩) 2 2) 2 (ivs [((nth E 0 + nth E m) % p), (nth E 0 * nth E m % p)]) from World.ownsRow_lit D3_201 #[.int .i64 ((nth E 0 + nth E m) % p), .int .i64 (nth E 0 * nth E m % p)] 2 hzz (by decide) rfl)
                        have hl18_202 : D3_201.heap.size < (D3_201.alloc (.cells #[.int .i64 ((nth E 0 + nth E m) % p), .int .i64 (nth E 0 * nth E m % p)] 3)).heap.size := by simp
                        replace BD := Lib.hid (BD.out.trans (hbz.mono hzz)); replace c0 := cell_on c0 hbz
                        replace HR0 := Lib.hid (ownsRow_below HR0.out hbz)
                        obtain ⟨D18_202, hD18_202⟩ : ∃ X, D3_201.alloc (.cells #[.int .i64 ((nth E 0 + nth E m) % p), .int .i64 (nth E 0 * nth E m % p)] 3) = X := ⟨_, rfl⟩
                        rw [hD18_202] at BD c0 hl18_202 HLI HR0 ⊢; clear hD18_202 hbz hzz
                        refine hK.out _ _ ?hS18_202 (fun hHeld => ?hr18_202)
                        case hS18_202 => exact c0
                        clear hK KK
                        try simp only [Act.put, List.setIfInBounds_toArray, List.set_cons_zero, List.set_cons_succ]
                        refine wpAnyH_ready (rs := [5]) (by kernel_rfl) (by simp) ?_
                        refine (AllReadyH.cons (o := ?o5_206) ?ho5_206 (fun KK hK => ?hs5_206) AllReadyH.nil)
                        case ho5_206 => simp only [List.getElem?_toArray, List.getElem?_cons_succ, List.getElem?_cons_zero]; rfl
                        case hs5_206 =>
                          refine step_appIsW D0.heap.size 0 _ [] E _ k k4 (by rfl) _ _ (by rfl) (by rfl) (by rfl) (HFF.out.below BD.out) HR0.out BD.out.size (by omega) ?_; intro v9 D5_206 hv9 hb9 hg9 ho9
                          rw [Nat.zero_add, List.nil_append] at hv9
                          obtain ⟨ca, cc, rfl⟩ := own_sl hv9
                          have HR9 := Lib.hid hv9; replace BD := Lib.hid (BD.out.trans hb9); replace c0 := (hb9.cell (p := ⟨w1.heap.size, 0, none⟩) hlt0).trans c0
                          replace HLI := Lib.hid (ownsRow_keptNe HLI.out hg9 (fun q hq e => by simp [Value.ownBlock] at hq e; omega))
                          clear hv9 hb9 hg9 ho9 HR0
                          refine hK.out _ _ ?hS5_206 (fun hHeld => ?hr5_206)
                          case hS5_206 => exact c0
                          clear hK KK
                          try simp only [Act.put, List.setIfInBounds_toArray, List.set_cons_zero, List.set_cons_succ]
                          refine wpAnyH_ready (rs := [19]) (by kernel_rfl) (by simp) ?_
                          refine (AllReadyH.cons (o := ?o19_207) ?ho19_207 (fun KK hK => ?hs19_207) AllReadyH.nil)
                          case ho19_207 => simp only [List.getElem?_toArray, List.getElem?_cons_succ, List.getElem?_cons_zero]; rfl
                          case hs19_207 =>
                            obtain ⟨la, lc, hle, hlo⟩ := OwnI.of HLI.out (by omega) (by intro x hx; simp only [List.mem_cons, List.not_mem_nil, or_false] at hx; rcases hx with rfl | rfl <;> assumption)
                            simp only [Value.slice.injEq, true_and] at hle; obtain ⟨rfl, rfl⟩ := hle
                            refine step_appIsW D0.heap.size k _ E [((nth E 0 + nth E m) % p), (nth E 0 * nth E m % p)] _ 2 2 (by rfl) _ _ (by rfl) (by rfl) (by rfl) hlo.ints HR9.out BD.out.size (by omega) ?_; intro v10 D19_207 hv10 hb10 hg10 ho10
                            rw [HL.out] at hv10
                            obtain ⟨fa, fc, rfl, hfo⟩ := OwnI.of hv10 (by omega) HLL.out.wf.out
                            have HRF := Lib.hid hfo.ints; replace BD := Lib.hid (BD.out.trans hb10); replace c0 := (hb10.cell (p := ⟨w1.heap.size, 0, none⟩) hlt0).trans c0
                            clear hv10 hb10 hg10 ho10 hfo hlo HR9 HLI
                            refine hK.out _ _ ?hS19_207 (fun hHeld => ?hr19_207)
                            case hS19_207 => exact c0
                            clear hK KK
                            try simp only [Act.put, List.setIfInBounds_toArray, List.set_cons_zero, List.set_cons_succ]
                            refine wpAnyH_ready (rs := [20]) (by kernel_rfl) (by simp) ?_
                            refine (AllReadyH.cons (o := ?o20_208) ?ho20_208 (fun KK hK => ?hs20_208) AllReadyH.nil)
                            case ho20_208 => simp only [List.getElem?_toArray, List.getElem?_cons_succ, List.getElem?_cons_zero]; rfl
                            case hs20_208 =>
                              go_simp
                              go_at_call 12; refine (l_qInts _ _ _ _ _ L _ (HLL.out.below BD.out) HRF.out).mono ?_; rintro e D20_208 ⟨rfl, hqq⟩
                              replace c0 := cell_on c0 hqq; replace BD := Lib.hid (BD.out.trans (hqq.mono BD.out.size)); clear hqq
                              refine hK.out _ _ ?hS20_208 (fun hHeld => ?hr20_208)
                              case hS20_208 => exact c0
                              clear hK KK
                              try simp only [Act.put, List.setIfInBounds_toArray, List.set_cons_zero, List.set_cons_succ]
                              refine wpAnyH_take (i := 21) (oi := ?oi21_5) (v := ?v21_5) ?ho21_5 (by kernel_rfl) (by kernel_rfl) (by kernel_rfl) ?hQ21_5 ?hy21_5 hHeld ?hr21_5
                              case ho21_5 => simp only [List.getElem?_toArray, List.getElem?_cons_succ, List.getElem?_cons_zero]; rfl
                              case hQ21_5 => exact fun _ _ _ h => h
                              case hy21_5 => exact Or.inl ⟨by rfl, by (intro w hSw; go_simp; try with_reducible rfl)⟩
                              try simp only [Act.put, List.setIfInBounds_toArray, List.set_cons_zero, List.set_cons_succ]
                              refine wpAnyH_take (i := 22) (oi := ?oi22_5) (v := ?v22_5) ?ho22_5 (by kernel_rfl) (by kernel_rfl) (by kernel_rfl) ?hQ22_5 ?hy22_5 hHeld ?hr22_5
                              case ho22_5 => simp only [List.getElem?_toArray, List.getElem?_cons_succ, List.getElem?_cons_zero]; rfl
                              case hQ22_5 => exact fun _ _ _ h => h
                              case hy22_5 => exact Or.inl ⟨by rfl, by (intro w hSw; go_simp; try with_reducible rfl)⟩
                              try simp only [Act.put, List.setIfInBounds_toArray, List.set_cons_zero, List.set_cons_succ]
                              refine wpAnyH_done (by kernel_rfl) ?_ _
                              have BF := bel_trans BB.out BD.out
                              go_wp2
                              go_ret
                              exact ⟨by first | rfl | simp, BF⟩
                    case hs18_201 =>
                      go_simp
                      have hbz := bel_alloc D0 (.cells #[.int .i64 ((nth E 0 + nth E m) % p), .int .i64 (nth E 0 * nth E m % p)] 3)
                      have hzz := BD.out.size
                      have HLI := Lib.hid (show World.ownsRow (D0.alloc (.cells #[.int .i64 ((nth E 0 + nth E m) % p), .int .i64 (nth E 0 * nth E m % p)] 3)) D0.heap.size 3 1 (.slice (some ⟨D0.heap.size, 0, none⟩) 2 2) 2 (ivs [((nth E 0 + nth E m) % p), (nth E 0 * nth E m % p)]) from World.ownsRow_lit D0 #[.int .i64 ((nth E 0 + nth E m) % p), .int .i64 (nth E 0 * nth E m % p)] 2 hzz (by decide) rfl)
                      have hl18_201 : D0.heap.size < (D0.alloc (.cells #[.int .i64 ((nth E 0 + nth E m) % p), .int .i64 (nth E 0 * nth E m % p)] 3)).heap.size := by simp
                      replace BD := Lib.hid (BD.out.trans (hbz.mono hzz)); replace c0 := cell_on c0 hbz
                      obtain ⟨D18_201, hD18_201⟩ : ∃ X, D0.alloc (.cells #[.int .i64 ((nth E 0 + nth E m) % p), .int .i64 (nth E 0 * nth E m % p)] 3) = X := ⟨_, rfl⟩
                      rw [hD18_201] at BD c0 hl18_201 HLI ⊢; clear hD18_201 hbz hzz
                      refine hK.out _ _ ?hS18_201 (fun hHeld => ?hr18_201)
                      case hS18_201 => exact c0
                      clear hK KK
                      try simp only [Act.put, List.setIfInBounds_toArray, List.set_cons_zero, List.set_cons_succ]
                      refine wpAnyH_ready (rs := [3]) (by kernel_rfl) (by simp) ?_
                      refine (AllReadyH.cons (o := ?o3_209) ?ho3_209 (fun KK hK => ?hs3_209) AllReadyH.nil)
                      case ho3_209 => simp only [List.getElem?_toArray, List.getElem?_cons_succ, List.getElem?_cons_zero]; rfl
                      case hs3_209 =>
                        go_simp
                        have hbz := bel_alloc D18_201 (.cells #[] 3)
                        have hzz := BD.out.size
                        have HR0 := Lib.hid (show World.ownsRow (D18_201.alloc (.cells #[] 3)) D0.heap.size 3 1 (.slice (some ⟨D18_201.heap.size, 0, none⟩) 0 0) 0 (ivs []) from World.ownsRow_lit D18_201 #[] 0 hzz (by decide) rfl)
                        have hl3_209 : D18_201.heap.size < (D18_201.alloc (.cells #[] 3)).heap.size := by simp
                        replace BD := Lib.hid (BD.out.trans (hbz.mono hzz)); replace c0 := cell_on c0 hbz
                        replace HLI := Lib.hid (ownsRow_below HLI.out hbz)
                        obtain ⟨D3_209, hD3_209⟩ : ∃ X, D18_201.alloc (.cells #[] 3) = X := ⟨_, rfl⟩
                        rw [hD3_209] at BD c0 hl3_209 HR0 HLI ⊢; clear hD3_209 hbz hzz
                        refine hK.out _ _ ?hS3_209 (fun hHeld => ?hr3_209)
                        case hS3_209 => exact c0
                        clear hK KK
                        try simp only [Act.put, List.setIfInBounds_toArray, List.set_cons_zero, List.set_cons_succ]
                        refine wpAnyH_ready (rs := [5]) (by kernel_rfl) (by simp) ?_
                        refine (AllReadyH.cons (o := ?o5_210) ?ho5_210 (fun KK hK => ?hs5_210) AllReadyH.nil)
                        case ho5_210 => simp only [List.getElem?_toArray, List.getElem?_cons_succ, List.getElem?_cons_zero]; rfl
                        case hs5_210 =>
                          refine step_appIsW D0.heap.size 0 _ [] E _ k k4 (by rfl) _ _ (by rfl) (by rfl) (by rfl) (HFF.out.below BD.out) HR0.out BD.out.size (by omega) ?_; intro v9 D5_210 hv9 hb9 hg9 ho9
                          rw [Nat.zero_add, List.nil_append] at hv9
                          obtain ⟨ca, cc, rfl⟩ := own_sl hv9
                          have HR9 := Lib.hid hv9; replace BD := Lib.hid (BD.out.trans hb9); replace c0 := (hb9.cell (p := ⟨w1.heap.size, 0, none⟩) hlt0).trans c0
                          replace HLI := Lib.hid (ownsRow_keptNe HLI.out hg9 (fun q hq e => by simp [Value.ownBlock] at hq e; omega))
                          clear hv9 hb9 hg9 ho9 HR0
                          refine hK.out _ _ ?hS5_210 (fun hHeld => ?hr5_210)
                          case hS5_210 => exact c0
                          clear hK KK
                          try simp only [Act.put, List.setIfInBounds_toArray, List.set_cons_zero, List.set_cons_succ]
                          refine wpAnyH_ready (rs := [19]) (by kernel_rfl) (by simp) ?_
                          refine (AllReadyH.cons (o := ?o19_211) ?ho19_211 (fun KK hK => ?hs19_211) AllReadyH.nil)
                          case ho19_211 => simp only [List.getElem?_toArray, List.getElem?_cons_succ, List.getElem?_cons_zero]; rfl
                          case hs19_211 =>
                            obtain ⟨la, lc, hle, hlo⟩ := OwnI.of HLI.out (by omega) (by intro x hx; simp only [List.mem_cons, List.not_mem_nil, or_false] at hx; rcases hx with rfl | rfl <;> assumption)
                            simp only [Value.slice.injEq, true_and] at hle; obtain ⟨rfl, rfl⟩ := hle
                            refine step_appIsW D0.heap.size k _ E [((nth E 0 + nth E m) % p), (nth E 0 * nth E m % p)] _ 2 2 (by rfl) _ _ (by rfl) (by rfl) (by rfl) hlo.ints HR9.out BD.out.size (by omega) ?_; intro v10 D19_211 hv10 hb10 hg10 ho10
                            rw [HL.out] at hv10
                            obtain ⟨fa, fc, rfl, hfo⟩ := OwnI.of hv10 (by omega) HLL.out.wf.out
                            have HRF := Lib.hid hfo.ints; replace BD := Lib.hid (BD.out.trans hb10); replace c0 := (hb10.cell (p := ⟨w1.heap.size, 0, none⟩) hlt0).trans c0
                            clear hv10 hb10 hg10 ho10 hfo hlo HR9 HLI
                            refine hK.out _ _ ?hS19_211 (fun hHeld => ?hr19_211)
                            case hS19_211 => exact c0
                            clear hK KK
                            try simp only [Act.put, List.setIfInBounds_toArray, List.set_cons_zero, List.set_cons_succ]
                            refine wpAnyH_ready (rs := [20]) (by kernel_rfl) (by simp) ?_
                            refine (AllReadyH.cons (o := ?o20_212) ?ho20_212 (fun KK hK => ?hs20_212) AllReadyH.nil)
                            case ho20_212 => simp only [List.getElem?_toArray, List.getElem?_cons_succ, List.getElem?_cons_zero]; rfl
                            case hs20_212 =>
                              go_simp
                              go_at_call 12; refine (l_qInts _ _ _ _ _ L _ (HLL.out.below BD.out) HRF.out).mono ?_; rintro e D20_212 ⟨rfl, hqq⟩
                              replace c0 := cell_on c0 hqq; replace BD := Lib.hid (BD.out.trans (hqq.mono BD.out.size)); clear hqq
                              refine hK.out _ _ ?hS20_212 (fun hHeld => ?hr20_212)
                              case hS20_212 => exact c0
                              clear hK KK
                              try simp only [Act.put, List.setIfInBounds_toArray, List.set_cons_zero, List.set_cons_succ]
                              refine wpAnyH_take (i := 21) (oi := ?oi21_6) (v := ?v21_6) ?ho21_6 (by kernel_rfl) (by kernel_rfl) (by kernel_rfl) ?hQ21_6 ?hy21_6 hHeld ?hr21_6
                              case ho21_6 => simp only [List.getElem?_toArray, List.getElem?_cons_succ, List.getElem?_cons_zero]; rfl
                              case hQ21_6 => exact fun _ _ _ h => h
                              case hy21_6 => exact Or.inl ⟨by rfl, by (intro w hSw; go_simp; try with_reducible rfl)⟩
                              try simp only [Act.put, List.setIfInBounds_toArray, List.set_cons_zero, List.set_cons_succ]
                              refine wpAnyH_take (i := 22) (oi := ?oi22_6) (v := ?v22_6) ?ho22_6 (by kernel_rfl) (by kernel_rfl) (by kernel_rfl) ?hQ22_6 ?hy22_6 hHeld ?hr22_6
                              case ho22_6 => simp only [List.getElem?_toArray, List.getElem?_cons_succ, List.getElem?_cons_zero]; rfl
                              case hQ22_6 => exact fun _ _ _ h => h
                              case hy22_6 => exact Or.inl ⟨by rfl, by (intro w hSw; go_simp; try with_reducible rfl)⟩
                              try simp only [Act.put, List.setIfInBounds_toArray, List.set_cons_zero, List.set_cons_succ]
                              refine wpAnyH_done (by kernel_rfl) ?_ _
                              have BF := bel_trans BB.out BD.out
                              go_wp2
                              go_ret
                              exact ⟨by first | rfl | simp, BF⟩
end Go.Proofs.YtfichpppjpgahaaGreatDoor
