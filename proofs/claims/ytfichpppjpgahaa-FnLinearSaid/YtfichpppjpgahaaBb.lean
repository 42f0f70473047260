/-
  Contracts: valid arithmetic circuits.
-/
import Derived.Test.YtfichpppjpgahaaBa
namespace Go.Proofs.Ytfichpppjpgahaa
open Go.RowKit
set_option linter.unusedVariables false
set_option linter.unusedSimpArgs false
set_option maxRecDepth 10000
set_option maxHeartbeats 1000000 in
theorem i_IsArith1 (x p i0 i1 : Int) (ga : Option Addr) (gn gc : Nat) (oa : Option Addr) (on oc b : Nat) (w : World) (h0 : 0 ≤ i0 ∧ i0 ≤ 8) (h1 : 0 ≤ i1 ∧ i1 ≤ 8) (hn : gn ≤ 100) (hc : B5 w b (.int .i64 p) (.int .i64 i0) (.int .i64 i1) (.slice ga gn gc) (.slice oa on oc)) :
    Calls Try.prog 133 #[.int .i64 x, .pointer (some ⟨b, 0, none⟩)] w fun e w' => e = .returned (.bool (inB x 0 (i0 + i1 + gn - 1))) ∧ Below w.heap.size w w' := by
  have e0 : IntKind.i64.wrap (i0 + i1 + gn) = i0 + i1 + gn := IntWalk.i64_in _ (by omega)
  have e1 : IntKind.i64.wrap (i0 + i1 + gn - 1) = i0 + i1 + gn - 1 := IntWalk.i64_in _ (by omega)
  have D0 := bel_drew w
  obtain ⟨c0, c1, c2, c3, c4⟩ := hc
  go_enter Try.func133, Try.ntmps133
  go_wp2
  go_region_held3 (fun W => W.cell? ⟨b, 0, none⟩ = some (.int .i64 p) ∧ W.cell? ⟨b, 1, none⟩ = some (.int .i64 i0) ∧ W.cell? ⟨b, 2, none⟩ = some (.int .i64 i1) ∧ W.cell? ⟨b, 3, none⟩ = some (.slice ga gn gc) ∧ W.cell? ⟨b, 4, none⟩ = some (.slice oa on oc)) (exact ⟨c0, c1, c2, c3, c4⟩) (first | (go_at_call 91; refine (i_arInputs _ _ _ _ _ _ _ _ _ _ ⟨by omega, by omega⟩ ⟨by omega, by omega⟩).mono ?_; rintro e w1 ⟨rfl, hb1⟩; have hb2 := bel_trans (bel_drew _) hb1; have c0 := cell_on c0 hb2; have c1 := cell_on c1 hb2; have c2 := cell_on c2 hb2; have c3 := cell_on c3 hb2; have c4 := cell_on c4 hb2) | (go_at_call 64; refine (i_within _ _ _ _).mono ?_; rintro e w2 ⟨rfl, rfl⟩))
  go_wp2
  go_ret
  exact ⟨rfl, hb2⟩
set_option maxHeartbeats 8000000 in
theorem s_arGood (p i0 i1 : Int) (ga : Option Addr) (gn gc : Nat) (gs : List Int) (oa : Option Addr) (on oc : Nat) (os : List Int) (w : World) (h : Circ w ga gn gc gs oa on oc os) :
    Calls Try.prog 93 #[.agg #[.int .i64 p, .int .i64 i0, .int .i64 i1, .slice ga gn gc, .slice oa on oc]] w fun e w' => e = .returned (.bool (arC p i0 i1 gs gn os)) ∧ Below w.heap.size w w' := by
  have hl := h.o.len
  unfold arC
  rw [hl.out]
  have A0 := bel_alloc w (.cells #[.int .i64 p, .int .i64 i0, .int .i64 i1, .slice ga gn gc, .slice oa on oc] 48)
  have g0 := B5.new (w := w) (x0 := .int .i64 p) (x1 := .int .i64 i0) (x2 := .int .i64 i1) (x3 := .slice ga gn gc) (x4 := .slice oa on oc) (t := 48)
  have gk := g0
  obtain ⟨c0, c1, c2, c3, c4⟩ := gk
  have hgs := h.g.small; have hos := h.o.small
  cases hS : arS p i0 i1 gn on with
  | false =>
    unfold arS at hS
    cases hpp : prB p with
    | false =>
      go_enter Try.func93, Try.ntmps93
      go_wp2_with (first | (go_at_call 112; refine (s_fpGood _ _).mono ?_; rintro e w1 ⟨rfl, rfl⟩) | (go_at_call 57; refine (s_l1In _ _ _ _).mono ?_; rintro e w1 ⟨rfl, rfl⟩))
      go_ret
      exact ⟨by first | rfl | simp, A0⟩
    | true =>
     cases ha : inB i0 0 8 with
     | false =>
      go_enter Try.func93, Try.ntmps93
      go_wp2_with (first | (go_at_call 112; refine (s_fpGood _ _).mono ?_; rintro e w1 ⟨rfl, rfl⟩) | (go_at_call 57; refine (s_l1In _ _ _ _).mono ?_; rintro e w1 ⟨rfl, rfl⟩))
      go_ret
      exact ⟨by first | rfl | simp, A0⟩
     | true =>
      cases hb : inB i1 0 8 with
      | false =>
        go_enter Try.func93, Try.ntmps93
        go_wp2_with (first | (go_at_call 112; refine (s_fpGood _ _).mono ?_; rintro e w1 ⟨rfl, rfl⟩) | (go_at_call 57; refine (s_l1In _ _ _ _).mono ?_; rintro e w1 ⟨rfl, rfl⟩))
        go_ret
        exact ⟨by first | rfl | simp, A0⟩
      | true =>
        rw [hpp, ha, hb] at hS
        by_cases hn : gn ≤ 100
        · have hn2 : ¬ on ≤ 20 := by intro q; rw [decide_eq_true hn, decide_eq_true q] at hS; cases hS
          have n1 : ¬ (100 : Int) < (gn : Int) := by omega
          have n2 : (20 : Int) < (on : Int) := by omega
          clear hS
          go_enter Try.func93, Try.ntmps93
          go_wp2_with (first | (go_at_call 112; refine (s_fpGood _ _).mono ?_; rintro e w1 ⟨rfl, rfl⟩) | (go_at_call 57; refine (s_l1In _ _ _ _).mono ?_; rintro e w1 ⟨rfl, rfl⟩))
          go_ret
          exact ⟨by first | rfl | simp, A0⟩
        · have n1 : (100 : Int) < (gn : Int) := by omega
          clear hS
          go_enter Try.func93, Try.ntmps93
          go_wp2_with (first | (go_at_call 112; refine (s_fpGood _ _).mono ?_; rintro e w1 ⟨rfl, rfl⟩) | (go_at_call 57; refine (s_l1In _ _ _ _).mono ?_; rintro e w1 ⟨rfl, rfl⟩))
          go_ret
          exact ⟨by first | rfl | simp, A0⟩
  | true =>
    obtain ⟨hpp, h0, h1, hn, hon⟩ := arS_iff.1 hS
    obtain ⟨hp1, hp2⟩ := prB_lo hpp
    have ha : inB i0 0 8 = true := inB_iff.2 h0
    have hb : inB i1 0 8 = true := inB_iff.2 h1
    obtain ⟨h01, h02⟩ := h0; obtain ⟨h11, h12⟩ := h1
    have n1 : ¬ (100 : Int) < (gn : Int) := by omega
    have n2 : ¬ (20 : Int) < (on : Int) := by omega
    have HS := Lib.hid hS; clear hS
    go_enter Try.func93, Try.ntmps93
    go_wp2_with (first | (go_at_call 112; refine (s_fpGood _ _).mono ?_; rintro e w1 ⟨rfl, rfl⟩) | (go_at_call 57; refine (s_l1In _ _ _ _).mono ?_; rintro e w1 ⟨rfl, rfl⟩))
    go_loopw [36] (fun i W => ∃ k : Nat, k ≤ gn ∧ i = .int .i64 k ∧ Hid (gatesA p (i0 + i1) gs k = true) ∧ Hid (Below w.heap.size w W) ∧ Hid (B5 W w.heap.size (.int .i64 p) (.int .i64 i0) (.int .i64 i1) (.slice ga gn gc) (.slice oa on oc))) (fun i _ => gn - (intOf i).toNat)
    case atStart => exact ⟨0, by omega, rfl, rfl, A0, g0⟩
    case round =>
      clear c0 c1 c2 c3 c4 g0 A0 ha hb hpp
      obtain ⟨k, hk, rfl, HG, HB, HC⟩ := hrel
      obtain ⟨wo, rfl⟩ : ∃ wo : World, wo = wr := ⟨_, rfl⟩
      have hcc := HC.out
      obtain ⟨c0, c1, c2, c3, c4⟩ := hcc
      have hcl := HC.out.lt
      by_cases hlt : k < gn
      · have hlti : (k : Int) < (gn : Int) := by omega
        obtain ⟨gb, go, rfl, gl, g0, g1, g2⟩ := (h.g.below HB.out).at3 hlt
        have HE : Hid (gatesA p (i0 + i1) gs (k + 1) = (gatesA p (i0 + i1) gs k && arB p (fld 3 gs k 0) (fld 3 gs k 1) (fld 3 gs k 2) (i0 + i1 + k))) := rfl
        have HN := Lib.hid (fun q : arB p (fld 3 gs k 0) (fld 3 gs k 1) (fld 3 gs k 2) (i0 + i1 + k) = false => gatesA_no q hlt)
        generalize fld 3 gs k 0 = x at *
        generalize fld 3 gs k 1 = y at *
        generalize fld 3 gs k 2 = z at *
        have e1 : IntKind.i64.wrap (i0 + i1 + k) = i0 + i1 + k := IntWalk.i64_in _ (by omega)
        have A1 := bel_alloc wo (.cells #[.int .i64 x, .int .i64 y, .int .i64 z] 91)
        have b3 := B3.new (w := wo) (x0 := .int .i64 x) (x1 := .int .i64 y) (x2 := .int .i64 z) (t := 91)
        obtain ⟨d0, d1, d2⟩ := b3
        have hcc := HC.out.on A1
        clear c0 c1 c2 c3 c4
        obtain ⟨c0, c1, c2, c3, c4⟩ := hcc
        cases hgb : arB p x y z (i0 + i1 + k) with
        | false =>
          go_wp2
          go_region_held3 (fun W => (W.cell? ⟨w.heap.size, 0, none⟩ = some (.int .i64 p) ∧ W.cell? ⟨w.heap.size, 1, none⟩ = some (.int .i64 i0) ∧ W.cell? ⟨w.heap.size, 2, none⟩ = some (.int .i64 i1) ∧ W.cell? ⟨w.heap.size, 3, none⟩ = some (.slice (some ⟨gb, go, none⟩) gn gc) ∧ W.cell? ⟨w.heap.size, 4, none⟩ = some (.slice oa on oc)) ∧ W.cell? ⟨wo.heap.size, 0, none⟩ = some (.int .i64 x) ∧ W.cell? ⟨wo.heap.size, 1, none⟩ = some (.int .i64 y) ∧ W.cell? ⟨wo.heap.size, 2, none⟩ = some (.int .i64 z)) (exact ⟨⟨c0, c1, c2, c3, c4⟩, d0, d1, d2⟩) (first | (go_at_call 95; refine (s_arInputs _ _ _ _ _ _ _ _ _ _ ⟨by omega, by omega⟩ ⟨by omega, by omega⟩).mono ?_; rintro e w2 ⟨rfl, hb2⟩; have hb3 := bel_trans (bel_drew _) hb2; have c0 := cell_on c0 hb3; have c1 := cell_on c1 hb3; have c2 := cell_on c2 hb3; have c3 := cell_on c3 hb3; have c4 := cell_on c4 hb3; have d0 := cell_on d0 hb3; have d1 := cell_on d1 hb3; have d2 := cell_on d2 hb3) | (go_at_call 135; refine (s_arGate _ _ _ _ _ _ ⟨by omega, by omega⟩ ⟨hp1, hp2⟩).mono ?_; rintro e w4 ⟨rfl, hb4⟩; rw [hgb]; have hb5 := bel_trans hb3 hb4; have c0 := cell_on c0 hb4; have c1 := cell_on c1 hb4; have c2 := cell_on c2 hb4; have c3 := cell_on c3 hb4; have c4 := cell_on c4 hb4; have d0 := cell_on d0 hb4; have d1 := cell_on d1 hb4; have d2 := cell_on d2 hb4))
          go_wp2
          go_ret
          exact ⟨by rw [HN.out hgb]; rfl, bel_trans (bel_trans HB.out A1) hb5⟩
        | true =>
          go_wp2
          go_region_held3 (fun W => (W.cell? ⟨w.heap.size, 0, none⟩ = some (.int .i64 p) ∧ W.cell? ⟨w.heap.size, 1, none⟩ = some (.int .i64 i0) ∧ W.cell? ⟨w.heap.size, 2, none⟩ = some (.int .i64 i1) ∧ W.cell? ⟨w.heap.size, 3, none⟩ = some (.slice (some ⟨gb, go, none⟩) gn gc) ∧ W.cell? ⟨w.heap.size, 4, none⟩ = some (.slice oa on oc)) ∧ W.cell? ⟨wo.heap.size, 0, none⟩ = some (.int .i64 x) ∧ W.cell? ⟨wo.heap.size, 1, none⟩ = some (.int .i64 y) ∧ W.cell? ⟨wo.heap.size, 2, none⟩ = some (.int .i64 z)) (exact ⟨⟨c0, c1, c2, c3, c4⟩, d0, d1, d2⟩) (first | (go_at_call 95; refine (s_arInputs _ _ _ _ _ _ _ _ _ _ ⟨by omega, by omega⟩ ⟨by omega, by omega⟩).mono ?_; rintro e w2 ⟨rfl, hb2⟩; have hb3 := bel_trans (bel_drew _) hb2; have c0 := cell_on c0 hb3; have c1 := cell_on c1 hb3; have c2 := cell_on c2 hb3; have c3 := cell_on c3 hb3; have c4 := cell_on c4 hb3; have d0 := cell_on d0 hb3; have d1 := cell_on d1 hb3; have d2 := cell_on d2 hb3) | (go_at_call 135; refine (s_arGate _ _ _ _ _ _ ⟨by omega, by omega⟩ ⟨hp1, hp2⟩).mono ?_; rintro e w4 ⟨rfl, hb4⟩; rw [hgb]; have hb5 := bel_trans hb3 hb4; have c0 := cell_on c0 hb4; have c1 := cell_on c1 hb4; have c2 := cell_on c2 hb4; have c3 := cell_on c3 hb4; have c4 := cell_on c4 hb4; have d0 := cell_on d0 hb4; have d1 := cell_on d1 hb4; have d2 := cell_on d2 hb4))
          go_wp2
          go_roundw
          case rel => exact ⟨k + 1, by omega, by go_num, (show Hid _ from by show _ = _; rw [HE.out, HG.out, hgb]; rfl), (show Hid _ from bel_trans (bel_trans HB.out A1) hb5), (show Hid _ from ⟨c0, c1, c2, c3, c4⟩)⟩
          case measure => simp [intOf]; omega
      · obtain rfl : k = gn := by omega
        have hlti : ¬ (k : Int) < (k : Int) := by omega
        have e1 : IntKind.i64.wrap (i0 + i1 + k - 1) = i0 + i1 + k - 1 := IntWalk.i64_in _ (by omega)
        have ho := h.o.below HB.out
        go_wp2
        go_region_held3 (fun W => (W.cell? ⟨w.heap.size, 0, none⟩ = some (.int .i64 p) ∧ W.cell? ⟨w.heap.size, 1, none⟩ = some (.int .i64 i0) ∧ W.cell? ⟨w.heap.size, 2, none⟩ = some (.int .i64 i1) ∧ W.cell? ⟨w.heap.size, 3, none⟩ = some (.slice ga k gc) ∧ W.cell? ⟨w.heap.size, 4, none⟩ = some (.slice oa on oc))) (exact ⟨c0, c1, c2, c3, c4⟩) (first | (go_at_call 131; refine (s_arWires _ _ _ _ _ _ _ _ _ _ ⟨by omega, by omega⟩ ⟨by omega, by omega⟩ (by omega)).mono ?_; rintro e w2 ⟨rfl, hb2⟩; have hb3 := bel_trans (bel_drew _) hb2; have c0 := cell_on c0 hb3; have c1 := cell_on c1 hb3; have c2 := cell_on c2 hb3; have c3 := cell_on c3 hb3; have c4 := cell_on c4 hb3) | (go_at_call 70; refine (s_l1All _ _ _ os _ _ _ (ho.below hb3)).mono ?_; rintro e w4 ⟨rfl, rfl⟩))
        go_wp2
        go_ret
        exact ⟨by rw [HG.out]; first | rfl | simp, bel_trans HB.out hb3⟩
set_option maxHeartbeats 8000000 in
theorem i_IsArith (p i0 i1 : Int) (ga : Option Addr) (gn gc : Nat) (gs : List Int) (oa : Option Addr) (on oc : Nat) (os : List Int) (w : World) (h : Circ w ga gn gc gs oa on oc os) :
    Calls Try.prog 89 #[.agg #[.int .i64 p, .int .i64 i0, .int .i64 i1, .slice ga gn gc, .slice oa on oc]] w fun e w' => e = .returned (.bool (arC p i0 i1 gs gn os)) ∧ Below w.heap.size w w' := by
  have hl := h.o.len
  unfold arC
  rw [hl.out]
  have A0 := bel_alloc w (.cells #[.int .i64 p, .int .i64 i0, .int .i64 i1, .slice ga gn gc, .slice oa on oc] 48)
  have g0 := B5.new (w := w) (x0 := .int .i64 p) (x1 := .int .i64 i0) (x2 := .int .i64 i1) (x3 := .slice ga gn gc) (x4 := .slice oa on oc) (t := 48)
  have gk := g0
  obtain ⟨c0, c1, c2, c3, c4⟩ := gk
  have hgs := h.g.small; have hos := h.o.small
  cases hS : arS p i0 i1 gn on with
  | false =>
    unfold arS at hS
    cases hpp : prB p with
    | false =>
      go_enter Try.func89, Try.ntmps89
      go_wp2_with (first | (go_at_call 114; refine (i_IsPrime _ _).mono ?_; rintro e w1 ⟨rfl, rfl⟩) | (go_at_call 64; refine (i_within _ _ _ _).mono ?_; rintro e w1 ⟨rfl, rfl⟩))
      go_ret
      exact ⟨by first | rfl | simp, A0⟩
    | true =>
     cases ha : inB i0 0 8 with
     | false =>
      go_enter Try.func89, Try.ntmps89
      go_wp2_with (first | (go_at_call 114; refine (i_IsPrime _ _).mono ?_; rintro e w1 ⟨rfl, rfl⟩) | (go_at_call 64; refine (i_within _ _ _ _).mono ?_; rintro e w1 ⟨rfl, rfl⟩))
      go_ret
      exact ⟨by first | rfl | simp, A0⟩
     | true =>
      cases hb : inB i1 0 8 with
      | false =>
        go_enter Try.func89, Try.ntmps89
        go_wp2_with (first | (go_at_call 114; refine (i_IsPrime _ _).mono ?_; rintro e w1 ⟨rfl, rfl⟩) | (go_at_call 64; refine (i_within _ _ _ _).mono ?_; rintro e w1 ⟨rfl, rfl⟩))
        go_ret
        exact ⟨by first | rfl | simp, A0⟩
      | true =>
        rw [hpp, ha, hb] at hS
        by_cases hn : gn ≤ 100
        · have hn2 : ¬ on ≤ 20 := by intro q; rw [decide_eq_true hn, decide_eq_true q] at hS; cases hS
          have n1 : ¬ (100 : Int) < (gn : Int) := by omega
          have n2 : (20 : Int) < (on : Int) := by omega
          clear hS
          go_enter Try.func89, Try.ntmps89
          go_wp2_with (first | (go_at_call 114; refine (i_IsPrime _ _).mono ?_; rintro e w1 ⟨rfl, rfl⟩) | (go_at_call 64; refine (i_within _ _ _ _).mono ?_; rintro e w1 ⟨rfl, rfl⟩))
          go_ret
          exact ⟨by first | rfl | simp, A0⟩
        · have n1 : (100 : Int) < (gn : Int) := by omega
          clear hS
          go_enter Try.func89, Try.ntmps89
          go_wp2_with (first | (go_at_call 114; refine (i_IsPrime _ _).mono ?_; rintro e w1 ⟨rfl, rfl⟩) | (go_at_call 64; refine (i_within _ _ _ _).mono ?_; rintro e w1 ⟨rfl, rfl⟩))
          go_ret
          exact ⟨by first | rfl | simp, A0⟩
  | true =>
    obtain ⟨hpp, h0, h1, hn, hon⟩ := arS_iff.1 hS
    obtain ⟨hp1, hp2⟩ := prB_lo hpp
    have ha : inB i0 0 8 = true := inB_iff.2 h0
    have hb : inB i1 0 8 = true := inB_iff.2 h1
    obtain ⟨h01, h02⟩ := h0; obtain ⟨h11, h12⟩ := h1
    have n1 : ¬ (100 : Int) < (gn : Int) := by omega
    have n2 : ¬ (20 : Int) < (on : Int) := by omega
    have HS := Lib.hid hS; clear hS
    go_enter Try.func89, Try.ntmps89
    go_wp2_with (first | (go_at_call 114; refine (i_IsPrime _ _).mono ?_; rintro e w1 ⟨rfl, rfl⟩) | (go_at_call 64; refine (i_within _ _ _ _).mono ?_; rintro e w1 ⟨rfl, rfl⟩))
    go_loopw [36] (fun i W => ∃ k : Nat, k ≤ gn ∧ i = .int .i64 k ∧ Hid (gatesA p (i0 + i1) gs k = true) ∧ Hid (Below w.heap.size w W) ∧ Hid (B5 W w.heap.size (.int .i64 p) (.int .i64 i0) (.int .i64 i1) (.slice ga gn gc) (.slice oa on oc))) (fun i _ => gn - (intOf i).toNat)
    case atStart => exact ⟨0, by omega, rfl, rfl, A0, g0⟩
    case round =>
      clear c0 c1 c2 c3 c4 g0 A0 ha hb hpp
      obtain ⟨k, hk, rfl, HG, HB, HC⟩ := hrel
      obtain ⟨wo, rfl⟩ : ∃ wo : World, wo = wr := ⟨_, rfl⟩
      have hcc := HC.out
      obtain ⟨c0, c1, c2, c3, c4⟩ := hcc
      have hcl := HC.out.lt
      by_cases hlt : k < gn
      · have hlti : (k : Int) < (gn : Int) := by omega
        obtain ⟨gb, go, rfl, gl, g0, g1, g2⟩ := (h.g.below HB.out).at3 hlt
        have HE : Hid (gatesA p (i0 + i1) gs (k + 1) = (gatesA p (i0 + i1) gs k && arB p (fld 3 gs k 0) (fld 3 gs k 1) (fld 3 gs k 2) (i0 + i1 + k))) := rfl
        have HN := Lib.hid (fun q : arB p (fld 3 gs k 0) (fld 3 gs k 1) (fld 3 gs k 2) (i0 + i1 + k) = false => gatesA_no q hlt)
        generalize fld 3 gs k 0 = x at *
        generalize fld 3 gs k 1 = y at *
        generalize fld 3 gs k 2 = z at *
        have e1 : IntKind.i64.wrap (i0 + i1 + k) = i0 + i1 + k := IntWalk.i64_in _ (by omega)
        have A1 := bel_alloc wo (.cells #[.int .i64 x, .int .i64 y, .int .i64 z] 91)
        have b3 := B3.new (w := wo) (x0 := .int .i64 x) (x1 := .int .i64 y) (x2 := .int .i64 z) (t := 91)
        obtain ⟨d0, d1, d2⟩ := b3
        have hcc := HC.out.on A1
        clear c0 c1 c2 c3 c4
        obtain ⟨c0, c1, c2, c3, c4⟩ := hcc
        cases hgb : arB p x y z (i0 + i1 + k) with
        | false =>
          go_wp2
          go_region_held3 (fun W => (W.cell? ⟨w.heap.size, 0, none⟩ = some (.int .i64 p) ∧ W.cell? ⟨w.heap.size, 1, none⟩ = some (.int .i64 i0) ∧ W.cell? ⟨w.heap.size, 2, none⟩ = some (.int .i64 i1) ∧ W.cell? ⟨w.heap.size, 3, none⟩ = some (.slice (some ⟨gb, go, none⟩) gn gc) ∧ W.cell? ⟨w.heap.size, 4, none⟩ = some (.slice oa on oc)) ∧ W.cell? ⟨wo.heap.size, 0, none⟩ = some (.int .i64 x) ∧ W.cell? ⟨wo.heap.size, 1, none⟩ = some (.int .i64 y) ∧ W.cell? ⟨wo.heap.size, 2, none⟩ = some (.int .i64 z)) (exact ⟨⟨c0, c1, c2, c3, c4⟩, d0, d1, d2⟩) (first | (go_at_call 91; refine (i_arInputs _ _ _ _ _ _ _ _ _ _ ⟨by omega, by omega⟩ ⟨by omega, by omega⟩).mono ?_; rintro e w2 ⟨rfl, hb2⟩; have hb3 := bel_trans (bel_drew _) hb2; have c0 := cell_on c0 hb3; have c1 := cell_on c1 hb3; have c2 := cell_on c2 hb3; have c3 := cell_on c3 hb3; have c4 := cell_on c4 hb3; have d0 := cell_on d0 hb3; have d1 := cell_on d1 hb3; have d2 := cell_on d2 hb3) | (go_at_call 132; refine (i_arGate _ _ _ _ _ _ ⟨by omega, by omega⟩ ⟨hp1, hp2⟩).mono ?_; rintro e w4 ⟨rfl, hb4⟩; rw [hgb]; have hb5 := bel_trans hb3 hb4; have c0 := cell_on c0 hb4; have c1 := cell_on c1 hb4; have c2 := cell_on c2 hb4; have c3 := cell_on c3 hb4; have c4 := cell_on c4 hb4; have d0 := cell_on d0 hb4; have d1 := cell_on d1 hb4; have d2 := cell_on d2 hb4))
          go_wp2
          go_ret
          exact ⟨by rw [HN.out hgb]; rfl, bel_trans (bel_trans HB.out A1) hb5⟩
        | true =>
          go_wp2
          go_region_held3 (fun W => (W.cell? ⟨w.heap.size, 0, none⟩ = some (.int .i64 p) ∧ W.cell? ⟨w.heap.size, 1, none⟩ = some (.int .i64 i0) ∧ W.cell? ⟨w.heap.size, 2, none⟩ = some (.int .i64 i1) ∧ W.cell? ⟨w.heap.size, 3, none⟩ = some (.slice (some ⟨gb, go, none⟩) gn gc) ∧ W.cell? ⟨w.heap.size, 4, none⟩ = some (.slice oa on oc)) ∧ W.cell? ⟨wo.heap.size, 0, none⟩ = some (.int .i64 x) ∧ W.cell? ⟨wo.heap.size, 1, none⟩ = some (.int .i64 y) ∧ W.cell? ⟨wo.heap.size, 2, none⟩ = some (.int .i64 z)) (exact ⟨⟨c0, c1, c2, c3, c4⟩, d0, d1, d2⟩) (first | (go_at_call 91; refine (i_arInputs _ _ _ _ _ _ _ _ _ _ ⟨by omega, by omega⟩ ⟨by omega, by omega⟩).mono ?_; rintro e w2 ⟨rfl, hb2⟩; have hb3 := bel_trans (bel_drew _) hb2; have c0 := cell_on c0 hb3; have c1 := cell_on c1 hb3; have c2 := cell_on c2 hb3; have c3 := cell_on c3 hb3; have c4 := cell_on c4 hb3; have d0 := cell_on d0 hb3; have d1 := cell_on d1 hb3; have d2 := cell_on d2 hb3) | (go_at_call 132; refine (i_arGate _ _ _ _ _ _ ⟨by omega, by omega⟩ ⟨hp1, hp2⟩).mono ?_; rintro e w4 ⟨rfl, hb4⟩; rw [hgb]; have hb5 := bel_trans hb3 hb4; have c0 := cell_on c0 hb4; have c1 := cell_on c1 hb4; have c2 := cell_on c2 hb4; have c3 := cell_on c3 hb4; have c4 := cell_on c4 hb4; have d0 := cell_on d0 hb4; have d1 := cell_on d1 hb4; have d2 := cell_on d2 hb4))
          go_wp2
          go_roundw
          case rel => exact ⟨k + 1, by omega, by go_num, (show Hid _ from by show _ = _; rw [HE.out, HG.out, hgb]; rfl), (show Hid _ from bel_trans (bel_trans HB.out A1) hb5), (show Hid _ from ⟨c0, c1, c2, c3, c4⟩)⟩
          case measure => simp [intOf]; omega
      · obtain rfl : k = gn := by omega
        have hlti : ¬ (k : Int) < (k : Int) := by omega
        have e1 : IntKind.i64.wrap (i0 + i1 + k - 1) = i0 + i1 + k - 1 := IntWalk.i64_in _ (by omega)
        have ho := h.o.below HB.out
        have eA : ∀ args w, (callFunc 133 args).run Try.prog w = .ok (.enter 133 args) w := enters_of Try.func133 (by kernel_rfl) rfl
        have hg := i_areAllB oa on oc os (fun x => inB x 0 (i0 + i1 + k - 1)) 133 #[.pointer (some ⟨w.heap.size, 0, none⟩)] eA wo ho (fun W x hW hx => i_IsArith1 x p i0 i1 ga k gc oa on oc w.heap.size W ⟨h01, h02⟩ ⟨h11, h12⟩ hn (HC.out.on hW))
        have HGG := Lib.hid hg; clear hg
        go_wp2_with (go_at_call 115; refine HGG.out.mono ?_; rintro e w2 ⟨rfl, hb2⟩)
        go_ret
        exact ⟨by rw [HG.out]; first | rfl | (unfold allIn; rfl) | simp [allIn], bel_trans HB.out hb2⟩
end Go.Proofs.Ytfichpppjpgahaa
