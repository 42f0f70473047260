/-
  Contracts: valid circuits, both sides.
-/
import Derived.Test.YtfejpmfcognikaaC3
namespace Go.Proofs.Ytfejpmfcognikaa
open Go.RowKit
set_option linter.unusedVariables false
set_option linter.unusedSimpArgs false

set_option maxHeartbeats 1000000 in
/-- areAll with a predicate that may make memory. -/
theorem i_areAllB (a : Option Addr) (n cap : Nat) (xs : List Int) (p : Int → Bool) (g : Nat) (lb : Array Value) (eg : ∀ args w, (callFunc g args).run Try.prog w = .ok (.enter g args) w) (w : World) (h : Ints w a n cap xs)
    (hp : Hid (∀ (W : World) (x : Int), Below w.heap.size w W → Fits x → Calls Try.prog g (#[.int .i64 x] ++ lb) W fun e w' => e = .returned (.bool (p x)) ∧ Below W.heap.size W w')) :
    Calls Try.prog 109 #[.slice a n cap, .func (.func g) #[] lb] w fun e w' => e = .returned (.bool (xs.all p)) ∧ Below w.heap.size w w' := by
  have eA : ∀ args w, (callFunc 130 args).run Try.prog w = .ok (.enter 130 args) w := enters_of Try.func130 (by kernel_rfl) rfl
  have hg := g_ContainsFunc a n cap xs (fun x => !p x) 130 #[.pointer (some ⟨w.heap.size, 0, none⟩)] eA (w.alloc (.cells #[.func (.func g) #[] lb] 71)) (h.alloc _) (fun W x hW hx => by
    have hc : W.cell? ⟨w.heap.size, 0, none⟩ = some (.func (.func g) #[] lb) := by
      rw [hW.cell (p := ⟨w.heap.size, 0, none⟩) (by simp)]
      exact World.cell?_alloc_at _ _ _ _ rfl
    refine (i_areAll1 x w.heap.size (p x) g lb eg W hc (fun w' => Below W.heap.size W w') (hp.out W x (((Below.refl _ _).alloc (Nat.le_refl _) _).trans (hW.mono (by simp))) hx)).mono fun e w' ⟨he, hw⟩ => ⟨he, bel_trans hW hw⟩)
  have HG := Lib.hid hg; clear hg
  have hall : (!xs.any fun x => !p x) = xs.all p := by simp [List.all_eq_not_any_not]
  clear hp eg
  go_enter Try.func109, Try.ntmps109
  go_wp2_with (go_at_call 129; refine HG.out.mono ?_; rintro e w' ⟨rfl, hb'⟩)
  go_ret
  exact ⟨by first | rfl | exact ret_bool hall, ((Below.refl _ _).alloc (Nat.le_refl _) _).trans (hb'.mono (by simp))⟩
set_option maxHeartbeats 1000000 in
theorem i_IsCircuit1 (x i0 i1 : Int) (ga : Option Addr) (gn gc : Nat) (oa : Option Addr) (on oc b : Nat) (w : World) (h0 : 0 ≤ i0 ∧ i0 ≤ 20) (h1 : 0 ≤ i1 ∧ i1 ≤ 20) (hn : gn ≤ 300) (hc : B4 w b (.int .i64 i0) (.int .i64 i1) (.slice ga gn gc) (.slice oa on oc)) :
    Calls Try.prog 114 #[.int .i64 x, .pointer (some ⟨b, 0, none⟩)] w fun e w' => e = .returned (.bool (inB x 0 (i0 + i1 + gn - 1))) ∧ Below w.heap.size w w' := by
  have e1 : IntKind.i64.wrap (i0 + i1 + gn - 1) = i0 + i1 + gn - 1 := IntWalk.i64_in _ (by omega)
  obtain ⟨c0, c1, c2, c3⟩ := hc
  go_enter Try.func114, Try.ntmps114
  go_wp2_with (first | (go_at_call 115; refine (i_wires _ _ _ _ _ _ _ _ _ h0 h1 hn).mono ?_; rintro e w1 ⟨rfl, hb1⟩) | (go_at_call 49; refine (i_within _ _ _ _).mono ?_; rintro e w2 ⟨rfl, rfl⟩))
  go_ret
  exact ⟨rfl, hb1⟩

set_option maxHeartbeats 8000000 in
theorem s_ciGood (i0 i1 : Int) (ga : Option Addr) (gn gc : Nat) (gs : List Int) (oa : Option Addr) (on oc : Nat) (os : List Int) (w : World) (h : Circ w ga gn gc gs oa on oc os) :
    Calls Try.prog 103 #[.agg #[.int .i64 i0, .int .i64 i1, .slice ga gn gc, .slice oa on oc]] w fun e w' => e = .returned (.bool (circB i0 i1 gs gn os)) ∧ Below w.heap.size w w' := by
  have hl := h.o.len
  unfold circB
  rw [hl.out]
  have A0 := bel_alloc w (.cells #[.int .i64 i0, .int .i64 i1, .slice ga gn gc, .slice oa on oc] 25)
  have g0 := B4.new (w := w) (x0 := .int .i64 i0) (x1 := .int .i64 i1) (x2 := .slice ga gn gc) (x3 := .slice oa on oc) (t := 25)
  have gk := g0
  obtain ⟨c0, c1, c2, c3⟩ := gk
  have hgs := h.g.small; have hos := h.o.small
  cases hS : circS i0 i1 gn on with
  | false =>
    unfold circS at hS
    cases ha : inB i0 0 20 with
    | false =>
      go_enter Try.func103, Try.ntmps103
      go_wp2_with (go_at_call 87; refine (s_l1In _ _ _ _).mono ?_; rintro e w1 ⟨rfl, rfl⟩)
      go_ret
      exact ⟨by first | rfl | simp, A0⟩
    | true =>
      cases hb : inB i1 0 20 with
      | false =>
        go_enter Try.func103, Try.ntmps103
        go_wp2_with (go_at_call 87; refine (s_l1In _ _ _ _).mono ?_; rintro e w1 ⟨rfl, rfl⟩)
        go_ret
        exact ⟨by first | rfl | simp, A0⟩
      | true =>
        rw [ha, hb] at hS
        by_cases hn : gn ≤ 300
        · have hn2 : ¬ on ≤ 40 := by intro q; rw [decide_eq_true hn, decide_eq_true q] at hS; cases hS
          have n1 : ¬ (300 : Int) < (gn : Int) := by omega
          have n2 : (40 : Int) < (on : Int) := by omega
          clear hS
          go_enter Try.func103, Try.ntmps103
          go_wp2_with (go_at_call 87; refine (s_l1In _ _ _ _).mono ?_; rintro e w1 ⟨rfl, rfl⟩)
          go_ret
          exact ⟨by first | rfl | simp, A0⟩
        · have n1 : (300 : Int) < (gn : Int) := by omega
          clear hS
          go_enter Try.func103, Try.ntmps103
          go_wp2_with (go_at_call 87; refine (s_l1In _ _ _ _).mono ?_; rintro e w1 ⟨rfl, rfl⟩)
          go_ret
          exact ⟨by first | rfl | simp, A0⟩
  | true =>
    obtain ⟨h0, h1, hn, hon⟩ := circS_iff.1 hS
    have ha : inB i0 0 20 = true := inB_iff.2 h0
    have hb : inB i1 0 20 = true := inB_iff.2 h1
    obtain ⟨h01, h02⟩ := h0; obtain ⟨h11, h12⟩ := h1
    have n1 : ¬ (300 : Int) < (gn : Int) := by omega
    have n2 : ¬ (40 : Int) < (on : Int) := by omega
    have HS := Lib.hid hS; clear hS
    go_enter Try.func103, Try.ntmps103
    go_wp2_with (go_at_call 87; refine (s_l1In _ _ _ _).mono ?_; rintro e w1 ⟨rfl, rfl⟩)
    go_loopw [30] (fun i W => ∃ k : Nat, k ≤ gn ∧ i = .int .i64 k ∧ Hid (gatesB (i0 + i1) gs k = true) ∧ Hid (Below w.heap.size w W) ∧ Hid (B4 W w.heap.size (.int .i64 i0) (.int .i64 i1) (.slice ga gn gc) (.slice oa on oc))) (fun i _ => gn - (intOf i).toNat)
    case atStart => exact ⟨0, by omega, rfl, rfl, A0, g0⟩
    case round =>
      clear c0 c1 c2 c3 g0 A0 ha hb
      obtain ⟨k, hk, rfl, HG, HB, HC⟩ := hrel
      obtain ⟨wo, rfl⟩ : ∃ wo : World, wo = wr := ⟨_, rfl⟩
      have hcc := HC.out
      obtain ⟨c0, c1, c2, c3⟩ := hcc
      have hcl := HC.out.lt
      by_cases hlt : k < gn
      · have hlti : (k : Int) < (gn : Int) := by omega
        obtain ⟨gb, go, rfl, gl, g0, g1, g2⟩ := (h.g.below HB.out).at3 hlt
        have HE : Hid (gatesB (i0 + i1) gs (k + 1) = (gatesB (i0 + i1) gs k && gateB (fld 3 gs k 0) (fld 3 gs k 1) (fld 3 gs k 2) (i0 + i1 + k))) := rfl
        have HN := Lib.hid (fun q : gateB (fld 3 gs k 0) (fld 3 gs k 1) (fld 3 gs k 2) (i0 + i1 + k) = false => gatesB_no q hlt)
        generalize fld 3 gs k 0 = x at *
        generalize fld 3 gs k 1 = y at *
        generalize fld 3 gs k 2 = z at *
        have e1 : IntKind.i64.wrap (i0 + i1 + k) = i0 + i1 + k := IntWalk.i64_in _ (by omega)
        have A1 := bel_alloc wo (.cells #[.int .i64 x, .int .i64 y, .int .i64 z] 111)
        have b3 := B3.new (w := wo) (x0 := .int .i64 x) (x1 := .int .i64 y) (x2 := .int .i64 z) (t := 111)
        obtain ⟨d0, d1, d2⟩ := b3
        have hcc := HC.out.on A1
        clear c0 c1 c2 c3
        obtain ⟨c0, c1, c2, c3⟩ := hcc
        cases hgb : gateB x y z (i0 + i1 + k) with
        | false =>
          go_wp2
          go_region_held3 (fun W => (W.cell? ⟨w.heap.size, 0, none⟩ = some (.int .i64 i0) ∧ W.cell? ⟨w.heap.size, 1, none⟩ = some (.int .i64 i1) ∧ W.cell? ⟨w.heap.size, 2, none⟩ = some (.slice (some ⟨gb, go, none⟩) gn gc) ∧ W.cell? ⟨w.heap.size, 3, none⟩ = some (.slice oa on oc)) ∧ W.cell? ⟨wo.heap.size, 0, none⟩ = some (.int .i64 x) ∧ W.cell? ⟨wo.heap.size, 1, none⟩ = some (.int .i64 y) ∧ W.cell? ⟨wo.heap.size, 2, none⟩ = some (.int .i64 z)) (exact ⟨⟨c0, c1, c2, c3⟩, d0, d1, d2⟩) (first | (go_at_call 127; refine (s_ciInputs _ _ _ _ _ _ _ _ _ ⟨h01, h02⟩ ⟨h11, h12⟩).mono ?_; rintro e w2 ⟨rfl, hb2⟩; have hb3 := bel_trans (bel_drew _) hb2; have c0 := cell_on c0 hb3; have c1 := cell_on c1 hb3; have c2 := cell_on c2 hb3; have c3 := cell_on c3 hb3; have d0 := cell_on d0 hb3; have d1 := cell_on d1 hb3; have d2 := cell_on d2 hb3) | (go_at_call 126; refine (s_ciGate _ _ _ _ _ ⟨by omega, by omega⟩).mono ?_; rintro e w4 ⟨rfl, hb4⟩; rw [hgb]; have hb5 := bel_trans hb3 hb4; have c0 := cell_on c0 hb4; have c1 := cell_on c1 hb4; have c2 := cell_on c2 hb4; have c3 := cell_on c3 hb4; have d0 := cell_on d0 hb4; have d1 := cell_on d1 hb4; have d2 := cell_on d2 hb4))
          go_wp2
          go_ret
          exact ⟨by rw [HN.out hgb]; rfl, bel_trans (bel_trans HB.out A1) hb5⟩
        | true =>
          go_wp2
          go_region_held3 (fun W => (W.cell? ⟨w.heap.size, 0, none⟩ = some (.int .i64 i0) ∧ W.cell? ⟨w.heap.size, 1, none⟩ = some (.int .i64 i1) ∧ W.cell? ⟨w.heap.size, 2, none⟩ = some (.slice (some ⟨gb, go, none⟩) gn gc) ∧ W.cell? ⟨w.heap.size, 3, none⟩ = some (.slice oa on oc)) ∧ W.cell? ⟨wo.heap.size, 0, none⟩ = some (.int .i64 x) ∧ W.cell? ⟨wo.heap.size, 1, none⟩ = some (.int .i64 y) ∧ W.cell? ⟨wo.heap.size, 2, none⟩ = some (.int .i64 z)) (exact ⟨⟨c0, c1, c2, c3⟩, d0, d1, d2⟩) (first | (go_at_call 127; refine (s_ciInputs _ _ _ _ _ _ _ _ _ ⟨h01, h02⟩ ⟨h11, h12⟩).mono ?_; rintro e w2 ⟨rfl, hb2⟩; have hb3 := bel_trans (bel_drew _) hb2; have c0 := cell_on c0 hb3; have c1 := cell_on c1 hb3; have c2 := cell_on c2 hb3; have c3 := cell_on c3 hb3; have d0 := cell_on d0 hb3; have d1 := cell_on d1 hb3; have d2 := cell_on d2 hb3) | (go_at_call 126; refine (s_ciGate _ _ _ _ _ ⟨by omega, by omega⟩).mono ?_; rintro e w4 ⟨rfl, hb4⟩; rw [hgb]; have hb5 := bel_trans hb3 hb4; have c0 := cell_on c0 hb4; have c1 := cell_on c1 hb4; have c2 := cell_on c2 hb4; have c3 := cell_on c3 hb4; have d0 := cell_on d0 hb4; have d1 := cell_on d1 hb4; have d2 := cell_on d2 hb4))
          go_wp2
          go_roundw
          case rel => exact ⟨k + 1, by omega, by go_num, (show Hid _ from by show _ = _; rw [HE.out, HG.out, hgb]; rfl), (show Hid _ from bel_trans (bel_trans HB.out A1) hb5), (show Hid _ from ⟨c0, c1, c2, c3⟩)⟩
          case measure => simp [intOf]; omega
      · obtain rfl : k = gn := by omega
        have hlti : ¬ (k : Int) < (k : Int) := by omega
        have e1 : IntKind.i64.wrap (i0 + i1 + k - 1) = i0 + i1 + k - 1 := IntWalk.i64_in _ (by omega)
        have ho := h.o.below HB.out
        go_wp2
        go_region_held3 (fun W => W.cell? ⟨w.heap.size, 0, none⟩ = some (.int .i64 i0) ∧ W.cell? ⟨w.heap.size, 1, none⟩ = some (.int .i64 i1) ∧ W.cell? ⟨w.heap.size, 2, none⟩ = some (.slice ga k gc) ∧ W.cell? ⟨w.heap.size, 3, none⟩ = some (.slice oa on oc)) (exact ⟨c0, c1, c2, c3⟩) (first | (go_at_call 128; refine (s_ciWires _ _ _ _ _ _ _ _ _ ⟨h01, h02⟩ ⟨h11, h12⟩ hn).mono ?_; rintro e w2 ⟨rfl, hb2⟩; have hb3 := bel_trans (bel_drew _) hb2; have c0 := cell_on c0 hb3; have c1 := cell_on c1 hb3; have c2 := cell_on c2 hb3; have c3 := cell_on c3 hb3) | (go_at_call 124; refine (s_l1All _ _ _ os _ _ _ (ho.below hb3)).mono ?_; rintro e w4 ⟨rfl, rfl⟩))
        go_wp2
        go_ret
        exact ⟨by rw [HG.out]; first | rfl | simp, bel_trans HB.out hb3⟩

set_option maxHeartbeats 8000000 in
theorem i_IsCircuit (i0 i1 : Int) (ga : Option Addr) (gn gc : Nat) (gs : List Int) (oa : Option Addr) (on oc : Nat) (os : List Int) (w : World) (h : Circ w ga gn gc gs oa on oc os) :
    Calls Try.prog 68 #[.agg #[.int .i64 i0, .int .i64 i1, .slice ga gn gc, .slice oa on oc]] w fun e w' => e = .returned (.bool (circB i0 i1 gs gn os)) ∧ Below w.heap.size w w' := by
  have hl := h.o.len
  unfold circB
  rw [hl.out]
  have A0 := bel_alloc w (.cells #[.int .i64 i0, .int .i64 i1, .slice ga gn gc, .slice oa on oc] 25)
  have g0 := B4.new (w := w) (x0 := .int .i64 i0) (x1 := .int .i64 i1) (x2 := .slice ga gn gc) (x3 := .slice oa on oc) (t := 25)
  have gk := g0
  obtain ⟨c0, c1, c2, c3⟩ := gk
  have hgs := h.g.small; have hos := h.o.small
  cases hS : circS i0 i1 gn on with
  | false =>
    unfold circS at hS
    cases ha : inB i0 0 20 with
    | false =>
      go_enter Try.func68, Try.ntmps68
      go_wp2_with (go_at_call 49; refine (i_within _ _ _ _).mono ?_; rintro e w1 ⟨rfl, rfl⟩)
      go_ret
      exact ⟨by first | rfl | simp, A0⟩
    | true =>
      cases hb : inB i1 0 20 with
      | false =>
        go_enter Try.func68, Try.ntmps68
        go_wp2_with (go_at_call 49; refine (i_within _ _ _ _).mono ?_; rintro e w1 ⟨rfl, rfl⟩)
        go_ret
        exact ⟨by first | rfl | simp, A0⟩
      | true =>
        rw [ha, hb] at hS
        by_cases hn : gn ≤ 300
        · have hn2 : ¬ on ≤ 40 := by intro q; rw [decide_eq_true hn, decide_eq_true q] at hS; cases hS
          have n1 : ¬ (300 : Int) < (gn : Int) := by omega
          have n2 : (40 : Int) < (on : Int) := by omega
          clear hS
          go_enter Try.func68, Try.ntmps68
          go_wp2_with (go_at_call 49; refine (i_within _ _ _ _).mono ?_; rintro e w1 ⟨rfl, rfl⟩)
          go_ret
          exact ⟨by first | rfl | simp, A0⟩
        · have n1 : (300 : Int) < (gn : Int) := by omega
          clear hS
          go_enter Try.func68, Try.ntmps68
          go_wp2_with (go_at_call 49; refine (i_within _ _ _ _).mono ?_; rintro e w1 ⟨rfl, rfl⟩)
          go_ret
          exact ⟨by first | rfl | simp, A0⟩
  | true =>
    obtain ⟨h0, h1, hn, hon⟩ := circS_iff.1 hS
    have ha : inB i0 0 20 = true := inB_iff.2 h0
    have hb : inB i1 0 20 = true := inB_iff.2 h1
    obtain ⟨h01, h02⟩ := h0; obtain ⟨h11, h12⟩ := h1
    have n1 : ¬ (300 : Int) < (gn : Int) := by omega
    have n2 : ¬ (40 : Int) < (on : Int) := by omega
    have HS := Lib.hid hS; clear hS
    go_enter Try.func68, Try.ntmps68
    go_wp2_with (go_at_call 49; refine (i_within _ _ _ _).mono ?_; rintro e w1 ⟨rfl, rfl⟩)
    go_loopw [30] (fun i W => ∃ k : Nat, k ≤ gn ∧ i = .int .i64 k ∧ Hid (gatesB (i0 + i1) gs k = true) ∧ Hid (Below w.heap.size w W) ∧ Hid (B4 W w.heap.size (.int .i64 i0) (.int .i64 i1) (.slice ga gn gc) (.slice oa on oc))) (fun i _ => gn - (intOf i).toNat)
    case atStart => exact ⟨0, by omega, rfl, rfl, A0, g0⟩
    case round =>
      clear c0 c1 c2 c3 g0 A0 ha hb
      obtain ⟨k, hk, rfl, HG, HB, HC⟩ := hrel
      obtain ⟨wo, rfl⟩ : ∃ wo : World, wo = wr := ⟨_, rfl⟩
      have hcc := HC.out
      obtain ⟨c0, c1, c2, c3⟩ := hcc
      have hcl := HC.out.lt
      by_cases hlt : k < gn
      · have hlti : (k : Int) < (gn : Int) := by omega
        obtain ⟨gb, go, rfl, gl, g0, g1, g2⟩ := (h.g.below HB.out).at3 hlt
        have HE : Hid (gatesB (i0 + i1) gs (k + 1) = (gatesB (i0 + i1) gs k && gateB (fld 3 gs k 0) (fld 3 gs k 1) (fld 3 gs k 2) (i0 + i1 + k))) := rfl
        have HN := Lib.hid (fun q : gateB (fld 3 gs k 0) (fld 3 gs k 1) (fld 3 gs k 2) (i0 + i1 + k) = false => gatesB_no q hlt)
        generalize fld 3 gs k 0 = x at *
        generalize fld 3 gs k 1 = y at *
        generalize fld 3 gs k 2 = z at *
        have e1 : IntKind.i64.wrap (i0 + i1 + k) = i0 + i1 + k := IntWalk.i64_in _ (by omega)
        have A1 := bel_alloc wo (.cells #[.int .i64 x, .int .i64 y, .int .i64 z] 111)
        have b3 := B3.new (w := wo) (x0 := .int .i64 x) (x1 := .int .i64 y) (x2 := .int .i64 z) (t := 111)
        obtain ⟨d0, d1, d2⟩ := b3
        have hcc := HC.out.on A1
        clear c0 c1 c2 c3
        obtain ⟨c0, c1, c2, c3⟩ := hcc
        cases hgb : gateB x y z (i0 + i1 + k) with
        | false =>
          go_wp2
          go_region_held3 (fun W => (W.cell? ⟨w.heap.size, 0, none⟩ = some (.int .i64 i0) ∧ W.cell? ⟨w.heap.size, 1, none⟩ = some (.int .i64 i1) ∧ W.cell? ⟨w.heap.size, 2, none⟩ = some (.slice (some ⟨gb, go, none⟩) gn gc) ∧ W.cell? ⟨w.heap.size, 3, none⟩ = some (.slice oa on oc)) ∧ W.cell? ⟨wo.heap.size, 0, none⟩ = some (.int .i64 x) ∧ W.cell? ⟨wo.heap.size, 1, none⟩ = some (.int .i64 y) ∧ W.cell? ⟨wo.heap.size, 2, none⟩ = some (.int .i64 z)) (exact ⟨⟨c0, c1, c2, c3⟩, d0, d1, d2⟩) (first | (go_at_call 70; refine (i_inputs _ _ _ _ _ _ _ _ _ ⟨h01, h02⟩ ⟨h11, h12⟩).mono ?_; rintro e w2 ⟨rfl, hb2⟩; have hb3 := bel_trans (bel_drew _) hb2; have c0 := cell_on c0 hb3; have c1 := cell_on c1 hb3; have c2 := cell_on c2 hb3; have c3 := cell_on c3 hb3; have d0 := cell_on d0 hb3; have d1 := cell_on d1 hb3; have d2 := cell_on d2 hb3) | (go_at_call 113; refine (i_gateOk _ _ _ _ _ ⟨by omega, by omega⟩).mono ?_; rintro e w4 ⟨rfl, hb4⟩; rw [hgb]; have hb5 := bel_trans hb3 hb4; have c0 := cell_on c0 hb4; have c1 := cell_on c1 hb4; have c2 := cell_on c2 hb4; have c3 := cell_on c3 hb4; have d0 := cell_on d0 hb4; have d1 := cell_on d1 hb4; have d2 := cell_on d2 hb4))
          go_wp2
          go_ret
          exact ⟨by rw [HN.out hgb]; rfl, bel_trans (bel_trans HB.out A1) hb5⟩
        | true =>
          go_wp2
          go_region_held3 (fun W => (W.cell? ⟨w.heap.size, 0, none⟩ = some (.int .i64 i0) ∧ W.cell? ⟨w.heap.size, 1, none⟩ = some (.int .i64 i1) ∧ W.cell? ⟨w.heap.size, 2, none⟩ = some (.slice (some ⟨gb, go, none⟩) gn gc) ∧ W.cell? ⟨w.heap.size, 3, none⟩ = some (.slice oa on oc)) ∧ W.cell? ⟨wo.heap.size, 0, none⟩ = some (.int .i64 x) ∧ W.cell? ⟨wo.heap.size, 1, none⟩ = some (.int .i64 y) ∧ W.cell? ⟨wo.heap.size, 2, none⟩ = some (.int .i64 z)) (exact ⟨⟨c0, c1, c2, c3⟩, d0, d1, d2⟩) (first | (go_at_call 70; refine (i_inputs _ _ _ _ _ _ _ _ _ ⟨h01, h02⟩ ⟨h11, h12⟩).mono ?_; rintro e w2 ⟨rfl, hb2⟩; have hb3 := bel_trans (bel_drew _) hb2; have c0 := cell_on c0 hb3; have c1 := cell_on c1 hb3; have c2 := cell_on c2 hb3; have c3 := cell_on c3 hb3; have d0 := cell_on d0 hb3; have d1 := cell_on d1 hb3; have d2 := cell_on d2 hb3) | (go_at_call 113; refine (i_gateOk _ _ _ _ _ ⟨by omega, by omega⟩).mono ?_; rintro e w4 ⟨rfl, hb4⟩; rw [hgb]; have hb5 := bel_trans hb3 hb4; have c0 := cell_on c0 hb4; have c1 := cell_on c1 hb4; have c2 := cell_on c2 hb4; have c3 := cell_on c3 hb4; have d0 := cell_on d0 hb4; have d1 := cell_on d1 hb4; have d2 := cell_on d2 hb4))
          go_wp2
          go_roundw
          case rel => exact ⟨k + 1, by omega, by go_num, (show Hid _ from by show _ = _; rw [HE.out, HG.out, hgb]; rfl), (show Hid _ from bel_trans (bel_trans HB.out A1) hb5), (show Hid _ from ⟨c0, c1, c2, c3⟩)⟩
          case measure => simp [intOf]; omega
      · obtain rfl : k = gn := by omega
        have hlti : ¬ (k : Int) < (k : Int) := by omega
        have e1 : IntKind.i64.wrap (i0 + i1 + k - 1) = i0 + i1 + k - 1 := IntWalk.i64_in _ (by omega)
        have ho := h.o.below HB.out
        have eA : ∀ args w, (callFunc 114 args).run Try.prog w = .ok (.enter 114 args) w := enters_of Try.func114 (by kernel_rfl) rfl
        have hg := i_areAllB oa on oc os (fun x => inB x 0 (i0 + i1 + k - 1)) 114 #[.pointer (some ⟨w.heap.size, 0, none⟩)] eA wo ho (fun W x hW hx => i_IsCircuit1 x i0 i1 ga k gc oa on oc w.heap.size W ⟨h01, h02⟩ ⟨h11, h12⟩ hn (HC.out.on hW))
        have HGG := Lib.hid hg; clear hg
        go_wp2_with (go_at_call 109; refine HGG.out.mono ?_; rintro e w2 ⟨rfl, hb2⟩)
        go_ret
        exact ⟨by rw [HG.out]; first | rfl | (unfold allIn; rfl) | simp [allIn], bel_trans HB.out hb2⟩

end Go.Proofs.Ytfejpmfcognikaa
