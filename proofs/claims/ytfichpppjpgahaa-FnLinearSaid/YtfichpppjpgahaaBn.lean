/-
  The draws of arithmetic circuits: one with the number of an out, one with values for its outs.
-/
import Derived.Test.YtfichpppjpgahaaBm
namespace Go.Proofs.Ytfichpppjpgahaa
open Go.RowKit
set_option linter.unusedVariables false
set_option linter.unusedSimpArgs false
set_option maxRecDepth 10000

theorem CirO.circM {w : World} {L : Nat} {v2 v3 : Value} {n m : Nat} {gs os : List Int} (h : CirO w L v2 n gs v3 m os) (hn : n ≤ 1000) (hm : m ≤ 1000) : ∃ ga gc oa oc, v2 = .slice ga n gc ∧ v3 = .slice oa m oc ∧ CircM w L ga n gc gs oa m oc os := by
  obtain ⟨a1, c1, e1, m1⟩ := MineK.of h.og (by omega) (by omega) h.fg.out
  obtain ⟨a2, c2, e2, m2⟩ := Mine.of h.oo (by omega) h.fo.out
  have hj := h.dj
  subst e1 e2
  refine ⟨a1, c1, a2, c2, rfl, rfl, m1, m2, fun h1 h2 q o q' o' e e' k => ?_⟩
  subst e e' k
  exact hj q rfl rfl
theorem CirO.circ {w : World} {L : Nat} {ga oa : Option Addr} {gc oc : Nat} {n m : Nat} {gs os : List Int} (h : CirO w L (.slice ga n gc) n gs (.slice oa m oc) m os) (hn : n ≤ 1000) (hm : m ≤ 1000) : Circ w ga n gc gs oa m oc os := by
  obtain ⟨a1, c1, a2, c2, e1, e2, k⟩ := h.circM hn hm
  simp only [Value.slice.injEq, true_and] at e1 e2
  obtain ⟨rfl, rfl⟩ := e1; obtain ⟨rfl, rfl⟩ := e2
  exact k.circ
theorem bel_set5 {w w0 : World} {B b : Nat} (h : Below B w0 w) (hb : B ≤ b) (x y z u v : Value) : Below B w0 (((((w.setCell ⟨b, 0, none⟩ x).setCell ⟨b, 1, none⟩ y).setCell ⟨b, 2, none⟩ z).setCell ⟨b, 3, none⟩ u).setCell ⟨b, 4, none⟩ v) :=
  ((((h.setCell hb _).setCell hb _).setCell hb _).setCell hb _).setCell hb _
/-- What DrawLinearForm hands back. -/
def LfRet (w : World) (e : Ending) (w' : World) : Prop :=
  ∃ (p x0 x1 : Int) (ga : Option Addr) (gn gc : Nat) (gs : List Int) (oa : Option Addr) (on oc : Nat) (os : List Int) (k : Int), e = .returned (.tuple #[.agg #[.int .i64 p, .int .i64 x0, .int .i64 x1, .slice ga gn gc, .slice oa on oc], .int .i64 k]) ∧ Circ w' ga gn gc gs oa on oc os ∧ (1 ≤ p ∧ p ≤ 253) ∧ (-1 ≤ x0 ∧ x0 ≤ 9) ∧ (0 ≤ x1 ∧ x1 ≤ 2) ∧ (-1 ≤ k ∧ k ≤ 21) ∧ Below w.heap.size w w'
/-- What DrawCountInputs hands back. -/
def CntRet (w : World) (e : Ending) (w' : World) : Prop :=
  ∃ (p x0 x1 : Int) (ga : Option Addr) (gn gc : Nat) (gs : List Int) (oa : Option Addr) (on oc : Nat) (os : List Int) (ta : Option Addr) (tn tc : Nat) (ts : List Int), e = .returned (.tuple #[.agg #[.int .i64 p, .int .i64 x0, .int .i64 x1, .slice ga gn gc, .slice oa on oc], .slice ta tn tc]) ∧ Circ w' ga gn gc gs oa on oc os ∧ Ints w' ta tn tc ts ∧ Below w.heap.size w w'
set_option maxHeartbeats 8000000 in
theorem s_DrawLinearForm (a : Option Addr) (n cap : Nat) (w : World) (hB : Byts w a n cap) :
    Calls Try.prog 33 #[.slice a n cap] w (LfRet w) := by
  have A0 := bel_alloc w (.cells #[.int .i64 0, .int .i64 0, .int .i64 0, .slice none 0 0, .slice none 0 0] 48)
  have r0 := B5w.new (w := w) (x0 := .int .i64 0) (x1 := .int .i64 0) (x2 := .int .i64 0) (x3 := .slice none 0 0) (x4 := .slice none 0 0) (t := 48)
  have hB1 := hB.below A0
  have h0 := Cur.new (t := 61) hB1 hB.und (by simp)
  have hs0 : (w.alloc (.cells #[.int .i64 0, .int .i64 0, .int .i64 0, .slice none 0 0, .slice none 0 0] 48)).heap.size = w.heap.size + 1 := by simp
  rw [hs0] at h0
  have A1 := bel_alloc (w.alloc (.cells #[.int .i64 0, .int .i64 0, .int .i64 0, .slice none 0 0, .slice none 0 0] 48)) (.cells #[.slice a n cap, .int .i64 0, .int .u64 0] 61)
  have RR := Lib.hid (r0.on A1)
  have BB := Lib.hid (bel_trans A0 A1)
  have z1 : ((w.alloc (.cells #[.int .i64 0, .int .i64 0, .int .i64 0, .slice none 0 0, .slice none 0 0] 48)).alloc (.cells #[.slice a n cap, .int .i64 0, .int .u64 0] 61)).heap.size = w.heap.size + 2 := by simp
  go_enter Try.func33, Try.ntmps33
  clear A0 r0 hB1 A1 hB
  go_wp2_with fail
  refine (s_anyArith (w.heap.size + 1) w.heap.size 0 _ h0 (by omega)).mono ?_; rintro e w1 ⟨p, x0, x1, v2, gn, gs, v3, m, os, rfl, ⟨hp0, hp1⟩, ⟨hx0, hx0'⟩, ⟨hx1, hx1'⟩, hR, hgn, hm, hC1, hX1⟩
  have hz1 := hX1.size
  rw [z1] at hR hz1
  have hA := AnyA.new (t := 48) (x0 := p) (x1 := x0) (x2 := x1) hR hz1
  have A2 := bel_alloc w1 (.cells #[.int .i64 p, .int .i64 x0, .int .i64 x1, v2, v3] 48)
  obtain ⟨ga, gc, rfl⟩ := own_sl hR.og
  obtain ⟨oa, oc, rfl⟩ := own_sl hR.oo
  have hC2 := hC1.below A2
  have hX2 := hX1.trans (Bex.of A2)
  have hbg : w.heap.size + 1 < w.heap.size + 2 := by omega
  have hgL : w.heap.size + 2 ≤ w1.heap.size := hz1
  have hne : w1.heap.size ≠ w.heap.size + 1 := by omega
  have HA := Lib.hid hA; have HX := Lib.hid hX2
  clear hA hX2 hX1 hC1 A2 hR h0
  go_wp2_with fail
  refine (s_one (w.heap.size + 1) w.heap.size _ 2 _ hC2 (by omega) (by omega)).mono ?_; rintro e w3 ⟨q, rfl, hC3, hX3⟩
  replace HA := Lib.hid (HA.out.bex hX3 hbg); replace HX := Lib.hid (HX.out.trans hX3); have HC := Lib.hid hC3
  clear hC2 hC3 hX3
  cases q with
  | false =>
    obtain ⟨c0, c1, c2, c3, c4⟩ := id HA.out.box.r
    have d0 := cell_on c0 (bel_drew _); have d1 := cell_on c1 (bel_drew _); have d2 := cell_on c2 (bel_drew _); have d3 := cell_on c3 (bel_drew _); have d4 := cell_on c4 (bel_drew _)
    clear c0 c1 c2 c3 c4
    have em : IntKind.i64.wrap ((m : Int) + 1) = ((m + 1 : Nat) : Int) := by rw [IntWalk.i64_in _ (by omega)]; omega
    obtain ⟨M, hM⟩ : ∃ M : Nat, m + 1 = M := ⟨_, rfl⟩
    rw [hM] at em
    have tk0 : True := trivial
    go_wp2_with fail
    go_region_law (first
      | (have t0 := tk0; clear t0 tk0; go_simp; go_at_call 59; refine (s_pick _ _ _ M _ (HC.out.below (bel_drew _)) (by omega) (by omega)).mono ?_; rintro e w4 ⟨r, rfl, hr, hr', hC4, hX4⟩; have e0 := hX4.cell d0 hne; have e1 := hX4.cell d1 hne; have e2 := hX4.cell d2 hne; have e3 := hX4.cell d3 hne; have e4 := hX4.cell d4 hne; have tk1 : True := trivial)
      | (have t1 := tk1; clear t1 tk1; go_simp; go_at_call 59; refine (s_pick _ _ _ 16 _ hC4 (by omega) (by omega)).mono ?_; rintro e w5 ⟨s, rfl, hs, hs', hC5, hX5⟩; have f0 := hX5.cell e0 hne; have f1 := hX5.cell e1 hne; have f2 := hX5.cell e2 hne; have f3 := hX5.cell e3 hne; have f4 := hX5.cell e4 hne; have ed : (s : Int).tdiv 15 = (s : Int) / 15 := (Int.tdiv_eq_ediv_of_nonneg (by omega)); have ew : IntKind.i64.wrap ((s : Int) / 15) = (s : Int) / 15 := (IntWalk.i64_in _ (by omega)); have ep : IntKind.i64.wrap ((r : Int) - (s : Int) / 15) = (r : Int) - (s : Int) / 15 := (IntWalk.i64_in _ (by omega)); have XX := Lib.hid (((HX.out.trans (Bex.of (bel_drew _))).trans hX4).trans hX5); have AA := Lib.hid (((HA.out.below (bel_drew _)).bex hX4 hbg).bex hX5 hbg); have R5 := RR.out.bex XX.out (by omega); obtain ⟨⟨r0, r1, r2, r3, r4⟩, s0, s1, s2, s3, s4⟩ := R5))
    all_goals
      clear hC4 hX4 hC5 hX5
      have E5 := Lib.hid ((RR.out.bex XX.out (by omega)).set (.int .i64 p) (.int .i64 x0) (.int .i64 x1) (.slice ga gn gc) (.slice oa m oc))
      have F1 := Lib.hid ((AA.out.r.bex (Bex.only5 (g := w.heap.size) _ (.int .i64 p) (.int .i64 x0) (.int .i64 x1) (.slice ga gn gc) (.slice oa m oc)) (by omega)).circ (by omega) (by omega))
      have F4 := Lib.hid (bel_set5 (Below.bex BB.out XX.out (by omega) (by omega)) (Nat.le_refl _) (.int .i64 p) (.int .i64 x0) (.int .i64 x1) (.slice ga gn gc) (.slice oa m oc))
      clear AA XX
      go_wp2
      obtain ⟨E0, E1, E2, E3, E4⟩ := id E5.out.r
      exact bodyPost_ret (v := .tuple #[.agg #[.int .i64 p, .int .i64 x0, .int .i64 x1, .slice ga gn gc, .slice oa m oc], .int .i64 ((r : Int) - (s : Int) / 15)]) (by simp [results, Try.results33, go_sem, E0, E1, E2, E3, E4]) rfl ⟨p, x0, x1, ga, gn, gc, _, oa, m, oc, os, _, rfl, F1.out, ⟨by omega, by omega⟩, ⟨by omega, by omega⟩, ⟨by omega, by omega⟩, ⟨by omega, by omega⟩, F4.out⟩
  | true =>
    obtain ⟨c0, c1, c2, c3, c4⟩ := id HA.out.box.r
    go_wp2_with fail
    clear c0 c1 c2 c3 c4
    go_loopw [17] (fun i V => ∃ (k : Nat) (gs9 : List Int), k ≤ gn ∧ i = .int .i64 k ∧ Hid (AnyA V (w.heap.size + 2) w1.heap.size p x0 x1 (.slice ga gn gc) gn gs9 (.slice oa m oc) m os) ∧ Hid (Cur V (w.heap.size + 1) w.heap.size (0 + 300 + 2)) ∧ Hid (Bex (w.heap.size + 1) ((w.alloc (.cells #[.int .i64 0, .int .i64 0, .int .i64 0, .slice none 0 0, .slice none 0 0] 48)).alloc (.cells #[.slice a n cap, .int .i64 0, .int .u64 0] 61)) V)) (fun i _ => gn - (intOf i).toNat)
    case atStart => exact ⟨0, gs, by omega, rfl, HA, HC, HX⟩
    case round =>
      clear HA HC HX
      obtain ⟨k, gs9, hk, rfl, HA, HC, HX⟩ := hrel
      by_cases hlt : k < gn
      · have hlti : (k : Int) < (gn : Int) := by omega
        obtain ⟨q, qc, hq, hq1, hq2⟩ := HA.out.row (by omega)
        simp only [Value.slice.injEq, true_and] at hq; obtain ⟨rfl, rfl⟩ := hq
        obtain ⟨c0, c1, c2, c3, c4⟩ := id HA.out.box.r
        obtain ⟨⟨u, cu⟩, fu⟩ := HA.out.cells (j := k * 3) (by omega)
        by_cases hu : u = 1
        · subst hu
          have HA9 := Lib.hid (HA.out.put (j := k * 3) (u := 0) (by unfold Fits; omega))
          have HC9 := Lib.hid (HC.out.store (p := ⟨q, k * 3, none⟩) (u := .int .i64 0) (by simp only []; omega) (by simp only []; omega))
          have HX9 := Lib.hid (HX.out.store1A (p := ⟨q, k * 3, none⟩) (u := .int .i64 0) (by simp only []; omega))
          clear HA HC HX
          go_wp2
          go_roundw
          case rel => exact ⟨k + 1, _, by omega, by go_num, HA9, HC9, HX9⟩
          case measure => simp [intOf]; omega
        · have hub : (u == 1) = false := by simpa using hu
          go_wp2
          go_roundw
          case rel => exact ⟨k + 1, _, by omega, by go_num, HA, HC, HX⟩
          case measure => simp [intOf]; omega
      · obtain rfl : gn = k := by omega
        have hltz : ¬ ((gn : Int) < (gn : Int)) := by omega
        clear hlt hk
        obtain ⟨c0, c1, c2, c3, c4⟩ := id HA.out.box.r
        have d0 := cell_on c0 (bel_drew _); have d1 := cell_on c1 (bel_drew _); have d2 := cell_on c2 (bel_drew _); have d3 := cell_on c3 (bel_drew _); have d4 := cell_on c4 (bel_drew _)
        clear c0 c1 c2 c3 c4
        have em : IntKind.i64.wrap ((m : Int) + 1) = ((m + 1 : Nat) : Int) := by rw [IntWalk.i64_in _ (by omega)]; omega
        obtain ⟨M, hM⟩ : ∃ M : Nat, m + 1 = M := ⟨_, rfl⟩
        rw [hM] at em
        have tk0 : True := trivial
        go_wp2_with fail
        go_region_law (first
          | (have t0 := tk0; clear t0 tk0; go_simp; go_at_call 59; refine (s_pick _ _ _ M _ (HC.out.below (bel_drew _)) (by omega) (by omega)).mono ?_; rintro e w4 ⟨r, rfl, hr, hr', hC4, hX4⟩; have e0 := hX4.cell d0 hne; have e1 := hX4.cell d1 hne; have e2 := hX4.cell d2 hne; have e3 := hX4.cell d3 hne; have e4 := hX4.cell d4 hne; have tk1 : True := trivial)
          | (have t1 := tk1; clear t1 tk1; go_simp; go_at_call 59; refine (s_pick _ _ _ 16 _ hC4 (by omega) (by omega)).mono ?_; rintro e w5 ⟨s, rfl, hs, hs', hC5, hX5⟩; have f0 := hX5.cell e0 hne; have f1 := hX5.cell e1 hne; have f2 := hX5.cell e2 hne; have f3 := hX5.cell e3 hne; have f4 := hX5.cell e4 hne; have ed : (s : Int).tdiv 15 = (s : Int) / 15 := (Int.tdiv_eq_ediv_of_nonneg (by omega)); have ew : IntKind.i64.wrap ((s : Int) / 15) = (s : Int) / 15 := (IntWalk.i64_in _ (by omega)); have ep : IntKind.i64.wrap ((r : Int) - (s : Int) / 15) = (r : Int) - (s : Int) / 15 := (IntWalk.i64_in _ (by omega)); have XX := Lib.hid (((HX.out.trans (Bex.of (bel_drew _))).trans hX4).trans hX5); have AA := Lib.hid (((HA.out.below (bel_drew _)).bex hX4 hbg).bex hX5 hbg); have R5 := RR.out.bex XX.out (by omega); obtain ⟨⟨r0, r1, r2, r3, r4⟩, s0, s1, s2, s3, s4⟩ := R5))
        all_goals
          clear hC4 hX4 hC5 hX5
          have E5 := Lib.hid ((RR.out.bex XX.out (by omega)).set (.int .i64 p) (.int .i64 x0) (.int .i64 x1) (.slice ga gn gc) (.slice oa m oc))
          have F1 := Lib.hid ((AA.out.r.bex (Bex.only5 (g := w.heap.size) _ (.int .i64 p) (.int .i64 x0) (.int .i64 x1) (.slice ga gn gc) (.slice oa m oc)) (by omega)).circ (by omega) (by omega))
          have F4 := Lib.hid (bel_set5 (Below.bex BB.out XX.out (by omega) (by omega)) (Nat.le_refl _) (.int .i64 p) (.int .i64 x0) (.int .i64 x1) (.slice ga gn gc) (.slice oa m oc))
          clear AA XX
          go_wp2
          obtain ⟨E0, E1, E2, E3, E4⟩ := id E5.out.r
          exact bodyPost_ret (v := .tuple #[.agg #[.int .i64 p, .int .i64 x0, .int .i64 x1, .slice ga gn gc, .slice oa m oc], .int .i64 ((r : Int) - (s : Int) / 15)]) (by simp [results, Try.results33, go_sem, E0, E1, E2, E3, E4]) rfl ⟨p, x0, x1, ga, gn, gc, _, oa, m, oc, os, _, rfl, F1.out, ⟨by omega, by omega⟩, ⟨by omega, by omega⟩, ⟨by omega, by omega⟩, ⟨by omega, by omega⟩, F4.out⟩
set_option maxHeartbeats 8000000 in
theorem s_DrawCountInputs (a : Option Addr) (n cap : Nat) (w : World) (hB : Byts w a n cap) :
    Calls Try.prog 36 #[.slice a n cap] w (CntRet w) := by
  have A0 := bel_alloc w (.cells #[.int .i64 0, .int .i64 0, .int .i64 0, .slice none 0 0, .slice none 0 0] 48)
  have r0 := B5w.new (w := w) (x0 := .int .i64 0) (x1 := .int .i64 0) (x2 := .int .i64 0) (x3 := .slice none 0 0) (x4 := .slice none 0 0) (t := 48)
  have hB1 := hB.below A0
  have h0 := Cur.new (t := 61) hB1 hB.und (by simp)
  have hs0 : (w.alloc (.cells #[.int .i64 0, .int .i64 0, .int .i64 0, .slice none 0 0, .slice none 0 0] 48)).heap.size = w.heap.size + 1 := by simp
  rw [hs0] at h0
  have A1 := bel_alloc (w.alloc (.cells #[.int .i64 0, .int .i64 0, .int .i64 0, .slice none 0 0, .slice none 0 0] 48)) (.cells #[.slice a n cap, .int .i64 0, .int .u64 0] 61)
  have RR := Lib.hid (r0.on A1)
  have BB := Lib.hid (bel_trans A0 A1)
  have z1 : ((w.alloc (.cells #[.int .i64 0, .int .i64 0, .int .i64 0, .slice none 0 0, .slice none 0 0] 48)).alloc (.cells #[.slice a n cap, .int .i64 0, .int .u64 0] 61)).heap.size = w.heap.size + 2 := by simp
  go_enter Try.func36, Try.ntmps36
  clear A0 r0 hB1 A1 hB
  go_wp2_with fail
  refine (s_anyArith (w.heap.size + 1) w.heap.size 0 _ h0 (by omega)).mono ?_; rintro e w1 ⟨p, x0, x1, v2, gn, gs, v3, m, os, rfl, ⟨hp0, hp1⟩, ⟨hx0, hx0'⟩, ⟨hx1, hx1'⟩, hR, hgn, hm, hC1, hX1⟩
  have hz1 := hX1.size
  rw [z1] at hR hz1
  have hA := AnyA.new (t := 48) (x0 := p) (x1 := x0) (x2 := x1) hR hz1
  have A2 := bel_alloc w1 (.cells #[.int .i64 p, .int .i64 x0, .int .i64 x1, v2, v3] 48)
  obtain ⟨ga, gc, rfl⟩ := own_sl hR.og
  obtain ⟨oa, oc, rfl⟩ := own_sl hR.oo
  have hC2 := hC1.below A2
  have hX2 := hX1.trans (Bex.of A2)
  have hbg : w.heap.size + 1 < w.heap.size + 2 := by omega
  have hgL : w.heap.size + 2 ≤ w1.heap.size := hz1
  have hne : w1.heap.size ≠ w.heap.size + 1 := by omega
  have HA := Lib.hid hA; have HX := Lib.hid hX2
  clear hA hX2 hX1 hC1 A2 hR h0
  go_wp2_with fail
  refine (s_one (w.heap.size + 1) w.heap.size _ 2 _ hC2 (by omega) (by omega)).mono ?_; rintro e w3 ⟨q, rfl, hC3, hX3⟩
  replace HA := Lib.hid (HA.out.bex hX3 hbg); replace HX := Lib.hid (HX.out.trans hX3); have HC := Lib.hid hC3
  clear hC2 hC3 hX3
  cases q with
  | false =>
    obtain ⟨c0, c1, c2, c3, c4⟩ := id HA.out.box.r
    have d0 := cell_on c0 (bel_drew _); have d1 := cell_on c1 (bel_drew _); have d2 := cell_on c2 (bel_drew _); have d3 := cell_on c3 (bel_drew _); have d4 := cell_on c4 (bel_drew _)
    clear c0 c1 c2 c3 c4
    obtain ⟨P, hP⟩ : ∃ P : Int, max 2 p = P := ⟨_, rfl⟩
    have hP1 : 2 ≤ P ∧ P ≤ 253 := by omega
    obtain ⟨hP1, hP2⟩ := hP1; have HP := Lib.hid hP; clear hP
    have tk0 : True := trivial
    go_wp2_with fail
    go_region_law (first
      | (go_simp; go_at_call 97; refine (s_l1MostA 2 p _).mono ?_; rintro e wl ⟨he, rfl⟩; rw [HP.out] at he; subst he)
      | (have t0 := tk0; clear t0 tk0; go_simp; go_at_call 59; refine (s_pick _ _ _ 16 _ (HC.out.below (bel_drew _)) (by omega) (by omega)).mono ?_; rintro e w4 ⟨s, rfl, hs, hs', hC4, hX4⟩; have e0 := hX4.cell d0 hne; have e1 := hX4.cell d1 hne; have e2 := hX4.cell d2 hne; have e3 := hX4.cell d3 hne; have e4 := hX4.cell d4 hne; have ed : (s : Int).tdiv 15 = (s : Int) / 15 := (Int.tdiv_eq_ediv_of_nonneg (by omega)); have ew : IntKind.i64.wrap ((s : Int) / 15) = (s : Int) / 15 := (IntWalk.i64_in _ (by omega)); obtain ⟨T, hT⟩ : ∃ T : Nat, T = m + s / 15 := ⟨_, rfl⟩; have hT9 : T ≤ 30 := (by omega); have ep : IntKind.i64.wrap ((m : Int) + (s : Int) / 15) = (T : Int) := (by rw [IntWalk.i64_in _ (by omega)]; omega); clear hT)
      | (go_simp; go_at_call 62; refine (s_elements _ _ _ P T _ hC4 (by omega) (by unfold Dr; omega) (by omega)).mono ?_; rintro e w5 ⟨tr, tc, ts, rfl, hO, hC5, hX5⟩; have f0 := hX5.cell e0 hne; have f1 := hX5.cell e1 hne; have f2 := hX5.cell e2 hne; have f3 := hX5.cell e3 hne; have f4 := hX5.cell e4 hne; have XX := Lib.hid (((HX.out.trans (Bex.of (bel_drew _))).trans hX4).trans hX5); have AA := Lib.hid (((HA.out.below (bel_drew _)).bex hX4 hbg).bex hX5 hbg); have OO := Lib.hid hO.mine; have hz4 := hX4.size; have R5 := RR.out.bex XX.out (by omega); obtain ⟨⟨r0, r1, r2, r3, r4⟩, s0, s1, s2, s3, s4⟩ := R5))
    all_goals
      have hl4 : w.heap.size < w4.heap.size := by have h1 := HA.out.lt; have h2 : w1.heap.size < w4.heap.size := Nat.lt_of_lt_of_le h1 hz4; omega
      clear hC4 hX4 hC5 hX5 hO
      have E5 := Lib.hid ((RR.out.bex XX.out (by omega)).set (.int .i64 p) (.int .i64 x0) (.int .i64 x1) (.slice ga gn gc) (.slice oa m oc))
      have F1 := Lib.hid ((AA.out.r.bex (Bex.only5 (g := w.heap.size) _ (.int .i64 p) (.int .i64 x0) (.int .i64 x1) (.slice ga gn gc) (.slice oa m oc)) (by omega)).circ (by omega) (by omega))
      have F2 := Lib.hid (OO.out.bex (Bex.only5 (g := w.heap.size) _ (.int .i64 p) (.int .i64 x0) (.int .i64 x1) (.slice ga gn gc) (.slice oa m oc)) (by omega)).ints
      have F4 := Lib.hid (bel_set5 (Below.bex BB.out XX.out (by omega) (by omega)) (Nat.le_refl _) (.int .i64 p) (.int .i64 x0) (.int .i64 x1) (.slice ga gn gc) (.slice oa m oc))
      clear AA XX OO
      go_wp2
      obtain ⟨E0, E1, E2, E3, E4⟩ := id E5.out.r
      exact bodyPost_ret (v := .tuple #[.agg #[.int .i64 p, .int .i64 x0, .int .i64 x1, .slice ga gn gc, .slice oa m oc], .slice tr T tc]) (by simp [results, Try.results36, go_sem, E0, E1, E2, E3, E4]) rfl ⟨p, x0, x1, ga, gn, gc, _, oa, m, oc, os, tr, T, tc, ts, rfl, F1.out, F2.out, F4.out⟩
  | true =>
    obtain ⟨hCa, hIa, hOa, hXa⟩ := among_lit (t := 3) [2, 3, 5] HC.out rfl rfl (by simp) (by intro x hx; simp at hx; unfold Fits; omega)
    go_wp2_with fail
    refine (s_among _ _ _ _ 3 3 [2, 3, 5] _ hCa (by omega) hIa (by omega) (by omega) hOa).mono ?_; rintro e w5 ⟨u, rfl, hu, hC5, hX5⟩
    simp at hu
    have hA5 := HA.out.bex (hXa.trans hX5) hbg
    obtain ⟨⟨c0, c1, c2, c3, c4⟩, f0, f1, f2, f3, f4⟩ := id hA5.box
    have HA0 := Lib.hid (hA5.set0 u)
    have HX0 := Lib.hid ((HX.out.trans (hXa.trans hX5)).store1A (p := ⟨w1.heap.size, 0, none⟩) (u := .int .i64 u) (by simp only []; omega))
    have HC0 := Lib.hid (hC5.store (p := ⟨w1.heap.size, 0, none⟩) (u := .int .i64 u) (by simp only []; omega) (by simp only []; omega))
    obtain ⟨W6, hW6⟩ : ∃ X, w5.setCell ⟨w1.heap.size, 0, none⟩ (.int .i64 u) = X := ⟨_, rfl⟩
    rw [hW6] at HA0 HX0 HC0
    clear hCa hIa hOa hXa hC5 hX5 hA5 HA HX HC
    have hp0 : 1 ≤ u ∧ u ≤ 5 := by omega
    obtain ⟨hp0, hp1⟩ := hp0
    obtain ⟨c0, c1, c2, c3, c4⟩ := id HA0.out.box.r
    have d0 := cell_on c0 (bel_drew _); have d1 := cell_on c1 (bel_drew _); have d2 := cell_on c2 (bel_drew _); have d3 := cell_on c3 (bel_drew _); have d4 := cell_on c4 (bel_drew _)
    clear c0 c1 c2 c3 c4
    obtain ⟨P, hP⟩ : ∃ P : Int, max 2 u = P := ⟨_, rfl⟩
    have hP1 : 2 ≤ P ∧ P ≤ 253 := by omega
    obtain ⟨hP1, hP2⟩ := hP1; have HP := Lib.hid hP; clear hP
    have tk0 : True := trivial
    go_wp2_with fail
    go_region_law (first
      | (go_simp; go_at_call 97; refine (s_l1MostA 2 u _).mono ?_; rintro e wl ⟨he, rfl⟩; rw [HP.out] at he; subst he)
      | (have t0 := tk0; clear t0 tk0; go_simp; go_at_call 59; refine (s_pick _ _ _ 16 _ (HC0.out.below (bel_drew _)) (by omega) (by omega)).mono ?_; rintro e w4 ⟨s, rfl, hs, hs', hC4, hX4⟩; have e0 := hX4.cell d0 hne; have e1 := hX4.cell d1 hne; have e2 := hX4.cell d2 hne; have e3 := hX4.cell d3 hne; have e4 := hX4.cell d4 hne; have ed : (s : Int).tdiv 15 = (s : Int) / 15 := (Int.tdiv_eq_ediv_of_nonneg (by omega)); have ew : IntKind.i64.wrap ((s : Int) / 15) = (s : Int) / 15 := (IntWalk.i64_in _ (by omega)); obtain ⟨T, hT⟩ : ∃ T : Nat, T = m + s / 15 := ⟨_, rfl⟩; have hT9 : T ≤ 30 := (by omega); have ep : IntKind.i64.wrap ((m : Int) + (s : Int) / 15) = (T : Int) := (by rw [IntWalk.i64_in _ (by omega)]; omega); clear hT)
      | (go_simp; go_at_call 62; refine (s_elements _ _ _ P T _ hC4 (by omega) (by unfold Dr; omega) (by omega)).mono ?_; rintro e w5 ⟨tr, tc, ts, rfl, hO, hC5, hX5⟩; have f0 := hX5.cell e0 hne; have f1 := hX5.cell e1 hne; have f2 := hX5.cell e2 hne; have f3 := hX5.cell e3 hne; have f4 := hX5.cell e4 hne; have XX := Lib.hid (((HX0.out.trans (Bex.of (bel_drew _))).trans hX4).trans hX5); have AA := Lib.hid (((HA0.out.below (bel_drew _)).bex hX4 hbg).bex hX5 hbg); have OO := Lib.hid hO.mine; have hz4 := hX4.size; have R5 := RR.out.bex XX.out (by omega); obtain ⟨⟨r0, r1, r2, r3, r4⟩, s0, s1, s2, s3, s4⟩ := R5))
    all_goals
      have hl4 : w.heap.size < w4.heap.size := by have h1 := HA0.out.lt; have h2 : w1.heap.size < w4.heap.size := Nat.lt_of_lt_of_le h1 hz4; omega
      clear hC4 hX4 hC5 hX5 hO
      have E5 := Lib.hid ((RR.out.bex XX.out (by omega)).set (.int .i64 u) (.int .i64 x0) (.int .i64 x1) (.slice ga gn gc) (.slice oa m oc))
      have F1 := Lib.hid ((AA.out.r.bex (Bex.only5 (g := w.heap.size) _ (.int .i64 u) (.int .i64 x0) (.int .i64 x1) (.slice ga gn gc) (.slice oa m oc)) (by omega)).circ (by omega) (by omega))
      have F2 := Lib.hid (OO.out.bex (Bex.only5 (g := w.heap.size) _ (.int .i64 u) (.int .i64 x0) (.int .i64 x1) (.slice ga gn gc) (.slice oa m oc)) (by omega)).ints
      have F4 := Lib.hid (bel_set5 (Below.bex BB.out XX.out (by omega) (by omega)) (Nat.le_refl _) (.int .i64 u) (.int .i64 x0) (.int .i64 x1) (.slice ga gn gc) (.slice oa m oc))
      clear AA XX OO
      go_wp2
      obtain ⟨E0, E1, E2, E3, E4⟩ := id E5.out.r
      exact bodyPost_ret (v := .tuple #[.agg #[.int .i64 u, .int .i64 x0, .int .i64 x1, .slice ga gn gc, .slice oa m oc], .slice tr T tc]) (by simp [results, Try.results36, go_sem, E0, E1, E2, E3, E4]) rfl ⟨u, x0, x1, ga, gn, gc, _, oa, m, oc, os, tr, T, tc, ts, rfl, F1.out, F2.out, F4.out⟩
end Go.Proofs.Ytfichpppjpgahaa
