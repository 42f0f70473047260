/-
  The draw of a circuit, a key and inputs.
-/
import Derived.Test.YtmkcanbaleecfaaSz
namespace Go.Proofs.Ytmkcanbaleecfaa
open Go.RowKit
set_option linter.unusedVariables false
set_option linter.unusedSimpArgs false
set_option maxRecDepth 10000

theorem CirO.circM {w : World} {L : Nat} {v2 v3 : Value} {n m : Nat} {gs os : List Int} (h : CirO w L v2 n gs v3 m os) (hn : n ≤ 1000) (hm : m ≤ 1000) : ∃ ga gc oa oc, v2 = .slice ga n gc ∧ v3 = .slice oa m oc ∧ CircM w L ga n gc gs oa m oc os := by
  obtain ⟨a1, c1, e1, m1⟩ := MineK.of h.og (by omega) (by omega) h.fg.out
  obtain ⟨a2, c2, e2, m2⟩ := Mine.of h.oo (by omega) h.fo.out
  have hj := h.dj
  subst e1 e2
  refine ⟨a1, c1, a2, c2, rfl, rfl, m1, m2, fun h1 h2 q o q' o' e e' k => ?_⟩
  subst e e' k
  exact hj q rfl rfl
theorem CircM.bex {b B : Nat} {w w' : World} {ga oa : Option Addr} {gn gc on oc : Nat} {gs os : List Int} (h : CircM w B ga gn gc gs oa on oc os) (k : Bex b w w') (hb : b < B) : CircM w' B ga gn gc gs oa on oc os :=
  ⟨⟨h.g.mine.bex k hb, h.g.ncap, h.g.capm, h.g.small, h.g.nilc⟩, h.o.bex k hb, h.ap⟩
/-- What DrawRunHalved hands back. -/
def HalvRet (w : World) (e : Ending) (w' : World) : Prop :=
  ∃ (x0 x1 : Int) (ga : Option Addr) (gn gc : Nat) (gs : List Int) (oa : Option Addr) (on oc : Nat) (os : List Int) (key : Int) (aa : Option Addr) (an ac : Nat) (us : List Int) (ba : Option Addr) (bn bc : Nat) (vs : List Int),
    e = .returned (.tuple #[.agg #[.int .i64 x0, .int .i64 x1, .slice ga gn gc, .slice oa on oc], .int .i64 key, .slice aa an ac, .slice ba bn bc]) ∧ CircM w' w.heap.size ga gn gc gs oa on oc os ∧ Dw key ∧ Mine w' w.heap.size aa an ac us ∧ Mine w' w.heap.size ba bn bc vs ∧ Below w.heap.size w w'
set_option maxHeartbeats 8000000 in
theorem s_DrawRunHalved (a : Option Addr) (n cap : Nat) (w : World) (hB : Byts w a n cap) :
    Calls Try.prog 82 #[.slice a n cap] w (HalvRet w) := by
  have A0 := bel_alloc w (.cells #[.int .i64 0, .int .i64 0, .slice none 0 0, .slice none 0 0] 31)
  have r0 := B4w.new (w := w) (x0 := .int .i64 0) (x1 := .int .i64 0) (x2 := .slice none 0 0) (x3 := .slice none 0 0) (t := 31)
  have hB1 := hB.below A0
  have h0 := Cur.new (t := 98) hB1 hB.und (by simp)
  have hs0 : (w.alloc (.cells #[.int .i64 0, .int .i64 0, .slice none 0 0, .slice none 0 0] 31)).heap.size = w.heap.size + 1 := by simp
  rw [hs0] at h0
  have A1 := bel_alloc (w.alloc (.cells #[.int .i64 0, .int .i64 0, .slice none 0 0, .slice none 0 0] 31)) (.cells #[.slice a n cap, .int .i64 0, .int .u64 0] 98)
  have r1 := r0.on A1
  have B1 := bel_trans A0 A1
  have z1 : ((w.alloc (.cells #[.int .i64 0, .int .i64 0, .slice none 0 0, .slice none 0 0] 31)).alloc (.cells #[.slice a n cap, .int .i64 0, .int .u64 0] 98)).heap.size = w.heap.size + 2 := by simp
  go_enter Try.func82, Try.ntmps82
  go_wp2_with fail
  refine (s_anyCircuit (w.heap.size + 1) w.heap.size 0 _ h0 (by omega)).mono ?_; rintro e w1 ⟨x0, x1, v2, gn, gs, v3, on, os, rfl, ⟨hx0, hx0'⟩, ⟨hx1, hx1'⟩, hR, hgn, hon, hC1, hX1⟩
  rw [z1] at hR
  obtain ⟨ga, gc, oa, oc, rfl, rfl, hM⟩ := hR.circM (by omega) (by omega)
  have rr := r1.bex hX1 (by omega)
  have B2 := Below.bex B1 hX1 (by omega) (by omega)
  have z2 := hX1.size
  rw [z1] at z2
  clear A0 A1 r0 r1 h0 B1 hX1 z1 hs0 hB1 hR
  have A2 := bel_alloc w1 (.cells #[.int .i64 x0, .int .i64 x1, .slice ga gn gc, .slice oa on oc] 31)
  have gg := B4.new (w := w1) (x0 := .int .i64 x0) (x1 := .int .i64 x1) (x2 := .slice ga gn gc) (x3 := .slice oa on oc) (t := 31)
  obtain ⟨i0, i1, i2, i3⟩ := id gg
  have hC2 := hC1.below A2
  have rr2 := rr.on A2
  have B3 := bel_trans B2 A2
  have hM2 := hM.below A2
  have z3 := A2.size
  clear rr hC1 B2 A2 hM
  go_wp2_with fail
  refine (s_inputs (w.heap.size + 1) w.heap.size _ x0 x1 ga gn gc oa on oc _ hC2 (by omega) (by omega) (by omega)).mono ?_; rintro e w3 ⟨aa, an, ac, us, ba, bn, bc, vs, rfl, hU, hV, han, hbn, hC3, hX3⟩
  have z4 := hX3.size
  have hne : w1.heap.size ≠ w.heap.size + 1 := by omega
  have GG := Lib.hid ((show B4 w3 w1.heap.size _ _ _ _ from ⟨hX3.cell i0 hne, hX3.cell i1 hne, hX3.cell i2 hne, hX3.cell i3 hne⟩).on (bel_drew w3))
  have RR := Lib.hid ((rr2.bex hX3 (by omega)).on (bel_drew w3))
  have BB := Lib.hid ((Below.bex B3 hX3 (by omega) (by omega)).trans ((bel_drew w3).mono (by omega)))
  have CC := Lib.hid (hC3.below (bel_drew w3))
  have MM := Lib.hid ((hM2.bex hX3 (by omega)).below (bel_drew w3))
  have UU := Lib.hid (hU.below (bel_drew w3)); have VV := Lib.hid (hV.below (bel_drew w3))
  clear i0 i1 i2 i3 gg hC2 rr2 B3 hM2 hX3 hC3 hU hV
  obtain ⟨d0, d1, d2, d3⟩ := id GG.out
  have tk0 : True := trivial
  go_wp2_with fail
  go_region_law (first
    | (have t0 := tk0; clear t0 tk0; go_simp; go_at_call 83; refine (s_pick _ _ _ 60000 _ CC.out (by omega) (by omega)).mono ?_; rintro e w4 ⟨p, rfl, hp, hp', hC4, hX4⟩; have e0 := hX4.cell d0 hne; have e1 := hX4.cell d1 hne; have e2 := hX4.cell d2 hne; have e3 := hX4.cell d3 hne; have tk1 : True := trivial)
    | (have t1 := tk1; clear t1 tk1; go_simp; go_at_call 83; refine (s_pick _ _ _ 60000 _ hC4 (by omega) (by omega)).mono ?_; rintro e w5 ⟨q, rfl, hq, hq', hC5, hX5⟩; have f0 := hX5.cell e0 hne; have f1 := hX5.cell e1 hne; have f2 := hX5.cell e2 hne; have f3 := hX5.cell e3 hne; obtain ⟨hCa, hIa, hOa, hXa⟩ := among_lit (t := 3) [(p : Int), (q : Int), 0, -1] hC5 rfl rfl (by simp) (by intro x hx; simp at hx; unfold Fits; omega); have g0 := cell_on f0 (bel_alloc w5 (.cells #[.int .i64 (p : Int), .int .i64 (q : Int), .int .i64 0, .int .i64 (-1)] 3)); have g1 := cell_on f1 (bel_alloc w5 (.cells #[.int .i64 (p : Int), .int .i64 (q : Int), .int .i64 0, .int .i64 (-1)] 3)); have g2 := cell_on f2 (bel_alloc w5 (.cells #[.int .i64 (p : Int), .int .i64 (q : Int), .int .i64 0, .int .i64 (-1)] 3)); have g3 := cell_on f3 (bel_alloc w5 (.cells #[.int .i64 (p : Int), .int .i64 (q : Int), .int .i64 0, .int .i64 (-1)] 3)))
    | (go_simp; go_at_call 85; refine (s_among _ _ _ _ 4 4 [(p : Int), (q : Int), 0, -1] _ hCa (by omega) hIa (by omega) (by omega) hOa).mono ?_; rintro e w6 ⟨u, rfl, hu, hC6, hX6⟩; simp at hu; have XX := Lib.hid (((hX4.trans hX5).trans hXa).trans hX6); have R6 := RR.out.bex XX.out (by omega); obtain ⟨⟨r0, r1, r2, r3⟩, s0, s1, s2, s3⟩ := R6; have l0 := hX6.cell g0 hne; have l1 := hX6.cell g1 hne; have l2 := hX6.cell g2 hne; have l3 := hX6.cell g3 hne))
  all_goals
    have hdu : Dw u := by unfold Dw; omega
    have E4 := (RR.out.bex XX.out (by omega)).set (.int .i64 x0) (.int .i64 x1) (.slice ga gn gc) (.slice oa on oc)
    obtain ⟨E0, E1, E2, E3⟩ := id E4.r
    have hz5 : w.heap.size + 1 < (w1.alloc (.cells #[.int .i64 x0, .int .i64 x1, .slice ga gn gc, .slice oa on oc] 31)).heap.size := by omega
    have F1 := Lib.hid (((MM.out.bex XX.out (by omega)).bex (Bex.only4 (g := w.heap.size) _ (.int .i64 x0) (.int .i64 x1) (.slice ga gn gc) (.slice oa on oc)) (by omega)).base (B' := w.heap.size) (by omega))
    have F2 := Lib.hid (((UU.out.bex XX.out hz5).bex (Bex.only4 (g := w.heap.size) _ (.int .i64 x0) (.int .i64 x1) (.slice ga gn gc) (.slice oa on oc)) (by omega)).base (B' := w.heap.size) (by omega))
    have F3 := Lib.hid (((VV.out.bex XX.out hz5).bex (Bex.only4 (g := w.heap.size) _ (.int .i64 x0) (.int .i64 x1) (.slice ga gn gc) (.slice oa on oc)) (by omega)).base (B' := w.heap.size) (by omega))
    have F4 := Lib.hid (bel_set4 (Below.bex BB.out XX.out (by omega) (by have : w3.drew.heap.size = w3.heap.size := rfl; omega)) (Nat.le_refl _) (.int .i64 x0) (.int .i64 x1) (.slice ga gn gc) (.slice oa on oc))
    clear GG RR BB CC MM UU VV d0 d1 d2 d3 e0 e1 e2 e3 f0 f1 f2 f3 g0 g1 g2 g3 l0 l1 l2 l3 hC4 hX4 hC5 hX5 hC6 hX6 hCa hIa hOa hXa XX
    go_wp2
    exact bodyPost_ret (v := .tuple #[.agg #[.int .i64 x0, .int .i64 x1, .slice ga gn gc, .slice oa on oc], .int .i64 u, .slice aa an ac, .slice ba bn bc]) (by simp [results, Try.results82, go_sem, E0, E1, E2, E3]) rfl ⟨x0, x1, ga, gn, gc, gs, oa, on, oc, os, u, aa, an, ac, us, ba, bn, bc, vs, rfl, F1.out, hdu, F2.out, F3.out, F4.out⟩
set_option maxHeartbeats 4000000 in
theorem s_DrawSharedWires (a : Option Addr) (n cap : Nat) (w : World) (hB : Byts w a n cap) :
    Calls Try.prog 35 #[.slice a n cap] w (HalvRet w) := by
  have A0 := bel_alloc w (.cells #[.int .i64 0, .int .i64 0, .slice none 0 0, .slice none 0 0] 31)
  have r0 := B4w.new (w := w) (x0 := .int .i64 0) (x1 := .int .i64 0) (x2 := .slice none 0 0) (x3 := .slice none 0 0) (t := 31)
  have hB1 := hB.below A0
  have hz := A0.size
  have hs0 : (w.alloc (.cells #[.int .i64 0, .int .i64 0, .slice none 0 0, .slice none 0 0] 31)).heap.size = w.heap.size + 1 := by simp
  go_enter Try.func35, Try.ntmps35
  go_wp2_with fail
  refine (s_DrawRunHalved a n cap _ hB1).mono ?_; rintro e w1 ⟨x0, x1, ga, gn, gc, gs, oa, on, oc, os, key, aa, an, ac, us, ba, bn, bc, vs, rfl, hM, hk, hU, hV, hb1⟩
  have r1 := r0.on hb1
  rw [hs0] at hM hU hV
  have E4 := r1.set (.int .i64 x0) (.int .i64 x1) (.slice ga gn gc) (.slice oa on oc)
  obtain ⟨E0, E1, E2, E3⟩ := id E4.r
  obtain ⟨⟨d0, d1, d2, d3⟩, s0, s1, s2, s3⟩ := r1
  have kx := Bex.only4 (g := w.heap.size) w1 (.int .i64 x0) (.int .i64 x1) (.slice ga gn gc) (.slice oa on oc)
  have F1 := Lib.hid ((hM.bex kx (by omega)).base (B' := w.heap.size) (by omega))
  have F2 := Lib.hid ((hU.bex kx (by omega)).base (B' := w.heap.size) (by omega))
  have F3 := Lib.hid ((hV.bex kx (by omega)).base (B' := w.heap.size) (by omega))
  have F4 := Lib.hid (bel_set4 (bel_trans A0 hb1) (Nat.le_refl _) (.int .i64 x0) (.int .i64 x1) (.slice ga gn gc) (.slice oa on oc))
  clear r0 hM hU hV hb1 kx A0 hB1
  go_wp2
  exact bodyPost_ret (v := .tuple #[.agg #[.int .i64 x0, .int .i64 x1, .slice ga gn gc, .slice oa on oc], .int .i64 key, .slice aa an ac, .slice ba bn bc]) (by simp [results, Try.results35, go_sem, E0, E1, E2, E3]) rfl ⟨x0, x1, ga, gn, gc, gs, oa, on, oc, os, key, aa, an, ac, us, ba, bn, bc, vs, rfl, F1.out, hk, F2.out, F3.out, F4.out⟩
end Go.Proofs.Ytmkcanbaleecfaa
