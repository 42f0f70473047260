/-
  Contracts: EvalArith where all is given well, both sides.
-/
import Derived.Test.YtfichpppjpgahaaBg
import Derived.Test.YtfichpppjpgahaaD2
namespace Go.Proofs.Ytfichpppjpgahaa
open Go.RowKit
set_option linter.unusedVariables false
set_option linter.unusedSimpArgs false
set_option maxRecDepth 10000

theorem els_join {p : Int} {us vs : List Int} (h : elsB p us = true) (k : elsB p vs = true) : Hid (∀ x ∈ us ++ vs, 0 ≤ x ∧ x < p) := by
  unfold elsB at h k
  rw [Bool.and_eq_true] at h k
  intro x hx
  rcases List.mem_append.1 hx with q | q
  · obtain ⟨i, hi, rfl⟩ := mem_nth q
    have := inB_iff.1 (allIn_iff.1 h.2 i hi); omega
  · obtain ⟨i, hi, rfl⟩ := mem_nth q
    have := inB_iff.1 (allIn_iff.1 k.2 i hi); omega
theorem fits_appA {xs ys : List Int} (hx : ∀ x ∈ xs, Fits x) (hy : ∀ x ∈ ys, Fits x) : ∀ x ∈ xs ++ ys, Fits x := fun x h => (List.mem_append.1 h).elim (hx x) (hy x)
set_option maxHeartbeats 1000000 in
theorem s_ciJoinA (aa : Option Addr) (an ac : Nat) (us : List Int) (ba : Option Addr) (bn bc : Nat) (vs : List Int) (w : World) (ha : Ints w aa an ac us) (hb : Ints w ba bn bc vs) (hn : an + bn ≤ 1000000) :
    Calls Try.prog 106 #[.slice aa an ac, .slice ba bn bc] w fun e w' => ∃ r c, e = .returned (.slice r (an + bn) c) ∧ OwnI 3 w' w.heap.size r (an + bn) c (us ++ vs) ∧ Below w.heap.size w w' := by
  have hwa := ha.wf; have hwb := hb.wf
  go_enter Try.func106, Try.ntmps106
  go_wp2_with fail
  refine (s_l1Own _ _ _ us _ ha (by omega)).mono ?_; rintro e w1 ⟨r, c, rfl, hI, hb1⟩
  have hb' := hb.below hb1
  have hz := hb1.size
  go_wp2_with (at_builtin; refine wp_apps w1 w.heap.size an _ us vs _ _ _ rfl _ _ rfl rfl rfl hb' hI.own hz (by omega) ?_; intro v9 w9 hv9 hb9 hg9)
  clear hg9
  obtain ⟨r9, c9, rfl, hM⟩ := OwnI.of hv9 (by omega) (fits_appA hwa.out hwb.out)
  have HM := Lib.hid hM; clear hM hv9
  go_wp2
  go_ret
  exact ⟨_, _, rfl, HM.out, hb1.trans hb9⟩
set_option maxHeartbeats 8000000 in
theorem s_arAskedG (p : Int) (ga : Option Addr) (gn gc : Nat) (gs : List Int) (oa : Option Addr) (on oc : Nat) (os : List Int) (aa : Option Addr) (an ac : Nat) (us : List Int) (ba : Option Addr) (bn bc : Nat) (vs : List Int) (w : World) (h : Circ w ga gn gc gs oa on oc os) (ha : Ints w aa an ac us) (hb : Ints w ba bn bc vs) (hAK : arC p an bn gs gn os = true) (hua : elsB p us = true) (hub : elsB p vs = true) :
    Calls Try.prog 105 #[.agg #[.int .i64 p, .int .i64 an, .int .i64 bn, .slice ga gn gc, .slice oa on oc], .slice aa an ac, .slice ba bn bc] w fun e w' => e = .returned (.bool true) ∧ Below w.heap.size w w' := by
  have hlo := h.o.len.out
  have A0 := bel_alloc w (.cells #[.int .i64 p, .int .i64 an, .int .i64 bn, .slice ga gn gc, .slice oa on oc] 48)
  have g0 := B5.new (w := w) (x0 := .int .i64 p) (x1 := .int .i64 an) (x2 := .int .i64 bn) (x3 := .slice ga gn gc) (x4 := .slice oa on oc) (t := 48)
  obtain ⟨c0, c1, c2, c3, c4⟩ := g0
  have zz := A0.size
  have HH := Lib.hid (h.below A0); have HA := Lib.hid (ha.below A0); have HB := Lib.hid (hb.below A0); clear h ha hb
  obtain ⟨hS, hGG, hOO⟩ := arC_iff.1 hAK
  obtain ⟨hpp, ⟨h01, h02⟩, ⟨h11, h12⟩, hn, hon⟩ := arS_iff.1 hS
  obtain ⟨hp1, hp2⟩ := prB_lo hpp
  have HOU := arOuts (n := an + bn + gn) hAK (by omega)
  rw [hlo] at HOU hon
  have HGT : Hid (gatesA p ((an + bn : Nat) : Int) gs gn = true) := by show _ = _; rw [show ((an + bn : Nat) : Int) = (an : Int) + bn by omega]; exact hGG
  have HU := els_join hua hub
  clear hS hGG hOO hpp
  go_enter Try.func105, Try.ntmps105
  go_wp2_with fail
  refine (s_arGood _ _ _ _ _ _ gs _ _ _ os _ HH.out).mono ?_; rintro e w1 ⟨rfl, hb1⟩; rw [hAK]
  replace c0 := cell_on c0 hb1; replace c1 := cell_on c1 hb1; replace c2 := cell_on c2 hb1; replace c3 := cell_on c3 hb1; replace c4 := cell_on c4 hb1
  have ha1 := HA.out.below hb1; have hb1' := HB.out.below hb1
  go_wp2_with fail
  refine (s_fpIn _ _ _ _ us _ ha1).mono ?_; rintro e w2 ⟨rfl, rfl⟩; rw [hua]
  go_wp2_with fail
  refine (s_fpIn _ _ _ _ vs _ hb1').mono ?_; rintro e w2 ⟨rfl, rfl⟩; rw [hub]
  go_wp2
  go_ret
  exact ⟨rfl, bel_trans A0 hb1⟩
set_option maxHeartbeats 8000000 in
theorem s_EvalArithG (p : Int) (ga : Option Addr) (gn gc : Nat) (gs : List Int) (oa : Option Addr) (on oc : Nat) (os : List Int) (aa : Option Addr) (an ac : Nat) (us : List Int) (ba : Option Addr) (bn bc : Nat) (vs : List Int) (w : World) (h : Circ w ga gn gc gs oa on oc os) (ha : Ints w aa an ac us) (hb : Ints w ba bn bc vs) (hAK : arC p an bn gs gn os = true) (hua : elsB p us = true) (hub : elsB p vs = true) :
    Calls Try.prog 44 #[.agg #[.int .i64 p, .int .i64 an, .int .i64 bn, .slice ga gn gc, .slice oa on oc], .slice aa an ac, .slice ba bn bc] w fun e w' => ∃ r c, e = .returned (.tuple #[.slice r on c, .bool true]) ∧ Mine w' w.heap.size r on c (pkL (avs p gs (us ++ vs) gn) os on) ∧ Below w.heap.size w w' := by
  have hlo := h.o.len.out
  have A0 := bel_alloc w (.cells #[.int .i64 p, .int .i64 an, .int .i64 bn, .slice ga gn gc, .slice oa on oc] 48)
  have g0 := B5.new (w := w) (x0 := .int .i64 p) (x1 := .int .i64 an) (x2 := .int .i64 bn) (x3 := .slice ga gn gc) (x4 := .slice oa on oc) (t := 48)
  obtain ⟨c0, c1, c2, c3, c4⟩ := g0
  have zz := A0.size
  have HH := Lib.hid (h.below A0); have HA := Lib.hid (ha.below A0); have HB := Lib.hid (hb.below A0); clear h ha hb
  obtain ⟨hS, hGG, hOO⟩ := arC_iff.1 hAK
  obtain ⟨hpp, ⟨h01, h02⟩, ⟨h11, h12⟩, hn, hon⟩ := arS_iff.1 hS
  obtain ⟨hp1, hp2⟩ := prB_lo hpp
  have HOU := arOuts (n := an + bn + gn) hAK (by omega)
  rw [hlo] at HOU hon
  have HGT : Hid (gatesA p ((an + bn : Nat) : Int) gs gn = true) := by show _ = _; rw [show ((an + bn : Nat) : Int) = (an : Int) + bn by omega]; exact hGG
  have HU := els_join hua hub
  clear hS hGG hOO hpp
  go_enter Try.func44, Try.ntmps44
  go_wp2_with fail
  refine (s_arAskedG _ _ _ _ gs _ _ _ os _ _ _ us _ _ _ vs _ HH.out HA.out HB.out hAK hua hub).mono ?_; rintro e w1 ⟨rfl, hb1⟩
  replace c0 := cell_on c0 hb1; replace c1 := cell_on c1 hb1; replace c2 := cell_on c2 hb1; replace c3 := cell_on c3 hb1; replace c4 := cell_on c4 hb1
  have HH1 := Lib.hid (HH.out.below hb1); have HA1 := Lib.hid (HA.out.below hb1); have HB1 := Lib.hid (HB.out.below hb1)
  go_wp2
  go_region_held3 (fun W => W.cell? ⟨w.heap.size, 0, none⟩ = some (.int .i64 p) ∧ W.cell? ⟨w.heap.size, 1, none⟩ = some (.int .i64 an) ∧ W.cell? ⟨w.heap.size, 2, none⟩ = some (.int .i64 bn) ∧ W.cell? ⟨w.heap.size, 3, none⟩ = some (.slice ga gn gc) ∧ W.cell? ⟨w.heap.size, 4, none⟩ = some (.slice oa on oc)) (exact ⟨c0, c1, c2, c3, c4⟩) (first | (go_at_call 106; refine (s_ciJoinA _ _ _ us _ _ _ vs _ (HA1.out.below (bel_drew _)) (HB1.out.below (bel_drew _)) (by omega)).mono ?_; rintro e w2 ⟨r2, k2, rfl, m2, hb2⟩; have hb3 := bel_trans (bel_drew _) hb2; have c0 := cell_on c0 hb3; have c1 := cell_on c1 hb3; have c2 := cell_on c2 hb3; have c3 := cell_on c3 hb3; have c4 := cell_on c4 hb3) | (go_at_call 96; refine (s_arValues _ _ _ _ _ _ gs _ _ _ os _ _ _ _ _ (HH1.out.below hb3) m2.ints HGT HU ⟨hp1, hp2⟩ (by omega)).mono ?_; rintro e w4 ⟨r4, k4, rfl, m4, hb4⟩; have hb5 := bel_trans hb3 hb4; have c0 := cell_on c0 hb4; have c1 := cell_on c1 hb4; have c2 := cell_on c2 hb4; have c3 := cell_on c3 hb4; have c4 := cell_on c4 hb4) | (go_at_call 101; refine (s_ciPick _ _ _ _ _ _ _ os _ m4.ints (HH1.out.o.below hb5) (by omega) HOU).mono ?_; rintro e w6 ⟨r6, k6, rfl, m6, hb6⟩; have hb7 := bel_trans hb5 hb6; have c0 := cell_on c0 hb6; have c1 := cell_on c1 hb6; have c2 := cell_on c2 hb6; have c3 := cell_on c3 hb6; have c4 := cell_on c4 hb6))
  have zy := (bel_trans hb1 hb5).size
  have HM := Lib.hid (m6.base (B' := w.heap.size) (by omega))
  clear m6 m4 m2
  go_wp2
  go_ret2
  exact ⟨_, _, rfl, HM.out, bel_trans (bel_trans A0 hb1) hb7⟩
set_option maxHeartbeats 8000000 in
theorem i_ArithValuesG (p : Int) (ga : Option Addr) (gn gc : Nat) (gs : List Int) (oa : Option Addr) (on oc : Nat) (os : List Int) (aa : Option Addr) (an ac : Nat) (us : List Int) (ba : Option Addr) (bn bc : Nat) (vs : List Int) (w : World) (h : Circ w ga gn gc gs oa on oc os) (ha : Ints w aa an ac us) (hb : Ints w ba bn bc vs) (hAK : arC p an bn gs gn os = true) (hua : elsB p us = true) (hub : elsB p vs = true) :
    Calls Try.prog 104 #[.agg #[.int .i64 p, .int .i64 an, .int .i64 bn, .slice ga gn gc, .slice oa on oc], .slice aa an ac, .slice ba bn bc] w fun e w' => ∃ r c, e = .returned (.tuple #[.slice r (an + bn + gn) c, .bool true]) ∧ Mine w' w.heap.size r (an + bn + gn) c (avs p gs (us ++ vs) gn) ∧ Below w.heap.size w w' := by
  have hlo := h.o.len.out
  have A0 := bel_alloc w (.cells #[.int .i64 p, .int .i64 an, .int .i64 bn, .slice ga gn gc, .slice oa on oc] 48)
  have g0 := B5.new (w := w) (x0 := .int .i64 p) (x1 := .int .i64 an) (x2 := .int .i64 bn) (x3 := .slice ga gn gc) (x4 := .slice oa on oc) (t := 48)
  obtain ⟨c0, c1, c2, c3, c4⟩ := g0
  have zz := A0.size
  have HH := Lib.hid (h.below A0); have HA := Lib.hid (ha.below A0); have HB := Lib.hid (hb.below A0); clear h ha hb
  obtain ⟨hS, hGG, hOO⟩ := arC_iff.1 hAK
  obtain ⟨hpp, ⟨h01, h02⟩, ⟨h11, h12⟩, hn, hon⟩ := arS_iff.1 hS
  obtain ⟨hp1, hp2⟩ := prB_lo hpp
  have HOU := arOuts (n := an + bn + gn) hAK (by omega)
  rw [hlo] at HOU hon
  have HGT : Hid (gatesA p ((an + bn : Nat) : Int) gs gn = true) := by show _ = _; rw [show ((an + bn : Nat) : Int) = (an : Int) + bn by omega]; exact hGG
  have HU := els_join hua hub
  clear hS hGG hOO hpp
  go_enter Try.func104, Try.ntmps104
  go_wp2_with fail
  refine (i_IsArith _ _ _ _ _ _ gs _ _ _ os _ HH.out).mono ?_; rintro e w1 ⟨rfl, hb1⟩; rw [hAK]
  replace c0 := cell_on c0 hb1; replace c1 := cell_on c1 hb1; replace c2 := cell_on c2 hb1; replace c3 := cell_on c3 hb1; replace c4 := cell_on c4 hb1
  have ha1 := HA.out.below hb1; have hb1' := HB.out.below hb1
  go_wp2_with fail
  refine (i_areElements _ _ _ _ us _ ha1).mono ?_; rintro e w2 ⟨rfl, hb2⟩; rw [hua]
  replace c0 := cell_on c0 hb2; replace c1 := cell_on c1 hb2; replace c2 := cell_on c2 hb2; replace c3 := cell_on c3 hb2; replace c4 := cell_on c4 hb2
  go_wp2_with fail
  refine (i_areElements _ _ _ _ vs _ (hb1'.below hb2)).mono ?_; rintro e w3 ⟨rfl, hb3⟩; rw [hub]
  replace c0 := cell_on c0 hb3; replace c1 := cell_on c1 hb3; replace c2 := cell_on c2 hb3; replace c3 := cell_on c3 hb3; replace c4 := cell_on c4 hb3
  have hb0 := bel_trans (bel_trans hb1 hb2) hb3
  have HH1 := Lib.hid (HH.out.below hb0); have HA1 := Lib.hid (HA.out.below hb0); have HB1 := Lib.hid (HB.out.below hb0)
  clear ha1 hb1'
  go_wp2
  go_region_held3 (fun W => W.cell? ⟨w.heap.size, 0, none⟩ = some (.int .i64 p) ∧ W.cell? ⟨w.heap.size, 1, none⟩ = some (.int .i64 an) ∧ W.cell? ⟨w.heap.size, 2, none⟩ = some (.int .i64 bn) ∧ W.cell? ⟨w.heap.size, 3, none⟩ = some (.slice ga gn gc) ∧ W.cell? ⟨w.heap.size, 4, none⟩ = some (.slice oa on oc)) (exact ⟨c0, c1, c2, c3, c4⟩) (first | (go_at_call 121; refine (i_with _ _ _ us _ _ _ vs _ (HA1.out.below (bel_drew _)) (HB1.out.below (bel_drew _)) (by omega) (by omega)).mono ?_; rintro e w4 ⟨r4, k4, rfl, m4, hb4⟩; have hb5 := bel_trans (bel_drew _) hb4; have c0 := cell_on c0 hb5; have c1 := cell_on c1 hb5; have c2 := cell_on c2 hb5; have c3 := cell_on c3 hb5; have c4 := cell_on c4 hb5) | (go_at_call 92; refine (i_arValues _ _ _ _ _ _ gs _ _ _ os _ _ _ _ _ (HH1.out.below hb5) m4 HGT HU ⟨hp1, hp2⟩ (by omega)).mono ?_; rintro e w6 ⟨r6, k6, rfl, m6, hb6⟩; have hb7 := bel_trans hb5 hb6; have c0 := cell_on c0 hb6; have c1 := cell_on c1 hb6; have c2 := cell_on c2 hb6; have c3 := cell_on c3 hb6; have c4 := cell_on c4 hb6))
  have zy := (bel_trans hb0 hb5).size
  have HM := Lib.hid (m6.base (B' := w.heap.size) (by omega))
  clear m6 m4
  go_wp2
  go_ret2
  exact ⟨_, _, rfl, HM.out, bel_trans (bel_trans A0 hb0) hb7⟩
set_option maxHeartbeats 8000000 in
theorem i_EvalArithG (p : Int) (ga : Option Addr) (gn gc : Nat) (gs : List Int) (oa : Option Addr) (on oc : Nat) (os : List Int) (aa : Option Addr) (an ac : Nat) (us : List Int) (ba : Option Addr) (bn bc : Nat) (vs : List Int) (w : World) (h : Circ w ga gn gc gs oa on oc os) (ha : Ints w aa an ac us) (hb : Ints w ba bn bc vs) (hAK : arC p an bn gs gn os = true) (hua : elsB p us = true) (hub : elsB p vs = true) :
    Calls Try.prog 43 #[.agg #[.int .i64 p, .int .i64 an, .int .i64 bn, .slice ga gn gc, .slice oa on oc], .slice aa an ac, .slice ba bn bc] w fun e w' => ∃ r c, e = .returned (.tuple #[.slice r on c, .bool true]) ∧ Mine w' w.heap.size r on c (pkL (avs p gs (us ++ vs) gn) os on) ∧ Below w.heap.size w w' := by
  have hlo := h.o.len.out
  have A0 := bel_alloc w (.cells #[.int .i64 p, .int .i64 an, .int .i64 bn, .slice ga gn gc, .slice oa on oc] 48)
  have g0 := B5.new (w := w) (x0 := .int .i64 p) (x1 := .int .i64 an) (x2 := .int .i64 bn) (x3 := .slice ga gn gc) (x4 := .slice oa on oc) (t := 48)
  obtain ⟨c0, c1, c2, c3, c4⟩ := g0
  have zz := A0.size
  have HH := Lib.hid (h.below A0); have HA := Lib.hid (ha.below A0); have HB := Lib.hid (hb.below A0); clear h ha hb
  obtain ⟨hS, hGG, hOO⟩ := arC_iff.1 hAK
  obtain ⟨hpp, ⟨h01, h02⟩, ⟨h11, h12⟩, hn, hon⟩ := arS_iff.1 hS
  obtain ⟨hp1, hp2⟩ := prB_lo hpp
  have HOU := arOuts (n := an + bn + gn) hAK (by omega)
  rw [hlo] at HOU hon
  have HGT : Hid (gatesA p ((an + bn : Nat) : Int) gs gn = true) := by show _ = _; rw [show ((an + bn : Nat) : Int) = (an : Int) + bn by omega]; exact hGG
  have HU := els_join hua hub
  clear hS hGG hOO hpp
  go_enter Try.func43, Try.ntmps43
  go_wp2_with fail
  refine (i_ArithValuesG _ _ _ _ gs _ _ _ os _ _ _ us _ _ _ vs _ HH.out HA.out HB.out hAK hua hub).mono ?_; rintro e w1 ⟨r1, k1, rfl, m1, hb1⟩
  replace c0 := cell_on c0 hb1; replace c1 := cell_on c1 hb1; replace c2 := cell_on c2 hb1; replace c3 := cell_on c3 hb1; replace c4 := cell_on c4 hb1
  have HH1 := Lib.hid (HH.out.below hb1)
  go_wp2_with fail
  refine (i_at _ _ _ _ _ _ _ os _ m1.ints HH1.out.o (by omega) HOU).mono ?_; rintro e w6 ⟨r6, k6, rfl, m6, hb6⟩
  have zy := hb1.size
  have HM := Lib.hid (m6.base (B' := w.heap.size) (by omega))
  clear m6 m1
  go_wp2
  go_ret2
  exact ⟨_, _, rfl, HM.out, bel_trans (bel_trans A0 hb1) hb6⟩
end Go.Proofs.Ytfichpppjpgahaa
