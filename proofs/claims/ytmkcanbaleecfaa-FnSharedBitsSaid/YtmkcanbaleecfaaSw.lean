/-
  Contracts: WireValues, both sides; EvalCircuit, the program's side.
-/
import Derived.Test.YtmkcanbaleecfaaSv
namespace Go.Proofs.Ytmkcanbaleecfaa
open Go.RowKit
set_option linter.unusedVariables false
set_option linter.unusedSimpArgs false
set_option maxRecDepth 10000

def valAll (i0 i1 : Int) (gs : List Int) (gn : Nat) (os us vs : List Int) : List Int × Bool := if askB i0 i1 gs gn os us vs then (valS gs (us ++ vs) gn, true) else ([], false)
def evAll (i0 i1 : Int) (gs : List Int) (gn : Nat) (os us vs : List Int) : List Int × Bool := if askB i0 i1 gs gn os us vs then (pkL (valS gs (us ++ vs) gn) os os.length, true) else ([], false)
theorem bit1.app {l m : List Int} (h : bit1 l) (k : bit1 m) : bit1 (l ++ m) := fun x hx => (List.mem_append.1 hx).elim (h x) (k x)
/-- What a checked circuit and its inputs give. -/
theorem ask_facts {i0 i1 : Int} {gs os us vs : List Int} {gn an bn : Nat} (h : askB i0 i1 gs gn os us vs = true) (ha : us.length = an) (hb : vs.length = bn) :
    Hid (gatesB (((an + bn : Nat)) : Int) gs gn = true) ∧ Hid (bit1 (us ++ vs)) ∧ an + bn + gn ≤ 1000 := by
  obtain ⟨hcc, hu, hv, e0, e1⟩ := askB_iff.1 h
  have hl2 := askB_len h
  obtain ⟨_, _, hgn, _⟩ := circB_in hcc
  have := (circB_iff.1 hcc).2.1
  rw [← e0, ← e1, ha, hb] at this
  refine ⟨?_, (bit1.of hu).app (bit1.of hv), by omega⟩
  show _ = _
  rw [show (((an + bn : Nat)) : Int) = (an : Int) + (bn : Int) by omega]; exact this

set_option maxHeartbeats 4000000 in
theorem s_WireValues (i0 i1 : Int) (ga : Option Addr) (gn gc : Nat) (gs : List Int) (oa : Option Addr) (on oc : Nat) (os : List Int) (aa : Option Addr) (an ac : Nat) (us : List Int) (ba : Option Addr) (bn bc : Nat) (vs : List Int) (w : World) (h : Circ w ga gn gc gs oa on oc os) (ha : Ints w aa an ac us) (hb : Ints w ba bn bc vs) :
    Calls Try.prog 42 #[.agg #[.int .i64 i0, .int .i64 i1, .slice ga gn gc, .slice oa on oc], .slice aa an ac, .slice ba bn bc] w fun e w' => ∃ r c, e = .returned (.tuple #[.slice r (valAll i0 i1 gs gn os us vs).1.length c, .bool (valAll i0 i1 gs gn os us vs).2]) ∧ Mine w' w.heap.size r (valAll i0 i1 gs gn os us vs).1.length c (valAll i0 i1 gs gn os us vs).1 ∧ Below w.heap.size w w' := by
  have hla := ha.len.out; have hlb := hb.len.out
  have A0 := bel_alloc w (.cells #[.int .i64 i0, .int .i64 i1, .slice ga gn gc, .slice oa on oc] 31)
  have g0 := B4.new (w := w) (x0 := .int .i64 i0) (x1 := .int .i64 i1) (x2 := .slice ga gn gc) (x3 := .slice oa on oc) (t := 31)
  obtain ⟨c0, c1, c2, c3⟩ := g0
  replace h := h.below A0; replace ha := ha.below A0; replace hb := hb.below A0
  unfold valAll
  cases hA : askB i0 i1 gs gn os us vs with
  | false =>
    go_enter Try.func42, Try.ntmps42
    go_wp2_with fail
    refine (s_ciAsked _ _ _ _ _ gs _ _ _ os _ _ _ us _ _ _ vs _ h ha hb).mono ?_; rintro e w1 ⟨rfl, hb1⟩; rw [hA]
    go_wp2
    go_ret2
    exact ⟨_, _, rfl, Mine.nil, bel_trans A0 hb1⟩
  | true =>
    rw [if_pos rfl]
    obtain ⟨HG, HU, hN⟩ := ask_facts hA hla hlb
    have HL : Hid ((valS gs (us ++ vs) gn).length = an + bn + gn) := by show _ = _; rw [valS_len, List.length_append, hla, hlb]
    have HA := Lib.hid hA; clear hA hla hlb
    go_enter Try.func42, Try.ntmps42
    go_wp2_with fail
    refine (s_ciAsked _ _ _ _ _ gs _ _ _ os _ _ _ us _ _ _ vs _ h ha hb).mono ?_; rintro e w1 ⟨rfl, hb1⟩; rw [HA.out]
    replace c0 := cell_on c0 hb1; replace c1 := cell_on c1 hb1; replace c2 := cell_on c2 hb1; replace c3 := cell_on c3 hb1
    have HC := Lib.hid (h.below hb1); have HAA := Lib.hid (ha.below hb1); have HBB := Lib.hid (hb.below hb1); have HB := Lib.hid (bel_trans A0 hb1); have zz := HB.out.size; clear h ha hb hb1 A0 HA
    go_wp2_with fail
    have tok : True := trivial
    go_region_held3 (fun W => W.cell? ⟨w.heap.size, 0, none⟩ = some (.int .i64 i0) ∧ W.cell? ⟨w.heap.size, 1, none⟩ = some (.int .i64 i1) ∧ W.cell? ⟨w.heap.size, 2, none⟩ = some (.slice ga gn gc) ∧ W.cell? ⟨w.heap.size, 3, none⟩ = some (.slice oa on oc)) (exact ⟨c0, c1, c2, c3⟩) (first | (have t0 := tok; clear t0 tok; go_at_call 91; refine (s_ciJoin _ _ _ us _ _ _ vs _ (HAA.out.below (bel_drew _)) (HBB.out.below (bel_drew _)) (by omega)).mono ?_; rintro e w3 ⟨r3, k3, rfl, hj, hb3⟩; have hb4 := bel_trans (bel_drew _) hb3; have HC := Lib.hid (HC.out.below hb4); have HB := Lib.hid (bel_trans HB.out hb4); have HJ := Lib.hid (hj.ints); have c0 := cell_on c0 hb4; have c1 := cell_on c1 hb4; have c2 := cell_on c2 hb4; have c3 := cell_on c3 hb4; clear hb3 hb4 hj HAA HBB) | (have t0 := HJ; clear t0; go_at_call 90; refine (s_ciValues _ _ _ _ _ gs _ _ _ os _ _ _ (us ++ vs) _ HC.out HJ.out HG HU (by omega)).mono ?_; rintro e w5 ⟨r5, k5, rfl, m5, hb5⟩; have zq := HB.out.size; have M := Lib.hid (m5.base zq); have HB5 := Lib.hid (bel_trans HB.out hb5); have c0 := cell_on c0 hb5; have c1 := cell_on c1 hb5; have c2 := cell_on c2 hb5; have c3 := cell_on c3 hb5; clear hb5 m5))
    go_wp2
    go_ret2
    refine ⟨r5, k5, ?_, ?_, HB5.out⟩
    · rw [HL.out]; rfl
    · rw [HL.out]; exact M.out
set_option maxHeartbeats 4000000 in
theorem i_WireValues (i0 i1 : Int) (ga : Option Addr) (gn gc : Nat) (gs : List Int) (oa : Option Addr) (on oc : Nat) (os : List Int) (aa : Option Addr) (an ac : Nat) (us : List Int) (ba : Option Addr) (bn bc : Nat) (vs : List Int) (w : World) (h : Circ w ga gn gc gs oa on oc os) (ha : Ints w aa an ac us) (hb : Ints w ba bn bc vs) :
    Calls Try.prog 41 #[.agg #[.int .i64 i0, .int .i64 i1, .slice ga gn gc, .slice oa on oc], .slice aa an ac, .slice ba bn bc] w fun e w' => ∃ r c, e = .returned (.tuple #[.slice r (valAll i0 i1 gs gn os us vs).1.length c, .bool (valAll i0 i1 gs gn os us vs).2]) ∧ Mine w' w.heap.size r (valAll i0 i1 gs gn os us vs).1.length c (valAll i0 i1 gs gn os us vs).1 ∧ Below w.heap.size w w' := by
  have hla := ha.len.out; have hlb := hb.len.out
  have A0 := bel_alloc w (.cells #[.int .i64 i0, .int .i64 i1, .slice ga gn gc, .slice oa on oc] 31)
  have g0 := B4.new (w := w) (x0 := .int .i64 i0) (x1 := .int .i64 i1) (x2 := .slice ga gn gc) (x3 := .slice oa on oc) (t := 31)
  obtain ⟨c0, c1, c2, c3⟩ := g0
  replace h := h.below A0; replace ha := ha.below A0; replace hb := hb.below A0
  unfold valAll
  cases hA : askB i0 i1 gs gn os us vs with
  | false =>
    go_enter Try.func41, Try.ntmps41
    go_wp2_with fail
    refine (i_areInputs _ _ _ _ _ gs _ _ _ os _ _ _ us _ _ _ vs _ h ha hb).mono ?_; rintro e w1 ⟨rfl, hb1⟩; rw [hA]
    go_wp2
    go_ret2
    exact ⟨_, _, rfl, Mine.nil, bel_trans A0 hb1⟩
  | true =>
    rw [if_pos rfl]
    obtain ⟨HG, HU, hN⟩ := ask_facts hA hla hlb
    have HL : Hid ((valS gs (us ++ vs) gn).length = an + bn + gn) := by show _ = _; rw [valS_len, List.length_append, hla, hlb]
    have HA := Lib.hid hA; clear hA hla hlb
    go_enter Try.func41, Try.ntmps41
    go_wp2_with fail
    refine (i_areInputs _ _ _ _ _ gs _ _ _ os _ _ _ us _ _ _ vs _ h ha hb).mono ?_; rintro e w1 ⟨rfl, hb1⟩; rw [HA.out]
    replace c0 := cell_on c0 hb1; replace c1 := cell_on c1 hb1; replace c2 := cell_on c2 hb1; replace c3 := cell_on c3 hb1
    have HC := Lib.hid (h.below hb1); have HAA := Lib.hid (ha.below hb1); have HBB := Lib.hid (hb.below hb1); have HB := Lib.hid (bel_trans A0 hb1); have zz := HB.out.size; clear h ha hb hb1 A0 HA
    go_wp2_with fail
    have tok : True := trivial
    go_region_held3 (fun W => W.cell? ⟨w.heap.size, 0, none⟩ = some (.int .i64 i0) ∧ W.cell? ⟨w.heap.size, 1, none⟩ = some (.int .i64 i1) ∧ W.cell? ⟨w.heap.size, 2, none⟩ = some (.slice ga gn gc) ∧ W.cell? ⟨w.heap.size, 3, none⟩ = some (.slice oa on oc)) (exact ⟨c0, c1, c2, c3⟩) (first | (have t0 := tok; clear t0 tok; go_at_call 88; refine (i_with _ _ _ us _ _ _ vs _ (HAA.out.below (bel_drew _)) (HBB.out.below (bel_drew _)) (by omega) (by omega)).mono ?_; rintro e w3 ⟨r3, k3, rfl, hj, hb3⟩; have hb4 := bel_trans (bel_drew _) hb3; have HC := Lib.hid (HC.out.below hb4); have HB := Lib.hid (bel_trans HB.out hb4); have HJ := Lib.hid (hj); have c0 := cell_on c0 hb4; have c1 := cell_on c1 hb4; have c2 := cell_on c2 hb4; have c3 := cell_on c3 hb4; clear hb3 hb4 hj HAA HBB) | (have t0 := HJ; clear t0; go_at_call 87; refine (i_values _ _ _ _ _ gs _ _ _ os _ _ _ (us ++ vs) _ HC.out HJ.out HG HU (by omega)).mono ?_; rintro e w5 ⟨r5, k5, rfl, m5, hb5⟩; have zq := HB.out.size; have M := Lib.hid (m5.base zq); have HB5 := Lib.hid (bel_trans HB.out hb5); have c0 := cell_on c0 hb5; have c1 := cell_on c1 hb5; have c2 := cell_on c2 hb5; have c3 := cell_on c3 hb5; clear hb5 m5))
    go_wp2
    go_ret2
    refine ⟨r5, k5, ?_, ?_, HB5.out⟩
    · rw [HL.out]; rfl
    · rw [HL.out]; exact M.out
set_option maxHeartbeats 4000000 in
theorem i_EvalCircuit (i0 i1 : Int) (ga : Option Addr) (gn gc : Nat) (gs : List Int) (oa : Option Addr) (on oc : Nat) (os : List Int) (aa : Option Addr) (an ac : Nat) (us : List Int) (ba : Option Addr) (bn bc : Nat) (vs : List Int) (w : World) (h : Circ w ga gn gc gs oa on oc os) (ha : Ints w aa an ac us) (hb : Ints w ba bn bc vs) :
    Calls Try.prog 43 #[.agg #[.int .i64 i0, .int .i64 i1, .slice ga gn gc, .slice oa on oc], .slice aa an ac, .slice ba bn bc] w fun e w' => ∃ r c, e = .returned (.tuple #[.slice r (evAll i0 i1 gs gn os us vs).1.length c, .bool (evAll i0 i1 gs gn os us vs).2]) ∧ Mine w' w.heap.size r (evAll i0 i1 gs gn os us vs).1.length c (evAll i0 i1 gs gn os us vs).1 ∧ Below w.heap.size w w' := by
  have hla := ha.len.out; have hlb := hb.len.out; have hlo := h.o.len.out
  have A0 := bel_alloc w (.cells #[.int .i64 i0, .int .i64 i1, .slice ga gn gc, .slice oa on oc] 31)
  have g0 := B4.new (w := w) (x0 := .int .i64 i0) (x1 := .int .i64 i1) (x2 := .slice ga gn gc) (x3 := .slice oa on oc) (t := 31)
  obtain ⟨c0, c1, c2, c3⟩ := g0
  replace h := h.below A0; replace ha := ha.below A0; replace hb := hb.below A0
  have HC := i_WireValues i0 i1 ga gn gc gs oa on oc os aa an ac us ba bn bc vs _ h ha hb
  unfold evAll; unfold valAll at HC
  cases hA : askB i0 i1 gs gn os us vs with
  | false =>
    rw [hA] at HC
    go_enter Try.func43, Try.ntmps43
    go_wp2_with fail
    refine HC.mono ?_; clear HC; rintro e w1 ⟨r, c, rfl, hM, hb1⟩
    go_wp2
    go_ret2
    exact ⟨_, _, rfl, Mine.nil, bel_trans A0 hb1⟩
  | true =>
    rw [hA, if_pos rfl] at HC; rw [if_pos rfl]
    obtain ⟨HG, HU, hN⟩ := ask_facts hA hla hlb
    obtain ⟨hcc, _, _, e0, e1⟩ := askB_iff.1 hA; have hon := (circB_in hcc).2.2.2
    have HOI := outs_in (n := an + bn + gn) hcc (by omega)
    rw [hlo] at HOI hon; clear hcc
    have HL : Hid ((valS gs (us ++ vs) gn).length = an + bn + gn) := by show _ = _; rw [valS_len, List.length_append, hla, hlb]
    have HLO := Lib.hid hlo
    simp only [HL.out] at HC
    have zz := A0.size
    clear hA hla hlb hlo e0 e1 ha hb HG HU
    go_enter Try.func43, Try.ntmps43
    go_wp2_with fail
    refine HC.mono ?_; clear HC; rintro e w1 ⟨r, c, rfl, hM, hb1⟩
    replace c3 := cell_on c3 hb1
    have HB := Lib.hid (bel_trans A0 hb1); have HM := Lib.hid hM.ints; have HO := Lib.hid (h.o.below hb1); clear hM h hb1 A0
    have z1 := HB.out.size
    go_wp2_with fail
    refine (i_at _ _ _ _ _ _ _ os _ HM.out HO.out (by omega) HOI).mono ?_; rintro e w5 ⟨r5, k5, rfl, m5, hb5⟩
    have M := Lib.hid (m5.base z1); have HB5 := Lib.hid (bel_trans HB.out hb5); clear m5 hb5
    go_wp2
    go_ret2
    have hpl : (pkL (valS gs (us ++ vs) gn) os os.length).length = on := by rw [HLO.out]; simp [pkL]
    refine ⟨r5, k5, ?_, ?_, HB5.out⟩
    · rw [hpl]; rfl
    · rw [hpl, HLO.out]; exact M.out
end Go.Proofs.Ytmkcanbaleecfaa
