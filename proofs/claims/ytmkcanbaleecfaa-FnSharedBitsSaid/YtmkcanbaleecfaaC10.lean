/-
  Contracts: SharedWires, OpenedFor, both sides.
-/
import Derived.Test.YtmkcanbaleecfaaC9i
namespace Go.Proofs.Ytmkcanbaleecfaa
open Go.RowKit
set_option linter.unusedVariables false
set_option linter.unusedSimpArgs false
set_option maxRecDepth 10000

def runAll (i0 i1 : Int) (gs : List Int) (gn : Nat) (os : List Int) (key : Int) (us vs : List Int) : List Int × List Int × List Int × Bool :=
  if askB i0 i1 gs gn os us vs && keyB key then ((runR key gs us vs gn).1, (runR key gs us vs gn).2.1, (runR key gs us vs gn).2.2, true) else ([], [], [], false)
theorem runR_ok (key : Int) {i0 i1 : Int} {gs os us vs : List Int} {gn : Nat} (h : askB i0 i1 gs gn os us vs = true) : ∃ c, RunOk (us.length + vs.length) gn c (runR key gs us vs gn).1 (runR key gs us vs gn).2.1 (runR key gs us vs gn).2.2 := by
  obtain ⟨hcc, hu, hv, _, _⟩ := askB_iff.1 h
  obtain ⟨_, _, hgn, _⟩ := circB_in hcc
  exact runS_ok key (by rw [shU_len]) (by rw [shV_len]) (shU_bit hu) (shV_bit hv) gn (by omega)
theorem runAll_len (i0 i1 : Int) (gs : List Int) (gn : Nat) (os : List Int) (key : Int) (us vs : List Int) : (runAll i0 i1 gs gn os key us vs).1.length ≤ 340 ∧ (runAll i0 i1 gs gn os key us vs).2.1.length ≤ 340 ∧ (runAll i0 i1 gs gn os key us vs).2.2.1.length ≤ 900 ∧ (runAll i0 i1 gs gn os key us vs).2.2.1.length % 3 = 0 := by
  unfold runAll
  split
  · rename_i h
    have hA := (Bool.and_eq_true_iff.1 h).1
    have := askB_len hA
    obtain ⟨c, OK⟩ := runR_ok key hA
    obtain ⟨hcc, _⟩ := askB_iff.1 hA
    have hgn := (circB_in hcc).2.2.1
    have h1 := OK.lu; have h2 := OK.lv; have h3 := OK.lo; have h4 := OK.ck
    simp only []
    omega
  · simp

set_option maxHeartbeats 4000000 in
theorem s_SharedWires (i0 i1 : Int) (ga : Option Addr) (gn gc : Nat) (gs : List Int) (oa : Option Addr) (on oc : Nat) (os : List Int) (key : Int) (aa : Option Addr) (an ac : Nat) (us : List Int) (ba : Option Addr) (bn bc : Nat) (vs : List Int) (w : World) (h : Circ w ga gn gc gs oa on oc os) (hk : Fits key) (ha : Ints w aa an ac us) (hb : Ints w ba bn bc vs) :
    Calls Try.prog 22 #[.agg #[.int .i64 i0, .int .i64 i1, .slice ga gn gc, .slice oa on oc], .int .i64 key, .slice aa an ac, .slice ba bn bc] w fun e w' => TwoA (runAll i0 i1 gs gn os key us vs).1 (runAll i0 i1 gs gn os key us vs).2.1 (runAll i0 i1 gs gn os key us vs).2.2.2 w e w' := by
  have hla := ha.len.out; have hlb := hb.len.out
  have A0 := bel_alloc w (.cells #[.int .i64 i0, .int .i64 i1, .slice ga gn gc, .slice oa on oc] 31)
  have g0 := B4.new (w := w) (x0 := .int .i64 i0) (x1 := .int .i64 i1) (x2 := .slice ga gn gc) (x3 := .slice oa on oc) (t := 31)
  obtain ⟨c0, c1, c2, c3⟩ := g0
  replace h := h.below A0; replace ha := ha.below A0; replace hb := hb.below A0
  unfold runAll
  cases hAK : (askB i0 i1 gs gn os us vs && keyB key) with
  | false =>
    go_enter Try.func22, Try.ntmps22
    go_wp2_with fail
    refine (s_sbAsked _ _ _ _ _ gs _ _ _ os _ _ _ _ us _ _ _ vs _ h ha hb).mono ?_; rintro e w1 ⟨rfl, hb1⟩; rw [hAK]
    go_wp2
    go_ret3
    exact ⟨_, _, _, _, rfl, Mine.nil, Mine.nil, Apart.zero, bel_trans A0 hb1⟩
  | true =>
    obtain ⟨hA, hK⟩ := Bool.and_eq_true_iff.1 hAK
    rw [if_pos rfl]
    have HRO := Lib.hid (runR_ok key hA)
    obtain ⟨hcc, hu, hv, e0, e1⟩ := askB_iff.1 hA; have hgn := (circB_in hcc).2.2.1; have hl2 := askB_len hA; replace hk := keyB_iff.1 hK; clear hcc hu hv
    go_enter Try.func22, Try.ntmps22
    go_wp2_with fail
    refine (s_sbAsked _ _ _ _ _ gs _ _ _ os _ _ _ _ us _ _ _ vs _ h ha hb).mono ?_; rintro e w1 ⟨rfl, hb1⟩; rw [hAK]
    replace c0 := cell_on c0 hb1; replace c1 := cell_on c1 hb1; replace c2 := cell_on c2 hb1; replace c3 := cell_on c3 hb1
    go_wp2_with fail
    refine (s_sbRun _ _ _ _ _ gs _ _ _ os key _ _ _ us _ _ _ vs _ (h.below hb1) hk (ha.below hb1) (hb.below hb1) hA).mono ?_; rintro e w5 ⟨v1, v2, v3, c, rfl, OK, T, hb5⟩
    have B5 := bel_trans (bel_trans A0 hb1) hb5; have zz := (bel_trans A0 hb1).size
    rw [hla] at hl2; rw [hlb] at hl2
    obtain ⟨a1, k1, a2, k2, rfl, rfl, m1, m2, ap⟩ := T.duo.two (w0 := w) (by omega) (by omega) OK.bu.fit OK.bv.fit zz
    have HL : Hid ((runR key gs us vs gn).1.length = an + bn + gn ∧ (runR key gs us vs gn).2.1.length = an + bn + gn) := ⟨OK.lu, OK.lv⟩
    have HM := Lib.hid (And.intro m1 (And.intro m2 ap)); clear m1 m2 ap T OK c0 c1 c2 c3
    go_wp2
    go_ret3
    refine ⟨a1, k1, a2, k2, ?_, ?_, ?_, ?_, B5⟩
    · rw [HL.out.1, HL.out.2]; rfl
    · rw [HL.out.1]; exact HM.out.1
    · rw [HL.out.2]; exact HM.out.2.1
    · rw [HL.out.1, HL.out.2]; exact HM.out.2.2
set_option maxHeartbeats 4000000 in
theorem i_SharedWires (i0 i1 : Int) (ga : Option Addr) (gn gc : Nat) (gs : List Int) (oa : Option Addr) (on oc : Nat) (os : List Int) (key : Int) (aa : Option Addr) (an ac : Nat) (us : List Int) (ba : Option Addr) (bn bc : Nat) (vs : List Int) (w : World) (h : Circ w ga gn gc gs oa on oc os) (hk : Fits key) (ha : Ints w aa an ac us) (hb : Ints w ba bn bc vs) :
    Calls Try.prog 23 #[.agg #[.int .i64 i0, .int .i64 i1, .slice ga gn gc, .slice oa on oc], .int .i64 key, .slice aa an ac, .slice ba bn bc] w fun e w' => TwoA (runAll i0 i1 gs gn os key us vs).1 (runAll i0 i1 gs gn os key us vs).2.1 (runAll i0 i1 gs gn os key us vs).2.2.2 w e w' := by
  have hla := ha.len.out; have hlb := hb.len.out
  have A0 := bel_alloc w (.cells #[.int .i64 i0, .int .i64 i1, .slice ga gn gc, .slice oa on oc] 31)
  have g0 := B4.new (w := w) (x0 := .int .i64 i0) (x1 := .int .i64 i1) (x2 := .slice ga gn gc) (x3 := .slice oa on oc) (t := 31)
  obtain ⟨c0, c1, c2, c3⟩ := g0
  replace h := h.below A0; replace ha := ha.below A0; replace hb := hb.below A0
  unfold runAll
  cases hA : askB i0 i1 gs gn os us vs with
  | false =>
    go_enter Try.func23, Try.ntmps23
    go_wp2_with fail
    refine (i_areInputs _ _ _ _ _ gs _ _ _ os _ _ _ us _ _ _ vs _ h ha hb).mono ?_; rintro e w1 ⟨rfl, hb1⟩; rw [hA]
    go_wp2
    go_ret3
    exact ⟨_, _, _, _, rfl, Mine.nil, Mine.nil, Apart.zero, bel_trans A0 hb1⟩
  | true =>
    cases hK : keyB key with
    | false =>
      go_enter Try.func23, Try.ntmps23
      go_wp2_with fail
      refine (i_areInputs _ _ _ _ _ gs _ _ _ os _ _ _ us _ _ _ vs _ h ha hb).mono ?_; rintro e w1 ⟨rfl, hb1⟩; rw [hA]
      go_wp2_with (go_at_call 56; refine (i_isKey _ _).mono ?_; rintro e w2 ⟨rfl, rfl⟩; rw [hK])
      go_ret3
      exact ⟨_, _, _, _, rfl, Mine.nil, Mine.nil, Apart.zero, bel_trans A0 hb1⟩
    | true =>
      rw [if_pos (show (true && true) = true from rfl)]
      have HRO := Lib.hid (runR_ok key hA)
      obtain ⟨hcc, hu, hv, e0, e1⟩ := askB_iff.1 hA; have hgn := (circB_in hcc).2.2.1; have hl2 := askB_len hA; replace hk := keyB_iff.1 hK; clear hcc hu hv
      go_enter Try.func23, Try.ntmps23
      go_wp2_with fail
      refine (i_areInputs _ _ _ _ _ gs _ _ _ os _ _ _ us _ _ _ vs _ h ha hb).mono ?_; rintro e w1 ⟨rfl, hb1⟩; rw [hA]
      replace c0 := cell_on c0 hb1; replace c1 := cell_on c1 hb1; replace c2 := cell_on c2 hb1; replace c3 := cell_on c3 hb1
      go_wp2_with fail
      refine (i_isKey _ _).mono ?_; rintro e w2 ⟨rfl, rfl⟩; rw [hK]
      go_wp2_with fail
      refine (i_sharedWires _ _ _ _ _ gs _ _ _ os key _ _ _ us _ _ _ vs _ (h.below hb1) hk (ha.below hb1) (hb.below hb1) hA).mono ?_; rintro e w5 ⟨v1, v2, v3, c, rfl, OK, T, hb5⟩
      have B5 := bel_trans (bel_trans A0 hb1) hb5; have zz := (bel_trans A0 hb1).size
      rw [hla] at hl2; rw [hlb] at hl2
      obtain ⟨a1, k1, a2, k2, rfl, rfl, m1, m2, ap⟩ := T.duo.two (w0 := w) (by omega) (by omega) OK.bu.fit OK.bv.fit zz
      have HL : Hid ((runR key gs us vs gn).1.length = an + bn + gn ∧ (runR key gs us vs gn).2.1.length = an + bn + gn) := ⟨OK.lu, OK.lv⟩
      have HM := Lib.hid (And.intro m1 (And.intro m2 ap)); clear m1 m2 ap T OK c0 c1 c2 c3
      go_wp2
      go_ret3
      refine ⟨a1, k1, a2, k2, ?_, ?_, ?_, ?_, B5⟩
      · rw [HL.out.1, HL.out.2]; rfl
      · rw [HL.out.1]; exact HM.out.1
      · rw [HL.out.2]; exact HM.out.2.1
      · rw [HL.out.1, HL.out.2]; exact HM.out.2.2
set_option maxHeartbeats 4000000 in
theorem s_OpenedFor (i0 i1 : Int) (ga : Option Addr) (gn gc : Nat) (gs : List Int) (oa : Option Addr) (on oc : Nat) (os : List Int) (key : Int) (aa : Option Addr) (an ac : Nat) (us : List Int) (ba : Option Addr) (bn bc : Nat) (vs : List Int) (w : World) (h : Circ w ga gn gc gs oa on oc os) (hk : Fits key) (ha : Ints w aa an ac us) (hb : Ints w ba bn bc vs) :
    Calls Try.prog 32 #[.agg #[.int .i64 i0, .int .i64 i1, .slice ga gn gc, .slice oa on oc], .int .i64 key, .slice aa an ac, .slice ba bn bc] w fun e w' => ∃ r c, e = .returned (.tuple #[.slice r ((runAll i0 i1 gs gn os key us vs).2.2.1.length / 3) c, .bool (runAll i0 i1 gs gn os key us vs).2.2.2]) ∧ MineK 3 w' w.heap.size r ((runAll i0 i1 gs gn os key us vs).2.2.1.length / 3) c (runAll i0 i1 gs gn os key us vs).2.2.1 ∧ Below w.heap.size w w' := by
  have hla := ha.len.out; have hlb := hb.len.out
  have A0 := bel_alloc w (.cells #[.int .i64 i0, .int .i64 i1, .slice ga gn gc, .slice oa on oc] 31)
  have g0 := B4.new (w := w) (x0 := .int .i64 i0) (x1 := .int .i64 i1) (x2 := .slice ga gn gc) (x3 := .slice oa on oc) (t := 31)
  obtain ⟨c0, c1, c2, c3⟩ := g0
  replace h := h.below A0; replace ha := ha.below A0; replace hb := hb.below A0
  unfold runAll
  cases hAK : (askB i0 i1 gs gn os us vs && keyB key) with
  | false =>
    go_enter Try.func32, Try.ntmps32
    go_wp2_with fail
    refine (s_sbAsked _ _ _ _ _ gs _ _ _ os _ _ _ _ us _ _ _ vs _ h ha hb).mono ?_; rintro e w1 ⟨rfl, hb1⟩; rw [hAK]
    go_wp2
    go_ret2
    exact ⟨_, _, rfl, MineK.nil, bel_trans A0 hb1⟩
  | true =>
    obtain ⟨hA, hK⟩ := Bool.and_eq_true_iff.1 hAK
    rw [if_pos rfl]
    have HRO := Lib.hid (runR_ok key hA)
    obtain ⟨hcc, hu, hv, e0, e1⟩ := askB_iff.1 hA; have hgn := (circB_in hcc).2.2.1; have hl2 := askB_len hA; replace hk := keyB_iff.1 hK; clear hcc hu hv
    go_enter Try.func32, Try.ntmps32
    go_wp2_with fail
    refine (s_sbAsked _ _ _ _ _ gs _ _ _ os _ _ _ _ us _ _ _ vs _ h ha hb).mono ?_; rintro e w1 ⟨rfl, hb1⟩; rw [hAK]
    replace c0 := cell_on c0 hb1; replace c1 := cell_on c1 hb1; replace c2 := cell_on c2 hb1; replace c3 := cell_on c3 hb1
    go_wp2_with fail
    refine (s_sbRun _ _ _ _ _ gs _ _ _ os key _ _ _ us _ _ _ vs _ (h.below hb1) hk (ha.below hb1) (hb.below hb1) hA).mono ?_; rintro e w5 ⟨v1, v2, v3, c, rfl, OK, T, hb5⟩
    have B5 := bel_trans (bel_trans A0 hb1) hb5; have zz := (bel_trans A0 hb1).size
    rw [hla] at hl2; rw [hlb] at hl2
    have hck := OK.ck
    obtain ⟨a1, k1, rfl, m1⟩ := MineK.of T.own3 (by omega) (by omega) (fun x hx => by have := OK.fo x hx; unfold Fits; omega)
    have HL : Hid ((runR key gs us vs gn).2.2.length / 3 = c) := by show _ = _; rw [OK.lo]; omega
    have HM := Lib.hid (m1.base zz); clear m1 T OK c0 c1 c2 c3
    go_wp2
    go_ret2
    refine ⟨a1, k1, ?_, ?_, B5⟩
    · rw [HL.out]; rfl
    · rw [HL.out]; exact HM.out
set_option maxHeartbeats 4000000 in
theorem i_OpenedFor (i0 i1 : Int) (ga : Option Addr) (gn gc : Nat) (gs : List Int) (oa : Option Addr) (on oc : Nat) (os : List Int) (key : Int) (aa : Option Addr) (an ac : Nat) (us : List Int) (ba : Option Addr) (bn bc : Nat) (vs : List Int) (w : World) (h : Circ w ga gn gc gs oa on oc os) (hk : Fits key) (ha : Ints w aa an ac us) (hb : Ints w ba bn bc vs) :
    Calls Try.prog 33 #[.agg #[.int .i64 i0, .int .i64 i1, .slice ga gn gc, .slice oa on oc], .int .i64 key, .slice aa an ac, .slice ba bn bc] w fun e w' => ∃ r c, e = .returned (.tuple #[.slice r ((runAll i0 i1 gs gn os key us vs).2.2.1.length / 3) c, .bool (runAll i0 i1 gs gn os key us vs).2.2.2]) ∧ MineK 3 w' w.heap.size r ((runAll i0 i1 gs gn os key us vs).2.2.1.length / 3) c (runAll i0 i1 gs gn os key us vs).2.2.1 ∧ Below w.heap.size w w' := by
  have hla := ha.len.out; have hlb := hb.len.out
  have A0 := bel_alloc w (.cells #[.int .i64 i0, .int .i64 i1, .slice ga gn gc, .slice oa on oc] 31)
  have g0 := B4.new (w := w) (x0 := .int .i64 i0) (x1 := .int .i64 i1) (x2 := .slice ga gn gc) (x3 := .slice oa on oc) (t := 31)
  obtain ⟨c0, c1, c2, c3⟩ := g0
  replace h := h.below A0; replace ha := ha.below A0; replace hb := hb.below A0
  unfold runAll
  cases hA : askB i0 i1 gs gn os us vs with
  | false =>
    go_enter Try.func33, Try.ntmps33
    go_wp2_with fail
    refine (i_areInputs _ _ _ _ _ gs _ _ _ os _ _ _ us _ _ _ vs _ h ha hb).mono ?_; rintro e w1 ⟨rfl, hb1⟩; rw [hA]
    go_wp2
    go_ret2
    exact ⟨_, _, rfl, MineK.nil, bel_trans A0 hb1⟩
  | true =>
    cases hK : keyB key with
    | false =>
      go_enter Try.func33, Try.ntmps33
      go_wp2_with fail
      refine (i_areInputs _ _ _ _ _ gs _ _ _ os _ _ _ us _ _ _ vs _ h ha hb).mono ?_; rintro e w1 ⟨rfl, hb1⟩; rw [hA]
      go_wp2_with (go_at_call 56; refine (i_isKey _ _).mono ?_; rintro e w2 ⟨rfl, rfl⟩; rw [hK])
      go_ret2
      exact ⟨_, _, rfl, MineK.nil, bel_trans A0 hb1⟩
    | true =>
      rw [if_pos (show (true && true) = true from rfl)]
      have HRO := Lib.hid (runR_ok key hA)
      obtain ⟨hcc, hu, hv, e0, e1⟩ := askB_iff.1 hA; have hgn := (circB_in hcc).2.2.1; have hl2 := askB_len hA; replace hk := keyB_iff.1 hK; clear hcc hu hv
      go_enter Try.func33, Try.ntmps33
      go_wp2_with fail
      refine (i_areInputs _ _ _ _ _ gs _ _ _ os _ _ _ us _ _ _ vs _ h ha hb).mono ?_; rintro e w1 ⟨rfl, hb1⟩; rw [hA]
      replace c0 := cell_on c0 hb1; replace c1 := cell_on c1 hb1; replace c2 := cell_on c2 hb1; replace c3 := cell_on c3 hb1
      go_wp2_with fail
      refine (i_isKey _ _).mono ?_; rintro e w2 ⟨rfl, rfl⟩; rw [hK]
      go_wp2_with fail
      refine (i_sharedWires _ _ _ _ _ gs _ _ _ os key _ _ _ us _ _ _ vs _ (h.below hb1) hk (ha.below hb1) (hb.below hb1) hA).mono ?_; rintro e w5 ⟨v1, v2, v3, c, rfl, OK, T, hb5⟩
      have B5 := bel_trans (bel_trans A0 hb1) hb5; have zz := (bel_trans A0 hb1).size
      rw [hla] at hl2; rw [hlb] at hl2
      have hck := OK.ck
      obtain ⟨a1, k1, rfl, m1⟩ := MineK.of T.own3 (by omega) (by omega) (fun x hx => by have := OK.fo x hx; unfold Fits; omega)
      have HL : Hid ((runR key gs us vs gn).2.2.length / 3 = c) := by show _ = _; rw [OK.lo]; omega
      have HM := Lib.hid (m1.base zz); clear m1 T OK c0 c1 c2 c3
      go_wp2
      go_ret2
      refine ⟨a1, k1, ?_, ?_, B5⟩
      · rw [HL.out]; rfl
      · rw [HL.out]; exact HM.out
end Go.Proofs.Ytmkcanbaleecfaa
