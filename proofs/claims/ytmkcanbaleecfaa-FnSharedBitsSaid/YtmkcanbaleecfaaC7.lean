/-
  Contracts: ShareInputs, both sides.
-/
import Derived.Test.YtmkcanbaleecfaaC6
namespace Go.Proofs.Ytmkcanbaleecfaa
open Go.RowKit
set_option linter.unusedVariables false
set_option linter.unusedSimpArgs false
set_option maxRecDepth 10000

def shAll (i0 i1 : Int) (gs : List Int) (gn : Nat) (os : List Int) (key : Int) (us vs : List Int) : List Int × List Int × Bool :=
  if askB i0 i1 gs gn os us vs && keyB key then (shU key us vs, shV key us vs, true) else ([], [], false)
theorem askB_len {i0 i1 : Int} {gs os us vs : List Int} {gn : Nat} (h : askB i0 i1 gs gn os us vs = true) : us.length ≤ 20 ∧ vs.length ≤ 20 := by
  obtain ⟨h1, _, _, h2, h3⟩ := askB_iff.1 h
  obtain ⟨h4, h5, _, _⟩ := circB_in h1
  omega
theorem shAll_len (i0 i1 : Int) (gs : List Int) (gn : Nat) (os : List Int) (key : Int) (us vs : List Int) : (shAll i0 i1 gs gn os key us vs).1.length ≤ 40 ∧ (shAll i0 i1 gs gn os key us vs).2.1.length ≤ 40 := by
  unfold shAll
  split
  · rename_i h
    have := askB_len (Bool.and_eq_true_iff.1 h).1
    rw [shU_len, shV_len]; omega
  · simp
set_option maxHeartbeats 4000000 in
theorem s_ShareInputs (i0 i1 : Int) (ga : Option Addr) (gn gc : Nat) (gs : List Int) (oa : Option Addr) (on oc : Nat) (os : List Int) (key : Int) (aa : Option Addr) (an ac : Nat) (us : List Int) (ba : Option Addr) (bn bc : Nat) (vs : List Int) (w : World) (h : Circ w ga gn gc gs oa on oc os) (hk : Fits key) (ha : Ints w aa an ac us) (hb : Ints w ba bn bc vs) :
    Calls Try.prog 15 #[.agg #[.int .i64 i0, .int .i64 i1, .slice ga gn gc, .slice oa on oc], .int .i64 key, .slice aa an ac, .slice ba bn bc] w fun e w' => TwoA (shAll i0 i1 gs gn os key us vs).1 (shAll i0 i1 gs gn os key us vs).2.1 (shAll i0 i1 gs gn os key us vs).2.2 w e w' := by
  have hla := ha.len.out; have hlb := hb.len.out
  have A0 := bel_alloc w (.cells #[.int .i64 i0, .int .i64 i1, .slice ga gn gc, .slice oa on oc] 31)
  have g0 := B4.new (w := w) (x0 := .int .i64 i0) (x1 := .int .i64 i1) (x2 := .slice ga gn gc) (x3 := .slice oa on oc) (t := 31)
  obtain ⟨c0, c1, c2, c3⟩ := g0
  replace h := h.below A0; replace ha := ha.below A0; replace hb := hb.below A0
  unfold shAll
  cases hAK : (askB i0 i1 gs gn os us vs && keyB key) with
  | false =>
    go_enter Try.func15, Try.ntmps15
    go_wp2_with fail
    refine (s_sbAsked _ _ _ _ _ gs _ _ _ os _ _ _ _ us _ _ _ vs _ h ha hb).mono ?_; rintro e w1 ⟨rfl, hb1⟩; rw [hAK]
    go_wp2
    go_ret3
    exact ⟨_, _, _, _, rfl, Mine.nil, Mine.nil, Apart.zero, bel_trans A0 hb1⟩
  | true =>
    obtain ⟨hA, hK⟩ := Bool.and_eq_true_iff.1 hAK
    rw [if_pos rfl]
    have HL : Hid ((shU key us vs).length = an + bn ∧ (shV key us vs).length = an + bn) := ⟨by rw [shU_len, hla, hlb], by rw [shV_len, hla, hlb]⟩; have HF : Hid ((∀ x ∈ shU key us vs, Fits x) ∧ (∀ x ∈ shV key us vs, Fits x)) := ⟨shU_fit key us vs, shV_fit key us vs⟩; obtain ⟨hcc, hu, hv, e0, e1⟩ := askB_iff.1 hA; have hl2 := askB_len hA; replace hk := keyB_iff.1 hK; rw [hla] at e0 hl2; rw [hlb] at e1 hl2; clear hcc
    go_enter Try.func15, Try.ntmps15
    go_wp2_with fail
    refine (s_sbAsked _ _ _ _ _ gs _ _ _ os _ _ _ _ us _ _ _ vs _ h ha hb).mono ?_; rintro e w1 ⟨rfl, hb1⟩; rw [hAK]
    replace c0 := cell_on c0 hb1; replace c1 := cell_on c1 hb1; replace c2 := cell_on c2 hb1; replace c3 := cell_on c3 hb1
    go_wp2_with fail
    refine (s_sbInputs _ _ _ _ _ gs _ _ _ os key _ _ _ us _ _ _ vs _ (ha.below hb1) (hb.below hb1) hk (by omega) (by omega) (by omega) (by omega) hu hv).mono ?_; rintro e w5 ⟨v1, v2, rfl, hD, hb5⟩
    have B5 := bel_trans (bel_trans A0 hb1) hb5; have zz := (bel_trans A0 hb1).size
    obtain ⟨a1, k1, a2, k2, rfl, rfl, m1, m2, ap⟩ := hD.two (w0 := w) (by omega) (by omega) HF.out.1 HF.out.2 zz
    have HM := Lib.hid (And.intro m1 (And.intro m2 ap)); clear m1 m2 ap hD c0 c1 c2 c3
    go_wp2
    go_ret3
    refine ⟨a1, k1, a2, k2, ?_, ?_, ?_, ?_, B5⟩
    · rw [HL.out.1, HL.out.2]; rfl
    · rw [HL.out.1]; exact HM.out.1
    · rw [HL.out.2]; exact HM.out.2.1
    · rw [HL.out.1, HL.out.2]; exact HM.out.2.2
set_option maxHeartbeats 4000000 in
theorem i_ShareInputs (i0 i1 : Int) (ga : Option Addr) (gn gc : Nat) (gs : List Int) (oa : Option Addr) (on oc : Nat) (os : List Int) (key : Int) (aa : Option Addr) (an ac : Nat) (us : List Int) (ba : Option Addr) (bn bc : Nat) (vs : List Int) (w : World) (h : Circ w ga gn gc gs oa on oc os) (hk : Fits key) (ha : Ints w aa an ac us) (hb : Ints w ba bn bc vs) :
    Calls Try.prog 17 #[.agg #[.int .i64 i0, .int .i64 i1, .slice ga gn gc, .slice oa on oc], .int .i64 key, .slice aa an ac, .slice ba bn bc] w fun e w' => TwoA (shAll i0 i1 gs gn os key us vs).1 (shAll i0 i1 gs gn os key us vs).2.1 (shAll i0 i1 gs gn os key us vs).2.2 w e w' := by
  have hla := ha.len.out; have hlb := hb.len.out
  have A0 := bel_alloc w (.cells #[.int .i64 i0, .int .i64 i1, .slice ga gn gc, .slice oa on oc] 31)
  have g0 := B4.new (w := w) (x0 := .int .i64 i0) (x1 := .int .i64 i1) (x2 := .slice ga gn gc) (x3 := .slice oa on oc) (t := 31)
  obtain ⟨c0, c1, c2, c3⟩ := g0
  replace h := h.below A0; replace ha := ha.below A0; replace hb := hb.below A0
  unfold shAll
  cases hA : askB i0 i1 gs gn os us vs with
  | false =>
    go_enter Try.func17, Try.ntmps17
    go_wp2_with fail
    refine (i_areInputs _ _ _ _ _ gs _ _ _ os _ _ _ us _ _ _ vs _ h ha hb).mono ?_; rintro e w1 ⟨rfl, hb1⟩; rw [hA]
    go_wp2
    go_ret3
    exact ⟨_, _, _, _, rfl, Mine.nil, Mine.nil, Apart.zero, bel_trans A0 hb1⟩
  | true =>
    cases hK : keyB key with
    | false =>
      go_enter Try.func17, Try.ntmps17
      go_wp2_with fail
      refine (i_areInputs _ _ _ _ _ gs _ _ _ os _ _ _ us _ _ _ vs _ h ha hb).mono ?_; rintro e w1 ⟨rfl, hb1⟩; rw [hA]
      go_wp2_with (go_at_call 56; refine (i_isKey _ _).mono ?_; rintro e w2 ⟨rfl, rfl⟩; rw [hK])
      go_ret3
      exact ⟨_, _, _, _, rfl, Mine.nil, Mine.nil, Apart.zero, bel_trans A0 hb1⟩
    | true =>
      rw [if_pos (show (true && true) = true from rfl)]
      have HL : Hid ((shU key us vs).length = an + bn ∧ (shV key us vs).length = an + bn) := ⟨by rw [shU_len, hla, hlb], by rw [shV_len, hla, hlb]⟩; have HF : Hid ((∀ x ∈ shU key us vs, Fits x) ∧ (∀ x ∈ shV key us vs, Fits x)) := ⟨shU_fit key us vs, shV_fit key us vs⟩; obtain ⟨hcc, hu, hv, e0, e1⟩ := askB_iff.1 hA; have hl2 := askB_len hA; replace hk := keyB_iff.1 hK; rw [hla] at e0 hl2; rw [hlb] at e1 hl2; clear hcc
      go_enter Try.func17, Try.ntmps17
      go_wp2_with fail
      refine (i_areInputs _ _ _ _ _ gs _ _ _ os _ _ _ us _ _ _ vs _ h ha hb).mono ?_; rintro e w1 ⟨rfl, hb1⟩; rw [hA]
      replace c0 := cell_on c0 hb1; replace c1 := cell_on c1 hb1; replace c2 := cell_on c2 hb1; replace c3 := cell_on c3 hb1
      go_wp2_with fail
      refine (i_isKey _ _).mono ?_; rintro e w2 ⟨rfl, rfl⟩; rw [hK]
      go_wp2_with fail
      refine (i_shareInputs _ _ _ _ _ gs _ _ _ os key _ _ _ us _ _ _ vs _ (ha.below hb1) (hb.below hb1) hk (by omega) (by omega) (by omega) (by omega) hu hv).mono ?_; rintro e w5 ⟨v1, v2, rfl, hD, hb5⟩
      have B5 := bel_trans (bel_trans A0 hb1) hb5; have zz := (bel_trans A0 hb1).size
      obtain ⟨a1, k1, a2, k2, rfl, rfl, m1, m2, ap⟩ := hD.two (w0 := w) (by omega) (by omega) HF.out.1 HF.out.2 zz
      have HM := Lib.hid (And.intro m1 (And.intro m2 ap)); clear m1 m2 ap hD c0 c1 c2 c3
      go_wp2
      go_ret3
      refine ⟨a1, k1, a2, k2, ?_, ?_, ?_, ?_, B5⟩
      · rw [HL.out.1, HL.out.2]; rfl
      · rw [HL.out.1]; exact HM.out.1
      · rw [HL.out.2]; exact HM.out.2.1
      · rw [HL.out.1, HL.out.2]; exact HM.out.2.2
end Go.Proofs.Ytmkcanbaleecfaa
