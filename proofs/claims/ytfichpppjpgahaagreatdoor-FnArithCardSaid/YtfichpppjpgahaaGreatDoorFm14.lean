/-
  Contracts: the values of an arithmetic circuit, whatever is given, both sides.
  Plain laws: a circuit with the sum and the product of two outs added; the kinds of gates are as many as the gates.
-/
import Derived.Test.YtfichpppjpgahaaGreatDoorFm13
import Derived.Test.YtfichpppjpgahaaGreatDoorFm10
namespace Go.Proofs.YtfichpppjpgahaaGreatDoor
open Go.RowKit
set_option linter.unusedVariables false
set_option linter.unusedSimpArgs false
set_option maxRecDepth 10000

/-- The inputs fit the circuit. -/
def okA (p i0 i1 : Int) (gs : List Int) (gn : Nat) (os us vs : List Int) : Bool := arC p i0 i1 gs gn os && (elsB p us && (elsB p vs && (decide ((us.length : Int) = i0) && decide ((vs.length : Int) = i1))))
theorem okA_iff {p i0 i1 : Int} {gs os us vs : List Int} {gn : Nat} : okA p i0 i1 gs gn os us vs = true ↔ arC p i0 i1 gs gn os = true ∧ elsB p us = true ∧ elsB p vs = true ∧ (us.length : Int) = i0 ∧ (vs.length : Int) = i1 := by
  unfold okA; simp only [Bool.and_eq_true, decide_eq_true_iff]
theorem okA_no {p i0 i1 : Int} {gs os us vs : List Int} {gn : Nat} (h : ¬ (arC p i0 i1 gs gn os = true ∧ elsB p us = true ∧ elsB p vs = true ∧ (us.length : Int) = i0 ∧ (vs.length : Int) = i1)) : okA p i0 i1 gs gn os us vs = false := by
  cases k : okA p i0 i1 gs gn os us vs with
  | false => rfl
  | true => exact absurd (okA_iff.1 k) h
def avV (p i0 i1 : Int) (gs : List Int) (gn : Nat) (os us vs : List Int) : List Int := if okA p i0 i1 gs gn os us vs then avs p gs (us ++ vs) gn else []
def avE (p i0 i1 : Int) (gs : List Int) (gn : Nat) (os us vs : List Int) : List Int := if okA p i0 i1 gs gn os us vs then pkL (avs p gs (us ++ vs) gn) os os.length else []
theorem Ints.nilA {w : World} : Ints w none 0 0 [] := OwnI.nil (E := 0) (B := 0) |>.ints
set_option maxHeartbeats 8000000 in
theorem s_arAskedN (p i0 i1 : Int) (ga : Option Addr) (gn gc : Nat) (gs : List Int) (oa : Option Addr) (on oc : Nat) (os : List Int) (aa : Option Addr) (an ac : Nat) (us : List Int) (ba : Option Addr) (bn bc : Nat) (vs : List Int) (w : World) (h : Circ w ga gn gc gs oa on oc os) (ha : Ints w aa an ac us) (hb : Ints w ba bn bc vs) (hN : okA p i0 i1 gs gn os us vs = false) :
    Calls Tryz.prog 27 #[.agg #[.int .i64 p, .int .i64 i0, .int .i64 i1, .slice ga gn gc, .slice oa on oc], .slice aa an ac, .slice ba bn bc] w fun e w' => e = .returned (.bool false) ∧ Below w.heap.size w w' := by
  have hLa := ha.len.out; have hLb := hb.len.out
  have A0 := bel_alloc w (.cells #[.int .i64 p, .int .i64 i0, .int .i64 i1, .slice ga gn gc, .slice oa on oc] 26)
  have G0 := B5.new (w := w) (x0 := .int .i64 p) (x1 := .int .i64 i0) (x2 := .int .i64 i1) (x3 := .slice ga gn gc) (x4 := .slice oa on oc) (t := 26)
  have HH := Lib.hid (h.below A0); have HA := Lib.hid (ha.below A0); have HB := Lib.hid (hb.below A0)
  have NO : ¬ (arC p i0 i1 gs gn os = true ∧ elsB p us = true ∧ elsB p vs = true ∧ (us.length : Int) = i0 ∧ (vs.length : Int) = i1) := fun q => by rw [okA_iff.2 q] at hN; cases hN
  have HA0 := Lib.hid ha; have HB0 := Lib.hid hb; clear hN h ha hb HA HB
  have GO := Lib.hid (s_arGood p i0 i1 ga gn gc gs oa on oc os _ HH.out)
  cases hC : arC p i0 i1 gs gn os with
  | false =>
    rw [hC] at GO
    go_enter Tryz.func27, Tryz.ntmps27
    obtain ⟨c0, c1, c2, c3, c4⟩ := id G0
    go_wp2_with fail
    refine GO.out.mono ?_; rintro e w1 ⟨rfl, hb1⟩
    have B1 := bel_trans A0 hb1; have G1 := G0.on hb1; clear c0 c1 c2 c3 c4
    obtain ⟨c0, c1, c2, c3, c4⟩ := id G1
    go_wp2
    go_ret
    exact ⟨rfl, B1⟩
  | true =>
    rw [hC] at GO
    by_cases hla : ¬ (an : Int) = i0
    · have hlab : ((an : Int) == i0) = false := by simpa using hla
      go_enter Tryz.func27, Tryz.ntmps27
      obtain ⟨c0, c1, c2, c3, c4⟩ := id G0
      go_wp2_with fail
      refine GO.out.mono ?_; rintro e w1 ⟨rfl, hb1⟩
      have B1 := bel_trans A0 hb1; have G1 := G0.on hb1; clear c0 c1 c2 c3 c4
      obtain ⟨c0, c1, c2, c3, c4⟩ := id G1
      go_wp2
      go_ret
      exact ⟨rfl, B1⟩
    · have hlab : ((an : Int) == i0) = true := by simpa using hla
      by_cases hlb : ¬ (bn : Int) = i1
      · have hlbb : ((bn : Int) == i1) = false := by simpa using hlb
        go_enter Tryz.func27, Tryz.ntmps27
        obtain ⟨c0, c1, c2, c3, c4⟩ := id G0
        go_wp2_with fail
        refine GO.out.mono ?_; rintro e w1 ⟨rfl, hb1⟩
        have B1 := bel_trans A0 hb1; have G1 := G0.on hb1; clear c0 c1 c2 c3 c4
        obtain ⟨c0, c1, c2, c3, c4⟩ := id G1
        go_wp2
        go_ret
        exact ⟨rfl, B1⟩
      · have hlbb : ((bn : Int) == i1) = true := by simpa using hlb
        cases hU : elsB p us with
        | false =>
          go_enter Tryz.func27, Tryz.ntmps27
          obtain ⟨c0, c1, c2, c3, c4⟩ := id G0
          go_wp2_with fail
          refine GO.out.mono ?_; rintro e w1 ⟨rfl, hb1⟩
          have B1 := bel_trans A0 hb1; have G1 := G0.on hb1; clear c0 c1 c2 c3 c4
          obtain ⟨c0, c1, c2, c3, c4⟩ := id G1
          go_wp2_with fail
          refine (s_fpIn p _ _ _ us _ (HA0.out.below B1)).mono ?_; rintro e wua ⟨he, rfl⟩; rw [hU] at he; subst he
          go_wp2
          go_ret
          exact ⟨rfl, B1⟩
        | true =>
          cases hV : elsB p vs with
          | false =>
            go_enter Tryz.func27, Tryz.ntmps27
            obtain ⟨c0, c1, c2, c3, c4⟩ := id G0
            go_wp2_with fail
            refine GO.out.mono ?_; rintro e w1 ⟨rfl, hb1⟩
            have B1 := bel_trans A0 hb1; have G1 := G0.on hb1; clear c0 c1 c2 c3 c4
            obtain ⟨c0, c1, c2, c3, c4⟩ := id G1
            go_wp2_with fail
            refine (s_fpIn p _ _ _ us _ (HA0.out.below B1)).mono ?_; rintro e wua ⟨he, rfl⟩; rw [hU] at he; subst he
            go_wp2_with fail
            refine (s_fpIn p _ _ _ vs _ (HB0.out.below B1)).mono ?_; rintro e wub ⟨he, rfl⟩; rw [hV] at he; subst he
            go_wp2
            go_ret
            exact ⟨rfl, B1⟩
          | true =>
            exact absurd ⟨hC, hU, hV, by rw [hLa]; omega, by rw [hLb]; omega⟩ NO
set_option maxHeartbeats 8000000 in
theorem i_ArithValuesN (p i0 i1 : Int) (ga : Option Addr) (gn gc : Nat) (gs : List Int) (oa : Option Addr) (on oc : Nat) (os : List Int) (aa : Option Addr) (an ac : Nat) (us : List Int) (ba : Option Addr) (bn bc : Nat) (vs : List Int) (w : World) (h : Circ w ga gn gc gs oa on oc os) (ha : Ints w aa an ac us) (hb : Ints w ba bn bc vs) (hN : okA p i0 i1 gs gn os us vs = false) :
    Calls Tryz.prog 5 #[.agg #[.int .i64 p, .int .i64 i0, .int .i64 i1, .slice ga gn gc, .slice oa on oc], .slice aa an ac, .slice ba bn bc] w fun e w' => e = .returned (.tuple #[.slice none 0 0, .bool false]) ∧ Below w.heap.size w w' := by
  have hLa := ha.len.out; have hLb := hb.len.out
  have A0 := bel_alloc w (.cells #[.int .i64 p, .int .i64 i0, .int .i64 i1, .slice ga gn gc, .slice oa on oc] 26)
  have G0 := B5.new (w := w) (x0 := .int .i64 p) (x1 := .int .i64 i0) (x2 := .int .i64 i1) (x3 := .slice ga gn gc) (x4 := .slice oa on oc) (t := 26)
  have HH := Lib.hid (h.below A0); have HA := Lib.hid (ha.below A0); have HB := Lib.hid (hb.below A0)
  have NO : ¬ (arC p i0 i1 gs gn os = true ∧ elsB p us = true ∧ elsB p vs = true ∧ (us.length : Int) = i0 ∧ (vs.length : Int) = i1) := fun q => by rw [okA_iff.2 q] at hN; cases hN
  have HA0 := Lib.hid ha; have HB0 := Lib.hid hb; clear hN h ha hb HA HB
  have GO := Lib.hid (i_IsArith p i0 i1 ga gn gc gs oa on oc os _ HH.out)
  cases hC : arC p i0 i1 gs gn os with
  | false =>
    rw [hC] at GO
    go_enter Tryz.func5, Tryz.ntmps5
    obtain ⟨c0, c1, c2, c3, c4⟩ := id G0
    go_wp2_with fail
    refine GO.out.mono ?_; rintro e w1 ⟨rfl, hb1⟩
    have B1 := bel_trans A0 hb1; have G1 := G0.on hb1; clear c0 c1 c2 c3 c4
    obtain ⟨c0, c1, c2, c3, c4⟩ := id G1
    go_wp2
    go_ret2
    exact ⟨rfl, B1⟩
  | true =>
    rw [hC] at GO
    cases hU : elsB p us with
    | false =>
      go_enter Tryz.func5, Tryz.ntmps5
      obtain ⟨c0, c1, c2, c3, c4⟩ := id G0
      go_wp2_with fail
      refine GO.out.mono ?_; rintro e w1 ⟨rfl, hb1⟩
      have B1 := bel_trans A0 hb1; have G1 := G0.on hb1; clear c0 c1 c2 c3 c4
      obtain ⟨c0, c1, c2, c3, c4⟩ := id G1
      go_wp2_with fail
      refine (i_areElements p _ _ _ us _ (HA0.out.below B1)).mono ?_; rintro e wua ⟨he, hbua⟩; rw [hU] at he; subst he
      have Bua := bel_trans B1 hbua; have Gua := G1.on hbua; clear c0 c1 c2 c3 c4
      obtain ⟨c0, c1, c2, c3, c4⟩ := id Gua
      go_wp2
      go_ret2
      exact ⟨rfl, Bua⟩
    | true =>
      cases hV : elsB p vs with
      | false =>
        go_enter Tryz.func5, Tryz.ntmps5
        obtain ⟨c0, c1, c2, c3, c4⟩ := id G0
        go_wp2_with fail
        refine GO.out.mono ?_; rintro e w1 ⟨rfl, hb1⟩
        have B1 := bel_trans A0 hb1; have G1 := G0.on hb1; clear c0 c1 c2 c3 c4
        obtain ⟨c0, c1, c2, c3, c4⟩ := id G1
        go_wp2_with fail
        refine (i_areElements p _ _ _ us _ (HA0.out.below B1)).mono ?_; rintro e wua ⟨he, hbua⟩; rw [hU] at he; subst he
        have Bua := bel_trans B1 hbua; have Gua := G1.on hbua; clear c0 c1 c2 c3 c4
        obtain ⟨c0, c1, c2, c3, c4⟩ := id Gua
        go_wp2_with fail
        refine (i_areElements p _ _ _ vs _ (HB0.out.below Bua)).mono ?_; rintro e wub ⟨he, hbub⟩; rw [hV] at he; subst he
        have Bub := bel_trans Bua hbub; have Gub := Gua.on hbub; clear c0 c1 c2 c3 c4
        obtain ⟨c0, c1, c2, c3, c4⟩ := id Gub
        go_wp2
        go_ret2
        exact ⟨rfl, Bub⟩
      | true =>
        by_cases hla : ¬ (an : Int) = i0
        · have hlab : ((an : Int) == i0) = false := by simpa using hla
          go_enter Tryz.func5, Tryz.ntmps5
          obtain ⟨c0, c1, c2, c3, c4⟩ := id G0
          go_wp2_with fail
          refine GO.out.mono ?_; rintro e w1 ⟨rfl, hb1⟩
          have B1 := bel_trans A0 hb1; have G1 := G0.on hb1; clear c0 c1 c2 c3 c4
          obtain ⟨c0, c1, c2, c3, c4⟩ := id G1
          go_wp2_with fail
          refine (i_areElements p _ _ _ us _ (HA0.out.below B1)).mono ?_; rintro e wua ⟨he, hbua⟩; rw [hU] at he; subst he
          have Bua := bel_trans B1 hbua; have Gua := G1.on hbua; clear c0 c1 c2 c3 c4
          obtain ⟨c0, c1, c2, c3, c4⟩ := id Gua
          go_wp2_with fail
          refine (i_areElements p _ _ _ vs _ (HB0.out.below Bua)).mono ?_; rintro e wub ⟨he, hbub⟩; rw [hV] at he; subst he
          have Bub := bel_trans Bua hbub; have Gub := Gua.on hbub; clear c0 c1 c2 c3 c4
          obtain ⟨c0, c1, c2, c3, c4⟩ := id Gub
          go_wp2
          go_ret2
          exact ⟨rfl, Bub⟩
        · have hlab : ((an : Int) == i0) = true := by simpa using hla
          by_cases hlb : ¬ (bn : Int) = i1
          · have hlbb : ((bn : Int) == i1) = false := by simpa using hlb
            go_enter Tryz.func5, Tryz.ntmps5
            obtain ⟨c0, c1, c2, c3, c4⟩ := id G0
            go_wp2_with fail
            refine GO.out.mono ?_; rintro e w1 ⟨rfl, hb1⟩
            have B1 := bel_trans A0 hb1; have G1 := G0.on hb1; clear c0 c1 c2 c3 c4
            obtain ⟨c0, c1, c2, c3, c4⟩ := id G1
            go_wp2_with fail
            refine (i_areElements p _ _ _ us _ (HA0.out.below B1)).mono ?_; rintro e wua ⟨he, hbua⟩; rw [hU] at he; subst he
            have Bua := bel_trans B1 hbua; have Gua := G1.on hbua; clear c0 c1 c2 c3 c4
            obtain ⟨c0, c1, c2, c3, c4⟩ := id Gua
            go_wp2_with fail
            refine (i_areElements p _ _ _ vs _ (HB0.out.below Bua)).mono ?_; rintro e wub ⟨he, hbub⟩; rw [hV] at he; subst he
            have Bub := bel_trans Bua hbub; have Gub := Gua.on hbub; clear c0 c1 c2 c3 c4
            obtain ⟨c0, c1, c2, c3, c4⟩ := id Gub
            go_wp2
            go_ret2
            exact ⟨rfl, Bub⟩
          · have hlbb : ((bn : Int) == i1) = true := by simpa using hlb
            exact absurd ⟨hC, hU, hV, by rw [hLa]; omega, by rw [hLb]; omega⟩ NO
set_option maxHeartbeats 4000000 in
theorem s_ArithValuesN (p i0 i1 : Int) (ga : Option Addr) (gn gc : Nat) (gs : List Int) (oa : Option Addr) (on oc : Nat) (os : List Int) (aa : Option Addr) (an ac : Nat) (us : List Int) (ba : Option Addr) (bn bc : Nat) (vs : List Int) (w : World) (h : Circ w ga gn gc gs oa on oc os) (ha : Ints w aa an ac us) (hb : Ints w ba bn bc vs) (hN : okA p i0 i1 gs gn os us vs = false) :
    Calls Tryz.prog 6 #[.agg #[.int .i64 p, .int .i64 i0, .int .i64 i1, .slice ga gn gc, .slice oa on oc], .slice aa an ac, .slice ba bn bc] w fun e w' => e = .returned (.tuple #[.slice none 0 0, .bool false]) ∧ Below w.heap.size w w' := by
  have A0 := bel_alloc w (.cells #[.int .i64 p, .int .i64 i0, .int .i64 i1, .slice ga gn gc, .slice oa on oc] 26)
  have G0 := B5.new (w := w) (x0 := .int .i64 p) (x1 := .int .i64 i0) (x2 := .int .i64 i1) (x3 := .slice ga gn gc) (x4 := .slice oa on oc) (t := 26)
  have HC := Lib.hid (s_arAskedN p i0 i1 ga gn gc gs oa on oc os aa an ac us ba bn bc vs _ (h.below A0) (ha.below A0) (hb.below A0) hN)
  clear h ha hb hN
  obtain ⟨c0, c1, c2, c3, c4⟩ := id G0
  go_enter Tryz.func6, Tryz.ntmps6
  go_wp2_with fail
  refine HC.out.mono ?_; rintro e w1 ⟨rfl, hb1⟩
  have G1 := G0.on hb1
  clear c0 c1 c2 c3 c4
  obtain ⟨c0, c1, c2, c3, c4⟩ := id G1
  go_wp2
  go_ret2
  exact ⟨rfl, bel_trans A0 hb1⟩
set_option maxHeartbeats 4000000 in
theorem s_EvalArithN (p i0 i1 : Int) (ga : Option Addr) (gn gc : Nat) (gs : List Int) (oa : Option Addr) (on oc : Nat) (os : List Int) (aa : Option Addr) (an ac : Nat) (us : List Int) (ba : Option Addr) (bn bc : Nat) (vs : List Int) (w : World) (h : Circ w ga gn gc gs oa on oc os) (ha : Ints w aa an ac us) (hb : Ints w ba bn bc vs) (hN : okA p i0 i1 gs gn os us vs = false) :
    Calls Tryz.prog 8 #[.agg #[.int .i64 p, .int .i64 i0, .int .i64 i1, .slice ga gn gc, .slice oa on oc], .slice aa an ac, .slice ba bn bc] w fun e w' => e = .returned (.tuple #[.slice none 0 0, .bool false]) ∧ Below w.heap.size w w' := by
  have A0 := bel_alloc w (.cells #[.int .i64 p, .int .i64 i0, .int .i64 i1, .slice ga gn gc, .slice oa on oc] 26)
  have G0 := B5.new (w := w) (x0 := .int .i64 p) (x1 := .int .i64 i0) (x2 := .int .i64 i1) (x3 := .slice ga gn gc) (x4 := .slice oa on oc) (t := 26)
  have HC := Lib.hid (s_arAskedN p i0 i1 ga gn gc gs oa on oc os aa an ac us ba bn bc vs _ (h.below A0) (ha.below A0) (hb.below A0) hN)
  clear h ha hb hN
  obtain ⟨c0, c1, c2, c3, c4⟩ := id G0
  go_enter Tryz.func8, Tryz.ntmps8
  go_wp2_with fail
  refine HC.out.mono ?_; rintro e w1 ⟨rfl, hb1⟩
  have G1 := G0.on hb1
  clear c0 c1 c2 c3 c4
  obtain ⟨c0, c1, c2, c3, c4⟩ := id G1
  go_wp2
  go_ret2
  exact ⟨rfl, bel_trans A0 hb1⟩
set_option maxHeartbeats 4000000 in
theorem i_EvalArithN (p i0 i1 : Int) (ga : Option Addr) (gn gc : Nat) (gs : List Int) (oa : Option Addr) (on oc : Nat) (os : List Int) (aa : Option Addr) (an ac : Nat) (us : List Int) (ba : Option Addr) (bn bc : Nat) (vs : List Int) (w : World) (h : Circ w ga gn gc gs oa on oc os) (ha : Ints w aa an ac us) (hb : Ints w ba bn bc vs) (hN : okA p i0 i1 gs gn os us vs = false) :
    Calls Tryz.prog 7 #[.agg #[.int .i64 p, .int .i64 i0, .int .i64 i1, .slice ga gn gc, .slice oa on oc], .slice aa an ac, .slice ba bn bc] w fun e w' => e = .returned (.tuple #[.slice none 0 0, .bool false]) ∧ Below w.heap.size w w' := by
  have A0 := bel_alloc w (.cells #[.int .i64 p, .int .i64 i0, .int .i64 i1, .slice ga gn gc, .slice oa on oc] 26)
  have G0 := B5.new (w := w) (x0 := .int .i64 p) (x1 := .int .i64 i0) (x2 := .int .i64 i1) (x3 := .slice ga gn gc) (x4 := .slice oa on oc) (t := 26)
  have HC := Lib.hid (i_ArithValuesN p i0 i1 ga gn gc gs oa on oc os aa an ac us ba bn bc vs _ (h.below A0) (ha.below A0) (hb.below A0) hN)
  clear h ha hb hN
  obtain ⟨c0, c1, c2, c3, c4⟩ := id G0
  go_enter Tryz.func7, Tryz.ntmps7
  go_wp2_with fail
  refine HC.out.mono ?_; rintro e w1 ⟨rfl, hb1⟩
  have G1 := G0.on hb1
  clear c0 c1 c2 c3 c4
  obtain ⟨c0, c1, c2, c3, c4⟩ := id G1
  go_wp2
  go_ret2
  exact ⟨rfl, bel_trans A0 hb1⟩
set_option maxHeartbeats 8000000 in
theorem s_ArithValuesG (p : Int) (ga : Option Addr) (gn gc : Nat) (gs : List Int) (oa : Option Addr) (on oc : Nat) (os : List Int) (aa : Option Addr) (an ac : Nat) (us : List Int) (ba : Option Addr) (bn bc : Nat) (vs : List Int) (w : World) (h : Circ w ga gn gc gs oa on oc os) (ha : Ints w aa an ac us) (hb : Ints w ba bn bc vs) (hAK : arC p an bn gs gn os = true) (hua : elsB p us = true) (hub : elsB p vs = true) :
    Calls Tryz.prog 6 #[.agg #[.int .i64 p, .int .i64 an, .int .i64 bn, .slice ga gn gc, .slice oa on oc], .slice aa an ac, .slice ba bn bc] w fun e w' => ∃ r c, e = .returned (.tuple #[.slice r (an + bn + gn) c, .bool true]) ∧ Mine w' w.heap.size r (an + bn + gn) c (avs p gs (us ++ vs) gn) ∧ Below w.heap.size w w' := by
  have hlo := h.o.len.out
  have A0 := bel_alloc w (.cells #[.int .i64 p, .int .i64 an, .int .i64 bn, .slice ga gn gc, .slice oa on oc] 26)
  have g0 := B5.new (w := w) (x0 := .int .i64 p) (x1 := .int .i64 an) (x2 := .int .i64 bn) (x3 := .slice ga gn gc) (x4 := .slice oa on oc) (t := 26)
  obtain ⟨c0, c1, c2, c3, c4⟩ := g0
  have zz := A0.size
  have HH := Lib.hid (h.below A0); have HA := Lib.hid (ha.below A0); have HB := Lib.hid (hb.below A0); clear h ha hb
  obtain ⟨hS, hGG, hOO⟩ := arC_iff.1 hAK
  obtain ⟨hpp, ⟨h01, h02⟩, ⟨h11, h12⟩, hn, hon⟩ := arS_iff.1 hS
  obtain ⟨hp1, hp2⟩ := prB_lo hpp
  have HOU := arOuts (n := an + bn + gn) hAK (by omega)
  rw [hlo] at HOU hon
  have HGT : Hid (gatesA p ((an + bn : Nat) : Int) gs gn = true) := by show _ = _; rw [show ((an + bn : Nat) : Int) = (an : Int) + bn by omega]; exact hGG
  have HU := els_join hua hub
  clear hS hGG hOO hpp
  go_enter Tryz.func6, Tryz.ntmps6
  go_wp2_with fail
  refine (s_arAskedG _ _ _ _ gs _ _ _ os _ _ _ us _ _ _ vs _ HH.out HA.out HB.out hAK hua hub).mono ?_; rintro e w1 ⟨rfl, hb1⟩
  replace c0 := cell_on c0 hb1; replace c1 := cell_on c1 hb1; replace c2 := cell_on c2 hb1; replace c3 := cell_on c3 hb1; replace c4 := cell_on c4 hb1
  have HH1 := Lib.hid (HH.out.below hb1); have HA1 := Lib.hid (HA.out.below hb1); have HB1 := Lib.hid (HB.out.below hb1)
  go_wp2
  go_region_held3 (fun W => W.cell? ⟨w.heap.size, 0, none⟩ = some (.int .i64 p) ∧ W.cell? ⟨w.heap.size, 1, none⟩ = some (.int .i64 an) ∧ W.cell? ⟨w.heap.size, 2, none⟩ = some (.int .i64 bn) ∧ W.cell? ⟨w.heap.size, 3, none⟩ = some (.slice ga gn gc) ∧ W.cell? ⟨w.heap.size, 4, none⟩ = some (.slice oa on oc)) (exact ⟨c0, c1, c2, c3, c4⟩) (first | (go_at_call 29; refine (s_ciJoinA _ _ _ us _ _ _ vs _ (HA1.out.below (bel_drew _)) (HB1.out.below (bel_drew _)) (by omega)).mono ?_; rintro e w2 ⟨r2, k2, rfl, m2, hb2⟩; have hb3 := bel_trans (bel_drew _) hb2; have c0 := cell_on c0 hb3; have c1 := cell_on c1 hb3; have c2 := cell_on c2 hb3; have c3 := cell_on c3 hb3; have c4 := cell_on c4 hb3) | (go_at_call 28; refine (s_arValues _ _ _ _ _ _ gs _ _ _ os _ _ _ _ _ (HH1.out.below hb3) m2.ints HGT HU ⟨hp1, hp2⟩ (by omega)).mono ?_; rintro e w4 ⟨r4, k4, rfl, m4, hb4⟩; have hb5 := bel_trans hb3 hb4; have c0 := cell_on c0 hb4; have c1 := cell_on c1 hb4; have c2 := cell_on c2 hb4; have c3 := cell_on c3 hb4; have c4 := cell_on c4 hb4))
  have zy := (bel_trans hb1 hb3).size
  have HM := Lib.hid (m4.base (B' := w.heap.size) (by omega))
  clear m4 m2
  go_wp2
  go_ret2
  exact ⟨_, _, rfl, HM.out, bel_trans (bel_trans A0 hb1) hb5⟩
theorem s_ArithValues (p i0 i1 : Int) (ga : Option Addr) (gn gc : Nat) (gs : List Int) (oa : Option Addr) (on oc : Nat) (os : List Int) (aa : Option Addr) (an ac : Nat) (us : List Int) (ba : Option Addr) (bn bc : Nat) (vs : List Int) (w : World) (h : Circ w ga gn gc gs oa on oc os) (ha : Ints w aa an ac us) (hb : Ints w ba bn bc vs) :
    Calls Tryz.prog 6 #[.agg #[.int .i64 p, .int .i64 i0, .int .i64 i1, .slice ga gn gc, .slice oa on oc], .slice aa an ac, .slice ba bn bc] w fun e w' => ∃ r c, e = .returned (.tuple #[.slice r (avV p i0 i1 gs gn os us vs).length c, .bool (okA p i0 i1 gs gn os us vs)]) ∧ Ints w' r (avV p i0 i1 gs gn os us vs).length c (avV p i0 i1 gs gn os us vs) ∧ Below w.heap.size w w' := by
  have hla := ha.len.out; have hlb := hb.len.out; have hlo := h.o.len.out
  unfold avV
  cases k : okA p i0 i1 gs gn os us vs with
  | false =>
    refine (s_ArithValuesN p i0 i1 ga gn gc gs oa on oc os aa an ac us ba bn bc vs w h ha hb k).mono ?_
    rintro e w' ⟨rfl, hb9⟩
    exact ⟨none, 0, rfl, Ints.nilA, hb9⟩
  | true =>
    obtain ⟨h1, h2, h3, rfl, rfl⟩ := okA_iff.1 k
    rw [hla, hlb] at h1
    rw [if_pos rfl]
    rw [hla, hlb]
    refine (s_ArithValuesG p ga gn gc gs oa on oc os aa an ac us ba bn bc vs w h ha hb h1 h2 h3).mono ?_
    rintro e w' ⟨r, c, rfl, hM, hb9⟩
    have hI := hM.ints
    have hl := hI.len.out
    exact ⟨r, c, by rw [hl], by rw [hl]; exact hI, hb9⟩
theorem i_ArithValues (p i0 i1 : Int) (ga : Option Addr) (gn gc : Nat) (gs : List Int) (oa : Option Addr) (on oc : Nat) (os : List Int) (aa : Option Addr) (an ac : Nat) (us : List Int) (ba : Option Addr) (bn bc : Nat) (vs : List Int) (w : World) (h : Circ w ga gn gc gs oa on oc os) (ha : Ints w aa an ac us) (hb : Ints w ba bn bc vs) :
    Calls Tryz.prog 5 #[.agg #[.int .i64 p, .int .i64 i0, .int .i64 i1, .slice ga gn gc, .slice oa on oc], .slice aa an ac, .slice ba bn bc] w fun e w' => ∃ r c, e = .returned (.tuple #[.slice r (avV p i0 i1 gs gn os us vs).length c, .bool (okA p i0 i1 gs gn os us vs)]) ∧ Ints w' r (avV p i0 i1 gs gn os us vs).length c (avV p i0 i1 gs gn os us vs) ∧ Below w.heap.size w w' := by
  have hla := ha.len.out; have hlb := hb.len.out; have hlo := h.o.len.out
  unfold avV
  cases k : okA p i0 i1 gs gn os us vs with
  | false =>
    refine (i_ArithValuesN p i0 i1 ga gn gc gs oa on oc os aa an ac us ba bn bc vs w h ha hb k).mono ?_
    rintro e w' ⟨rfl, hb9⟩
    exact ⟨none, 0, rfl, Ints.nilA, hb9⟩
  | true =>
    obtain ⟨h1, h2, h3, rfl, rfl⟩ := okA_iff.1 k
    rw [hla, hlb] at h1
    rw [if_pos rfl]
    rw [hla, hlb]
    refine (i_ArithValuesG p ga gn gc gs oa on oc os aa an ac us ba bn bc vs w h ha hb h1 h2 h3).mono ?_
    rintro e w' ⟨r, c, rfl, hM, hb9⟩
    have hI := hM.ints
    have hl := hI.len.out
    exact ⟨r, c, by rw [hl], by rw [hl]; exact hI, hb9⟩
theorem s_EvalArith (p i0 i1 : Int) (ga : Option Addr) (gn gc : Nat) (gs : List Int) (oa : Option Addr) (on oc : Nat) (os : List Int) (aa : Option Addr) (an ac : Nat) (us : List Int) (ba : Option Addr) (bn bc : Nat) (vs : List Int) (w : World) (h : Circ w ga gn gc gs oa on oc os) (ha : Ints w aa an ac us) (hb : Ints w ba bn bc vs) :
    Calls Tryz.prog 8 #[.agg #[.int .i64 p, .int .i64 i0, .int .i64 i1, .slice ga gn gc, .slice oa on oc], .slice aa an ac, .slice ba bn bc] w fun e w' => ∃ r c, e = .returned (.tuple #[.slice r (avE p i0 i1 gs gn os us vs).length c, .bool (okA p i0 i1 gs gn os us vs)]) ∧ Ints w' r (avE p i0 i1 gs gn os us vs).length c (avE p i0 i1 gs gn os us vs) ∧ Below w.heap.size w w' := by
  have hla := ha.len.out; have hlb := hb.len.out; have hlo := h.o.len.out
  unfold avE
  cases k : okA p i0 i1 gs gn os us vs with
  | false =>
    refine (s_EvalArithN p i0 i1 ga gn gc gs oa on oc os aa an ac us ba bn bc vs w h ha hb k).mono ?_
    rintro e w' ⟨rfl, hb9⟩
    exact ⟨none, 0, rfl, Ints.nilA, hb9⟩
  | true =>
    obtain ⟨h1, h2, h3, rfl, rfl⟩ := okA_iff.1 k
    rw [hla, hlb] at h1
    rw [if_pos rfl]
    rw [hla, hlb]
    refine (s_EvalArithG p ga gn gc gs oa on oc os aa an ac us ba bn bc vs w h ha hb h1 h2 h3).mono ?_
    rintro e w' ⟨r, c, rfl, hM, hb9⟩
    have hI := hM.ints
    have hl := hI.len.out
    exact ⟨r, c, by rw [hlo, hl], by rw [hlo, hl]; exact hI, hb9⟩
theorem i_EvalArith (p i0 i1 : Int) (ga : Option Addr) (gn gc : Nat) (gs : List Int) (oa : Option Addr) (on oc : Nat) (os : List Int) (aa : Option Addr) (an ac : Nat) (us : List Int) (ba : Option Addr) (bn bc : Nat) (vs : List Int) (w : World) (h : Circ w ga gn gc gs oa on oc os) (ha : Ints w aa an ac us) (hb : Ints w ba bn bc vs) :
    Calls Tryz.prog 7 #[.agg #[.int .i64 p, .int .i64 i0, .int .i64 i1, .slice ga gn gc, .slice oa on oc], .slice aa an ac, .slice ba bn bc] w fun e w' => ∃ r c, e = .returned (.tuple #[.slice r (avE p i0 i1 gs gn os us vs).length c, .bool (okA p i0 i1 gs gn os us vs)]) ∧ Ints w' r (avE p i0 i1 gs gn os us vs).length c (avE p i0 i1 gs gn os us vs) ∧ Below w.heap.size w w' := by
  have hla := ha.len.out; have hlb := hb.len.out; have hlo := h.o.len.out
  unfold avE
  cases k : okA p i0 i1 gs gn os us vs with
  | false =>
    refine (i_EvalArithN p i0 i1 ga gn gc gs oa on oc os aa an ac us ba bn bc vs w h ha hb k).mono ?_
    rintro e w' ⟨rfl, hb9⟩
    exact ⟨none, 0, rfl, Ints.nilA, hb9⟩
  | true =>
    obtain ⟨h1, h2, h3, rfl, rfl⟩ := okA_iff.1 k
    rw [hla, hlb] at h1
    rw [if_pos rfl]
    rw [hla, hlb]
    refine (i_EvalArithG p ga gn gc gs oa on oc os aa an ac us ba bn bc vs w h ha hb h1 h2 h3).mono ?_
    rintro e w' ⟨r, c, rfl, hM, hb9⟩
    have hI := hM.ints
    have hl := hI.len.out
    exact ⟨r, c, by rw [hlo, hl], by rw [hlo, hl]; exact hI, hb9⟩
end Go.Proofs.YtfichpppjpgahaaGreatDoor
namespace Go.Proofs.YtfichpppjpgahaaGreatDoor
open Go.RowKit
set_option linter.unusedVariables false
set_option linter.unusedSimpArgs false

theorem nthZ_l {o t : List Int} {i : Nat} (h : i < o.length) : nth (o ++ t) i = nth o i := by
  unfold nth; rw [List.getD_eq_getElem?_getD, List.getD_eq_getElem?_getD, List.getElem?_append_left h]
theorem nthZ_r {o t : List Int} {i : Nat} (h : o.length ≤ i) : nth (o ++ t) i = nth t (i - o.length) := by
  unfold nth; rw [List.getD_eq_getElem?_getD, List.getD_eq_getElem?_getD, List.getElem?_append_right h]
theorem fldZ_l {o t : List Int} {c j : Nat} (h : c * 3 + j < o.length) : fld 3 (o ++ t) c j = fld 3 o c j := nthZ_l h
theorem fldZ_r {o t : List Int} {c j n : Nat} (hn : o.length = n * 3) (h : n ≤ c) : fld 3 (o ++ t) c j = fld 3 t (c - n) j := by
  unfold fld; rw [nthZ_r (by omega)]; congr 1; omega
theorem avsZ_l (p : Int) (gs t us : List Int) : ∀ k, k * 3 ≤ gs.length → avs p (gs ++ t) us k = avs p gs us k
  | 0, _ => rfl
  | k + 1, h => by
    rw [avs_step, avs_step, avsZ_l p gs t us k (by omega), fldZ_l (by omega), fldZ_l (by omega), fldZ_l (by omega)]
/-- The gates with two more: a sum and a product. -/
def addGs (gs : List Int) (a b : Int) : List Int := gs ++ [0, a, b, 1, a, b]
/-- The outs with two more. -/
def addOs (os : List Int) (N : Int) : List Int := os ++ [N, N + 1]
theorem avsZ (p : Int) (gs us : List Int) (gn : Nat) (a b : Int) (hl : gs.length = gn * 3) (ha : a.toNat < us.length + gn) (hb : b.toNat < us.length + gn) :
    avs p (addGs gs a b) us (gn + 2) = avs p gs us gn ++ [(nth (avs p gs us gn) a.toNat + nth (avs p gs us gn) b.toNat) % p, nth (avs p gs us gn) a.toNat * nth (avs p gs us gn) b.toNat % p] := by
  have hV := avs_len p gs us gn
  have f00 : fld 3 (addGs gs a b) gn 0 = 0 := by unfold addGs; rw [fldZ_r hl (Nat.le_refl _), Nat.sub_self]; rfl
  have f01 : fld 3 (addGs gs a b) gn 1 = a := by unfold addGs; rw [fldZ_r hl (Nat.le_refl _), Nat.sub_self]; rfl
  have f02 : fld 3 (addGs gs a b) gn 2 = b := by unfold addGs; rw [fldZ_r hl (Nat.le_refl _), Nat.sub_self]; rfl
  have f10 : fld 3 (addGs gs a b) (gn + 1) 0 = 1 := by unfold addGs; rw [fldZ_r hl (by omega), Nat.add_sub_cancel_left]; rfl
  have f11 : fld 3 (addGs gs a b) (gn + 1) 1 = a := by unfold addGs; rw [fldZ_r hl (by omega), Nat.add_sub_cancel_left]; rfl
  have f12 : fld 3 (addGs gs a b) (gn + 1) 2 = b := by unfold addGs; rw [fldZ_r hl (by omega), Nat.add_sub_cancel_left]; rfl
  have e0 : avs p (addGs gs a b) us gn = avs p gs us gn := avsZ_l p gs _ us gn (by omega)
  rw [avs_step, avs_step, f00, f01, f02, f10, f11, f12, e0]
  unfold aVal
  rw [if_pos rfl, if_neg (by decide), if_pos rfl, nthZ_l (by omega), nthZ_l (by omega), List.append_assoc]
  rfl
theorem pkLZ_l {V t os t' : List Int} : ∀ n, n ≤ os.length → (∀ i, i < n → (nth os i).toNat < V.length) → pkL (V ++ t) (os ++ t') n = pkL V os n
  | 0, _, _ => rfl
  | n + 1, h, k => by
    rw [pkL_succ, pkL_succ, pkLZ_l n (by omega) (fun i hi => k i (by omega)), nthZ_l (o := os) (by omega), nthZ_l (o := V) (k n (by omega))]
theorem pkLZ {V os : List Int} {N : Int} (x y : Int) (hV : (V.length : Int) = N) (h : ∀ i, i < os.length → (nth os i).toNat < V.length) :
    pkL (V ++ [x, y]) (addOs os N) (os.length + 2) = pkL V os os.length ++ [x, y] := by
  have e0 : nth (addOs os N) os.length = N := by unfold addOs; rw [nthZ_r (Nat.le_refl _), Nat.sub_self]; rfl
  have e1 : nth (addOs os N) (os.length + 1) = N + 1 := by unfold addOs; rw [nthZ_r (by omega), Nat.add_sub_cancel_left]; rfl
  have h0 : nth (V ++ [x, y]) N.toNat = x := by rw [show N.toNat = V.length by omega, nthZ_r (Nat.le_refl _), Nat.sub_self]; rfl
  have h1 : nth (V ++ [x, y]) (N + 1).toNat = y := by rw [show (N + 1).toNat = V.length + 1 by omega, nthZ_r (by omega), Nat.add_sub_cancel_left]; rfl
  rw [pkL_succ, pkL_succ, e0, e1, h0, h1]
  unfold addOs
  rw [pkLZ_l _ (Nat.le_refl _) h, List.append_assoc]
  rfl
/-- The circuit with two outs more. -/
structure AddRes (p i0 i1 : Int) (gs : List Int) (gn : Nat) (os us vs : List Int) (q : Bool) : Prop where
  ok : okA p i0 i1 (addGs gs (nth os 0) (nth os (os.length - 1))) (gn + 2) (addOs os (i0 + i1 + gn)) us vs = true
  out : avE p i0 i1 (addGs gs (nth os 0) (nth os (os.length - 1))) (gn + 2) (addOs os (i0 + i1 + gn)) us vs = avE p i0 i1 gs gn os us vs ++ [(nth (avE p i0 i1 gs gn os us vs) 0 + nth (avE p i0 i1 gs gn os us vs) (os.length - 1)) % p, nth (avE p i0 i1 gs gn os us vs) 0 * nth (avE p i0 i1 gs gn os us vs) (os.length - 1) % p]
theorem wireZ {p i0 i1 : Int} {gs os us vs : List Int} {gn : Nat} (h : okA p i0 i1 gs gn os us vs = true) {i : Nat} (hi : i < os.length) : 0 ≤ nth os i ∧ (nth os i).toNat < (us ++ vs).length + gn := by
  obtain ⟨hA, _, _, hu, hv⟩ := okA_iff.1 h
  have := inB_iff.1 (allIn_iff.1 (arC_iff.1 hA).2.2 i hi)
  rw [List.length_append]
  omega
theorem add_end {p i0 i1 : Int} {gs os us vs : List Int} {gn : Nat} (h : okA p i0 i1 gs gn os us vs = true) (hl : gs.length = gn * 3) (ho : 1 ≤ os.length)
    (hI : arC p i0 i1 (addGs gs (nth os 0) (nth os (os.length - 1))) (gn + 2) (addOs os (i0 + i1 + gn)) = true) : AddRes p i0 i1 gs gn os us vs true := by
  obtain ⟨hA, hU, hW, hu, hv⟩ := okA_iff.1 h
  have hok : okA p i0 i1 (addGs gs (nth os 0) (nth os (os.length - 1))) (gn + 2) (addOs os (i0 + i1 + gn)) us vs = true := okA_iff.2 ⟨hI, hU, hW, hu, hv⟩
  refine ⟨hok, ?_⟩
  unfold avE
  rw [if_pos h, if_pos hok, avsZ p gs _ gn _ _ hl (wireZ h (by omega)).2 (wireZ h (by omega)).2]
  have hlo : (addOs os (i0 + i1 + gn)).length = os.length + 2 := by unfold addOs; simp
  rw [hlo, pkLZ _ _ (by rw [avs_len, List.length_append]; omega) (fun i hi => by rw [avs_len]; exact (wireZ h hi).2), nth_pkL (by omega), nth_pkL (by omega)]
/-- An out is the value of its wire. -/
theorem out_wire {p i0 i1 : Int} {gs os us vs : List Int} {gn : Nat} (h : okA p i0 i1 gs gn os us vs = true) {i : Nat} (hi : i < os.length) : nth (avE p i0 i1 gs gn os us vs) i = nth (avV p i0 i1 gs gn os us vs) (nth os i).toNat := by
  unfold avE avV
  rw [if_pos h, if_pos h, nth_pkL hi]
theorem avE_len {p i0 i1 : Int} {gs os us vs : List Int} {gn : Nat} (h : okA p i0 i1 gs gn os us vs = true) : (avE p i0 i1 gs gn os us vs).length = os.length := by
  unfold avE; rw [if_pos h, pkL_len]
theorem avV_len {p i0 i1 : Int} {gs os us vs : List Int} {gn : Nat} (h : okA p i0 i1 gs gn os us vs = true) : (avV p i0 i1 gs gn os us vs).length = (us ++ vs).length + gn := by
  unfold avV; rw [if_pos h, avs_len]
theorem avE_bd {p i0 i1 : Int} {gs os us vs : List Int} {gn : Nat} (h : okA p i0 i1 gs gn os us vs = true) (i : Nat) : 0 ≤ nth (avE p i0 i1 gs gn os us vs) i ∧ nth (avE p i0 i1 gs gn os us vs) i < p := by
  obtain ⟨hA, hU, hW, hu, hv⟩ := okA_iff.1 h
  have hp := (arC_ok hA).1
  have hb := avs_res (by omega) gs _ (els_join hU hW).out gn
  refine nth_bd (by omega) (fun x hx => ?_) i
  unfold avE at hx
  rw [if_pos h] at hx
  simp only [pkL, List.mem_map] at hx
  obtain ⟨k, _, rfl⟩ := hx
  exact nth_bd (by omega) hb _
/-- The kinds are as many as the gates. -/
theorem cntK_all {gs : List Int} : ∀ {n : Nat}, kindsOk gs n → cntK gs 0 n + cntK gs 1 n + cntK gs 2 n + cntK gs 3 n = n
  | 0, _ => rfl
  | n + 1, h => by
    have ih := cntK_all (n := n) (fun i hi => h i (by omega))
    have h1 := h n (by omega)
    rw [cntK, cntK, cntK, cntK]
    rcases h1 with e | e | e | e <;> rw [e] <;> simp <;> omega
theorem kinds_sum {gs : List Int} {n : Nat} (h : kindsOk gs n) : sumI (kinds gs n) 4 = n := by
  have := cntK_all h
  show 0 + cntK gs 0 n + cntK gs 1 n + cntK gs 2 n + cntK gs 3 n = n
  omega
theorem kinds_bd {gs : List Int} {n : Nat} (hn : n ≤ 100) : Hid (∀ k, k ≤ 4 → 0 ≤ sumI (kinds gs n) k ∧ sumI (kinds gs n) k ≤ 1000000) := by
  intro k hk
  have a0 := cntK_bd gs 0 n; have a1 := cntK_bd gs 1 n; have a2 := cntK_bd gs 2 n; have a3 := cntK_bd gs 3 n
  have e0 : sumI (kinds gs n) 0 = 0 := rfl
  have e1 : sumI (kinds gs n) 1 = 0 + cntK gs 0 n := rfl
  have e2 : sumI (kinds gs n) 2 = 0 + cntK gs 0 n + cntK gs 1 n := rfl
  have e3 : sumI (kinds gs n) 3 = 0 + cntK gs 0 n + cntK gs 1 n + cntK gs 2 n := rfl
  have e4 : sumI (kinds gs n) 4 = 0 + cntK gs 0 n + cntK gs 1 n + cntK gs 2 n + cntK gs 3 n := rfl
  rcases (show k = 0 ∨ k = 1 ∨ k = 2 ∨ k = 3 ∨ k = 4 by omega) with e | e | e | e | e <;> subst e <;> omega
end Go.Proofs.YtfichpppjpgahaaGreatDoor
