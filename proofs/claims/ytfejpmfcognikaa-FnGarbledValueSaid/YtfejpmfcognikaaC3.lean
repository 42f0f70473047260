/-
  Contracts: valid gates, numbers of inputs and wires, valid circuits; both sides.
-/
import Derived.Test.YtfejpmfcognikaaC2
import Derived.Test.YtfejpmfcognikaaA
import Derived.Deep.RegionHeld3
namespace Go.Proofs.Ytfejpmfcognikaa
open Go.RowKit
set_option linter.unusedVariables false
set_option linter.unusedSimpArgs false

/-- A valid gate behind some wires. -/
def gateB (k a b own : Int) : Bool := if k = 0 ∨ k = 1 then inB a 0 (own - 1) && inB b 0 (own - 1) else if k = 2 then inB a 0 (own - 1) && decide (b = 0) else decide (k = 3) && (decide (a = 0) && decide (b = 0))
theorem gateB_01 {k a b own : Int} (h : k = 0 ∨ k = 1) : gateB k a b own = (inB a 0 (own - 1) && inB b 0 (own - 1)) := by unfold gateB; rw [if_pos h]
theorem gateB_2 {a b own : Int} : gateB 2 a b own = (inB a 0 (own - 1) && decide (b = 0)) := by unfold gateB; rw [if_neg (by omega), if_pos rfl]
theorem gateB_3 {k a b own : Int} (h : ¬ (k = 0 ∨ k = 1)) (h2 : k ≠ 2) : gateB k a b own = (decide (k = 3) && (decide (a = 0) && decide (b = 0))) := by unfold gateB; rw [if_neg h, if_neg h2]
/-- All gates up to the n-th are valid. -/
def gatesB (base : Int) (gs : List Int) : Nat → Bool
  | 0 => true
  | n + 1 => gatesB base gs n && gateB (fld 3 gs n 0) (fld 3 gs n 1) (fld 3 gs n 2) (base + n)
theorem gatesB_no {base : Int} {gs : List Int} {i : Nat} (h : gateB (fld 3 gs i 0) (fld 3 gs i 1) (fld 3 gs i 2) (base + i) = false) : ∀ {n : Nat}, i < n → gatesB base gs n = false
  | 0, hi => by omega
  | n + 1, hi => by
    rw [gatesB]
    by_cases e : i = n
    · subst e; rw [h, Bool.and_false]
    · rw [gatesB_no h (by omega), Bool.false_and]
theorem gatesB_at {base : Int} {gs : List Int} {i : Nat} : ∀ {n : Nat}, gatesB base gs n = true → i < n → gateB (fld 3 gs i 0) (fld 3 gs i 1) (fld 3 gs i 2) (base + i) = true
  | 0, _, hi => by omega
  | n + 1, h, hi => by
    rw [gatesB, Bool.and_eq_true] at h
    by_cases e : i = n
    · subst e; exact h.2
    · exact gatesB_at h.1 (by omega)
/-- The sizes of a valid circuit. -/
def circS (i0 i1 : Int) (gn on : Nat) : Bool := inB i0 0 20 && (inB i1 0 20 && (decide (gn ≤ 300) && decide (on ≤ 40)))
theorem circS_iff {i0 i1 : Int} {gn on : Nat} : circS i0 i1 gn on = true ↔ (0 ≤ i0 ∧ i0 ≤ 20) ∧ (0 ≤ i1 ∧ i1 ≤ 20) ∧ gn ≤ 300 ∧ on ≤ 40 := by
  unfold circS; simp only [Bool.and_eq_true, inB_iff, decide_eq_true_iff]
/-- A valid circuit. -/
def circB (i0 i1 : Int) (gs : List Int) (gn : Nat) (os : List Int) : Bool := circS i0 i1 gn os.length && (gatesB (i0 + i1) gs gn && allIn os 0 (i0 + i1 + gn - 1))
theorem circB_iff {i0 i1 : Int} {gs os : List Int} {gn : Nat} : circB i0 i1 gs gn os = true ↔ circS i0 i1 gn os.length = true ∧ gatesB (i0 + i1) gs gn = true ∧ allIn os 0 (i0 + i1 + gn - 1) = true := by
  unfold circB; simp only [Bool.and_eq_true]
/-- A box of three cells, just made. -/
structure B3 (w : World) (b : Nat) (x0 x1 x2 : Value) : Prop where
  c0 : w.cell? ⟨b, 0, none⟩ = some x0
  c1 : w.cell? ⟨b, 1, none⟩ = some x1
  c2 : w.cell? ⟨b, 2, none⟩ = some x2
theorem B3.new {w : World} {x0 x1 x2 : Value} {t : TypeId} : B3 (w.alloc (.cells #[x0, x1, x2] t)) w.heap.size x0 x1 x2 :=
  ⟨World.cell?_alloc_at _ _ _ _ rfl, World.cell?_alloc_at _ _ _ _ rfl, World.cell?_alloc_at _ _ _ _ rfl⟩
theorem B3.on {w w' : World} {b : Nat} {x0 x1 x2 : Value} (h : B3 w b x0 x1 x2) (hb : Below w.heap.size w w') : B3 w' b x0 x1 x2 := ⟨cell_on h.c0 hb, cell_on h.c1 hb, cell_on h.c2 hb⟩

set_option maxHeartbeats 4000000 in
theorem i_gateOk (k a b own : Int) (w : World) (hw : 0 ≤ own ∧ own ≤ 1000000) :
    Calls Try.prog 113 #[.agg #[.int .i64 k, .int .i64 a, .int .i64 b], .int .i64 own] w fun e w' => e = .returned (.bool (gateB k a b own)) ∧ Below w.heap.size w w' := by
  obtain ⟨hw1, hw2⟩ := hw
  have e1 : IntKind.i64.wrap (own - 1) = own - 1 := IntWalk.i64_in _ (by omega)
  have g0 := B3.new (w := w) (x0 := .int .i64 k) (x1 := .int .i64 a) (x2 := .int .i64 b) (t := 111)
  obtain ⟨c0, c1, c2⟩ := g0
  by_cases h0 : k = 0 ∨ k = 1
  · rw [gateB_01 h0]
    have hkk := h0
    rcases h0 with rfl | rfl
    · cases ha : inB a 0 (own - 1) with
      | false =>
        go_enter Try.func113, Try.ntmps113
        go_wp2_with (go_at_call 49; refine (i_within _ _ _ _).mono ?_; rintro e w1 ⟨rfl, rfl⟩)
        go_ret
        exact ⟨rfl, by (repeat (first | exact Below.refl _ _ | assumption | refine bel_trans ?_ (bel_alloc _ _) | refine bel_set ?_ (by first | (dsimp only; omega) | (simp; omega) | simp) _ | refine bel_trans ?_ (bel_drewN _ _) | refine bel_trans ?_ (bel_drew _) | refine bel_trans ?_ (by assumption)))⟩
      | true =>
        go_enter Try.func113, Try.ntmps113
        go_wp2_with (go_at_call 49; refine (i_within _ _ _ _).mono ?_; rintro e w1 ⟨rfl, rfl⟩)
        go_ret
        exact ⟨rfl, by (repeat (first | exact Below.refl _ _ | assumption | refine bel_trans ?_ (bel_alloc _ _) | refine bel_set ?_ (by first | (dsimp only; omega) | (simp; omega) | simp) _ | refine bel_trans ?_ (bel_drewN _ _) | refine bel_trans ?_ (bel_drew _) | refine bel_trans ?_ (by assumption)))⟩
    · cases ha : inB a 0 (own - 1) with
      | false =>
        go_enter Try.func113, Try.ntmps113
        go_wp2_with (go_at_call 49; refine (i_within _ _ _ _).mono ?_; rintro e w1 ⟨rfl, rfl⟩)
        go_ret
        exact ⟨rfl, by (repeat (first | exact Below.refl _ _ | assumption | refine bel_trans ?_ (bel_alloc _ _) | refine bel_set ?_ (by first | (dsimp only; omega) | (simp; omega) | simp) _ | refine bel_trans ?_ (bel_drewN _ _) | refine bel_trans ?_ (bel_drew _) | refine bel_trans ?_ (by assumption)))⟩
      | true =>
        go_enter Try.func113, Try.ntmps113
        go_wp2_with (go_at_call 49; refine (i_within _ _ _ _).mono ?_; rintro e w1 ⟨rfl, rfl⟩)
        go_ret
        exact ⟨rfl, by (repeat (first | exact Below.refl _ _ | assumption | refine bel_trans ?_ (bel_alloc _ _) | refine bel_set ?_ (by first | (dsimp only; omega) | (simp; omega) | simp) _ | refine bel_trans ?_ (bel_drewN _ _) | refine bel_trans ?_ (bel_drew _) | refine bel_trans ?_ (by assumption)))⟩
  · by_cases h2 : k = 2
    · subst h2
      rw [gateB_2]
      cases ha : inB a 0 (own - 1) with
      | false =>
        go_enter Try.func113, Try.ntmps113
        go_wp2_with (go_at_call 49; refine (i_within _ _ _ _).mono ?_; rintro e w1 ⟨rfl, rfl⟩)
        go_ret
        exact ⟨rfl, by (repeat (first | exact Below.refl _ _ | assumption | refine bel_trans ?_ (bel_alloc _ _) | refine bel_set ?_ (by first | (dsimp only; omega) | (simp; omega) | simp) _ | refine bel_trans ?_ (bel_drewN _ _) | refine bel_trans ?_ (bel_drew _) | refine bel_trans ?_ (by assumption)))⟩
      | true =>
        by_cases hb : b = 0
        · subst hb
          go_enter Try.func113, Try.ntmps113
          go_wp2_with (go_at_call 49; refine (i_within _ _ _ _).mono ?_; rintro e w1 ⟨rfl, rfl⟩)
          go_ret
          exact ⟨rfl, by (repeat (first | exact Below.refl _ _ | assumption | refine bel_trans ?_ (bel_alloc _ _) | refine bel_set ?_ (by first | (dsimp only; omega) | (simp; omega) | simp) _ | refine bel_trans ?_ (bel_drewN _ _) | refine bel_trans ?_ (bel_drew _) | refine bel_trans ?_ (by assumption)))⟩
        · have hbb : (b == 0) = false := by simpa using hb
          rw [decide_eq_false hb]
          go_enter Try.func113, Try.ntmps113
          go_wp2_with (go_at_call 49; refine (i_within _ _ _ _).mono ?_; rintro e w1 ⟨rfl, rfl⟩)
          go_ret
          exact ⟨rfl, by (repeat (first | exact Below.refl _ _ | assumption | refine bel_trans ?_ (bel_alloc _ _) | refine bel_set ?_ (by first | (dsimp only; omega) | (simp; omega) | simp) _ | refine bel_trans ?_ (bel_drewN _ _) | refine bel_trans ?_ (bel_drew _) | refine bel_trans ?_ (by assumption)))⟩
    · rw [gateB_3 h0 h2]
      have k0 : ¬ k = 0 := fun e => h0 (.inl e)
      have k1 : ¬ k = 1 := fun e => h0 (.inr e)
      have k0b : (k == 0) = false := by simpa using k0
      have k1b : (k == 1) = false := by simpa using k1
      have k2b : (k == 2) = false := by simpa using h2
      clear h0
      by_cases h3 : k = 3
      · subst h3
        by_cases ha : a = 0
        · subst ha
          by_cases hb : b = 0
          · subst hb
            go_enter Try.func113, Try.ntmps113
            go_wp2
            go_ret
            exact ⟨by first | rfl | simp, by (repeat (first | exact Below.refl _ _ | assumption | refine bel_trans ?_ (bel_alloc _ _) | refine bel_set ?_ (by first | (dsimp only; omega) | (simp; omega) | simp) _ | refine bel_trans ?_ (bel_drewN _ _) | refine bel_trans ?_ (bel_drew _) | refine bel_trans ?_ (by assumption)))⟩
          · have hbb : (b == 0) = false := by simpa using hb
            have hbc : (0 == b) = false := by simpa using fun e => hb e.symm
            rw [decide_eq_false hb]
            go_enter Try.func113, Try.ntmps113
            go_wp2
            go_ret
            exact ⟨by first | rfl | simp | (simp; omega), by (repeat (first | exact Below.refl _ _ | assumption | refine bel_trans ?_ (bel_alloc _ _) | refine bel_set ?_ (by first | (dsimp only; omega) | (simp; omega) | simp) _ | refine bel_trans ?_ (bel_drewN _ _) | refine bel_trans ?_ (bel_drew _) | refine bel_trans ?_ (by assumption)))⟩
        · have hbb : (a == 0) = false := by simpa using ha
          have hbc : (0 == a) = false := by simpa using fun e => ha e.symm
          rw [decide_eq_false ha]
          go_enter Try.func113, Try.ntmps113
          go_wp2
          go_ret
          exact ⟨by first | rfl | simp | (simp; omega), by (repeat (first | exact Below.refl _ _ | assumption | refine bel_trans ?_ (bel_alloc _ _) | refine bel_set ?_ (by first | (dsimp only; omega) | (simp; omega) | simp) _ | refine bel_trans ?_ (bel_drewN _ _) | refine bel_trans ?_ (bel_drew _) | refine bel_trans ?_ (by assumption)))⟩
      · have k3b : (k == 3) = false := by simpa using h3
        have k3c : (3 == k) = false := by simpa using fun e => h3 e.symm
        rw [decide_eq_false h3]
        go_enter Try.func113, Try.ntmps113
        go_wp2
        go_ret
        exact ⟨by first | rfl | simp | (simp; omega), by (repeat (first | exact Below.refl _ _ | assumption | refine bel_trans ?_ (bel_alloc _ _) | refine bel_set ?_ (by first | (dsimp only; omega) | (simp; omega) | simp) _ | refine bel_trans ?_ (bel_drewN _ _) | refine bel_trans ?_ (bel_drew _) | refine bel_trans ?_ (by assumption)))⟩
set_option maxHeartbeats 4000000 in
theorem s_ciGate (k a b own : Int) (w : World) (hw : 0 ≤ own ∧ own ≤ 1000000) :
    Calls Try.prog 126 #[.agg #[.int .i64 k, .int .i64 a, .int .i64 b], .int .i64 own] w fun e w' => e = .returned (.bool (gateB k a b own)) ∧ Below w.heap.size w w' := by
  obtain ⟨hw1, hw2⟩ := hw
  have e1 : IntKind.i64.wrap (own - 1) = own - 1 := IntWalk.i64_in _ (by omega)
  have g0 := B3.new (w := w) (x0 := .int .i64 k) (x1 := .int .i64 a) (x2 := .int .i64 b) (t := 111)
  obtain ⟨c0, c1, c2⟩ := g0
  by_cases h0 : k = 0 ∨ k = 1
  · rw [gateB_01 h0]
    have hkk := h0
    rcases h0 with rfl | rfl
    · cases ha : inB a 0 (own - 1) with
      | false =>
        go_enter Try.func126, Try.ntmps126
        go_wp2_with (go_at_call 87; refine (s_l1In _ _ _ _).mono ?_; rintro e w1 ⟨rfl, rfl⟩)
        go_ret
        exact ⟨rfl, by (repeat (first | exact Below.refl _ _ | assumption | refine bel_trans ?_ (bel_alloc _ _) | refine bel_set ?_ (by first | (dsimp only; omega) | (simp; omega) | simp) _ | refine bel_trans ?_ (bel_drewN _ _) | refine bel_trans ?_ (bel_drew _) | refine bel_trans ?_ (by assumption)))⟩
      | true =>
        go_enter Try.func126, Try.ntmps126
        go_wp2_with (go_at_call 87; refine (s_l1In _ _ _ _).mono ?_; rintro e w1 ⟨rfl, rfl⟩)
        go_ret
        exact ⟨rfl, by (repeat (first | exact Below.refl _ _ | assumption | refine bel_trans ?_ (bel_alloc _ _) | refine bel_set ?_ (by first | (dsimp only; omega) | (simp; omega) | simp) _ | refine bel_trans ?_ (bel_drewN _ _) | refine bel_trans ?_ (bel_drew _) | refine bel_trans ?_ (by assumption)))⟩
    · cases ha : inB a 0 (own - 1) with
      | false =>
        go_enter Try.func126, Try.ntmps126
        go_wp2_with (go_at_call 87; refine (s_l1In _ _ _ _).mono ?_; rintro e w1 ⟨rfl, rfl⟩)
        go_ret
        exact ⟨rfl, by (repeat (first | exact Below.refl _ _ | assumption | refine bel_trans ?_ (bel_alloc _ _) | refine bel_set ?_ (by first | (dsimp only; omega) | (simp; omega) | simp) _ | refine bel_trans ?_ (bel_drewN _ _) | refine bel_trans ?_ (bel_drew _) | refine bel_trans ?_ (by assumption)))⟩
      | true =>
        go_enter Try.func126, Try.ntmps126
        go_wp2_with (go_at_call 87; refine (s_l1In _ _ _ _).mono ?_; rintro e w1 ⟨rfl, rfl⟩)
        go_ret
        exact ⟨rfl, by (repeat (first | exact Below.refl _ _ | assumption | refine bel_trans ?_ (bel_alloc _ _) | refine bel_set ?_ (by first | (dsimp only; omega) | (simp; omega) | simp) _ | refine bel_trans ?_ (bel_drewN _ _) | refine bel_trans ?_ (bel_drew _) | refine bel_trans ?_ (by assumption)))⟩
  · by_cases h2 : k = 2
    · subst h2
      rw [gateB_2]
      cases ha : inB a 0 (own - 1) with
      | false =>
        go_enter Try.func126, Try.ntmps126
        go_wp2_with (go_at_call 87; refine (s_l1In _ _ _ _).mono ?_; rintro e w1 ⟨rfl, rfl⟩)
        go_ret
        exact ⟨rfl, by (repeat (first | exact Below.refl _ _ | assumption | refine bel_trans ?_ (bel_alloc _ _) | refine bel_set ?_ (by first | (dsimp only; omega) | (simp; omega) | simp) _ | refine bel_trans ?_ (bel_drewN _ _) | refine bel_trans ?_ (bel_drew _) | refine bel_trans ?_ (by assumption)))⟩
      | true =>
        by_cases hb : b = 0
        · subst hb
          go_enter Try.func126, Try.ntmps126
          go_wp2_with (go_at_call 87; refine (s_l1In _ _ _ _).mono ?_; rintro e w1 ⟨rfl, rfl⟩)
          go_ret
          exact ⟨rfl, by (repeat (first | exact Below.refl _ _ | assumption | refine bel_trans ?_ (bel_alloc _ _) | refine bel_set ?_ (by first | (dsimp only; omega) | (simp; omega) | simp) _ | refine bel_trans ?_ (bel_drewN _ _) | refine bel_trans ?_ (bel_drew _) | refine bel_trans ?_ (by assumption)))⟩
        · have hbb : (b == 0) = false := by simpa using hb
          rw [decide_eq_false hb]
          go_enter Try.func126, Try.ntmps126
          go_wp2_with (go_at_call 87; refine (s_l1In _ _ _ _).mono ?_; rintro e w1 ⟨rfl, rfl⟩)
          go_ret
          exact ⟨rfl, by (repeat (first | exact Below.refl _ _ | assumption | refine bel_trans ?_ (bel_alloc _ _) | refine bel_set ?_ (by first | (dsimp only; omega) | (simp; omega) | simp) _ | refine bel_trans ?_ (bel_drewN _ _) | refine bel_trans ?_ (bel_drew _) | refine bel_trans ?_ (by assumption)))⟩
    · rw [gateB_3 h0 h2]
      have k0 : ¬ k = 0 := fun e => h0 (.inl e)
      have k1 : ¬ k = 1 := fun e => h0 (.inr e)
      have k0b : (k == 0) = false := by simpa using k0
      have k1b : (k == 1) = false := by simpa using k1
      have k2b : (k == 2) = false := by simpa using h2
      clear h0
      by_cases h3 : k = 3
      · subst h3
        by_cases ha : a = 0
        · subst ha
          by_cases hb : b = 0
          · subst hb
            go_enter Try.func126, Try.ntmps126
            go_wp2
            go_ret
            exact ⟨by first | rfl | simp, by (repeat (first | exact Below.refl _ _ | assumption | refine bel_trans ?_ (bel_alloc _ _) | refine bel_set ?_ (by first | (dsimp only; omega) | (simp; omega) | simp) _ | refine bel_trans ?_ (bel_drewN _ _) | refine bel_trans ?_ (bel_drew _) | refine bel_trans ?_ (by assumption)))⟩
          · have hbb : (b == 0) = false := by simpa using hb
            have hbc : (0 == b) = false := by simpa using fun e => hb e.symm
            rw [decide_eq_false hb]
            go_enter Try.func126, Try.ntmps126
            go_wp2
            go_ret
            exact ⟨by first | rfl | simp | (simp; omega), by (repeat (first | exact Below.refl _ _ | assumption | refine bel_trans ?_ (bel_alloc _ _) | refine bel_set ?_ (by first | (dsimp only; omega) | (simp; omega) | simp) _ | refine bel_trans ?_ (bel_drewN _ _) | refine bel_trans ?_ (bel_drew _) | refine bel_trans ?_ (by assumption)))⟩
        · have hbb : (a == 0) = false := by simpa using ha
          have hbc : (0 == a) = false := by simpa using fun e => ha e.symm
          rw [decide_eq_false ha]
          go_enter Try.func126, Try.ntmps126
          go_wp2
          go_ret
          exact ⟨by first | rfl | simp | (simp; omega), by (repeat (first | exact Below.refl _ _ | assumption | refine bel_trans ?_ (bel_alloc _ _) | refine bel_set ?_ (by first | (dsimp only; omega) | (simp; omega) | simp) _ | refine bel_trans ?_ (bel_drewN _ _) | refine bel_trans ?_ (bel_drew _) | refine bel_trans ?_ (by assumption)))⟩
      · have k3b : (k == 3) = false := by simpa using h3
        have k3c : (3 == k) = false := by simpa using fun e => h3 e.symm
        rw [decide_eq_false h3]
        go_enter Try.func126, Try.ntmps126
        go_wp2
        go_ret
        exact ⟨by first | rfl | simp | (simp; omega), by (repeat (first | exact Below.refl _ _ | assumption | refine bel_trans ?_ (bel_alloc _ _) | refine bel_set ?_ (by first | (dsimp only; omega) | (simp; omega) | simp) _ | refine bel_trans ?_ (bel_drewN _ _) | refine bel_trans ?_ (bel_drew _) | refine bel_trans ?_ (by assumption)))⟩
set_option maxHeartbeats 1000000 in
theorem i_inputs (i0 i1 : Int) (ga : Option Addr) (gn gc : Nat) (oa : Option Addr) (on oc : Nat) (w : World) (h0 : 0 ≤ i0 ∧ i0 ≤ 20) (h1 : 0 ≤ i1 ∧ i1 ≤ 20) :
    Calls Try.prog 70 #[.agg #[.int .i64 i0, .int .i64 i1, .slice ga gn gc, .slice oa on oc]] w fun e w' => e = .returned (.int .i64 (i0 + i1)) ∧ Below w.heap.size w w' := by
  obtain ⟨h01, h02⟩ := h0; obtain ⟨h11, h12⟩ := h1
  have e1 : IntKind.i64.wrap (i0 + i1) = i0 + i1 := IntWalk.i64_in _ (by omega)
  have g0 := B4.new (w := w) (x0 := .int .i64 i0) (x1 := .int .i64 i1) (x2 := .slice ga gn gc) (x3 := .slice oa on oc) (t := 25)
  obtain ⟨c0, c1, c2, c3⟩ := g0
  go_enter Try.func70, Try.ntmps70
  go_wp2
  go_ret
  exact ⟨rfl, by (repeat (first | exact Below.refl _ _ | assumption | refine bel_trans ?_ (bel_alloc _ _) | refine bel_set ?_ (by first | (dsimp only; omega) | (simp; omega) | simp) _ | refine bel_trans ?_ (bel_drewN _ _) | refine bel_trans ?_ (bel_drew _) | refine bel_trans ?_ (by assumption)))⟩
set_option maxHeartbeats 2000000 in
theorem i_wires (i0 i1 : Int) (ga : Option Addr) (gn gc : Nat) (oa : Option Addr) (on oc : Nat) (w : World) (h0 : 0 ≤ i0 ∧ i0 ≤ 20) (h1 : 0 ≤ i1 ∧ i1 ≤ 20) (hn : gn ≤ 300) :
    Calls Try.prog 115 #[.agg #[.int .i64 i0, .int .i64 i1, .slice ga gn gc, .slice oa on oc]] w fun e w' => e = .returned (.int .i64 (i0 + i1 + gn)) ∧ Below w.heap.size w w' := by
  have e1 : IntKind.i64.wrap (i0 + i1 + gn) = i0 + i1 + gn := IntWalk.i64_in _ (by omega)
  have A0 := bel_alloc w (.cells #[.int .i64 i0, .int .i64 i1, .slice ga gn gc, .slice oa on oc] 25)
  have g0 := B4.new (w := w) (x0 := .int .i64 i0) (x1 := .int .i64 i1) (x2 := .slice ga gn gc) (x3 := .slice oa on oc) (t := 25)
  obtain ⟨c0, c1, c2, c3⟩ := g0
  go_enter Try.func115, Try.ntmps115
  go_wp2
  go_region_held3 (fun W => W.cell? ⟨w.heap.size, 0, none⟩ = some (.int .i64 i0) ∧ W.cell? ⟨w.heap.size, 1, none⟩ = some (.int .i64 i1) ∧ W.cell? ⟨w.heap.size, 2, none⟩ = some (.slice ga gn gc) ∧ W.cell? ⟨w.heap.size, 3, none⟩ = some (.slice oa on oc)) (exact ⟨c0, c1, c2, c3⟩) (first | (go_at_call 70; refine (i_inputs _ _ _ _ _ _ _ _ _ h0 h1).mono ?_; rintro e w1 ⟨rfl, hb1⟩; have hb2 := bel_trans (bel_drew _) hb1; have c0 := cell_on c0 hb2; have c1 := cell_on c1 hb2; have c2 := cell_on c2 hb2; have c3 := cell_on c3 hb2))
  go_wp2
  go_ret
  exact ⟨rfl, bel_trans A0 hb2⟩
set_option maxHeartbeats 1000000 in
theorem s_ciInputs (i0 i1 : Int) (ga : Option Addr) (gn gc : Nat) (oa : Option Addr) (on oc : Nat) (w : World) (h0 : 0 ≤ i0 ∧ i0 ≤ 20) (h1 : 0 ≤ i1 ∧ i1 ≤ 20) :
    Calls Try.prog 127 #[.agg #[.int .i64 i0, .int .i64 i1, .slice ga gn gc, .slice oa on oc]] w fun e w' => e = .returned (.int .i64 (i0 + i1)) ∧ Below w.heap.size w w' := by
  obtain ⟨h01, h02⟩ := h0; obtain ⟨h11, h12⟩ := h1
  have e1 : IntKind.i64.wrap (i0 + i1) = i0 + i1 := IntWalk.i64_in _ (by omega)
  have g0 := B4.new (w := w) (x0 := .int .i64 i0) (x1 := .int .i64 i1) (x2 := .slice ga gn gc) (x3 := .slice oa on oc) (t := 25)
  obtain ⟨c0, c1, c2, c3⟩ := g0
  go_enter Try.func127, Try.ntmps127
  go_wp2
  go_ret
  exact ⟨rfl, by (repeat (first | exact Below.refl _ _ | assumption | refine bel_trans ?_ (bel_alloc _ _) | refine bel_set ?_ (by first | (dsimp only; omega) | (simp; omega) | simp) _ | refine bel_trans ?_ (bel_drewN _ _) | refine bel_trans ?_ (bel_drew _) | refine bel_trans ?_ (by assumption)))⟩
set_option maxHeartbeats 2000000 in
theorem s_ciWires (i0 i1 : Int) (ga : Option Addr) (gn gc : Nat) (oa : Option Addr) (on oc : Nat) (w : World) (h0 : 0 ≤ i0 ∧ i0 ≤ 20) (h1 : 0 ≤ i1 ∧ i1 ≤ 20) (hn : gn ≤ 300) :
    Calls Try.prog 128 #[.agg #[.int .i64 i0, .int .i64 i1, .slice ga gn gc, .slice oa on oc]] w fun e w' => e = .returned (.int .i64 (i0 + i1 + gn)) ∧ Below w.heap.size w w' := by
  have e1 : IntKind.i64.wrap (i0 + i1 + gn) = i0 + i1 + gn := IntWalk.i64_in _ (by omega)
  have A0 := bel_alloc w (.cells #[.int .i64 i0, .int .i64 i1, .slice ga gn gc, .slice oa on oc] 25)
  have g0 := B4.new (w := w) (x0 := .int .i64 i0) (x1 := .int .i64 i1) (x2 := .slice ga gn gc) (x3 := .slice oa on oc) (t := 25)
  obtain ⟨c0, c1, c2, c3⟩ := g0
  go_enter Try.func128, Try.ntmps128
  go_wp2
  go_region_held3 (fun W => W.cell? ⟨w.heap.size, 0, none⟩ = some (.int .i64 i0) ∧ W.cell? ⟨w.heap.size, 1, none⟩ = some (.int .i64 i1) ∧ W.cell? ⟨w.heap.size, 2, none⟩ = some (.slice ga gn gc) ∧ W.cell? ⟨w.heap.size, 3, none⟩ = some (.slice oa on oc)) (exact ⟨c0, c1, c2, c3⟩) (first | (go_at_call 127; refine (s_ciInputs _ _ _ _ _ _ _ _ _ h0 h1).mono ?_; rintro e w1 ⟨rfl, hb1⟩; have hb2 := bel_trans (bel_drew _) hb1; have c0 := cell_on c0 hb2; have c1 := cell_on c1 hb2; have c2 := cell_on c2 hb2; have c3 := cell_on c3 hb2))
  go_wp2
  go_ret
  exact ⟨rfl, bel_trans A0 hb2⟩
end Go.Proofs.Ytfejpmfcognikaa
