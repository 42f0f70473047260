/-
  Contracts: arithmetic circuits: gates, inputs, wires.
-/
import Derived.Test.YtfichpppjpgahaaC4
import Derived.Deep.RegionHeld3
namespace Go.Proofs.Ytfichpppjpgahaa
open Go.RowKit
set_option linter.unusedVariables false
set_option linter.unusedSimpArgs false
set_option maxRecDepth 10000

/-- A box of five cells. -/
structure B5 (w : World) (b : Nat) (x0 x1 x2 x3 x4 : Value) : Prop where
  c0 : w.cell? ⟨b, 0, none⟩ = some x0
  c1 : w.cell? ⟨b, 1, none⟩ = some x1
  c2 : w.cell? ⟨b, 2, none⟩ = some x2
  c3 : w.cell? ⟨b, 3, none⟩ = some x3
  c4 : w.cell? ⟨b, 4, none⟩ = some x4
theorem B5.lt {w : World} {b : Nat} {x0 x1 x2 x3 x4 : Value} (h : B5 w b x0 x1 x2 x3 x4) : b < w.heap.size := lt_of_cell h.c0
theorem B5.on {w w' : World} {b : Nat} {x0 x1 x2 x3 x4 : Value} (h : B5 w b x0 x1 x2 x3 x4) (hb : Below w.heap.size w w') : B5 w' b x0 x1 x2 x3 x4 :=
  ⟨cell_on h.c0 hb, cell_on h.c1 hb, cell_on h.c2 hb, cell_on h.c3 hb, cell_on h.c4 hb⟩
theorem B5.new {w : World} {x0 x1 x2 x3 x4 : Value} {t : TypeId} : B5 (w.alloc (.cells #[x0, x1, x2, x3, x4] t)) w.heap.size x0 x1 x2 x3 x4 :=
  ⟨World.cell?_alloc_at _ _ _ _ rfl, World.cell?_alloc_at _ _ _ _ rfl, World.cell?_alloc_at _ _ _ _ rfl, World.cell?_alloc_at _ _ _ _ rfl, World.cell?_alloc_at _ _ _ _ rfl⟩
/-- A valid gate before a wire. -/
def arB (p k a b own : Int) : Bool := if k = 0 ∨ k = 1 then inB a 0 (own - 1) && inB b 0 (own - 1) else if k = 2 then inB a 0 (own - 1) && inB b 0 (p - 1) else decide (k = 3) && (inB a 0 (p - 1) && decide (b = 0))
theorem arB_01 {p k a b own : Int} (h : k = 0 ∨ k = 1) : arB p k a b own = (inB a 0 (own - 1) && inB b 0 (own - 1)) := by unfold arB; rw [if_pos h]
theorem arB_2 {p a b own : Int} : arB p 2 a b own = (inB a 0 (own - 1) && inB b 0 (p - 1)) := by unfold arB; rw [if_neg (by omega), if_pos rfl]
theorem arB_3 {p k a b own : Int} (h : ¬ (k = 0 ∨ k = 1)) (h2 : k ≠ 2) : arB p k a b own = (decide (k = 3) && (inB a 0 (p - 1) && decide (b = 0))) := by unfold arB; rw [if_neg h, if_neg h2]
def gatesA (p : Int) (base : Int) (gs : List Int) : Nat → Bool
  | 0 => true
  | n + 1 => gatesA p base gs n && arB p (fld 3 gs n 0) (fld 3 gs n 1) (fld 3 gs n 2) (base + n)
theorem gatesA_no {p base : Int} {gs : List Int} {i : Nat} (h : arB p (fld 3 gs i 0) (fld 3 gs i 1) (fld 3 gs i 2) (base + i) = false) : ∀ {n : Nat}, i < n → gatesA p base gs n = false
  | 0, hi => by omega
  | n + 1, hi => by
    rw [gatesA]
    by_cases e : i = n
    · subst e; rw [h, Bool.and_false]
    · rw [gatesA_no h (by omega), Bool.false_and]
theorem gatesA_at {p base : Int} {gs : List Int} {i : Nat} : ∀ {n : Nat}, gatesA p base gs n = true → i < n → arB p (fld 3 gs i 0) (fld 3 gs i 1) (fld 3 gs i 2) (base + i) = true
  | 0, _, hi => by omega
  | n + 1, h, hi => by
    rw [gatesA, Bool.and_eq_true] at h
    by_cases e : i = n
    · subst e; exact h.2
    · exact gatesA_at h.1 (by omega)
/-- The sizes of a valid circuit. -/
def arS (p i0 i1 : Int) (gn on : Nat) : Bool := prB p && (inB i0 0 8 && (inB i1 0 8 && (decide (gn ≤ 100) && decide (on ≤ 20))))
theorem arS_iff {p i0 i1 : Int} {gn on : Nat} : arS p i0 i1 gn on = true ↔ prB p = true ∧ (0 ≤ i0 ∧ i0 ≤ 8) ∧ (0 ≤ i1 ∧ i1 ≤ 8) ∧ gn ≤ 100 ∧ on ≤ 20 := by
  unfold arS; simp only [Bool.and_eq_true, inB_iff, decide_eq_true_iff]
/-- A valid arithmetic circuit. -/
def arC (p i0 i1 : Int) (gs : List Int) (gn : Nat) (os : List Int) : Bool := arS p i0 i1 gn os.length && (gatesA p (i0 + i1) gs gn && allIn os 0 (i0 + i1 + gn - 1))
theorem arC_iff {p i0 i1 : Int} {gs os : List Int} {gn : Nat} : arC p i0 i1 gs gn os = true ↔ arS p i0 i1 gn os.length = true ∧ gatesA p (i0 + i1) gs gn = true ∧ allIn os 0 (i0 + i1 + gn - 1) = true := by
  unfold arC; simp only [Bool.and_eq_true]
set_option maxHeartbeats 4000000 in
theorem i_arGate (p k a b own : Int) (w : World) (hw : 0 ≤ own ∧ own ≤ 1000000) (hp : 2 ≤ p ∧ p ≤ 251) :
    Calls Try.prog 132 #[.int .i64 p, .agg #[.int .i64 k, .int .i64 a, .int .i64 b], .int .i64 own] w fun e w' => e = .returned (.bool (arB p k a b own)) ∧ Below w.heap.size w w' := by
  obtain ⟨hw1, hw2⟩ := hw
  obtain ⟨hp1, hp2⟩ := hp
  have e1 : IntKind.i64.wrap (own - 1) = own - 1 := IntWalk.i64_in _ (by omega)
  have e2 : IntKind.i64.wrap (p - 1) = p - 1 := IntWalk.i64_in _ (by omega)
  have g0 := B3.new (w := w) (x0 := .int .i64 k) (x1 := .int .i64 a) (x2 := .int .i64 b) (t := 91)
  obtain ⟨c0, c1, c2⟩ := g0
  by_cases h0 : k = 0 ∨ k = 1
  · rw [arB_01 h0]
    rcases h0 with rfl | rfl
    · cases ha : inB a 0 (own - 1) with
      | false =>
        go_enter Try.func132, Try.ntmps132
        go_wp2_with (go_at_call 64; refine (i_within _ _ _ _).mono ?_; rintro e w1 ⟨rfl, rfl⟩)
        go_ret
        exact ⟨by first | rfl | simp | (simp; omega), by (repeat (first | exact Below.refl _ _ | assumption | refine bel_trans ?_ (bel_alloc _ _) | refine bel_set ?_ (by first | (dsimp only; omega) | (simp; omega) | simp) _ | refine bel_trans ?_ (bel_drewN _ _) | refine bel_trans ?_ (bel_drew _) | refine bel_trans ?_ (by assumption)))⟩
      | true =>
        go_enter Try.func132, Try.ntmps132
        go_wp2_with (go_at_call 64; refine (i_within _ _ _ _).mono ?_; rintro e w1 ⟨rfl, rfl⟩)
        go_ret
        exact ⟨by first | rfl | simp | (simp; omega), by (repeat (first | exact Below.refl _ _ | assumption | refine bel_trans ?_ (bel_alloc _ _) | refine bel_set ?_ (by first | (dsimp only; omega) | (simp; omega) | simp) _ | refine bel_trans ?_ (bel_drewN _ _) | refine bel_trans ?_ (bel_drew _) | refine bel_trans ?_ (by assumption)))⟩
    · cases ha : inB a 0 (own - 1) with
      | false =>
        go_enter Try.func132, Try.ntmps132
        go_wp2_with (go_at_call 64; refine (i_within _ _ _ _).mono ?_; rintro e w1 ⟨rfl, rfl⟩)
        go_ret
        exact ⟨by first | rfl | simp | (simp; omega), by (repeat (first | exact Below.refl _ _ | assumption | refine bel_trans ?_ (bel_alloc _ _) | refine bel_set ?_ (by first | (dsimp only; omega) | (simp; omega) | simp) _ | refine bel_trans ?_ (bel_drewN _ _) | refine bel_trans ?_ (bel_drew _) | refine bel_trans ?_ (by assumption)))⟩
      | true =>
        go_enter Try.func132, Try.ntmps132
        go_wp2_with (go_at_call 64; refine (i_within _ _ _ _).mono ?_; rintro e w1 ⟨rfl, rfl⟩)
        go_ret
        exact ⟨by first | rfl | simp | (simp; omega), by (repeat (first | exact Below.refl _ _ | assumption | refine bel_trans ?_ (bel_alloc _ _) | refine bel_set ?_ (by first | (dsimp only; omega) | (simp; omega) | simp) _ | refine bel_trans ?_ (bel_drewN _ _) | refine bel_trans ?_ (bel_drew _) | refine bel_trans ?_ (by assumption)))⟩
  · by_cases h2 : k = 2
    · subst h2
      rw [arB_2]
      cases ha : inB a 0 (own - 1) with
      | false =>
        go_enter Try.func132, Try.ntmps132
        go_wp2_with (go_at_call 64; refine (i_within _ _ _ _).mono ?_; rintro e w1 ⟨rfl, rfl⟩)
        go_ret
        exact ⟨by first | rfl | simp | (simp; omega), by (repeat (first | exact Below.refl _ _ | assumption | refine bel_trans ?_ (bel_alloc _ _) | refine bel_set ?_ (by first | (dsimp only; omega) | (simp; omega) | simp) _ | refine bel_trans ?_ (bel_drewN _ _) | refine bel_trans ?_ (bel_drew _) | refine bel_trans ?_ (by assumption)))⟩
      | true =>
        go_enter Try.func132, Try.ntmps132
        go_wp2_with (go_at_call 64; refine (i_within _ _ _ _).mono ?_; rintro e w1 ⟨rfl, rfl⟩)
        go_ret
        exact ⟨by first | rfl | simp | (simp; omega), by (repeat (first | exact Below.refl _ _ | assumption | refine bel_trans ?_ (bel_alloc _ _) | refine bel_set ?_ (by first | (dsimp only; omega) | (simp; omega) | simp) _ | refine bel_trans ?_ (bel_drewN _ _) | refine bel_trans ?_ (bel_drew _) | refine bel_trans ?_ (by assumption)))⟩
    · rw [arB_3 h0 h2]
      have k0 : ¬ k = 0 := fun e => h0 (.inl e)
      have k1 : ¬ k = 1 := fun e => h0 (.inr e)
      have k0b : (k == 0) = false := by simpa using k0
      have k1b : (k == 1) = false := by simpa using k1
      have k2b : (k == 2) = false := by simpa using h2
      clear h0
      by_cases h3 : k = 3
      · subst h3
        rw [decide_eq_true (rfl : (3 : Int) = 3), Bool.true_and]
        cases ha : inB a 0 (p - 1) with
        | false =>
          go_enter Try.func132, Try.ntmps132
          go_wp2_with (go_at_call 64; refine (i_within _ _ _ _).mono ?_; rintro e w1 ⟨rfl, rfl⟩)
          go_ret
          exact ⟨by first | rfl | simp | (simp; omega), by (repeat (first | exact Below.refl _ _ | assumption | refine bel_trans ?_ (bel_alloc _ _) | refine bel_set ?_ (by first | (dsimp only; omega) | (simp; omega) | simp) _ | refine bel_trans ?_ (bel_drewN _ _) | refine bel_trans ?_ (bel_drew _) | refine bel_trans ?_ (by assumption)))⟩
        | true =>
          by_cases hb : b = 0
          · subst hb
            go_enter Try.func132, Try.ntmps132
            go_wp2_with (go_at_call 64; refine (i_within _ _ _ _).mono ?_; rintro e w1 ⟨rfl, rfl⟩)
            go_ret
            exact ⟨by first | rfl | simp | (simp; omega), by (repeat (first | exact Below.refl _ _ | assumption | refine bel_trans ?_ (bel_alloc _ _) | refine bel_set ?_ (by first | (dsimp only; omega) | (simp; omega) | simp) _ | refine bel_trans ?_ (bel_drewN _ _) | refine bel_trans ?_ (bel_drew _) | refine bel_trans ?_ (by assumption)))⟩
          · have hbb : (b == 0) = false := by simpa using hb
            have hbc : (0 == b) = false := by simpa using fun e => hb e.symm
            rw [decide_eq_false hb]
            go_enter Try.func132, Try.ntmps132
            go_wp2_with (go_at_call 64; refine (i_within _ _ _ _).mono ?_; rintro e w1 ⟨rfl, rfl⟩)
            go_ret
            exact ⟨by first | rfl | simp | (simp; omega), by (repeat (first | exact Below.refl _ _ | assumption | refine bel_trans ?_ (bel_alloc _ _) | refine bel_set ?_ (by first | (dsimp only; omega) | (simp; omega) | simp) _ | refine bel_trans ?_ (bel_drewN _ _) | refine bel_trans ?_ (bel_drew _) | refine bel_trans ?_ (by assumption)))⟩
      · have k3b : (k == 3) = false := by simpa using h3
        have k3c : (3 == k) = false := by simpa using fun e => h3 e.symm
        rw [decide_eq_false h3]
        go_enter Try.func132, Try.ntmps132
        go_wp2_with (go_at_call 64; refine (i_within _ _ _ _).mono ?_; rintro e w1 ⟨rfl, rfl⟩)
        go_ret
        exact ⟨by first | rfl | simp | (simp; omega), by (repeat (first | exact Below.refl _ _ | assumption | refine bel_trans ?_ (bel_alloc _ _) | refine bel_set ?_ (by first | (dsimp only; omega) | (simp; omega) | simp) _ | refine bel_trans ?_ (bel_drewN _ _) | refine bel_trans ?_ (bel_drew _) | refine bel_trans ?_ (by assumption)))⟩
set_option maxHeartbeats 4000000 in
theorem s_arGate (p k a b own : Int) (w : World) (hw : 0 ≤ own ∧ own ≤ 1000000) (hp : 2 ≤ p ∧ p ≤ 251) :
    Calls Try.prog 135 #[.int .i64 p, .agg #[.int .i64 k, .int .i64 a, .int .i64 b], .int .i64 own] w fun e w' => e = .returned (.bool (arB p k a b own)) ∧ Below w.heap.size w w' := by
  obtain ⟨hw1, hw2⟩ := hw
  obtain ⟨hp1, hp2⟩ := hp
  have e1 : IntKind.i64.wrap (own - 1) = own - 1 := IntWalk.i64_in _ (by omega)
  have e2 : IntKind.i64.wrap (p - 1) = p - 1 := IntWalk.i64_in _ (by omega)
  have g0 := B3.new (w := w) (x0 := .int .i64 k) (x1 := .int .i64 a) (x2 := .int .i64 b) (t := 91)
  obtain ⟨c0, c1, c2⟩ := g0
  by_cases h0 : k = 0 ∨ k = 1
  · rw [arB_01 h0]
    rcases h0 with rfl | rfl
    · cases ha : inB a 0 (own - 1) with
      | false =>
        go_enter Try.func135, Try.ntmps135
        go_wp2_with (go_at_call 57; refine (s_l1In _ _ _ _).mono ?_; rintro e w1 ⟨rfl, rfl⟩)
        go_ret
        exact ⟨by first | rfl | simp | (simp; omega), by (repeat (first | exact Below.refl _ _ | assumption | refine bel_trans ?_ (bel_alloc _ _) | refine bel_set ?_ (by first | (dsimp only; omega) | (simp; omega) | simp) _ | refine bel_trans ?_ (bel_drewN _ _) | refine bel_trans ?_ (bel_drew _) | refine bel_trans ?_ (by assumption)))⟩
      | true =>
        go_enter Try.func135, Try.ntmps135
        go_wp2_with (go_at_call 57; refine (s_l1In _ _ _ _).mono ?_; rintro e w1 ⟨rfl, rfl⟩)
        go_ret
        exact ⟨by first | rfl | simp | (simp; omega), by (repeat (first | exact Below.refl _ _ | assumption | refine bel_trans ?_ (bel_alloc _ _) | refine bel_set ?_ (by first | (dsimp only; omega) | (simp; omega) | simp) _ | refine bel_trans ?_ (bel_drewN _ _) | refine bel_trans ?_ (bel_drew _) | refine bel_trans ?_ (by assumption)))⟩
    · cases ha : inB a 0 (own - 1) with
      | false =>
        go_enter Try.func135, Try.ntmps135
        go_wp2_with (go_at_call 57; refine (s_l1In _ _ _ _).mono ?_; rintro e w1 ⟨rfl, rfl⟩)
        go_ret
        exact ⟨by first | rfl | simp | (simp; omega), by (repeat (first | exact Below.refl _ _ | assumption | refine bel_trans ?_ (bel_alloc _ _) | refine bel_set ?_ (by first | (dsimp only; omega) | (simp; omega) | simp) _ | refine bel_trans ?_ (bel_drewN _ _) | refine bel_trans ?_ (bel_drew _) | refine bel_trans ?_ (by assumption)))⟩
      | true =>
        go_enter Try.func135, Try.ntmps135
        go_wp2_with (go_at_call 57; refine (s_l1In _ _ _ _).mono ?_; rintro e w1 ⟨rfl, rfl⟩)
        go_ret
        exact ⟨by first | rfl | simp | (simp; omega), by (repeat (first | exact Below.refl _ _ | assumption | refine bel_trans ?_ (bel_alloc _ _) | refine bel_set ?_ (by first | (dsimp only; omega) | (simp; omega) | simp) _ | refine bel_trans ?_ (bel_drewN _ _) | refine bel_trans ?_ (bel_drew _) | refine bel_trans ?_ (by assumption)))⟩
  · by_cases h2 : k = 2
    · subst h2
      rw [arB_2]
      cases ha : inB a 0 (own - 1) with
      | false =>
        go_enter Try.func135, Try.ntmps135
        go_wp2_with (go_at_call 57; refine (s_l1In _ _ _ _).mono ?_; rintro e w1 ⟨rfl, rfl⟩)
        go_ret
        exact ⟨by first | rfl | simp | (simp; omega), by (repeat (first | exact Below.refl _ _ | assumption | refine bel_trans ?_ (bel_alloc _ _) | refine bel_set ?_ (by first | (dsimp only; omega) | (simp; omega) | simp) _ | refine bel_trans ?_ (bel_drewN _ _) | refine bel_trans ?_ (bel_drew _) | refine bel_trans ?_ (by assumption)))⟩
      | true =>
        go_enter Try.func135, Try.ntmps135
        go_wp2_with (go_at_call 57; refine (s_l1In _ _ _ _).mono ?_; rintro e w1 ⟨rfl, rfl⟩)
        go_ret
        exact ⟨by first | rfl | simp | (simp; omega), by (repeat (first | exact Below.refl _ _ | assumption | refine bel_trans ?_ (bel_alloc _ _) | refine bel_set ?_ (by first | (dsimp only; omega) | (simp; omega) | simp) _ | refine bel_trans ?_ (bel_drewN _ _) | refine bel_trans ?_ (bel_drew _) | refine bel_trans ?_ (by assumption)))⟩
    · rw [arB_3 h0 h2]
      have k0 : ¬ k = 0 := fun e => h0 (.inl e)
      have k1 : ¬ k = 1 := fun e => h0 (.inr e)
      have k0b : (k == 0) = false := by simpa using k0
      have k1b : (k == 1) = false := by simpa using k1
      have k2b : (k == 2) = false := by simpa using h2
      clear h0
      by_cases h3 : k = 3
      · subst h3
        rw [decide_eq_true (rfl : (3 : Int) = 3), Bool.true_and]
        cases ha : inB a 0 (p - 1) with
        | false =>
          go_enter Try.func135, Try.ntmps135
          go_wp2_with (go_at_call 57; refine (s_l1In _ _ _ _).mono ?_; rintro e w1 ⟨rfl, rfl⟩)
          go_ret
          exact ⟨by first | rfl | simp | (simp; omega), by (repeat (first | exact Below.refl _ _ | assumption | refine bel_trans ?_ (bel_alloc _ _) | refine bel_set ?_ (by first | (dsimp only; omega) | (simp; omega) | simp) _ | refine bel_trans ?_ (bel_drewN _ _) | refine bel_trans ?_ (bel_drew _) | refine bel_trans ?_ (by assumption)))⟩
        | true =>
          by_cases hb : b = 0
          · subst hb
            go_enter Try.func135, Try.ntmps135
            go_wp2_with (go_at_call 57; refine (s_l1In _ _ _ _).mono ?_; rintro e w1 ⟨rfl, rfl⟩)
            go_ret
            exact ⟨by first | rfl | simp | (simp; omega), by (repeat (first | exact Below.refl _ _ | assumption | refine bel_trans ?_ (bel_alloc _ _) | refine bel_set ?_ (by first | (dsimp only; omega) | (simp; omega) | simp) _ | refine bel_trans ?_ (bel_drewN _ _) | refine bel_trans ?_ (bel_drew _) | refine bel_trans ?_ (by assumption)))⟩
          · have hbb : (b == 0) = false := by simpa using hb
            have hbc : (0 == b) = false := by simpa using fun e => hb e.symm
            rw [decide_eq_false hb]
            go_enter Try.func135, Try.ntmps135
            go_wp2_with (go_at_call 57; refine (s_l1In _ _ _ _).mono ?_; rintro e w1 ⟨rfl, rfl⟩)
            go_ret
            exact ⟨by first | rfl | simp | (simp; omega), by (repeat (first | exact Below.refl _ _ | assumption | refine bel_trans ?_ (bel_alloc _ _) | refine bel_set ?_ (by first | (dsimp only; omega) | (simp; omega) | simp) _ | refine bel_trans ?_ (bel_drewN _ _) | refine bel_trans ?_ (bel_drew _) | refine bel_trans ?_ (by assumption)))⟩
      · have k3b : (k == 3) = false := by simpa using h3
        have k3c : (3 == k) = false := by simpa using fun e => h3 e.symm
        rw [decide_eq_false h3]
        go_enter Try.func135, Try.ntmps135
        go_wp2_with (go_at_call 57; refine (s_l1In _ _ _ _).mono ?_; rintro e w1 ⟨rfl, rfl⟩)
        go_ret
        exact ⟨by first | rfl | simp | (simp; omega), by (repeat (first | exact Below.refl _ _ | assumption | refine bel_trans ?_ (bel_alloc _ _) | refine bel_set ?_ (by first | (dsimp only; omega) | (simp; omega) | simp) _ | refine bel_trans ?_ (bel_drewN _ _) | refine bel_trans ?_ (bel_drew _) | refine bel_trans ?_ (by assumption)))⟩
set_option maxHeartbeats 1000000 in
theorem i_arInputs (p i0 i1 : Int) (ga : Option Addr) (gn gc : Nat) (oa : Option Addr) (on oc : Nat) (w : World) (h0 : -1000 ≤ i0 ∧ i0 ≤ 1000) (h1 : -1000 ≤ i1 ∧ i1 ≤ 1000) :
    Calls Try.prog 91 #[.agg #[.int .i64 p, .int .i64 i0, .int .i64 i1, .slice ga gn gc, .slice oa on oc]] w fun e w' => e = .returned (.int .i64 (i0 + i1)) ∧ Below w.heap.size w w' := by
  obtain ⟨h01, h02⟩ := h0; obtain ⟨h11, h12⟩ := h1
  have e1 : IntKind.i64.wrap (i0 + i1) = i0 + i1 := IntWalk.i64_in _ (by omega)
  have g0 := B5.new (w := w) (x0 := .int .i64 p) (x1 := .int .i64 i0) (x2 := .int .i64 i1) (x3 := .slice ga gn gc) (x4 := .slice oa on oc) (t := 48)
  obtain ⟨c0, c1, c2, c3, c4⟩ := g0
  go_enter Try.func91, Try.ntmps91
  go_wp2
  go_ret
  exact ⟨rfl, by (repeat (first | exact Below.refl _ _ | assumption | refine bel_trans ?_ (bel_alloc _ _) | refine bel_set ?_ (by first | (dsimp only; omega) | (simp; omega) | simp) _ | refine bel_trans ?_ (bel_drewN _ _) | refine bel_trans ?_ (bel_drew _) | refine bel_trans ?_ (by assumption)))⟩
set_option maxHeartbeats 1000000 in
theorem s_arInputs (p i0 i1 : Int) (ga : Option Addr) (gn gc : Nat) (oa : Option Addr) (on oc : Nat) (w : World) (h0 : -1000 ≤ i0 ∧ i0 ≤ 1000) (h1 : -1000 ≤ i1 ∧ i1 ≤ 1000) :
    Calls Try.prog 95 #[.agg #[.int .i64 p, .int .i64 i0, .int .i64 i1, .slice ga gn gc, .slice oa on oc]] w fun e w' => e = .returned (.int .i64 (i0 + i1)) ∧ Below w.heap.size w w' := by
  obtain ⟨h01, h02⟩ := h0; obtain ⟨h11, h12⟩ := h1
  have e1 : IntKind.i64.wrap (i0 + i1) = i0 + i1 := IntWalk.i64_in _ (by omega)
  have g0 := B5.new (w := w) (x0 := .int .i64 p) (x1 := .int .i64 i0) (x2 := .int .i64 i1) (x3 := .slice ga gn gc) (x4 := .slice oa on oc) (t := 48)
  obtain ⟨c0, c1, c2, c3, c4⟩ := g0
  go_enter Try.func95, Try.ntmps95
  go_wp2
  go_ret
  exact ⟨rfl, by (repeat (first | exact Below.refl _ _ | assumption | refine bel_trans ?_ (bel_alloc _ _) | refine bel_set ?_ (by first | (dsimp only; omega) | (simp; omega) | simp) _ | refine bel_trans ?_ (bel_drewN _ _) | refine bel_trans ?_ (bel_drew _) | refine bel_trans ?_ (by assumption)))⟩
set_option maxHeartbeats 2000000 in
theorem s_arWires (p i0 i1 : Int) (ga : Option Addr) (gn gc : Nat) (oa : Option Addr) (on oc : Nat) (w : World) (h0 : -1000 ≤ i0 ∧ i0 ≤ 1000) (h1 : -1000 ≤ i1 ∧ i1 ≤ 1000) (hn : gn ≤ 1000000) :
    Calls Try.prog 131 #[.agg #[.int .i64 p, .int .i64 i0, .int .i64 i1, .slice ga gn gc, .slice oa on oc]] w fun e w' => e = .returned (.int .i64 (i0 + i1 + gn)) ∧ Below w.heap.size w w' := by
  have e1 : IntKind.i64.wrap (i0 + i1 + gn) = i0 + i1 + gn := IntWalk.i64_in _ (by omega)
  have A0 := bel_alloc w (.cells #[.int .i64 p, .int .i64 i0, .int .i64 i1, .slice ga gn gc, .slice oa on oc] 48)
  have g0 := B5.new (w := w) (x0 := .int .i64 p) (x1 := .int .i64 i0) (x2 := .int .i64 i1) (x3 := .slice ga gn gc) (x4 := .slice oa on oc) (t := 48)
  obtain ⟨c0, c1, c2, c3, c4⟩ := g0
  go_enter Try.func131, Try.ntmps131
  go_wp2
  go_region_held3 (fun W => W.cell? ⟨w.heap.size, 0, none⟩ = some (.int .i64 p) ∧ W.cell? ⟨w.heap.size, 1, none⟩ = some (.int .i64 i0) ∧ W.cell? ⟨w.heap.size, 2, none⟩ = some (.int .i64 i1) ∧ W.cell? ⟨w.heap.size, 3, none⟩ = some (.slice ga gn gc) ∧ W.cell? ⟨w.heap.size, 4, none⟩ = some (.slice oa on oc)) (exact ⟨c0, c1, c2, c3, c4⟩) (first | (go_at_call 95; refine (s_arInputs _ _ _ _ _ _ _ _ _ _ h0 h1).mono ?_; rintro e w1 ⟨rfl, hb1⟩; have hb2 := bel_trans (bel_drew _) hb1; have c0 := cell_on c0 hb2; have c1 := cell_on c1 hb2; have c2 := cell_on c2 hb2; have c3 := cell_on c3 hb2; have c4 := cell_on c4 hb2))
  go_wp2
  go_ret
  exact ⟨rfl, bel_trans A0 hb2⟩
end Go.Proofs.Ytfichpppjpgahaa
