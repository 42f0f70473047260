/-
  Contracts: groups, first messages, answers, pads.
-/
import Derived.Test.YtklgneaamhjfpaaG
import Derived.Deep.RegionHeld3
namespace Go.Proofs.Ytklgneaamhjfpaa
open Go.RowKit
set_option linter.unusedVariables false
set_option linter.unusedSimpArgs false

set_option maxHeartbeats 1000000 in
theorem i_IsGroup (P Q G : Int) (w : World)  :
    Calls Try.prog 42 #[.agg #[.int .i64 P, .int .i64 Q, .int .i64 G]] w fun e w' => e = .returned (.bool (grB P Q G)) ∧ Below w.heap.size w w' := by
  cases h1 : modB P with
  | false =>
    rw [show grB P Q G = false by simp [grB, h1]]
    go_enter Try.func42, Try.ntmps42
    go_wp2_with (first | (go_at_call 96; refine (i_isModulus _ _).mono ?_; rintro e w' ⟨rfl, rfl⟩) | (go_at_call 97; refine (i_isPrimeUpTo _ _ _ (by omega)).mono ?_; rintro e w' ⟨rfl, rfl⟩) | (go_at_call 61; refine (i_within _ _ _ _).mono ?_; rintro e w' ⟨rfl, rfl⟩) | (go_at_call 98; refine (i_power _ _ _ _ (by omega) (by omega) (by omega)).mono ?_; rintro e w' ⟨rfl, rfl⟩))
    go_ret
    exact ⟨rfl, by (repeat (first | exact Below.refl _ _ | assumption | refine bel_trans ?_ (bel_alloc _ _) | refine bel_set ?_ (by first | (dsimp only; omega) | (simp; omega) | simp) _ | refine bel_trans ?_ (bel_drewN _ _) | refine bel_trans ?_ (bel_drew _) | refine bel_trans ?_ (by assumption)))⟩
  | true =>
    obtain ⟨hP1, hP2⟩ := modB_lo h1
    cases h2 : (inB Q 2 (P - 1) && prmB Q) with
    | false =>
      rw [show grB P Q G = false by simp [grB, h1, h2]]
      go_enter Try.func42, Try.ntmps42
      go_wp2_with (first | (go_at_call 96; refine (i_isModulus _ _).mono ?_; rintro e w' ⟨rfl, rfl⟩) | (go_at_call 97; refine (i_isPrimeUpTo _ _ _ (by omega)).mono ?_; rintro e w' ⟨rfl, rfl⟩) | (go_at_call 61; refine (i_within _ _ _ _).mono ?_; rintro e w' ⟨rfl, rfl⟩) | (go_at_call 98; refine (i_power _ _ _ _ (by omega) (by omega) (by omega)).mono ?_; rintro e w' ⟨rfl, rfl⟩))
      go_ret
      exact ⟨rfl, by (repeat (first | exact Below.refl _ _ | assumption | refine bel_trans ?_ (bel_alloc _ _) | refine bel_set ?_ (by first | (dsimp only; omega) | (simp; omega) | simp) _ | refine bel_trans ?_ (bel_drewN _ _) | refine bel_trans ?_ (bel_drew _) | refine bel_trans ?_ (by assumption)))⟩
    | true =>
      obtain ⟨hQ1, hQ2⟩ := inB_iff.1 (Bool.and_eq_true_iff.1 h2).1
      by_cases h3 : (P - 1) % Q = 0
      rotate_left
      · rw [show grB P Q G = false by simp [grB, h1, h2, h3]]
        go_enter Try.func42, Try.ntmps42
        go_wp2_with (first | (go_at_call 96; refine (i_isModulus _ _).mono ?_; rintro e w' ⟨rfl, rfl⟩) | (go_at_call 97; refine (i_isPrimeUpTo _ _ _ (by omega)).mono ?_; rintro e w' ⟨rfl, rfl⟩) | (go_at_call 61; refine (i_within _ _ _ _).mono ?_; rintro e w' ⟨rfl, rfl⟩) | (go_at_call 98; refine (i_power _ _ _ _ (by omega) (by omega) (by omega)).mono ?_; rintro e w' ⟨rfl, rfl⟩))
        go_ret
        exact ⟨rfl, by (repeat (first | exact Below.refl _ _ | assumption | refine bel_trans ?_ (bel_alloc _ _) | refine bel_set ?_ (by first | (dsimp only; omega) | (simp; omega) | simp) _ | refine bel_trans ?_ (bel_drewN _ _) | refine bel_trans ?_ (bel_drew _) | refine bel_trans ?_ (by assumption)))⟩
      cases h4 : inB G 2 (P - 1) with
      | false =>
        rw [show grB P Q G = false by simp [grB, h1, h2, h3, h4]]
        go_enter Try.func42, Try.ntmps42
        go_wp2_with (first | (go_at_call 96; refine (i_isModulus _ _).mono ?_; rintro e w' ⟨rfl, rfl⟩) | (go_at_call 97; refine (i_isPrimeUpTo _ _ _ (by omega)).mono ?_; rintro e w' ⟨rfl, rfl⟩) | (go_at_call 61; refine (i_within _ _ _ _).mono ?_; rintro e w' ⟨rfl, rfl⟩) | (go_at_call 98; refine (i_power _ _ _ _ (by omega) (by omega) (by omega)).mono ?_; rintro e w' ⟨rfl, rfl⟩))
        go_ret
        exact ⟨rfl, by (repeat (first | exact Below.refl _ _ | assumption | refine bel_trans ?_ (bel_alloc _ _) | refine bel_set ?_ (by first | (dsimp only; omega) | (simp; omega) | simp) _ | refine bel_trans ?_ (bel_drewN _ _) | refine bel_trans ?_ (bel_drew _) | refine bel_trans ?_ (by assumption)))⟩
      | true =>
        obtain ⟨hG1, hG2⟩ := inB_iff.1 h4
        by_cases h5 : pw P G Q.toNat = 1
        · rw [show grB P Q G = true by simp [grB, h1, h2, h3, h4, h5]]
          go_enter Try.func42, Try.ntmps42
          go_wp2_with (first | (go_at_call 96; refine (i_isModulus _ _).mono ?_; rintro e w' ⟨rfl, rfl⟩) | (go_at_call 97; refine (i_isPrimeUpTo _ _ _ (by omega)).mono ?_; rintro e w' ⟨rfl, rfl⟩) | (go_at_call 61; refine (i_within _ _ _ _).mono ?_; rintro e w' ⟨rfl, rfl⟩) | (go_at_call 98; refine (i_power _ _ _ _ (by omega) (by omega) (by omega)).mono ?_; rintro e w' ⟨rfl, rfl⟩))
          go_ret
          exact ⟨rfl, by (repeat (first | exact Below.refl _ _ | assumption | refine bel_trans ?_ (bel_alloc _ _) | refine bel_set ?_ (by first | (dsimp only; omega) | (simp; omega) | simp) _ | refine bel_trans ?_ (bel_drewN _ _) | refine bel_trans ?_ (bel_drew _) | refine bel_trans ?_ (by assumption)))⟩
        · rw [show grB P Q G = false by simp [grB, h1, h2, h3, h4, h5]]
          have h5b : (pw P G Q.toNat == 1) = false := by simp [h5]
          go_enter Try.func42, Try.ntmps42
          go_wp2_with (first | (go_at_call 96; refine (i_isModulus _ _).mono ?_; rintro e w' ⟨rfl, rfl⟩) | (go_at_call 97; refine (i_isPrimeUpTo _ _ _ (by omega)).mono ?_; rintro e w' ⟨rfl, rfl⟩) | (go_at_call 61; refine (i_within _ _ _ _).mono ?_; rintro e w' ⟨rfl, rfl⟩) | (go_at_call 98; refine (i_power _ _ _ _ (by omega) (by omega) (by omega)).mono ?_; rintro e w' ⟨rfl, rfl⟩))
          go_ret
          exact ⟨rfl, by (repeat (first | exact Below.refl _ _ | assumption | refine bel_trans ?_ (bel_alloc _ _) | refine bel_set ?_ (by first | (dsimp only; omega) | (simp; omega) | simp) _ | refine bel_trans ?_ (bel_drewN _ _) | refine bel_trans ?_ (bel_drew _) | refine bel_trans ?_ (by assumption)))⟩

set_option maxHeartbeats 1000000 in
theorem s_grGood (P Q G : Int) (w : World)  :
    Calls Try.prog 63 #[.agg #[.int .i64 P, .int .i64 Q, .int .i64 G]] w fun e w' => e = .returned (.bool (grB P Q G)) ∧ Below w.heap.size w w' := by
  cases h1 : inB P 3 2003 with
  | false =>
    rw [show grB P Q G = false by simp [grB, modB, h1]]
    go_enter Try.func63, Try.ntmps63
    go_wp2_with (first | (go_at_call 64; refine (s_l1In _ _ _ _).mono ?_; rintro e w' ⟨rfl, rfl⟩) | (go_at_call 99; refine (s_grPrime _ _ (by omega) (by omega)).mono ?_; rintro e w' ⟨rfl, rfl⟩) | (go_at_call 114; refine (s_grPower _ _ _ _ (by omega) (by omega) (by omega)).mono ?_; rintro e w' ⟨rfl, rfl⟩))
    go_ret
    exact ⟨rfl, by (repeat (first | exact Below.refl _ _ | assumption | refine bel_trans ?_ (bel_alloc _ _) | refine bel_set ?_ (by first | (dsimp only; omega) | (simp; omega) | simp) _ | refine bel_trans ?_ (bel_drewN _ _) | refine bel_trans ?_ (bel_drew _) | refine bel_trans ?_ (by assumption)))⟩
  | true =>
    obtain ⟨hP1, hP2⟩ := inB_iff.1 h1
    cases h1b : prmB P with
    | false =>
      rw [show grB P Q G = false by simp [grB, modB, h1, h1b]]
      go_enter Try.func63, Try.ntmps63
      go_wp2_with (first | (go_at_call 64; refine (s_l1In _ _ _ _).mono ?_; rintro e w' ⟨rfl, rfl⟩) | (go_at_call 99; refine (s_grPrime _ _ (by omega) (by omega)).mono ?_; rintro e w' ⟨rfl, rfl⟩) | (go_at_call 114; refine (s_grPower _ _ _ _ (by omega) (by omega) (by omega)).mono ?_; rintro e w' ⟨rfl, rfl⟩))
      go_ret
      exact ⟨rfl, by (repeat (first | exact Below.refl _ _ | assumption | refine bel_trans ?_ (bel_alloc _ _) | refine bel_set ?_ (by first | (dsimp only; omega) | (simp; omega) | simp) _ | refine bel_trans ?_ (bel_drewN _ _) | refine bel_trans ?_ (bel_drew _) | refine bel_trans ?_ (by assumption)))⟩
    | true =>
      cases h2 : inB Q 2 (P - 1) with
      | false =>
        rw [show grB P Q G = false by simp [grB, h2]]
        go_enter Try.func63, Try.ntmps63
        go_wp2_with (first | (go_at_call 64; refine (s_l1In _ _ _ _).mono ?_; rintro e w' ⟨rfl, rfl⟩) | (go_at_call 99; refine (s_grPrime _ _ (by omega) (by omega)).mono ?_; rintro e w' ⟨rfl, rfl⟩) | (go_at_call 114; refine (s_grPower _ _ _ _ (by omega) (by omega) (by omega)).mono ?_; rintro e w' ⟨rfl, rfl⟩))
        go_ret
        exact ⟨rfl, by (repeat (first | exact Below.refl _ _ | assumption | refine bel_trans ?_ (bel_alloc _ _) | refine bel_set ?_ (by first | (dsimp only; omega) | (simp; omega) | simp) _ | refine bel_trans ?_ (bel_drewN _ _) | refine bel_trans ?_ (bel_drew _) | refine bel_trans ?_ (by assumption)))⟩
      | true =>
        obtain ⟨hQ1, hQ2⟩ := inB_iff.1 h2
        cases h2b : prmB Q with
        | false =>
          rw [show grB P Q G = false by simp [grB, h2b]]
          go_enter Try.func63, Try.ntmps63
          go_wp2_with (first | (go_at_call 64; refine (s_l1In _ _ _ _).mono ?_; rintro e w' ⟨rfl, rfl⟩) | (go_at_call 99; refine (s_grPrime _ _ (by omega) (by omega)).mono ?_; rintro e w' ⟨rfl, rfl⟩) | (go_at_call 114; refine (s_grPower _ _ _ _ (by omega) (by omega) (by omega)).mono ?_; rintro e w' ⟨rfl, rfl⟩))
          go_ret
          exact ⟨rfl, by (repeat (first | exact Below.refl _ _ | assumption | refine bel_trans ?_ (bel_alloc _ _) | refine bel_set ?_ (by first | (dsimp only; omega) | (simp; omega) | simp) _ | refine bel_trans ?_ (bel_drewN _ _) | refine bel_trans ?_ (bel_drew _) | refine bel_trans ?_ (by assumption)))⟩
        | true =>
          by_cases h3 : (P - 1) % Q = 0
          rotate_left
          · rw [show grB P Q G = false by simp [grB, h3]]
            go_enter Try.func63, Try.ntmps63
            go_wp2_with (first | (go_at_call 64; refine (s_l1In _ _ _ _).mono ?_; rintro e w' ⟨rfl, rfl⟩) | (go_at_call 99; refine (s_grPrime _ _ (by omega) (by omega)).mono ?_; rintro e w' ⟨rfl, rfl⟩) | (go_at_call 114; refine (s_grPower _ _ _ _ (by omega) (by omega) (by omega)).mono ?_; rintro e w' ⟨rfl, rfl⟩))
            go_ret
            exact ⟨rfl, by (repeat (first | exact Below.refl _ _ | assumption | refine bel_trans ?_ (bel_alloc _ _) | refine bel_set ?_ (by first | (dsimp only; omega) | (simp; omega) | simp) _ | refine bel_trans ?_ (bel_drewN _ _) | refine bel_trans ?_ (bel_drew _) | refine bel_trans ?_ (by assumption)))⟩
          cases h4 : inB G 2 (P - 1) with
          | false =>
            rw [show grB P Q G = false by simp [grB, h4]]
            go_enter Try.func63, Try.ntmps63
            go_wp2_with (first | (go_at_call 64; refine (s_l1In _ _ _ _).mono ?_; rintro e w' ⟨rfl, rfl⟩) | (go_at_call 99; refine (s_grPrime _ _ (by omega) (by omega)).mono ?_; rintro e w' ⟨rfl, rfl⟩) | (go_at_call 114; refine (s_grPower _ _ _ _ (by omega) (by omega) (by omega)).mono ?_; rintro e w' ⟨rfl, rfl⟩))
            go_ret
            exact ⟨rfl, by (repeat (first | exact Below.refl _ _ | assumption | refine bel_trans ?_ (bel_alloc _ _) | refine bel_set ?_ (by first | (dsimp only; omega) | (simp; omega) | simp) _ | refine bel_trans ?_ (bel_drewN _ _) | refine bel_trans ?_ (bel_drew _) | refine bel_trans ?_ (by assumption)))⟩
          | true =>
            obtain ⟨hG1, hG2⟩ := inB_iff.1 h4
            by_cases h5 : pw P G Q.toNat = 1
            · rw [show grB P Q G = true by simp [grB, modB, h1, h1b, h2, h2b, h3, h4, h5]]
              go_enter Try.func63, Try.ntmps63
              go_wp2_with (first | (go_at_call 64; refine (s_l1In _ _ _ _).mono ?_; rintro e w' ⟨rfl, rfl⟩) | (go_at_call 99; refine (s_grPrime _ _ (by omega) (by omega)).mono ?_; rintro e w' ⟨rfl, rfl⟩) | (go_at_call 114; refine (s_grPower _ _ _ _ (by omega) (by omega) (by omega)).mono ?_; rintro e w' ⟨rfl, rfl⟩))
              go_ret
              exact ⟨rfl, by (repeat (first | exact Below.refl _ _ | assumption | refine bel_trans ?_ (bel_alloc _ _) | refine bel_set ?_ (by first | (dsimp only; omega) | (simp; omega) | simp) _ | refine bel_trans ?_ (bel_drewN _ _) | refine bel_trans ?_ (bel_drew _) | refine bel_trans ?_ (by assumption)))⟩
            · rw [show grB P Q G = false by simp [grB, h5]]
              have h5b : (pw P G Q.toNat == 1) = false := by simp [h5]
              go_enter Try.func63, Try.ntmps63
              go_wp2_with (first | (go_at_call 64; refine (s_l1In _ _ _ _).mono ?_; rintro e w' ⟨rfl, rfl⟩) | (go_at_call 99; refine (s_grPrime _ _ (by omega) (by omega)).mono ?_; rintro e w' ⟨rfl, rfl⟩) | (go_at_call 114; refine (s_grPower _ _ _ _ (by omega) (by omega) (by omega)).mono ?_; rintro e w' ⟨rfl, rfl⟩))
              go_ret
              exact ⟨rfl, by (repeat (first | exact Below.refl _ _ | assumption | refine bel_trans ?_ (bel_alloc _ _) | refine bel_set ?_ (by first | (dsimp only; omega) | (simp; omega) | simp) _ | refine bel_trans ?_ (bel_drewN _ _) | refine bel_trans ?_ (bel_drew _) | refine bel_trans ?_ (by assumption)))⟩

set_option maxHeartbeats 1000000 in
theorem i_has (P Q G a : Int) (w : World) (hP : 3 ≤ P ∧ P ≤ 2003) (hQ : 2 ≤ Q ∧ Q ≤ 2002) :
    Calls Try.prog 68 #[.agg #[.int .i64 P, .int .i64 Q, .int .i64 G], .int .i64 a] w fun e w' => e = .returned (.bool (hasB P Q a)) ∧ Below w.heap.size w w' := by
  obtain ⟨hP1, hP2⟩ := hP; obtain ⟨hQ1, hQ2⟩ := hQ
  cases h1 : inB a 1 (P - 1) with
  | false =>
    rw [show hasB P Q a = false by simp [hasB, h1]]
    go_enter Try.func68, Try.ntmps68
    go_wp2_with (first | (go_at_call 61; refine (i_within _ _ _ _).mono ?_; rintro e w' ⟨rfl, rfl⟩) | (go_at_call 98; refine (i_power _ _ _ _ (by omega) (by omega) (by omega)).mono ?_; rintro e w' ⟨rfl, rfl⟩))
    go_ret
    exact ⟨rfl, by (repeat (first | exact Below.refl _ _ | assumption | refine bel_trans ?_ (bel_alloc _ _) | refine bel_set ?_ (by first | (dsimp only; omega) | (simp; omega) | simp) _ | refine bel_trans ?_ (bel_drewN _ _) | refine bel_trans ?_ (bel_drew _) | refine bel_trans ?_ (by assumption)))⟩
  | true =>
    obtain ⟨ha1, ha2⟩ := inB_iff.1 h1
    by_cases h2 : pw P a Q.toNat = 1
    · rw [show hasB P Q a = true by simp [hasB, h1, h2]]
      go_enter Try.func68, Try.ntmps68
      go_wp2_with (first | (go_at_call 61; refine (i_within _ _ _ _).mono ?_; rintro e w' ⟨rfl, rfl⟩) | (go_at_call 98; refine (i_power _ _ _ _ (by omega) (by omega) (by omega)).mono ?_; rintro e w' ⟨rfl, rfl⟩))
      go_ret
      exact ⟨rfl, by (repeat (first | exact Below.refl _ _ | assumption | refine bel_trans ?_ (bel_alloc _ _) | refine bel_set ?_ (by first | (dsimp only; omega) | (simp; omega) | simp) _ | refine bel_trans ?_ (bel_drewN _ _) | refine bel_trans ?_ (bel_drew _) | refine bel_trans ?_ (by assumption)))⟩
    · rw [show hasB P Q a = false by simp [hasB, h1, h2]]
      have h2b : (pw P a Q.toNat == 1) = false := by simp [h2]
      go_enter Try.func68, Try.ntmps68
      go_wp2_with (first | (go_at_call 61; refine (i_within _ _ _ _).mono ?_; rintro e w' ⟨rfl, rfl⟩) | (go_at_call 98; refine (i_power _ _ _ _ (by omega) (by omega) (by omega)).mono ?_; rintro e w' ⟨rfl, rfl⟩))
      go_ret
      exact ⟨rfl, by (repeat (first | exact Below.refl _ _ | assumption | refine bel_trans ?_ (bel_alloc _ _) | refine bel_set ?_ (by first | (dsimp only; omega) | (simp; omega) | simp) _ | refine bel_trans ?_ (bel_drewN _ _) | refine bel_trans ?_ (bel_drew _) | refine bel_trans ?_ (by assumption)))⟩

set_option maxHeartbeats 1000000 in
theorem s_grHas (P Q G a : Int) (w : World) (hP : 3 ≤ P ∧ P ≤ 2003) (hQ : 2 ≤ Q ∧ Q ≤ 2002) :
    Calls Try.prog 69 #[.agg #[.int .i64 P, .int .i64 Q, .int .i64 G], .int .i64 a] w fun e w' => e = .returned (.bool (hasB P Q a)) ∧ Below w.heap.size w w' := by
  obtain ⟨hP1, hP2⟩ := hP; obtain ⟨hQ1, hQ2⟩ := hQ
  cases h1 : inB a 1 (P - 1) with
  | false =>
    rw [show hasB P Q a = false by simp [hasB, h1]]
    go_enter Try.func69, Try.ntmps69
    go_wp2_with (first | (go_at_call 64; refine (s_l1In _ _ _ _).mono ?_; rintro e w' ⟨rfl, rfl⟩) | (go_at_call 114; refine (s_grPower _ _ _ _ (by omega) (by omega) (by omega)).mono ?_; rintro e w' ⟨rfl, rfl⟩))
    go_ret
    exact ⟨rfl, by (repeat (first | exact Below.refl _ _ | assumption | refine bel_trans ?_ (bel_alloc _ _) | refine bel_set ?_ (by first | (dsimp only; omega) | (simp; omega) | simp) _ | refine bel_trans ?_ (bel_drewN _ _) | refine bel_trans ?_ (bel_drew _) | refine bel_trans ?_ (by assumption)))⟩
  | true =>
    obtain ⟨ha1, ha2⟩ := inB_iff.1 h1
    by_cases h2 : pw P a Q.toNat = 1
    · rw [show hasB P Q a = true by simp [hasB, h1, h2]]
      go_enter Try.func69, Try.ntmps69
      go_wp2_with (first | (go_at_call 64; refine (s_l1In _ _ _ _).mono ?_; rintro e w' ⟨rfl, rfl⟩) | (go_at_call 114; refine (s_grPower _ _ _ _ (by omega) (by omega) (by omega)).mono ?_; rintro e w' ⟨rfl, rfl⟩))
      go_ret
      exact ⟨rfl, by (repeat (first | exact Below.refl _ _ | assumption | refine bel_trans ?_ (bel_alloc _ _) | refine bel_set ?_ (by first | (dsimp only; omega) | (simp; omega) | simp) _ | refine bel_trans ?_ (bel_drewN _ _) | refine bel_trans ?_ (bel_drew _) | refine bel_trans ?_ (by assumption)))⟩
    · rw [show hasB P Q a = false by simp [hasB, h1, h2]]
      have h2b : (pw P a Q.toNat == 1) = false := by simp [h2]
      go_enter Try.func69, Try.ntmps69
      go_wp2_with (first | (go_at_call 64; refine (s_l1In _ _ _ _).mono ?_; rintro e w' ⟨rfl, rfl⟩) | (go_at_call 114; refine (s_grPower _ _ _ _ (by omega) (by omega) (by omega)).mono ?_; rintro e w' ⟨rfl, rfl⟩))
      go_ret
      exact ⟨rfl, by (repeat (first | exact Below.refl _ _ | assumption | refine bel_trans ?_ (bel_alloc _ _) | refine bel_set ?_ (by first | (dsimp only; omega) | (simp; omega) | simp) _ | refine bel_trans ?_ (bel_drewN _ _) | refine bel_trans ?_ (bel_drew _) | refine bel_trans ?_ (by assumption)))⟩

theorem q_power (p a n : Int) (w : World) (hp : 2 ≤ p ∧ p ≤ 3000) (ha : 0 ≤ a ∧ a ≤ 3000) (hn : 0 ≤ n ∧ n ≤ 1000000000000) :
    Calls Try.prog 98 #[.int .i64 p, .int .i64 a, .int .i64 n] w fun e w' => e = .returned (.int .i64 (pw p a n.toNat)) ∧ w' = w := (i_power p a n w hp ha hn).mono fun _ _ ⟨h, k⟩ => ⟨h, k.symm⟩
theorem q_grPower (p a n : Int) (w : World) (hp : 2 ≤ p ∧ p ≤ 3000) (ha : 0 ≤ a ∧ a ≤ 3000) (hn : 0 ≤ n ∧ n ≤ 1000000000000) :
    Calls Try.prog 114 #[.int .i64 p, .int .i64 a, .int .i64 n] w fun e w' => e = .returned (.int .i64 (pw p a n.toNat)) ∧ w' = w := (s_grPower p a n w hp ha hn).mono fun _ _ ⟨h, k⟩ => ⟨h, k.symm⟩
theorem q_btMod (p n : Int) (w : World) (hp : 1 ≤ p) (hp2 : p ≤ 1000000000) (hn : -4000000000000000000 ≤ n) (hn2 : n ≤ 4000000000000000000) :
    Calls Try.prog 115 #[.int .i64 n, .int .i64 p] w fun e w' => e = .returned (.int .i64 (n % p)) ∧ w' = w := (s_btMod p n w hp hp2 hn hn2).mono fun _ _ ⟨h, k⟩ => ⟨h, k.symm⟩

set_option maxHeartbeats 1000000 in
theorem i_gpower (P Q G a n : Int) (w : World) (hP : 3 ≤ P ∧ P ≤ 2003) (hQ : 2 ≤ Q ∧ Q ≤ 2002) (ha : 0 ≤ a ∧ a ≤ 2002) (hn : -1000000000 ≤ n ∧ n ≤ 1000000000) :
    Calls Try.prog 62 #[.agg #[.int .i64 P, .int .i64 Q, .int .i64 G], .int .i64 a, .int .i64 n] w fun e w' => e = .returned (.int .i64 (gpw P Q a n)) ∧ Below w.heap.size w w' := by
  obtain ⟨hP1, hP2⟩ := hP; obtain ⟨hQ1, hQ2⟩ := hQ
  obtain ⟨ha1, ha2⟩ := ha; obtain ⟨hn1, hn2⟩ := hn
  obtain ⟨tb1, tb2⟩ := tmod_bd (n := n) (p := Q) (by omega)
  have e1 : IntKind.i64.wrap (n.tmod Q + Q) = n.tmod Q + Q := IntWalk.i64_in _ (by omega)
  have e2 : (n.tmod Q + Q).tmod Q = n % Q := (IntWalk.rem_in _ _ (by omega)).trans (tmod_add (by omega))
  obtain ⟨rb1, rb2⟩ := emod_bd (n := n) (p := Q) (by omega)
  have hq0 : ¬ Q = 0 := by omega
  go_enter Try.func62, Try.ntmps62
  go_wp2
  go_quiet ((go_at_call 98; exact Calls.quiet_of_same (q_power _ _ _ _ (by omega) (by omega) (by omega))))
  go_wp2
  go_ret
  exact ⟨rfl, by (repeat (first | exact Below.refl _ _ | assumption | refine bel_trans ?_ (bel_alloc _ _) | refine bel_set ?_ (by first | (dsimp only; omega) | (simp; omega) | simp) _ | refine bel_trans ?_ (bel_drewN _ _) | refine bel_trans ?_ (bel_drew _) | refine bel_trans ?_ (by assumption)))⟩

set_option maxHeartbeats 1000000 in
theorem s_grTo (P Q G a n : Int) (w : World) (hP : 3 ≤ P ∧ P ≤ 2003) (hQ : 2 ≤ Q ∧ Q ≤ 2002) (ha : 0 ≤ a ∧ a ≤ 2002) (hn : -1000000000 ≤ n ∧ n ≤ 1000000000) :
    Calls Try.prog 65 #[.agg #[.int .i64 P, .int .i64 Q, .int .i64 G], .int .i64 a, .int .i64 n] w fun e w' => e = .returned (.int .i64 (gpw P Q a n)) ∧ Below w.heap.size w w' := by
  obtain ⟨hP1, hP2⟩ := hP; obtain ⟨hQ1, hQ2⟩ := hQ
  obtain ⟨ha1, ha2⟩ := ha; obtain ⟨hn1, hn2⟩ := hn
  obtain ⟨rb1, rb2⟩ := emod_bd (n := n) (p := Q) (by omega)
  go_enter Try.func65, Try.ntmps65
  go_wp2
  go_quiet ((first | (go_at_call 115; exact Calls.quiet_of_same (q_btMod _ _ _ (by omega) (by omega) (by omega) (by omega))) | (go_at_call 114; exact Calls.quiet_of_same (q_grPower _ _ _ _ (by omega) (by omega) (by omega)))))
  go_wp2
  go_ret
  exact ⟨rfl, by (repeat (first | exact Below.refl _ _ | assumption | refine bel_trans ?_ (bel_alloc _ _) | refine bel_set ?_ (by first | (dsimp only; omega) | (simp; omega) | simp) _ | refine bel_trans ?_ (bel_drewN _ _) | refine bel_trans ?_ (bel_drew _) | refine bel_trans ?_ (by assumption)))⟩

set_option maxHeartbeats 1000000 in
theorem i_ginverse (P Q G a : Int) (w : World) (hP : 3 ≤ P ∧ P ≤ 2003) (hQ : 2 ≤ Q ∧ Q ≤ 2002) (ha : 0 ≤ a ∧ a ≤ 2002) :
    Calls Try.prog 71 #[.agg #[.int .i64 P, .int .i64 Q, .int .i64 G], .int .i64 a] w fun e w' => e = .returned (.int .i64 (gpw P Q a (-1))) ∧ Below w.heap.size w w' := by
  go_enter Try.func71, Try.ntmps71
  go_wp2_with (go_at_call 62; refine (i_gpower _ _ _ _ _ _ hP hQ ha (by omega)).mono ?_; rintro e w' ⟨rfl, hb⟩)
  go_ret
  exact ⟨rfl, by (repeat (first | exact Below.refl _ _ | assumption | refine bel_trans ?_ (bel_alloc _ _) | refine bel_set ?_ (by first | (dsimp only; omega) | (simp; omega) | simp) _ | refine bel_trans ?_ (bel_drewN _ _) | refine bel_trans ?_ (bel_drew _) | refine bel_trans ?_ (by assumption)))⟩

def firstB (P Q G f : Int) : Bool := grB P Q G && (hasB P Q f && decide (f ≠ 1))
theorem firstB_iff {P Q G f : Int} : firstB P Q G f = true ↔ grB P Q G = true ∧ hasB P Q f = true ∧ f ≠ 1 := by
  unfold firstB; simp only [Bool.and_eq_true, decide_eq_true_iff]
def answ (P Q G f b c : Int) : Int := if c = 1 then gpw P Q G b * f % P else gpw P Q G b
def padOf (x i : Int) : Int := dgMix [x, i, 18, 0]
def otherOf (P Q G a ans : Int) : Int := ans * gpw P Q (gpw P Q G a) (-1) % P
def padZ (P Q G a ans i : Int) : Int := padOf (gpw P Q ans a) i
def padO (P Q G a ans i : Int) : Int := padOf (gpw P Q (otherOf P Q G a ans) a) i
def firstMsg (P Q G a : Int) : Int × Bool := if grB P Q G && inB a 1 (Q - 1) then (gpw P Q G a, true) else (0, false)
def answerTo (P Q G f b c : Int) : Int × Bool := if firstB P Q G f && (inB b 0 (Q - 1) && inB c 0 1) then (answ P Q G f b c, true) else (0, false)
def chosenPad (P Q G f b i : Int) : Int × Bool := if firstB P Q G f && (inB b 0 (Q - 1) && inB i 0 39) then (padOf (gpw P Q f b) i, true) else (0, false)
def padsB (P Q G a ans i : Int) : Bool := grB P Q G && (hasB P Q ans && (inB a 1 (Q - 1) && inB i 0 39))
def padsOf (P Q G a ans i : Int) : Int × Int × Bool := if padsB P Q G a ans i then (padZ P Q G a ans i, padO P Q G a ans i, true) else (0, 0, false)
def sealPair (P Q G a ans i m0 m1 : Int) : Int × Int × Bool := if padsB P Q G a ans i && (inB m0 0 65535 && inB m1 0 65535) then (bits .xor .i64 m0 (padZ P Q G a ans i), bits .xor .i64 m1 (padO P Q G a ans i), true) else (0, 0, false)
def openChosen (P Q G f b c i x0 x1 : Int) : Int × Bool := if (firstB P Q G f && (inB b 0 (Q - 1) && inB i 0 39)) && (inB c 0 1 && (inB x0 0 65535 && inB x1 0 65535)) then (bits .xor .i64 (if c = 1 then x1 else x0) (padOf (gpw P Q f b) i), true) else (0, false)

set_option maxHeartbeats 400000 in
theorem i_isOffer (x : Int) (w : World) : Calls Try.prog 92 #[.int .i64 x] w fun e w' => e = .returned (.bool (inB x 0 39)) ∧ w = w' := by
  go_enter Try.func92, Try.ntmps92
  go_wp2_with (go_at_call 61; refine (i_within _ _ _ _).mono ?_; rintro e w' ⟨rfl, rfl⟩)
  go_ret
  exact ⟨rfl, rfl⟩
set_option maxHeartbeats 400000 in
theorem s_otNumber (x : Int) (w : World) : Calls Try.prog 83 #[.int .i64 x] w fun e w' => e = .returned (.bool (inB x 0 39)) ∧ w = w' := by
  go_enter Try.func83, Try.ntmps83
  go_wp2_with (go_at_call 64; refine (s_l1In _ _ _ _).mono ?_; rintro e w' ⟨rfl, rfl⟩)
  go_ret
  exact ⟨rfl, rfl⟩
set_option maxHeartbeats 400000 in
theorem i_isLabel (x : Int) (w : World) : Calls Try.prog 80 #[.int .i64 x] w fun e w' => e = .returned (.bool (inB x 0 65535)) ∧ w = w' := by
  go_enter Try.func80, Try.ntmps80
  go_wp2_with (go_at_call 61; refine (i_within _ _ _ _).mono ?_; rintro e w' ⟨rfl, rfl⟩)
  go_ret
  exact ⟨rfl, rfl⟩
set_option maxHeartbeats 400000 in
theorem s_otMessage (x : Int) (w : World) : Calls Try.prog 84 #[.int .i64 x] w fun e w' => e = .returned (.bool (inB x 0 65535)) ∧ w = w' := by
  go_enter Try.func84, Try.ntmps84
  go_wp2_with (go_at_call 64; refine (s_l1In _ _ _ _).mono ?_; rintro e w' ⟨rfl, rfl⟩)
  go_ret
  exact ⟨rfl, rfl⟩
set_option maxHeartbeats 400000 in
theorem i_bitB (x : Int) (w : World) : Calls Try.prog 79 #[.int .i64 x] w fun e w' => e = .returned (.bool (inB x 0 1)) ∧ w = w' := by
  by_cases h0 : x = 0
  · subst h0
    go_enter Try.func79, Try.ntmps79
    go_wp2
    go_ret
    exact ⟨rfl, rfl⟩
  · by_cases h1 : x = 1
    · subst h1
      go_enter Try.func79, Try.ntmps79
      go_wp2
      go_ret
      exact ⟨rfl, rfl⟩
    · rw [show inB x 0 1 = false from inB_no.2 (by omega)]
      have h0b : (x == 0) = false := by simp [h0]
      have h1b : (x == 1) = false := by simp [h1]
      go_enter Try.func79, Try.ntmps79
      go_wp2
      go_ret
      exact ⟨rfl, rfl⟩
set_option maxHeartbeats 1000000 in
theorem i_isSecret (P Q G a : Int) (w : World) (hP : 3 ≤ P ∧ P ≤ 2003) (hQ : 2 ≤ Q ∧ Q ≤ 2002) :
    Calls Try.prog 90 #[.agg #[.int .i64 P, .int .i64 Q, .int .i64 G], .int .i64 a] w fun e w' => e = .returned (.bool (inB a 1 (Q - 1))) ∧ Below w.heap.size w w' := by
  obtain ⟨hP1, hP2⟩ := hP; obtain ⟨hQ1, hQ2⟩ := hQ
  go_enter Try.func90, Try.ntmps90
  go_wp2_with (go_at_call 61; refine (i_within _ _ _ _).mono ?_; rintro e w' ⟨rfl, rfl⟩)
  go_ret
  exact ⟨rfl, by (repeat (first | exact Below.refl _ _ | assumption | refine bel_trans ?_ (bel_alloc _ _) | refine bel_set ?_ (by first | (dsimp only; omega) | (simp; omega) | simp) _ | refine bel_trans ?_ (bel_drewN _ _) | refine bel_trans ?_ (bel_drew _) | refine bel_trans ?_ (by assumption)))⟩

set_option maxHeartbeats 1000000 in
theorem s_otReceiver (P Q G a : Int) (w : World) (hP : 3 ≤ P ∧ P ≤ 2003) (hQ : 2 ≤ Q ∧ Q ≤ 2002) :
    Calls Try.prog 82 #[.agg #[.int .i64 P, .int .i64 Q, .int .i64 G], .int .i64 a] w fun e w' => e = .returned (.bool (inB a 0 (Q - 1))) ∧ Below w.heap.size w w' := by
  obtain ⟨hP1, hP2⟩ := hP; obtain ⟨hQ1, hQ2⟩ := hQ
  go_enter Try.func82, Try.ntmps82
  go_wp2_with (go_at_call 64; refine (s_l1In _ _ _ _).mono ?_; rintro e w' ⟨rfl, rfl⟩)
  go_ret
  exact ⟨rfl, by (repeat (first | exact Below.refl _ _ | assumption | refine bel_trans ?_ (bel_alloc _ _) | refine bel_set ?_ (by first | (dsimp only; omega) | (simp; omega) | simp) _ | refine bel_trans ?_ (bel_drewN _ _) | refine bel_trans ?_ (bel_drew _) | refine bel_trans ?_ (by assumption)))⟩

set_option maxHeartbeats 1000000 in
theorem i_inGroup (P Q G a : Int) (w : World)  :
    Calls Try.prog 70 #[.agg #[.int .i64 P, .int .i64 Q, .int .i64 G], .int .i64 a] w fun e w' => e = .returned (.bool (grB P Q G && hasB P Q a)) ∧ Below w.heap.size w w' := by
  cases h1 : grB P Q G with
  | false =>
    go_enter Try.func70, Try.ntmps70
    go_wp2_with (first | (go_at_call 42; refine (i_IsGroup _ _ _ _).mono ?_; rintro e w' ⟨rfl, hb⟩; (first | (have H := gbox1 hb) | (have H := Gx.on gb0 hb; clear gb0 k0 k1 k2)); have gb0 := H; have kk := H; clear H; obtain ⟨k0, k1, k2⟩ := kk))
    all_goals
      go_ret
      exact ⟨rfl, by (repeat (first | exact Below.refl _ _ | assumption | refine bel_trans ?_ (bel_alloc _ _) | refine bel_set ?_ (by first | (dsimp only; omega) | (simp; omega) | simp) _ | refine bel_trans ?_ (bel_drewN _ _) | refine bel_trans ?_ (bel_drew _) | refine bel_trans ?_ (by assumption)))⟩
  | true =>
    obtain ⟨hP, hQ, hG⟩ := grB_lo h1
    go_enter Try.func70, Try.ntmps70
    go_wp2_with (first | (go_at_call 42; refine (i_IsGroup _ _ _ _).mono ?_; rintro e w' ⟨rfl, hb⟩; (first | (have H := gbox1 hb) | (have H := Gx.on gb0 hb; clear gb0 k0 k1 k2)); have gb0 := H; have kk := H; clear H; obtain ⟨k0, k1, k2⟩ := kk) | (go_at_call 68; refine (i_has _ _ _ _ _ hP hQ).mono ?_; rintro e w' ⟨rfl, hb⟩; (first | (have H := gbox1 hb) | (have H := Gx.on gb0 hb; clear gb0 k0 k1 k2)); have gb0 := H; have kk := H; clear H; obtain ⟨k0, k1, k2⟩ := kk))
    all_goals
      go_ret
      exact ⟨rfl, by (repeat (first | exact Below.refl _ _ | assumption | refine bel_trans ?_ (bel_alloc _ _) | refine bel_set ?_ (by first | (dsimp only; omega) | (simp; omega) | simp) _ | refine bel_trans ?_ (bel_drewN _ _) | refine bel_trans ?_ (bel_drew _) | refine bel_trans ?_ (by assumption)))⟩

set_option maxHeartbeats 1000000 in
theorem s_otFirst (P Q G f : Int) (w : World)  :
    Calls Try.prog 81 #[.agg #[.int .i64 P, .int .i64 Q, .int .i64 G], .int .i64 f] w fun e w' => e = .returned (.bool (firstB P Q G f)) ∧ Below w.heap.size w w' := by
  cases h1 : grB P Q G with
  | false =>
    rw [show firstB P Q G f = false by simp [firstB, h1]]
    go_enter Try.func81, Try.ntmps81
    go_wp2_with (first | (go_at_call 63; refine (s_grGood _ _ _ _).mono ?_; rintro e w' ⟨rfl, hb⟩; (first | (have H := gbox1 hb) | (have H := Gx.on gb0 hb; clear gb0 k0 k1 k2)); have gb0 := H; have kk := H; clear H; obtain ⟨k0, k1, k2⟩ := kk))
    all_goals
      go_ret
      exact ⟨rfl, by (repeat (first | exact Below.refl _ _ | assumption | refine bel_trans ?_ (bel_alloc _ _) | refine bel_set ?_ (by first | (dsimp only; omega) | (simp; omega) | simp) _ | refine bel_trans ?_ (bel_drewN _ _) | refine bel_trans ?_ (bel_drew _) | refine bel_trans ?_ (by assumption)))⟩
  | true =>
    obtain ⟨hP, hQ, hG⟩ := grB_lo h1
    by_cases h3 : f = 1
    · subst h3
      rw [show firstB P Q G 1 = false by simp [firstB]]
      go_enter Try.func81, Try.ntmps81
      go_wp2_with (first | (go_at_call 63; refine (s_grGood _ _ _ _).mono ?_; rintro e w' ⟨rfl, hb⟩; (first | (have H := gbox1 hb) | (have H := Gx.on gb0 hb; clear gb0 k0 k1 k2)); have gb0 := H; have kk := H; clear H; obtain ⟨k0, k1, k2⟩ := kk) | (go_at_call 69; refine (s_grHas _ _ _ _ _ hP hQ).mono ?_; rintro e w' ⟨rfl, hb⟩; (first | (have H := gbox1 hb) | (have H := Gx.on gb0 hb; clear gb0 k0 k1 k2)); have gb0 := H; have kk := H; clear H; obtain ⟨k0, k1, k2⟩ := kk))
      all_goals
        go_ret
        exact ⟨rfl, by (repeat (first | exact Below.refl _ _ | assumption | refine bel_trans ?_ (bel_alloc _ _) | refine bel_set ?_ (by first | (dsimp only; omega) | (simp; omega) | simp) _ | refine bel_trans ?_ (bel_drewN _ _) | refine bel_trans ?_ (bel_drew _) | refine bel_trans ?_ (by assumption)))⟩
    · have h4 : firstB P Q G f = hasB P Q f := by simp [firstB, h1, h3]
      have h3b : (f != 1) = true := by simp [h3]
      rw [h4]; clear h4
      go_enter Try.func81, Try.ntmps81
      go_wp2_with (first | (go_at_call 63; refine (s_grGood _ _ _ _).mono ?_; rintro e w' ⟨rfl, hb⟩; (first | (have H := gbox1 hb) | (have H := Gx.on gb0 hb; clear gb0 k0 k1 k2)); have gb0 := H; have kk := H; clear H; obtain ⟨k0, k1, k2⟩ := kk) | (go_at_call 69; refine (s_grHas _ _ _ _ _ hP hQ).mono ?_; rintro e w' ⟨rfl, hb⟩; (first | (have H := gbox1 hb) | (have H := Gx.on gb0 hb; clear gb0 k0 k1 k2)); have gb0 := H; have kk := H; clear H; obtain ⟨k0, k1, k2⟩ := kk))
      all_goals
        go_ret
        exact ⟨rfl, by (repeat (first | exact Below.refl _ _ | assumption | refine bel_trans ?_ (bel_alloc _ _) | refine bel_set ?_ (by first | (dsimp only; omega) | (simp; omega) | simp) _ | refine bel_trans ?_ (bel_drewN _ _) | refine bel_trans ?_ (bel_drew _) | refine bel_trans ?_ (by assumption)))⟩

set_option maxHeartbeats 1000000 in
theorem i_isFirst (P Q G f : Int) (w : World)  :
    Calls Try.prog 86 #[.agg #[.int .i64 P, .int .i64 Q, .int .i64 G], .int .i64 f] w fun e w' => e = .returned (.bool (firstB P Q G f)) ∧ Below w.heap.size w w' := by
  cases h1 : grB P Q G with
  | false =>
    rw [show firstB P Q G f = false by simp [firstB, h1]]
    go_enter Try.func86, Try.ntmps86
    go_wp2_with (first | (go_at_call 70; refine (i_inGroup _ _ _ _ _).mono ?_; rintro e w' ⟨rfl, hb⟩; (first | (have H := gbox1 hb) | (have H := Gx.on gb0 hb; clear gb0 k0 k1 k2)); have gb0 := H; have kk := H; clear H; obtain ⟨k0, k1, k2⟩ := kk))
    all_goals
      go_ret
      exact ⟨rfl, by (repeat (first | exact Below.refl _ _ | assumption | refine bel_trans ?_ (bel_alloc _ _) | refine bel_set ?_ (by first | (dsimp only; omega) | (simp; omega) | simp) _ | refine bel_trans ?_ (bel_drewN _ _) | refine bel_trans ?_ (bel_drew _) | refine bel_trans ?_ (by assumption)))⟩
  | true =>
    cases h2 : hasB P Q f with
    | false =>
      rw [show firstB P Q G f = false by simp [firstB, h2]]
      go_enter Try.func86, Try.ntmps86
      go_wp2_with (first | (go_at_call 70; refine (i_inGroup _ _ _ _ _).mono ?_; rintro e w' ⟨rfl, hb⟩; (first | (have H := gbox1 hb) | (have H := Gx.on gb0 hb; clear gb0 k0 k1 k2)); have gb0 := H; have kk := H; clear H; obtain ⟨k0, k1, k2⟩ := kk))
      all_goals
        go_ret
        exact ⟨rfl, by (repeat (first | exact Below.refl _ _ | assumption | refine bel_trans ?_ (bel_alloc _ _) | refine bel_set ?_ (by first | (dsimp only; omega) | (simp; omega) | simp) _ | refine bel_trans ?_ (bel_drewN _ _) | refine bel_trans ?_ (bel_drew _) | refine bel_trans ?_ (by assumption)))⟩
    | true =>
      by_cases h3 : f = 1
      · rw [show firstB P Q G f = false by simp [firstB, h3]]
        go_enter Try.func86, Try.ntmps86
        go_wp2_with (first | (go_at_call 70; refine (i_inGroup _ _ _ _ _).mono ?_; rintro e w' ⟨rfl, hb⟩; (first | (have H := gbox1 hb) | (have H := Gx.on gb0 hb; clear gb0 k0 k1 k2)); have gb0 := H; have kk := H; clear H; obtain ⟨k0, k1, k2⟩ := kk))
        all_goals
          go_ret
          exact ⟨rfl, by (repeat (first | exact Below.refl _ _ | assumption | refine bel_trans ?_ (bel_alloc _ _) | refine bel_set ?_ (by first | (dsimp only; omega) | (simp; omega) | simp) _ | refine bel_trans ?_ (bel_drewN _ _) | refine bel_trans ?_ (bel_drew _) | refine bel_trans ?_ (by assumption)))⟩
      · rw [show firstB P Q G f = true by simp [firstB, h1, h2, h3]]
        have h3b : (f != 1) = true := by simp [h3]
        go_enter Try.func86, Try.ntmps86
        go_wp2_with (first | (go_at_call 70; refine (i_inGroup _ _ _ _ _).mono ?_; rintro e w' ⟨rfl, hb⟩; (first | (have H := gbox1 hb) | (have H := Gx.on gb0 hb; clear gb0 k0 k1 k2)); have gb0 := H; have kk := H; clear H; obtain ⟨k0, k1, k2⟩ := kk))
        all_goals
          go_ret
          exact ⟨rfl, by (repeat (first | exact Below.refl _ _ | assumption | refine bel_trans ?_ (bel_alloc _ _) | refine bel_set ?_ (by first | (dsimp only; omega) | (simp; omega) | simp) _ | refine bel_trans ?_ (bel_drewN _ _) | refine bel_trans ?_ (bel_drew _) | refine bel_trans ?_ (by assumption)))⟩

set_option maxHeartbeats 1000000 in
theorem s_otSender (P Q G a : Int) (w : World) :
    Calls Try.prog 91 #[.agg #[.int .i64 P, .int .i64 Q, .int .i64 G], .int .i64 a] w fun e w' => e = .returned (.bool (grB P Q G && inB a 1 (Q - 1))) ∧ Below w.heap.size w w' := by
  cases h1 : grB P Q G with
  | false =>
    go_enter Try.func91, Try.ntmps91
    go_wp2_with (first | (go_at_call 63; refine (s_grGood _ _ _ _).mono ?_; rintro e w' ⟨rfl, hb⟩; (first | (have H := gbox1 hb) | (have H := Gx.on gb0 hb; clear gb0 k0 k1 k2)); have gb0 := H; have kk := H; clear H; obtain ⟨k0, k1, k2⟩ := kk))
    all_goals
      go_ret
      exact ⟨rfl, by (repeat (first | exact Below.refl _ _ | assumption | refine bel_trans ?_ (bel_alloc _ _) | refine bel_set ?_ (by first | (dsimp only; omega) | (simp; omega) | simp) _ | refine bel_trans ?_ (bel_drewN _ _) | refine bel_trans ?_ (bel_drew _) | refine bel_trans ?_ (by assumption)))⟩
  | true =>
    obtain ⟨hP, hQ, hG⟩ := grB_lo h1
    go_enter Try.func91, Try.ntmps91
    go_wp2_with (first | (go_at_call 63; refine (s_grGood _ _ _ _).mono ?_; rintro e w' ⟨rfl, hb⟩; (first | (have H := gbox1 hb) | (have H := Gx.on gb0 hb; clear gb0 k0 k1 k2)); have gb0 := H; have kk := H; clear H; obtain ⟨k0, k1, k2⟩ := kk) | (go_at_call 64; refine (s_l1In _ _ _ _).mono ?_; rintro e w' ⟨rfl, rfl⟩))
    all_goals
      go_ret
      exact ⟨rfl, by (repeat (first | exact Below.refl _ _ | assumption | refine bel_trans ?_ (bel_alloc _ _) | refine bel_set ?_ (by first | (dsimp only; omega) | (simp; omega) | simp) _ | refine bel_trans ?_ (bel_drewN _ _) | refine bel_trans ?_ (bel_drew _) | refine bel_trans ?_ (by assumption)))⟩
set_option maxHeartbeats 1000000 in
theorem i_FirstMessage (P Q G a : Int) (w : World) (hP : Fits P) (hQ : Fits Q) (hG : Fits G) (ha : Fits a) :
    Calls Try.prog 26 #[.agg #[.int .i64 P, .int .i64 Q, .int .i64 G], .int .i64 a] w fun e w' => e = .returned (.tuple #[.int .i64 (firstMsg P Q G a).1, .bool (firstMsg P Q G a).2]) ∧ Below w.heap.size w w' := by
  unfold firstMsg
  cases h1 : grB P Q G with
  | false =>
    go_enter Try.func26, Try.ntmps26
    go_wp2_with (first | (go_at_call 42; refine (i_IsGroup _ _ _ _).mono ?_; rintro e w' ⟨rfl, hb⟩; (first | (have H := gbox1 hb) | (have H := Gx.on gb0 hb; clear gb0 k0 k1 k2)); have gb0 := H; have kk := H; clear H; obtain ⟨k0, k1, k2⟩ := kk) | (go_at_call 90; refine (i_isSecret _ _ _ _ _ (by assumption) (by assumption)).mono ?_; rintro e w' ⟨rfl, hb⟩; (first | (have H := gbox1 hb) | (have H := Gx.on gb0 hb; clear gb0 k0 k1 k2)); have gb0 := H; have kk := H; clear H; obtain ⟨k0, k1, k2⟩ := kk))
    all_goals
      go_ret2
      exact ⟨rfl, by (repeat (first | exact Below.refl _ _ | assumption | refine bel_trans ?_ (bel_alloc _ _) | refine bel_set ?_ (by first | (dsimp only; omega) | (simp; omega) | simp) _ | refine bel_trans ?_ (bel_drewN _ _) | refine bel_trans ?_ (bel_drew _) | refine bel_trans ?_ (by assumption)))⟩
  | true =>
    obtain ⟨hP, hQ, hG⟩ := grB_lo h1
    cases h2 : inB a 1 (Q - 1) with
    | false =>
      go_enter Try.func26, Try.ntmps26
      go_wp2_with (first | (go_at_call 42; refine (i_IsGroup _ _ _ _).mono ?_; rintro e w' ⟨rfl, hb⟩; (first | (have H := gbox1 hb) | (have H := Gx.on gb0 hb; clear gb0 k0 k1 k2)); have gb0 := H; have kk := H; clear H; obtain ⟨k0, k1, k2⟩ := kk) | (go_at_call 90; refine (i_isSecret _ _ _ _ _ (by assumption) (by assumption)).mono ?_; rintro e w' ⟨rfl, hb⟩; (first | (have H := gbox1 hb) | (have H := Gx.on gb0 hb; clear gb0 k0 k1 k2)); have gb0 := H; have kk := H; clear H; obtain ⟨k0, k1, k2⟩ := kk))
      all_goals
        go_ret2
        exact ⟨rfl, by (repeat (first | exact Below.refl _ _ | assumption | refine bel_trans ?_ (bel_alloc _ _) | refine bel_set ?_ (by first | (dsimp only; omega) | (simp; omega) | simp) _ | refine bel_trans ?_ (bel_drewN _ _) | refine bel_trans ?_ (bel_drew _) | refine bel_trans ?_ (by assumption)))⟩
    | true =>
      obtain ⟨a1, a2⟩ := inB_iff.1 h2
      go_enter Try.func26, Try.ntmps26
      go_wp2_with (first | (go_at_call 42; refine (i_IsGroup _ _ _ _).mono ?_; rintro e w' ⟨rfl, hb⟩; (first | (have H := gbox1 hb) | (have H := Gx.on gb0 hb; clear gb0 k0 k1 k2)); have gb0 := H; have kk := H; clear H; obtain ⟨k0, k1, k2⟩ := kk) | (go_at_call 90; refine (i_isSecret _ _ _ _ _ hP hQ).mono ?_; rintro e w' ⟨rfl, hb⟩; (first | (have H := gbox1 hb) | (have H := Gx.on gb0 hb; clear gb0 k0 k1 k2)); have gb0 := H; have kk := H; clear H; obtain ⟨k0, k1, k2⟩ := kk) | (go_at_call 62; refine (i_gpower _ _ _ _ _ _ hP hQ (by omega) (by omega)).mono ?_; rintro e w' ⟨rfl, hb⟩; (first | (have H := gbox1 hb) | (have H := Gx.on gb0 hb; clear gb0 k0 k1 k2)); have gb0 := H; have kk := H; clear H; obtain ⟨k0, k1, k2⟩ := kk))
      all_goals
        go_ret2
        exact ⟨rfl, by (repeat (first | exact Below.refl _ _ | assumption | refine bel_trans ?_ (bel_alloc _ _) | refine bel_set ?_ (by first | (dsimp only; omega) | (simp; omega) | simp) _ | refine bel_trans ?_ (bel_drewN _ _) | refine bel_trans ?_ (bel_drew _) | refine bel_trans ?_ (by assumption)))⟩

set_option maxHeartbeats 1000000 in
theorem s_FirstMessage (P Q G a : Int) (w : World) (hP : Fits P) (hQ : Fits Q) (hG : Fits G) (ha : Fits a) :
    Calls Try.prog 27 #[.agg #[.int .i64 P, .int .i64 Q, .int .i64 G], .int .i64 a] w fun e w' => e = .returned (.tuple #[.int .i64 (firstMsg P Q G a).1, .bool (firstMsg P Q G a).2]) ∧ Below w.heap.size w w' := by
  unfold firstMsg
  cases h1 : grB P Q G with
  | false =>
    go_enter Try.func27, Try.ntmps27
    go_wp2_with (first | (go_at_call 91; refine (s_otSender _ _ _ _ _).mono ?_; rintro e w' ⟨rfl, hb⟩; (first | (have H := gbox1 hb) | (have H := Gx.on gb0 hb; clear gb0 k0 k1 k2)); have gb0 := H; have kk := H; clear H; obtain ⟨k0, k1, k2⟩ := kk))
    all_goals
      go_ret2
      exact ⟨rfl, by (repeat (first | exact Below.refl _ _ | assumption | refine bel_trans ?_ (bel_alloc _ _) | refine bel_set ?_ (by first | (dsimp only; omega) | (simp; omega) | simp) _ | refine bel_trans ?_ (bel_drewN _ _) | refine bel_trans ?_ (bel_drew _) | refine bel_trans ?_ (by assumption)))⟩
  | true =>
    obtain ⟨hP, hQ, hG⟩ := grB_lo h1
    cases h2 : inB a 1 (Q - 1) with
    | false =>
      go_enter Try.func27, Try.ntmps27
      go_wp2_with (first | (go_at_call 91; refine (s_otSender _ _ _ _ _).mono ?_; rintro e w' ⟨rfl, hb⟩; (first | (have H := gbox1 hb) | (have H := Gx.on gb0 hb; clear gb0 k0 k1 k2)); have gb0 := H; have kk := H; clear H; obtain ⟨k0, k1, k2⟩ := kk))
      all_goals
        go_ret2
        exact ⟨rfl, by (repeat (first | exact Below.refl _ _ | assumption | refine bel_trans ?_ (bel_alloc _ _) | refine bel_set ?_ (by first | (dsimp only; omega) | (simp; omega) | simp) _ | refine bel_trans ?_ (bel_drewN _ _) | refine bel_trans ?_ (bel_drew _) | refine bel_trans ?_ (by assumption)))⟩
    | true =>
      obtain ⟨a1, a2⟩ := inB_iff.1 h2
      go_enter Try.func27, Try.ntmps27
      go_wp2_with (first | (go_at_call 91; refine (s_otSender _ _ _ _ _).mono ?_; rintro e w' ⟨rfl, hb⟩; (first | (have H := gbox1 hb) | (have H := Gx.on gb0 hb; clear gb0 k0 k1 k2)); have gb0 := H; have kk := H; clear H; obtain ⟨k0, k1, k2⟩ := kk) | (go_at_call 65; refine (s_grTo _ _ _ _ _ _ hP hQ (by omega) (by omega)).mono ?_; rintro e w' ⟨rfl, hb⟩; (first | (have H := gbox1 hb) | (have H := Gx.on gb0 hb; clear gb0 k0 k1 k2)); have gb0 := H; have kk := H; clear H; obtain ⟨k0, k1, k2⟩ := kk))
      all_goals
        go_ret2
        exact ⟨rfl, by (repeat (first | exact Below.refl _ _ | assumption | refine bel_trans ?_ (bel_alloc _ _) | refine bel_set ?_ (by first | (dsimp only; omega) | (simp; omega) | simp) _ | refine bel_trans ?_ (bel_drewN _ _) | refine bel_trans ?_ (bel_drew _) | refine bel_trans ?_ (by assumption)))⟩

set_option maxHeartbeats 1000000 in
theorem i_answer (P Q G f b c : Int) (w : World) (hP : 3 ≤ P ∧ P ≤ 2003) (hQ : 2 ≤ Q ∧ Q ≤ 2002) (hG : 0 ≤ G ∧ G ≤ 2002) (hf : 0 ≤ f ∧ f ≤ 2002) (hb0 : 0 ≤ b ∧ b ≤ 1000000) :
    Calls Try.prog 88 #[.agg #[.int .i64 P, .int .i64 Q, .int .i64 G], .int .i64 f, .int .i64 b, .int .i64 c] w fun e w' => e = .returned (.int .i64 (answ P Q G f b c)) ∧ Below w.heap.size w w' := by
  obtain ⟨hP1, hP2⟩ := hP; obtain ⟨hQ1, hQ2⟩ := hQ
  obtain ⟨hf1, hf2⟩ := hf; obtain ⟨hG1, hG2⟩ := hG; obtain ⟨hb1, hb2⟩ := hb0
  have hP : 3 ≤ P ∧ P ≤ 2003 := ⟨hP1, hP2⟩
  have hQ : 2 ≤ Q ∧ Q ≤ 2002 := ⟨hQ1, hQ2⟩
  obtain ⟨g1, g2⟩ := gpw_bd P Q G b (by omega)
  obtain ⟨q1, q2⟩ := mul_bd (a := gpw P Q G b) (b := f) 2003 2003 (by omega) (by omega) (by omega) (by omega)
  by_cases h1 : c = 1
  · rw [show answ P Q G f b c = gpw P Q G b * f % P by simp [answ, h1]]
    go_enter Try.func88, Try.ntmps88
    go_wp2_with (first | (go_at_call 62; refine (i_gpower _ _ _ _ _ _ hP hQ (by omega) (by omega)).mono ?_; rintro e w' ⟨rfl, hb⟩; (first | (have H := gbox1 hb) | (have H := Gx.on gb0 hb; clear gb0 k0 k1 k2)); have gb0 := H; have kk := H; clear H; obtain ⟨k0, k1, k2⟩ := kk))
    go_ret
    exact ⟨rfl, by (repeat (first | exact Below.refl _ _ | assumption | refine bel_trans ?_ (bel_alloc _ _) | refine bel_set ?_ (by first | (dsimp only; omega) | (simp; omega) | simp) _ | refine bel_trans ?_ (bel_drewN _ _) | refine bel_trans ?_ (bel_drew _) | refine bel_trans ?_ (by assumption)))⟩
  · rw [show answ P Q G f b c = gpw P Q G b by simp [answ, h1]]
    go_enter Try.func88, Try.ntmps88
    go_wp2_with (first | (go_at_call 62; refine (i_gpower _ _ _ _ _ _ hP hQ (by omega) (by omega)).mono ?_; rintro e w' ⟨rfl, hb⟩; (first | (have H := gbox1 hb) | (have H := Gx.on gb0 hb; clear gb0 k0 k1 k2)); have gb0 := H; have kk := H; clear H; obtain ⟨k0, k1, k2⟩ := kk))
    go_ret
    exact ⟨rfl, by (repeat (first | exact Below.refl _ _ | assumption | refine bel_trans ?_ (bel_alloc _ _) | refine bel_set ?_ (by first | (dsimp only; omega) | (simp; omega) | simp) _ | refine bel_trans ?_ (bel_drewN _ _) | refine bel_trans ?_ (bel_drew _) | refine bel_trans ?_ (by assumption)))⟩

set_option maxHeartbeats 1000000 in
theorem s_otAnswer (P Q G f b c : Int) (w : World) (hP : 3 ≤ P ∧ P ≤ 2003) (hQ : 2 ≤ Q ∧ Q ≤ 2002) (hG : 0 ≤ G ∧ G ≤ 2002) (hf : 0 ≤ f ∧ f ≤ 2002) (hb0 : 0 ≤ b ∧ b ≤ 1000000) :
    Calls Try.prog 89 #[.agg #[.int .i64 P, .int .i64 Q, .int .i64 G], .int .i64 f, .int .i64 b, .int .i64 c] w fun e w' => e = .returned (.int .i64 (answ P Q G f b c)) ∧ Below w.heap.size w w' := by
  obtain ⟨hP1, hP2⟩ := hP; obtain ⟨hQ1, hQ2⟩ := hQ
  obtain ⟨hf1, hf2⟩ := hf; obtain ⟨hG1, hG2⟩ := hG; obtain ⟨hb1, hb2⟩ := hb0
  have hP : 3 ≤ P ∧ P ≤ 2003 := ⟨hP1, hP2⟩
  have hQ : 2 ≤ Q ∧ Q ≤ 2002 := ⟨hQ1, hQ2⟩
  obtain ⟨g1, g2⟩ := gpw_bd P Q G b (by omega)
  obtain ⟨q1, q2⟩ := mul_bd (a := gpw P Q G b) (b := f) 2003 2003 (by omega) (by omega) (by omega) (by omega)
  by_cases h1 : c = 1
  · rw [show answ P Q G f b c = gpw P Q G b * f % P by simp [answ, h1]]
    go_enter Try.func89, Try.ntmps89
    go_wp2_with (first | (go_at_call 65; refine (s_grTo _ _ _ _ _ _ hP hQ (by omega) (by omega)).mono ?_; rintro e w' ⟨rfl, hb⟩; (first | (have H := gbox1 hb) | (have H := Gx.on gb0 hb; clear gb0 k0 k1 k2)); have gb0 := H; have kk := H; clear H; obtain ⟨k0, k1, k2⟩ := kk))
    go_ret
    exact ⟨rfl, by (repeat (first | exact Below.refl _ _ | assumption | refine bel_trans ?_ (bel_alloc _ _) | refine bel_set ?_ (by first | (dsimp only; omega) | (simp; omega) | simp) _ | refine bel_trans ?_ (bel_drewN _ _) | refine bel_trans ?_ (bel_drew _) | refine bel_trans ?_ (by assumption)))⟩
  · rw [show answ P Q G f b c = gpw P Q G b by simp [answ, h1]]
    go_enter Try.func89, Try.ntmps89
    go_wp2_with (first | (go_at_call 65; refine (s_grTo _ _ _ _ _ _ hP hQ (by omega) (by omega)).mono ?_; rintro e w' ⟨rfl, hb⟩; (first | (have H := gbox1 hb) | (have H := Gx.on gb0 hb; clear gb0 k0 k1 k2)); have gb0 := H; have kk := H; clear H; obtain ⟨k0, k1, k2⟩ := kk))
    go_ret
    exact ⟨rfl, by (repeat (first | exact Below.refl _ _ | assumption | refine bel_trans ?_ (bel_alloc _ _) | refine bel_set ?_ (by first | (dsimp only; omega) | (simp; omega) | simp) _ | refine bel_trans ?_ (bel_drewN _ _) | refine bel_trans ?_ (bel_drew _) | refine bel_trans ?_ (by assumption)))⟩

set_option maxHeartbeats 1000000 in
theorem i_AnswerTo (P Q G f b c : Int) (w : World) (hP : Fits P) (hQ : Fits Q) (hG : Fits G) (hf : Fits f) (hb : Fits b) (hc : Fits c) :
    Calls Try.prog 30 #[.agg #[.int .i64 P, .int .i64 Q, .int .i64 G], .int .i64 f, .int .i64 b, .int .i64 c] w fun e w' => e = .returned (.tuple #[.int .i64 (answerTo P Q G f b c).1, .bool (answerTo P Q G f b c).2]) ∧ Below w.heap.size w w' := by
  unfold answerTo
  cases h1 : firstB P Q G f with
  | false =>
    go_enter Try.func30, Try.ntmps30
    go_wp2_with (first | (go_at_call 86; refine (i_isFirst _ _ _ _ _).mono ?_; rintro e w' ⟨rfl, hb⟩; (first | (have H := gbox1 hb) | (have H := Gx.on gb0 hb; clear gb0 k0 k1 k2)); have gb0 := H; have kk := H; clear H; obtain ⟨k0, k1, k2⟩ := kk) | (go_at_call 61; refine (i_within _ _ _ _).mono ?_; rintro e w' ⟨rfl, rfl⟩) | (go_at_call 79; refine (i_bitB _ _).mono ?_; rintro e w' ⟨rfl, rfl⟩))
    all_goals
      go_ret2
      exact ⟨rfl, by (repeat (first | exact Below.refl _ _ | assumption | refine bel_trans ?_ (bel_alloc _ _) | refine bel_set ?_ (by first | (dsimp only; omega) | (simp; omega) | simp) _ | refine bel_trans ?_ (bel_drewN _ _) | refine bel_trans ?_ (bel_drew _) | refine bel_trans ?_ (by assumption)))⟩
  | true =>
    obtain ⟨hg, hh, hne⟩ := firstB_iff.1 h1
    obtain ⟨hP, hQ, hG⟩ := grB_lo hg
    obtain ⟨f1, f2⟩ := hasB_lo hh
    clear hg hh
    cases h2 : inB b 0 (Q - 1) with
    | false =>
      go_enter Try.func30, Try.ntmps30
      go_wp2_with (first | (go_at_call 86; refine (i_isFirst _ _ _ _ _).mono ?_; rintro e w' ⟨rfl, hb⟩; (first | (have H := gbox1 hb) | (have H := Gx.on gb0 hb; clear gb0 k0 k1 k2)); have gb0 := H; have kk := H; clear H; obtain ⟨k0, k1, k2⟩ := kk) | (go_at_call 61; refine (i_within _ _ _ _).mono ?_; rintro e w' ⟨rfl, rfl⟩) | (go_at_call 79; refine (i_bitB _ _).mono ?_; rintro e w' ⟨rfl, rfl⟩))
      all_goals
        go_ret2
        exact ⟨rfl, by (repeat (first | exact Below.refl _ _ | assumption | refine bel_trans ?_ (bel_alloc _ _) | refine bel_set ?_ (by first | (dsimp only; omega) | (simp; omega) | simp) _ | refine bel_trans ?_ (bel_drewN _ _) | refine bel_trans ?_ (bel_drew _) | refine bel_trans ?_ (by assumption)))⟩
    | true =>
      obtain ⟨b1, b2⟩ := inB_iff.1 h2
      cases h3 : inB c 0 1 with
      | false =>
        go_enter Try.func30, Try.ntmps30
        go_wp2_with (first | (go_at_call 86; refine (i_isFirst _ _ _ _ _).mono ?_; rintro e w' ⟨rfl, hb⟩; (first | (have H := gbox1 hb) | (have H := Gx.on gb0 hb; clear gb0 k0 k1 k2)); have gb0 := H; have kk := H; clear H; obtain ⟨k0, k1, k2⟩ := kk) | (go_at_call 61; refine (i_within _ _ _ _).mono ?_; rintro e w' ⟨rfl, rfl⟩) | (go_at_call 79; refine (i_bitB _ _).mono ?_; rintro e w' ⟨rfl, rfl⟩))
        all_goals
          go_ret2
          exact ⟨rfl, by (repeat (first | exact Below.refl _ _ | assumption | refine bel_trans ?_ (bel_alloc _ _) | refine bel_set ?_ (by first | (dsimp only; omega) | (simp; omega) | simp) _ | refine bel_trans ?_ (bel_drewN _ _) | refine bel_trans ?_ (bel_drew _) | refine bel_trans ?_ (by assumption)))⟩
      | true =>
        go_enter Try.func30, Try.ntmps30
        go_wp2_with (first | (go_at_call 86; refine (i_isFirst _ _ _ _ _).mono ?_; rintro e w' ⟨rfl, hb⟩; (first | (have H := gbox1 hb) | (have H := Gx.on gb0 hb; clear gb0 k0 k1 k2)); have gb0 := H; have kk := H; clear H; obtain ⟨k0, k1, k2⟩ := kk) | (go_at_call 61; refine (i_within _ _ _ _).mono ?_; rintro e w' ⟨rfl, rfl⟩) | (go_at_call 79; refine (i_bitB _ _).mono ?_; rintro e w' ⟨rfl, rfl⟩) | (go_at_call 88; refine (i_answer _ _ _ _ _ _ _ hP hQ (by omega) (by omega) (by omega)).mono ?_; rintro e w' ⟨rfl, hb⟩; (first | (have H := gbox1 hb) | (have H := Gx.on gb0 hb; clear gb0 k0 k1 k2)); have gb0 := H; have kk := H; clear H; obtain ⟨k0, k1, k2⟩ := kk))
        all_goals
          go_ret2
          exact ⟨rfl, by (repeat (first | exact Below.refl _ _ | assumption | refine bel_trans ?_ (bel_alloc _ _) | refine bel_set ?_ (by first | (dsimp only; omega) | (simp; omega) | simp) _ | refine bel_trans ?_ (bel_drewN _ _) | refine bel_trans ?_ (bel_drew _) | refine bel_trans ?_ (by assumption)))⟩

set_option maxHeartbeats 1000000 in
theorem s_AnswerTo (P Q G f b c : Int) (w : World) (hP : Fits P) (hQ : Fits Q) (hG : Fits G) (hf : Fits f) (hb : Fits b) (hc : Fits c) :
    Calls Try.prog 31 #[.agg #[.int .i64 P, .int .i64 Q, .int .i64 G], .int .i64 f, .int .i64 b, .int .i64 c] w fun e w' => e = .returned (.tuple #[.int .i64 (answerTo P Q G f b c).1, .bool (answerTo P Q G f b c).2]) ∧ Below w.heap.size w w' := by
  unfold answerTo
  cases h1 : firstB P Q G f with
  | false =>
    go_enter Try.func31, Try.ntmps31
    go_wp2_with (first | (go_at_call 81; refine (s_otFirst _ _ _ _ _).mono ?_; rintro e w' ⟨rfl, hb⟩; (first | (have H := gbox1 hb) | (have H := Gx.on gb0 hb; clear gb0 k0 k1 k2)); have gb0 := H; have kk := H; clear H; obtain ⟨k0, k1, k2⟩ := kk) | (go_at_call 82; refine (s_otReceiver _ _ _ _ _ (by assumption) (by assumption)).mono ?_; rintro e w' ⟨rfl, hb⟩; (first | (have H := gbox1 hb) | (have H := Gx.on gb0 hb; clear gb0 k0 k1 k2)); have gb0 := H; have kk := H; clear H; obtain ⟨k0, k1, k2⟩ := kk) | (go_at_call 64; refine (s_l1In _ _ _ _).mono ?_; rintro e w' ⟨rfl, rfl⟩))
    all_goals
      go_ret2
      exact ⟨rfl, by (repeat (first | exact Below.refl _ _ | assumption | refine bel_trans ?_ (bel_alloc _ _) | refine bel_set ?_ (by first | (dsimp only; omega) | (simp; omega) | simp) _ | refine bel_trans ?_ (bel_drewN _ _) | refine bel_trans ?_ (bel_drew _) | refine bel_trans ?_ (by assumption)))⟩
  | true =>
    obtain ⟨hg, hh, hne⟩ := firstB_iff.1 h1
    obtain ⟨hP, hQ, hG⟩ := grB_lo hg
    obtain ⟨f1, f2⟩ := hasB_lo hh
    clear hg hh
    cases h2 : inB b 0 (Q - 1) with
    | false =>
      go_enter Try.func31, Try.ntmps31
      go_wp2_with (first | (go_at_call 81; refine (s_otFirst _ _ _ _ _).mono ?_; rintro e w' ⟨rfl, hb⟩; (first | (have H := gbox1 hb) | (have H := Gx.on gb0 hb; clear gb0 k0 k1 k2)); have gb0 := H; have kk := H; clear H; obtain ⟨k0, k1, k2⟩ := kk) | (go_at_call 82; refine (s_otReceiver _ _ _ _ _ (by assumption) (by assumption)).mono ?_; rintro e w' ⟨rfl, hb⟩; (first | (have H := gbox1 hb) | (have H := Gx.on gb0 hb; clear gb0 k0 k1 k2)); have gb0 := H; have kk := H; clear H; obtain ⟨k0, k1, k2⟩ := kk) | (go_at_call 64; refine (s_l1In _ _ _ _).mono ?_; rintro e w' ⟨rfl, rfl⟩))
      all_goals
        go_ret2
        exact ⟨rfl, by (repeat (first | exact Below.refl _ _ | assumption | refine bel_trans ?_ (bel_alloc _ _) | refine bel_set ?_ (by first | (dsimp only; omega) | (simp; omega) | simp) _ | refine bel_trans ?_ (bel_drewN _ _) | refine bel_trans ?_ (bel_drew _) | refine bel_trans ?_ (by assumption)))⟩
    | true =>
      obtain ⟨b1, b2⟩ := inB_iff.1 h2
      cases h3 : inB c 0 1 with
      | false =>
        go_enter Try.func31, Try.ntmps31
        go_wp2_with (first | (go_at_call 81; refine (s_otFirst _ _ _ _ _).mono ?_; rintro e w' ⟨rfl, hb⟩; (first | (have H := gbox1 hb) | (have H := Gx.on gb0 hb; clear gb0 k0 k1 k2)); have gb0 := H; have kk := H; clear H; obtain ⟨k0, k1, k2⟩ := kk) | (go_at_call 82; refine (s_otReceiver _ _ _ _ _ (by assumption) (by assumption)).mono ?_; rintro e w' ⟨rfl, hb⟩; (first | (have H := gbox1 hb) | (have H := Gx.on gb0 hb; clear gb0 k0 k1 k2)); have gb0 := H; have kk := H; clear H; obtain ⟨k0, k1, k2⟩ := kk) | (go_at_call 64; refine (s_l1In _ _ _ _).mono ?_; rintro e w' ⟨rfl, rfl⟩))
        all_goals
          go_ret2
          exact ⟨rfl, by (repeat (first | exact Below.refl _ _ | assumption | refine bel_trans ?_ (bel_alloc _ _) | refine bel_set ?_ (by first | (dsimp only; omega) | (simp; omega) | simp) _ | refine bel_trans ?_ (bel_drewN _ _) | refine bel_trans ?_ (bel_drew _) | refine bel_trans ?_ (by assumption)))⟩
      | true =>
        go_enter Try.func31, Try.ntmps31
        go_wp2_with (first | (go_at_call 81; refine (s_otFirst _ _ _ _ _).mono ?_; rintro e w' ⟨rfl, hb⟩; (first | (have H := gbox1 hb) | (have H := Gx.on gb0 hb; clear gb0 k0 k1 k2)); have gb0 := H; have kk := H; clear H; obtain ⟨k0, k1, k2⟩ := kk) | (go_at_call 82; refine (s_otReceiver _ _ _ _ _ hP hQ).mono ?_; rintro e w' ⟨rfl, hb⟩; (first | (have H := gbox1 hb) | (have H := Gx.on gb0 hb; clear gb0 k0 k1 k2)); have gb0 := H; have kk := H; clear H; obtain ⟨k0, k1, k2⟩ := kk) | (go_at_call 64; refine (s_l1In _ _ _ _).mono ?_; rintro e w' ⟨rfl, rfl⟩) | (go_at_call 89; refine (s_otAnswer _ _ _ _ _ _ _ hP hQ (by omega) (by omega) (by omega)).mono ?_; rintro e w' ⟨rfl, hb⟩; (first | (have H := gbox1 hb) | (have H := Gx.on gb0 hb; clear gb0 k0 k1 k2)); have gb0 := H; have kk := H; clear H; obtain ⟨k0, k1, k2⟩ := kk))
        all_goals
          go_ret2
          exact ⟨rfl, by (repeat (first | exact Below.refl _ _ | assumption | refine bel_trans ?_ (bel_alloc _ _) | refine bel_set ?_ (by first | (dsimp only; omega) | (simp; omega) | simp) _ | refine bel_trans ?_ (bel_drewN _ _) | refine bel_trans ?_ (bel_drew _) | refine bel_trans ?_ (by assumption)))⟩

set_option maxHeartbeats 400000 in
theorem i_pad (x i : Int) (w : World) (hx : 0 ≤ x ∧ x ≤ 1000000) (hi : 0 ≤ i ∧ i ≤ 1000000) :
    Calls Try.prog 93 #[.int .i64 x, .int .i64 i] w fun e w' => e = .returned (.int .i64 (padOf x i)) ∧ Below w.heap.size w w' := by
  have HS : Hid (∀ y ∈ [x, i, 18, 0], Small y) := by
    intro y hy; simp at hy; unfold Small; rcases hy with rfl | rfl | rfl | rfl <;> omega
  obtain ⟨hx1, hx2⟩ := hx; obtain ⟨hi1, hi2⟩ := hi
  go_enter Try.func93, Try.ntmps93
  go_wp2_with fail
  refine (i_digest _ _ _ [x, i, 18, 0] _ (by exact Ints.lit4 rfl (by unfold Fits; omega) (by unfold Fits; omega) (by unfold Fits; omega) (by unfold Fits; omega)) (by omega) HS.out).mono ?_; rintro e w1 ⟨rfl, hb⟩
  go_wp2
  go_ret
  exact ⟨rfl, by (repeat (first | exact Below.refl _ _ | assumption | refine bel_trans ?_ (bel_alloc _ _) | refine bel_set ?_ (by first | (dsimp only; omega) | (simp; omega) | simp) _ | refine bel_trans ?_ (bel_drewN _ _) | refine bel_trans ?_ (bel_drew _) | refine bel_trans ?_ (by assumption)))⟩
set_option maxHeartbeats 400000 in
theorem s_dgLabel (x i y z : Int) (w : World) (hx : Small x) (hi : Small i) (hy : Small y) (hz : Small z) :
    Calls Try.prog 119 #[.int .i64 x, .int .i64 i, .int .i64 y, .int .i64 z] w fun e w' => e = .returned (.int .i64 (dgMix [x, i, y, z])) ∧ Below w.heap.size w w' := by
  have HS : Hid (∀ u ∈ [x, i, y, z], Small u) := by
    intro u hu; simp at hu; rcases hu with rfl | rfl | rfl | rfl <;> assumption
  go_enter Try.func119, Try.ntmps119
  go_wp2_with fail
  refine (s_digest _ _ _ [x, i, y, z] _ (by exact Ints.lit4 rfl hx.fits hi.fits hy.fits hz.fits) (by omega) HS.out).mono ?_; rintro e w1 ⟨rfl, hb⟩
  go_wp2
  go_ret
  exact ⟨rfl, by (repeat (first | exact Below.refl _ _ | assumption | refine bel_trans ?_ (bel_alloc _ _) | refine bel_set ?_ (by first | (dsimp only; omega) | (simp; omega) | simp) _ | refine bel_trans ?_ (bel_drewN _ _) | refine bel_trans ?_ (bel_drew _) | refine bel_trans ?_ (by assumption)))⟩
set_option maxHeartbeats 400000 in
theorem s_otPad (x i : Int) (w : World) (hx : 0 ≤ x ∧ x ≤ 1000000) (hi : 0 ≤ i ∧ i ≤ 1000000) :
    Calls Try.prog 85 #[.int .i64 x, .int .i64 i] w fun e w' => e = .returned (.int .i64 (padOf x i)) ∧ Below w.heap.size w w' := by
  go_enter Try.func85, Try.ntmps85
  go_wp2_with fail
  refine (s_dgLabel _ _ _ _ _ (by unfold Small; omega) (by unfold Small; omega) (by unfold Small; omega) (by unfold Small; omega)).mono ?_; rintro e w1 ⟨rfl, hb⟩
  go_wp2
  go_ret
  exact ⟨rfl, hb⟩

set_option maxHeartbeats 4000000 in
theorem i_pads (P Q G a ans i : Int) (w : World) (hP : 3 ≤ P ∧ P ≤ 2003) (hQ : 2 ≤ Q ∧ Q ≤ 2002) (hG : 0 ≤ G ∧ G ≤ 2002) (ha : 0 ≤ a ∧ a ≤ 1000000) (hans : 0 ≤ ans ∧ ans ≤ 2002) (hi : 0 ≤ i ∧ i ≤ 1000000) :
    Calls Try.prog 94 #[.agg #[.int .i64 P, .int .i64 Q, .int .i64 G], .int .i64 a, .int .i64 ans, .int .i64 i] w fun e w' => e = .returned (.tuple #[.int .i64 (padZ P Q G a ans i), .int .i64 (padO P Q G a ans i)]) ∧ Below w.heap.size w w' := by
  have hP0 := hP; have hQ0 := hQ
  obtain ⟨hP1, hP2⟩ := hP; obtain ⟨hQ1, hQ2⟩ := hQ
  obtain ⟨ha1, ha2⟩ := ha; obtain ⟨hG1, hG2⟩ := hG; obtain ⟨hs1, hs2⟩ := hans; obtain ⟨hi1, hi2⟩ := hi
  obtain ⟨g1, g2⟩ := gpw_bd P Q G a (by omega)
  obtain ⟨g3, g4⟩ := gpw_bd P Q (gpw P Q G a) (-1) (by omega)
  obtain ⟨g5, g6⟩ := gpw_bd P Q ans a (by omega)
  obtain ⟨q1, q2⟩ := mul_bd (a := ans) (b := gpw P Q (gpw P Q G a) (-1)) 2003 2003 (by omega) (by omega) (by omega) (by omega)
  have e1 : IntKind.i64.wrap (ans * gpw P Q (gpw P Q G a) (-1)) = ans * gpw P Q (gpw P Q G a) (-1) := IntWalk.i64_in _ (by omega)
  have e2 : (ans * gpw P Q (gpw P Q G a) (-1)).tmod P = otherOf P Q G a ans := IntWalk.rem_in _ _ (by omega)
  have o12 := emod_bd (n := ans * gpw P Q (gpw P Q G a) (-1)) (p := P) (by omega)
  have o3 : 0 ≤ otherOf P Q G a ans ∧ otherOf P Q G a ans < P := o12
  obtain ⟨o1, o2⟩ := o3; clear o12
  obtain ⟨g7, g8⟩ := gpw_bd P Q (otherOf P Q G a ans) a (by omega)
  have hp0 : ¬ P = 0 := by omega
  have g0 := Gx.new (w := w) (P := P) (Q := Q) (G := G) (t := 24)
  go_enter Try.func94, Try.ntmps94
  go_wp2
  go_region_held3 (fun W => W.cell? ⟨w.heap.size, 0, none⟩ = some (.int .i64 P) ∧ W.cell? ⟨w.heap.size, 1, none⟩ = some (.int .i64 Q) ∧ W.cell? ⟨w.heap.size, 2, none⟩ = some (.int .i64 G)) (exact Gx.on g0 (by (repeat (first | exact Below.refl _ _ | assumption | refine bel_trans ?_ (bel_alloc _ _) | refine bel_set ?_ (by first | (dsimp only; omega) | (simp; omega) | simp) _ | refine bel_trans ?_ (bel_drewN _ _) | refine bel_trans ?_ (bel_drew _) | refine bel_trans ?_ (by assumption))))) (first | (go_at_call 62; refine (i_gpower _ _ _ _ _ _ hP0 hQ0 (by omega) (by omega)).mono ?_; rintro e w' ⟨rfl, hb⟩) | (go_at_call 71; refine (i_ginverse _ _ _ _ _ hP0 hQ0 (by omega)).mono ?_; rintro e w' ⟨rfl, hb⟩))
  go_wp2
  go_region_held3 (fun W => W.cell? ⟨w.heap.size, 0, none⟩ = some (.int .i64 P) ∧ W.cell? ⟨w.heap.size, 1, none⟩ = some (.int .i64 Q) ∧ W.cell? ⟨w.heap.size, 2, none⟩ = some (.int .i64 G)) (exact Gx.on g0 (by (repeat (first | exact Below.refl _ _ | assumption | refine bel_trans ?_ (bel_alloc _ _) | refine bel_set ?_ (by first | (dsimp only; omega) | (simp; omega) | simp) _ | refine bel_trans ?_ (bel_drewN _ _) | refine bel_trans ?_ (bel_drew _) | refine bel_trans ?_ (by assumption))))) (first | (go_at_call 62; refine (i_gpower _ _ _ _ _ _ hP0 hQ0 (by omega) (by omega)).mono ?_; rintro e w' ⟨rfl, hb⟩) | (go_at_call 93; refine (i_pad _ _ _ (by omega) (by omega)).mono ?_; rintro e w' ⟨rfl, hb⟩))
  all_goals
    go_wp2
    go_ret2
    exact ⟨rfl, by (repeat (first | exact Below.refl _ _ | assumption | refine bel_trans ?_ (bel_alloc _ _) | refine bel_set ?_ (by first | (dsimp only; omega) | (simp; omega) | simp) _ | refine bel_trans ?_ (bel_drewN _ _) | refine bel_trans ?_ (bel_drew _) | refine bel_trans ?_ (by assumption)))⟩

set_option maxHeartbeats 4000000 in
theorem s_otPads (P Q G a ans i : Int) (w : World) (hP : 3 ≤ P ∧ P ≤ 2003) (hQ : 2 ≤ Q ∧ Q ≤ 2002) (hG : 0 ≤ G ∧ G ≤ 2002) (ha : 0 ≤ a ∧ a ≤ 1000000) (hans : 0 ≤ ans ∧ ans ≤ 2002) (hi : 0 ≤ i ∧ i ≤ 1000000) :
    Calls Try.prog 111 #[.agg #[.int .i64 P, .int .i64 Q, .int .i64 G], .int .i64 a, .int .i64 ans, .int .i64 i] w fun e w' => e = .returned (.tuple #[.int .i64 (padZ P Q G a ans i), .int .i64 (padO P Q G a ans i)]) ∧ Below w.heap.size w w' := by
  have hP0 := hP; have hQ0 := hQ
  obtain ⟨hP1, hP2⟩ := hP; obtain ⟨hQ1, hQ2⟩ := hQ
  obtain ⟨ha1, ha2⟩ := ha; obtain ⟨hG1, hG2⟩ := hG; obtain ⟨hs1, hs2⟩ := hans; obtain ⟨hi1, hi2⟩ := hi
  obtain ⟨g1, g2⟩ := gpw_bd P Q G a (by omega)
  obtain ⟨g3, g4⟩ := gpw_bd P Q (gpw P Q G a) (-1) (by omega)
  obtain ⟨g5, g6⟩ := gpw_bd P Q ans a (by omega)
  obtain ⟨q1, q2⟩ := mul_bd (a := ans) (b := gpw P Q (gpw P Q G a) (-1)) 2003 2003 (by omega) (by omega) (by omega) (by omega)
  have e1 : IntKind.i64.wrap (ans * gpw P Q (gpw P Q G a) (-1)) = ans * gpw P Q (gpw P Q G a) (-1) := IntWalk.i64_in _ (by omega)
  have e2 : (ans * gpw P Q (gpw P Q G a) (-1)).tmod P = otherOf P Q G a ans := IntWalk.rem_in _ _ (by omega)
  have o12 := emod_bd (n := ans * gpw P Q (gpw P Q G a) (-1)) (p := P) (by omega)
  have o3 : 0 ≤ otherOf P Q G a ans ∧ otherOf P Q G a ans < P := o12
  obtain ⟨o1, o2⟩ := o3; clear o12
  obtain ⟨g7, g8⟩ := gpw_bd P Q (otherOf P Q G a ans) a (by omega)
  have hp0 : ¬ P = 0 := by omega
  have g0 := Gx.new (w := w) (P := P) (Q := Q) (G := G) (t := 24)
  go_enter Try.func111, Try.ntmps111
  go_wp2_with fail
  refine (s_grTo _ _ _ _ _ _ hP0 hQ0 (by omega) (by omega)).mono ?_; rintro e w' ⟨rfl, hb⟩
  have kk := gbox1 hb
  obtain ⟨k0, k1, k2⟩ := kk
  go_wp2
  go_region_held3 (fun W => W.cell? ⟨w.heap.size, 0, none⟩ = some (.int .i64 P) ∧ W.cell? ⟨w.heap.size, 1, none⟩ = some (.int .i64 Q) ∧ W.cell? ⟨w.heap.size, 2, none⟩ = some (.int .i64 G)) (exact Gx.on g0 (by (repeat (first | exact Below.refl _ _ | assumption | refine bel_trans ?_ (bel_alloc _ _) | refine bel_set ?_ (by first | (dsimp only; omega) | (simp; omega) | simp) _ | refine bel_trans ?_ (bel_drewN _ _) | refine bel_trans ?_ (bel_drew _) | refine bel_trans ?_ (by assumption))))) (first | (go_at_call 65; refine (s_grTo _ _ _ _ _ _ hP0 hQ0 (by omega) (by omega)).mono ?_; rintro e w' ⟨rfl, hb⟩))
  go_wp2
  go_region_held3 (fun W => W.cell? ⟨w.heap.size, 0, none⟩ = some (.int .i64 P) ∧ W.cell? ⟨w.heap.size, 1, none⟩ = some (.int .i64 Q) ∧ W.cell? ⟨w.heap.size, 2, none⟩ = some (.int .i64 G)) (exact Gx.on g0 (by (repeat (first | exact Below.refl _ _ | assumption | refine bel_trans ?_ (bel_alloc _ _) | refine bel_set ?_ (by first | (dsimp only; omega) | (simp; omega) | simp) _ | refine bel_trans ?_ (bel_drewN _ _) | refine bel_trans ?_ (bel_drew _) | refine bel_trans ?_ (by assumption))))) (first | (go_at_call 65; refine (s_grTo _ _ _ _ _ _ hP0 hQ0 (by omega) (by omega)).mono ?_; rintro e w' ⟨rfl, hb⟩) | (go_at_call 85; refine (s_otPad _ _ _ (by omega) (by omega)).mono ?_; rintro e w' ⟨rfl, hb⟩))
  all_goals
    go_wp2
    go_ret2
    exact ⟨rfl, by (repeat (first | exact Below.refl _ _ | assumption | refine bel_trans ?_ (bel_alloc _ _) | refine bel_set ?_ (by first | (dsimp only; omega) | (simp; omega) | simp) _ | refine bel_trans ?_ (bel_drewN _ _) | refine bel_trans ?_ (bel_drew _) | refine bel_trans ?_ (by assumption)))⟩

set_option maxHeartbeats 1000000 in
theorem s_otAsked (P Q G a ans i : Int) (w : World) :
    Calls Try.prog 110 #[.agg #[.int .i64 P, .int .i64 Q, .int .i64 G], .int .i64 a, .int .i64 ans, .int .i64 i] w fun e w' => e = .returned (.bool (padsB P Q G a ans i)) ∧ Below w.heap.size w w' := by
  unfold padsB
  cases h1 : grB P Q G with
  | false =>
    go_enter Try.func110, Try.ntmps110
    go_wp2_with (first | (go_at_call 91; refine (s_otSender _ _ _ _ _).mono ?_; rintro e w' ⟨rfl, hb⟩; (first | (have H := gbox1 hb) | (have H := Gx.on gb0 hb; clear gb0 k0 k1 k2)); have gb0 := H; have kk := H; clear H; obtain ⟨k0, k1, k2⟩ := kk))
    all_goals
      go_ret
      exact ⟨rfl, by (repeat (first | exact Below.refl _ _ | assumption | refine bel_trans ?_ (bel_alloc _ _) | refine bel_set ?_ (by first | (dsimp only; omega) | (simp; omega) | simp) _ | refine bel_trans ?_ (bel_drewN _ _) | refine bel_trans ?_ (bel_drew _) | refine bel_trans ?_ (by assumption)))⟩
  | true =>
    obtain ⟨hP, hQ, hG⟩ := grB_lo h1
    cases h3 : inB a 1 (Q - 1) with
    | false =>
      go_enter Try.func110, Try.ntmps110
      go_wp2_with (first | (go_at_call 91; refine (s_otSender _ _ _ _ _).mono ?_; rintro e w' ⟨rfl, hb⟩; (first | (have H := gbox1 hb) | (have H := Gx.on gb0 hb; clear gb0 k0 k1 k2)); have gb0 := H; have kk := H; clear H; obtain ⟨k0, k1, k2⟩ := kk))
      all_goals
        go_ret
        exact ⟨by cases hasB P Q ans <;> rfl, by (repeat (first | exact Below.refl _ _ | assumption | refine bel_trans ?_ (bel_alloc _ _) | refine bel_set ?_ (by first | (dsimp only; omega) | (simp; omega) | simp) _ | refine bel_trans ?_ (bel_drewN _ _) | refine bel_trans ?_ (bel_drew _) | refine bel_trans ?_ (by assumption)))⟩
    | true =>
      cases h2 : hasB P Q ans with
      | false =>
        go_enter Try.func110, Try.ntmps110
        go_wp2_with (first | (go_at_call 91; refine (s_otSender _ _ _ _ _).mono ?_; rintro e w' ⟨rfl, hb⟩; (first | (have H := gbox1 hb) | (have H := Gx.on gb0 hb; clear gb0 k0 k1 k2)); have gb0 := H; have kk := H; clear H; obtain ⟨k0, k1, k2⟩ := kk) | (go_at_call 69; refine (s_grHas _ _ _ _ _ hP hQ).mono ?_; rintro e w' ⟨rfl, hb⟩; (first | (have H := gbox1 hb) | (have H := Gx.on gb0 hb; clear gb0 k0 k1 k2)); have gb0 := H; have kk := H; clear H; obtain ⟨k0, k1, k2⟩ := kk) | (go_at_call 83; refine (s_otNumber _ _).mono ?_; rintro e w' ⟨rfl, rfl⟩))
        all_goals
          go_ret
          exact ⟨rfl, by (repeat (first | exact Below.refl _ _ | assumption | refine bel_trans ?_ (bel_alloc _ _) | refine bel_set ?_ (by first | (dsimp only; omega) | (simp; omega) | simp) _ | refine bel_trans ?_ (bel_drewN _ _) | refine bel_trans ?_ (bel_drew _) | refine bel_trans ?_ (by assumption)))⟩
      | true =>
        cases h4 : inB i 0 39 with
        | false =>
          go_enter Try.func110, Try.ntmps110
          go_wp2_with (first | (go_at_call 91; refine (s_otSender _ _ _ _ _).mono ?_; rintro e w' ⟨rfl, hb⟩; (first | (have H := gbox1 hb) | (have H := Gx.on gb0 hb; clear gb0 k0 k1 k2)); have gb0 := H; have kk := H; clear H; obtain ⟨k0, k1, k2⟩ := kk) | (go_at_call 69; refine (s_grHas _ _ _ _ _ hP hQ).mono ?_; rintro e w' ⟨rfl, hb⟩; (first | (have H := gbox1 hb) | (have H := Gx.on gb0 hb; clear gb0 k0 k1 k2)); have gb0 := H; have kk := H; clear H; obtain ⟨k0, k1, k2⟩ := kk) | (go_at_call 83; refine (s_otNumber _ _).mono ?_; rintro e w' ⟨rfl, rfl⟩))
          all_goals
            go_ret
            exact ⟨rfl, by (repeat (first | exact Below.refl _ _ | assumption | refine bel_trans ?_ (bel_alloc _ _) | refine bel_set ?_ (by first | (dsimp only; omega) | (simp; omega) | simp) _ | refine bel_trans ?_ (bel_drewN _ _) | refine bel_trans ?_ (bel_drew _) | refine bel_trans ?_ (by assumption)))⟩
        | true =>
          go_enter Try.func110, Try.ntmps110
          go_wp2_with (first | (go_at_call 91; refine (s_otSender _ _ _ _ _).mono ?_; rintro e w' ⟨rfl, hb⟩; (first | (have H := gbox1 hb) | (have H := Gx.on gb0 hb; clear gb0 k0 k1 k2)); have gb0 := H; have kk := H; clear H; obtain ⟨k0, k1, k2⟩ := kk) | (go_at_call 69; refine (s_grHas _ _ _ _ _ hP hQ).mono ?_; rintro e w' ⟨rfl, hb⟩; (first | (have H := gbox1 hb) | (have H := Gx.on gb0 hb; clear gb0 k0 k1 k2)); have gb0 := H; have kk := H; clear H; obtain ⟨k0, k1, k2⟩ := kk) | (go_at_call 83; refine (s_otNumber _ _).mono ?_; rintro e w' ⟨rfl, rfl⟩))
          all_goals
            go_ret
            exact ⟨rfl, by (repeat (first | exact Below.refl _ _ | assumption | refine bel_trans ?_ (bel_alloc _ _) | refine bel_set ?_ (by first | (dsimp only; omega) | (simp; omega) | simp) _ | refine bel_trans ?_ (bel_drewN _ _) | refine bel_trans ?_ (bel_drew _) | refine bel_trans ?_ (by assumption)))⟩
theorem padsB_iff {P Q G a ans i : Int} : padsB P Q G a ans i = true ↔ grB P Q G = true ∧ hasB P Q ans = true ∧ inB a 1 (Q - 1) = true ∧ inB i 0 39 = true := by
  unfold padsB; simp only [Bool.and_eq_true]
theorem padsOf_t {P Q G a ans i : Int} (h : padsB P Q G a ans i = true) : padsOf P Q G a ans i = (padZ P Q G a ans i, padO P Q G a ans i, true) := by simp [padsOf, h]
theorem padsOf_f {P Q G a ans i : Int} (h : padsB P Q G a ans i = false) : padsOf P Q G a ans i = (0, 0, false) := by simp [padsOf, h]
def chB (P Q G f b i : Int) : Bool := firstB P Q G f && (inB b 0 (Q - 1) && inB i 0 39)
theorem chosenPad_t {P Q G f b i : Int} (h : chB P Q G f b i = true) : chosenPad P Q G f b i = (padOf (gpw P Q f b) i, true) := by unfold chB at h; simp [chosenPad, h]
theorem chosenPad_f {P Q G f b i : Int} (h : chB P Q G f b i = false) : chosenPad P Q G f b i = (0, false) := by unfold chB at h; simp [chosenPad, h]
set_option maxHeartbeats 1000000 in
theorem i_PadsOf (P Q G a ans i : Int) (w : World) (hP : Fits P) (hQ : Fits Q) (hG : Fits G) (ha : Fits a) (hans : Fits ans) (hi : Fits i) :
    Calls Try.prog 34 #[.agg #[.int .i64 P, .int .i64 Q, .int .i64 G], .int .i64 a, .int .i64 ans, .int .i64 i] w fun e w' => e = .returned (.tuple #[.int .i64 (padsOf P Q G a ans i).1, .int .i64 (padsOf P Q G a ans i).2.1, .bool (padsOf P Q G a ans i).2.2]) ∧ Below w.heap.size w w' := by
  unfold padsOf
  unfold padsB
  cases h1 : grB P Q G with
  | false =>
    go_enter Try.func34, Try.ntmps34
    go_wp2_with (first | (go_at_call 70; refine (i_inGroup _ _ _ _ _).mono ?_; rintro e w' ⟨rfl, hb⟩; (first | (have H := gbox1 hb) | (have H := Gx.on gb0 hb; clear gb0 k0 k1 k2)); have gb0 := H; have kk := H; clear H; obtain ⟨k0, k1, k2⟩ := kk) | (go_at_call 90; refine (i_isSecret _ _ _ _ _ (by assumption) (by assumption)).mono ?_; rintro e w' ⟨rfl, hb⟩; (first | (have H := gbox1 hb) | (have H := Gx.on gb0 hb; clear gb0 k0 k1 k2)); have gb0 := H; have kk := H; clear H; obtain ⟨k0, k1, k2⟩ := kk) | (go_at_call 92; refine (i_isOffer _ _).mono ?_; rintro e w' ⟨rfl, rfl⟩))
    all_goals
      go_ret3
      exact ⟨rfl, by (repeat (first | exact Below.refl _ _ | assumption | refine bel_trans ?_ (bel_alloc _ _) | refine bel_set ?_ (by first | (dsimp only; omega) | (simp; omega) | simp) _ | refine bel_trans ?_ (bel_drewN _ _) | refine bel_trans ?_ (bel_drew _) | refine bel_trans ?_ (by assumption)))⟩
  | true =>
    obtain ⟨hP, hQ, hG⟩ := grB_lo h1
    cases h2 : hasB P Q ans with
    | false =>
      go_enter Try.func34, Try.ntmps34
      go_wp2_with (first | (go_at_call 70; refine (i_inGroup _ _ _ _ _).mono ?_; rintro e w' ⟨rfl, hb⟩; (first | (have H := gbox1 hb) | (have H := Gx.on gb0 hb; clear gb0 k0 k1 k2)); have gb0 := H; have kk := H; clear H; obtain ⟨k0, k1, k2⟩ := kk) | (go_at_call 90; refine (i_isSecret _ _ _ _ _ (by assumption) (by assumption)).mono ?_; rintro e w' ⟨rfl, hb⟩; (first | (have H := gbox1 hb) | (have H := Gx.on gb0 hb; clear gb0 k0 k1 k2)); have gb0 := H; have kk := H; clear H; obtain ⟨k0, k1, k2⟩ := kk) | (go_at_call 92; refine (i_isOffer _ _).mono ?_; rintro e w' ⟨rfl, rfl⟩))
      all_goals
        go_ret3
        exact ⟨rfl, by (repeat (first | exact Below.refl _ _ | assumption | refine bel_trans ?_ (bel_alloc _ _) | refine bel_set ?_ (by first | (dsimp only; omega) | (simp; omega) | simp) _ | refine bel_trans ?_ (bel_drewN _ _) | refine bel_trans ?_ (bel_drew _) | refine bel_trans ?_ (by assumption)))⟩
    | true =>
      obtain ⟨f1, f2⟩ := hasB_lo h2
      cases h3 : inB a 1 (Q - 1) with
      | false =>
        go_enter Try.func34, Try.ntmps34
        go_wp2_with (first | (go_at_call 70; refine (i_inGroup _ _ _ _ _).mono ?_; rintro e w' ⟨rfl, hb⟩; (first | (have H := gbox1 hb) | (have H := Gx.on gb0 hb; clear gb0 k0 k1 k2)); have gb0 := H; have kk := H; clear H; obtain ⟨k0, k1, k2⟩ := kk) | (go_at_call 90; refine (i_isSecret _ _ _ _ _ (by assumption) (by assumption)).mono ?_; rintro e w' ⟨rfl, hb⟩; (first | (have H := gbox1 hb) | (have H := Gx.on gb0 hb; clear gb0 k0 k1 k2)); have gb0 := H; have kk := H; clear H; obtain ⟨k0, k1, k2⟩ := kk) | (go_at_call 92; refine (i_isOffer _ _).mono ?_; rintro e w' ⟨rfl, rfl⟩))
        all_goals
          go_ret3
          exact ⟨rfl, by (repeat (first | exact Below.refl _ _ | assumption | refine bel_trans ?_ (bel_alloc _ _) | refine bel_set ?_ (by first | (dsimp only; omega) | (simp; omega) | simp) _ | refine bel_trans ?_ (bel_drewN _ _) | refine bel_trans ?_ (bel_drew _) | refine bel_trans ?_ (by assumption)))⟩
      | true =>
        obtain ⟨a1, a2⟩ := inB_iff.1 h3
        cases h4 : inB i 0 39 with
        | false =>
          go_enter Try.func34, Try.ntmps34
          go_wp2_with (first | (go_at_call 70; refine (i_inGroup _ _ _ _ _).mono ?_; rintro e w' ⟨rfl, hb⟩; (first | (have H := gbox1 hb) | (have H := Gx.on gb0 hb; clear gb0 k0 k1 k2)); have gb0 := H; have kk := H; clear H; obtain ⟨k0, k1, k2⟩ := kk) | (go_at_call 90; refine (i_isSecret _ _ _ _ _ (by assumption) (by assumption)).mono ?_; rintro e w' ⟨rfl, hb⟩; (first | (have H := gbox1 hb) | (have H := Gx.on gb0 hb; clear gb0 k0 k1 k2)); have gb0 := H; have kk := H; clear H; obtain ⟨k0, k1, k2⟩ := kk) | (go_at_call 92; refine (i_isOffer _ _).mono ?_; rintro e w' ⟨rfl, rfl⟩))
          all_goals
            go_ret3
            exact ⟨rfl, by (repeat (first | exact Below.refl _ _ | assumption | refine bel_trans ?_ (bel_alloc _ _) | refine bel_set ?_ (by first | (dsimp only; omega) | (simp; omega) | simp) _ | refine bel_trans ?_ (bel_drewN _ _) | refine bel_trans ?_ (bel_drew _) | refine bel_trans ?_ (by assumption)))⟩
        | true =>
          obtain ⟨i1, i2⟩ := inB_iff.1 h4
          go_enter Try.func34, Try.ntmps34
          go_wp2_with (first | (go_at_call 70; refine (i_inGroup _ _ _ _ _).mono ?_; rintro e w' ⟨rfl, hb⟩; (first | (have H := gbox1 hb) | (have H := Gx.on gb0 hb; clear gb0 k0 k1 k2)); have gb0 := H; have kk := H; clear H; obtain ⟨k0, k1, k2⟩ := kk) | (go_at_call 90; refine (i_isSecret _ _ _ _ _ (by assumption) (by assumption)).mono ?_; rintro e w' ⟨rfl, hb⟩; (first | (have H := gbox1 hb) | (have H := Gx.on gb0 hb; clear gb0 k0 k1 k2)); have gb0 := H; have kk := H; clear H; obtain ⟨k0, k1, k2⟩ := kk) | (go_at_call 92; refine (i_isOffer _ _).mono ?_; rintro e w' ⟨rfl, rfl⟩) | (go_at_call 94; refine (i_pads _ _ _ _ _ _ _ hP hQ (by omega) (by omega) (by omega) (by omega)).mono ?_; rintro e w' ⟨rfl, hb⟩; (first | (have H := gbox1 hb) | (have H := Gx.on gb0 hb; clear gb0 k0 k1 k2)); have gb0 := H; have kk := H; clear H; obtain ⟨k0, k1, k2⟩ := kk))
          all_goals
            go_ret3
            exact ⟨rfl, by (repeat (first | exact Below.refl _ _ | assumption | refine bel_trans ?_ (bel_alloc _ _) | refine bel_set ?_ (by first | (dsimp only; omega) | (simp; omega) | simp) _ | refine bel_trans ?_ (bel_drewN _ _) | refine bel_trans ?_ (bel_drew _) | refine bel_trans ?_ (by assumption)))⟩

set_option maxHeartbeats 1000000 in
theorem i_ChosenPad (P Q G f b i : Int) (w : World) (hP : Fits P) (hQ : Fits Q) (hG : Fits G) (hf : Fits f) (hb : Fits b) (hi : Fits i) :
    Calls Try.prog 33 #[.agg #[.int .i64 P, .int .i64 Q, .int .i64 G], .int .i64 f, .int .i64 b, .int .i64 i] w fun e w' => e = .returned (.tuple #[.int .i64 (chosenPad P Q G f b i).1, .bool (chosenPad P Q G f b i).2]) ∧ Below w.heap.size w w' := by
  unfold chosenPad
  cases h1 : firstB P Q G f with
  | false =>
    go_enter Try.func33, Try.ntmps33
    go_wp2_with (first | (go_at_call 86; refine (i_isFirst _ _ _ _ _).mono ?_; rintro e w' ⟨rfl, hb⟩; (first | (have H := gbox1 hb) | (have H := Gx.on gb0 hb; clear gb0 k0 k1 k2)); have gb0 := H; have kk := H; clear H; obtain ⟨k0, k1, k2⟩ := kk) | (go_at_call 61; refine (i_within _ _ _ _).mono ?_; rintro e w' ⟨rfl, rfl⟩) | (go_at_call 92; refine (i_isOffer _ _).mono ?_; rintro e w' ⟨rfl, rfl⟩))
    all_goals
      go_ret2
      exact ⟨rfl, by (repeat (first | exact Below.refl _ _ | assumption | refine bel_trans ?_ (bel_alloc _ _) | refine bel_set ?_ (by first | (dsimp only; omega) | (simp; omega) | simp) _ | refine bel_trans ?_ (bel_drewN _ _) | refine bel_trans ?_ (bel_drew _) | refine bel_trans ?_ (by assumption)))⟩
  | true =>
    obtain ⟨hg, hh, hne⟩ := firstB_iff.1 h1
    obtain ⟨hP, hQ, hG⟩ := grB_lo hg
    obtain ⟨f1, f2⟩ := hasB_lo hh
    clear hg hh
    cases h2 : inB b 0 (Q - 1) with
    | false =>
      go_enter Try.func33, Try.ntmps33
      go_wp2_with (first | (go_at_call 86; refine (i_isFirst _ _ _ _ _).mono ?_; rintro e w' ⟨rfl, hb⟩; (first | (have H := gbox1 hb) | (have H := Gx.on gb0 hb; clear gb0 k0 k1 k2)); have gb0 := H; have kk := H; clear H; obtain ⟨k0, k1, k2⟩ := kk) | (go_at_call 61; refine (i_within _ _ _ _).mono ?_; rintro e w' ⟨rfl, rfl⟩) | (go_at_call 92; refine (i_isOffer _ _).mono ?_; rintro e w' ⟨rfl, rfl⟩))
      all_goals
        go_ret2
        exact ⟨rfl, by (repeat (first | exact Below.refl _ _ | assumption | refine bel_trans ?_ (bel_alloc _ _) | refine bel_set ?_ (by first | (dsimp only; omega) | (simp; omega) | simp) _ | refine bel_trans ?_ (bel_drewN _ _) | refine bel_trans ?_ (bel_drew _) | refine bel_trans ?_ (by assumption)))⟩
    | true =>
      obtain ⟨b1, b2⟩ := inB_iff.1 h2
      cases h3 : inB i 0 39 with
      | false =>
        go_enter Try.func33, Try.ntmps33
        go_wp2_with (first | (go_at_call 86; refine (i_isFirst _ _ _ _ _).mono ?_; rintro e w' ⟨rfl, hb⟩; (first | (have H := gbox1 hb) | (have H := Gx.on gb0 hb; clear gb0 k0 k1 k2)); have gb0 := H; have kk := H; clear H; obtain ⟨k0, k1, k2⟩ := kk) | (go_at_call 61; refine (i_within _ _ _ _).mono ?_; rintro e w' ⟨rfl, rfl⟩) | (go_at_call 92; refine (i_isOffer _ _).mono ?_; rintro e w' ⟨rfl, rfl⟩))
        all_goals
          go_ret2
          exact ⟨rfl, by (repeat (first | exact Below.refl _ _ | assumption | refine bel_trans ?_ (bel_alloc _ _) | refine bel_set ?_ (by first | (dsimp only; omega) | (simp; omega) | simp) _ | refine bel_trans ?_ (bel_drewN _ _) | refine bel_trans ?_ (bel_drew _) | refine bel_trans ?_ (by assumption)))⟩
      | true =>
        obtain ⟨i1, i2⟩ := inB_iff.1 h3
        obtain ⟨p1, p2⟩ := gpw_bd P Q f b (by omega)
        go_enter Try.func33, Try.ntmps33
        go_wp2_with (first | (go_at_call 86; refine (i_isFirst _ _ _ _ _).mono ?_; rintro e w' ⟨rfl, hb⟩; (first | (have H := gbox1 hb) | (have H := Gx.on gb0 hb; clear gb0 k0 k1 k2)); have gb0 := H; have kk := H; clear H; obtain ⟨k0, k1, k2⟩ := kk) | (go_at_call 61; refine (i_within _ _ _ _).mono ?_; rintro e w' ⟨rfl, rfl⟩) | (go_at_call 92; refine (i_isOffer _ _).mono ?_; rintro e w' ⟨rfl, rfl⟩) | (go_at_call 62; refine (i_gpower _ _ _ _ _ _ hP hQ (by omega) (by omega)).mono ?_; rintro e w' ⟨rfl, hb⟩; (first | (have H := gbox1 hb) | (have H := Gx.on gb0 hb; clear gb0 k0 k1 k2)); have gb0 := H; have kk := H; clear H; obtain ⟨k0, k1, k2⟩ := kk) | (go_at_call 93; refine (i_pad _ _ _ (by omega) (by omega)).mono ?_; rintro e w' ⟨rfl, hb⟩))
        all_goals
          go_ret2
          exact ⟨rfl, by (repeat (first | exact Below.refl _ _ | assumption | refine bel_trans ?_ (bel_alloc _ _) | refine bel_set ?_ (by first | (dsimp only; omega) | (simp; omega) | simp) _ | refine bel_trans ?_ (bel_drewN _ _) | refine bel_trans ?_ (bel_drew _) | refine bel_trans ?_ (by assumption)))⟩

set_option maxHeartbeats 1000000 in
theorem s_ChosenPad (P Q G f b i : Int) (w : World) (hP : Fits P) (hQ : Fits Q) (hG : Fits G) (hf : Fits f) (hb : Fits b) (hi : Fits i) :
    Calls Try.prog 57 #[.agg #[.int .i64 P, .int .i64 Q, .int .i64 G], .int .i64 f, .int .i64 b, .int .i64 i] w fun e w' => e = .returned (.tuple #[.int .i64 (chosenPad P Q G f b i).1, .bool (chosenPad P Q G f b i).2]) ∧ Below w.heap.size w w' := by
  unfold chosenPad
  cases h1 : firstB P Q G f with
  | false =>
    go_enter Try.func57, Try.ntmps57
    go_wp2_with (first | (go_at_call 81; refine (s_otFirst _ _ _ _ _).mono ?_; rintro e w' ⟨rfl, hb⟩; (first | (have H := gbox1 hb) | (have H := Gx.on gb0 hb; clear gb0 k0 k1 k2)); have gb0 := H; have kk := H; clear H; obtain ⟨k0, k1, k2⟩ := kk) | (go_at_call 82; refine (s_otReceiver _ _ _ _ _ (by assumption) (by assumption)).mono ?_; rintro e w' ⟨rfl, hb⟩; (first | (have H := gbox1 hb) | (have H := Gx.on gb0 hb; clear gb0 k0 k1 k2)); have gb0 := H; have kk := H; clear H; obtain ⟨k0, k1, k2⟩ := kk) | (go_at_call 83; refine (s_otNumber _ _).mono ?_; rintro e w' ⟨rfl, rfl⟩))
    all_goals
      go_ret2
      exact ⟨rfl, by (repeat (first | exact Below.refl _ _ | assumption | refine bel_trans ?_ (bel_alloc _ _) | refine bel_set ?_ (by first | (dsimp only; omega) | (simp; omega) | simp) _ | refine bel_trans ?_ (bel_drewN _ _) | refine bel_trans ?_ (bel_drew _) | refine bel_trans ?_ (by assumption)))⟩
  | true =>
    obtain ⟨hg, hh, hne⟩ := firstB_iff.1 h1
    obtain ⟨hP, hQ, hG⟩ := grB_lo hg
    obtain ⟨f1, f2⟩ := hasB_lo hh
    clear hg hh
    cases h2 : inB b 0 (Q - 1) with
    | false =>
      go_enter Try.func57, Try.ntmps57
      go_wp2_with (first | (go_at_call 81; refine (s_otFirst _ _ _ _ _).mono ?_; rintro e w' ⟨rfl, hb⟩; (first | (have H := gbox1 hb) | (have H := Gx.on gb0 hb; clear gb0 k0 k1 k2)); have gb0 := H; have kk := H; clear H; obtain ⟨k0, k1, k2⟩ := kk) | (go_at_call 82; refine (s_otReceiver _ _ _ _ _ (by assumption) (by assumption)).mono ?_; rintro e w' ⟨rfl, hb⟩; (first | (have H := gbox1 hb) | (have H := Gx.on gb0 hb; clear gb0 k0 k1 k2)); have gb0 := H; have kk := H; clear H; obtain ⟨k0, k1, k2⟩ := kk) | (go_at_call 83; refine (s_otNumber _ _).mono ?_; rintro e w' ⟨rfl, rfl⟩))
      all_goals
        go_ret2
        exact ⟨rfl, by (repeat (first | exact Below.refl _ _ | assumption | refine bel_trans ?_ (bel_alloc _ _) | refine bel_set ?_ (by first | (dsimp only; omega) | (simp; omega) | simp) _ | refine bel_trans ?_ (bel_drewN _ _) | refine bel_trans ?_ (bel_drew _) | refine bel_trans ?_ (by assumption)))⟩
    | true =>
      obtain ⟨b1, b2⟩ := inB_iff.1 h2
      cases h3 : inB i 0 39 with
      | false =>
        go_enter Try.func57, Try.ntmps57
        go_wp2_with (first | (go_at_call 81; refine (s_otFirst _ _ _ _ _).mono ?_; rintro e w' ⟨rfl, hb⟩; (first | (have H := gbox1 hb) | (have H := Gx.on gb0 hb; clear gb0 k0 k1 k2)); have gb0 := H; have kk := H; clear H; obtain ⟨k0, k1, k2⟩ := kk) | (go_at_call 82; refine (s_otReceiver _ _ _ _ _ (by assumption) (by assumption)).mono ?_; rintro e w' ⟨rfl, hb⟩; (first | (have H := gbox1 hb) | (have H := Gx.on gb0 hb; clear gb0 k0 k1 k2)); have gb0 := H; have kk := H; clear H; obtain ⟨k0, k1, k2⟩ := kk) | (go_at_call 83; refine (s_otNumber _ _).mono ?_; rintro e w' ⟨rfl, rfl⟩))
        all_goals
          go_ret2
          exact ⟨rfl, by (repeat (first | exact Below.refl _ _ | assumption | refine bel_trans ?_ (bel_alloc _ _) | refine bel_set ?_ (by first | (dsimp only; omega) | (simp; omega) | simp) _ | refine bel_trans ?_ (bel_drewN _ _) | refine bel_trans ?_ (bel_drew _) | refine bel_trans ?_ (by assumption)))⟩
      | true =>
        obtain ⟨i1, i2⟩ := inB_iff.1 h3
        obtain ⟨p1, p2⟩ := gpw_bd P Q f b (by omega)
        go_enter Try.func57, Try.ntmps57
        go_wp2_with (first | (go_at_call 81; refine (s_otFirst _ _ _ _ _).mono ?_; rintro e w' ⟨rfl, hb⟩; (first | (have H := gbox1 hb) | (have H := Gx.on gb0 hb; clear gb0 k0 k1 k2)); have gb0 := H; have kk := H; clear H; obtain ⟨k0, k1, k2⟩ := kk) | (go_at_call 82; refine (s_otReceiver _ _ _ _ _ hP hQ).mono ?_; rintro e w' ⟨rfl, hb⟩; (first | (have H := gbox1 hb) | (have H := Gx.on gb0 hb; clear gb0 k0 k1 k2)); have gb0 := H; have kk := H; clear H; obtain ⟨k0, k1, k2⟩ := kk) | (go_at_call 83; refine (s_otNumber _ _).mono ?_; rintro e w' ⟨rfl, rfl⟩) | (go_at_call 65; refine (s_grTo _ _ _ _ _ _ hP hQ (by omega) (by omega)).mono ?_; rintro e w' ⟨rfl, hb⟩; (first | (have H := gbox1 hb) | (have H := Gx.on gb0 hb; clear gb0 k0 k1 k2)); have gb0 := H; have kk := H; clear H; obtain ⟨k0, k1, k2⟩ := kk) | (go_at_call 85; refine (s_otPad _ _ _ (by omega) (by omega)).mono ?_; rintro e w' ⟨rfl, hb⟩))
        all_goals
          go_ret2
          exact ⟨rfl, by (repeat (first | exact Below.refl _ _ | assumption | refine bel_trans ?_ (bel_alloc _ _) | refine bel_set ?_ (by first | (dsimp only; omega) | (simp; omega) | simp) _ | refine bel_trans ?_ (bel_drewN _ _) | refine bel_trans ?_ (bel_drew _) | refine bel_trans ?_ (by assumption)))⟩

set_option maxHeartbeats 1000000 in
theorem i_SealPair (P Q G a ans i m0 m1 : Int) (w : World) (hP : Fits P) (hQ : Fits Q) (hG : Fits G) (ha : Fits a) (hans : Fits ans) (hi : Fits i) (hm0 : Fits m0) (hm1 : Fits m1) :
    Calls Try.prog 32 #[.agg #[.int .i64 P, .int .i64 Q, .int .i64 G], .int .i64 a, .int .i64 ans, .int .i64 i, .int .i64 m0, .int .i64 m1] w fun e w' => e = .returned (.tuple #[.int .i64 (sealPair P Q G a ans i m0 m1).1, .int .i64 (sealPair P Q G a ans i m0 m1).2.1, .bool (sealPair P Q G a ans i m0 m1).2.2]) ∧ Below w.heap.size w w' := by
  unfold sealPair
  cases h1 : padsB P Q G a ans i with
  | false =>
    have hpo := padsOf_f h1
    go_enter Try.func32, Try.ntmps32
    go_wp2_with (first | (go_at_call 34; refine (i_PadsOf _ _ _ _ _ _ _ hP hQ hG ha hans hi).mono ?_; rintro e w' ⟨rfl, hb⟩; (first | (have H := gbox1 hb) | (have H := Gx.on gb0 hb; clear gb0 k0 k1 k2)); have gb0 := H; have kk := H; clear H; obtain ⟨k0, k1, k2⟩ := kk) | (go_at_call 80; refine (i_isLabel _ _).mono ?_; rintro e w' ⟨rfl, rfl⟩))
    all_goals
      go_ret3
      exact ⟨rfl, by (repeat (first | exact Below.refl _ _ | assumption | refine bel_trans ?_ (bel_alloc _ _) | refine bel_set ?_ (by first | (dsimp only; omega) | (simp; omega) | simp) _ | refine bel_trans ?_ (bel_drewN _ _) | refine bel_trans ?_ (bel_drew _) | refine bel_trans ?_ (by assumption)))⟩
  | true =>
    have hpo := padsOf_t h1
    cases h2 : inB m0 0 65535 with
    | false =>
      go_enter Try.func32, Try.ntmps32
      go_wp2_with (first | (go_at_call 34; refine (i_PadsOf _ _ _ _ _ _ _ hP hQ hG ha hans hi).mono ?_; rintro e w' ⟨rfl, hb⟩; (first | (have H := gbox1 hb) | (have H := Gx.on gb0 hb; clear gb0 k0 k1 k2)); have gb0 := H; have kk := H; clear H; obtain ⟨k0, k1, k2⟩ := kk) | (go_at_call 80; refine (i_isLabel _ _).mono ?_; rintro e w' ⟨rfl, rfl⟩))
      all_goals
        go_ret3
        exact ⟨rfl, by (repeat (first | exact Below.refl _ _ | assumption | refine bel_trans ?_ (bel_alloc _ _) | refine bel_set ?_ (by first | (dsimp only; omega) | (simp; omega) | simp) _ | refine bel_trans ?_ (bel_drewN _ _) | refine bel_trans ?_ (bel_drew _) | refine bel_trans ?_ (by assumption)))⟩
    | true =>
      cases h3 : inB m1 0 65535 with
      | false =>
        go_enter Try.func32, Try.ntmps32
        go_wp2_with (first | (go_at_call 34; refine (i_PadsOf _ _ _ _ _ _ _ hP hQ hG ha hans hi).mono ?_; rintro e w' ⟨rfl, hb⟩; (first | (have H := gbox1 hb) | (have H := Gx.on gb0 hb; clear gb0 k0 k1 k2)); have gb0 := H; have kk := H; clear H; obtain ⟨k0, k1, k2⟩ := kk) | (go_at_call 80; refine (i_isLabel _ _).mono ?_; rintro e w' ⟨rfl, rfl⟩))
        all_goals
          go_ret3
          exact ⟨rfl, by (repeat (first | exact Below.refl _ _ | assumption | refine bel_trans ?_ (bel_alloc _ _) | refine bel_set ?_ (by first | (dsimp only; omega) | (simp; omega) | simp) _ | refine bel_trans ?_ (bel_drewN _ _) | refine bel_trans ?_ (bel_drew _) | refine bel_trans ?_ (by assumption)))⟩
      | true =>
        go_enter Try.func32, Try.ntmps32
        go_wp2_with (first | (go_at_call 34; refine (i_PadsOf _ _ _ _ _ _ _ hP hQ hG ha hans hi).mono ?_; rintro e w' ⟨rfl, hb⟩; (first | (have H := gbox1 hb) | (have H := Gx.on gb0 hb; clear gb0 k0 k1 k2)); have gb0 := H; have kk := H; clear H; obtain ⟨k0, k1, k2⟩ := kk) | (go_at_call 80; refine (i_isLabel _ _).mono ?_; rintro e w' ⟨rfl, rfl⟩))
        all_goals
          go_ret3
          exact ⟨rfl, by (repeat (first | exact Below.refl _ _ | assumption | refine bel_trans ?_ (bel_alloc _ _) | refine bel_set ?_ (by first | (dsimp only; omega) | (simp; omega) | simp) _ | refine bel_trans ?_ (bel_drewN _ _) | refine bel_trans ?_ (bel_drew _) | refine bel_trans ?_ (by assumption)))⟩

set_option maxHeartbeats 1000000 in
theorem s_SealPair (P Q G a ans i m0 m1 : Int) (w : World) (hP : Fits P) (hQ : Fits Q) (hG : Fits G) (ha : Fits a) (hans : Fits ans) (hi : Fits i) (hm0 : Fits m0) (hm1 : Fits m1) :
    Calls Try.prog 55 #[.agg #[.int .i64 P, .int .i64 Q, .int .i64 G], .int .i64 a, .int .i64 ans, .int .i64 i, .int .i64 m0, .int .i64 m1] w fun e w' => e = .returned (.tuple #[.int .i64 (sealPair P Q G a ans i m0 m1).1, .int .i64 (sealPair P Q G a ans i m0 m1).2.1, .bool (sealPair P Q G a ans i m0 m1).2.2]) ∧ Below w.heap.size w w' := by
  unfold sealPair
  cases h1 : padsB P Q G a ans i with
  | false =>
    go_enter Try.func55, Try.ntmps55
    go_wp2_with (first | (go_at_call 110; refine (s_otAsked _ _ _ _ _ _ _).mono ?_; rintro e w' ⟨rfl, hb⟩; (first | (have H := gbox1 hb) | (have H := Gx.on gb0 hb; clear gb0 k0 k1 k2)); have gb0 := H; have kk := H; clear H; obtain ⟨k0, k1, k2⟩ := kk))
    all_goals
      go_ret3
      exact ⟨rfl, by (repeat (first | exact Below.refl _ _ | assumption | refine bel_trans ?_ (bel_alloc _ _) | refine bel_set ?_ (by first | (dsimp only; omega) | (simp; omega) | simp) _ | refine bel_trans ?_ (bel_drewN _ _) | refine bel_trans ?_ (bel_drew _) | refine bel_trans ?_ (by assumption)))⟩
  | true =>
    obtain ⟨hg, hh, gs, gi⟩ := padsB_iff.1 h1
    obtain ⟨gP, gQ, gG⟩ := grB_lo hg
    obtain ⟨f1, f2⟩ := hasB_lo hh
    obtain ⟨a1, a2⟩ := inB_iff.1 gs
    obtain ⟨i1, i2⟩ := inB_iff.1 gi
    cases h2 : inB m0 0 65535 with
    | false =>
      go_enter Try.func55, Try.ntmps55
      go_wp2_with (first | (go_at_call 110; refine (s_otAsked _ _ _ _ _ _ _).mono ?_; rintro e w' ⟨rfl, hb⟩; (first | (have H := gbox1 hb) | (have H := Gx.on gb0 hb; clear gb0 k0 k1 k2)); have gb0 := H; have kk := H; clear H; obtain ⟨k0, k1, k2⟩ := kk) | (go_at_call 84; refine (s_otMessage _ _).mono ?_; rintro e w' ⟨rfl, rfl⟩))
      all_goals
        go_ret3
        exact ⟨rfl, by (repeat (first | exact Below.refl _ _ | assumption | refine bel_trans ?_ (bel_alloc _ _) | refine bel_set ?_ (by first | (dsimp only; omega) | (simp; omega) | simp) _ | refine bel_trans ?_ (bel_drewN _ _) | refine bel_trans ?_ (bel_drew _) | refine bel_trans ?_ (by assumption)))⟩
    | true =>
      cases h3 : inB m1 0 65535 with
      | false =>
        go_enter Try.func55, Try.ntmps55
        go_wp2_with (first | (go_at_call 110; refine (s_otAsked _ _ _ _ _ _ _).mono ?_; rintro e w' ⟨rfl, hb⟩; (first | (have H := gbox1 hb) | (have H := Gx.on gb0 hb; clear gb0 k0 k1 k2)); have gb0 := H; have kk := H; clear H; obtain ⟨k0, k1, k2⟩ := kk) | (go_at_call 84; refine (s_otMessage _ _).mono ?_; rintro e w' ⟨rfl, rfl⟩))
        all_goals
          go_ret3
          exact ⟨rfl, by (repeat (first | exact Below.refl _ _ | assumption | refine bel_trans ?_ (bel_alloc _ _) | refine bel_set ?_ (by first | (dsimp only; omega) | (simp; omega) | simp) _ | refine bel_trans ?_ (bel_drewN _ _) | refine bel_trans ?_ (bel_drew _) | refine bel_trans ?_ (by assumption)))⟩
      | true =>
        go_enter Try.func55, Try.ntmps55
        go_wp2_with (first | (go_at_call 110; refine (s_otAsked _ _ _ _ _ _ _).mono ?_; rintro e w' ⟨rfl, hb⟩; (first | (have H := gbox1 hb) | (have H := Gx.on gb0 hb; clear gb0 k0 k1 k2)); have gb0 := H; have kk := H; clear H; obtain ⟨k0, k1, k2⟩ := kk) | (go_at_call 84; refine (s_otMessage _ _).mono ?_; rintro e w' ⟨rfl, rfl⟩) | (go_at_call 111; refine (s_otPads _ _ _ _ _ _ _ gP gQ (by omega) (by omega) (by omega) (by omega)).mono ?_; rintro e w' ⟨rfl, hb⟩; (first | (have H := gbox1 hb) | (have H := Gx.on gb0 hb; clear gb0 k0 k1 k2)); have gb0 := H; have kk := H; clear H; obtain ⟨k0, k1, k2⟩ := kk))
        all_goals
          go_ret3
          exact ⟨rfl, by (repeat (first | exact Below.refl _ _ | assumption | refine bel_trans ?_ (bel_alloc _ _) | refine bel_set ?_ (by first | (dsimp only; omega) | (simp; omega) | simp) _ | refine bel_trans ?_ (bel_drewN _ _) | refine bel_trans ?_ (bel_drew _) | refine bel_trans ?_ (by assumption)))⟩

end Go.Proofs.Ytklgneaamhjfpaa
