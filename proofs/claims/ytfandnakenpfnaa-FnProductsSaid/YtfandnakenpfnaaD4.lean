/-
  Contracts: TripleFor, MultiplyPairs.
-/
import Derived.Test.YtfandnakenpfnaaD3
import Derived.Test.YtfandnakenpfnaaM3
namespace Go.Proofs.Ytfandnakenpfnaa
open Go.RowKit
set_option linter.unusedVariables false
set_option linter.unusedSimpArgs false

/-- Two slices handed back, in memory of the call's own, apart from each other, and a bool. -/
def TwoL (A B : List Int) (ok : Bool) (w : World) (e : Ending) (w' : World) : Prop :=
  ∃ r1 c1 r2 c2 m, e = .returned (.tuple #[.slice r1 A.length c1, .slice r2 B.length c2, .bool ok]) ∧ Mine w' w.heap.size r1 A.length c1 A ∧ Mine w' m r2 B.length c2 B ∧ PlaceM r1 A.length w.heap.size m ∧ w.heap.size ≤ m ∧ m ≤ w'.heap.size ∧ Below w.heap.size w w'
def keyB (key : Int) : Bool := inB key 0 1000000000
theorem keyB_iff {key : Int} : keyB key = true ↔ 0 ≤ key ∧ key ≤ 1000000000 := inB_iff

set_option maxHeartbeats 400000 in
theorem i_isKey (x : Int) (w : World) : Calls Try.prog 41 #[.int .i64 x] w fun e w' => e = .returned (.bool (keyB x)) ∧ w = w' := by
  go_enter Try.func41, Try.ntmps41
  go_wp2_with (go_at_call 74; refine (i_within _ _ _ _).mono ?_; rintro e w' ⟨rfl, rfl⟩)
  go_ret
  exact ⟨rfl, rfl⟩
set_option maxHeartbeats 400000 in
theorem i_isTripleNumber (x : Int) (w : World) : Calls Try.prog 42 #[.int .i64 x] w fun e w' => e = .returned (.bool (inB x 0 1000)) ∧ w = w' := by
  go_enter Try.func42, Try.ntmps42
  go_wp2_with (go_at_call 74; refine (i_within _ _ _ _).mono ?_; rintro e w' ⟨rfl, rfl⟩)
  go_ret
  exact ⟨rfl, rfl⟩
set_option maxHeartbeats 400000 in
theorem s_otKey (x : Int) (w : World) : Calls Try.prog 73 #[.int .i64 x] w fun e w' => e = .returned (.bool (keyB x)) ∧ w = w' := by
  go_enter Try.func73, Try.ntmps73
  go_wp2_with (go_at_call 65; refine (s_l1In _ _ _ _).mono ?_; rintro e w' ⟨rfl, rfl⟩)
  go_ret
  exact ⟨rfl, rfl⟩
set_option maxHeartbeats 400000 in
theorem s_trKey (key i : Int) (w : World) : Calls Try.prog 45 #[.int .i64 key, .int .i64 i] w fun e w' => e = .returned (.bool (keyB key && inB i 0 1000)) ∧ w = w' := by
  cases h1 : keyB key with
  | false =>
    go_enter Try.func45, Try.ntmps45
    go_wp2_with (first | (go_at_call 73; refine (s_otKey _ _).mono ?_; rintro e w' ⟨rfl, rfl⟩) | (go_at_call 65; refine (s_l1In _ _ _ _).mono ?_; rintro e w' ⟨rfl, rfl⟩))
    go_ret
    exact ⟨rfl, rfl⟩
  | true =>
    go_enter Try.func45, Try.ntmps45
    go_wp2_with (first | (go_at_call 73; refine (s_otKey _ _).mono ?_; rintro e w' ⟨rfl, rfl⟩) | (go_at_call 65; refine (s_l1In _ _ _ _).mono ?_; rintro e w' ⟨rfl, rfl⟩))
    go_ret
    exact ⟨rfl, rfl⟩
def tripleFor (p key i : Int) : List Int × List Int × Bool := if prB p && (keyB key && inB i 0 1000) then (tripA p key i, tripB p key i, true) else ([], [], false)
theorem tripleFor_len (p key i : Int) : (tripleFor p key i).1.length ≤ 3 ∧ (tripleFor p key i).2.1.length ≤ 3 := by
  unfold tripleFor; split <;> simp [tripA, tripB]
set_option maxHeartbeats 1000000 in
theorem i_TripleFor (p key i : Int) (w : World) (hp : Fits p) (hk : Fits key) (hi : Fits i) :
    Calls Try.prog 7 #[.int .i64 p, .int .i64 key, .int .i64 i] w fun e w' => TwoL (tripleFor p key i).1 (tripleFor p key i).2.1 (tripleFor p key i).2.2 w e w' := by
  unfold tripleFor
  cases h1 : prB p with
  | false =>
    go_enter Try.func7, Try.ntmps7
    go_wp2_with (first | (go_at_call 40; refine (i_IsPrime _ _).mono ?_; rintro e w' ⟨rfl, rfl⟩) | (go_at_call 41; refine (i_isKey _ _).mono ?_; rintro e w' ⟨rfl, rfl⟩) | (go_at_call 42; refine (i_isTripleNumber _ _).mono ?_; rintro e w' ⟨rfl, rfl⟩))
    go_ret3
    exact ⟨_, _, _, _, w.heap.size, rfl, Mine.nil, Mine.nil, fun h => by simp at h, Nat.le_refl _, by first | exact Nat.le_refl _ | exact Below.size (by assumption), by (repeat (first | exact Below.refl _ _ | assumption | refine bel_trans ?_ (bel_alloc _ _) | refine bel_set ?_ (by first | (dsimp only; omega) | (simp; omega) | simp) _ | refine bel_trans ?_ (bel_drewN _ _) | refine bel_trans ?_ (bel_drew _) | refine bel_trans ?_ (by assumption)))⟩
  | true =>
    cases h2 : keyB key with
    | false =>
      go_enter Try.func7, Try.ntmps7
      go_wp2_with (first | (go_at_call 40; refine (i_IsPrime _ _).mono ?_; rintro e w' ⟨rfl, rfl⟩) | (go_at_call 41; refine (i_isKey _ _).mono ?_; rintro e w' ⟨rfl, rfl⟩) | (go_at_call 42; refine (i_isTripleNumber _ _).mono ?_; rintro e w' ⟨rfl, rfl⟩))
      go_ret3
      exact ⟨_, _, _, _, w.heap.size, rfl, Mine.nil, Mine.nil, fun h => by simp at h, Nat.le_refl _, by first | exact Nat.le_refl _ | exact Below.size (by assumption), by (repeat (first | exact Below.refl _ _ | assumption | refine bel_trans ?_ (bel_alloc _ _) | refine bel_set ?_ (by first | (dsimp only; omega) | (simp; omega) | simp) _ | refine bel_trans ?_ (bel_drewN _ _) | refine bel_trans ?_ (bel_drew _) | refine bel_trans ?_ (by assumption)))⟩
    | true =>
      cases h3 : inB i 0 1000 with
      | false =>
        go_enter Try.func7, Try.ntmps7
        go_wp2_with (first | (go_at_call 40; refine (i_IsPrime _ _).mono ?_; rintro e w' ⟨rfl, rfl⟩) | (go_at_call 41; refine (i_isKey _ _).mono ?_; rintro e w' ⟨rfl, rfl⟩) | (go_at_call 42; refine (i_isTripleNumber _ _).mono ?_; rintro e w' ⟨rfl, rfl⟩))
        go_ret3
        exact ⟨_, _, _, _, w.heap.size, rfl, Mine.nil, Mine.nil, fun h => by simp at h, Nat.le_refl _, by first | exact Nat.le_refl _ | exact Below.size (by assumption), by (repeat (first | exact Below.refl _ _ | assumption | refine bel_trans ?_ (bel_alloc _ _) | refine bel_set ?_ (by first | (dsimp only; omega) | (simp; omega) | simp) _ | refine bel_trans ?_ (bel_drewN _ _) | refine bel_trans ?_ (bel_drew _) | refine bel_trans ?_ (by assumption)))⟩
      | true =>
        go_enter Try.func7, Try.ntmps7
        go_wp2_with (first | (go_at_call 40; refine (i_IsPrime _ _).mono ?_; rintro e w' ⟨rfl, rfl⟩) | (go_at_call 41; refine (i_isKey _ _).mono ?_; rintro e w' ⟨rfl, rfl⟩) | (go_at_call 42; refine (i_isTripleNumber _ _).mono ?_; rintro e w' ⟨rfl, rfl⟩) | (go_at_call 43; refine (i_tripleFor _ _ _ _ (prB_lo h1) (keyB_iff.1 h2) (inB_iff.1 h3)).mono ?_; rintro e w' ⟨r1, c1, r2, c2, m, rfl, g1, g2, pl, hm, hb⟩))
        go_ret3
        exact ⟨_, _, _, _, min m w'.heap.size, rfl, g1, g2.base (Nat.min_le_left _ _), fun h b o e => ⟨(pl h b o e).1, Nat.lt_min.2 ⟨(pl h b o e).2, (g1.pl h b o e).2⟩⟩, Nat.le_min.2 ⟨hm, hb.size⟩, Nat.min_le_right _ _, hb⟩
set_option maxHeartbeats 1000000 in
theorem s_TripleFor (p key i : Int) (w : World) (hp : Fits p) (hk : Fits key) (hi : Fits i) :
    Calls Try.prog 8 #[.int .i64 p, .int .i64 key, .int .i64 i] w fun e w' => TwoL (tripleFor p key i).1 (tripleFor p key i).2.1 (tripleFor p key i).2.2 w e w' := by
  unfold tripleFor
  cases h1 : prB p with
  | false =>
    go_enter Try.func8, Try.ntmps8
    go_wp2_with (first | (go_at_call 44; refine (s_fpGood _ _).mono ?_; rintro e w' ⟨rfl, rfl⟩) | (go_at_call 45; refine (s_trKey _ _ _).mono ?_; rintro e w' ⟨rfl, rfl⟩))
    go_ret3
    exact ⟨_, _, _, _, w.heap.size, rfl, Mine.nil, Mine.nil, fun h => by simp at h, Nat.le_refl _, by first | exact Nat.le_refl _ | exact Below.size (by assumption), by (repeat (first | exact Below.refl _ _ | assumption | refine bel_trans ?_ (bel_alloc _ _) | refine bel_set ?_ (by first | (dsimp only; omega) | (simp; omega) | simp) _ | refine bel_trans ?_ (bel_drewN _ _) | refine bel_trans ?_ (bel_drew _) | refine bel_trans ?_ (by assumption)))⟩
  | true =>
    cases h2 : (keyB key && inB i 0 1000) with
    | false =>
      go_enter Try.func8, Try.ntmps8
      go_wp2_with (first | (go_at_call 44; refine (s_fpGood _ _).mono ?_; rintro e w' ⟨rfl, rfl⟩) | (go_at_call 45; refine (s_trKey _ _ _).mono ?_; rintro e w' ⟨rfl, rfl⟩))
      go_ret3
      exact ⟨_, _, _, _, w.heap.size, rfl, Mine.nil, Mine.nil, fun h => by simp at h, Nat.le_refl _, by first | exact Nat.le_refl _ | exact Below.size (by assumption), by (repeat (first | exact Below.refl _ _ | assumption | refine bel_trans ?_ (bel_alloc _ _) | refine bel_set ?_ (by first | (dsimp only; omega) | (simp; omega) | simp) _ | refine bel_trans ?_ (bel_drewN _ _) | refine bel_trans ?_ (bel_drew _) | refine bel_trans ?_ (by assumption)))⟩
    | true =>
      go_enter Try.func8, Try.ntmps8
      go_wp2_with (first | (go_at_call 44; refine (s_fpGood _ _).mono ?_; rintro e w' ⟨rfl, rfl⟩) | (go_at_call 45; refine (s_trKey _ _ _).mono ?_; rintro e w' ⟨rfl, rfl⟩) | (go_at_call 46; refine (s_trFor _ _ _ _ (prB_lo h1) (keyB_iff.1 (Bool.and_eq_true_iff.1 h2).1) (inB_iff.1 (Bool.and_eq_true_iff.1 h2).2)).mono ?_; rintro e w' ⟨r1, c1, r2, c2, m, rfl, g1, g2, pl, hm, hb⟩))
      go_ret3
      exact ⟨_, _, _, _, min m w'.heap.size, rfl, g1, g2.base (Nat.min_le_left _ _), fun h b o e => ⟨(pl h b o e).1, Nat.lt_min.2 ⟨(pl h b o e).2, (g1.pl h b o e).2⟩⟩, Nat.le_min.2 ⟨hm, hb.size⟩, Nat.min_le_right _ _, hb⟩
end Go.Proofs.Ytfandnakenpfnaa
