/-
  Contracts of the functions on tags.
-/
import Derived.Test.YtnamhfaacamihaaA
import Derived.Deep.QuietTactic
import Derived.BigQuiet
import Derived.WalkSmall
namespace Go.Proofs.Ytnamhfaacamihaa
open Go.RowKit
set_option linter.unusedVariables false
set_option linter.unusedSimpArgs false

set_option maxHeartbeats 400000 in
theorem i_isTagged (p v t : Int) (w : World) :
    Calls Try.prog 56 #[.int .i64 p, .agg #[.int .i64 v, .int .i64 t]] w fun e w' => e = .returned (.bool (elB p v && elB p t)) ∧ Below w.heap.size w w' := by
  cases h1 : elB p v with
  | true =>
    go_enter Try.func56, Try.ntmps56
    go_wp2_with (go_at_call 55; refine (i_isElement _ _ _).mono ?_; rintro e w' ⟨rfl, rfl⟩)
    go_ret
    exact ⟨rfl, (Below.refl _ _).alloc (Nat.le_refl _) _⟩
  | false =>
    go_enter Try.func56, Try.ntmps56
    go_wp2_with (go_at_call 55; refine (i_isElement _ _ _).mono ?_; rintro e w' ⟨rfl, rfl⟩)
    go_ret
    exact ⟨rfl, (Below.refl _ _).alloc (Nat.le_refl _) _⟩

set_option maxHeartbeats 400000 in
theorem s_tgGood (p v t : Int) (w : World) (hv : Fits v) (ht : Fits t) :
    Calls Try.prog 53 #[.int .i64 p, .agg #[.int .i64 v, .int .i64 t]] w fun e w' => e = .returned (.bool (elB p v && elB p t)) ∧ Below w.heap.size w w' := by
  have HE : Hid (elsB p [v, t] = (elB p v && elB p t)) := by
    show (prB p && (inB v 0 (p-1) && (inB t 0 (p-1) && true))) = ((prB p && inB v 0 (p-1)) && (prB p && inB t 0 (p-1)))
    cases prB p <;> simp
  go_enter Try.func53, Try.ntmps53
  go_wp2_with (go_at_call 52; refine (s_fpIn _ _ _ _ [v, t] _ (by exact Ints.lit2 (by simp) hv ht)).mono ?_; rintro e w' ⟨rfl, rfl⟩)
  go_ret
  exact ⟨by first | rfl | exact ret_bool HE.out, ((Below.refl _ _).alloc (Nat.le_refl _) _).alloc (by simp) _⟩

set_option maxHeartbeats 400000 in
theorem i_holds (p d k v t : Int) (w : World) (hp : 2 ≤ p ∧ p ≤ 251) (hd : 0 ≤ d ∧ d ≤ 251) (hk : 0 ≤ k ∧ k ≤ 251) (hv : 0 ≤ v ∧ v ≤ 1000000) (ht : 0 ≤ t ∧ t ≤ 1000000) :
    Calls Try.prog 57 #[.int .i64 p, .int .i64 d, .int .i64 k, .agg #[.int .i64 v, .int .i64 t]] w fun e w' => e = .returned (.bool (tagOk p d k v t)) ∧ Below w.heap.size w w' := by
  obtain ⟨hp1, hp2⟩ := hp; obtain ⟨hd1, hd2⟩ := hd; obtain ⟨hk1, hk2⟩ := hk; obtain ⟨hv1, hv2⟩ := hv; obtain ⟨ht1, ht2⟩ := ht
  obtain ⟨q1, q2⟩ := mul_bd (a := v) (b := d) 1000000 251 hv1 hv2 hd1 hd2
  go_enter Try.func57, Try.ntmps57
  go_wp2_with (go_at_call 60; refine (i_mod _ _ _ (by omega) (by omega) (by omega) (by omega)).mono ?_; rintro e w' ⟨rfl, rfl⟩)
  go_ret
  exact ⟨by first | rfl | exact ret_bool rfl, (Below.refl _ _).alloc (Nat.le_refl _) _⟩

set_option maxHeartbeats 400000 in
theorem s_tgHolds (p d k v t : Int) (w : World) (hp : 2 ≤ p ∧ p ≤ 251) (hd : 0 ≤ d ∧ d ≤ 251) (hk : 0 ≤ k ∧ k ≤ 251) (hv : 0 ≤ v ∧ v ≤ 1000000) (ht : 0 ≤ t ∧ t < p) :
    Calls Try.prog 54 #[.int .i64 p, .int .i64 d, .int .i64 k, .agg #[.int .i64 v, .int .i64 t]] w fun e w' => e = .returned (.bool (tagOk p d k v t)) ∧ Below w.heap.size w w' := by
  obtain ⟨hp1, hp2⟩ := hp; obtain ⟨hd1, hd2⟩ := hd; obtain ⟨hk1, hk2⟩ := hk; obtain ⟨hv1, hv2⟩ := hv; obtain ⟨ht1, ht2⟩ := ht
  obtain ⟨q1, q2⟩ := mul_bd (a := v) (b := d) 1000000 251 hv1 hv2 hd1 hd2
  have HE : Hid (((v * d + k) % p == t) = tagOk p d k v t) := by
    show _ = _
    unfold tagOk
    rw [Bool.eq_iff_iff, decide_eq_true_iff, beq_iff_eq, emod_eq_iff ht1 ht2]
  go_enter Try.func54, Try.ntmps54
  go_wp2
  go_quiet (fail)
  go_wp2
  go_ret
  exact ⟨by first | rfl | exact ret_bool HE.out, below_drewN ((Below.refl _ _).alloc (Nat.le_refl _) _) _⟩

set_option maxHeartbeats 400000 in
theorem l_toTagged (v t : Int) (w : World) :
    Calls Try.prog 15 #[.agg #[.int .i64 v, .int .i64 t]] w fun e w' => e = .returned (.agg #[.int .i64 v, .int .i64 t]) ∧ Below w.heap.size w w' := by
  go_enter Try.func15, Try.ntmps15
  go_wp2
  simp [bodyPost, results, Try.results15, go_sem]
  (repeat (first | exact Below.refl _ _ | assumption | refine bel_trans ?_ (bel_alloc _ _) | refine bel_set ?_ (by first | (dsimp only; omega) | (simp; omega) | simp) _ | refine bel_trans ?_ (bel_drewN _ _) | refine bel_trans ?_ (bel_drew _) | refine bel_trans ?_ (by assumption)))

set_option maxHeartbeats 400000 in
theorem s_TagHolds (p d k v t : Int) (w : World) (hd : Fits d) (hk : Fits k) (hv : Fits v) (ht : Fits t) :
    Calls Try.prog 14 #[.int .i64 p, .int .i64 d, .int .i64 k, .agg #[.int .i64 v, .int .i64 t]] w fun e w' =>
      e = .returned (.tuple #[.bool (elsB p [d, k, v, t] && tagOk p d k v t), .bool (elsB p [d, k, v, t])]) ∧ Below w.heap.size w w' := by
  have HE : Hid (elsB p [d, k, v, t] = (elsB p [d, k] && (elB p v && elB p t))) := by
    show _ = _
    simp only [elsB_cons, elsB_nil]
    cases elB p d <;> cases elB p k <;> cases h : elB p v <;> simp [elB_and]
    intro ht; exact (elB_iff.1 ht).1
  rw [HE.out]; clear HE
  cases h1 : elsB p [d, k] with
  | false =>
    go_enter Try.func14, Try.ntmps14
    go_wp2_with (go_at_call 52; refine (s_fpIn _ _ _ _ [d, k] _ (by exact Ints.lit2 (by simp) hd hk)).mono ?_; rintro e w' ⟨rfl, rfl⟩)
    go_ret2
    exact ⟨rfl, by (repeat (first | exact Below.refl _ _ | assumption | refine bel_trans ?_ (bel_alloc _ _) | refine bel_set ?_ (by first | (dsimp only; omega) | (simp; omega) | simp) _ | refine bel_trans ?_ (bel_drewN _ _) | refine bel_trans ?_ (bel_drew _) | refine bel_trans ?_ (by assumption)))⟩
  | true =>
    cases h2 : (elB p v && elB p t) with
    | false =>
      go_enter Try.func14, Try.ntmps14
      go_wp2_with (first | (go_at_call 52; refine (s_fpIn _ _ _ _ [d, k] _ (by exact Ints.lit2 (by simp) hd hk)).mono ?_; rintro e w' ⟨rfl, rfl⟩) | (go_at_call 53; refine (s_tgGood _ _ _ _ hv ht).mono ?_; rintro e w' ⟨rfl, hb⟩))
      go_ret2
      exact ⟨rfl, by (repeat (first | exact Below.refl _ _ | assumption | refine bel_trans ?_ (bel_alloc _ _) | refine bel_set ?_ (by first | (dsimp only; omega) | (simp; omega) | simp) _ | refine bel_trans ?_ (bel_drewN _ _) | refine bel_trans ?_ (bel_drew _) | refine bel_trans ?_ (by assumption)))⟩
    | true =>
      have hp := elsB_p h1
      have hd1 : 0 ≤ d ∧ d ≤ p - 1 := elsB_nth h1 (i := 0) (by simp)
      have hk1 : 0 ≤ k ∧ k ≤ p - 1 := elsB_nth h1 (i := 1) (by simp)
      have hv1 := (elB_iff.1 (Bool.and_eq_true_iff.1 h2).1).2
      have ht1 := (elB_iff.1 (Bool.and_eq_true_iff.1 h2).2).2
      go_enter Try.func14, Try.ntmps14
      go_wp2_with (first | (go_at_call 52; refine (s_fpIn _ _ _ _ [d, k] _ (by exact Ints.lit2 (by simp) hd hk)).mono ?_; rintro e w' ⟨rfl, rfl⟩) | (go_at_call 53; refine (s_tgGood _ _ _ _ hv ht).mono ?_; rintro e w' ⟨rfl, hb⟩; obtain ⟨hc1, hc2⟩ := bcell hb) | (go_at_call 54; refine (s_tgHolds _ _ _ _ _ _ hp (by omega) (by omega) (by omega) (by omega)).mono ?_; rintro e w' ⟨rfl, hb'⟩))
      go_ret2
      exact ⟨rfl, by (repeat (first | exact Below.refl _ _ | assumption | refine bel_trans ?_ (bel_alloc _ _) | refine bel_set ?_ (by first | (dsimp only; omega) | (simp; omega) | simp) _ | refine bel_trans ?_ (bel_drewN _ _) | refine bel_trans ?_ (bel_drew _) | refine bel_trans ?_ (by assumption)))⟩

set_option maxHeartbeats 400000 in
theorem i_TagHolds (p d k v t : Int) (w : World) (hd : Fits d) (hk : Fits k) (hv : Fits v) (ht : Fits t) :
    Calls Try.prog 16 #[.int .i64 p, .int .i64 d, .int .i64 k, .agg #[.int .i64 v, .int .i64 t]] w fun e w' =>
      e = .returned (.tuple #[.bool (elsB p [d, k, v, t] && tagOk p d k v t), .bool (elsB p [d, k, v, t])]) ∧ Below w.heap.size w w' := by
  have HE : Hid (elsB p [d, k, v, t] = (elB p d && (elB p k && (elB p v && elB p t)))) := by
    show _ = _
    simp only [elsB_cons, elsB_nil, elB_and]
  rw [HE.out]; clear HE
  cases h1 : elB p d with
  | false =>
    go_enter Try.func16, Try.ntmps16
    go_wp2_with (first | (go_at_call 55; refine (i_isElement _ _ _).mono ?_; rintro e w' ⟨rfl, rfl⟩))
    go_ret2
    exact ⟨rfl, by (repeat (first | exact Below.refl _ _ | assumption | refine bel_trans ?_ (bel_alloc _ _) | refine bel_set ?_ (by first | (dsimp only; omega) | (simp; omega) | simp) _ | refine bel_trans ?_ (bel_drewN _ _) | refine bel_trans ?_ (bel_drew _) | refine bel_trans ?_ (by assumption)))⟩
  | true =>
    cases h2 : elB p k with
    | false =>
      go_enter Try.func16, Try.ntmps16
      go_wp2_with (first | (go_at_call 55; refine (i_isElement _ _ _).mono ?_; rintro e w' ⟨rfl, rfl⟩))
      go_ret2
      exact ⟨rfl, by (repeat (first | exact Below.refl _ _ | assumption | refine bel_trans ?_ (bel_alloc _ _) | refine bel_set ?_ (by first | (dsimp only; omega) | (simp; omega) | simp) _ | refine bel_trans ?_ (bel_drewN _ _) | refine bel_trans ?_ (bel_drew _) | refine bel_trans ?_ (by assumption)))⟩
    | true =>
      cases h3 : (elB p v && elB p t) with
      | false =>
        go_enter Try.func16, Try.ntmps16
        go_wp2_with (first | (go_at_call 55; refine (i_isElement _ _ _).mono ?_; rintro e w' ⟨rfl, rfl⟩) | (go_at_call 56; refine (i_isTagged _ _ _ _).mono ?_; rintro e w' ⟨rfl, hb⟩))
        go_ret2
        exact ⟨rfl, by (repeat (first | exact Below.refl _ _ | assumption | refine bel_trans ?_ (bel_alloc _ _) | refine bel_set ?_ (by first | (dsimp only; omega) | (simp; omega) | simp) _ | refine bel_trans ?_ (bel_drewN _ _) | refine bel_trans ?_ (bel_drew _) | refine bel_trans ?_ (by assumption)))⟩
      | true =>
        have hp := elB_p h1
        have hd1 := (elB_iff.1 h1).2
        have hk1 := (elB_iff.1 h2).2
        have hv1 := (elB_iff.1 (Bool.and_eq_true_iff.1 h3).1).2
        have ht1 := (elB_iff.1 (Bool.and_eq_true_iff.1 h3).2).2
        go_enter Try.func16, Try.ntmps16
        go_wp2_with (first | (go_at_call 55; refine (i_isElement _ _ _).mono ?_; rintro e w' ⟨rfl, rfl⟩) | (go_at_call 56; refine (i_isTagged _ _ _ _).mono ?_; rintro e w' ⟨rfl, hb⟩; obtain ⟨hc1, hc2⟩ := bcell hb) | (go_at_call 57; refine (i_holds _ _ _ _ _ _ hp (by omega) (by omega) (by omega) (by omega)).mono ?_; rintro e w' ⟨rfl, hb'⟩))
        go_ret2
        exact ⟨rfl, by (repeat (first | exact Below.refl _ _ | assumption | refine bel_trans ?_ (bel_alloc _ _) | refine bel_set ?_ (by first | (dsimp only; omega) | (simp; omega) | simp) _ | refine bel_trans ?_ (bel_drewN _ _) | refine bel_trans ?_ (bel_drew _) | refine bel_trans ?_ (by assumption)))⟩

set_option maxHeartbeats 400000 in
theorem law_FnExactTagHolds (p d k v t : Int) (w : World) (hp : Fits p) (hd : Fits d) (hk : Fits k) (hv : Fits v) (ht : Fits t) :
    Calls Try.prog 3 #[.int .i64 p, .int .i64 d, .int .i64 k, .agg #[.int .i64 v, .int .i64 t]] w fun e w' => e = .returned (.bool true) ∧ Below w.heap.size w w' := by
  go_enter Try.func3, Try.ntmps3
  go_wp2_with (first | (go_at_call 15; refine (l_toTagged _ _ _).mono ?_; rintro e w' ⟨rfl, hb⟩; first | (have hk := two_cells hb; obtain ⟨hk1, hk2⟩ := hk) | (have hk := two_on ⟨hk1, hk2⟩ hb; clear hk1 hk2; obtain ⟨hk1, hk2⟩ := hk)) | (go_at_call 14; refine (s_TagHolds _ _ _ _ _ _ hd hk hv ht).mono ?_; rintro e w' ⟨rfl, hb⟩; first | (have hk := two_cells hb; obtain ⟨hk1, hk2⟩ := hk) | (have hk := two_on ⟨hk1, hk2⟩ hb; clear hk1 hk2; obtain ⟨hk1, hk2⟩ := hk)) | (go_at_call 16; refine (i_TagHolds _ _ _ _ _ _ hd hk hv ht).mono ?_; rintro e w' ⟨rfl, hb⟩))
  go_ret
  exact ⟨rfl, by (repeat (first | exact Below.refl _ _ | assumption | refine bel_trans ?_ (bel_alloc _ _) | refine bel_set ?_ (by first | (dsimp only; omega) | (simp; omega) | simp) _ | refine bel_trans ?_ (bel_drewN _ _) | refine bel_trans ?_ (bel_drew _) | refine bel_trans ?_ (by assumption)))⟩

set_option maxHeartbeats 400000 in
theorem s_ShiftKey (p d key k : Int) (w : World) (hd : Fits d) (hk : Fits key) (hk' : Fits k) :
    Calls Try.prog 17 #[.int .i64 p, .int .i64 d, .int .i64 key, .int .i64 k] w fun e w' =>
      e = .returned (.tuple #[.int .i64 (semShiftKey p d key k).1, .bool (semShiftKey p d key k).2]) ∧ Below w.heap.size w w' := by
  unfold semShiftKey
  cases h1 : elsB p [d, key, k] with
  | false =>
    go_enter Try.func17, Try.ntmps17
    go_wp2_with (go_at_call 52; refine (s_fpIn _ _ _ _ [d, key, k] _ (by exact Ints.lit3 (by simp) hd hk hk')).mono ?_; rintro e w' ⟨rfl, rfl⟩)
    go_ret2
    exact ⟨rfl, by (repeat (first | exact Below.refl _ _ | assumption | refine bel_trans ?_ (bel_alloc _ _) | refine bel_set ?_ (by first | (dsimp only; omega) | (simp; omega) | simp) _ | refine bel_trans ?_ (bel_drewN _ _) | refine bel_trans ?_ (bel_drew _) | refine bel_trans ?_ (by assumption)))⟩
  | true =>
    obtain ⟨hp1, hp2⟩ := elsB_p h1
    obtain ⟨d1, d2⟩ : 0 ≤ d ∧ d ≤ p - 1 := elsB_nth h1 (i := 0) (by simp)
    obtain ⟨q1, q2⟩ : 0 ≤ key ∧ key ≤ p - 1 := elsB_nth h1 (i := 1) (by simp)
    obtain ⟨k1, k2⟩ : 0 ≤ k ∧ k ≤ p - 1 := elsB_nth h1 (i := 2) (by simp)
    obtain ⟨m1, m2⟩ := mul_bd (a := k) (b := d) 251 251 (by omega) (by omega) (by omega) (by omega)
    go_enter Try.func17, Try.ntmps17
    go_wp2_with (first | (go_at_call 52; refine (s_fpIn _ _ _ _ [d, key, k] _ (by exact Ints.lit3 (by simp) hd hk hk')).mono ?_; rintro e w' ⟨rfl, rfl⟩) | (go_at_call 58; refine (s_btMod _ _ _ (by omega) (by omega) (by omega) (by omega)).mono ?_; rintro e w' ⟨rfl, rfl⟩))
    go_ret2
    exact ⟨rfl, by (repeat (first | exact Below.refl _ _ | assumption | refine bel_trans ?_ (bel_alloc _ _) | refine bel_set ?_ (by first | (dsimp only; omega) | (simp; omega) | simp) _ | refine bel_trans ?_ (bel_drewN _ _) | refine bel_trans ?_ (bel_drew _) | refine bel_trans ?_ (by assumption)))⟩

set_option maxHeartbeats 400000 in
theorem i_ShiftKey (p d key k : Int) (w : World) (hd : Fits d) (hk : Fits key) (hk' : Fits k) :
    Calls Try.prog 18 #[.int .i64 p, .int .i64 d, .int .i64 key, .int .i64 k] w fun e w' =>
      e = .returned (.tuple #[.int .i64 (semShiftKey p d key k).1, .bool (semShiftKey p d key k).2]) ∧ Below w.heap.size w w' := by
  unfold semShiftKey
  cases h1 : elsB p [d, key, k] with
  | false =>
    go_enter Try.func18, Try.ntmps18
    go_wp2_with (go_at_call 59; refine (i_areElements _ _ _ _ [d, key, k] _ (by exact Ints.lit3 (by simp) hd hk hk')).mono ?_; rintro e w' ⟨rfl, hb⟩)
    go_ret2
    exact ⟨rfl, by (repeat (first | exact Below.refl _ _ | assumption | refine bel_trans ?_ (bel_alloc _ _) | refine bel_set ?_ (by first | (dsimp only; omega) | (simp; omega) | simp) _ | refine bel_trans ?_ (bel_drewN _ _) | refine bel_trans ?_ (bel_drew _) | refine bel_trans ?_ (by assumption)))⟩
  | true =>
    obtain ⟨hp1, hp2⟩ := elsB_p h1
    obtain ⟨d1, d2⟩ : 0 ≤ d ∧ d ≤ p - 1 := elsB_nth h1 (i := 0) (by simp)
    obtain ⟨q1, q2⟩ : 0 ≤ key ∧ key ≤ p - 1 := elsB_nth h1 (i := 1) (by simp)
    obtain ⟨k1, k2⟩ : 0 ≤ k ∧ k ≤ p - 1 := elsB_nth h1 (i := 2) (by simp)
    obtain ⟨m1, m2⟩ := mul_bd (a := k) (b := d) 251 251 (by omega) (by omega) (by omega) (by omega)
    go_enter Try.func18, Try.ntmps18
    go_wp2_with (first | (go_at_call 59; refine (i_areElements _ _ _ _ [d, key, k] _ (by exact Ints.lit3 (by simp) hd hk hk')).mono ?_; rintro e w' ⟨rfl, hb⟩) | (go_at_call 60; refine (i_mod _ _ _ (by omega) (by omega) (by omega) (by omega)).mono ?_; rintro e w' ⟨rfl, rfl⟩))
    go_ret2
    exact ⟨rfl, by (repeat (first | exact Below.refl _ _ | assumption | refine bel_trans ?_ (bel_alloc _ _) | refine bel_set ?_ (by first | (dsimp only; omega) | (simp; omega) | simp) _ | refine bel_trans ?_ (bel_drewN _ _) | refine bel_trans ?_ (bel_drew _) | refine bel_trans ?_ (by assumption)))⟩

set_option maxHeartbeats 400000 in
theorem law_FnExactShiftKey (p d key k : Int) (w : World) (hp : Fits p) (hd : Fits d) (hk : Fits key) (hk' : Fits k) :
    Calls Try.prog 4 #[.int .i64 p, .int .i64 d, .int .i64 key, .int .i64 k] w fun e w' => e = .returned (.bool true) ∧ Below w.heap.size w w' := by
  go_enter Try.func4, Try.ntmps4
  go_wp2_with (first | (go_at_call 17; refine (s_ShiftKey _ _ _ _ _ hd hk hk').mono ?_; rintro e w' ⟨rfl, hb⟩) | (go_at_call 18; refine (i_ShiftKey _ _ _ _ _ hd hk hk').mono ?_; rintro e w' ⟨rfl, hb⟩))
  go_ret
  exact ⟨rfl, by (repeat (first | exact Below.refl _ _ | assumption | refine bel_trans ?_ (bel_alloc _ _) | refine bel_set ?_ (by first | (dsimp only; omega) | (simp; omega) | simp) _ | refine bel_trans ?_ (bel_drewN _ _) | refine bel_trans ?_ (bel_drew _) | refine bel_trans ?_ (by assumption)))⟩
end Go.Proofs.Ytnamhfaacamihaa
