/-
  Contracts of the functions that hand back a tagged value.
-/
import Derived.Test.YtnamhfaacamihaaT
import Derived.Test.YtnamhfaacamihaaBox
import Derived.StillTailTactics
import Derived.Deep.RegionHeld3
import Derived.Deep.RegionLaw
namespace Go.Proofs.Ytnamhfaacamihaa
open Go.RowKit
set_option linter.unusedVariables false
set_option linter.unusedSimpArgs false

set_option maxHeartbeats 400000 in
theorem s_tgAdd (p v t v' t' k : Int) (w : World) (hp : 2 ≤ p ∧ p ≤ 251) (hv : 0 ≤ v ∧ v ≤ 251) (ht : 0 ≤ t ∧ t ≤ 251) (hv' : 0 ≤ v' ∧ v' ≤ 251) (ht' : 0 ≤ t' ∧ t' ≤ 251) (hk : 0 ≤ k ∧ k ≤ 251) :
    Calls Try.prog 62 #[.int .i64 p, .agg #[.int .i64 v, .int .i64 t], .agg #[.int .i64 v', .int .i64 t'], .int .i64 k] w fun e w' =>
      e = .returned (.agg #[.int .i64 ((v + k * v') % p), .int .i64 ((t + k * t') % p)]) ∧ Below w.heap.size w w' := by
  obtain ⟨hp1, hp2⟩ := hp; obtain ⟨hk1, hk2⟩ := hk; obtain ⟨hv1, hv2⟩ := hv; obtain ⟨ht1, ht2⟩ := ht; obtain ⟨hv3, hv4⟩ := hv'; obtain ⟨ht3, ht4⟩ := ht'
  obtain ⟨q1, q2⟩ := mul_bd (a := k) (b := v') 251 251 hk1 hk2 hv3 hv4
  obtain ⟨q3, q4⟩ := mul_bd (a := k) (b := t') 251 251 hk1 hk2 ht3 ht4
  have hp0 : ¬ p = 0 := by omega
  have e1 : IntKind.i64.wrap (k * v') = k * v' := IntWalk.i64_in _ (by omega)
  have e2 : IntKind.i64.wrap (k * t') = k * t' := IntWalk.i64_in _ (by omega)
  have e3 : IntKind.i64.wrap (v + k * v') = v + k * v' := IntWalk.i64_in _ (by omega)
  have e4 : IntKind.i64.wrap (t + k * t') = t + k * t' := IntWalk.i64_in _ (by omega)
  have e5 : (v + k * v').tmod p = (v + k * v') % p := IntWalk.rem_in _ _ (by omega)
  have e6 : (t + k * t').tmod p = (t + k * t') % p := IntWalk.rem_in _ _ (by omega)
  go_enter Try.func62, Try.ntmps62
  go_wp2
  go_region_held3 (fun W => W.cell? ⟨w.heap.size, 0, none⟩ = some (.int .i64 v) ∧ W.cell? ⟨w.heap.size, 1, none⟩ = some (.int .i64 t) ∧ W.cell? ⟨w.heap.size + 1, 0, none⟩ = some (.int .i64 v') ∧ W.cell? ⟨w.heap.size + 1, 1, none⟩ = some (.int .i64 t')) (simp [go_sem, World.cell?_alloc_past]) (first | fail)
  go_wp2
  exact bodyPost_ret (v := .agg #[.int .i64 ((v + k * v') % p), .int .i64 ((t + k * t') % p)]) (by simp [results, Try.results62, go_sem]) rfl ⟨rfl, by (repeat (first | exact Below.refl _ _ | assumption | refine bel_trans ?_ (bel_alloc _ _) | refine bel_set ?_ (by first | (dsimp only; omega) | (simp; omega) | simp) _ | refine bel_trans ?_ (bel_drewN _ _) | refine bel_trans ?_ (bel_drew _) | refine bel_trans ?_ (by assumption)))⟩

/-- What a sum of tagged values is. -/
def addTg (p v t v' t' : Int) : Int × Int × Bool := if elB p v && elB p t && (elB p v' && elB p t') then ((v + v') % p, (t + t') % p, true) else (0, 0, false)
set_option maxHeartbeats 400000 in
theorem i_AddTagged (p v t v' t' : Int) (w : World) :
    Calls Try.prog 23 #[.int .i64 p, .agg #[.int .i64 v, .int .i64 t], .agg #[.int .i64 v', .int .i64 t']] w fun e w' =>
      e = .returned (.tuple #[.agg #[.int .i64 (addTg p v t v' t').1, .int .i64 (addTg p v t v' t').2.1], .bool (addTg p v t v' t').2.2]) ∧ Below w.heap.size w w' := by
  unfold addTg
  cases h1 : (elB p v && elB p t) with
  | false =>
    go_enter Try.func23, Try.ntmps23
    go_wp2_with (go_at_call 56; refine (i_isTagged _ _ _ _).mono ?_; rintro e w' ⟨rfl, hb⟩; (first | (have H := boxes3 hb; obtain ⟨b0, b1, b2⟩ := H) | (have H := And.intro (b0.on hb) ( And.intro (b1.on hb) (b2.on hb)); clear b0 b1 b2; obtain ⟨b0, b1, b2⟩ := H)); have k0 := b0; obtain ⟨k00, k01, k02, k03⟩ := k0; have k1 := b1; obtain ⟨k10, k11, k12, k13⟩ := k1; have k2 := b2; obtain ⟨k20, k21, k22, k23⟩ := k2)
    exact bodyPost_ret (v := .tuple #[.agg #[.int .i64 0, .int .i64 0], .bool false]) (by simp [results, Try.results23, go_sem, *]) rfl ⟨rfl, by (repeat (first | exact Below.refl _ _ | assumption | refine bel_trans ?_ (bel_alloc _ _) | refine bel_set ?_ (by first | (dsimp only; omega) | (simp; omega) | simp) _ | refine bel_trans ?_ (bel_drewN _ _) | refine bel_trans ?_ (bel_drew _) | refine bel_trans ?_ (by assumption)))⟩
  | true =>
    cases h2 : (elB p v' && elB p t') with
    | false =>
      go_enter Try.func23, Try.ntmps23
      go_wp2_with (go_at_call 56; refine (i_isTagged _ _ _ _).mono ?_; rintro e w' ⟨rfl, hb⟩; (first | (have H := boxes3 hb; obtain ⟨b0, b1, b2⟩ := H) | (have H := And.intro (b0.on hb) ( And.intro (b1.on hb) (b2.on hb)); clear b0 b1 b2; obtain ⟨b0, b1, b2⟩ := H)); have k0 := b0; obtain ⟨k00, k01, k02, k03⟩ := k0; have k1 := b1; obtain ⟨k10, k11, k12, k13⟩ := k1; have k2 := b2; obtain ⟨k20, k21, k22, k23⟩ := k2)
      exact bodyPost_ret (v := .tuple #[.agg #[.int .i64 0, .int .i64 0], .bool false]) (by simp [results, Try.results23, go_sem, *]) rfl ⟨rfl, by (repeat (first | exact Below.refl _ _ | assumption | refine bel_trans ?_ (bel_alloc _ _) | refine bel_set ?_ (by first | (dsimp only; omega) | (simp; omega) | simp) _ | refine bel_trans ?_ (bel_drewN _ _) | refine bel_trans ?_ (bel_drew _) | refine bel_trans ?_ (by assumption)))⟩
    | true =>
      have hp := elB_p (Bool.and_eq_true_iff.1 h1).1
      have hv1 := (elB_iff.1 (Bool.and_eq_true_iff.1 h1).1).2
      have ht1 := (elB_iff.1 (Bool.and_eq_true_iff.1 h1).2).2
      have hv2 := (elB_iff.1 (Bool.and_eq_true_iff.1 h2).1).2
      have ht2 := (elB_iff.1 (Bool.and_eq_true_iff.1 h2).2).2
      obtain ⟨hp1, hp2⟩ := hp
      have e1 : IntKind.i64.wrap (v + v') = v + v' := IntWalk.i64_in _ (by omega)
      have e2 : IntKind.i64.wrap (t + t') = t + t' := IntWalk.i64_in _ (by omega)
      go_enter Try.func23, Try.ntmps23
      go_wp2_with (go_at_call 56; refine (i_isTagged _ _ _ _).mono ?_; rintro e w' ⟨rfl, hb⟩; (first | (have H := boxes3 hb; obtain ⟨b0, b1, b2⟩ := H) | (have H := And.intro (b0.on hb) ( And.intro (b1.on hb) (b2.on hb)); clear b0 b1 b2; obtain ⟨b0, b1, b2⟩ := H)); have k0 := b0; obtain ⟨k00, k01, k02, k03⟩ := k0; have k1 := b1; obtain ⟨k10, k11, k12, k13⟩ := k1; have k2 := b2; obtain ⟨k20, k21, k22, k23⟩ := k2)
      go_region_held3 (fun W => W.cell? ⟨w.heap.size, 0, none⟩ = some (.int .i64 v) ∧ W.cell? ⟨w.heap.size, 1, none⟩ = some (.int .i64 t) ∧ W.cell? ⟨w.heap.size + 1, 0, none⟩ = some (.int .i64 v') ∧ W.cell? ⟨w.heap.size + 1, 1, none⟩ = some (.int .i64 t')) (simp [go_sem, *]) (first | (go_at_call 60; refine (i_mod _ _ _ (by omega) (by omega) (by omega) (by omega)).mono ?_; rintro e w' ⟨rfl, rfl⟩))
      go_wp2
      exact bodyPost_ret (v := .tuple #[.agg #[.int .i64 ((v + v') % p), .int .i64 ((t + t') % p)], .bool true]) (by simp [results, Try.results23, go_sem, *]) rfl ⟨rfl, by (repeat (first | exact Below.refl _ _ | assumption | refine bel_trans ?_ (bel_alloc _ _) | refine bel_set ?_ (by first | (dsimp only; omega) | (simp; omega) | simp) _ | refine bel_trans ?_ (bel_drewN _ _) | refine bel_trans ?_ (bel_drew _) | refine bel_trans ?_ (by assumption)))⟩

set_option maxHeartbeats 400000 in
theorem s_AddTagged (p v t v' t' : Int) (w : World) (hv : Fits v) (ht : Fits t) (hv' : Fits v') (ht' : Fits t') :
    Calls Try.prog 22 #[.int .i64 p, .agg #[.int .i64 v, .int .i64 t], .agg #[.int .i64 v', .int .i64 t']] w fun e w' =>
      e = .returned (.tuple #[.agg #[.int .i64 (addTg p v t v' t').1, .int .i64 (addTg p v t v' t').2.1], .bool (addTg p v t v' t').2.2]) ∧ Below w.heap.size w w' := by
  unfold addTg
  cases h1 : (elB p v && elB p t) with
  | false =>
    go_enter Try.func22, Try.ntmps22
    go_wp2_with (go_at_call 53; refine (s_tgGood _ _ _ _ (by assumption) (by assumption)).mono ?_; rintro e w' ⟨rfl, hb⟩; (first | (have H := boxes3 hb; obtain ⟨b0, b1, b2⟩ := H) | (have H := And.intro (b0.on hb) ( And.intro (b1.on hb) (b2.on hb)); clear b0 b1 b2; obtain ⟨b0, b1, b2⟩ := H)); have k0 := b0; obtain ⟨k00, k01, k02, k03⟩ := k0; have k1 := b1; obtain ⟨k10, k11, k12, k13⟩ := k1; have k2 := b2; obtain ⟨k20, k21, k22, k23⟩ := k2)
    exact bodyPost_ret (v := .tuple #[.agg #[.int .i64 0, .int .i64 0], .bool false]) (by simp [results, Try.results22, go_sem, *]) rfl ⟨rfl, by (repeat (first | exact Below.refl _ _ | assumption | refine bel_trans ?_ (bel_alloc _ _) | refine bel_set ?_ (by first | (dsimp only; omega) | (simp; omega) | simp) _ | refine bel_trans ?_ (bel_drewN _ _) | refine bel_trans ?_ (bel_drew _) | refine bel_trans ?_ (by assumption)))⟩
  | true =>
    cases h2 : (elB p v' && elB p t') with
    | false =>
      go_enter Try.func22, Try.ntmps22
      go_wp2_with fail
      refine (s_tgGood _ _ _ _ hv ht).mono ?_; rintro e w' ⟨rfl, hb⟩; (first | (have H := boxes3 hb; obtain ⟨b0, b1, b2⟩ := H) | (have H := And.intro (b0.on hb) ( And.intro (b1.on hb) (b2.on hb)); clear b0 b1 b2; obtain ⟨b0, b1, b2⟩ := H)); have k0 := b0; obtain ⟨k00, k01, k02, k03⟩ := k0; have k1 := b1; obtain ⟨k10, k11, k12, k13⟩ := k1; have k2 := b2; obtain ⟨k20, k21, k22, k23⟩ := k2
      go_wp2_with fail
      refine (s_tgGood _ _ _ _ hv' ht').mono ?_; rintro e w' ⟨rfl, hb⟩; (first | (have H := boxes3 hb; obtain ⟨b0, b1, b2⟩ := H) | (have H := And.intro (b0.on hb) ( And.intro (b1.on hb) (b2.on hb)); clear b0 b1 b2; obtain ⟨b0, b1, b2⟩ := H)); have k0 := b0; obtain ⟨k00, k01, k02, k03⟩ := k0; have k1 := b1; obtain ⟨k10, k11, k12, k13⟩ := k1; have k2 := b2; obtain ⟨k20, k21, k22, k23⟩ := k2
      go_wp2
      exact bodyPost_ret (v := .tuple #[.agg #[.int .i64 0, .int .i64 0], .bool false]) (by simp [results, Try.results22, go_sem, *]) rfl ⟨rfl, by (repeat (first | exact Below.refl _ _ | assumption | refine bel_trans ?_ (bel_alloc _ _) | refine bel_set ?_ (by first | (dsimp only; omega) | (simp; omega) | simp) _ | refine bel_trans ?_ (bel_drewN _ _) | refine bel_trans ?_ (bel_drew _) | refine bel_trans ?_ (by assumption)))⟩
    | true =>
      have hp := elB_p (Bool.and_eq_true_iff.1 h1).1
      have hv1 := (elB_iff.1 (Bool.and_eq_true_iff.1 h1).1).2
      have ht1 := (elB_iff.1 (Bool.and_eq_true_iff.1 h1).2).2
      have hv2 := (elB_iff.1 (Bool.and_eq_true_iff.1 h2).1).2
      have ht2 := (elB_iff.1 (Bool.and_eq_true_iff.1 h2).2).2
      have H := Lib.hid (And.intro (Int.one_mul v') (Int.one_mul t'))
      go_enter Try.func22, Try.ntmps22
      go_wp2_with fail
      refine (s_tgGood _ _ _ _ hv ht).mono ?_; rintro e w' ⟨rfl, hb⟩; (first | (have H := boxes3 hb; obtain ⟨b0, b1, b2⟩ := H) | (have H := And.intro (b0.on hb) ( And.intro (b1.on hb) (b2.on hb)); clear b0 b1 b2; obtain ⟨b0, b1, b2⟩ := H)); have k0 := b0; obtain ⟨k00, k01, k02, k03⟩ := k0; have k1 := b1; obtain ⟨k10, k11, k12, k13⟩ := k1; have k2 := b2; obtain ⟨k20, k21, k22, k23⟩ := k2
      go_wp2_with fail
      refine (s_tgGood _ _ _ _ hv' ht').mono ?_; rintro e w' ⟨rfl, hb⟩; (first | (have H := boxes3 hb; obtain ⟨b0, b1, b2⟩ := H) | (have H := And.intro (b0.on hb) ( And.intro (b1.on hb) (b2.on hb)); clear b0 b1 b2; obtain ⟨b0, b1, b2⟩ := H)); have k0 := b0; obtain ⟨k00, k01, k02, k03⟩ := k0; have k1 := b1; obtain ⟨k10, k11, k12, k13⟩ := k1; have k2 := b2; obtain ⟨k20, k21, k22, k23⟩ := k2
      go_wp2_with fail
      refine (s_tgAdd _ _ _ _ _ _ _ hp (by omega) (by omega) (by omega) (by omega) (by omega)).mono ?_; rintro e w' ⟨rfl, hb⟩; (first | (have H := boxes3 hb; obtain ⟨b0, b1, b2⟩ := H) | (have H := And.intro (b0.on hb) ( And.intro (b1.on hb) (b2.on hb)); clear b0 b1 b2; obtain ⟨b0, b1, b2⟩ := H)); have k0 := b0; obtain ⟨k00, k01, k02, k03⟩ := k0; have k1 := b1; obtain ⟨k10, k11, k12, k13⟩ := k1; have k2 := b2; obtain ⟨k20, k21, k22, k23⟩ := k2
      rw [H.out.1, H.out.2]
      go_wp2
      exact bodyPost_ret (v := .tuple #[.agg #[.int .i64 ((v + v') % p), .int .i64 ((t + t') % p)], .bool true]) (by simp [results, Try.results22, go_sem, *]) rfl ⟨rfl, by (repeat (first | exact Below.refl _ _ | assumption | refine bel_trans ?_ (bel_alloc _ _) | refine bel_set ?_ (by first | (dsimp only; omega) | (simp; omega) | simp) _ | refine bel_trans ?_ (bel_drewN _ _) | refine bel_trans ?_ (bel_drew _) | refine bel_trans ?_ (by assumption)))⟩

set_option maxHeartbeats 400000 in
theorem l_eqTagged (v t : Int) (w : World) :
    Calls Try.prog 21 #[.agg #[.int .i64 v, .int .i64 t], .agg #[.int .i64 v, .int .i64 t]] w fun e w' => e = .returned (.bool true) ∧ Below w.heap.size w w' := by
  go_enter Try.func21, Try.ntmps21
  go_wp2
  go_ret
  exact ⟨rfl, by (repeat (first | exact Below.refl _ _ | assumption | refine bel_trans ?_ (bel_alloc _ _) | refine bel_set ?_ (by first | (dsimp only; omega) | (simp; omega) | simp) _ | refine bel_trans ?_ (bel_drewN _ _) | refine bel_trans ?_ (bel_drew _) | refine bel_trans ?_ (by assumption)))⟩


/-- What a product is; a shifted value; a value with its tag. -/
def scaleTg (p v t k : Int) : Int × Int × Bool := if elB p v && elB p t && elB p k then ((v * k) % p, (t * k) % p, true) else (0, 0, false)
def shiftTg (p v t k : Int) : Int × Int × Bool := if elB p v && elB p t && elB p k then ((v + k) % p, t, true) else (0, 0, false)
def tagFor (p d k v : Int) : Int × Int × Bool := if elsB p [d, k, v] then (v, (v * d + k) % p, true) else (0, 0, false)

set_option maxHeartbeats 400000 in
theorem i_ScaleTagged (p v t k : Int) (w : World) :
    Calls Try.prog 25 #[.int .i64 p, .agg #[.int .i64 v, .int .i64 t], .int .i64 k] w fun e w' =>
      e = .returned (.tuple #[.agg #[.int .i64 (scaleTg p v t k).1, .int .i64 (scaleTg p v t k).2.1], .bool (scaleTg p v t k).2.2]) ∧ Below w.heap.size w w' := by
  unfold scaleTg
  cases h1 : (elB p v && elB p t) with
  | false =>
    go_enter Try.func25, Try.ntmps25
    go_wp2_with (first | (go_at_call 56; refine (i_isTagged _ _ _ _).mono ?_; rintro e w' ⟨rfl, hb⟩; (first | (have H := boxes2 hb; obtain ⟨b0, b1⟩ := H) | (have H := And.intro (b0.on hb) (b1.on hb); clear b0 b1; obtain ⟨b0, b1⟩ := H)); have k0 := b0; obtain ⟨k00, k01, k02, k03⟩ := k0; have k1 := b1; obtain ⟨k10, k11, k12, k13⟩ := k1) | (go_at_call 55; refine (i_isElement _ _ _).mono ?_; rintro e w' ⟨rfl, rfl⟩))
    exact bodyPost_ret (v := .tuple #[.agg #[.int .i64 0, .int .i64 0], .bool false]) (by simp [results, Try.results25, go_sem, *]) rfl ⟨rfl, by (repeat (first | exact Below.refl _ _ | assumption | refine bel_trans ?_ (bel_alloc _ _) | refine bel_set ?_ (by first | (dsimp only; omega) | (simp; omega) | simp) _ | refine bel_trans ?_ (bel_drewN _ _) | refine bel_trans ?_ (bel_drew _) | refine bel_trans ?_ (by assumption)))⟩
  | true =>
    cases h2 : elB p k with
    | false =>
      go_enter Try.func25, Try.ntmps25
      go_wp2_with (first | (go_at_call 56; refine (i_isTagged _ _ _ _).mono ?_; rintro e w' ⟨rfl, hb⟩; (first | (have H := boxes2 hb; obtain ⟨b0, b1⟩ := H) | (have H := And.intro (b0.on hb) (b1.on hb); clear b0 b1; obtain ⟨b0, b1⟩ := H)); have k0 := b0; obtain ⟨k00, k01, k02, k03⟩ := k0; have k1 := b1; obtain ⟨k10, k11, k12, k13⟩ := k1) | (go_at_call 55; refine (i_isElement _ _ _).mono ?_; rintro e w' ⟨rfl, rfl⟩))
      exact bodyPost_ret (v := .tuple #[.agg #[.int .i64 0, .int .i64 0], .bool false]) (by simp [results, Try.results25, go_sem, *]) rfl ⟨rfl, by (repeat (first | exact Below.refl _ _ | assumption | refine bel_trans ?_ (bel_alloc _ _) | refine bel_set ?_ (by first | (dsimp only; omega) | (simp; omega) | simp) _ | refine bel_trans ?_ (bel_drewN _ _) | refine bel_trans ?_ (bel_drew _) | refine bel_trans ?_ (by assumption)))⟩
    | true =>
      have hp := elB_p (Bool.and_eq_true_iff.1 h1).1
      obtain ⟨hv1, hv2⟩ := (elB_iff.1 (Bool.and_eq_true_iff.1 h1).1).2
      obtain ⟨ht1, ht2⟩ := (elB_iff.1 (Bool.and_eq_true_iff.1 h1).2).2
      obtain ⟨hk1, hk2⟩ := (elB_iff.1 h2).2
      obtain ⟨hp1, hp2⟩ := hp
      obtain ⟨m1, m2⟩ := mul_bd (a := v) (b := k) 251 251 (by omega) (by omega) (by omega) (by omega)
      obtain ⟨m3, m4⟩ := mul_bd (a := t) (b := k) 251 251 (by omega) (by omega) (by omega) (by omega)
      have e1 : IntKind.i64.wrap (v * k) = v * k := IntWalk.i64_in _ (by omega)
      have e2 : IntKind.i64.wrap (t * k) = t * k := IntWalk.i64_in _ (by omega)
      go_enter Try.func25, Try.ntmps25
      go_wp2_with (first | (go_at_call 56; refine (i_isTagged _ _ _ _).mono ?_; rintro e w' ⟨rfl, hb⟩; (first | (have H := boxes2 hb; obtain ⟨b0, b1⟩ := H) | (have H := And.intro (b0.on hb) (b1.on hb); clear b0 b1; obtain ⟨b0, b1⟩ := H)); have k0 := b0; obtain ⟨k00, k01, k02, k03⟩ := k0; have k1 := b1; obtain ⟨k10, k11, k12, k13⟩ := k1) | (go_at_call 55; refine (i_isElement _ _ _).mono ?_; rintro e w' ⟨rfl, rfl⟩))
      go_region_held3 (fun W => W.cell? ⟨w.heap.size, 0, none⟩ = some (.int .i64 v) ∧ W.cell? ⟨w.heap.size, 1, none⟩ = some (.int .i64 t)) (simp [go_sem, *]) (first | (go_at_call 60; refine (i_mod _ _ _ (by omega) (by omega) (by omega) (by omega)).mono ?_; rintro e w' ⟨rfl, rfl⟩))
      go_wp2
      exact bodyPost_ret (v := .tuple #[.agg #[.int .i64 ((v * k) % p), .int .i64 ((t * k) % p)], .bool true]) (by simp [results, Try.results25, go_sem, *]) rfl ⟨rfl, by (repeat (first | exact Below.refl _ _ | assumption | refine bel_trans ?_ (bel_alloc _ _) | refine bel_set ?_ (by first | (dsimp only; omega) | (simp; omega) | simp) _ | refine bel_trans ?_ (bel_drewN _ _) | refine bel_trans ?_ (bel_drew _) | refine bel_trans ?_ (by assumption)))⟩

set_option maxHeartbeats 400000 in
theorem i_ShiftTagged (p v t k : Int) (w : World) :
    Calls Try.prog 20 #[.int .i64 p, .agg #[.int .i64 v, .int .i64 t], .int .i64 k] w fun e w' =>
      e = .returned (.tuple #[.agg #[.int .i64 (shiftTg p v t k).1, .int .i64 (shiftTg p v t k).2.1], .bool (shiftTg p v t k).2.2]) ∧ Below w.heap.size w w' := by
  unfold shiftTg
  cases h1 : (elB p v && elB p t) with
  | false =>
    go_enter Try.func20, Try.ntmps20
    go_wp2_with (first | (go_at_call 56; refine (i_isTagged _ _ _ _).mono ?_; rintro e w' ⟨rfl, hb⟩; (first | (have H := boxes2 hb; obtain ⟨b0, b1⟩ := H) | (have H := And.intro (b0.on hb) (b1.on hb); clear b0 b1; obtain ⟨b0, b1⟩ := H)); have k0 := b0; obtain ⟨k00, k01, k02, k03⟩ := k0; have k1 := b1; obtain ⟨k10, k11, k12, k13⟩ := k1) | (go_at_call 55; refine (i_isElement _ _ _).mono ?_; rintro e w' ⟨rfl, rfl⟩))
    exact bodyPost_ret (v := .tuple #[.agg #[.int .i64 0, .int .i64 0], .bool false]) (by simp [results, Try.results20, go_sem, *]) rfl ⟨rfl, by (repeat (first | exact Below.refl _ _ | assumption | refine bel_trans ?_ (bel_alloc _ _) | refine bel_set ?_ (by first | (dsimp only; omega) | (simp; omega) | simp) _ | refine bel_trans ?_ (bel_drewN _ _) | refine bel_trans ?_ (bel_drew _) | refine bel_trans ?_ (by assumption)))⟩
  | true =>
    cases h2 : elB p k with
    | false =>
      go_enter Try.func20, Try.ntmps20
      go_wp2_with (first | (go_at_call 56; refine (i_isTagged _ _ _ _).mono ?_; rintro e w' ⟨rfl, hb⟩; (first | (have H := boxes2 hb; obtain ⟨b0, b1⟩ := H) | (have H := And.intro (b0.on hb) (b1.on hb); clear b0 b1; obtain ⟨b0, b1⟩ := H)); have k0 := b0; obtain ⟨k00, k01, k02, k03⟩ := k0; have k1 := b1; obtain ⟨k10, k11, k12, k13⟩ := k1) | (go_at_call 55; refine (i_isElement _ _ _).mono ?_; rintro e w' ⟨rfl, rfl⟩))
      exact bodyPost_ret (v := .tuple #[.agg #[.int .i64 0, .int .i64 0], .bool false]) (by simp [results, Try.results20, go_sem, *]) rfl ⟨rfl, by (repeat (first | exact Below.refl _ _ | assumption | refine bel_trans ?_ (bel_alloc _ _) | refine bel_set ?_ (by first | (dsimp only; omega) | (simp; omega) | simp) _ | refine bel_trans ?_ (bel_drewN _ _) | refine bel_trans ?_ (bel_drew _) | refine bel_trans ?_ (by assumption)))⟩
    | true =>
      have hp := elB_p (Bool.and_eq_true_iff.1 h1).1
      obtain ⟨hv1, hv2⟩ := (elB_iff.1 (Bool.and_eq_true_iff.1 h1).1).2
      obtain ⟨ht1, ht2⟩ := (elB_iff.1 (Bool.and_eq_true_iff.1 h1).2).2
      obtain ⟨hk1, hk2⟩ := (elB_iff.1 h2).2
      obtain ⟨hp1, hp2⟩ := hp
      have e1 : IntKind.i64.wrap (v + k) = v + k := IntWalk.i64_in _ (by omega)
      go_enter Try.func20, Try.ntmps20
      go_wp2_with (first | (go_at_call 56; refine (i_isTagged _ _ _ _).mono ?_; rintro e w' ⟨rfl, hb⟩; (first | (have H := boxes2 hb; obtain ⟨b0, b1⟩ := H) | (have H := And.intro (b0.on hb) (b1.on hb); clear b0 b1; obtain ⟨b0, b1⟩ := H)); have k0 := b0; obtain ⟨k00, k01, k02, k03⟩ := k0; have k1 := b1; obtain ⟨k10, k11, k12, k13⟩ := k1) | (go_at_call 55; refine (i_isElement _ _ _).mono ?_; rintro e w' ⟨rfl, rfl⟩))
      go_region_held3 (fun W => W.cell? ⟨w.heap.size, 0, none⟩ = some (.int .i64 v) ∧ W.cell? ⟨w.heap.size, 1, none⟩ = some (.int .i64 t)) (simp [go_sem, *]) (first | (go_at_call 60; refine (i_mod _ _ _ (by omega) (by omega) (by omega) (by omega)).mono ?_; rintro e w' ⟨rfl, rfl⟩))
      go_wp2
      exact bodyPost_ret (v := .tuple #[.agg #[.int .i64 ((v + k) % p), .int .i64 (t)], .bool true]) (by simp [results, Try.results20, go_sem, *]) rfl ⟨rfl, by (repeat (first | exact Below.refl _ _ | assumption | refine bel_trans ?_ (bel_alloc _ _) | refine bel_set ?_ (by first | (dsimp only; omega) | (simp; omega) | simp) _ | refine bel_trans ?_ (bel_drewN _ _) | refine bel_trans ?_ (bel_drew _) | refine bel_trans ?_ (by assumption)))⟩

set_option maxHeartbeats 400000 in
theorem s_ScaleTagged (p v t k : Int) (w : World) (hv : Fits v) (ht : Fits t) :
    Calls Try.prog 24 #[.int .i64 p, .agg #[.int .i64 v, .int .i64 t], .int .i64 k] w fun e w' =>
      e = .returned (.tuple #[.agg #[.int .i64 (scaleTg p v t k).1, .int .i64 (scaleTg p v t k).2.1], .bool (scaleTg p v t k).2.2]) ∧ Below w.heap.size w w' := by
  unfold scaleTg
  cases h1 : (elB p v && elB p t) with
  | false =>
    go_enter Try.func24, Try.ntmps24
    go_wp2_with (go_at_call 53; refine (s_tgGood _ _ _ _ (by assumption) (by assumption)).mono ?_; rintro e w' ⟨rfl, hb⟩; (first | (have H := boxes2 hb; obtain ⟨b0, b1⟩ := H) | (have H := And.intro (b0.on hb) (b1.on hb); clear b0 b1; obtain ⟨b0, b1⟩ := H)); have k0 := b0; obtain ⟨k00, k01, k02, k03⟩ := k0; have k1 := b1; obtain ⟨k10, k11, k12, k13⟩ := k1)
    exact bodyPost_ret (v := .tuple #[.agg #[.int .i64 0, .int .i64 0], .bool false]) (by simp [results, Try.results24, go_sem, *]) rfl ⟨rfl, by (repeat (first | exact Below.refl _ _ | assumption | refine bel_trans ?_ (bel_alloc _ _) | refine bel_set ?_ (by first | (dsimp only; omega) | (simp; omega) | simp) _ | refine bel_trans ?_ (bel_drewN _ _) | refine bel_trans ?_ (bel_drew _) | refine bel_trans ?_ (by assumption)))⟩
  | true =>
    obtain ⟨hp1, hp2⟩ := elB_p (Bool.and_eq_true_iff.1 h1).1
    have hpr := (elB_iff.1 (Bool.and_eq_true_iff.1 h1).1).1
    have hkk : elB p k = inB k 0 (p - 1) := by unfold elB; rw [hpr, Bool.true_and]
    rw [hkk]; clear hkk
    cases h2 : inB k 0 (p - 1) with
    | false =>
      go_enter Try.func24, Try.ntmps24
      go_wp2_with fail
      refine (s_tgGood _ _ _ _ hv ht).mono ?_; rintro e w' ⟨rfl, hb⟩; (first | (have H := boxes2 hb; obtain ⟨b0, b1⟩ := H) | (have H := And.intro (b0.on hb) (b1.on hb); clear b0 b1; obtain ⟨b0, b1⟩ := H)); have k0 := b0; obtain ⟨k00, k01, k02, k03⟩ := k0; have k1 := b1; obtain ⟨k10, k11, k12, k13⟩ := k1
      go_wp2_with fail
      refine (s_l1In _ _ _ _).mono ?_; rintro e w' ⟨rfl, rfl⟩
      go_wp2
      exact bodyPost_ret (v := .tuple #[.agg #[.int .i64 0, .int .i64 0], .bool false]) (by simp [results, Try.results24, go_sem, *]) rfl ⟨rfl, by (repeat (first | exact Below.refl _ _ | assumption | refine bel_trans ?_ (bel_alloc _ _) | refine bel_set ?_ (by first | (dsimp only; omega) | (simp; omega) | simp) _ | refine bel_trans ?_ (bel_drewN _ _) | refine bel_trans ?_ (bel_drew _) | refine bel_trans ?_ (by assumption)))⟩
    | true =>
      obtain ⟨hv1, hv2⟩ := (elB_iff.1 (Bool.and_eq_true_iff.1 h1).1).2
      obtain ⟨ht1, ht2⟩ := (elB_iff.1 (Bool.and_eq_true_iff.1 h1).2).2
      obtain ⟨hk1, hk2⟩ := inB_iff.1 h2
      have H := Lib.hid (show (0 + k * v) % p = (v * k) % p ∧ (0 + k * t) % p = (t * k) % p by rw [Int.zero_add, Int.zero_add, Int.mul_comm k v, Int.mul_comm k t]; exact ⟨rfl, rfl⟩)
      go_enter Try.func24, Try.ntmps24
      go_wp2_with fail
      refine (s_tgGood _ _ _ _ hv ht).mono ?_; rintro e w' ⟨rfl, hb⟩; (first | (have H := boxes2 hb; obtain ⟨b0, b1⟩ := H) | (have H := And.intro (b0.on hb) (b1.on hb); clear b0 b1; obtain ⟨b0, b1⟩ := H)); have k0 := b0; obtain ⟨k00, k01, k02, k03⟩ := k0; have k1 := b1; obtain ⟨k10, k11, k12, k13⟩ := k1
      go_wp2_with fail
      refine (s_l1In _ _ _ _).mono ?_; rintro e w' ⟨rfl, rfl⟩
      go_wp2_with fail
      refine (s_tgAdd _ _ _ _ _ _ _ ⟨hp1, hp2⟩ (by omega) (by omega) (by omega) (by omega) (by omega)).mono ?_; rintro e w' ⟨rfl, hb⟩; (first | (have H := boxes2 hb; obtain ⟨b0, b1⟩ := H) | (have H := And.intro (b0.on hb) (b1.on hb); clear b0 b1; obtain ⟨b0, b1⟩ := H)); have k0 := b0; obtain ⟨k00, k01, k02, k03⟩ := k0; have k1 := b1; obtain ⟨k10, k11, k12, k13⟩ := k1
      rw [H.out.1, H.out.2]
      go_wp2
      exact bodyPost_ret (v := .tuple #[.agg #[.int .i64 ((v * k) % p), .int .i64 ((t * k) % p)], .bool true]) (by simp [results, Try.results24, go_sem, *]) rfl ⟨rfl, by (repeat (first | exact Below.refl _ _ | assumption | refine bel_trans ?_ (bel_alloc _ _) | refine bel_set ?_ (by first | (dsimp only; omega) | (simp; omega) | simp) _ | refine bel_trans ?_ (bel_drewN _ _) | refine bel_trans ?_ (bel_drew _) | refine bel_trans ?_ (by assumption)))⟩

set_option maxHeartbeats 400000 in
theorem s_ShiftTagged (p v t k : Int) (w : World) (hv : Fits v) (ht : Fits t) :
    Calls Try.prog 19 #[.int .i64 p, .agg #[.int .i64 v, .int .i64 t], .int .i64 k] w fun e w' =>
      e = .returned (.tuple #[.agg #[.int .i64 (shiftTg p v t k).1, .int .i64 (shiftTg p v t k).2.1], .bool (shiftTg p v t k).2.2]) ∧ Below w.heap.size w w' := by
  unfold shiftTg
  cases h1 : (elB p v && elB p t) with
  | false =>
    go_enter Try.func19, Try.ntmps19
    go_wp2_with (go_at_call 53; refine (s_tgGood _ _ _ _ (by assumption) (by assumption)).mono ?_; rintro e w' ⟨rfl, hb⟩; (first | (have H := boxes2 hb; obtain ⟨b0, b1⟩ := H) | (have H := And.intro (b0.on hb) (b1.on hb); clear b0 b1; obtain ⟨b0, b1⟩ := H)); have k0 := b0; obtain ⟨k00, k01, k02, k03⟩ := k0; have k1 := b1; obtain ⟨k10, k11, k12, k13⟩ := k1)
    exact bodyPost_ret (v := .tuple #[.agg #[.int .i64 0, .int .i64 0], .bool false]) (by simp [results, Try.results19, go_sem, *]) rfl ⟨rfl, by (repeat (first | exact Below.refl _ _ | assumption | refine bel_trans ?_ (bel_alloc _ _) | refine bel_set ?_ (by first | (dsimp only; omega) | (simp; omega) | simp) _ | refine bel_trans ?_ (bel_drewN _ _) | refine bel_trans ?_ (bel_drew _) | refine bel_trans ?_ (by assumption)))⟩
  | true =>
    obtain ⟨hp1, hp2⟩ := elB_p (Bool.and_eq_true_iff.1 h1).1
    have hpr := (elB_iff.1 (Bool.and_eq_true_iff.1 h1).1).1
    have hkk : elB p k = inB k 0 (p - 1) := by unfold elB; rw [hpr, Bool.true_and]
    rw [hkk]; clear hkk
    cases h2 : inB k 0 (p - 1) with
    | false =>
      go_enter Try.func19, Try.ntmps19
      go_wp2_with fail
      refine (s_tgGood _ _ _ _ hv ht).mono ?_; rintro e w' ⟨rfl, hb⟩; (first | (have H := boxes2 hb; obtain ⟨b0, b1⟩ := H) | (have H := And.intro (b0.on hb) (b1.on hb); clear b0 b1; obtain ⟨b0, b1⟩ := H)); have k0 := b0; obtain ⟨k00, k01, k02, k03⟩ := k0; have k1 := b1; obtain ⟨k10, k11, k12, k13⟩ := k1
      go_wp2_with fail
      refine (s_l1In _ _ _ _).mono ?_; rintro e w' ⟨rfl, rfl⟩
      go_wp2
      exact bodyPost_ret (v := .tuple #[.agg #[.int .i64 0, .int .i64 0], .bool false]) (by simp [results, Try.results19, go_sem, *]) rfl ⟨rfl, by (repeat (first | exact Below.refl _ _ | assumption | refine bel_trans ?_ (bel_alloc _ _) | refine bel_set ?_ (by first | (dsimp only; omega) | (simp; omega) | simp) _ | refine bel_trans ?_ (bel_drewN _ _) | refine bel_trans ?_ (bel_drew _) | refine bel_trans ?_ (by assumption)))⟩
    | true =>
      obtain ⟨hv1, hv2⟩ := (elB_iff.1 (Bool.and_eq_true_iff.1 h1).1).2
      obtain ⟨ht1, ht2⟩ := (elB_iff.1 (Bool.and_eq_true_iff.1 h1).2).2
      obtain ⟨hk1, hk2⟩ := inB_iff.1 h2
      have hp0 : ¬ p = 0 := by omega
      have e1 : IntKind.i64.wrap (v + k) = v + k := IntWalk.i64_in _ (by omega)
      have e2 : (v + k).tmod p = (v + k) % p := IntWalk.rem_in _ _ (by omega)
      go_enter Try.func19, Try.ntmps19
      go_wp2_with fail
      refine (s_tgGood _ _ _ _ hv ht).mono ?_; rintro e w' ⟨rfl, hb⟩; (first | (have H := boxes2 hb; obtain ⟨b0, b1⟩ := H) | (have H := And.intro (b0.on hb) (b1.on hb); clear b0 b1; obtain ⟨b0, b1⟩ := H)); have k0 := b0; obtain ⟨k00, k01, k02, k03⟩ := k0; have k1 := b1; obtain ⟨k10, k11, k12, k13⟩ := k1
      go_wp2_with fail
      refine (s_l1In _ _ _ _).mono ?_; rintro e w' ⟨rfl, rfl⟩
      go_wp2
      go_region_held3 (fun W => W.cell? ⟨w.heap.size, 0, none⟩ = some (.int .i64 v) ∧ W.cell? ⟨w.heap.size, 1, none⟩ = some (.int .i64 t)) (simp [go_sem, *]) (first | fail)
      go_wp2
      exact bodyPost_ret (v := .tuple #[.agg #[.int .i64 ((v + k) % p), .int .i64 (t)], .bool true]) (by simp [results, Try.results19, go_sem, *]) rfl ⟨rfl, by (repeat (first | exact Below.refl _ _ | assumption | refine bel_trans ?_ (bel_alloc _ _) | refine bel_set ?_ (by first | (dsimp only; omega) | (simp; omega) | simp) _ | refine bel_trans ?_ (bel_drewN _ _) | refine bel_trans ?_ (bel_drew _) | refine bel_trans ?_ (by assumption)))⟩

set_option maxHeartbeats 400000 in
theorem s_TagFor (p d k v : Int) (w : World) (hd : Fits d) (hk : Fits k) (hv : Fits v) :
    Calls Try.prog 26 #[.int .i64 p, .int .i64 d, .int .i64 k, .int .i64 v] w fun e w' =>
      e = .returned (.tuple #[.agg #[.int .i64 (tagFor p d k v).1, .int .i64 (tagFor p d k v).2.1], .bool (tagFor p d k v).2.2]) ∧ Below w.heap.size w w' := by
  unfold tagFor
  cases h1 : elsB p [d, k, v] with
  | false =>
    go_enter Try.func26, Try.ntmps26
    go_wp2_with (go_at_call 52; refine (s_fpIn _ _ _ _ [d, k, v] _ (by exact Ints.lit3 (by simp) hd hk hv)).mono ?_; rintro e w' ⟨rfl, rfl⟩)
    exact bodyPost_ret (v := .tuple #[.agg #[.int .i64 0, .int .i64 0], .bool false]) (by simp [results, Try.results26, go_sem, *]) rfl ⟨rfl, by (repeat (first | exact Below.refl _ _ | assumption | refine bel_trans ?_ (bel_alloc _ _) | refine bel_set ?_ (by first | (dsimp only; omega) | (simp; omega) | simp) _ | refine bel_trans ?_ (bel_drewN _ _) | refine bel_trans ?_ (bel_drew _) | refine bel_trans ?_ (by assumption)))⟩
  | true =>
    obtain ⟨hp1, hp2⟩ := elsB_p h1
    obtain ⟨d1, d2⟩ : 0 ≤ d ∧ d ≤ p - 1 := elsB_nth h1 (i := 0) (by simp)
    obtain ⟨k1, k2⟩ : 0 ≤ k ∧ k ≤ p - 1 := elsB_nth h1 (i := 1) (by simp)
    obtain ⟨v1, v2⟩ : 0 ≤ v ∧ v ≤ p - 1 := elsB_nth h1 (i := 2) (by simp)
    obtain ⟨m1, m2⟩ := mul_bd (a := v) (b := d) 251 251 (by omega) (by omega) (by omega) (by omega)
    have hp0 : ¬ p = 0 := by omega
    have e1 : IntKind.i64.wrap (v * d) = v * d := IntWalk.i64_in _ (by omega)
    have e2 : IntKind.i64.wrap (v * d + k) = v * d + k := IntWalk.i64_in _ (by omega)
    have e3 : (v * d + k).tmod p = (v * d + k) % p := IntWalk.rem_in _ _ (by omega)
    go_enter Try.func26, Try.ntmps26
    go_wp2_with (go_at_call 52; refine (s_fpIn _ _ _ _ [d, k, v] _ (by exact Ints.lit3 (by simp) hd hk hv)).mono ?_; rintro e w' ⟨rfl, rfl⟩)
    exact bodyPost_ret (v := .tuple #[.agg #[.int .i64 v, .int .i64 ((v * d + k) % p)], .bool true]) (by simp [results, Try.results26, go_sem, *]) rfl ⟨rfl, by (repeat (first | exact Below.refl _ _ | assumption | refine bel_trans ?_ (bel_alloc _ _) | refine bel_set ?_ (by first | (dsimp only; omega) | (simp; omega) | simp) _ | refine bel_trans ?_ (bel_drewN _ _) | refine bel_trans ?_ (bel_drew _) | refine bel_trans ?_ (by assumption)))⟩

set_option maxHeartbeats 400000 in
theorem i_TagFor (p d k v : Int) (w : World) (hd : Fits d) (hk : Fits k) (hv : Fits v) :
    Calls Try.prog 27 #[.int .i64 p, .int .i64 d, .int .i64 k, .int .i64 v] w fun e w' =>
      e = .returned (.tuple #[.agg #[.int .i64 (tagFor p d k v).1, .int .i64 (tagFor p d k v).2.1], .bool (tagFor p d k v).2.2]) ∧ Below w.heap.size w w' := by
  unfold tagFor
  cases h1 : elsB p [d, k, v] with
  | false =>
    go_enter Try.func27, Try.ntmps27
    go_wp2_with (go_at_call 59; refine (i_areElements _ _ _ _ [d, k, v] _ (by exact Ints.lit3 (by simp) hd hk hv)).mono ?_; rintro e w' ⟨rfl, hb⟩; have hn := Bx.on (Bx.alloc Bx.new _) hb; obtain ⟨n0, n1, n2, n3⟩ := hn; (try simp only [World.size_alloc, size_drew'] at n0 n1 n2 n3))
    exact bodyPost_ret (v := .tuple #[.agg #[.int .i64 0, .int .i64 0], .bool false]) (by simp [results, Try.results27, go_sem, *]) rfl ⟨rfl, by (repeat (first | exact Below.refl _ _ | assumption | refine bel_trans ?_ (bel_alloc _ _) | refine bel_set ?_ (by first | (dsimp only; omega) | (simp; omega) | simp) _ | refine bel_trans ?_ (bel_drewN _ _) | refine bel_trans ?_ (bel_drew _) | refine bel_trans ?_ (by assumption)))⟩
  | true =>
    obtain ⟨hp1, hp2⟩ := elsB_p h1
    obtain ⟨d1, d2⟩ : 0 ≤ d ∧ d ≤ p - 1 := elsB_nth h1 (i := 0) (by simp)
    obtain ⟨k1, k2⟩ : 0 ≤ k ∧ k ≤ p - 1 := elsB_nth h1 (i := 1) (by simp)
    obtain ⟨v1, v2⟩ : 0 ≤ v ∧ v ≤ p - 1 := elsB_nth h1 (i := 2) (by simp)
    obtain ⟨m1, m2⟩ := mul_bd (a := v) (b := d) 251 251 (by omega) (by omega) (by omega) (by omega)
    have hp0 : ¬ p = 0 := by omega
    have e1 : IntKind.i64.wrap (v * d) = v * d := IntWalk.i64_in _ (by omega)
    have e2 : IntKind.i64.wrap (v * d + k) = v * d + k := IntWalk.i64_in _ (by omega)
    have e3 : (v * d + k).tmod p = (v * d + k) % p := IntWalk.rem_in _ _ (by omega)
    go_enter Try.func27, Try.ntmps27
    go_wp2_with (first | (go_at_call 59; refine (i_areElements _ _ _ _ [d, k, v] _ (by exact Ints.lit3 (by simp) hd hk hv)).mono ?_; rintro e w' ⟨rfl, hb⟩; have hn := Bx.on (Bx.alloc Bx.new _) hb; obtain ⟨n0, n1, n2, n3⟩ := hn; (try simp only [World.size_alloc, size_drew'] at n0 n1 n2 n3)) | (go_at_call 60; refine (i_mod _ _ _ (by omega) (by omega) (by omega) (by omega)).mono ?_; rintro e w' ⟨rfl, rfl⟩))
    exact bodyPost_ret (v := .tuple #[.agg #[.int .i64 v, .int .i64 ((v * d + k) % p)], .bool true]) (by simp [results, Try.results27, go_sem, *]) rfl ⟨rfl, by (repeat (first | exact Below.refl _ _ | assumption | refine bel_trans ?_ (bel_alloc _ _) | refine bel_set ?_ (by first | (dsimp only; omega) | (simp; omega) | simp) _ | refine bel_trans ?_ (bel_drewN _ _) | refine bel_trans ?_ (bel_drew _) | refine bel_trans ?_ (by assumption)))⟩
end Go.Proofs.Ytnamhfaacamihaa
