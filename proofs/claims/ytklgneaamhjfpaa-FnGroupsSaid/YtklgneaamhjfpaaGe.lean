/-
  IsElement; what views are: elements, the first messages not 1.
-/
import Derived.Test.YtklgneaamhjfpaaGl
import Derived.Test.YtklgneaamhjfpaaG9
namespace Go.Proofs.Ytklgneaamhjfpaa
open Go.RowKit
set_option linter.unusedVariables false
set_option linter.unusedSimpArgs false

set_option maxHeartbeats 1000000 in
theorem i_IsElement (P Q G a : Int) (w : World) :
    Calls Try.prog 11 #[.agg #[.int .i64 P, .int .i64 Q, .int .i64 G], .int .i64 a] w fun e w' => e = .returned (.tuple #[.bool (grB P Q G && hasB P Q a), .bool (grB P Q G)]) ∧ Below w.heap.size w w' := by
  cases h1 : grB P Q G with
  | false =>
    go_enter Try.func11, Try.ntmps11
    go_wp2_with (first | (go_at_call 42; refine (i_IsGroup _ _ _ _).mono ?_; rintro e w' ⟨rfl, hb⟩; (first | (have H := gbox1 hb) | (have H := Gx.on gb0 hb; clear gb0 k0 k1 k2)); have gb0 := H; have kk := H; clear H; obtain ⟨k0, k1, k2⟩ := kk))
    all_goals
      go_ret2
      exact ⟨rfl, by (repeat (first | exact Below.refl _ _ | assumption | refine bel_trans ?_ (bel_alloc _ _) | refine bel_set ?_ (by first | (dsimp only; omega) | (simp; omega) | simp) _ | refine bel_trans ?_ (bel_drewN _ _) | refine bel_trans ?_ (bel_drew _) | refine bel_trans ?_ (by assumption)))⟩
  | true =>
    obtain ⟨hP, hQ, hG⟩ := grB_lo h1
    go_enter Try.func11, Try.ntmps11
    go_wp2_with (first | (go_at_call 42; refine (i_IsGroup _ _ _ _).mono ?_; rintro e w' ⟨rfl, hb⟩; (first | (have H := gbox1 hb) | (have H := Gx.on gb0 hb; clear gb0 k0 k1 k2)); have gb0 := H; have kk := H; clear H; obtain ⟨k0, k1, k2⟩ := kk) | (go_at_call 68; refine (i_has _ _ _ _ _ hP hQ).mono ?_; rintro e w' ⟨rfl, hb⟩; (first | (have H := gbox1 hb) | (have H := Gx.on gb0 hb; clear gb0 k0 k1 k2)); have gb0 := H; have kk := H; clear H; obtain ⟨k0, k1, k2⟩ := kk))
    all_goals
      go_ret2
      exact ⟨rfl, by (repeat (first | exact Below.refl _ _ | assumption | refine bel_trans ?_ (bel_alloc _ _) | refine bel_set ?_ (by first | (dsimp only; omega) | (simp; omega) | simp) _ | refine bel_trans ?_ (bel_drewN _ _) | refine bel_trans ?_ (bel_drew _) | refine bel_trans ?_ (by assumption)))⟩
set_option maxHeartbeats 1000000 in
theorem s_IsElement (P Q G a : Int) (w : World) :
    Calls Try.prog 12 #[.agg #[.int .i64 P, .int .i64 Q, .int .i64 G], .int .i64 a] w fun e w' => e = .returned (.tuple #[.bool (grB P Q G && hasB P Q a), .bool (grB P Q G)]) ∧ Below w.heap.size w w' := by
  cases h1 : grB P Q G with
  | false =>
    go_enter Try.func12, Try.ntmps12
    go_wp2_with (first | (go_at_call 63; refine (s_grGood _ _ _ _).mono ?_; rintro e w' ⟨rfl, hb⟩; (first | (have H := gbox1 hb) | (have H := Gx.on gb0 hb; clear gb0 k0 k1 k2)); have gb0 := H; have kk := H; clear H; obtain ⟨k0, k1, k2⟩ := kk))
    all_goals
      go_ret2
      exact ⟨rfl, by (repeat (first | exact Below.refl _ _ | assumption | refine bel_trans ?_ (bel_alloc _ _) | refine bel_set ?_ (by first | (dsimp only; omega) | (simp; omega) | simp) _ | refine bel_trans ?_ (bel_drewN _ _) | refine bel_trans ?_ (bel_drew _) | refine bel_trans ?_ (by assumption)))⟩
  | true =>
    obtain ⟨hP, hQ, hG⟩ := grB_lo h1
    go_enter Try.func12, Try.ntmps12
    go_wp2_with (first | (go_at_call 63; refine (s_grGood _ _ _ _).mono ?_; rintro e w' ⟨rfl, hb⟩; (first | (have H := gbox1 hb) | (have H := Gx.on gb0 hb; clear gb0 k0 k1 k2)); have gb0 := H; have kk := H; clear H; obtain ⟨k0, k1, k2⟩ := kk) | (go_at_call 69; refine (s_grHas _ _ _ _ _ hP hQ).mono ?_; rintro e w' ⟨rfl, hb⟩; (first | (have H := gbox1 hb) | (have H := Gx.on gb0 hb; clear gb0 k0 k1 k2)); have gb0 := H; have kk := H; clear H; obtain ⟨k0, k1, k2⟩ := kk))
    all_goals
      go_ret2
      exact ⟨rfl, by (repeat (first | exact Below.refl _ _ | assumption | refine bel_trans ?_ (bel_alloc _ _) | refine bel_set ?_ (by first | (dsimp only; omega) | (simp; omega) | simp) _ | refine bel_trans ?_ (bel_drewN _ _) | refine bel_trans ?_ (bel_drew _) | refine bel_trans ?_ (by assumption)))⟩
theorem views_at {P Q G key : Int} {xs : List Int} {k : Nat} (h : chsB P Q G key xs = true) : hasB P Q (fsAt P Q G key k) = true ∧ hasB P Q (anAt P Q G key xs k) = true ∧ fsAt P Q G key k ≠ 1 := by
  obtain ⟨hg, _, _, _⟩ := chsB_iff.1 h
  obtain ⟨hP, hQ, hG, p3, q2, g2, g3, p4, q4⟩ := grB_facts hg
  have hf : hasB P Q (fsAt P Q G key k) = true := has_gpw _ (by omega) q2 (has_G hg)
  refine ⟨hf, ?_, fun e => ?_⟩
  · unfold anAt answ
    split
    · exact has_mul (by omega) q2 (has_gpw _ (by omega) q2 (has_G hg)) hf
    · exact has_gpw _ (by omega) q2 (has_G hg)
  · unfold fsAt gpw secA numFrom at e
    have b1 := emod_bd (n := dgMix ([key, (k : Int), 4] ++ [Q - 1])) (p := Q - 1) (by omega)
    rw [Int.emod_eq_of_lt (by omega) (by omega)] at e
    have := order_dvd hQ hG (by omega) (by omega) (by omega) (by omega) e
    rw [Nat.mod_eq_of_lt (by omega)] at this
    omega
end Go.Proofs.Ytklgneaamhjfpaa
