/-
  The walk of the exact law on AnswerWays.
-/
import Derived.Test.YtjnpjfncnmaomaaG4
namespace Go.Proofs.Ytjnpjfncnmaomaa
open Go.RowKit
set_option linter.unusedVariables false
set_option linter.unusedSimpArgs false

set_option maxHeartbeats 1000000 in
theorem law_FnExactAnswerWays (P Q G f ans : Int) (w : World) (fxP : Fits P) (fxQ : Fits Q) (fxG : Fits G) (fxf : Fits f) (fxans : Fits ans) :
    Calls Try.prog 6 #[.agg #[.int .i64 P, .int .i64 Q, .int .i64 G], .int .i64 f, .int .i64 ans] w fun e w' => e = .returned (.bool true) ∧ Below w.heap.size w w' := by
  go_enter Try.func6, Try.ntmps6
  go_wp2_with (first | (go_at_call 16; refine (l_toGroup _ _ _ _).mono ?_; rintro e w' ⟨rfl, hb⟩; (first | (have H := gbox1 hb) | (have H := Gx.on gb0 hb; clear gb0 k0 k1 k2)); have gb0 := H; have kk := H; clear H; obtain ⟨k0, k1, k2⟩ := kk) | (go_at_call 22; refine (s_AnswerWays _ _ _ _ _ _ fxP fxQ fxG fxf fxans).mono ?_; rintro e w' ⟨rfl, hb⟩; (first | (have H := gbox1 hb) | (have H := Gx.on gb0 hb; clear gb0 k0 k1 k2)); have gb0 := H; have kk := H; clear H; obtain ⟨k0, k1, k2⟩ := kk) | (go_at_call 23; refine (i_AnswerWays _ _ _ _ _ _ fxP fxQ fxG fxf fxans).mono ?_; rintro e w' ⟨rfl, hb⟩; (first | (have H := gbox1 hb) | (have H := Gx.on gb0 hb; clear gb0 k0 k1 k2)); have gb0 := H; have kk := H; clear H; obtain ⟨k0, k1, k2⟩ := kk))
  go_ret
  exact ⟨rfl, by (repeat (first | exact Below.refl _ _ | assumption | refine bel_trans ?_ (bel_alloc _ _) | refine bel_set ?_ (by first | (dsimp only; omega) | (simp; omega) | simp) _ | refine bel_trans ?_ (bel_drewN _ _) | refine bel_trans ?_ (bel_drew _) | refine bel_trans ?_ (by assumption)))⟩
end Go.Proofs.Ytjnpjfncnmaomaa
