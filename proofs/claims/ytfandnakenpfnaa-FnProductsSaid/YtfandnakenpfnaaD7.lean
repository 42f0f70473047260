/-
  MultiplyPairs, the program's and the reference's.
-/
import Derived.Test.YtfandnakenpfnaaD6
namespace Go.Proofs.Ytfandnakenpfnaa
open Go.RowKit
set_option linter.unusedVariables false
set_option linter.unusedSimpArgs false

def multPairs (p key i : Int) (x y : List Int) : List Int × Bool := if lnB p x 2 && (lnB p y 2 && (keyB key && inB i 0 1000)) then (mulP p key i x y, true) else ([], false)
theorem multPairs_len (p key i : Int) (x y : List Int) : (multPairs p key i x y).1.length ≤ 2 := by unfold multPairs; split <;> simp [mulP]
set_option maxHeartbeats 2000000 in
theorem i_MultiplyPairs (p key i : Int) (a : Option Addr) (n cap : Nat) (xs : List Int) (a' : Option Addr) (n' cap' : Nat) (ys : List Int) (w : World) (hp : Fits p) (hk : Fits key) (hi : Fits i) (h : Ints w a n cap xs) (h' : Ints w a' n' cap' ys) :
    Calls Try.prog 28 #[.int .i64 p, .int .i64 key, .int .i64 i, .slice a n cap, .slice a' n' cap'] w fun e w' => ∃ r c, e = .returned (.tuple #[.slice r (multPairs p key i xs ys).1.length c, .bool (multPairs p key i xs ys).2]) ∧ Mine w' w.heap.size r (multPairs p key i xs ys).1.length c (multPairs p key i xs ys).1 ∧ Below w.heap.size w w' := by
  unfold multPairs
  cases h1 : lnB p xs 2 with
  | false =>
    go_enter Try.func28, Try.ntmps28
    go_wp2_with fail
    refine (i_isPair _ _ _ _ _ _ h).mono ?_; rintro e wb1 ⟨rfl, hb⟩; replace h := h.below hb; replace h' := h'.below hb; have B1 := hb; clear hb
    go_wp2
    go_ret2
    exact ⟨_, _, rfl, Mine.nil, by (repeat (first | exact Below.refl _ _ | assumption | refine bel_trans ?_ (bel_alloc _ _) | refine bel_set ?_ (by first | (dsimp only; omega) | (simp; omega) | simp) _ | refine bel_trans ?_ (bel_drewN _ _) | refine bel_trans ?_ (bel_drew _) | refine bel_trans ?_ (by assumption)))⟩
  | true =>
    cases h2 : lnB p ys 2 with
    | false =>
      go_enter Try.func28, Try.ntmps28
      go_wp2_with fail
      refine (i_isPair _ _ _ _ _ _ h).mono ?_; rintro e wb1 ⟨rfl, hb⟩; replace h := h.below hb; replace h' := h'.below hb; have B1 := hb; clear hb
      go_wp2_with fail
      refine (i_isPair _ _ _ _ _ _ h').mono ?_; rintro e wb2 ⟨rfl, hb⟩; replace h := h.below hb; replace h' := h'.below hb; have B2 := bel_trans B1 hb; clear B1 hb
      go_wp2
      go_ret2
      exact ⟨_, _, rfl, Mine.nil, by (repeat (first | exact Below.refl _ _ | assumption | refine bel_trans ?_ (bel_alloc _ _) | refine bel_set ?_ (by first | (dsimp only; omega) | (simp; omega) | simp) _ | refine bel_trans ?_ (bel_drewN _ _) | refine bel_trans ?_ (bel_drew _) | refine bel_trans ?_ (by assumption)))⟩
    | true =>
      cases h3 : keyB key with
      | false =>
        go_enter Try.func28, Try.ntmps28
        go_wp2_with fail
        refine (i_isPair _ _ _ _ _ _ h).mono ?_; rintro e wb1 ⟨rfl, hb⟩; replace h := h.below hb; replace h' := h'.below hb; have B1 := hb; clear hb
        go_wp2_with fail
        refine (i_isPair _ _ _ _ _ _ h').mono ?_; rintro e wb2 ⟨rfl, hb⟩; replace h := h.below hb; replace h' := h'.below hb; have B2 := bel_trans B1 hb; clear B1 hb
        go_wp2_with fail
        refine (i_isKey _ _).mono ?_; rintro e w1 ⟨rfl, rfl⟩
        go_wp2
        go_ret2
        exact ⟨_, _, rfl, Mine.nil, by (repeat (first | exact Below.refl _ _ | assumption | refine bel_trans ?_ (bel_alloc _ _) | refine bel_set ?_ (by first | (dsimp only; omega) | (simp; omega) | simp) _ | refine bel_trans ?_ (bel_drewN _ _) | refine bel_trans ?_ (bel_drew _) | refine bel_trans ?_ (by assumption)))⟩
      | true =>
        cases h4 : inB i 0 1000 with
        | false =>
          go_enter Try.func28, Try.ntmps28
          go_wp2_with fail
          refine (i_isPair _ _ _ _ _ _ h).mono ?_; rintro e wb1 ⟨rfl, hb⟩; replace h := h.below hb; replace h' := h'.below hb; have B1 := hb; clear hb
          go_wp2_with fail
          refine (i_isPair _ _ _ _ _ _ h').mono ?_; rintro e wb2 ⟨rfl, hb⟩; replace h := h.below hb; replace h' := h'.below hb; have B2 := bel_trans B1 hb; clear B1 hb
          go_wp2_with fail
          refine (i_isKey _ _).mono ?_; rintro e w1 ⟨rfl, rfl⟩
          go_wp2_with fail
          refine (i_isTripleNumber _ _).mono ?_; rintro e w2 ⟨rfl, rfl⟩
          go_wp2
          go_ret2
          exact ⟨_, _, rfl, Mine.nil, by (repeat (first | exact Below.refl _ _ | assumption | refine bel_trans ?_ (bel_alloc _ _) | refine bel_set ?_ (by first | (dsimp only; omega) | (simp; omega) | simp) _ | refine bel_trans ?_ (bel_drewN _ _) | refine bel_trans ?_ (bel_drew _) | refine bel_trans ?_ (by assumption)))⟩
        | true =>
          go_enter Try.func28, Try.ntmps28
          go_wp2_with fail
          refine (i_isPair _ _ _ _ _ _ h).mono ?_; rintro e wb1 ⟨rfl, hb⟩; replace h := h.below hb; replace h' := h'.below hb; have B1 := hb; clear hb
          go_wp2_with fail
          refine (i_isPair _ _ _ _ _ _ h').mono ?_; rintro e wb2 ⟨rfl, hb⟩; replace h := h.below hb; replace h' := h'.below hb; have B2 := bel_trans B1 hb; clear B1 hb
          go_wp2_with fail
          refine (i_isKey _ _).mono ?_; rintro e w1 ⟨rfl, rfl⟩
          go_wp2_with fail
          refine (i_isTripleNumber _ _).mono ?_; rintro e w2 ⟨rfl, rfl⟩
          go_wp2_with fail
          obtain ⟨hp1, hp2⟩ := lnB_p h1
          obtain ⟨x0, x1, rfl, ⟨xa, xb⟩, ⟨xc, xd⟩⟩ := ln2 h1
          obtain ⟨y0, y1, rfl, ⟨ya, yb⟩, ⟨yc, yd⟩⟩ := ln2 h2
          refine (i_multiplyPairs _ _ _ _ _ _ _ _ _ x0 x1 y0 y1 _ ⟨hp1, hp2⟩ (keyB_iff.1 h3) (inB_iff.1 h4) h h' ⟨⟨by omega, by omega⟩, ⟨by omega, by omega⟩⟩ ⟨⟨by omega, by omega⟩, ⟨by omega, by omega⟩⟩).mono ?_; rintro e wz ⟨r, rfl, hm, hbz⟩
          go_wp2
          go_ret2
          exact ⟨_, _, rfl, hm.base B2.size, bel_trans B2 hbz⟩
set_option maxHeartbeats 2000000 in
theorem s_MultiplyPairs (p key i : Int) (a : Option Addr) (n cap : Nat) (xs : List Int) (a' : Option Addr) (n' cap' : Nat) (ys : List Int) (w : World) (hp : Fits p) (hk : Fits key) (hi : Fits i) (h : Ints w a n cap xs) (h' : Ints w a' n' cap' ys) :
    Calls Try.prog 29 #[.int .i64 p, .int .i64 key, .int .i64 i, .slice a n cap, .slice a' n' cap'] w fun e w' => ∃ r c, e = .returned (.tuple #[.slice r (multPairs p key i xs ys).1.length c, .bool (multPairs p key i xs ys).2]) ∧ Mine w' w.heap.size r (multPairs p key i xs ys).1.length c (multPairs p key i xs ys).1 ∧ Below w.heap.size w w' := by
  unfold multPairs
  cases h1 : lnB p xs 2 with
  | false =>
    go_enter Try.func29, Try.ntmps29
    go_wp2_with fail
    refine (s_trPair _ _ _ _ _ _ h).mono ?_; rintro e wb1 ⟨rfl, rfl⟩
    go_wp2
    go_ret2
    exact ⟨_, _, rfl, Mine.nil, by (repeat (first | exact Below.refl _ _ | assumption | refine bel_trans ?_ (bel_alloc _ _) | refine bel_set ?_ (by first | (dsimp only; omega) | (simp; omega) | simp) _ | refine bel_trans ?_ (bel_drewN _ _) | refine bel_trans ?_ (bel_drew _) | refine bel_trans ?_ (by assumption)))⟩
  | true =>
    cases h2 : lnB p ys 2 with
    | false =>
      go_enter Try.func29, Try.ntmps29
      go_wp2_with fail
      refine (s_trPair _ _ _ _ _ _ h).mono ?_; rintro e wb1 ⟨rfl, rfl⟩
      go_wp2_with fail
      refine (s_trPair _ _ _ _ _ _ h').mono ?_; rintro e wb2 ⟨rfl, rfl⟩
      go_wp2
      go_ret2
      exact ⟨_, _, rfl, Mine.nil, by (repeat (first | exact Below.refl _ _ | assumption | refine bel_trans ?_ (bel_alloc _ _) | refine bel_set ?_ (by first | (dsimp only; omega) | (simp; omega) | simp) _ | refine bel_trans ?_ (bel_drewN _ _) | refine bel_trans ?_ (bel_drew _) | refine bel_trans ?_ (by assumption)))⟩
    | true =>
      cases h3 : (keyB key && inB i 0 1000) with
      | false =>
        go_enter Try.func29, Try.ntmps29
        go_wp2_with fail
        refine (s_trPair _ _ _ _ _ _ h).mono ?_; rintro e wb1 ⟨rfl, rfl⟩
        go_wp2_with fail
        refine (s_trPair _ _ _ _ _ _ h').mono ?_; rintro e wb2 ⟨rfl, rfl⟩
        go_wp2_with fail
        refine (s_trKey _ _ _).mono ?_; rintro e wb3 ⟨rfl, rfl⟩
        go_wp2
        go_ret2
        exact ⟨_, _, rfl, Mine.nil, by (repeat (first | exact Below.refl _ _ | assumption | refine bel_trans ?_ (bel_alloc _ _) | refine bel_set ?_ (by first | (dsimp only; omega) | (simp; omega) | simp) _ | refine bel_trans ?_ (bel_drewN _ _) | refine bel_trans ?_ (bel_drew _) | refine bel_trans ?_ (by assumption)))⟩
      | true =>
        go_enter Try.func29, Try.ntmps29
        go_wp2_with fail
        refine (s_trPair _ _ _ _ _ _ h).mono ?_; rintro e wb1 ⟨rfl, rfl⟩
        go_wp2_with fail
        refine (s_trPair _ _ _ _ _ _ h').mono ?_; rintro e wb2 ⟨rfl, rfl⟩
        go_wp2_with fail
        refine (s_trKey _ _ _).mono ?_; rintro e wb3 ⟨rfl, rfl⟩
        go_wp2_with fail
        obtain ⟨hp1, hp2⟩ := lnB_p h1
        obtain ⟨x0, x1, rfl, ⟨xa, xb⟩, ⟨xc, xd⟩⟩ := ln2 h1
        obtain ⟨y0, y1, rfl, ⟨ya, yb⟩, ⟨yc, yd⟩⟩ := ln2 h2
        refine (s_trTimes _ _ _ _ _ _ _ _ _ x0 x1 y0 y1 _ ⟨hp1, hp2⟩ (keyB_iff.1 (Bool.and_eq_true_iff.1 h3).1) (inB_iff.1 (Bool.and_eq_true_iff.1 h3).2) h h' ⟨⟨by omega, by omega⟩, ⟨by omega, by omega⟩⟩ ⟨⟨by omega, by omega⟩, ⟨by omega, by omega⟩⟩).mono ?_; rintro e wz ⟨r, rfl, hm, hbz⟩
        go_wp2
        go_ret2
        exact ⟨_, _, rfl, hm, hbz⟩
end Go.Proofs.Ytfandnakenpfnaa
