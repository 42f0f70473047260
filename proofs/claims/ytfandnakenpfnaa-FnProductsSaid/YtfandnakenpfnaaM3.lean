/-
  Contracts: ProductShare, MaskPair, CheckTriple, PassingChecks.
-/
import Derived.Test.YtfandnakenpfnaaM2
namespace Go.Proofs.Ytfandnakenpfnaa
open Go.RowKit
set_option linter.unusedVariables false
set_option linter.unusedSimpArgs false

/-- A party's share of a product, before it is reduced. -/
def prodSh (party : Int) (s : List Int) (d e : Int) : Int := nth s 2 + d * nth s 1 + e * nth s 0 + (if party == 0 then d * e else 0)
def productShare (p party : Int) (s : List Int) (d e : Int) : Int × Bool := if lnB p s 3 && (elB p d && (elB p e && inB party 0 1)) then (prodSh party s d e % p, true) else (0, false)
def maskPair (p : Int) (s : List Int) (x y : Int) : List Int × Bool := if lnB p s 3 && (elB p x && elB p y) then ([(x - nth s 0) % p, (y - nth s 1) % p], true) else ([], false)
theorem maskPair_len (p : Int) (s : List Int) (x y : Int) : (maskPair p s x y).1.length ≤ 2 := by unfold maskPair; split <;> simp
theorem inB01 {q : Int} : inB q 0 1 = (q == 0 || q == 1) := by unfold inB; rw [Bool.eq_iff_iff]; simp; omega
set_option maxHeartbeats 400000 in
theorem i_isBit (q : Int) (w : World) : Calls Try.prog 63 #[.int .i64 q] w fun e w' => e = .returned (.bool (inB q 0 1)) ∧ w = w' := by
  rw [inB01]
  cases h1 : (q == 0) with
  | true =>
    go_enter Try.func63, Try.ntmps63
    go_wp2
    go_ret
    exact ⟨rfl, rfl⟩
  | false =>
    go_enter Try.func63, Try.ntmps63
    go_wp2
    go_ret
    exact ⟨by first | rfl | simp, rfl⟩

set_option maxHeartbeats 1000000 in
theorem i_share (p q : Int) (a : Option Addr) (n cap : Nat) (x0 x1 x2 d e : Int) (w : World) (h : Ints w a n cap [x0, x1, x2]) (hp : 2 ≤ p ∧ p ≤ 251)
    (hx : (0 ≤ x0 ∧ x0 ≤ 250) ∧ (0 ≤ x1 ∧ x1 ≤ 250) ∧ (0 ≤ x2 ∧ x2 ≤ 250)) (hd : 0 ≤ d ∧ d ≤ 250) (he : 0 ≤ e ∧ e ≤ 250) :
    Calls Try.prog 64 #[.int .i64 p, .int .i64 q, .slice a n cap, .int .i64 d, .int .i64 e] w fun e' w' => e' = .returned (.int .i64 (prodSh q [x0, x1, x2] d e % p)) ∧ Below w.heap.size w w' := by
  obtain ⟨hp1, hp2⟩ := hp; obtain ⟨d1, d2⟩ := hd; obtain ⟨e1, e2⟩ := he
  obtain ⟨⟨p0, q0⟩, ⟨p1, q1⟩, ⟨p2, q2⟩⟩ := hx
  obtain ⟨rfl, b, off, rfl, c0, c1, c2⟩ := h.three
  clear h
  have HPS : Hid (prodSh q [x0, x1, x2] d e = x2 + d * x1 + e * x0 + (if q == 0 then d * e else 0)) := rfl
  rw [HPS.out]; clear HPS
  obtain ⟨m1, m2⟩ := mul_bd (a := d) (b := x1) 250 250 (by omega) (by omega) (by omega) (by omega)
  obtain ⟨m3, m4⟩ := mul_bd (a := e) (b := x0) 250 250 (by omega) (by omega) (by omega) (by omega)
  obtain ⟨m5, m6⟩ := mul_bd (a := d) (b := e) 250 250 (by omega) (by omega) (by omega) (by omega)
  have hp0 : ¬ p = 0 := by omega
  have w1 : IntKind.i64.wrap (d * x1) = d * x1 := IntWalk.i64_in _ (by omega)
  have w2 : IntKind.i64.wrap (x2 + d * x1) = x2 + d * x1 := IntWalk.i64_in _ (by omega)
  have w3 : IntKind.i64.wrap (e * x0) = e * x0 := IntWalk.i64_in _ (by omega)
  have w4 : IntKind.i64.wrap (x2 + d * x1 + e * x0) = x2 + d * x1 + e * x0 := IntWalk.i64_in _ (by omega)
  cases hq : (q == 0) with
  | false =>
    go_enter Try.func64, Try.ntmps64
    go_wp2
    go_quiet (fail)
    go_wp2_with (go_at_call 54; refine (i_mod _ _ _ (by omega) (by omega) (by omega) (by omega)).mono ?_; rintro e w' ⟨rfl, rfl⟩)
    go_ret
    exact ⟨by first | rfl | (simp; done), bel_drewN _ _⟩
  | true =>
    go_enter Try.func64, Try.ntmps64
    go_wp2
    go_quiet (fail)
    go_wp2_with (go_at_call 54; refine (i_mod _ _ _ (by omega) (by omega) (by omega) (by omega)).mono ?_; rintro e w' ⟨rfl, rfl⟩)
    go_ret
    exact ⟨by first | rfl | (simp; done), bel_drewN _ _⟩
set_option maxHeartbeats 1000000 in
theorem s_share (p q : Int) (a : Option Addr) (n cap : Nat) (x0 x1 x2 d e : Int) (w : World) (h : Ints w a n cap [x0, x1, x2]) (hp : 2 ≤ p ∧ p ≤ 251)
    (hx : (0 ≤ x0 ∧ x0 ≤ 250) ∧ (0 ≤ x1 ∧ x1 ≤ 250) ∧ (0 ≤ x2 ∧ x2 ≤ 250)) (hd : 0 ≤ d ∧ d ≤ 250) (he : 0 ≤ e ∧ e ≤ 250) :
    Calls Try.prog 66 #[.int .i64 p, .int .i64 q, .slice a n cap, .int .i64 d, .int .i64 e] w fun e' w' => e' = .returned (.int .i64 (prodSh q [x0, x1, x2] d e % p)) ∧ Below w.heap.size w w' := by
  obtain ⟨hp1, hp2⟩ := hp; obtain ⟨d1, d2⟩ := hd; obtain ⟨e1, e2⟩ := he
  obtain ⟨⟨p0, q0⟩, ⟨p1, q1⟩, ⟨p2, q2⟩⟩ := hx
  obtain ⟨rfl, b, off, rfl, c0, c1, c2⟩ := h.three
  clear h
  have HPS : Hid (prodSh q [x0, x1, x2] d e = x2 + d * x1 + e * x0 + (if q == 0 then d * e else 0)) := rfl
  rw [HPS.out]; clear HPS
  obtain ⟨m1, m2⟩ := mul_bd (a := d) (b := x1) 250 250 (by omega) (by omega) (by omega) (by omega)
  obtain ⟨m3, m4⟩ := mul_bd (a := e) (b := x0) 250 250 (by omega) (by omega) (by omega) (by omega)
  obtain ⟨m5, m6⟩ := mul_bd (a := d) (b := e) 250 250 (by omega) (by omega) (by omega) (by omega)
  have hp0 : ¬ p = 0 := by omega
  have w1 : IntKind.i64.wrap (d * x1) = d * x1 := IntWalk.i64_in _ (by omega)
  have w2 : IntKind.i64.wrap (x2 + d * x1) = x2 + d * x1 := IntWalk.i64_in _ (by omega)
  have w3 : IntKind.i64.wrap (e * x0) = e * x0 := IntWalk.i64_in _ (by omega)
  have w4 : IntKind.i64.wrap (x2 + d * x1 + e * x0) = x2 + d * x1 + e * x0 := IntWalk.i64_in _ (by omega)
  cases hq : (q == 0) with
  | false =>
    go_enter Try.func66, Try.ntmps66
    go_wp2
    go_quiet (fail)
    go_wp2
    go_ret
    exact ⟨by first | rfl | (simp; done), bel_drewN _ _⟩
  | true =>
    go_enter Try.func66, Try.ntmps66
    go_wp2
    go_quiet (fail)
    go_wp2
    go_ret
    exact ⟨by first | rfl | (simp; done), bel_drewN _ _⟩
set_option maxHeartbeats 2000000 in
theorem i_ProductShare (p q : Int) (a : Option Addr) (n cap : Nat) (xs : List Int) (d e : Int) (w : World) (hp : Fits p) (hq : Fits q) (h : Ints w a n cap xs) (hd : Fits d) (he : Fits e) :
    Calls Try.prog 22 #[.int .i64 p, .int .i64 q, .slice a n cap, .int .i64 d, .int .i64 e] w fun e' w' => e' = .returned (.tuple #[.int .i64 (productShare p q xs d e).1, .bool (productShare p q xs d e).2]) ∧ Below w.heap.size w w' := by
  unfold productShare
  cases h1 : lnB p xs 3 with
  | false =>
    go_enter Try.func22, Try.ntmps22
    go_wp2_with (first | (go_at_call 47; refine (i_isTripleShares _ _ _ _ _ _ (by assumption)).mono ?_; rintro e w' ⟨rfl, hb⟩; replace h := h.below hb) | (go_at_call 61; refine (i_isElement _ _ _).mono ?_; rintro e w' ⟨rfl, rfl⟩) | (go_at_call 63; refine (i_isBit _ _).mono ?_; rintro e w' ⟨rfl, rfl⟩))
    go_ret2
    exact ⟨rfl, by (repeat (first | exact Below.refl _ _ | assumption | refine bel_trans ?_ (bel_alloc _ _) | refine bel_set ?_ (by first | (dsimp only; omega) | (simp; omega) | simp) _ | refine bel_trans ?_ (bel_drewN _ _) | refine bel_trans ?_ (bel_drew _) | refine bel_trans ?_ (by assumption)))⟩
  | true =>
    cases h2 : elB p d with
    | false =>
      go_enter Try.func22, Try.ntmps22
      go_wp2_with (first | (go_at_call 47; refine (i_isTripleShares _ _ _ _ _ _ (by assumption)).mono ?_; rintro e w' ⟨rfl, hb⟩; replace h := h.below hb) | (go_at_call 61; refine (i_isElement _ _ _).mono ?_; rintro e w' ⟨rfl, rfl⟩) | (go_at_call 63; refine (i_isBit _ _).mono ?_; rintro e w' ⟨rfl, rfl⟩))
      go_ret2
      exact ⟨rfl, by (repeat (first | exact Below.refl _ _ | assumption | refine bel_trans ?_ (bel_alloc _ _) | refine bel_set ?_ (by first | (dsimp only; omega) | (simp; omega) | simp) _ | refine bel_trans ?_ (bel_drewN _ _) | refine bel_trans ?_ (bel_drew _) | refine bel_trans ?_ (by assumption)))⟩
    | true =>
      cases h3 : elB p e with
      | false =>
        go_enter Try.func22, Try.ntmps22
        go_wp2_with (first | (go_at_call 47; refine (i_isTripleShares _ _ _ _ _ _ (by assumption)).mono ?_; rintro e w' ⟨rfl, hb⟩; replace h := h.below hb) | (go_at_call 61; refine (i_isElement _ _ _).mono ?_; rintro e w' ⟨rfl, rfl⟩) | (go_at_call 63; refine (i_isBit _ _).mono ?_; rintro e w' ⟨rfl, rfl⟩))
        go_ret2
        exact ⟨rfl, by (repeat (first | exact Below.refl _ _ | assumption | refine bel_trans ?_ (bel_alloc _ _) | refine bel_set ?_ (by first | (dsimp only; omega) | (simp; omega) | simp) _ | refine bel_trans ?_ (bel_drewN _ _) | refine bel_trans ?_ (bel_drew _) | refine bel_trans ?_ (by assumption)))⟩
      | true =>
        cases h4 : inB q 0 1 with
        | false =>
          go_enter Try.func22, Try.ntmps22
          go_wp2_with (first | (go_at_call 47; refine (i_isTripleShares _ _ _ _ _ _ (by assumption)).mono ?_; rintro e w' ⟨rfl, hb⟩; replace h := h.below hb) | (go_at_call 61; refine (i_isElement _ _ _).mono ?_; rintro e w' ⟨rfl, rfl⟩) | (go_at_call 63; refine (i_isBit _ _).mono ?_; rintro e w' ⟨rfl, rfl⟩))
          go_ret2
          exact ⟨rfl, by (repeat (first | exact Below.refl _ _ | assumption | refine bel_trans ?_ (bel_alloc _ _) | refine bel_set ?_ (by first | (dsimp only; omega) | (simp; omega) | simp) _ | refine bel_trans ?_ (bel_drewN _ _) | refine bel_trans ?_ (bel_drew _) | refine bel_trans ?_ (by assumption)))⟩
        | true =>
          obtain ⟨hp1, hp2⟩ := lnB_p h1
          obtain ⟨x0, x1, x2, rfl, ⟨p0, q0⟩, ⟨p1, q1⟩, ⟨p2, q2⟩⟩ := ln3 h1
          have hd2 := (elB_iff.1 h2).2
          have he2 := (elB_iff.1 h3).2
          go_enter Try.func22, Try.ntmps22
          go_wp2_with (first | (go_at_call 47; refine (i_isTripleShares _ _ _ _ _ _ (by assumption)).mono ?_; rintro e w' ⟨rfl, hb⟩; replace h := h.below hb) | (go_at_call 61; refine (i_isElement _ _ _).mono ?_; rintro e w' ⟨rfl, rfl⟩) | (go_at_call 63; refine (i_isBit _ _).mono ?_; rintro e w' ⟨rfl, rfl⟩) | (go_at_call 64; refine (i_share _ _ _ _ _ x0 x1 x2 _ _ _ (by assumption) ⟨hp1, hp2⟩ ⟨⟨by omega, by omega⟩, ⟨by omega, by omega⟩, ⟨by omega, by omega⟩⟩ ⟨by omega, by omega⟩ ⟨by omega, by omega⟩).mono ?_; rintro e w' ⟨rfl, hb⟩))
          go_ret2
          exact ⟨by first | rfl | (simp; done), by (repeat (first | exact Below.refl _ _ | assumption | refine bel_trans ?_ (bel_alloc _ _) | refine bel_set ?_ (by first | (dsimp only; omega) | (simp; omega) | simp) _ | refine bel_trans ?_ (bel_drewN _ _) | refine bel_trans ?_ (bel_drew _) | refine bel_trans ?_ (by assumption)))⟩
set_option maxHeartbeats 2000000 in
theorem s_ProductShare (p q : Int) (a : Option Addr) (n cap : Nat) (xs : List Int) (d e : Int) (w : World) (hp : Fits p) (hq : Fits q) (h : Ints w a n cap xs) (hd : Fits d) (he : Fits e) :
    Calls Try.prog 23 #[.int .i64 p, .int .i64 q, .slice a n cap, .int .i64 d, .int .i64 e] w fun e' w' => e' = .returned (.tuple #[.int .i64 (productShare p q xs d e).1, .bool (productShare p q xs d e).2]) ∧ Below w.heap.size w w' := by
  have hV : (lnB p xs 3 && (elB p d && (elB p e && inB q 0 1))) = (lnB p xs 3 && (inB q 0 1 && elsB p [d, e])) := by
    rw [elsB_cons, elsB_cons, elsB_nil, elB_and]; cases lnB p xs 3 <;> cases inB q 0 1 <;> cases elB p d <;> cases elB p e <;> rfl
  unfold productShare; rw [hV]; clear hV
  cases h1 : lnB p xs 3 with
  | false =>
    go_enter Try.func23, Try.ntmps23
    go_wp2_with (first | (go_at_call 55; refine (s_trShares _ _ _ _ _ _ (by assumption)).mono ?_; rintro e w' ⟨rfl, rfl⟩) | (go_at_call 65; refine (s_l1In _ _ _ _).mono ?_; rintro e w' ⟨rfl, rfl⟩) | (go_at_call 58; refine (s_fpIn _ _ _ _ [d, e] _ (by exact Ints.lit2 (by simp) hd he)).mono ?_; rintro e w' ⟨rfl, rfl⟩))
    go_ret2
    exact ⟨rfl, by (repeat (first | exact Below.refl _ _ | assumption | refine bel_trans ?_ (bel_alloc _ _) | refine bel_set ?_ (by first | (dsimp only; omega) | (simp; omega) | simp) _ | refine bel_trans ?_ (bel_drewN _ _) | refine bel_trans ?_ (bel_drew _) | refine bel_trans ?_ (by assumption)))⟩
  | true =>
    cases h2 : inB q 0 1 with
    | false =>
      go_enter Try.func23, Try.ntmps23
      go_wp2_with (first | (go_at_call 55; refine (s_trShares _ _ _ _ _ _ (by assumption)).mono ?_; rintro e w' ⟨rfl, rfl⟩) | (go_at_call 65; refine (s_l1In _ _ _ _).mono ?_; rintro e w' ⟨rfl, rfl⟩) | (go_at_call 58; refine (s_fpIn _ _ _ _ [d, e] _ (by exact Ints.lit2 (by simp) hd he)).mono ?_; rintro e w' ⟨rfl, rfl⟩))
      go_ret2
      exact ⟨rfl, by (repeat (first | exact Below.refl _ _ | assumption | refine bel_trans ?_ (bel_alloc _ _) | refine bel_set ?_ (by first | (dsimp only; omega) | (simp; omega) | simp) _ | refine bel_trans ?_ (bel_drewN _ _) | refine bel_trans ?_ (bel_drew _) | refine bel_trans ?_ (by assumption)))⟩
    | true =>
      cases h3 : elsB p [d, e] with
      | false =>
        go_enter Try.func23, Try.ntmps23
        go_wp2_with (first | (go_at_call 55; refine (s_trShares _ _ _ _ _ _ (by assumption)).mono ?_; rintro e w' ⟨rfl, rfl⟩) | (go_at_call 65; refine (s_l1In _ _ _ _).mono ?_; rintro e w' ⟨rfl, rfl⟩) | (go_at_call 58; refine (s_fpIn _ _ _ _ [d, e] _ (by exact Ints.lit2 (by simp) hd he)).mono ?_; rintro e w' ⟨rfl, rfl⟩))
        go_ret2
        exact ⟨rfl, by (repeat (first | exact Below.refl _ _ | assumption | refine bel_trans ?_ (bel_alloc _ _) | refine bel_set ?_ (by first | (dsimp only; omega) | (simp; omega) | simp) _ | refine bel_trans ?_ (bel_drewN _ _) | refine bel_trans ?_ (bel_drew _) | refine bel_trans ?_ (by assumption)))⟩
      | true =>
        obtain ⟨hp1, hp2⟩ := lnB_p h1
        obtain ⟨x0, x1, x2, rfl, ⟨p0, q0⟩, ⟨p1, q1⟩, ⟨p2, q2⟩⟩ := ln3 h1
        have hd2 : 0 ≤ d ∧ d ≤ p - 1 := elsB_nth h3 (i := 0) (by simp)
        have he2 : 0 ≤ e ∧ e ≤ p - 1 := elsB_nth h3 (i := 1) (by simp)
        go_enter Try.func23, Try.ntmps23
        go_wp2_with (first | (go_at_call 55; refine (s_trShares _ _ _ _ _ _ (by assumption)).mono ?_; rintro e w' ⟨rfl, rfl⟩) | (go_at_call 65; refine (s_l1In _ _ _ _).mono ?_; rintro e w' ⟨rfl, rfl⟩) | (go_at_call 58; refine (s_fpIn _ _ _ _ [d, e] _ (by exact Ints.lit2 (by simp) hd he)).mono ?_; rintro e w' ⟨rfl, rfl⟩) | (go_at_call 66; refine (s_share _ _ _ _ _ x0 x1 x2 _ _ _ (by exact h.alloc _) ⟨hp1, hp2⟩ ⟨⟨by omega, by omega⟩, ⟨by omega, by omega⟩, ⟨by omega, by omega⟩⟩ ⟨by omega, by omega⟩ ⟨by omega, by omega⟩).mono ?_; rintro e w' ⟨rfl, hb⟩))
        go_ret2
        exact ⟨by first | rfl | (simp; done), by (repeat (first | exact Below.refl _ _ | assumption | refine bel_trans ?_ (bel_alloc _ _) | refine bel_set ?_ (by first | (dsimp only; omega) | (simp; omega) | simp) _ | refine bel_trans ?_ (bel_drewN _ _) | refine bel_trans ?_ (bel_drew _) | refine bel_trans ?_ (by assumption)))⟩
theorem lit2_mine {w : World} {x y : Int} (t : TypeId) (hx : Fits x) (hy : Fits y) : Mine (w.alloc (.cells #[.int .i64 x, .int .i64 y] t)) w.heap.size (some ⟨w.heap.size, 0, none⟩) 2 2 [x, y] := by
  refine ⟨Ints.lit2 rfl hx hy, fun _ b off e => ?_, fun i hi b off e => ?_⟩
  · simp only [Option.some.injEq, Addr.mk.injEq] at e
    obtain ⟨rfl, _, _⟩ := e
    exact ⟨Nat.le_refl _, by simp⟩
  · simp only [Option.some.injEq, Addr.mk.injEq] at e
    obtain ⟨rfl, rfl, _⟩ := e
    exact World.frozen?_alloc_at _ _ _ _ rfl
set_option maxHeartbeats 2000000 in
theorem i_MaskPair (p : Int) (a : Option Addr) (n cap : Nat) (xs : List Int) (x y : Int) (w : World) (hp : Fits p) (h : Ints w a n cap xs) (hx : Fits x) (hy : Fits y) :
    Calls Try.prog 19 #[.int .i64 p, .slice a n cap, .int .i64 x, .int .i64 y] w fun e' w' => ∃ r c, e' = .returned (.tuple #[.slice r (maskPair p xs x y).1.length c, .bool (maskPair p xs x y).2]) ∧ Mine w' w.heap.size r (maskPair p xs x y).1.length c (maskPair p xs x y).1 ∧ Below w.heap.size w w' := by
  unfold maskPair
  cases h1 : lnB p xs 3 with
  | false =>
    go_enter Try.func19, Try.ntmps19
    go_wp2_with (first | (go_at_call 47; refine (i_isTripleShares _ _ _ _ _ _ (by assumption)).mono ?_; rintro e w' ⟨rfl, hb⟩; replace h := h.below hb) | (go_at_call 61; refine (i_isElement _ _ _).mono ?_; rintro e w' ⟨rfl, rfl⟩))
    go_ret2
    exact ⟨_, _, rfl, Mine.nil, by (repeat (first | exact Below.refl _ _ | assumption | refine bel_trans ?_ (bel_alloc _ _) | refine bel_set ?_ (by first | (dsimp only; omega) | (simp; omega) | simp) _ | refine bel_trans ?_ (bel_drewN _ _) | refine bel_trans ?_ (bel_drew _) | refine bel_trans ?_ (by assumption)))⟩
  | true =>
    cases h2 : elB p x with
    | false =>
      go_enter Try.func19, Try.ntmps19
      go_wp2_with (first | (go_at_call 47; refine (i_isTripleShares _ _ _ _ _ _ (by assumption)).mono ?_; rintro e w' ⟨rfl, hb⟩; replace h := h.below hb) | (go_at_call 61; refine (i_isElement _ _ _).mono ?_; rintro e w' ⟨rfl, rfl⟩))
      go_ret2
      exact ⟨_, _, rfl, Mine.nil, by (repeat (first | exact Below.refl _ _ | assumption | refine bel_trans ?_ (bel_alloc _ _) | refine bel_set ?_ (by first | (dsimp only; omega) | (simp; omega) | simp) _ | refine bel_trans ?_ (bel_drewN _ _) | refine bel_trans ?_ (bel_drew _) | refine bel_trans ?_ (by assumption)))⟩
    | true =>
      cases h3 : elB p y with
      | false =>
        go_enter Try.func19, Try.ntmps19
        go_wp2_with (first | (go_at_call 47; refine (i_isTripleShares _ _ _ _ _ _ (by assumption)).mono ?_; rintro e w' ⟨rfl, hb⟩; replace h := h.below hb) | (go_at_call 61; refine (i_isElement _ _ _).mono ?_; rintro e w' ⟨rfl, rfl⟩))
        go_ret2
        exact ⟨_, _, rfl, Mine.nil, by (repeat (first | exact Below.refl _ _ | assumption | refine bel_trans ?_ (bel_alloc _ _) | refine bel_set ?_ (by first | (dsimp only; omega) | (simp; omega) | simp) _ | refine bel_trans ?_ (bel_drewN _ _) | refine bel_trans ?_ (bel_drew _) | refine bel_trans ?_ (by assumption)))⟩
      | true =>
        obtain ⟨hp1, hp2⟩ := lnB_p h1
        obtain ⟨x0, x1, x2, rfl, ⟨p0, q0⟩, ⟨p1, q1⟩, ⟨p2, q2⟩⟩ := ln3 h1
        have hx2 := (elB_iff.1 h2).2
        have hy2 := (elB_iff.1 h3).2
        obtain ⟨b0, b1⟩ := emod_bd (n := x - x0) (p := p) (by omega)
        obtain ⟨b2, b3⟩ := emod_bd (n := y - x1) (p := p) (by omega)
        have w1 : IntKind.i64.wrap (x - x0) = x - x0 := IntWalk.i64_in _ (by omega)
        have w2 : IntKind.i64.wrap (y - x1) = y - x1 := IntWalk.i64_in _ (by omega)
        go_enter Try.func19, Try.ntmps19
        go_wp2_with fail
        refine (i_isTripleShares _ _ _ _ _ _ h).mono ?_; rintro e w1 ⟨rfl, hb⟩
        obtain ⟨rfl, b, off, rfl, c0, c1, c2⟩ := (h.below hb).three
        have HB := Lib.hid hb; clear h hb
        go_wp2_with (first | (go_at_call 61; refine (i_isElement _ _ _).mono ?_; rintro e w' ⟨rfl, rfl⟩))
        go_region_held3 (fun W => W.cell? ⟨b, off, none⟩ = some (.int .i64 x0) ∧ W.cell? ⟨b, off + 1, none⟩ = some (.int .i64 x1)) (simp [go_sem, World.cell?_alloc_some, *]) (first | (go_at_call 54; refine (i_mod _ _ _ (by omega) (by omega) (by omega) (by omega)).mono ?_; rintro e w' ⟨rfl, rfl⟩))
        go_wp2
        go_ret2
        exact ⟨_, _, rfl, (Mine.below (lit2_mine (x := (x - x0) % p) (y := (y - x1) % p) 3 (by unfold Fits; omega) (by unfold Fits; omega)) (bel_drew _)).base HB.out.size, bel_trans (bel_trans HB.out (bel_alloc _ _)) (bel_drew _)⟩
set_option maxHeartbeats 1000000 in
theorem s_trMask (p : Int) (a : Option Addr) (n cap : Nat) (x0 x1 x2 x y : Int) (w : World) (h : Ints w a n cap [x0, x1, x2]) (hp : 2 ≤ p ∧ p ≤ 251) (hx : (0 ≤ x0 ∧ x0 ≤ 250) ∧ (0 ≤ x1 ∧ x1 ≤ 250)) (hd : 0 ≤ x ∧ x ≤ 250) (he : 0 ≤ y ∧ y ≤ 250) :
    Calls Try.prog 62 #[.int .i64 p, .slice a n cap, .int .i64 x, .int .i64 y] w fun e' w' => ∃ r, e' = .returned (.slice r 2 2) ∧ Mine w' w.heap.size r 2 2 [(x - x0) % p, (y - x1) % p] ∧ Below w.heap.size w w' := by
  obtain ⟨hp1, hp2⟩ := hp; obtain ⟨d1, d2⟩ := hd; obtain ⟨e1, e2⟩ := he
  obtain ⟨⟨p0, q0⟩, ⟨p1, q1⟩⟩ := hx
  obtain ⟨b0, b1⟩ := emod_bd (n := x - x0) (p := p) (by omega)
  obtain ⟨b2, b3⟩ := emod_bd (n := y - x1) (p := p) (by omega)
  have w1 : IntKind.i64.wrap (x - x0) = x - x0 := IntWalk.i64_in _ (by omega)
  have w2 : IntKind.i64.wrap (y - x1) = y - x1 := IntWalk.i64_in _ (by omega)
  obtain ⟨rfl, b, off, rfl, c0, c1, c2⟩ := h.three
  clear h
  go_enter Try.func62, Try.ntmps62
  go_wp2
  go_region_held3 (fun W => W.cell? ⟨b, off, none⟩ = some (.int .i64 x0) ∧ W.cell? ⟨b, off + 1, none⟩ = some (.int .i64 x1)) (simp [go_sem, World.cell?_alloc_some, *]) (first | (go_at_call 59; refine (s_btMod _ _ _ (by omega) (by omega) (by omega) (by omega)).mono ?_; rintro e w' ⟨rfl, rfl⟩))
  go_wp2
  go_ret
  exact ⟨_, rfl, Mine.below (lit2_mine (x := (x - x0) % p) (y := (y - x1) % p) 3 (by unfold Fits; omega) (by unfold Fits; omega)) (bel_drew _), bel_trans (bel_alloc _ _) (bel_drew _)⟩
set_option maxHeartbeats 2000000 in
theorem s_MaskPair (p : Int) (a : Option Addr) (n cap : Nat) (xs : List Int) (x y : Int) (w : World) (hp : Fits p) (h : Ints w a n cap xs) (hx : Fits x) (hy : Fits y) :
    Calls Try.prog 20 #[.int .i64 p, .slice a n cap, .int .i64 x, .int .i64 y] w fun e' w' => ∃ r c, e' = .returned (.tuple #[.slice r (maskPair p xs x y).1.length c, .bool (maskPair p xs x y).2]) ∧ Mine w' w.heap.size r (maskPair p xs x y).1.length c (maskPair p xs x y).1 ∧ Below w.heap.size w w' := by
  have hV : (lnB p xs 3 && (elB p x && elB p y)) = (lnB p xs 3 && elsB p [x, y]) := by
    rw [elsB_cons, elsB_cons, elsB_nil, elB_and]
  unfold maskPair; rw [hV]; clear hV
  cases h1 : lnB p xs 3 with
  | false =>
    go_enter Try.func20, Try.ntmps20
    go_wp2_with (first | (go_at_call 55; refine (s_trShares _ _ _ _ _ _ (by assumption)).mono ?_; rintro e w' ⟨rfl, rfl⟩) | (go_at_call 58; refine (s_fpIn _ _ _ _ [x, y] _ (by exact Ints.lit2 (by simp) hx hy)).mono ?_; rintro e w' ⟨rfl, rfl⟩))
    go_ret2
    exact ⟨_, _, rfl, Mine.nil, by (repeat (first | exact Below.refl _ _ | assumption | refine bel_trans ?_ (bel_alloc _ _) | refine bel_set ?_ (by first | (dsimp only; omega) | (simp; omega) | simp) _ | refine bel_trans ?_ (bel_drewN _ _) | refine bel_trans ?_ (bel_drew _) | refine bel_trans ?_ (by assumption)))⟩
  | true =>
    cases h2 : elsB p [x, y] with
    | false =>
      go_enter Try.func20, Try.ntmps20
      go_wp2_with (first | (go_at_call 55; refine (s_trShares _ _ _ _ _ _ (by assumption)).mono ?_; rintro e w' ⟨rfl, rfl⟩) | (go_at_call 58; refine (s_fpIn _ _ _ _ [x, y] _ (by exact Ints.lit2 (by simp) hx hy)).mono ?_; rintro e w' ⟨rfl, rfl⟩))
      go_ret2
      exact ⟨_, _, rfl, Mine.nil, by (repeat (first | exact Below.refl _ _ | assumption | refine bel_trans ?_ (bel_alloc _ _) | refine bel_set ?_ (by first | (dsimp only; omega) | (simp; omega) | simp) _ | refine bel_trans ?_ (bel_drewN _ _) | refine bel_trans ?_ (bel_drew _) | refine bel_trans ?_ (by assumption)))⟩
    | true =>
      obtain ⟨hp1, hp2⟩ := lnB_p h1
      obtain ⟨x0, x1, x2, rfl, ⟨p0, q0⟩, ⟨p1, q1⟩, ⟨p2, q2⟩⟩ := ln3 h1
      have hx2 : 0 ≤ x ∧ x ≤ p - 1 := elsB_nth h2 (i := 0) (by simp)
      have hy2 : 0 ≤ y ∧ y ≤ p - 1 := elsB_nth h2 (i := 1) (by simp)
      go_enter Try.func20, Try.ntmps20
      go_wp2_with (first | (go_at_call 55; refine (s_trShares _ _ _ _ _ _ (by assumption)).mono ?_; rintro e w' ⟨rfl, rfl⟩) | (go_at_call 58; refine (s_fpIn _ _ _ _ [x, y] _ (by exact Ints.lit2 (by simp) hx hy)).mono ?_; rintro e w' ⟨rfl, rfl⟩) | (go_at_call 62; refine (s_trMask _ _ _ _ x0 x1 x2 _ _ _ (by exact h.alloc _) ⟨hp1, hp2⟩ ⟨⟨by omega, by omega⟩, ⟨by omega, by omega⟩⟩ ⟨by omega, by omega⟩ ⟨by omega, by omega⟩).mono ?_; rintro e w' ⟨r, rfl, hm, hb⟩))
      go_ret2
      exact ⟨_, _, rfl, hm.base (by simp), by (repeat (first | exact Below.refl _ _ | assumption | refine bel_trans ?_ (bel_alloc _ _) | refine bel_set ?_ (by first | (dsimp only; omega) | (simp; omega) | simp) _ | refine bel_trans ?_ (bel_drewN _ _) | refine bel_trans ?_ (bel_drew _) | refine bel_trans ?_ (by assumption)))⟩
end Go.Proofs.Ytfandnakenpfnaa
