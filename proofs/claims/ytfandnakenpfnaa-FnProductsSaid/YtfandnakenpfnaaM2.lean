/-
  Contracts: IsTriple, OpenWays, ProductShare, MaskPair.
-/
import Derived.Test.YtfandnakenpfnaaM
namespace Go.Proofs.Ytfandnakenpfnaa
open Go.RowKit
set_option linter.unusedVariables false
set_option linter.unusedSimpArgs false

/-- Sums of two lists' numbers, reduced. -/
def sumAt (p : Int) (xs ys : List Int) (i : Nat) : Int := (nth xs i + nth ys i) % p
def sumMod (p : Int) (xs ys : List Int) (n : Nat) : List Int := (List.range n).map (sumAt p xs ys)
theorem sumMod_len (p : Int) (xs ys : List Int) (n : Nat) : (sumMod p xs ys n).length = n := by simp [sumMod]
theorem sumMod_succ (p : Int) (xs ys : List Int) (n : Nat) : sumMod p xs ys (n + 1) = sumMod p xs ys n ++ [sumAt p xs ys n] := by simp [sumMod, List.range_succ]
theorem nth_sumMod {p : Int} {xs ys : List Int} {n i : Nat} (hi : i < n) : nth (sumMod p xs ys n) i = sumAt p xs ys i := by simp [nth, sumMod, hi]
theorem sumMod_fit (p : Int) (xs ys : List Int) (n : Nat) (hp : 2 ≤ p ∧ p ≤ 251) : ∀ x ∈ sumMod p xs ys n, Fits x := by
  intro x hx
  simp only [sumMod, List.mem_map] at hx
  obtain ⟨i, _, rfl⟩ := hx
  have := emod_bd (n := nth xs i + nth ys i) (p := p) (by omega)
  unfold sumAt Fits; omega
set_option maxHeartbeats 1000000 in
theorem s_trSum (p : Int) (a a' : Option Addr) (n n' cap cap' : Nat) (xs ys : List Int) (w : World) (h : Ints w a n cap xs) (h' : Ints w a' n' cap' ys) (hp : 2 ≤ p ∧ p ≤ 251) (hn : n ≤ n') (hs : n ≤ 100)
    (hx : Hid (∀ i, i < n → -1000000 ≤ nth xs i ∧ 0 ≤ nth xs i + nth ys i ∧ nth xs i ≤ 1000000 ∧ nth ys i ≤ 1000000)) :
    Calls Try.prog 52 #[.int .i64 p, .slice a n cap, .slice a' n' cap'] w fun e w' => ∃ r c, e = .returned (.slice r n c) ∧ Mine w' w.heap.size r n c (sumMod p xs ys n) ∧ Below w.heap.size w w' := by
  obtain ⟨hp1, hp2⟩ := hp
  have HFT := Lib.hid (sumMod_fit p xs ys n ⟨hp1, hp2⟩)
  go_enter Try.func52, Try.ntmps52
  go_wp2
  go_loopw [7, 12] (fun v i wr => ∃ k : Nat, k ≤ n ∧ i = .int .i64 k ∧ Hid (wr.ownsRow w.heap.size 3 1 v k (ivs (sumMod p xs ys k))) ∧ Hid (Below w.heap.size w wr)) (fun _ i _ => n - (intOf i).toNat)
  case atStart => exact ⟨0, by omega, rfl, World.ownsRow_nil _ _ _ _, Below.refl _ _⟩
  case round =>
    obtain ⟨k, hk, rfl, HO, HB⟩ := hrel
    by_cases hlt : k < n
    · obtain ⟨b, off, rfl, hbl, hc⟩ := (h.below HB.out).at hlt
      obtain ⟨b', off', rfl, hbl', hc'⟩ := (h'.below HB.out).at (i := k) (by omega)
      have hlti : (k : Int) < (n' : Int) := by omega
      obtain ⟨x1, x2, x3, x4⟩ := hx.out k hlt
      have hz := HB.out.size
      have HS : Hid (sumMod p xs ys (k + 1) = sumMod p xs ys k ++ [(nth xs k + nth ys k) % p]) := sumMod_succ p xs ys k
      go_wp2_with (at_builtin; refine wp_app wr w.heap.size _ _ _ ((nth xs k + nth ys k) % p) _ _ rfl _ _ rfl rfl rfl rfl HO.out hz (by omega) ?_; intro v9 w9 hv9 hb9 hg9)
      clear hg9
      go_roundw
      case rel => exact ⟨k + 1, by omega, by go_num, by rw [HS.out]; exact hv9, HB.out.trans hb9⟩
      case measure => simp [intOf]; omega
    · obtain rfl : k = n := by omega
      go_wp2
      obtain ⟨r, c, hv, hm⟩ := Mine.of HO.out (by omega) HFT.out
      subst hv
      go_ret
      exact ⟨_, _, rfl, hm, HB.out⟩

/-! ### IsTriple -/
def isTriple (p : Int) (s t : List Int) : Bool × Bool := if lnB p s 3 && lnB p t 3 then (decide (((nth s 0 + nth t 0) * (nth s 1 + nth t 1) - (nth s 2 + nth t 2)) % p = 0), true) else (false, false)
set_option maxHeartbeats 1000000 in
theorem i_IsTriple (p : Int) (a : Option Addr) (n cap : Nat) (xs : List Int) (a' : Option Addr) (n' cap' : Nat) (ys : List Int) (w : World) (hp : Fits p) (h : Ints w a n cap xs) (h' : Ints w a' n' cap' ys) :
    Calls Try.prog 13 #[.int .i64 p, .slice a n cap, .slice a' n' cap'] w fun e w' => e = .returned (.tuple #[.bool (isTriple p xs ys).1, .bool (isTriple p xs ys).2]) ∧ Below w.heap.size w w' := by
  unfold isTriple
  cases h1 : lnB p xs 3 with
  | false =>
    go_enter Try.func13, Try.ntmps13
    go_wp2_with (first | (go_at_call 47; refine (i_isTripleShares _ _ _ _ _ _ (by assumption)).mono ?_; rintro e w' ⟨rfl, hb⟩; replace h := h.below hb; replace h' := h'.below hb))
    go_ret2
    exact ⟨rfl, by (repeat (first | exact Below.refl _ _ | assumption | refine bel_trans ?_ (bel_alloc _ _) | refine bel_set ?_ (by first | (dsimp only; omega) | (simp; omega) | simp) _ | refine bel_trans ?_ (bel_drewN _ _) | refine bel_trans ?_ (bel_drew _) | refine bel_trans ?_ (by assumption)))⟩
  | true =>
    cases h2 : lnB p ys 3 with
    | false =>
      go_enter Try.func13, Try.ntmps13
      go_wp2_with (first | (go_at_call 47; refine (i_isTripleShares _ _ _ _ _ _ (by assumption)).mono ?_; rintro e w' ⟨rfl, hb⟩; replace h := h.below hb; replace h' := h'.below hb))
      go_ret2
      exact ⟨rfl, by (repeat (first | exact Below.refl _ _ | assumption | refine bel_trans ?_ (bel_alloc _ _) | refine bel_set ?_ (by first | (dsimp only; omega) | (simp; omega) | simp) _ | refine bel_trans ?_ (bel_drewN _ _) | refine bel_trans ?_ (bel_drew _) | refine bel_trans ?_ (by assumption)))⟩
    | true =>
      obtain ⟨hp1, hp2⟩ := lnB_p h1
      obtain ⟨x0, x1, x2, rfl, ⟨p0, q0⟩, ⟨p1, q1⟩, ⟨p2, q2⟩⟩ := ln3 h1
      obtain ⟨y0, y1, y2, rfl, ⟨r0, s0⟩, ⟨r1, s1⟩, ⟨r2, s2⟩⟩ := ln3 h2
      obtain ⟨m1, m2⟩ := mul_bd (a := x0 + y0) (b := x1 + y1) 500 500 (by omega) (by omega) (by omega) (by omega)
      go_enter Try.func13, Try.ntmps13
      go_wp2_with (first | (go_at_call 47; refine (i_isTripleShares _ _ _ _ _ _ (by assumption)).mono ?_; rintro e w' ⟨rfl, hb⟩; replace h := h.below hb; replace h' := h'.below hb) | (go_at_call 53; refine (i_sums _ _ _ _ _ _ x0 x1 x2 y0 y1 y2 _ (by assumption) (by assumption) ⟨⟨by omega, by omega⟩, ⟨by omega, by omega⟩, ⟨by omega, by omega⟩⟩ ⟨⟨by omega, by omega⟩, ⟨by omega, by omega⟩, ⟨by omega, by omega⟩⟩).mono ?_; rintro e w' ⟨rfl, hb⟩) | (go_at_call 54; refine (i_mod _ _ _ (by omega) (by omega) (by omega) (by omega)).mono ?_; rintro e w' ⟨rfl, rfl⟩))
      go_ret2
      exact ⟨by first | rfl | exact ret_bb rfl rfl, by (repeat (first | exact Below.refl _ _ | assumption | refine bel_trans ?_ (bel_alloc _ _) | refine bel_set ?_ (by first | (dsimp only; omega) | (simp; omega) | simp) _ | refine bel_trans ?_ (bel_drewN _ _) | refine bel_trans ?_ (bel_drew _) | refine bel_trans ?_ (by assumption)))⟩
set_option maxHeartbeats 1000000 in
theorem s_IsTriple (p : Int) (a : Option Addr) (n cap : Nat) (xs : List Int) (a' : Option Addr) (n' cap' : Nat) (ys : List Int) (w : World) (hp : Fits p) (h : Ints w a n cap xs) (h' : Ints w a' n' cap' ys) :
    Calls Try.prog 14 #[.int .i64 p, .slice a n cap, .slice a' n' cap'] w fun e w' => e = .returned (.tuple #[.bool (isTriple p xs ys).1, .bool (isTriple p xs ys).2]) ∧ Below w.heap.size w w' := by
  unfold isTriple
  cases h1 : lnB p xs 3 with
  | false =>
    go_enter Try.func14, Try.ntmps14
    go_wp2_with (first | (go_at_call 55; refine (s_trShares _ _ _ _ _ _ (by assumption)).mono ?_; rintro e w' ⟨rfl, rfl⟩))
    go_ret2
    exact ⟨rfl, by (repeat (first | exact Below.refl _ _ | assumption | refine bel_trans ?_ (bel_alloc _ _) | refine bel_set ?_ (by first | (dsimp only; omega) | (simp; omega) | simp) _ | refine bel_trans ?_ (bel_drewN _ _) | refine bel_trans ?_ (bel_drew _) | refine bel_trans ?_ (by assumption)))⟩
  | true =>
    cases h2 : lnB p ys 3 with
    | false =>
      go_enter Try.func14, Try.ntmps14
      go_wp2_with (first | (go_at_call 55; refine (s_trShares _ _ _ _ _ _ (by assumption)).mono ?_; rintro e w' ⟨rfl, rfl⟩))
      go_ret2
      exact ⟨rfl, by (repeat (first | exact Below.refl _ _ | assumption | refine bel_trans ?_ (bel_alloc _ _) | refine bel_set ?_ (by first | (dsimp only; omega) | (simp; omega) | simp) _ | refine bel_trans ?_ (bel_drewN _ _) | refine bel_trans ?_ (bel_drew _) | refine bel_trans ?_ (by assumption)))⟩
    | true =>
      obtain ⟨hp1, hp2⟩ := lnB_p h1
      obtain ⟨x0, x1, x2, rfl, ⟨p0, q0⟩, ⟨p1, q1⟩, ⟨p2, q2⟩⟩ := ln3 h1
      obtain ⟨y0, y1, y2, rfl, ⟨r0, s0⟩, ⟨r1, s1⟩, ⟨r2, s2⟩⟩ := ln3 h2
      obtain ⟨b0, c0⟩ := emod_bd (n := x0 + y0) (p := p) (by omega)
      obtain ⟨b1, c1⟩ := emod_bd (n := x1 + y1) (p := p) (by omega)
      obtain ⟨m1, m2⟩ := mul_bd (a := (x0 + y0) % p) (b := (x1 + y1) % p) 251 251 (by omega) (by omega) (by omega) (by omega)
      have hp0 : ¬ p = 0 := by omega
      have e1 : IntKind.i64.wrap ((x0 + y0) % p * ((x1 + y1) % p)) = (x0 + y0) % p * ((x1 + y1) % p) := IntWalk.i64_in _ (by omega)
      have e2 : ((x0 + y0) % p * ((x1 + y1) % p)).tmod p = (x0 + y0) % p * ((x1 + y1) % p) % p := IntWalk.rem_in _ _ (by omega)
      have HE : Hid (((x0 + y0) % p * ((x1 + y1) % p) % p == (x2 + y2) % p) = decide (((x0 + y0) * (x1 + y1) - (x2 + y2)) % p = 0)) := by
        show _ = _
        rw [Bool.eq_iff_iff, decide_eq_true_iff, beq_iff_eq, ← Int.mul_emod, Int.emod_eq_emod_iff_emod_sub_eq_zero]
      have hxx : Hid (∀ i, i < 3 → -1000000 ≤ nth [x0, x1, x2] i ∧ 0 ≤ nth [x0, x1, x2] i + nth [y0, y1, y2] i ∧ nth [x0, x1, x2] i ≤ 1000000 ∧ nth [y0, y1, y2] i ≤ 1000000) := by
        intro i hi
        rcases (show i = 0 ∨ i = 1 ∨ i = 2 by omega) with rfl | rfl | rfl <;> simp [nth] <;> omega
      obtain rfl : n = 3 := h.three.1
      obtain rfl : n' = 3 := h'.three.1
      go_enter Try.func14, Try.ntmps14
      go_wp2_with (first | (go_at_call 55; refine (s_trShares _ _ _ _ _ _ (by assumption)).mono ?_; rintro e w' ⟨rfl, rfl⟩))
      refine (s_trSum _ _ _ _ _ _ _ [x0, x1, x2] [y0, y1, y2] _ h h' ⟨hp1, hp2⟩ (by omega) (by omega) hxx).mono ?_; rintro e w1 ⟨r, c, rfl, hm, hb⟩
      have hi : Ints w1 r 3 c [(x0 + y0) % p, (x1 + y1) % p, (x2 + y2) % p] := hm.ints
      obtain ⟨_, b, off, rfl, d0, d1, d2⟩ := hi.three
      have HB := Lib.hid hb; clear hi hm hb
      go_wp2_with fail
      go_quiet (fail)
      go_wp2
      go_ret2
      exact ⟨by first | rfl | exact ret_bb HE.out rfl, bel_trans HB.out (bel_drewN _ _)⟩

def bitN (b : Bool) : Int := if b then 1 else 0
theorem bitN_t : bitN true = 1 := rfl
theorem bitN_f : bitN false = 0 := rfl
theorem bitN_bd (b : Bool) : 0 ≤ bitN b ∧ bitN b ≤ 1 := by cases b <;> simp [bitN]
set_option maxHeartbeats 400000 in
theorem i_bit (b : Bool) (w : World) : Calls Try.prog 48 #[.bool b] w fun e w' => e = .returned (.int .i64 (bitN b)) ∧ w = w' := by
  cases b with
  | true =>
    go_enter Try.func48, Try.ntmps48
    go_wp2
    go_ret
    exact ⟨rfl, rfl⟩
  | false =>
    go_enter Try.func48, Try.ntmps48
    go_wp2
    go_ret
    exact ⟨rfl, rfl⟩

/-! ### OpenWays -/
def owC (p x y d e : Int) (a b : Nat) : Bool := ((x - a) % p == d) && ((y - b) % p == e)
def owIn (p x y d e : Int) (a : Nat) : Nat → Int
  | 0 => 0
  | n + 1 => owIn p x y d e a n + bitN (owC p x y d e a n)
def owOut (p x y d e : Int) (m : Nat) : Nat → Int
  | 0 => 0
  | n + 1 => owOut p x y d e m n + owIn p x y d e n m
theorem owIn_bd (p x y d e : Int) (a n : Nat) : 0 ≤ owIn p x y d e a n ∧ owIn p x y d e a n ≤ n := by
  induction n with
  | zero => simp [owIn]
  | succ n ih => have := bitN_bd (owC p x y d e a n); rw [owIn]; omega
theorem owOut_bd (p x y d e : Int) (m n : Nat) : 0 ≤ owOut p x y d e m n ∧ owOut p x y d e m n ≤ (n * m : Nat) := by
  induction n with
  | zero => simp [owOut]
  | succ n ih => have := owIn_bd p x y d e n m; rw [owOut, Nat.add_mul]; omega
def openWays (p x y d e : Int) : Int × Bool := if elsB p [x, y, d, e] then (owOut p x y d e p.toNat p.toNat, true) else (0, false)
set_option maxHeartbeats 2000000 in
theorem i_OpenWays (p x y d e : Int) (w : World) (hp : Fits p) (hx : Fits x) (hy : Fits y) (hd : Fits d) (he : Fits e) :
    Calls Try.prog 16 #[.int .i64 p, .int .i64 x, .int .i64 y, .int .i64 d, .int .i64 e] w fun e' w' => e' = .returned (.tuple #[.int .i64 (openWays p x y d e).1, .bool (openWays p x y d e).2]) ∧ Below w.heap.size w w' := by
  unfold openWays
  cases h1 : elsB p [x, y, d, e] with
  | false =>
    go_enter Try.func16, Try.ntmps16
    go_wp2_with (go_at_call 57; refine (i_areElements _ _ _ _ [x, y, d, e] _ (by exact Ints.lit4 (by simp) hx hy hd he)).mono ?_; rintro e w1 ⟨rfl, hb⟩)
    go_ret2
    exact ⟨rfl, by (repeat (first | exact Below.refl _ _ | assumption | refine bel_trans ?_ (bel_alloc _ _) | refine bel_set ?_ (by first | (dsimp only; omega) | (simp; omega) | simp) _ | refine bel_trans ?_ (bel_drewN _ _) | refine bel_trans ?_ (bel_drew _) | refine bel_trans ?_ (by assumption)))⟩
  | true =>
    obtain ⟨hp1, hp2⟩ := elsB_p h1
    obtain ⟨x1, x2⟩ : 0 ≤ x ∧ x ≤ p - 1 := elsB_nth h1 (i := 0) (by simp)
    obtain ⟨y1, y2⟩ : 0 ≤ y ∧ y ≤ p - 1 := elsB_nth h1 (i := 1) (by simp)
    obtain ⟨q, rfl⟩ : ∃ q : Nat, p = q := ⟨p.toNat, by omega⟩
    go_enter Try.func16, Try.ntmps16
    go_wp2_with (go_at_call 57; refine (i_areElements _ _ _ _ [x, y, d, e] _ (by exact Ints.lit4 (by simp) hx hy hd he)).mono ?_; rintro e w1 ⟨rfl, hb⟩)
    have HB : Hid (Below w.heap.size w w1) := bel_trans (bel_alloc _ _) hb
    clear hb
    skip
    go_loop [12, 24] (fun s i => ∃ k : Nat, k ≤ q ∧ i = .int .i64 k ∧ s = .int .i64 (owOut q x y d e q k)) (fun _ i => q - (intOf i).toNat)
    case atStart => exact ⟨0, by omega, rfl, rfl⟩
    case round =>
      obtain ⟨k, hk, rfl, rfl⟩ := hrel
      have ob := owOut_bd q x y d e q k
      have kq : k * q ≤ 251 * 251 := Nat.mul_le_mul (by omega) (by omega)
      by_cases hlt : k < q
      · have HS : Hid (owOut q x y d e q (k + 1) = owOut q x y d e q k + owIn q x y d e k q) := rfl
        go_wp2
        go_loop [12, 28] (fun s i => ∃ j : Nat, j ≤ q ∧ i = .int .i64 j ∧ s = .int .i64 (owOut q x y d e q k + owIn q x y d e k j)) (fun _ i => q - (intOf i).toNat)
        case atStart => exact ⟨0, by omega, rfl, by simp [owIn]⟩
        case round =>
          obtain ⟨j, hj, rfl, rfl⟩ := hrel
          have ib := owIn_bd q x y d e k j
          by_cases hlj : j < q
          · cases t1 : ((x - (k : Int)) % (q : Int) == d) with
            | false =>
              have HI : Hid (owIn q x y d e k (j + 1) = owIn q x y d e k j) := by show _ = _; rw [owIn, owC, t1]; simp [bitN]
              go_wp2_with (first | (go_at_call 54; refine (i_mod _ _ _ (by omega) (by omega) (by omega) (by omega)).mono ?_; rintro e w' ⟨rfl, rfl⟩) | (go_at_call 48; refine (i_bit _ _).mono ?_; rintro e w' ⟨rfl, rfl⟩; simp only [bitN_t, bitN_f]))
              go_round
              case rel => exact ⟨j + 1, by omega, by go_num, by rw [HI.out]; try first | rfl | (go_num; done) | (simp [bitN]; done) | (simp [bitN]; omega)⟩
              case measure => simp [intOf]; omega
            | true =>
              cases t2 : ((y - (j : Int)) % (q : Int) == e) with
              | false =>
                have HI : Hid (owIn q x y d e k (j + 1) = owIn q x y d e k j) := by show _ = _; rw [owIn, owC, t1, t2]; simp [bitN]
                go_wp2_with (first | (go_at_call 54; refine (i_mod _ _ _ (by omega) (by omega) (by omega) (by omega)).mono ?_; rintro e w' ⟨rfl, rfl⟩) | (go_at_call 48; refine (i_bit _ _).mono ?_; rintro e w' ⟨rfl, rfl⟩; simp only [bitN_t, bitN_f]))
                go_round
                case rel => exact ⟨j + 1, by omega, by go_num, by rw [HI.out]; try first | rfl | (go_num; done) | (simp [bitN]; done) | (simp [bitN]; omega)⟩
                case measure => simp [intOf]; omega
              | true =>
                have HI : Hid (owIn q x y d e k (j + 1) = owIn q x y d e k j + 1) := by show _ = _; rw [owIn, owC, t1, t2]; simp [bitN]
                go_wp2_with (first | (go_at_call 54; refine (i_mod _ _ _ (by omega) (by omega) (by omega) (by omega)).mono ?_; rintro e w' ⟨rfl, rfl⟩) | (go_at_call 48; refine (i_bit _ _).mono ?_; rintro e w' ⟨rfl, rfl⟩; simp only [bitN_t, bitN_f]))
                go_round
                case rel => exact ⟨j + 1, by omega, by go_num, by rw [HI.out]; try first | rfl | (go_num; done) | (simp [bitN]; done) | (simp [bitN]; omega)⟩
                case measure => simp [intOf]; omega
          · obtain rfl : j = q := by omega
            go_wp2
            go_round
            case rel => exact ⟨k + 1, by omega, by go_num, by rw [HS.out]⟩
            case measure => simp [intOf]; omega
      · obtain rfl : k = q := by omega
        go_wp2
        go_ret2
        exact ⟨by first | rfl | simp, HB.out⟩
set_option maxHeartbeats 2000000 in
theorem s_OpenWays (p x y d e : Int) (w : World) (hp : Fits p) (hx : Fits x) (hy : Fits y) (hd : Fits d) (he : Fits e) :
    Calls Try.prog 17 #[.int .i64 p, .int .i64 x, .int .i64 y, .int .i64 d, .int .i64 e] w fun e' w' => e' = .returned (.tuple #[.int .i64 (openWays p x y d e).1, .bool (openWays p x y d e).2]) ∧ Below w.heap.size w w' := by
  unfold openWays
  cases h1 : elsB p [x, y, d, e] with
  | false =>
    go_enter Try.func17, Try.ntmps17
    go_wp2_with (go_at_call 58; refine (s_fpIn _ _ _ _ [x, y, d, e] _ (by exact Ints.lit4 (by simp) hx hy hd he)).mono ?_; rintro e w1 ⟨rfl, rfl⟩)
    go_ret2
    exact ⟨rfl, by (repeat (first | exact Below.refl _ _ | assumption | refine bel_trans ?_ (bel_alloc _ _) | refine bel_set ?_ (by first | (dsimp only; omega) | (simp; omega) | simp) _ | refine bel_trans ?_ (bel_drewN _ _) | refine bel_trans ?_ (bel_drew _) | refine bel_trans ?_ (by assumption)))⟩
  | true =>
    obtain ⟨hp1, hp2⟩ := elsB_p h1
    obtain ⟨x1, x2⟩ : 0 ≤ x ∧ x ≤ p - 1 := elsB_nth h1 (i := 0) (by simp)
    obtain ⟨y1, y2⟩ : 0 ≤ y ∧ y ≤ p - 1 := elsB_nth h1 (i := 1) (by simp)
    obtain ⟨q, rfl⟩ : ∃ q : Nat, p = q := ⟨p.toNat, by omega⟩
    go_enter Try.func17, Try.ntmps17
    go_wp2_with (go_at_call 58; refine (s_fpIn _ _ _ _ [x, y, d, e] _ (by exact Ints.lit4 (by simp) hx hy hd he)).mono ?_; rintro e w1 ⟨rfl, rfl⟩)
    have HB := Lib.hid (show Below w.heap.size w (w.alloc (.cells #[.int .i64 x, .int .i64 y, .int .i64 d, .int .i64 e] 3)) from bel_alloc _ _)
    generalize (w.alloc (.cells #[.int .i64 x, .int .i64 y, .int .i64 d, .int .i64 e] 3)) = wk at *
    go_loop [12, 13] (fun s i => ∃ k : Nat, k ≤ q ∧ i = .int .i64 k ∧ s = .int .i64 (owOut q x y d e q k)) (fun _ i => q - (intOf i).toNat)
    case atStart => exact ⟨0, by omega, rfl, rfl⟩
    case round =>
      obtain ⟨k, hk, rfl, rfl⟩ := hrel
      have ob := owOut_bd q x y d e q k
      have kq : k * q ≤ 251 * 251 := Nat.mul_le_mul (by omega) (by omega)
      by_cases hlt : k < q
      · have HS : Hid (owOut q x y d e q (k + 1) = owOut q x y d e q k + owIn q x y d e k q) := rfl
        go_wp2
        go_loop [12, 14] (fun s i => ∃ j : Nat, j ≤ q ∧ i = .int .i64 j ∧ s = .int .i64 (owOut q x y d e q k + owIn q x y d e k j)) (fun _ i => q - (intOf i).toNat)
        case atStart => exact ⟨0, by omega, rfl, by simp [owIn]⟩
        case round =>
          obtain ⟨j, hj, rfl, rfl⟩ := hrel
          have ib := owIn_bd q x y d e k j
          by_cases hlj : j < q
          · cases t1 : ((x - (k : Int)) % (q : Int) == d) with
            | false =>
              have HI : Hid (owIn q x y d e k (j + 1) = owIn q x y d e k j) := by show _ = _; rw [owIn, owC, t1]; simp [bitN]
              go_wp2_with (first | (go_at_call 59; refine (s_btMod _ _ _ (by omega) (by omega) (by omega) (by omega)).mono ?_; rintro e w' ⟨rfl, rfl⟩))
              go_round
              case rel => exact ⟨j + 1, by omega, by go_num, by rw [HI.out]; try first | rfl | (go_num; done) | (simp [bitN]; done) | (simp [bitN]; omega)⟩
              case measure => simp [intOf]; omega
            | true =>
              cases t2 : ((y - (j : Int)) % (q : Int) == e) with
              | false =>
                have HI : Hid (owIn q x y d e k (j + 1) = owIn q x y d e k j) := by show _ = _; rw [owIn, owC, t1, t2]; simp [bitN]
                go_wp2_with (first | (go_at_call 59; refine (s_btMod _ _ _ (by omega) (by omega) (by omega) (by omega)).mono ?_; rintro e w' ⟨rfl, rfl⟩))
                go_round
                case rel => exact ⟨j + 1, by omega, by go_num, by rw [HI.out]; try first | rfl | (go_num; done) | (simp [bitN]; done) | (simp [bitN]; omega)⟩
                case measure => simp [intOf]; omega
              | true =>
                have HI : Hid (owIn q x y d e k (j + 1) = owIn q x y d e k j + 1) := by show _ = _; rw [owIn, owC, t1, t2]; simp [bitN]
                go_wp2_with (first | (go_at_call 59; refine (s_btMod _ _ _ (by omega) (by omega) (by omega) (by omega)).mono ?_; rintro e w' ⟨rfl, rfl⟩))
                go_round
                case rel => exact ⟨j + 1, by omega, by go_num, by rw [HI.out]; try first | rfl | (go_num; done) | (simp [bitN]; done) | (simp [bitN]; omega)⟩
                case measure => simp [intOf]; omega
          · obtain rfl : j = q := by omega
            go_wp2
            go_round
            case rel => exact ⟨k + 1, by omega, by go_num, by rw [HS.out]⟩
            case measure => simp [intOf]; omega
      · obtain rfl : k = q := by omega
        go_wp2
        go_ret2
        exact ⟨by first | rfl | simp, HB.out⟩
end Go.Proofs.Ytfandnakenpfnaa
