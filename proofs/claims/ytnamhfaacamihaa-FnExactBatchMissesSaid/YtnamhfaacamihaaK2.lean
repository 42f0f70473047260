/-
  Contracts of BatchMisses, the program's and the reference's.
-/
import Derived.Test.YtnamhfaacamihaaU
import Derived.Deep.RegionHeld3
namespace Go.Proofs.Ytnamhfaacamihaa
open Go.RowKit
set_option linter.unusedVariables false
set_option linter.unusedSimpArgs false

def bN (b : Bool) : Int := if b then 1 else 0
theorem bN_t : bN true = 1 := rfl
theorem bN_f : bN false = 0 := rfl
theorem bN_bd (b : Bool) : 0 ≤ bN b ∧ bN b ≤ 1 := by cases b <;> simp [bN]
set_option maxHeartbeats 400000 in
theorem i_bitf (b : Bool) (w : World) : Calls Try.prog 64 #[.bool b] w fun e w' => e = .returned (.int .i64 (bN b)) ∧ w = w' := by
  cases b with
  | true =>
    go_enter Try.func64, Try.ntmps64
    go_wp2
    go_ret
    exact ⟨rfl, rfl⟩
  | false =>
    go_enter Try.func64, Try.ntmps64
    go_wp2
    go_ret
    exact ⟨rfl, rfl⟩
/-- Digits of r, weighed with numbers. -/
def dg (p r : Int) (i : Nat) : Int := r / p ^ i % p
def dsum (p r : Int) (xs : List Int) : Nat → Int
  | 0 => 0
  | k + 1 => dsum p r xs k + dg p r k * nth xs k
/-- The same with the residues that the reference sums. -/
def ssum (p r d : Int) (cs ts : List Int) : Nat → Int
  | 0 => 0
  | k + 1 => ssum p r d cs ts k + dg p r k * ((nth cs k * d - nth ts k) % p)
theorem dg_bd (p r : Int) (i : Nat) (hp : 1 ≤ p) : 0 ≤ dg p r i ∧ dg p r i ≤ p - 1 := by
  have := emod_bd (n := r / p ^ i) (p := p) hp
  unfold dg; omega
theorem pow_step (p r : Int) (i : Nat) (hp : 1 ≤ p) : r / p ^ i / p = r / p ^ (i + 1) := by
  rw [Int.pow_succ, Int.ediv_ediv_of_nonneg (Int.pow_nonneg (by omega))]
/-- Powers and quotients, kept whole. -/
def pq (p : Int) (k : Nat) : Int := p ^ k
def dq (p r : Int) (k : Nat) : Int := r / p ^ k
theorem pq_one (p : Int) : pq p (0 + 1) = p := by unfold pq; rw [Nat.zero_add, Int.pow_succ, Int.pow_zero, Int.one_mul]
theorem pq_zero (p : Int) : pq p 0 = 1 := by simp [pq]
theorem dq_step (p r : Int) (k : Nat) (hp : 1 ≤ p) : dq p r k / p = dq p r (k + 1) := pow_step p r k hp
theorem dq_zero (p r : Int) : dq p r 0 = r := by simp [dq]
theorem dq_bd (p r : Int) (k : Nat) (hp : 1 ≤ p) (hr : 0 ≤ r) : 0 ≤ dq p r k ∧ dq p r k ≤ r :=
  ⟨Int.ediv_nonneg hr (Int.pow_nonneg (by omega)), Int.ediv_le_self _ hr⟩
theorem dsum_bd (p r : Int) (xs : List Int) (hp : 1 ≤ p ∧ p ≤ 251) (hx : ∀ i, i < xs.length → 0 ≤ nth xs i ∧ nth xs i ≤ p - 1) (k : Nat) (hk : k ≤ xs.length) : 0 ≤ dsum p r xs k ∧ dsum p r xs k ≤ 63001 * k := by
  induction k with
  | zero => simp [dsum]
  | succ k ih =>
    have h1 := ih (by omega)
    have h2 := dg_bd p r k hp.1
    have h3 := hx k (by omega)
    have h4 := mul_bd (a := dg p r k) (b := nth xs k) 251 251 h2.1 (by omega) h3.1 (by omega)
    rw [dsum]; omega
theorem ssum_bd (p r d : Int) (cs ts : List Int) (hp : 1 ≤ p ∧ p ≤ 251) (k : Nat) : 0 ≤ ssum p r d cs ts k ∧ ssum p r d cs ts k ≤ 63001 * k := by
  induction k with
  | zero => simp [ssum]
  | succ k ih =>
    have h2 := dg_bd p r k hp.1
    have h3 := emod_bd (n := nth cs k * d - nth ts k) (p := p) hp.1
    have h4 := mul_bd (a := dg p r k) (b := (nth cs k * d - nth ts k) % p) 251 251 h2.1 (by omega) h3.1 (by omega)
    rw [ssum]; omega
theorem ssum_dsum (p r d : Int) (cs ts : List Int) (k : Nat) : ssum p r d cs ts k % p = (dsum p r cs k * d - dsum p r ts k) % p := by
  induction k with
  | zero => simp [ssum, dsum]
  | succ k ih =>
    rw [ssum, dsum, dsum]
    have e : (dsum p r cs k + dg p r k * nth cs k) * d - (dsum p r ts k + dg p r k * nth ts k) = (dsum p r cs k * d - dsum p r ts k) + dg p r k * (nth cs k * d - nth ts k) := by
      rw [Int.add_mul, Int.mul_sub, Int.mul_assoc]; omega
    rw [e, Int.add_emod, ih, Int.add_emod (dsum p r cs k * d - dsum p r ts k)]
    congr 2
    rw [Int.mul_emod, Int.emod_emod_of_dvd _ (Int.dvd_refl p), ← Int.mul_emod]
def missAt (p : Int) (cs ts : List Int) (n : Int) : Bool := decide ((dsum p (n / p) cs cs.length * (n % p) - dsum p (n / p) ts cs.length) % p = 0)
def missN (p : Int) (cs ts : List Int) : Nat → Int
  | 0 => 0
  | k + 1 => missN p cs ts k + bN (missAt p cs ts k)
theorem missN_bd (p : Int) (cs ts : List Int) (k : Nat) : 0 ≤ missN p cs ts k ∧ missN p cs ts k ≤ k := by
  induction k with
  | zero => simp [missN]
  | succ k ih => have := bN_bd (missAt p cs ts k); rw [missN]; omega
def bmB (p : Int) (cs ts : List Int) : Bool := elsB p cs && (allIn ts 0 (p - 1) && (decide (cs.length = ts.length) && decide (cs.length ≤ 4)))
def batchMisses (p : Int) (cs ts : List Int) : Int × Bool := if bmB p cs ts && decide (p ^ (cs.length + 1) ≤ 20000) then (missN p cs ts (p ^ (cs.length + 1)).toNat, true) else (0, false)
theorem bmB_iff {p : Int} {cs ts : List Int} : bmB p cs ts = true ↔ elsB p cs = true ∧ allIn ts 0 (p - 1) = true ∧ cs.length = ts.length ∧ cs.length ≤ 4 := by
  unfold bmB; simp only [Bool.and_eq_true, decide_eq_true_iff]
theorem pow_bd (p : Int) (hp : 1 ≤ p ∧ p ≤ 251) (k : Nat) : 1 ≤ p ^ k ∧ p ^ k ≤ 251 ^ k := by
  induction k with
  | zero => simp
  | succ k ih =>
    have h := mul_bd (a := p ^ k) (b := p) (251 ^ k) 251 (by omega) ih.2 (by omega) hp.2
    rw [Int.pow_succ, Int.pow_succ]
    refine ⟨?_, h.2⟩
    have : 1 * 1 ≤ p ^ k * p := Int.mul_le_mul ih.1 hp.1 (by omega) (by omega)
    omega
theorem pow_bd6 (p : Int) (hp : 1 ≤ p ∧ p ≤ 251) (k : Nat) (hk : k ≤ 6) : 1 ≤ p ^ k ∧ p ^ k ≤ 1000000000000000 := by
  have h := pow_bd p hp k
  refine ⟨h.1, Int.le_trans h.2 ?_⟩
  rcases (show k = 0 ∨ k = 1 ∨ k = 2 ∨ k = 3 ∨ k = 4 ∨ k = 5 ∨ k = 6 by omega) with rfl | rfl | rfl | rfl | rfl | rfl | rfl <;> decide
theorem pow_mono (p : Int) (hp : 1 ≤ p) (i j : Nat) (h : i ≤ j) : p ^ i ≤ p ^ j := by
  induction j with
  | zero => rw [show i = 0 by omega]; exact Int.le_refl _
  | succ j ih =>
    rcases Nat.lt_or_ge j i with k | k
    · rw [show i = j + 1 by omega]; exact Int.le_refl _
    · have h1 := ih k
      have h0 : 0 ≤ p ^ j := Int.pow_nonneg (by omega)
      rw [Int.pow_succ]
      have : p ^ j * 1 ≤ p ^ j * p := Int.mul_le_mul_of_nonneg_left hp h0
      omega

set_option maxHeartbeats 4000000 in
theorem i_BatchMisses (p : Int) (a : Option Addr) (n cap : Nat) (xs : List Int) (a' : Option Addr) (n' cap' : Nat) (ys : List Int) (w : World) (hp : Fits p) (h : Ints w a n cap xs) (h' : Ints w a' n' cap' ys) :
    Calls Try.prog 35 #[.int .i64 p, .slice a n cap, .slice a' n' cap'] w fun e w' => e = .returned (.tuple #[.int .i64 (batchMisses p xs ys).1, .bool (batchMisses p xs ys).2]) ∧ Below w.heap.size w w' := by
  have hl := h.len; have hl' := h'.len
  cases h1 : elsB p xs with
  | false =>
    have HR : Hid (batchMisses p xs ys = (0, false)) := by show _ = _; simp [batchMisses, bmB, h1]
    clear hl hl'
    go_enter Try.func35, Try.ntmps35
    go_wp2_with (go_at_call 59; refine (i_areElements _ _ _ _ xs _ h).mono ?_; rintro e w1 ⟨rfl, hb⟩)
    all_goals
      go_ret2
      exact ⟨by rw [HR.out]; try rfl, hb⟩
  | true =>
    have hp1 := elsB_p h1
    cases h2 : allIn ys 0 (p - 1) with
    | false =>
      have HR : Hid (batchMisses p xs ys = (0, false)) := by show _ = _; simp [batchMisses, bmB, h2]
      have h3 : elsB p ys = false := by simp [elsB, h2]
      go_enter Try.func35, Try.ntmps35
      go_wp2_with fail
      refine (i_areElements _ _ _ _ xs _ h).mono ?_; rintro e w1 ⟨rfl, hb⟩
      go_wp2_with fail
      refine (i_areElements _ _ _ _ ys _ (h'.below hb)).mono ?_; rintro e w2 ⟨rfl, hb2⟩
      go_wp2
      all_goals
        go_ret2
        exact ⟨by rw [HR.out]; try rfl, bel_trans hb hb2⟩
    | true =>
      have h3 : elsB p ys = true := by
        have := h1; unfold elsB at this ⊢; rw [Bool.and_eq_true] at this ⊢; exact ⟨this.1, h2⟩
      by_cases h4 : n = n' ∧ n ≤ 4
      rotate_left
      · have HR : Hid (batchMisses p xs ys = (0, false)) := by
          show _ = _
          have : bmB p xs ys = false := by
            cases hb : bmB p xs ys with
            | false => rfl
            | true => have := bmB_iff.1 hb; rw [hl.out, hl'.out] at this; exact absurd ⟨this.2.2.1, this.2.2.2⟩ h4
          simp [batchMisses, this]
        by_cases h5 : n = n'
        · obtain rfl : n = n' := h5
          have h6 : ¬ n ≤ 4 := fun q => h4 ⟨rfl, q⟩
          clear h4
          go_enter Try.func35, Try.ntmps35
          go_wp2_with fail
          refine (i_areElements _ _ _ _ xs _ h).mono ?_; rintro e w1 ⟨rfl, hb⟩
          go_wp2_with fail
          refine (i_areElements _ _ _ _ ys _ (h'.below hb)).mono ?_; rintro e w2 ⟨rfl, hb2⟩
          go_wp2
          all_goals
            go_ret2
            exact ⟨by rw [HR.out]; try rfl, bel_trans hb hb2⟩
        · clear h4
          have h5' : ((n : Int) == (n' : Int)) = false := by simp; omega
          have h5'' : ((n : Int) != (n' : Int)) = true := by simp; omega
          go_enter Try.func35, Try.ntmps35
          go_wp2_with fail
          refine (i_areElements _ _ _ _ xs _ h).mono ?_; rintro e w1 ⟨rfl, hb⟩
          go_wp2_with fail
          refine (i_areElements _ _ _ _ ys _ (h'.below hb)).mono ?_; rintro e w2 ⟨rfl, hb2⟩
          go_wp2
          all_goals
            go_ret2
            exact ⟨by rw [HR.out]; try rfl, bel_trans hb hb2⟩
      · obtain ⟨h5, h6⟩ := h4
        obtain rfl : n = n' := h5
        have hbm : bmB p xs ys = true := bmB_iff.2 ⟨h1, h2, by rw [hl.out, hl'.out], by rw [hl.out]; exact h6⟩
        have HX := Lib.hid (fun i (hi : i < n) => elsB_nth h1 (i := i) (by rw [hl.out]; exact hi))
        have HY := Lib.hid (fun i (hi : i < n) => elsB_nth h3 (i := i) (by rw [hl'.out]; exact hi))
        obtain ⟨hp1, hp2⟩ := hp1
        have HPW := Lib.hid (pow_bd6 p ⟨by omega, hp2⟩)
        have HSEM : Hid (batchMisses p xs ys = if p ^ (n + 1) ≤ 20000 then (missN p xs ys (p ^ (n + 1)).toNat, true) else (0, false)) := by
          show _ = _
          unfold batchMisses
          rw [hbm, hl.out]
          by_cases q : p ^ (n + 1) ≤ 20000 <;> simp [q]
        clear hbm
        go_enter Try.func35, Try.ntmps35
        go_wp2_with fail
        refine (i_areElements _ _ _ _ xs _ h).mono ?_; rintro e w1 ⟨rfl, hb⟩
        go_wp2_with fail
        refine (i_areElements _ _ _ _ ys _ (h'.below hb)).mono ?_; rintro e w2 ⟨rfl, hb2⟩
        have HB := Lib.hid (bel_trans hb hb2); clear hb hb2
        go_wp2
        go_loop [8, 41] (fun s i => ∃ k : Nat, k ≤ n ∧ i = .int .i64 k ∧ s = .int .i64 (pq p (k + 1))) (fun _ i => n - (intOf i).toNat)
        case atStart => exact ⟨0, by omega, rfl, by rw [pq_one]⟩
        case round =>
          obtain ⟨k, hk, rfl, rfl⟩ := hrel
          have b1 : 1 ≤ pq p (k + 1) ∧ pq p (k + 1) ≤ 1000000000000000 := HPW.out (k + 1) (by omega)
          obtain ⟨b1, b2⟩ := b1
          by_cases hlt : k < n
          · have HS : Hid (pq p (k + 1) * p = pq p (k + 1 + 1)) := (Int.pow_succ p (k + 1)).symm
            obtain ⟨c1, c2⟩ : 0 ≤ pq p (k + 1) * p ∧ pq p (k + 1) * p ≤ 1000000000000000 := by
              have : 1 ≤ pq p (k + 1 + 1) ∧ pq p (k + 1 + 1) ≤ 1000000000000000 := HPW.out (k + 1 + 1) (by omega)
              rw [HS.out]; omega
            go_wp2
            go_round
            case rel => exact ⟨k + 1, by omega, by go_num, by rw [HS.out]⟩
            case measure => simp [intOf]; omega
          · obtain rfl : k = n := by omega
            by_cases hq : pq p (k + 1) ≤ 20000
            rotate_left
            · have HR : Hid (batchMisses p xs ys = (0, false)) := by show _ = _; rw [HSEM.out]; exact if_neg hq
              go_wp2
              go_ret2
              exact ⟨by rw [HR.out]; try rfl, HB.out⟩
            · have HR : Hid (batchMisses p xs ys = (missN p xs ys (pq p (k + 1)).toNat, true)) := by show _ = _; rw [HSEM.out]; exact if_pos hq
              clear HSEM HPW
              go_wp2
              go_loopw [9, 50] (fun c i wr => ∃ m : Nat, (m : Int) ≤ pq p (k + 1) ∧ i = .int .i64 m ∧ c = .int .i64 (missN p xs ys m) ∧ Hid (Below w.heap.size w wr)) (fun _ i _ => (pq p (k + 1)).toNat - (intOf i).toNat)
              case atStart => exact ⟨0, by omega, rfl, rfl, HB.out⟩
              case round =>
                obtain ⟨m, hm, rfl, rfl, BW⟩ := hrel
                obtain ⟨wo, rfl⟩ : ∃ wo : World, wo = wr := ⟨_, rfl⟩
                obtain ⟨mb1, mb2⟩ := missN_bd p xs ys m
                have hp0 : ¬ p = 0 := by omega
                by_cases hlm : (m : Int) < pq p (k + 1)
                · have e1 : (m : Int).tmod p = (m : Int) % p := IntWalk.rem_in _ _ (by omega)
                  have e2 : IntKind.i64.wrap ((m : Int).tdiv p) = (m : Int) / p := IntWalk.i64_quo _ _ (by omega)
                  obtain ⟨d1, d2⟩ := emod_bd (n := (m : Int)) (p := p) (by omega)
                  have r12 := IntWalk.tdiv_le (m : Int) p (by omega) (by omega)
                  obtain ⟨r1, r2⟩ := r12
                  go_wp2
                  go_quiet (fail)
                  clear e1 e2
                  go_wp2
                  have HBq := Lib.hid (bel_trans BW.out (bel_drewN wo (by assumption)))
                  have HD : Hid (missAt p xs ys m = decide ((dsum p ((m : Int) / p) xs k * ((m : Int) % p) - dsum p ((m : Int) / p) ys k) % p = 0)) := by show _ = _; unfold missAt; rw [hl.out]
                  have HDX := Lib.hid (dsum_bd p ((m : Int) / p) xs ⟨by omega, hp2⟩ (fun i hi => HX.out i (by rw [← hl.out]; exact hi)))
                  have HDY := Lib.hid (dsum_bd p ((m : Int) / p) ys ⟨by omega, hp2⟩ (fun i hi => HY.out i (by rw [← hl'.out]; exact hi)))
                  generalize hR : (m : Int) / p = R at *
                  clear hR
                  generalize hDl : (m : Int) % p = D at *
                  clear hDl
                  go_loopw [12, 13, 14, 61] (fun r v t i W => ∃ j : Nat, j ≤ k ∧ i = .int .i64 j ∧ r = .int .i64 (dq p R j) ∧ v = .int .i64 (dsum p R xs j) ∧ t = .int .i64 (dsum p R ys j) ∧ Hid (Below w.heap.size w W)) (fun _ _ _ i _ => k - (intOf i).toNat)
                  case atStart => exact ⟨0, by omega, rfl, by rw [dq_zero], rfl, rfl, HBq.out⟩
                  case round =>
                    obtain ⟨j, hj, rfl, rfl, rfl, rfl, BV⟩ := hrel
                    obtain ⟨wi, rfl⟩ : ∃ wi : World, wi = wr := ⟨_, rfl⟩
                    obtain ⟨vb1, vb2⟩ := HDX.out j (by rw [hl.out]; exact hj)
                    obtain ⟨tb1, tb2⟩ := HDY.out j (by rw [hl'.out]; exact hj)
                    obtain ⟨qb1, qb2⟩ := dq_bd p R j (by omega) r1
                    by_cases hlj : j < k
                    · obtain ⟨b, off, rfl, hbl, hc⟩ := (h.below BV.out).at hlj
                      obtain ⟨b', off', rfl, hbl', hc'⟩ := (h'.below BV.out).at hlj
                      obtain ⟨x1, x2⟩ := HX.out j hlj
                      obtain ⟨y1, y2⟩ := HY.out j hlj
                      obtain ⟨g1, g2⟩ := dg_bd p R j (by omega)
                      obtain ⟨u1, u2⟩ := mul_bd (a := dg p R j) (b := nth xs j) 251 251 g1 (by omega) x1 (by omega)
                      obtain ⟨u3, u4⟩ := mul_bd (a := dg p R j) (b := nth ys j) 251 251 g1 (by omega) y1 (by omega)
                      have hlji : (j : Int) < (k : Int) := by omega
                      have HQ := Lib.hid (dq_step p R j (by omega))
                      have e1 : (dq p R j).tmod p = dg p R j := IntWalk.rem_in _ _ qb1
                      have e2 : IntKind.i64.wrap (dg p R j * nth xs j) = dg p R j * nth xs j := IntWalk.i64_in _ (by omega)
                      have e3 : IntKind.i64.wrap (dg p R j * nth ys j) = dg p R j * nth ys j := IntWalk.i64_in _ (by omega)
                      have e4 : IntKind.i64.wrap (dsum p R xs j + dg p R j * nth xs j) = dsum p R xs (j + 1) := IntWalk.i64_in _ (by omega)
                      have e5 : IntKind.i64.wrap (dsum p R ys j + dg p R j * nth ys j) = dsum p R ys (j + 1) := IntWalk.i64_in _ (by omega)
                      go_wp2
                      go_quiet (fail)
                      clear e1 e2 e3 e4 e5
                      go_wp2
                      go_roundw
                      case rel => exact ⟨j + 1, by omega, by go_num, by rw [← HQ.out], rfl, rfl, (show Hid _ from below_drewN BV.out _)⟩
                      case measure => simp [intOf]; omega
                    · obtain rfl : j = k := by omega
                      obtain ⟨u1, u2⟩ := mul_bd (a := dsum p R xs j) (b := D) 252004 251 vb1 (by omega) d1 (by omega)
                      have HS : Hid (missN p xs ys (m + 1) = missN p xs ys m + bN (missAt p xs ys m)) := rfl
                      go_wp2_with (first | (go_at_call 60; refine (i_mod _ _ _ (by omega) (by omega) (by omega) (by omega)).mono ?_; rintro e w' ⟨rfl, rfl⟩) | (go_at_call 64; refine (i_bitf _ _).mono ?_; rintro e w' ⟨rfl, rfl⟩; obtain ⟨z1, z2⟩ := bN_bd ((dsum p R xs j * D - dsum p R ys j) % p == 0)))
                      go_roundw
                      case rel => exact ⟨m + 1, by omega, by go_num, by rw [HS.out, HD.out]; rfl, BV.out⟩
                      case measure => simp [intOf]; omega
                · obtain hme : (m : Int) = pq p (k + 1) := by omega
                  have HE : Hid (missN p xs ys m = missN p xs ys (pq p (k + 1)).toNat) := by show _ = _; rw [← hme]; rfl
                  clear hme
                  go_wp2
                  go_ret2
                  exact ⟨by rw [HR.out, ← HE.out]; try rfl, BW.out⟩
set_option maxHeartbeats 4000000 in
theorem s_BatchMisses (p : Int) (a : Option Addr) (n cap : Nat) (xs : List Int) (a' : Option Addr) (n' cap' : Nat) (ys : List Int) (w : World) (hp : Fits p) (h : Ints w a n cap xs) (h' : Ints w a' n' cap' ys) :
    Calls Try.prog 33 #[.int .i64 p, .slice a n cap, .slice a' n' cap'] w fun e w' => e = .returned (.tuple #[.int .i64 (batchMisses p xs ys).1, .bool (batchMisses p xs ys).2]) ∧ Below w.heap.size w w' := by
  have hl := h.len; have hl' := h'.len
  cases h1 : elsB p xs with
  | false =>
    have HR : Hid (batchMisses p xs ys = (0, false)) := by show _ = _; simp [batchMisses, bmB, h1]
    clear hl hl'
    go_enter Try.func33, Try.ntmps33
    go_wp2_with (go_at_call 52; refine (s_fpIn _ _ _ _ xs _ h).mono ?_; rintro e w1 ⟨rfl, rfl⟩)
    all_goals
      go_ret2
      exact ⟨by rw [HR.out]; try rfl, Below.refl _ _⟩
  | true =>
    obtain ⟨hp1, hp2⟩ := elsB_p h1
    cases h2 : allIn ys 0 (p - 1) with
    | false =>
      have HR : Hid (batchMisses p xs ys = (0, false)) := by show _ = _; simp [batchMisses, bmB, h2]
      go_enter Try.func33, Try.ntmps33
      go_wp2_with (first | (go_at_call 52; refine (s_fpIn _ _ _ _ xs _ h).mono ?_; rintro e w1 ⟨rfl, rfl⟩) | (go_at_call 63; refine (s_l1All _ _ _ ys _ _ _ h').mono ?_; rintro e w1 ⟨rfl, rfl⟩))
      all_goals
        go_ret2
        exact ⟨by rw [HR.out]; try rfl, Below.refl _ _⟩
    | true =>
      by_cases h4 : n = n' ∧ n ≤ 4
      rotate_left
      · have HR : Hid (batchMisses p xs ys = (0, false)) := by
          show _ = _
          have : bmB p xs ys = false := by
            cases hb : bmB p xs ys with
            | false => rfl
            | true => have := bmB_iff.1 hb; rw [hl.out, hl'.out] at this; exact absurd ⟨this.2.2.1, this.2.2.2⟩ h4
          simp [batchMisses, this]
        by_cases h5 : n = n'
        · obtain rfl : n = n' := h5
          have h6 : ¬ n ≤ 4 := fun q => h4 ⟨rfl, q⟩
          clear h4
          go_enter Try.func33, Try.ntmps33
          go_wp2_with (first | (go_at_call 52; refine (s_fpIn _ _ _ _ xs _ h).mono ?_; rintro e w1 ⟨rfl, rfl⟩) | (go_at_call 63; refine (s_l1All _ _ _ ys _ _ _ h').mono ?_; rintro e w1 ⟨rfl, rfl⟩))
          all_goals
            go_ret2
            exact ⟨by rw [HR.out]; try rfl, Below.refl _ _⟩
        · clear h4
          have h5' : ((n' : Int) == (n : Int)) = false := by simp; omega
          have h5'' : ((n' : Int) != (n : Int)) = true := by simp; omega
          go_enter Try.func33, Try.ntmps33
          go_wp2_with (first | (go_at_call 52; refine (s_fpIn _ _ _ _ xs _ h).mono ?_; rintro e w1 ⟨rfl, rfl⟩) | (go_at_call 63; refine (s_l1All _ _ _ ys _ _ _ h').mono ?_; rintro e w1 ⟨rfl, rfl⟩))
          all_goals
            go_ret2
            exact ⟨by rw [HR.out]; try rfl, Below.refl _ _⟩
      · obtain ⟨h5, h6⟩ := h4
        obtain rfl : n = n' := h5
        have hbm : bmB p xs ys = true := bmB_iff.2 ⟨h1, h2, by rw [hl.out, hl'.out], by rw [hl.out]; exact h6⟩
        have h3 : elsB p ys = true := by
          have := h1; unfold elsB at this ⊢; rw [Bool.and_eq_true] at this ⊢; exact ⟨this.1, h2⟩
        have HX := Lib.hid (fun i (hi : i < n) => elsB_nth h1 (i := i) (by rw [hl.out]; exact hi))
        have HY := Lib.hid (fun i (hi : i < n) => elsB_nth h3 (i := i) (by rw [hl'.out]; exact hi))
        have HPW := Lib.hid (pow_bd6 p ⟨by omega, hp2⟩)
        have HMO : Hid (∀ i, i ≤ n + 1 → pq p i ≤ pq p (n + 1)) := fun i hi => pow_mono p (by omega) i (n + 1) hi
        have HSEM : Hid (batchMisses p xs ys = if p ^ (n + 1) ≤ 20000 then (missN p xs ys (p ^ (n + 1)).toNat, true) else (0, false)) := by
          show _ = _
          unfold batchMisses
          rw [hbm, hl.out]
          by_cases q : p ^ (n + 1) ≤ 20000 <;> simp [q]
        clear hbm h3
        go_enter Try.func33, Try.ntmps33
        go_wp2_with (first | (go_at_call 52; refine (s_fpIn _ _ _ _ xs _ h).mono ?_; rintro e w1 ⟨rfl, rfl⟩) | (go_at_call 63; refine (s_l1All _ _ _ ys _ _ _ h').mono ?_; rintro e w1 ⟨rfl, rfl⟩))
        go_loop [9, 10] (fun s i => ∃ k : Nat, k ≤ n + 1 ∧ i = .int .i64 k ∧ s = .int .i64 (pq p k) ∧ pq p k ≤ 20000) (fun _ i => n + 1 - (intOf i).toNat)
        case atStart => exact ⟨0, by omega, rfl, by rw [pq_zero], by rw [pq_zero]; omega⟩
        case round =>
          obtain ⟨k, hk, rfl, rfl, hk2⟩ := hrel
          have b1 : 1 ≤ pq p k ∧ pq p k ≤ 1000000000000000 := HPW.out k (by omega)
          obtain ⟨b1, b2⟩ := b1
          by_cases hlt : k < n + 1
          · have HS : Hid (pq p k * p = pq p (k + 1)) := (Int.pow_succ p k).symm
            obtain ⟨c1, c2⟩ : 0 ≤ pq p k * p ∧ pq p k * p ≤ 1000000000000000 := by
              have : 1 ≤ pq p (k + 1) ∧ pq p (k + 1) ≤ 1000000000000000 := HPW.out (k + 1) (by omega)
              rw [HS.out]; omega
            by_cases hq : pq p k * p ≤ 20000
            · go_wp2
              go_round
              case rel => exact ⟨k + 1, by omega, by go_num, by rw [HS.out], by rw [← HS.out]; exact hq⟩
              case measure => simp [intOf]; omega
            · have HR : Hid (batchMisses p xs ys = (0, false)) := by
                show _ = _; rw [HSEM.out]; refine if_neg (fun q => hq ?_)
                rw [HS.out]
                exact Int.le_trans (HMO.out (k + 1) (by omega)) q
              go_wp2
              go_ret2
              exact ⟨by rw [HR.out]; try rfl, Below.refl _ _⟩
          · obtain rfl : k = n + 1 := by omega
            have HR : Hid (batchMisses p xs ys = (missN p xs ys (pq p (n + 1)).toNat, true)) := by show _ = _; rw [HSEM.out]; exact if_pos hk2
            clear HSEM HPW HMO
            go_wp2
            go_loopw [11, 12] (fun c i wr => ∃ m : Nat, (m : Int) ≤ pq p (n + 1) ∧ i = .int .i64 m ∧ c = .int .i64 (missN p xs ys m) ∧ Hid (Below w.heap.size w wr)) (fun _ i _ => (pq p (n + 1)).toNat - (intOf i).toNat)
            case atStart => exact ⟨0, by omega, rfl, rfl, Below.refl _ _⟩
            case round =>
              obtain ⟨m, hm, rfl, rfl, BW⟩ := hrel
              obtain ⟨wo, rfl⟩ : ∃ wo : World, wo = wr := ⟨_, rfl⟩
              obtain ⟨mb1, mb2⟩ := missN_bd p xs ys m
              have hp0 : ¬ p = 0 := by omega
              by_cases hlm : (m : Int) < pq p (n + 1)
              · have e1 : (m : Int).tmod p = (m : Int) % p := IntWalk.rem_in _ _ (by omega)
                have e2 : IntKind.i64.wrap ((m : Int).tdiv p) = (m : Int) / p := IntWalk.i64_quo _ _ (by omega)
                obtain ⟨d1, d2⟩ := emod_bd (n := (m : Int)) (p := p) (by omega)
                have r12 := IntWalk.tdiv_le (m : Int) p (by omega) (by omega)
                obtain ⟨r1, r2⟩ := r12
                go_wp2
                go_quiet (fail)
                clear e1 e2
                go_wp2
                have HBq := Lib.hid (bel_trans BW.out (bel_drewN wo (by assumption)))
                have HD : Hid (missAt p xs ys m = decide ((dsum p ((m : Int) / p) xs n * ((m : Int) % p) - dsum p ((m : Int) / p) ys n) % p = 0)) := by show _ = _; unfold missAt; rw [hl.out]
                have HDX := Lib.hid (ssum_bd p ((m : Int) / p) ((m : Int) % p) xs ys ⟨by omega, hp2⟩)
                rw [← ssum_dsum] at HD
                generalize hR : (m : Int) / p = R at *
                clear hR
                generalize hDl : (m : Int) % p = D at *
                clear hDl
                go_loopw [14, 15, 63] (fun r v i W => ∃ j : Nat, j ≤ n ∧ i = .int .i64 j ∧ r = .int .i64 (dq p R j) ∧ v = .int .i64 (ssum p R D xs ys j) ∧ Hid (Below w.heap.size w W)) (fun _ _ i _ => n - (intOf i).toNat)
                case atStart => exact ⟨0, by omega, rfl, by rw [dq_zero], rfl, HBq.out⟩
                case round =>
                  obtain ⟨j, hj, rfl, rfl, rfl, BV⟩ := hrel
                  obtain ⟨wi, rfl⟩ : ∃ wi : World, wi = wr := ⟨_, rfl⟩
                  obtain ⟨vb1, vb2⟩ := HDX.out j
                  obtain ⟨qb1, qb2⟩ := dq_bd p R j (by omega) r1
                  by_cases hlj : j < n
                  · obtain ⟨b, off, rfl, hbl, hc⟩ := (h.below BV.out).at hlj
                    obtain ⟨b', off', rfl, hbl', hc'⟩ := (h'.below BV.out).at hlj
                    obtain ⟨x1, x2⟩ := HX.out j hlj
                    obtain ⟨y1, y2⟩ := HY.out j hlj
                    obtain ⟨g1, g2⟩ := dg_bd p R j (by omega)
                    obtain ⟨u1, u2⟩ := mul_bd (a := nth xs j) (b := D) 251 251 x1 (by omega) d1 (by omega)
                    obtain ⟨t1, t2⟩ := emod_bd (n := nth xs j * D - nth ys j) (p := p) (by omega)
                    obtain ⟨u3, u4⟩ := mul_bd (a := dg p R j) (b := (nth xs j * D - nth ys j) % p) 251 251 g1 (by omega) t1 (by omega)
                    have hlji : (j : Int) < (n : Int) := by omega
                    have HQ := Lib.hid (dq_step p R j (by omega))
                    have e1 : (dq p R j).tmod p = dg p R j := IntWalk.rem_in _ _ qb1
                    have e2 : IntKind.i64.wrap (nth xs j * D) = nth xs j * D := IntWalk.i64_in _ (by omega)
                    have e3 : IntKind.i64.wrap (nth xs j * D - nth ys j) = nth xs j * D - nth ys j := IntWalk.i64_in _ (by omega)
                    have e4 : IntKind.i64.wrap (dg p R j * ((nth xs j * D - nth ys j) % p)) = dg p R j * ((nth xs j * D - nth ys j) % p) := IntWalk.i64_in _ (by omega)
                    have e5 : IntKind.i64.wrap (ssum p R D xs ys j + dg p R j * ((nth xs j * D - nth ys j) % p)) = ssum p R D xs ys (j + 1) := IntWalk.i64_in _ (by omega)
                    go_wp2
                    go_quiet ((go_at_call 58; exact Calls.quiet_of_same ((s_btMod _ _ _ (by omega) (by omega) (by omega) (by omega)).mono fun _ _ ⟨h, k⟩ => ⟨h, k.symm⟩)))
                    clear e1 e2 e3 e4 e5
                    go_wp2
                    go_roundw
                    case rel => exact ⟨j + 1, by omega, by go_num, by rw [← HQ.out], rfl, (show Hid _ from below_drewN BV.out _)⟩
                    case measure => simp [intOf]; omega
                  · obtain rfl : j = n := by omega
                    have HS : Hid (missN p xs ys (m + 1) = missN p xs ys m + bN (missAt p xs ys m)) := rfl
                    cases hmi : missAt p xs ys m with
                    | true =>
                      rw [hmi] at HD HS
                      have ht : ssum p R D xs ys j % p = 0 := of_decide_eq_true HD.out.symm
                      clear HD hmi
                      go_wp2
                      go_roundw
                      case rel => exact ⟨m + 1, by omega, by go_num, by rw [HS.out]; rfl, BV.out⟩
                      case measure => simp [intOf]; omega
                    | false =>
                      rw [hmi] at HD HS
                      have ht : ¬ ssum p R D xs ys j % p = 0 := of_decide_eq_false HD.out.symm
                      have ht2 : (ssum p R D xs ys j % p == 0) = false := by simp [ht]
                      clear HD hmi
                      go_wp2
                      go_roundw
                      case rel => exact ⟨m + 1, by omega, by go_num, by rw [HS.out]; simp [bN], BV.out⟩
                      case measure => simp [intOf]; omega
              · obtain hme : (m : Int) = pq p (n + 1) := by omega
                have HE : Hid (missN p xs ys m = missN p xs ys (pq p (n + 1)).toNat) := by show _ = _; rw [← hme]; rfl
                clear hme
                go_wp2
                go_ret2
                exact ⟨by rw [HR.out, ← HE.out]; try rfl, BW.out⟩
end Go.Proofs.Ytnamhfaacamihaa
