/-
  PowerShared, the program's and the reference's.
-/
import Derived.Test.YtfandnakenpfnaaD7
namespace Go.Proofs.Ytfandnakenpfnaa
open Go.RowKit
set_option linter.unusedVariables false
set_option linter.unusedSimpArgs false

def powL (p key : Int) (x : List Int) : Nat → List Int
  | 0 => x
  | k + 1 => mulP p key ((k : Int) + 2) (powL p key x k) x
theorem powL_open (p key : Int) (x : List Int) (k : Nat) (h : lnB p x 2 = true) : ∃ u0 u1, powL p key x k = [u0, u1] ∧ (0 ≤ u0 ∧ u0 ≤ p - 1) ∧ (0 ≤ u1 ∧ u1 ≤ p - 1) := by
  have hp := lnB_p h
  cases k with
  | zero => exact ln2 h
  | succ k =>
    refine ⟨_, _, rfl, ?_, ?_⟩
    · have := emod_bd (n := prodSh 0 (tripA p key ((k : Int) + 2)) (mulD p (powL p key x k) (tripA p key ((k : Int) + 2)) (tripB p key ((k : Int) + 2)) 0) (mulD p x (tripA p key ((k : Int) + 2)) (tripB p key ((k : Int) + 2)) 1)) (p := p) (by omega); omega
    · have := emod_bd (n := prodSh 1 (tripB p key ((k : Int) + 2)) (mulD p (powL p key x k) (tripA p key ((k : Int) + 2)) (tripB p key ((k : Int) + 2)) 0) (mulD p x (tripA p key ((k : Int) + 2)) (tripB p key ((k : Int) + 2)) 1)) (p := p) (by omega); omega
def powShared (p key : Int) (x : List Int) (q : Int) : List Int × Bool := if lnB p x 2 && (keyB key && inB q 1 8) then (powL p key x (q.toNat - 1), true) else ([], false)
theorem powShared_len (p key : Int) (x : List Int) (q : Int) : (powShared p key x q).1.length ≤ 2 := by
  unfold powShared
  split
  · rename_i h
    obtain ⟨u0, u1, hu, _⟩ := powL_open p key x (q.toNat - 1) (Bool.and_eq_true_iff.1 h).1
    rw [hu]; simp
  · simp
set_option maxHeartbeats 2000000 in
theorem i_PowerShared (p key : Int) (a : Option Addr) (n cap : Nat) (xs : List Int) (q : Int) (w : World) (hp : Fits p) (hk : Fits key) (h : Ints w a n cap xs) (hq : Fits q) :
    Calls Try.prog 34 #[.int .i64 p, .int .i64 key, .slice a n cap, .int .i64 q] w fun e w' => ∃ r c, e = .returned (.tuple #[.slice r (powShared p key xs q).1.length c, .bool (powShared p key xs q).2]) ∧ Mine w' w.heap.size r (powShared p key xs q).1.length c (powShared p key xs q).1 ∧ Below w.heap.size w w' := by
  unfold powShared
  cases h1 : lnB p xs 2 with
  | false =>
    go_enter Try.func34, Try.ntmps34
    go_wp2_with fail
    refine (i_isPair _ _ _ _ _ _ h).mono ?_; rintro e wb1 ⟨rfl, hb⟩; replace h := h.below hb; have B1 := hb; clear hb
    go_wp2
    go_ret2
    exact ⟨_, _, rfl, Mine.nil, by (repeat (first | exact Below.refl _ _ | assumption | refine bel_trans ?_ (bel_alloc _ _) | refine bel_set ?_ (by first | (dsimp only; omega) | (simp; omega) | simp) _ | refine bel_trans ?_ (bel_drewN _ _) | refine bel_trans ?_ (bel_drew _) | refine bel_trans ?_ (by assumption)))⟩
  | true =>
    cases h2 : keyB key with
    | false =>
      go_enter Try.func34, Try.ntmps34
      go_wp2_with fail
      refine (i_isPair _ _ _ _ _ _ h).mono ?_; rintro e wb1 ⟨rfl, hb⟩; replace h := h.below hb; have B1 := hb; clear hb
      go_wp2_with fail
      refine (i_isKey _ _).mono ?_; rintro e w1 ⟨rfl, rfl⟩
      go_wp2
      go_ret2
      exact ⟨_, _, rfl, Mine.nil, by (repeat (first | exact Below.refl _ _ | assumption | refine bel_trans ?_ (bel_alloc _ _) | refine bel_set ?_ (by first | (dsimp only; omega) | (simp; omega) | simp) _ | refine bel_trans ?_ (bel_drewN _ _) | refine bel_trans ?_ (bel_drew _) | refine bel_trans ?_ (by assumption)))⟩
    | true =>
      cases h3 : inB q 1 8 with
      | false =>
        go_enter Try.func34, Try.ntmps34
        go_wp2_with fail
        refine (i_isPair _ _ _ _ _ _ h).mono ?_; rintro e wb1 ⟨rfl, hb⟩; replace h := h.below hb; have B1 := hb; clear hb
        go_wp2_with fail
        refine (i_isKey _ _).mono ?_; rintro e w1 ⟨rfl, rfl⟩
        go_wp2_with fail
        refine (i_within _ _ _ _).mono ?_; rintro e w2 ⟨rfl, rfl⟩
        go_wp2
        go_ret2
        exact ⟨_, _, rfl, Mine.nil, by (repeat (first | exact Below.refl _ _ | assumption | refine bel_trans ?_ (bel_alloc _ _) | refine bel_set ?_ (by first | (dsimp only; omega) | (simp; omega) | simp) _ | refine bel_trans ?_ (bel_drewN _ _) | refine bel_trans ?_ (bel_drew _) | refine bel_trans ?_ (by assumption)))⟩
      | true =>
        go_enter Try.func34, Try.ntmps34
        go_wp2_with fail
        refine (i_isPair _ _ _ _ _ _ h).mono ?_; rintro e wb1 ⟨rfl, hb⟩; replace h := h.below hb; have B1 := hb; clear hb
        go_wp2_with fail
        refine (i_isKey _ _).mono ?_; rintro e w1 ⟨rfl, rfl⟩
        go_wp2_with fail
        refine (i_within _ _ _ _).mono ?_; rintro e w2 ⟨rfl, rfl⟩
        obtain ⟨q1, q2⟩ := inB_iff.1 h3
        obtain ⟨hp1, hp2⟩ := lnB_p h1
        obtain ⟨N, rfl⟩ : ∃ N : Nat, q = (N : Int) := ⟨q.toNat, by omega⟩
        have HOP := Lib.hid (fun k => powL_open p key xs k h1)
        obtain ⟨x0, x1, rfl, ⟨xa, xb⟩, ⟨xc, xd⟩⟩ := ln2 h1
        obtain rfl : n = 2 := h.two.1
        go_wp2_with fail
        refine (g_Clone _ _ _ _ _ h (by omega)).mono ?_; rintro e wc ⟨r, c, rfl, ho, hbc⟩
        replace h := h.below hbc
        have HB0 := Lib.hid (bel_trans B1 hbc)
        have hm := ho.mine.base B1.size
        clear ho hbc B1
        obtain ⟨hkk1, hkk2⟩ := keyB_iff.1 h2
        obtain ⟨wz, hwz⟩ : ∃ wz, wz = wc := ⟨_, rfl⟩
        rw [show wc = wz from hwz.symm] at h
        have HH := Lib.hid h; clear h
        go_wp2
        go_loopw [10, 11] (fun v i W => ∃ k : Nat, ∃ r c, k + 1 ≤ N ∧ i = .int .i64 ((k : Int) + 2) ∧ v = .slice r 2 c ∧ Hid (Mine W w.heap.size r 2 c (powL p key [x0, x1] k)) ∧ Hid (Below w.heap.size w W) ∧ Hid (Below wz.heap.size wz W)) (fun _ i _ => 12 - (intOf i).toNat)
        case atStart => exact ⟨0, r, c, by omega, rfl, rfl, hm, HB0.out, by rw [hwz]; exact Below.refl _ _⟩
        case round =>
          obtain ⟨k, r, c, hk, rfl, rfl, HM, HB, HZ⟩ := hrel
          by_cases hlt : k + 2 ≤ N
          · obtain ⟨u0, u1, hu, ⟨ua, ub⟩, ⟨uc, ud⟩⟩ := HOP.out k
            have HS : Hid (powL p key [x0, x1] (k + 1) = mulP p key ((k : Int) + 2) [u0, u1] [x0, x1]) := by
              show _ = _
              rw [← hu]; rfl
            rw [hu] at HM
            clear hu
            go_wp2_with fail
            refine (i_multiplyPairs _ _ _ _ _ _ _ _ _ u0 u1 x0 x1 _ ⟨hp1, hp2⟩ ⟨by omega, by omega⟩ ⟨by omega, by omega⟩ HM.out.ints (HH.out.below HZ.out) ⟨⟨by omega, by omega⟩, ⟨by omega, by omega⟩⟩ ⟨⟨by omega, by omega⟩, ⟨by omega, by omega⟩⟩).mono ?_; rintro e wk ⟨r', rfl, hm', hbk⟩
            have hz := HB.out.size
            go_wp2
            go_roundw
            case rel => exact ⟨k + 1, _, _, by omega, by go_num, rfl, by rw [HS.out]; exact hm'.base hz, bel_trans HB.out hbk, bel_trans HZ.out hbk⟩
            case measure => simp [intOf]; omega
          · obtain ⟨u0, u1, hu, ⟨ua, ub⟩, ⟨uc, ud⟩⟩ := HOP.out k
            have HQ : Hid (powL p key [x0, x1] (N - 1) = [u0, u1]) := by
              show _ = _
              rw [← hu]; congr 1; omega
            rw [hu] at HM
            clear hu
            go_wp2
            go_ret2
            rw [HQ.out]
            exact ⟨_, _, rfl, HM.out, HB.out⟩
set_option maxHeartbeats 2000000 in
theorem s_PowerShared (p key : Int) (a : Option Addr) (n cap : Nat) (xs : List Int) (q : Int) (w : World) (hp : Fits p) (hk : Fits key) (h : Ints w a n cap xs) (hq : Fits q) :
    Calls Try.prog 35 #[.int .i64 p, .int .i64 key, .slice a n cap, .int .i64 q] w fun e w' => ∃ r c, e = .returned (.tuple #[.slice r (powShared p key xs q).1.length c, .bool (powShared p key xs q).2]) ∧ Mine w' w.heap.size r (powShared p key xs q).1.length c (powShared p key xs q).1 ∧ Below w.heap.size w w' := by
  unfold powShared
  cases h1 : lnB p xs 2 with
  | false =>
    go_enter Try.func35, Try.ntmps35
    go_wp2_with fail
    refine (s_trPair _ _ _ _ _ _ h).mono ?_; rintro e wb1 ⟨rfl, rfl⟩; have B1 := Below.refl w.heap.size w
    go_wp2
    go_ret2
    exact ⟨_, _, rfl, Mine.nil, by (repeat (first | exact Below.refl _ _ | assumption | refine bel_trans ?_ (bel_alloc _ _) | refine bel_set ?_ (by first | (dsimp only; omega) | (simp; omega) | simp) _ | refine bel_trans ?_ (bel_drewN _ _) | refine bel_trans ?_ (bel_drew _) | refine bel_trans ?_ (by assumption)))⟩
  | true =>
    cases h2 : keyB key with
    | false =>
      go_enter Try.func35, Try.ntmps35
      go_wp2_with fail
      refine (s_trPair _ _ _ _ _ _ h).mono ?_; rintro e wb1 ⟨rfl, rfl⟩; have B1 := Below.refl w.heap.size w
      go_wp2_with fail
      refine (s_otKey _ _).mono ?_; rintro e w1 ⟨rfl, rfl⟩
      go_wp2
      go_ret2
      exact ⟨_, _, rfl, Mine.nil, by (repeat (first | exact Below.refl _ _ | assumption | refine bel_trans ?_ (bel_alloc _ _) | refine bel_set ?_ (by first | (dsimp only; omega) | (simp; omega) | simp) _ | refine bel_trans ?_ (bel_drewN _ _) | refine bel_trans ?_ (bel_drew _) | refine bel_trans ?_ (by assumption)))⟩
    | true =>
      cases h3 : inB q 1 8 with
      | false =>
        go_enter Try.func35, Try.ntmps35
        go_wp2_with fail
        refine (s_trPair _ _ _ _ _ _ h).mono ?_; rintro e wb1 ⟨rfl, rfl⟩; have B1 := Below.refl w.heap.size w
        go_wp2_with fail
        refine (s_otKey _ _).mono ?_; rintro e w1 ⟨rfl, rfl⟩
        go_wp2_with fail
        refine (s_l1In _ _ _ _).mono ?_; rintro e w2 ⟨rfl, rfl⟩
        go_wp2
        go_ret2
        exact ⟨_, _, rfl, Mine.nil, by (repeat (first | exact Below.refl _ _ | assumption | refine bel_trans ?_ (bel_alloc _ _) | refine bel_set ?_ (by first | (dsimp only; omega) | (simp; omega) | simp) _ | refine bel_trans ?_ (bel_drewN _ _) | refine bel_trans ?_ (bel_drew _) | refine bel_trans ?_ (by assumption)))⟩
      | true =>
        go_enter Try.func35, Try.ntmps35
        go_wp2_with fail
        refine (s_trPair _ _ _ _ _ _ h).mono ?_; rintro e wb1 ⟨rfl, rfl⟩; have B1 := Below.refl w.heap.size w
        go_wp2_with fail
        refine (s_otKey _ _).mono ?_; rintro e w1 ⟨rfl, rfl⟩
        go_wp2_with fail
        refine (s_l1In _ _ _ _).mono ?_; rintro e w2 ⟨rfl, rfl⟩
        obtain ⟨q1, q2⟩ := inB_iff.1 h3
        obtain ⟨hp1, hp2⟩ := lnB_p h1
        obtain ⟨N, rfl⟩ : ∃ N : Nat, q = (N : Int) := ⟨q.toNat, by omega⟩
        have HOP := Lib.hid (fun k => powL_open p key xs k h1)
        obtain ⟨x0, x1, rfl, ⟨xa, xb⟩, ⟨xc, xd⟩⟩ := ln2 h1
        obtain rfl : n = 2 := h.two.1
        go_wp2_with fail
        refine (s_l1Own _ _ _ _ _ h (by omega)).mono ?_; rintro e wc ⟨r, c, rfl, ho, hbc⟩
        replace h := h.below hbc
        have HB0 := Lib.hid (bel_trans B1 hbc)
        have hm := ho.mine.base B1.size
        clear ho hbc B1
        obtain ⟨hkk1, hkk2⟩ := keyB_iff.1 h2
        obtain ⟨wz, hwz⟩ : ∃ wz, wz = wc := ⟨_, rfl⟩
        rw [show wc = wz from hwz.symm] at h
        have HH := Lib.hid h; clear h
        go_wp2
        go_loopw [10, 11] (fun v i W => ∃ k : Nat, ∃ r c, k + 1 ≤ N ∧ i = .int .i64 ((k : Int) + 2) ∧ v = .slice r 2 c ∧ Hid (Mine W w.heap.size r 2 c (powL p key [x0, x1] k)) ∧ Hid (Below w.heap.size w W) ∧ Hid (Below wz.heap.size wz W)) (fun _ i _ => 12 - (intOf i).toNat)
        case atStart => exact ⟨0, r, c, by omega, rfl, rfl, hm, HB0.out, by rw [hwz]; exact Below.refl _ _⟩
        case round =>
          obtain ⟨k, r, c, hk, rfl, rfl, HM, HB, HZ⟩ := hrel
          by_cases hlt : k + 2 ≤ N
          · obtain ⟨u0, u1, hu, ⟨ua, ub⟩, ⟨uc, ud⟩⟩ := HOP.out k
            have HS : Hid (powL p key [x0, x1] (k + 1) = mulP p key ((k : Int) + 2) [u0, u1] [x0, x1]) := by
              show _ = _
              rw [← hu]; rfl
            rw [hu] at HM
            clear hu
            go_wp2_with fail
            refine (s_trTimes _ _ _ _ _ _ _ _ _ u0 u1 x0 x1 _ ⟨hp1, hp2⟩ ⟨by omega, by omega⟩ ⟨by omega, by omega⟩ HM.out.ints (HH.out.below HZ.out) ⟨⟨by omega, by omega⟩, ⟨by omega, by omega⟩⟩ ⟨⟨by omega, by omega⟩, ⟨by omega, by omega⟩⟩).mono ?_; rintro e wk ⟨r', rfl, hm', hbk⟩
            have hz := HB.out.size
            go_wp2
            go_roundw
            case rel => exact ⟨k + 1, _, _, by omega, by go_num, rfl, by rw [HS.out]; exact hm'.base hz, bel_trans HB.out hbk, bel_trans HZ.out hbk⟩
            case measure => simp [intOf]; omega
          · obtain ⟨u0, u1, hu, ⟨ua, ub⟩, ⟨uc, ud⟩⟩ := HOP.out k
            have HQ : Hid (powL p key [x0, x1] (N - 1) = [u0, u1]) := by
              show _ = _
              rw [← hu]; congr 1; omega
            rw [hu] at HM
            clear hu
            go_wp2
            go_ret2
            rw [HQ.out]
            exact ⟨_, _, rfl, HM.out, HB.out⟩
end Go.Proofs.Ytfandnakenpfnaa
