/-
  Contracts: DotShared, the program's and the reference's.
-/
import Derived.Test.YtfandnakenpfnaaD13
namespace Go.Proofs.Ytfandnakenpfnaa
open Go.RowKit
set_option linter.unusedVariables false
set_option linter.unusedSimpArgs false

set_option maxHeartbeats 4000000 in
theorem i_DotShared (p key : Int) (a : Option Addr) (n cap : Nat) (xs : List (List Int)) (a' : Option Addr) (n' cap' : Nat) (ys : List (List Int)) (w : World) (hp : Fits p) (hk : Fits key) (h : Rws w a n cap xs) (h' : Rws w a' n' cap' ys) :
    Calls Try.prog 31 #[.int .i64 p, .int .i64 key, .slice a n cap, .slice a' n' cap'] w fun e w' => DotRet p key xs ys w e w' := by
  have hl := h.len; have hl' := h'.len
  cases h1 : prB p with
  | false =>
    have HR : Hid (¬ dotB p key xs ys = true) := fun q => by have := dotB_iff.1 q; rw [h1] at this; simp at this
    go_enter Try.func31, Try.ntmps31
    go_wp2_with fail
    refine (i_IsPrime _ _).mono ?_; rintro e w1 ⟨rfl, rfl⟩
    go_wp2
    all_goals
      go_ret2
      exact DotRet.no HR.out (Below.refl _ _)
  | true =>
    cases h2 : keyB key with
    | false =>
      have HR : Hid (¬ dotB p key xs ys = true) := fun q => by have := dotB_iff.1 q; rw [h2] at this; simp at this
      go_enter Try.func31, Try.ntmps31
      go_wp2_with fail
      refine (i_IsPrime _ _).mono ?_; rintro e w1 ⟨rfl, rfl⟩
      go_wp2_with fail
      refine (i_isKey _ _).mono ?_; rintro e w1 ⟨rfl, rfl⟩
      go_wp2
      all_goals
        go_ret2
        exact DotRet.no HR.out (Below.refl _ _)
    | true =>
      cases h3 : prsB p xs with
      | false =>
        have HR : Hid (¬ dotB p key xs ys = true) := fun q => by have := dotB_iff.1 q; rw [h3] at this; simp at this
        go_enter Try.func31, Try.ntmps31
        go_wp2_with fail
        refine (i_IsPrime _ _).mono ?_; rintro e w1 ⟨rfl, rfl⟩
        go_wp2_with fail
        refine (i_isKey _ _).mono ?_; rintro e w1 ⟨rfl, rfl⟩
        go_wp2_with fail
        refine (i_arePairs _ _ _ _ xs _ h).mono ?_; rintro e w1 ⟨rfl, hb1⟩
        go_wp2
        all_goals
          go_ret2
          exact DotRet.no HR.out (hb1)
      | true =>
        cases h4 : prsB p ys with
        | false =>
          have HR : Hid (¬ dotB p key xs ys = true) := fun q => by have := dotB_iff.1 q; rw [h4] at this; simp at this
          go_enter Try.func31, Try.ntmps31
          go_wp2_with fail
          refine (i_IsPrime _ _).mono ?_; rintro e w1 ⟨rfl, rfl⟩
          go_wp2_with fail
          refine (i_isKey _ _).mono ?_; rintro e w1 ⟨rfl, rfl⟩
          go_wp2_with fail
          refine (i_arePairs _ _ _ _ xs _ h).mono ?_; rintro e w1 ⟨rfl, hb1⟩
          go_wp2_with fail
          refine (i_arePairs _ _ _ _ ys _ (h'.below hb1)).mono ?_; rintro e w2 ⟨rfl, hb2⟩
          go_wp2
          all_goals
            go_ret2
            exact DotRet.no HR.out (bel_trans hb1 hb2)
        | true =>
          by_cases h5 : n = n'
          rotate_left
          · have h5' : ((n : Int) == (n' : Int)) = false := by simp; omega
            have h5'' : ((n : Int) != (n' : Int)) = true := by simp; omega
            have HR : Hid (¬ dotB p key xs ys = true) := fun q => by have := dotB_iff.1 q; rw [hl.out, hl'.out] at this; omega
            go_enter Try.func31, Try.ntmps31
            go_wp2_with fail
            refine (i_IsPrime _ _).mono ?_; rintro e w1 ⟨rfl, rfl⟩
            go_wp2_with fail
            refine (i_isKey _ _).mono ?_; rintro e w1 ⟨rfl, rfl⟩
            go_wp2_with fail
            refine (i_arePairs _ _ _ _ xs _ h).mono ?_; rintro e w1 ⟨rfl, hb1⟩
            go_wp2_with fail
            refine (i_arePairs _ _ _ _ ys _ (h'.below hb1)).mono ?_; rintro e w2 ⟨rfl, hb2⟩
            go_wp2
            all_goals
              go_ret2
              exact DotRet.no HR.out (bel_trans hb1 hb2)
          obtain rfl : n = n' := h5
          by_cases h6 : n ≤ 20
          rotate_left
          · skip
            have HR : Hid (¬ dotB p key xs ys = true) := fun q => by have := dotB_iff.1 q; rw [hl.out] at this; omega
            go_enter Try.func31, Try.ntmps31
            go_wp2_with fail
            refine (i_IsPrime _ _).mono ?_; rintro e w1 ⟨rfl, rfl⟩
            go_wp2_with fail
            refine (i_isKey _ _).mono ?_; rintro e w1 ⟨rfl, rfl⟩
            go_wp2_with fail
            refine (i_arePairs _ _ _ _ xs _ h).mono ?_; rintro e w1 ⟨rfl, hb1⟩
            go_wp2_with fail
            refine (i_arePairs _ _ _ _ ys _ (h'.below hb1)).mono ?_; rintro e w2 ⟨rfl, hb2⟩
            go_wp2
            all_goals
              go_ret2
              exact DotRet.no HR.out (bel_trans hb1 hb2)
          obtain ⟨hp1, hp2⟩ := prB_lo h1
          obtain ⟨hk1, hk2⟩ := keyB_iff.1 h2
          have HD : Hid (dotB p key xs ys = true) := dotB_iff.2 ⟨h1, h2, h3, h4, by rw [hl.out, hl'.out], by rw [hl.out]; exact h6⟩
          have HX : Hid (∀ i, i < n → lnB p (rowN xs i) 2 = true) := fun i hi => allR_iff.1 h3 i (by rw [hl.out]; exact hi)
          have HY : Hid (∀ i, i < n → lnB p (rowN ys i) 2 = true) := fun i hi => allR_iff.1 h4 i (by rw [hl'.out]; exact hi)
          go_enter Try.func31, Try.ntmps31
          go_wp2_with fail
          refine (i_IsPrime _ _).mono ?_; rintro e w1 ⟨rfl, rfl⟩
          go_wp2_with fail
          refine (i_isKey _ _).mono ?_; rintro e w1 ⟨rfl, rfl⟩
          go_wp2_with fail
          refine (i_arePairs _ _ _ _ xs _ h).mono ?_; rintro e w1 ⟨rfl, hb1⟩
          go_wp2_with fail
          refine (i_arePairs _ _ _ _ ys _ (h'.below hb1)).mono ?_; rintro e w2 ⟨rfl, hb2⟩
          have HB0 : Hid (Below w.heap.size w (w2.alloc (.cells #[.int .i64 0, .int .i64 0] 3))) := bel_trans (bel_trans hb1 hb2) (bel_alloc _ _)
          have HM0 := Lib.hid (lit2_mine (w := w2) (x := 0) (y := 0) 3 (by unfold Fits; omega) (by unfold Fits; omega))
          have hz0 : w.heap.size ≤ w2.heap.size := (bel_trans hb1 hb2).size
          clear hb1 hb2
          go_wp2
          go_loopw [10, 48] (fun v i wr => ∃ (k : Nat) (r : Option Addr), k ≤ n ∧ i = .int .i64 k ∧ v = .slice r 2 2 ∧ Hid (Mine wr w.heap.size r 2 2 (dotN p key xs ys k)) ∧ Hid (Below w.heap.size w wr)) (fun _ i _ => n - (intOf i).toNat)
          case atStart => exact ⟨0, _, by omega, rfl, rfl, HM0.out.base hz0, HB0.out⟩
          case round =>
            obtain ⟨k, r, hk, rfl, rfl, HM, HB⟩ := hrel
            obtain ⟨wo, rfl⟩ : ∃ wo : World, wo = wr := ⟨_, rfl⟩
            clear HM0 HB0
            by_cases hlt : k < n
            · obtain ⟨b, off, r1, m1, c1, rfl, hbl, hc, hr1⟩ := (h.below HB.out).at hlt
              obtain ⟨b', off', r2, m2, c2, rfl, hbl', hc', hr2⟩ := (h'.below HB.out).at hlt
              have hlti : (k : Int) < (n : Int) := by omega
              obtain ⟨x0, x1, ex, bx0, bx1⟩ := ln2 (HX.out k hlt)
              obtain ⟨y0, y1, ey, by0, by1⟩ := ln2 (HY.out k hlt)
              rw [ex] at hr1; rw [ey] at hr2
              have HS : Hid (dotN p key xs ys (k + 1) = addP p (dotN p key xs ys k) (mulP p key k [x0, x1] [y0, y1])) := by show _ = _; rw [dotN, ex, ey]
              obtain ⟨u0, u1, eu, bu0, bu1⟩ := dotN_open p key xs ys k hp1
              obtain ⟨v0, v1, ev, bv0, bv1⟩ := mulP_open p key k [x0, x1] [y0, y1] hp1
              rw [eu, ev] at HS; rw [eu] at HM
              have R1 := Lib.hid hr1; have R2 := Lib.hid hr2; clear hr1 hr2 ex ey
              have EV := Lib.hid ev; clear ev eu
              go_wp2_with fail
              go_region_held3 (fun W => W.cell? ⟨b, off + k, none⟩ = some (.slice r1 m1 c1) ∧ W.cell? ⟨b', off' + k, none⟩ = some (.slice r2 m2 c2)) (exact ⟨cell_on hc (by (repeat (first | exact Below.refl _ _ | assumption | refine bel_trans ?_ (bel_alloc _ _) | refine bel_set ?_ (by first | (dsimp only; omega) | (simp; omega) | simp) _ | refine bel_trans ?_ (bel_drewN _ _) | refine bel_trans ?_ (bel_drew _) | refine bel_trans ?_ (by assumption)))), cell_on hc' (by (repeat (first | exact Below.refl _ _ | assumption | refine bel_trans ?_ (bel_alloc _ _) | refine bel_set ?_ (by first | (dsimp only; omega) | (simp; omega) | simp) _ | refine bel_trans ?_ (bel_drewN _ _) | refine bel_trans ?_ (bel_drew _) | refine bel_trans ?_ (by assumption))))⟩) (first | (go_at_call 69; refine (i_multiplyPairs _ _ _ _ _ _ _ _ _ x0 x1 y0 y1 _ ⟨hp1, hp2⟩ ⟨hk1, hk2⟩ (by omega) (R1.out.below (by (repeat (first | exact Below.refl _ _ | assumption | refine bel_trans ?_ (bel_alloc _ _) | refine bel_set ?_ (by first | (dsimp only; omega) | (simp; omega) | simp) _ | refine bel_trans ?_ (bel_drewN _ _) | refine bel_trans ?_ (bel_drew _) | refine bel_trans ?_ (by assumption))))) (R2.out.below (by (repeat (first | exact Below.refl _ _ | assumption | refine bel_trans ?_ (bel_alloc _ _) | refine bel_set ?_ (by first | (dsimp only; omega) | (simp; omega) | simp) _ | refine bel_trans ?_ (bel_drewN _ _) | refine bel_trans ?_ (bel_drew _) | refine bel_trans ?_ (by assumption))))) ⟨⟨by omega, by omega⟩, ⟨by omega, by omega⟩⟩ ⟨⟨by omega, by omega⟩, ⟨by omega, by omega⟩⟩).mono ?_; rintro e wx ⟨q, rfl, hq, hb⟩))
              rw [EV.out] at hq
              have HBX : Hid (Below wo.heap.size wo wx) := (show Below wo.heap.size wo wx by (repeat (first | exact Below.refl _ _ | assumption | refine bel_trans ?_ (bel_alloc _ _) | refine bel_set ?_ (by first | (dsimp only; omega) | (simp; omega) | simp) _ | refine bel_trans ?_ (bel_drewN _ _) | refine bel_trans ?_ (bel_drew _) | refine bel_trans ?_ (by assumption))))
              clear hb hc hc'
              obtain ⟨_, bq, oq, eq, q0, q1⟩ := hq.ints.two
              subst eq
              obtain ⟨_, br, or', er, r0, r1'⟩ := (HM.out.below HBX.out).ints.two
              subst er
              have HQ := Lib.hid hq; clear hq
              have e1 : IntKind.i64.wrap (u0 + v0) = u0 + v0 := IntWalk.i64_in _ (by omega)
              have e2 : IntKind.i64.wrap (u1 + v1) = u1 + v1 := IntWalk.i64_in _ (by omega)
              obtain ⟨z1, z2⟩ := emod_bd (n := u0 + v0) (p := p) (by omega)
              obtain ⟨z3, z4⟩ := emod_bd (n := u1 + v1) (p := p) (by omega)
              go_wp2_with fail
              go_region_held3 (fun W => W.cell? ⟨br, or', none⟩ = some (.int .i64 u0) ∧ W.cell? ⟨br, or' + 1, none⟩ = some (.int .i64 u1) ∧ W.cell? ⟨bq, oq, none⟩ = some (.int .i64 v0) ∧ W.cell? ⟨bq, oq + 1, none⟩ = some (.int .i64 v1)) (exact ⟨cell_on r0 (by (repeat (first | exact Below.refl _ _ | assumption | refine bel_trans ?_ (bel_alloc _ _) | refine bel_set ?_ (by first | (dsimp only; omega) | (simp; omega) | simp) _ | refine bel_trans ?_ (bel_drewN _ _) | refine bel_trans ?_ (bel_drew _) | refine bel_trans ?_ (by assumption)))), cell_on r1' (by (repeat (first | exact Below.refl _ _ | assumption | refine bel_trans ?_ (bel_alloc _ _) | refine bel_set ?_ (by first | (dsimp only; omega) | (simp; omega) | simp) _ | refine bel_trans ?_ (bel_drewN _ _) | refine bel_trans ?_ (bel_drew _) | refine bel_trans ?_ (by assumption)))), cell_on q0 (by (repeat (first | exact Below.refl _ _ | assumption | refine bel_trans ?_ (bel_alloc _ _) | refine bel_set ?_ (by first | (dsimp only; omega) | (simp; omega) | simp) _ | refine bel_trans ?_ (bel_drewN _ _) | refine bel_trans ?_ (bel_drew _) | refine bel_trans ?_ (by assumption)))), cell_on q1 (by (repeat (first | exact Below.refl _ _ | assumption | refine bel_trans ?_ (bel_alloc _ _) | refine bel_set ?_ (by first | (dsimp only; omega) | (simp; omega) | simp) _ | refine bel_trans ?_ (bel_drewN _ _) | refine bel_trans ?_ (bel_drew _) | refine bel_trans ?_ (by assumption))))⟩) (first | (go_at_call 54; refine (i_mod _ _ _ (by omega) (by omega) (by omega) (by omega)).mono ?_; rintro e w' ⟨rfl, rfl⟩))
              have HL := Lib.hid (lit2_mine (w := wx) (x := (u0 + v0) % p) (y := (u1 + v1) % p) 3 (by unfold Fits; omega) (by unfold Fits; omega))
              have hzx : w.heap.size ≤ wx.heap.size := Nat.le_trans HB.out.size HBX.out.size
              clear e1 e2
              all_goals
                go_wp2
                go_roundw
                case rel => exact ⟨k + 1, _, by omega, by go_num, rfl, (by rw [HS.out]; first | exact HL.out.base hzx | exact (HL.out.below (bel_drew _)).base hzx), (show Hid _ from bel_trans (bel_trans HB.out HBX.out) (by (repeat (first | exact Below.refl _ _ | assumption | refine bel_trans ?_ (bel_alloc _ _) | refine bel_set ?_ (by first | (dsimp only; omega) | (simp; omega) | simp) _ | refine bel_trans ?_ (bel_drewN _ _) | refine bel_trans ?_ (bel_drew _) | refine bel_trans ?_ (by assumption)))))⟩
                case measure => simp [intOf]; omega
            · obtain rfl : k = n := by omega
              obtain ⟨u0, u1, eu, bu0, bu1⟩ := dotN_open p key xs ys k hp1
              have EU : Hid (dotN p key xs ys xs.length = [u0, u1]) := by show _ = _; rw [hl.out, eu]
              rw [eu] at HM; clear eu
              go_wp2
              go_ret2
              exact DotRet.yes HD.out EU.out HM.out HB.out
set_option maxHeartbeats 4000000 in
theorem s_DotShared (p key : Int) (a : Option Addr) (n cap : Nat) (xs : List (List Int)) (a' : Option Addr) (n' cap' : Nat) (ys : List (List Int)) (w : World) (hp : Fits p) (hk : Fits key) (h : Rws w a n cap xs) (h' : Rws w a' n' cap' ys) :
    Calls Try.prog 32 #[.int .i64 p, .int .i64 key, .slice a n cap, .slice a' n' cap'] w fun e w' => DotRet p key xs ys w e w' := by
  have hl := h.len; have hl' := h'.len
  cases h1 : prB p with
  | false =>
    have HR : Hid (¬ dotB p key xs ys = true) := fun q => by have := dotB_iff.1 q; rw [h1] at this; simp at this
    go_enter Try.func32, Try.ntmps32
    go_wp2_with fail
    refine (s_fpGood _ _).mono ?_; rintro e w1 ⟨rfl, rfl⟩
    go_wp2
    all_goals
      go_ret2
      exact DotRet.no HR.out (Below.refl _ _)
  | true =>
    cases h2 : keyB key with
    | false =>
      have HR : Hid (¬ dotB p key xs ys = true) := fun q => by have := dotB_iff.1 q; rw [h2] at this; simp at this
      go_enter Try.func32, Try.ntmps32
      go_wp2_with fail
      refine (s_fpGood _ _).mono ?_; rintro e w1 ⟨rfl, rfl⟩
      go_wp2_with fail
      refine (s_otKey _ _).mono ?_; rintro e w1 ⟨rfl, rfl⟩
      go_wp2
      all_goals
        go_ret2
        exact DotRet.no HR.out (Below.refl _ _)
    | true =>
      by_cases h5 : n = n'
      rotate_left
      · have h5' : ((n : Int) == (n' : Int)) = false := by simp; omega
        have h5'' : ((n : Int) != (n' : Int)) = true := by simp; omega
        have HR : Hid (¬ dotB p key xs ys = true) := fun q => by have := dotB_iff.1 q; rw [hl.out, hl'.out] at this; omega
        go_enter Try.func32, Try.ntmps32
        go_wp2_with fail
        refine (s_fpGood _ _).mono ?_; rintro e w1 ⟨rfl, rfl⟩
        go_wp2_with fail
        refine (s_otKey _ _).mono ?_; rintro e w1 ⟨rfl, rfl⟩
        go_wp2
        all_goals
          go_ret2
          exact DotRet.no HR.out (Below.refl _ _)
      obtain rfl : n = n' := h5
      by_cases h6 : n ≤ 20
      rotate_left
      · skip
        have HR : Hid (¬ dotB p key xs ys = true) := fun q => by have := dotB_iff.1 q; rw [hl.out] at this; omega
        go_enter Try.func32, Try.ntmps32
        go_wp2_with fail
        refine (s_fpGood _ _).mono ?_; rintro e w1 ⟨rfl, rfl⟩
        go_wp2_with fail
        refine (s_otKey _ _).mono ?_; rintro e w1 ⟨rfl, rfl⟩
        go_wp2
        all_goals
          go_ret2
          exact DotRet.no HR.out (Below.refl _ _)
      obtain ⟨hp1, hp2⟩ := prB_lo h1
      obtain ⟨hk1, hk2⟩ := keyB_iff.1 h2
      go_enter Try.func32, Try.ntmps32
      go_wp2_with fail
      refine (s_fpGood _ _).mono ?_; rintro e w1 ⟨rfl, rfl⟩
      go_wp2_with fail
      refine (s_otKey _ _).mono ?_; rintro e w1 ⟨rfl, rfl⟩
      have HB0 : Hid (Below w.heap.size w (w.alloc (.cells #[.int .i64 0, .int .i64 0] 3))) := bel_trans (Below.refl _ _) (bel_alloc _ _)
      have HM0 := Lib.hid (lit2_mine (w := w) (x := 0) (y := 0) 3 (by unfold Fits; omega) (by unfold Fits; omega))
      have hz0 : w.heap.size ≤ w.heap.size := Nat.le_refl _
      go_wp2
      go_loopw [10, 36] (fun v i wr => ∃ (k : Nat) (r : Option Addr) (rc : Nat), k ≤ n ∧ i = .int .i64 k ∧ v = .slice r 2 rc ∧ Hid (Mine wr w.heap.size r 2 rc (dotN p key xs ys k)) ∧ Hid (Below w.heap.size w wr) ∧ Hid (∀ j, j < k → lnB p (rowN xs j) 2 = true ∧ lnB p (rowN ys j) 2 = true)) (fun _ i _ => n - (intOf i).toNat)
      case atStart => exact ⟨0, _, _, by omega, rfl, rfl, HM0.out.base hz0, HB0.out, fun j hj => by omega⟩
      case round =>
        obtain ⟨k, r, rc, hk, rfl, rfl, HM, HB, HJ⟩ := hrel
        obtain ⟨wo, rfl⟩ : ∃ wo : World, wo = wr := ⟨_, rfl⟩
        clear HM0 HB0
        by_cases hlt : k < n
        · obtain ⟨b, off, r1, m1, c1, rfl, hbl, hc, hr1⟩ := (h.below HB.out).at hlt
          obtain ⟨b', off', r2, m2, c2, rfl, hbl', hc', hr2⟩ := (h'.below HB.out).at hlt
          have hlti : (k : Int) < (n : Int) := by omega
          have R1 := Lib.hid hr1; have R2 := Lib.hid hr2; clear hr1 hr2
          cases g1 : lnB p (rowN xs k) 2 with
          | false =>
            have HR : Hid (¬ dotB p key xs ys = true) := fun q => by
              have := allR_iff.1 (dotB_iff.1 q).2.2.1 k (by rw [hl.out]; exact hlt)
              rw [g1] at this; cases this
            go_wp2_with fail
            refine (s_trPair _ _ _ _ _ _ R1.out).mono ?_; rintro e w1 ⟨rfl, rfl⟩
            go_wp2
            all_goals
              go_ret2
              exact DotRet.no HR.out HB.out
          | true =>
            cases g2 : lnB p (rowN ys k) 2 with
            | false =>
              have HR : Hid (¬ dotB p key xs ys = true) := fun q => by
                have := allR_iff.1 (dotB_iff.1 q).2.2.2.1 k (by rw [hl'.out]; exact hlt)
                rw [g2] at this; cases this
              go_wp2_with fail
              refine (s_trPair _ _ _ _ _ _ R1.out).mono ?_; rintro e w1 ⟨rfl, rfl⟩
              go_wp2_with fail
              refine (s_trPair _ _ _ _ _ _ R2.out).mono ?_; rintro e w1 ⟨rfl, rfl⟩
              go_wp2
              all_goals
                go_ret2
                exact DotRet.no HR.out HB.out
            | true =>
              have hr1 := R1.out; have hr2 := R2.out
              obtain ⟨x0, x1, ex, bx0, bx1⟩ := ln2 (g1)
              obtain ⟨y0, y1, ey, by0, by1⟩ := ln2 (g2)
              have J1 : Hid (Ints wo r1 m1 c1 [x0, x1]) := by rw [← ex]; exact hr1
              have J2 : Hid (Ints wo r2 m2 c2 [y0, y1]) := by rw [← ey]; exact hr2
              have HS : Hid (dotN p key xs ys (k + 1) = addP p (dotN p key xs ys k) (mulP p key k [x0, x1] [y0, y1])) := by show _ = _; rw [dotN, ex, ey]
              obtain ⟨u0, u1, eu, bu0, bu1⟩ := dotN_open p key xs ys k hp1
              obtain ⟨v0, v1, ev, bv0, bv1⟩ := mulP_open p key k [x0, x1] [y0, y1] hp1
              rw [eu, ev] at HS; rw [eu] at HM
              clear hr1 hr2 ex ey
              have EV := Lib.hid ev; clear ev eu
              go_wp2_with fail
              refine (s_trPair _ _ _ _ _ _ R1.out).mono ?_; rintro e w1 ⟨rfl, rfl⟩
              go_wp2_with fail
              refine (s_trPair _ _ _ _ _ _ R2.out).mono ?_; rintro e w1 ⟨rfl, rfl⟩
              go_wp2_with fail
              refine (s_trTimes _ _ _ _ _ _ _ _ _ x0 x1 y0 y1 _ ⟨hp1, hp2⟩ ⟨hk1, hk2⟩ (by omega) J1.out J2.out ⟨⟨by omega, by omega⟩, ⟨by omega, by omega⟩⟩ ⟨⟨by omega, by omega⟩, ⟨by omega, by omega⟩⟩).mono ?_; rintro e wx ⟨q, rfl, hq, hb⟩
              rw [EV.out] at hq
              have HQ := Lib.hid hq; clear hq
              have HXX : Hid (∀ i, i < 2 → -1000000 ≤ nth [u0, u1] i ∧ 0 ≤ nth [u0, u1] i + nth [v0, v1] i ∧ nth [u0, u1] i ≤ 1000000 ∧ nth [v0, v1] i ≤ 1000000) := by
                intro i hi
                rcases (show i = 0 ∨ i = 1 by omega) with rfl | rfl <;> simp [nth] <;> omega
              have HMX := Lib.hid (HM.out.below hb)
              have HBX := Lib.hid (bel_trans HB.out hb); clear hb
              go_wp2_with fail
              refine (s_trSum p _ _ _ _ _ _ [u0, u1] [v0, v1] _ HMX.out.ints HQ.out.ints ⟨hp1, hp2⟩ (Nat.le_refl _) (by omega) HXX.out).mono ?_; rintro e wy ⟨q2, qc, rfl, hq2, hb⟩
              have HJ2 : Hid (∀ j, j < k + 1 → lnB p (rowN xs j) 2 = true ∧ lnB p (rowN ys j) 2 = true) := fun j hj => by
                rcases Nat.lt_or_ge j k with g | g
                · exact HJ.out j g
                · obtain rfl : j = k := by omega
                  exact ⟨g1, g2⟩
              have HN := Lib.hid (hq2.base HBX.out.size); clear hq2
              have HBY := Lib.hid (bel_trans HBX.out hb); clear hb
              go_wp2
              go_roundw
              case rel => exact ⟨k + 1, _, _, by omega, by go_num, rfl, (by rw [HS.out]; exact HN.out), HBY.out, HJ2.out⟩
              case measure => simp [intOf]; omega
        · obtain rfl : k = n := by omega
          have HD : Hid (dotB p key xs ys = true) := dotB_iff.2 ⟨h1, h2, allR_iff.2 (by rw [hl.out]; exact fun j hj => (HJ.out j hj).1), allR_iff.2 (by rw [hl'.out]; exact fun j hj => (HJ.out j hj).2), by rw [hl.out, hl'.out], by rw [hl.out]; exact h6⟩
          obtain ⟨u0, u1, eu, bu0, bu1⟩ := dotN_open p key xs ys k hp1
          have EU : Hid (dotN p key xs ys xs.length = [u0, u1]) := by show _ = _; rw [hl.out, eu]
          rw [eu] at HM; clear eu
          go_wp2
          go_ret2
          exact DotRet.yes HD.out EU.out HM.out HB.out
end Go.Proofs.Ytfandnakenpfnaa
