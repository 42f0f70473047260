/-
  Contracts of BatchHolds, the program's and the reference's.
-/
import Derived.Test.YtnamhfaacamihaaTV
import Derived.Test.YtnamhfaacamihaaRQ
namespace Go.Proofs.Ytnamhfaacamihaa
open Go.RowKit
set_option linter.unusedVariables false
set_option linter.unusedSimpArgs false

theorem far2 {w : World} {b o g : Nat} {u v x : Value} (h : w.cell? ⟨b, o, none⟩ = some x) (hne : b ≠ g) : ((w.setCell ⟨g, 0, none⟩ u).setCell ⟨g, 1, none⟩ v).cell? ⟨b, o, none⟩ = some x :=
  (World.cell?_setCell_other _ _ _ _ (fun e => hne (by injection e with e1; exact e1.symm))).trans ((World.cell?_setCell_other _ _ _ _ (fun e => hne (by injection e with e1; exact e1.symm))).trans h)

set_option maxHeartbeats 8000000 in
theorem i_BatchHolds (p d : Int) (a : Option Addr) (n cap : Nat) (ks : List Int) (b : Option Addr) (m cap' : Nat) (zs : List Int) (c : Option Addr) (l cap'' : Nat) (ws : List Int) (w : World) (fp : Fits p) (fd : Fits d) (h : Ints w a n cap ks) (h' : Recs 2 w b m cap' zs) (h3 : Ints w c l cap'' ws) :
    Calls Try.prog 39 #[.int .i64 p, .int .i64 d, .slice a n cap, .slice b m cap', .slice c l cap''] w fun e w' =>
      e = .returned (.tuple #[.bool (batchHolds p d ks zs ws).1, .bool (batchHolds p d ks zs ws).2]) ∧ Below w.heap.size w w' := by
  have hm2 : zs.length / 2 = m := by have := h'.len; omega
  have hl3 := h3.len
  have hs3 := h3.small; have hsm := h'.small
  unfold batchHolds
  rw [hm2, hl3.out]
  cases h0 : tgsB p d ks zs m with
  | false =>
    go_enter Try.func39, Try.ntmps39
    go_wp2_with (go_at_call 66; refine (i_areTagged _ _ _ _ _ _ _ _ ks zs _ h h').mono ?_; rintro e w1 ⟨rfl, hb1⟩; rw [h0])
    go_ret2
    exact ⟨rfl, by (repeat (first | exact Below.refl _ _ | assumption | refine bel_trans ?_ (bel_alloc _ _) | refine bel_set ?_ (by first | (dsimp only; omega) | (simp; omega) | simp) _ | refine bel_trans ?_ (bel_drewN _ _) | refine bel_trans ?_ (bel_drew _) | refine bel_trans ?_ (by assumption)))⟩
  | true =>
    obtain ⟨q1, q2, q3, q4, q5⟩ := tgsB_iff.1 h0
    obtain ⟨hp1, hp2⟩ := elB_p q1
    have hpr : prB p = true := (elB_iff.1 q1).1
    obtain ⟨hd1, hd2⟩ := (elB_iff.1 q1).2
    have hnm : n = m := by rw [← h.len.out]; exact q3
    subst hnm
    have Q2 := Lib.hid q2; have Q5 := Lib.hid q5; have hl := h.len
    clear q2 q3 q5 hm2
    cases h1 : allIn ws 0 (p - 1) with
    | false =>
      have h1' : elsB p ws = false := by unfold elsB; rw [hpr, h1]; rfl
      by_cases hln : l = n
      · subst hln
        go_enter Try.func39, Try.ntmps39
        go_wp2_with (first | (go_at_call 66; refine (i_areTagged _ _ _ _ _ _ _ _ ks zs _ h h').mono ?_; rintro e w1 ⟨rfl, hb1⟩; rw [h0]) | (go_at_call 59; refine (i_areElements _ _ _ _ ws _ (h3.below (by (repeat (first | exact Below.refl _ _ | assumption | refine bel_trans ?_ (bel_alloc _ _) | refine bel_set ?_ (by first | (dsimp only; omega) | (simp; omega) | simp) _ | refine bel_trans ?_ (bel_drewN _ _) | refine bel_trans ?_ (bel_drew _) | refine bel_trans ?_ (by assumption)))))).mono ?_; rintro e w2 ⟨rfl, hb2⟩; rw [h1']))
        go_ret2
        exact ⟨rfl, by (repeat (first | exact Below.refl _ _ | assumption | refine bel_trans ?_ (bel_alloc _ _) | refine bel_set ?_ (by first | (dsimp only; omega) | (simp; omega) | simp) _ | refine bel_trans ?_ (bel_drewN _ _) | refine bel_trans ?_ (bel_drew _) | refine bel_trans ?_ (by assumption)))⟩
      · have hlni : ¬ (l : Int) = (n : Int) := by omega
        go_enter Try.func39, Try.ntmps39
        go_wp2_with (first | (go_at_call 66; refine (i_areTagged _ _ _ _ _ _ _ _ ks zs _ h h').mono ?_; rintro e w1 ⟨rfl, hb1⟩; rw [h0]) | (go_at_call 59; refine (i_areElements _ _ _ _ ws _ (h3.below (by (repeat (first | exact Below.refl _ _ | assumption | refine bel_trans ?_ (bel_alloc _ _) | refine bel_set ?_ (by first | (dsimp only; omega) | (simp; omega) | simp) _ | refine bel_trans ?_ (bel_drewN _ _) | refine bel_trans ?_ (bel_drew _) | refine bel_trans ?_ (by assumption)))))).mono ?_; rintro e w2 ⟨rfl, hb2⟩; rw [h1']))
        go_ret2
        exact ⟨rfl, by (repeat (first | exact Below.refl _ _ | assumption | refine bel_trans ?_ (bel_alloc _ _) | refine bel_set ?_ (by first | (dsimp only; omega) | (simp; omega) | simp) _ | refine bel_trans ?_ (bel_drewN _ _) | refine bel_trans ?_ (bel_drew _) | refine bel_trans ?_ (by assumption)))⟩
    | true =>
      have h1' : elsB p ws = true := by unfold elsB; rw [hpr, h1]; rfl
      by_cases hln : l = n
      rotate_left
      · have hlni : ¬ (l : Int) = (n : Int) := by omega
        rw [decide_eq_false hln]
        go_enter Try.func39, Try.ntmps39
        go_wp2_with (first | (go_at_call 66; refine (i_areTagged _ _ _ _ _ _ _ _ ks zs _ h h').mono ?_; rintro e w1 ⟨rfl, hb1⟩; rw [h0]) | (go_at_call 59; refine (i_areElements _ _ _ _ ws _ (h3.below (by (repeat (first | exact Below.refl _ _ | assumption | refine bel_trans ?_ (bel_alloc _ _) | refine bel_set ?_ (by first | (dsimp only; omega) | (simp; omega) | simp) _ | refine bel_trans ?_ (bel_drewN _ _) | refine bel_trans ?_ (bel_drew _) | refine bel_trans ?_ (by assumption)))))).mono ?_; rintro e w2 ⟨rfl, hb2⟩; rw [h1']))
        go_ret2
        exact ⟨rfl, by (repeat (first | exact Below.refl _ _ | assumption | refine bel_trans ?_ (bel_alloc _ _) | refine bel_set ?_ (by first | (dsimp only; omega) | (simp; omega) | simp) _ | refine bel_trans ?_ (bel_drewN _ _) | refine bel_trans ?_ (bel_drew _) | refine bel_trans ?_ (by assumption)))⟩
      · subst hln
        rw [decide_eq_true rfl]
        have Q6 := Lib.hid h1'
        go_enter Try.func39, Try.ntmps39
        go_wp2_with (first | (go_at_call 66; refine (i_areTagged _ _ _ _ _ _ _ _ ks zs _ h h').mono ?_; rintro e w1 ⟨rfl, hb1⟩; rw [h0]) | (go_at_call 59; refine (i_areElements _ _ _ _ ws _ (h3.below (by (repeat (first | exact Below.refl _ _ | assumption | refine bel_trans ?_ (bel_alloc _ _) | refine bel_set ?_ (by first | (dsimp only; omega) | (simp; omega) | simp) _ | refine bel_trans ?_ (bel_drewN _ _) | refine bel_trans ?_ (bel_drew _) | refine bel_trans ?_ (by assumption)))))).mono ?_; rintro e w2 ⟨rfl, hb2⟩; rw [h1']))
        have B2 := Lib.hid (bel_trans hb1 hb2)
        have hz2 := B2.out.size
        go_loopw [13, 38] (fun s i W => ∃ k : Nat, k ≤ l ∧ i = .int .i64 k ∧ s = .int .i64 (bsK p ws ks k) ∧ Hid (Bx W w2.heap.size (.int .i64 (bsV p ws zs 0 k)) (.int .i64 (bsV p ws zs 1 k))) ∧ Hid (Below w.heap.size w W)) (fun _ i _ => l - (intOf i).toNat)
        case atStart => exact ⟨0, by omega, rfl, rfl, (show Hid _ from Bx.new), (show Hid _ from bel_trans B2.out (bel_alloc _ _))⟩
        case round =>
          clear h0 h1 h1' q1 B2
          obtain ⟨k, hk, rfl, rfl, HX, HB⟩ := hrel
          obtain ⟨bk1, bk2⟩ := bsK_bd (p := p) (by omega) ws ks k
          obtain ⟨bv1, bv2⟩ := bsV_bd (p := p) (by omega) ws zs 0 k
          obtain ⟨bt1, bt2⟩ := bsV_bd (p := p) (by omega) ws zs 1 k
          by_cases hlt : k < l
          · obtain ⟨wo, rfl⟩ : ∃ wo : World, wo = wr := ⟨_, rfl⟩
            have hlti : (k : Int) < (l : Int) := by omega
            obtain ⟨kb, ko, rfl, kl, kc⟩ := (h.below HB.out).at (i := k) (by omega)
            obtain ⟨zb, zo, rfl, zl, zc0, zc1⟩ := (h'.below HB.out).at2 hlt
            obtain ⟨wb, wo', rfl, wl, wc⟩ := (h3.below HB.out).at (i := k) (by omega)
            have kl0 := (h.at (i := k) (by omega)); obtain ⟨_, _, ek, kl', _⟩ := kl0
            have zl0 := (h'.at2 hlt); obtain ⟨_, _, ez, zl', _⟩ := zl0
            have wl0 := (h3.at (i := k) (by omega)); obtain ⟨_, _, ew, wl', _⟩ := wl0
            simp only [Option.some.injEq, Addr.mk.injEq] at ek ez ew
            obtain ⟨rfl, rfl, _⟩ := ek; obtain ⟨rfl, rfl, _⟩ := ez; obtain ⟨rfl, rfl, _⟩ := ew
            obtain ⟨hk1, hk2⟩ := elsB_nth Q2.out (i := k) (by rw [hl.out]; omega)
            obtain ⟨hw1, hw2⟩ := elsB_nth Q6.out (i := k) (by rw [hl3.out]; omega)
            have ht := allTg_at Q5.out hlt
            unfold tgOkAt at ht
            obtain ⟨hv1, hv2⟩ := (elB_iff.1 (Bool.and_eq_true_iff.1 ht).1).2
            obtain ⟨ht1, ht2⟩ := (elB_iff.1 (Bool.and_eq_true_iff.1 ht).2).2
            clear ht
            have hsz := HB.out.size
            obtain ⟨x0, x1, x2, x3⟩ := HX.out
            have xl := lt_of_cell x0
            have HC : Hid (bsV p ws zs 0 (k + 1) = (bsV p ws zs 0 k + nth ws k * fld 2 zs k 0) % p ∧ bsV p ws zs 1 (k + 1) = (bsV p ws zs 1 k + nth ws k * fld 2 zs k 1) % p ∧ bsK p ws ks (k + 1) = (bsK p ws ks k + nth ws k * nth ks k) % p) := ⟨rfl, rfl, rfl⟩
            generalize fld 2 zs k 0 = v at *
            generalize fld 2 zs k 1 = t at *
            generalize nth ks k = kk at *
            generalize nth ws k = ww at *
            generalize bsV p ws zs 0 k = sv at *
            generalize bsV p ws zs 1 k = st at *
            generalize bsK p ws ks k = sk at *
            obtain ⟨m1, m2⟩ := mul_bd (a := ww) (b := v) 251 251 (by omega) (by omega) (by omega) (by omega)
            obtain ⟨m3, m4⟩ := mul_bd (a := ww) (b := t) 251 251 (by omega) (by omega) (by omega) (by omega)
            obtain ⟨m5, m6⟩ := mul_bd (a := ww) (b := kk) 251 251 (by omega) (by omega) (by omega) (by omega)
            have e1 : IntKind.i64.wrap (ww * v) = ww * v := IntWalk.i64_in _ (by omega)
            have e2 : IntKind.i64.wrap (ww * t) = ww * t := IntWalk.i64_in _ (by omega)
            have e3 : IntKind.i64.wrap (ww * kk) = ww * kk := IntWalk.i64_in _ (by omega)
            have e4 : IntKind.i64.wrap (sv + ww * v) = sv + ww * v := IntWalk.i64_in _ (by omega)
            have e5 : IntKind.i64.wrap (st + ww * t) = st + ww * t := IntWalk.i64_in _ (by omega)
            have e6 : IntKind.i64.wrap (sk + ww * kk) = sk + ww * kk := IntWalk.i64_in _ (by omega)
            have HH := Lib.hid (And.intro h (And.intro h' h3)); clear h h' h3
            go_wp2
            refine wp_region_last_lit (by simp) (by kernel_rfl) (by kernel_rfl) (by kernel_rfl) (by kernel_rfl) ?_
            dsimp only [List.dropLast, List.getLast]
            repeat (quiet_step ((go_at_call 60; exact Calls.quiet_of_same ((i_mod _ _ _ (by omega) (by omega) (by omega) (by omega)).mono fun _ _ h => ⟨h.1, h.2.symm⟩))))
            refine wpQuiet_nil ?_
            intro w9 hw9
            obtain ⟨nq, rfl⟩ := hw9
            go_simp
            all_goals
              go_wp2_with (first | (go_at_call 60; refine (i_mod _ _ _ (by omega) (by omega) (by omega) (by omega)).mono ?_; rintro e w' ⟨rfl, rfl⟩))
              go_roundw
              case rel => exact ⟨k + 1, by omega, by go_num, by rw [HC.out.2.2], (show Hid _ from by rw [HC.out.1, HC.out.2.1]; exact Bx.set2 (HX.out.on (bel_drewN _ nq)) _ _), (show Hid _ from ((bel_trans HB.out (bel_drewN _ nq)).setCell (by simp only []; omega) _).setCell (by simp only []; omega) _)⟩
              case measure => simp [intOf]; omega
          · obtain rfl : k = l := by omega
            obtain ⟨x0, x1, x2, x3⟩ := HX.out
            go_wp2_with (go_at_call 57; refine (i_holds _ _ _ _ _ _ ⟨hp1, hp2⟩ (by omega) (by omega) (by omega) (by omega)).mono ?_; rintro e w3 ⟨rfl, hb3⟩)
            go_ret2
            exact ⟨rfl, bel_trans HB.out (by (repeat (first | exact Below.refl _ _ | assumption | refine bel_trans ?_ (bel_alloc _ _) | refine bel_set ?_ (by first | (dsimp only; omega) | (simp; omega) | simp) _ | refine bel_trans ?_ (bel_drewN _ _) | refine bel_trans ?_ (bel_drew _) | refine bel_trans ?_ (by assumption))))⟩

set_option maxHeartbeats 8000000 in
theorem s_BatchHolds (p d : Int) (a : Option Addr) (n cap : Nat) (ks : List Int) (b : Option Addr) (m cap' : Nat) (zs : List Int) (c : Option Addr) (l cap'' : Nat) (ws : List Int) (w : World) (fp : Fits p) (fd : Fits d) (h : Ints w a n cap ks) (h' : Recs 2 w b m cap' zs) (h3 : Ints w c l cap'' ws) :
    Calls Try.prog 37 #[.int .i64 p, .int .i64 d, .slice a n cap, .slice b m cap', .slice c l cap''] w fun e w' =>
      e = .returned (.tuple #[.bool (batchHolds p d ks zs ws).1, .bool (batchHolds p d ks zs ws).2]) ∧ Below w.heap.size w w' := by
  have hm2 : zs.length / 2 = m := by have := h'.len; omega
  have hl3 := h3.len
  have hs3 := h3.small; have hsm := h'.small
  unfold batchHolds
  rw [hm2, hl3.out]
  cases h0 : tgsB p d ks zs m with
  | false =>
    go_enter Try.func37, Try.ntmps37
    go_wp2_with (go_at_call 65; refine (s_tgLists _ _ _ _ _ _ _ _ ks zs _ fd h h').mono ?_; rintro e w1 ⟨rfl, hb1⟩; rw [h0])
    go_ret2
    exact ⟨rfl, by (repeat (first | exact Below.refl _ _ | assumption | refine bel_trans ?_ (bel_alloc _ _) | refine bel_set ?_ (by first | (dsimp only; omega) | (simp; omega) | simp) _ | refine bel_trans ?_ (bel_drewN _ _) | refine bel_trans ?_ (bel_drew _) | refine bel_trans ?_ (by assumption)))⟩
  | true =>
    obtain ⟨q1, q2, q3, q4, q5⟩ := tgsB_iff.1 h0
    obtain ⟨hp1, hp2⟩ := elB_p q1
    have hpr : prB p = true := (elB_iff.1 q1).1
    obtain ⟨hd1, hd2⟩ := (elB_iff.1 q1).2
    have hnm : n = m := by rw [← h.len.out]; exact q3
    subst hnm
    have Q2 := Lib.hid q2; have Q5 := Lib.hid q5; have hl := h.len
    clear q2 q3 q5 hm2
    cases h1 : allIn ws 0 (p - 1) with
    | false =>
      have h1' : elsB p ws = false := by unfold elsB; rw [hpr, h1]; rfl
      by_cases hln : l = n
      · subst hln
        go_enter Try.func37, Try.ntmps37
        go_wp2_with (first | (go_at_call 65; refine (s_tgLists _ _ _ _ _ _ _ _ ks zs _ fd h h').mono ?_; rintro e w1 ⟨rfl, hb1⟩; rw [h0]) | (go_at_call 63; refine (s_l1All _ _ _ ws _ _ _ (h3.below (by (repeat (first | exact Below.refl _ _ | assumption | refine bel_trans ?_ (bel_alloc _ _) | refine bel_set ?_ (by first | (dsimp only; omega) | (simp; omega) | simp) _ | refine bel_trans ?_ (bel_drewN _ _) | refine bel_trans ?_ (bel_drew _) | refine bel_trans ?_ (by assumption)))))).mono ?_; rintro e w2 ⟨rfl, rfl⟩; rw [h1]))
        go_ret2
        exact ⟨rfl, by (repeat (first | exact Below.refl _ _ | assumption | refine bel_trans ?_ (bel_alloc _ _) | refine bel_set ?_ (by first | (dsimp only; omega) | (simp; omega) | simp) _ | refine bel_trans ?_ (bel_drewN _ _) | refine bel_trans ?_ (bel_drew _) | refine bel_trans ?_ (by assumption)))⟩
      · have hlni : ¬ (l : Int) = (n : Int) := by omega
        go_enter Try.func37, Try.ntmps37
        go_wp2_with (first | (go_at_call 65; refine (s_tgLists _ _ _ _ _ _ _ _ ks zs _ fd h h').mono ?_; rintro e w1 ⟨rfl, hb1⟩; rw [h0]) | (go_at_call 63; refine (s_l1All _ _ _ ws _ _ _ (h3.below (by (repeat (first | exact Below.refl _ _ | assumption | refine bel_trans ?_ (bel_alloc _ _) | refine bel_set ?_ (by first | (dsimp only; omega) | (simp; omega) | simp) _ | refine bel_trans ?_ (bel_drewN _ _) | refine bel_trans ?_ (bel_drew _) | refine bel_trans ?_ (by assumption)))))).mono ?_; rintro e w2 ⟨rfl, rfl⟩; rw [h1]))
        go_ret2
        exact ⟨rfl, by (repeat (first | exact Below.refl _ _ | assumption | refine bel_trans ?_ (bel_alloc _ _) | refine bel_set ?_ (by first | (dsimp only; omega) | (simp; omega) | simp) _ | refine bel_trans ?_ (bel_drewN _ _) | refine bel_trans ?_ (bel_drew _) | refine bel_trans ?_ (by assumption)))⟩
    | true =>
      have h1' : elsB p ws = true := by unfold elsB; rw [hpr, h1]; rfl
      by_cases hln : l = n
      rotate_left
      · have hlni : ¬ (l : Int) = (n : Int) := by omega
        rw [decide_eq_false hln]
        go_enter Try.func37, Try.ntmps37
        go_wp2_with (first | (go_at_call 65; refine (s_tgLists _ _ _ _ _ _ _ _ ks zs _ fd h h').mono ?_; rintro e w1 ⟨rfl, hb1⟩; rw [h0]) | (go_at_call 63; refine (s_l1All _ _ _ ws _ _ _ (h3.below (by (repeat (first | exact Below.refl _ _ | assumption | refine bel_trans ?_ (bel_alloc _ _) | refine bel_set ?_ (by first | (dsimp only; omega) | (simp; omega) | simp) _ | refine bel_trans ?_ (bel_drewN _ _) | refine bel_trans ?_ (bel_drew _) | refine bel_trans ?_ (by assumption)))))).mono ?_; rintro e w2 ⟨rfl, rfl⟩; rw [h1]))
        go_ret2
        exact ⟨rfl, by (repeat (first | exact Below.refl _ _ | assumption | refine bel_trans ?_ (bel_alloc _ _) | refine bel_set ?_ (by first | (dsimp only; omega) | (simp; omega) | simp) _ | refine bel_trans ?_ (bel_drewN _ _) | refine bel_trans ?_ (bel_drew _) | refine bel_trans ?_ (by assumption)))⟩
      · subst hln
        rw [decide_eq_true rfl]
        have Q6 := Lib.hid h1'
        go_enter Try.func37, Try.ntmps37
        go_wp2_with (first | (go_at_call 65; refine (s_tgLists _ _ _ _ _ _ _ _ ks zs _ fd h h').mono ?_; rintro e w1 ⟨rfl, hb1⟩; rw [h0]) | (go_at_call 63; refine (s_l1All _ _ _ ws _ _ _ (h3.below (by (repeat (first | exact Below.refl _ _ | assumption | refine bel_trans ?_ (bel_alloc _ _) | refine bel_set ?_ (by first | (dsimp only; omega) | (simp; omega) | simp) _ | refine bel_trans ?_ (bel_drewN _ _) | refine bel_trans ?_ (bel_drew _) | refine bel_trans ?_ (by assumption)))))).mono ?_; rintro e w2 ⟨rfl, rfl⟩; rw [h1]))
        have B2 := Lib.hid hb1
        have hz2 := B2.out.size
        go_loopw [13, 39] (fun s i W => ∃ k : Nat, k ≤ l ∧ i = .int .i64 k ∧ s = .int .i64 (bsK p ws ks k) ∧ Hid (Bx W w1.heap.size (.int .i64 (bsV p ws zs 0 k)) (.int .i64 (bsV p ws zs 1 k))) ∧ Hid (Below w.heap.size w W)) (fun _ i _ => l - (intOf i).toNat)
        case atStart => exact ⟨0, by omega, rfl, rfl, (show Hid _ from Bx.new), (show Hid _ from bel_trans B2.out (bel_alloc _ _))⟩
        case round =>
          clear h0 h1 h1' q1 B2
          obtain ⟨k, hk, rfl, rfl, HX, HB⟩ := hrel
          obtain ⟨bk1, bk2⟩ := bsK_bd (p := p) (by omega) ws ks k
          obtain ⟨bv1, bv2⟩ := bsV_bd (p := p) (by omega) ws zs 0 k
          obtain ⟨bt1, bt2⟩ := bsV_bd (p := p) (by omega) ws zs 1 k
          by_cases hlt : k < l
          · obtain ⟨wo, rfl⟩ : ∃ wo : World, wo = wr := ⟨_, rfl⟩
            have hlti : (k : Int) < (l : Int) := by omega
            obtain ⟨kb, ko, rfl, kl, kc⟩ := (h.below HB.out).at (i := k) (by omega)
            obtain ⟨zb, zo, rfl, zl, zc0, zc1⟩ := (h'.below HB.out).at2 hlt
            obtain ⟨wb, wo', rfl, wl, wc⟩ := (h3.below HB.out).at (i := k) (by omega)
            have kl0 := (h.at (i := k) (by omega)); obtain ⟨_, _, ek, kl', _⟩ := kl0
            have zl0 := (h'.at2 hlt); obtain ⟨_, _, ez, zl', _⟩ := zl0
            have wl0 := (h3.at (i := k) (by omega)); obtain ⟨_, _, ew, wl', _⟩ := wl0
            simp only [Option.some.injEq, Addr.mk.injEq] at ek ez ew
            obtain ⟨rfl, rfl, _⟩ := ek; obtain ⟨rfl, rfl, _⟩ := ez; obtain ⟨rfl, rfl, _⟩ := ew
            obtain ⟨hk1, hk2⟩ := elsB_nth Q2.out (i := k) (by rw [hl.out]; omega)
            obtain ⟨hw1, hw2⟩ := elsB_nth Q6.out (i := k) (by rw [hl3.out]; omega)
            have ht := allTg_at Q5.out hlt
            unfold tgOkAt at ht
            obtain ⟨hv1, hv2⟩ := (elB_iff.1 (Bool.and_eq_true_iff.1 ht).1).2
            obtain ⟨ht1, ht2⟩ := (elB_iff.1 (Bool.and_eq_true_iff.1 ht).2).2
            clear ht
            have hsz := HB.out.size
            obtain ⟨x0, x1, x2, x3⟩ := HX.out
            have xl := lt_of_cell x0
            have HC : Hid (bsV p ws zs 0 (k + 1) = (bsV p ws zs 0 k + nth ws k * fld 2 zs k 0) % p ∧ bsV p ws zs 1 (k + 1) = (bsV p ws zs 1 k + nth ws k * fld 2 zs k 1) % p ∧ bsK p ws ks (k + 1) = (bsK p ws ks k + nth ws k * nth ks k) % p) := ⟨rfl, rfl, rfl⟩
            generalize fld 2 zs k 0 = v at *
            generalize fld 2 zs k 1 = t at *
            generalize nth ks k = kk at *
            generalize nth ws k = ww at *
            generalize bsV p ws zs 0 k = sv at *
            generalize bsV p ws zs 1 k = st at *
            generalize bsK p ws ks k = sk at *
            obtain ⟨m1, m2⟩ := mul_bd (a := ww) (b := v) 251 251 (by omega) (by omega) (by omega) (by omega)
            obtain ⟨m3, m4⟩ := mul_bd (a := ww) (b := t) 251 251 (by omega) (by omega) (by omega) (by omega)
            obtain ⟨m5, m6⟩ := mul_bd (a := ww) (b := kk) 251 251 (by omega) (by omega) (by omega) (by omega)
            have e1 : IntKind.i64.wrap (ww * v) = ww * v := IntWalk.i64_in _ (by omega)
            have e2 : IntKind.i64.wrap (ww * t) = ww * t := IntWalk.i64_in _ (by omega)
            have e3 : IntKind.i64.wrap (ww * kk) = ww * kk := IntWalk.i64_in _ (by omega)
            have e4 : IntKind.i64.wrap (sv + ww * v) = sv + ww * v := IntWalk.i64_in _ (by omega)
            have e5 : IntKind.i64.wrap (st + ww * t) = st + ww * t := IntWalk.i64_in _ (by omega)
            have e6 : IntKind.i64.wrap (sk + ww * kk) = sk + ww * kk := IntWalk.i64_in _ (by omega)
            have HH := Lib.hid (And.intro h (And.intro h' h3)); clear h h' h3
            go_wp2
            have hne : wb ≠ w1.heap.size := by omega
            have hne2 : kb ≠ w1.heap.size := by omega
            go_region_with (first | (go_at_call 62; refine (s_tgAdd _ _ _ _ _ _ _ ⟨hp1, hp2⟩ (by omega) (by omega) (by omega) (by omega) (by omega)).mono ?_; rintro e w3 ⟨rfl, hb3⟩; have B3 := bel_trans (bel_trans (bel_alloc _ _) (bel_drew _)) hb3; have c0 := cell_on wc B3; have c3 := cell_on kc B3; have y0 := HX.out.on B3; obtain ⟨y0, y1, y2, y3⟩ := y0; have d0 := far2 (u := .int .i64 ((sv + ww * v) % p)) (v := .int .i64 ((st + ww * t) % p)) c0 hne; have d3 := far2 (u := .int .i64 ((sv + ww * v) % p)) (v := .int .i64 ((st + ww * t) % p)) c3 hne2))
            all_goals
              go_wp2
              go_quiet (fail)
              go_wp2
              go_roundw
              case rel => exact ⟨k + 1, by omega, by go_num, by rw [HC.out.2.2], (show Hid _ from by rw [HC.out.1, HC.out.2.1]; exact Bx.set2 (HX.out.on B3) _ _), (show Hid _ from below_drewN (((bel_trans HB.out B3).setCell (by simp only []; omega) _).setCell (by simp only []; omega) _) _)⟩
              case measure => simp [intOf]; omega
          · obtain rfl : k = l := by omega
            obtain ⟨x0, x1, x2, x3⟩ := HX.out
            go_wp2_with (go_at_call 54; refine (s_tgHolds _ _ _ _ _ _ ⟨hp1, hp2⟩ (by omega) (by omega) (by omega) (by omega)).mono ?_; rintro e w3 ⟨rfl, hb3⟩)
            go_ret2
            exact ⟨rfl, bel_trans HB.out (by (repeat (first | exact Below.refl _ _ | assumption | refine bel_trans ?_ (bel_alloc _ _) | refine bel_set ?_ (by first | (dsimp only; omega) | (simp; omega) | simp) _ | refine bel_trans ?_ (bel_drewN _ _) | refine bel_trans ?_ (bel_drew _) | refine bel_trans ?_ (by assumption))))⟩

end Go.Proofs.Ytnamhfaacamihaa
