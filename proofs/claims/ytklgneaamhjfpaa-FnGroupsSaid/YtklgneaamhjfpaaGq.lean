/-
  LogIn, both sides; the plain law of one transfer.
-/
import Derived.Test.YtklgneaamhjfpaaGl
import Derived.Test.YtklgneaamhjfpaaG3
namespace Go.Proofs.Ytklgneaamhjfpaa
open Go.RowKit
set_option linter.unusedVariables false
set_option linter.unusedSimpArgs false

theorem xor16 {x y : Int} (hx0 : 0 ≤ x) (hx : x ≤ 65535) (hy0 : 0 ≤ y) (hy : y ≤ 65535) : 0 ≤ bits .xor .i64 x y ∧ bits .xor .i64 x y ≤ 65535 := by
  have h1 : bits .xor .i64 x y = IntKind.i64.wrap ((BitVec.ofInt 64 x ^^^ BitVec.ofInt 64 y).toNat : Nat) := rfl
  have h2 : (BitVec.ofInt 64 x ^^^ BitVec.ofInt 64 y).toNat < 2 ^ 16 := by
    rw [BitVec.toNat_xor]
    refine Nat.xor_lt_two_pow ?_ ?_
    · rw [BitVec.toNat_ofInt]; omega
    · rw [BitVec.toNat_ofInt]; omega
  rw [h1, IntKind.wrap_i64]
  omega
/-- What LogIn asks. -/
def logB (P Q G a b : Int) : Bool := grB P Q G && (hasB P Q a && (hasB P Q b && decide (a ≠ 1)))
theorem logB_iff {P Q G a b : Int} : logB P Q G a b = true ↔ grB P Q G = true ∧ hasB P Q a = true ∧ hasB P Q b = true ∧ a ≠ 1 := by
  unfold logB; simp only [Bool.and_eq_true, decide_eq_true_iff]
theorem pw_succ {p a : Int} (k : Nat) (h0 : 0 ≤ a) (h1 : a < p) : pw p a k * a % p = pw p a (k + 1) := by
  have := pw_mul p a k 1
  rw [pw_1 p a h0 h1] at this
  exact this
/-- What LogIn hands back. -/
def LogRet (P Q G a b : Int) (w : World) (e : Ending) (w' : World) : Prop :=
  ∃ n : Nat, e = .returned (.tuple #[.int .i64 n, .bool (logB P Q G a b)]) ∧ (logB P Q G a b = true → (n : Int) < Q ∧ pw P a n = b) ∧ (logB P Q G a b = false → n = 0) ∧ Below w.heap.size w w'
theorem logRet_eq {P Q G a b : Int} {n m : Nat} (h1 : logB P Q G a b = true → (n : Int) < Q ∧ pw P a n = b) (h2 : logB P Q G a b = false → n = 0) (k1 : logB P Q G a b = true → (m : Int) < Q ∧ pw P a m = b) (k2 : logB P Q G a b = false → m = 0) : n = m := by
  cases h : logB P Q G a b with
  | false => rw [h2 h, k2 h]
  | true =>
    obtain ⟨a1, a2, a3, a4⟩ := logB_iff.1 h
    exact log_uniq a1 a2 a4 (h1 h).1 (k1 h).1 ((h1 h).2.trans (k1 h).2.symm)
set_option maxHeartbeats 1000000 in
theorem s_grAsked (P Q G a b : Int) (w : World) :
    Calls Try.prog 72 #[.agg #[.int .i64 P, .int .i64 Q, .int .i64 G], .int .i64 a, .int .i64 b] w fun e w' => e = .returned (.bool (grB P Q G && (hasB P Q a && hasB P Q b))) ∧ Below w.heap.size w w' := by
  cases h1 : grB P Q G with
  | false =>
    go_enter Try.func72, Try.ntmps72
    go_wp2_with (first | (go_at_call 63; refine (s_grGood _ _ _ _).mono ?_; rintro e w' ⟨rfl, hb⟩; (first | (have H := gbox1 hb) | (have H := Gx.on gb0 hb; clear gb0 k0 k1 k2)); have gb0 := H; have kk := H; clear H; obtain ⟨k0, k1, k2⟩ := kk))
    all_goals
      go_ret
      exact ⟨rfl, by (repeat (first | exact Below.refl _ _ | assumption | refine bel_trans ?_ (bel_alloc _ _) | refine bel_set ?_ (by first | (dsimp only; omega) | (simp; omega) | simp) _ | refine bel_trans ?_ (bel_drewN _ _) | refine bel_trans ?_ (bel_drew _) | refine bel_trans ?_ (by assumption)))⟩
  | true =>
    obtain ⟨hP, hQ, hG⟩ := grB_lo h1
    cases h2 : hasB P Q a with
    | false =>
      go_enter Try.func72, Try.ntmps72
      go_wp2_with (first | (go_at_call 63; refine (s_grGood _ _ _ _).mono ?_; rintro e w' ⟨rfl, hb⟩; (first | (have H := gbox1 hb) | (have H := Gx.on gb0 hb; clear gb0 k0 k1 k2)); have gb0 := H; have kk := H; clear H; obtain ⟨k0, k1, k2⟩ := kk) | (go_at_call 69; refine (s_grHas _ _ _ _ _ hP hQ).mono ?_; rintro e w' ⟨rfl, hb⟩; (first | (have H := gbox1 hb) | (have H := Gx.on gb0 hb; clear gb0 k0 k1 k2)); have gb0 := H; have kk := H; clear H; obtain ⟨k0, k1, k2⟩ := kk))
      all_goals
        go_ret
        exact ⟨rfl, by (repeat (first | exact Below.refl _ _ | assumption | refine bel_trans ?_ (bel_alloc _ _) | refine bel_set ?_ (by first | (dsimp only; omega) | (simp; omega) | simp) _ | refine bel_trans ?_ (bel_drewN _ _) | refine bel_trans ?_ (bel_drew _) | refine bel_trans ?_ (by assumption)))⟩
    | true =>
      cases h3 : hasB P Q b with
      | false =>
        go_enter Try.func72, Try.ntmps72
        go_wp2_with (first | (go_at_call 63; refine (s_grGood _ _ _ _).mono ?_; rintro e w' ⟨rfl, hb⟩; (first | (have H := gbox1 hb) | (have H := Gx.on gb0 hb; clear gb0 k0 k1 k2)); have gb0 := H; have kk := H; clear H; obtain ⟨k0, k1, k2⟩ := kk) | (go_at_call 69; refine (s_grHas _ _ _ _ _ hP hQ).mono ?_; rintro e w' ⟨rfl, hb⟩; (first | (have H := gbox1 hb) | (have H := Gx.on gb0 hb; clear gb0 k0 k1 k2)); have gb0 := H; have kk := H; clear H; obtain ⟨k0, k1, k2⟩ := kk))
        all_goals
          go_ret
          exact ⟨rfl, by (repeat (first | exact Below.refl _ _ | assumption | refine bel_trans ?_ (bel_alloc _ _) | refine bel_set ?_ (by first | (dsimp only; omega) | (simp; omega) | simp) _ | refine bel_trans ?_ (bel_drewN _ _) | refine bel_trans ?_ (bel_drew _) | refine bel_trans ?_ (by assumption)))⟩
      | true =>
        go_enter Try.func72, Try.ntmps72
        go_wp2_with (first | (go_at_call 63; refine (s_grGood _ _ _ _).mono ?_; rintro e w' ⟨rfl, hb⟩; (first | (have H := gbox1 hb) | (have H := Gx.on gb0 hb; clear gb0 k0 k1 k2)); have gb0 := H; have kk := H; clear H; obtain ⟨k0, k1, k2⟩ := kk) | (go_at_call 69; refine (s_grHas _ _ _ _ _ hP hQ).mono ?_; rintro e w' ⟨rfl, hb⟩; (first | (have H := gbox1 hb) | (have H := Gx.on gb0 hb; clear gb0 k0 k1 k2)); have gb0 := H; have kk := H; clear H; obtain ⟨k0, k1, k2⟩ := kk))
        all_goals
          go_ret
          exact ⟨rfl, by (repeat (first | exact Below.refl _ _ | assumption | refine bel_trans ?_ (bel_alloc _ _) | refine bel_set ?_ (by first | (dsimp only; omega) | (simp; omega) | simp) _ | refine bel_trans ?_ (bel_drewN _ _) | refine bel_trans ?_ (bel_drew _) | refine bel_trans ?_ (by assumption)))⟩
set_option maxHeartbeats 4000000 in
theorem s_LogIn (P Q G a b : Int) (w : World) : Calls Try.prog 29 #[.agg #[.int .i64 P, .int .i64 Q, .int .i64 G], .int .i64 a, .int .i64 b] w (LogRet P Q G a b w) := by
  have A0 := bel_alloc w (.cells #[.int .i64 P, .int .i64 Q, .int .i64 G] 24)
  have g0 := Gx.new (w := w) (P := P) (Q := Q) (G := G) (t := 24)
  have gk := g0
  obtain ⟨k0, k1, k2⟩ := gk
  unfold LogRet
  cases h1 : (grB P Q G && (hasB P Q a && hasB P Q b)) with
  | false =>
    have hL : logB P Q G a b = false := by
      cases h : logB P Q G a b with
      | false => rfl
      | true => obtain ⟨a1, a2, a3, a4⟩ := logB_iff.1 h; rw [a1, a2, a3] at h1; cases h1
    rw [hL]
    go_enter Try.func29, Try.ntmps29
    go_wp2_with fail
    refine (s_grAsked _ _ _ _ _ _).mono ?_; rintro e w1 ⟨rfl, hb1⟩; rw [h1]
    go_wp2
    go_ret2
    exact ⟨0, rfl, fun h => by (cases h), fun _ => rfl, bel_trans A0 hb1⟩
  | true =>
    obtain ⟨hg, h2⟩ := Bool.and_eq_true_iff.1 h1
    obtain ⟨ha, hb⟩ := Bool.and_eq_true_iff.1 h2
    obtain ⟨hP, hQ, hG⟩ := grB_lo hg
    obtain ⟨a1, a2⟩ := hasB_lo ha
    obtain ⟨b1, b2⟩ := hasB_lo hb
    by_cases hne : a = 1
    · have hL : logB P Q G a b = false := by
        cases h : logB P Q G a b with
        | false => rfl
        | true => obtain ⟨_, _, _, a4⟩ := logB_iff.1 h; exact absurd hne a4
      rw [hL]
      subst hne
      go_enter Try.func29, Try.ntmps29
      go_wp2_with fail
      refine (s_grAsked _ _ _ _ _ _).mono ?_; rintro e w1 ⟨rfl, hb1⟩; rw [h1]
      go_wp2
      go_ret2
      exact ⟨0, rfl, fun h => by (cases h), fun _ => rfl, bel_trans A0 hb1⟩
    · have hL : logB P Q G a b = true := logB_iff.2 ⟨hg, ha, hb, hne⟩
      rw [hL]
      obtain ⟨i0, hi0, he0⟩ := log_ex hg ha hb hne
      have HE := Lib.hid he0; clear he0
      have h10 := pw_zero P a (by omega)
      have HZ := Lib.hid h10; clear h10
      go_enter Try.func29, Try.ntmps29
      go_wp2_with fail
      refine (s_grAsked _ _ _ _ _ _).mono ?_; rintro e w1 ⟨rfl, hb1⟩; rw [h1]
      have j0 := cell_on k0 hb1; have j1 := cell_on k1 hb1; have j2 := cell_on k2 hb1
      have B1 := bel_trans A0 hb1
      clear k0 k1 k2 g0 A0 hb1 h1 h2 hg ha hb hL
      go_wp2
      go_loop [8, 9] (fun n x => ∃ k : Nat, k ≤ i0 ∧ n = .int .i64 k ∧ x = .int .i64 (pw P a k)) (fun n _ => i0 - (intOf n).toNat)
      case atStart => exact ⟨0, by omega, rfl, by rw [HZ.out]⟩
      case round =>
        obtain ⟨k, hk, rfl, rfl⟩ := hrel
        have bd := pw_bd P a k (by omega)
        obtain ⟨bd1, bd2⟩ := bd
        by_cases hx : pw P a k = b
        · have HX := Lib.hid hx
          have hxb : (pw P a k != b) = false := by rw [hx]; simp
          have hxb2 : (pw P a k == b) = true := by rw [hx]; simp
          clear hx
          go_wp2
          go_ret2
          exact ⟨k, rfl, ⟨by omega, HX.out⟩, B1⟩
        · have hxb : (pw P a k != b) = true := by simpa using hx
          have hxb2 : (pw P a k == b) = false := by simpa using hx
          have hkl : k < i0 := by
            rcases Nat.lt_or_ge k i0 with q | q
            · exact q
            · exfalso; obtain rfl : k = i0 := by omega
              exact hx HE.out
          have HS := Lib.hid (pw_succ (p := P) (a := a) k (by omega) (by omega))
          obtain ⟨m1, m2⟩ := mul_bd (a := pw P a k) (b := a) 2003 2003 (by omega) (by omega) (by omega) (by omega)
          have hP0 : ¬ P = 0 := by omega
          clear hx
          go_wp2
          go_round
          case rel => exact ⟨k + 1, by omega, by go_num, by rw [HS.out]⟩
          case measure => simp [intOf]; omega
set_option maxHeartbeats 4000000 in
theorem i_LogIn (P Q G a b : Int) (w : World) : Calls Try.prog 28 #[.agg #[.int .i64 P, .int .i64 Q, .int .i64 G], .int .i64 a, .int .i64 b] w (LogRet P Q G a b w) := by
  have A0 := bel_alloc w (.cells #[.int .i64 P, .int .i64 Q, .int .i64 G] 24)
  have g0 := Gx.new (w := w) (P := P) (Q := Q) (G := G) (t := 24)
  have gk := g0
  obtain ⟨k0, k1, k2⟩ := gk
  unfold LogRet
  cases h1 : (grB P Q G && hasB P Q a) with
  | false =>
    have hL : logB P Q G a b = false := by
      cases h : logB P Q G a b with
      | false => rfl
      | true => obtain ⟨a1, a2, a3, a4⟩ := logB_iff.1 h; rw [a1, a2] at h1; cases h1
    rw [hL]
    go_enter Try.func28, Try.ntmps28
    go_wp2_with fail
    refine (i_inGroup _ _ _ _ _).mono ?_; rintro e w1 ⟨rfl, hb1⟩; rw [h1]
    go_wp2
    go_ret2
    exact ⟨0, rfl, fun h => by (cases h), fun _ => rfl, bel_trans A0 hb1⟩
  | true =>
    obtain ⟨hg, ha⟩ := Bool.and_eq_true_iff.1 h1
    obtain ⟨hP, hQ, hG⟩ := grB_lo hg
    obtain ⟨a1, a2⟩ := hasB_lo ha
    cases h2 : hasB P Q b with
    | false =>
      have hL : logB P Q G a b = false := by
        cases h : logB P Q G a b with
        | false => rfl
        | true => obtain ⟨a1, a2, a3, a4⟩ := logB_iff.1 h; rw [a3] at h2; cases h2
      rw [hL]
      go_enter Try.func28, Try.ntmps28
      go_wp2_with fail
      refine (i_inGroup _ _ _ _ _).mono ?_; rintro e w1 ⟨rfl, hb1⟩; rw [h1]
      have j0 := cell_on k0 hb1; have j1 := cell_on k1 hb1; have j2 := cell_on k2 hb1
      go_wp2_with fail
      refine (i_inGroup _ _ _ _ _).mono ?_; rintro e w2 ⟨rfl, hb2⟩; rw [hg, h2]
      go_wp2
      go_ret2
      exact ⟨0, rfl, fun h => by (cases h), fun _ => rfl, bel_trans (bel_trans A0 hb1) hb2⟩
    | true =>
      obtain ⟨b1, b2⟩ := hasB_lo h2
      by_cases hne : a = 1
      · have hL : logB P Q G a b = false := by
          cases h : logB P Q G a b with
          | false => rfl
          | true => obtain ⟨_, _, _, a4⟩ := logB_iff.1 h; exact absurd hne a4
        rw [hL]
        subst hne
        go_enter Try.func28, Try.ntmps28
        go_wp2_with fail
        refine (i_inGroup _ _ _ _ _).mono ?_; rintro e w1 ⟨rfl, hb1⟩; rw [h1]
        have j0 := cell_on k0 hb1; have j1 := cell_on k1 hb1; have j2 := cell_on k2 hb1
        go_wp2_with fail
        refine (i_inGroup _ _ _ _ _).mono ?_; rintro e w2 ⟨rfl, hb2⟩; rw [hg, h2]
        go_wp2
        go_ret2
        exact ⟨0, rfl, fun h => by (cases h), fun _ => rfl, bel_trans (bel_trans A0 hb1) hb2⟩
      · have hL : logB P Q G a b = true := logB_iff.2 ⟨hg, ha, h2, hne⟩
        rw [hL]
        obtain ⟨i0, hi0, he0⟩ := log_ex hg ha h2 hne
        have HE := Lib.hid he0; clear he0
        have h10 := pw_zero P a (by omega)
        have HZ := Lib.hid h10; clear h10
        go_enter Try.func28, Try.ntmps28
        go_wp2_with fail
        refine (i_inGroup _ _ _ _ _).mono ?_; rintro e w1 ⟨rfl, hb1⟩; rw [h1]
        have j0 := cell_on k0 hb1; have j1 := cell_on k1 hb1; have j2 := cell_on k2 hb1
        go_wp2_with fail
        refine (i_inGroup _ _ _ _ _).mono ?_; rintro e w2 ⟨rfl, hb2⟩; rw [hg, h2]
        have l0 := cell_on j0 hb2; have l1 := cell_on j1 hb2; have l2 := cell_on j2 hb2
        have B1 := bel_trans (bel_trans A0 hb1) hb2
        clear k0 k1 k2 j0 j1 j2 g0 A0 hb1 hb2 h1 h2 hg ha hL
        go_wp2
        go_loop [8, 9] (fun n x => ∃ k : Nat, k ≤ i0 ∧ n = .int .i64 k ∧ x = .int .i64 (pw P a k)) (fun n _ => i0 - (intOf n).toNat)
        case atStart => exact ⟨0, by omega, rfl, by rw [HZ.out]⟩
        case round =>
          obtain ⟨k, hk, rfl, rfl⟩ := hrel
          have bd := pw_bd P a k (by omega)
          obtain ⟨bd1, bd2⟩ := bd
          by_cases hx : pw P a k = b
          · have HX := Lib.hid hx
            have hxb : (pw P a k != b) = false := by rw [hx]; simp
            have hxb2 : (pw P a k == b) = true := by rw [hx]; simp
            clear hx
            go_wp2
            go_ret2
            exact ⟨k, rfl, ⟨by omega, HX.out⟩, B1⟩
          · have hxb : (pw P a k != b) = true := by simpa using hx
            have hxb2 : (pw P a k == b) = false := by simpa using hx
            have hkl : k < i0 := by
              rcases Nat.lt_or_ge k i0 with q | q
              · exact q
              · exfalso; obtain rfl : k = i0 := by omega
                exact hx HE.out
            have HS := Lib.hid (pw_succ (p := P) (a := a) k (by omega) (by omega))
            obtain ⟨m1, m2⟩ := mul_bd (a := pw P a k) (b := a) 2003 2003 (by omega) (by omega) (by omega) (by omega)
            have hP0 : ¬ P = 0 := by omega
            clear hx
            go_wp2
            go_round
            case rel => exact ⟨k + 1, by omega, by go_num, by rw [HS.out]⟩
            case measure => simp [intOf]; omega
theorem padOf_bd (x i : Int) : 0 ≤ padOf x i ∧ padOf x i ≤ 65535 := dgMix_bd _
/-- The plain law of one transfer. -/
theorem transfer_law {P Q G f b c i x0 x1 : Int} (h : (openChosen P Q G f b c i x0 x1).2 = true) :
    logB P Q G G f = true ∧ ∀ s : Nat, (s : Int) < Q → pw P G s = f → ∃ rep u v : Int,
      answerTo P Q G f b c = (rep, true) ∧ sealPair P Q G s rep i x0 x1 = (u, v, true) ∧ Fits rep ∧ Fits u ∧ Fits v ∧
      ∃ pd oz : Int, chosenPad P Q G f b i = (pd, true) ∧
      (c = 1 ∧ openChosen P Q G f b c i u v = (x1, true) ∧ padsOf P Q G s rep i = (oz, pd, true) ∨ c = 0 ∧ openChosen P Q G f b c i u v = (x0, true) ∧ padsOf P Q G s rep i = (pd, oz, true)) := by
  have hc : ((firstB P Q G f && (inB b 0 (Q - 1) && inB i 0 39)) && (inB c 0 1 && (inB x0 0 65535 && inB x1 0 65535))) = true := by
    cases k : ((firstB P Q G f && (inB b 0 (Q - 1) && inB i 0 39)) && (inB c 0 1 && (inB x0 0 65535 && inB x1 0 65535))) with
    | true => rfl
    | false => unfold openChosen at h; rw [k] at h; cases h
  obtain ⟨h1, h2⟩ := Bool.and_eq_true_iff.1 hc
  obtain ⟨hf, h3⟩ := Bool.and_eq_true_iff.1 h1
  obtain ⟨hb, hi⟩ := Bool.and_eq_true_iff.1 h3
  obtain ⟨hcc, h4⟩ := Bool.and_eq_true_iff.1 h2
  obtain ⟨hx0, hx1⟩ := Bool.and_eq_true_iff.1 h4
  obtain ⟨hg, hh, hne⟩ := firstB_iff.1 hf
  obtain ⟨hP, hQ, hG, p3, q2, g2, g3, p4, q4⟩ := grB_facts hg
  have hG1 : G ≠ 1 := by omega
  refine ⟨logB_iff.2 ⟨hg, has_G hg, hh, hG1⟩, fun s hs he => ?_⟩
  have hfs : f = gpw P Q G s := by rw [gpw_nat s q2 hs]; exact he.symm
  have hs1 : (1 : Int) ≤ s := by
    rcases Nat.eq_zero_or_pos s with e | e
    · subst e; exfalso; rw [pw_zero P G (by omega)] at he; exact hne he.symm
    · omega
  have hsb : inB (s : Int) 1 (Q - 1) = true := inB_iff.2 ⟨hs1, by omega⟩
  have hans : hasB P Q (answ P Q G f b c) = true := by
    unfold answ
    split
    · exact has_mul (by omega) q2 (has_gpw b (by omega) q2 (has_G hg)) hh
    · exact has_gpw b (by omega) q2 (has_G hg)
  have hpb : padsB P Q G s (answ P Q G f b c) i = true := padsB_iff.2 ⟨hg, hans, hsb, hi⟩
  have bz := padOf_bd (gpw P Q (answ P Q G f b c) s) i
  have bo := padOf_bd (gpw P Q (otherOf P Q G s (answ P Q G f b c)) s) i
  obtain ⟨x00, x01⟩ := inB_iff.1 hx0
  obtain ⟨x10, x11⟩ := inB_iff.1 hx1
  have ubd := xor16 x00 x01 bz.1 bz.2
  have vbd := xor16 x10 x11 bo.1 bo.2
  have abd := hasB_lo hans
  have fx0 : Fits x0 := by unfold Fits; omega
  have fx1 : Fits x1 := by unfold Fits; omega
  refine ⟨answ P Q G f b c, bits .xor .i64 x0 (padZ P Q G s (answ P Q G f b c) i), bits .xor .i64 x1 (padO P Q G s (answ P Q G f b c) i), ?_, ?_, by unfold Fits; omega, ?_, ?_, padOf (gpw P Q f b) i, (if c = 1 then padZ P Q G s (answ P Q G f b c) i else padO P Q G s (answ P Q G f b c) i), ?_, ?_⟩
  · unfold answerTo; rw [hf, hb, hcc]; rfl
  · unfold sealPair; rw [hpb, hx0, hx1]; rfl
  · have := ubd; unfold padZ Fits; omega
  · have := vbd; unfold padO Fits; omega
  · exact chosenPad_t h1
  · have hu : inB (bits .xor .i64 x0 (padZ P Q G s (answ P Q G f b c) i)) 0 65535 = true := inB_iff.2 ubd
    have hv : inB (bits .xor .i64 x1 (padO P Q G s (answ P Q G f b c) i)) 0 65535 = true := inB_iff.2 vbd
    have hop : ∀ u v : Int, inB u 0 65535 = true → inB v 0 65535 = true → openChosen P Q G f b c i u v = (bits .xor .i64 (if c = 1 then v else u) (padOf (gpw P Q f b) i), true) := by
      intro u v hu hv
      unfold openChosen; rw [h1, hcc, hu, hv]; rfl
    rw [hop _ _ hu hv, padsOf_t hpb]
    obtain ⟨c0, c1⟩ := inB_iff.1 hcc
    have hc01 : c = 1 ∨ c = 0 := by omega
    rcases hc01 with rfl | rfl
    · refine .inl ⟨rfl, ?_, ?_⟩
      · rw [if_pos rfl]
        have e : padO P Q G s (answ P Q G f b 1) i = padOf (gpw P Q f b) i := by rw [hfs]; exact pads_1 hg
        rw [e, xor_xor _ fx1]
      · have e : padO P Q G s (answ P Q G f b 1) i = padOf (gpw P Q f b) i := by rw [hfs]; exact pads_1 hg
        rw [e, if_pos rfl]
    · have e : padZ P Q G s (answ P Q G f b 0) i = padOf (gpw P Q f b) i := by rw [hfs]; exact pads_0
      refine .inr ⟨rfl, ?_, ?_⟩
      · rw [if_neg (by decide), e, xor_xor _ fx0]
      · rw [e, if_neg (by decide)]
end Go.Proofs.Ytklgneaamhjfpaa
