/-
  AreShares, FindWrong, JoinThreshold.
-/
import Derived.Test.YtfichpppjpgahaaHb
namespace Go.Proofs.Ytfichpppjpgahaa
open Go.RowKit
set_option linter.unusedVariables false
set_option linter.unusedSimpArgs false
set_option maxRecDepth 20000

def asked (p : Int) (xs ys : List Int) (t : Int) : Bool := hldB p xs ys && inB t 1 xs.length
def areShares (p : Int) (xs ys : List Int) (t : Int) : Bool × Bool := if asked p xs ys t then (fitB p xs ys t.toNat, true) else (false, false)
theorem asked_iff {p : Int} {xs ys : List Int} {t : Int} : asked p xs ys t = true ↔ (prB p = true ∧ Pts p xs ys xs.length ∧ xs.length ≤ 10 ∧ (0 : Int) ∉ xs) ∧ 1 ≤ t ∧ t ≤ xs.length := by
  unfold asked; rw [Bool.and_eq_true, hldB_iff, inB_iff]
set_option maxHeartbeats 2000000 in
theorem i_AreShares (p t : Int) (a : Option Addr) (n cap : Nat) (xs : List Int) (a' : Option Addr) (n' cap' : Nat) (ys : List Int) (w : World) (h : Ints w a n cap xs) (h' : Ints w a' n' cap' ys) :
    Calls Try.prog 32 #[.int .i64 p, .slice a n cap, .slice a' n' cap', .int .i64 t] w fun e w' => e = .returned (.tuple #[.bool (areShares p xs ys t).1, .bool (areShares p xs ys t).2]) ∧ Below w.heap.size w w' := by
  unfold areShares
  have hlx := h.len.out; have hly := h'.len.out
  have HP := Lib.hid (i_areHolders p a a' n cap n' cap' xs ys w h h')
  have HX := Lib.hid h; have HY := Lib.hid h'
  clear h h'
  cases h1 : hldB p xs ys with
  | false =>
    rw [h1] at HP
    have HA : Hid (asked p xs ys t = false) := by show _ = _; unfold asked; rw [h1]; rfl
    rw [HA.out]
    go_enter Try.func32, Try.ntmps32
    go_wp2_with (go_at_call 86; refine HP.out.mono ?_; rintro e w1 ⟨rfl, hb1⟩)
    go_ret2
    exact ⟨rfl, hb1⟩
  | true =>
    rw [h1] at HP
    have HI := Lib.hid (fun W => i_within t 1 (n : Int) W)
    cases h2 : inB t 1 (n : Int) with
    | false =>
      rw [h2] at HI
      have HA : Hid (asked p xs ys t = false) := by show _ = _; unfold asked; rw [h1, hlx, h2]; rfl
      rw [HA.out]
      go_enter Try.func32, Try.ntmps32
      go_wp2_with (first | (go_at_call 86; refine HP.out.mono ?_; rintro e w1 ⟨rfl, hb1⟩) | (go_at_call 64; refine (HI.out _).mono ?_; rintro e w2 ⟨rfl, rfl⟩))
      go_ret2
      exact ⟨rfl, hb1⟩
    | true =>
      rw [h2] at HI
      have hA : asked p xs ys t = true := by unfold asked; rw [h1, hlx, h2]; rfl
      obtain ⟨⟨hpr, hPt, h10, _⟩, ht1, ht2⟩ := asked_iff.1 hA
      rw [hlx] at hPt h10 ht2
      obtain rfl : n = n' := by rw [← hly]; exact hPt.ly.symm
      rw [hA]
      obtain ⟨s, rfl⟩ : ∃ s : Nat, t = s := ⟨t.toNat, by omega⟩
      rw [show ((s : Int)).toNat = s by omega]
      have HPt := Lib.hid hPt; have HLX := Lib.hid hlx
      clear hA hPt hlx hly
      go_enter Try.func32, Try.ntmps32
      go_wp2_with (first | (go_at_call 86; refine HP.out.mono ?_; rintro e w1 ⟨rfl, hb1⟩) | (go_at_call 64; refine (HI.out _).mono ?_; rintro e w2 ⟨rfl, rfl⟩) | (go_at_call 87; refine (i_fit p a n cap xs a' cap' ys s _ (HX.out.below hb1) (HY.out.below hb1) hpr HPt.out (by omega) (by omega) (by omega)).mono ?_; rintro e w3 ⟨rfl, hb3⟩))
      go_ret2
      exact ⟨rfl, bel_trans hb1 hb3⟩
set_option maxHeartbeats 2000000 in
theorem s_thAsked (p t : Int) (a : Option Addr) (n cap : Nat) (xs : List Int) (a' : Option Addr) (n' cap' : Nat) (ys : List Int) (w : World) (h : Ints w a n cap xs) (h' : Ints w a' n' cap' ys) (hn : n ≤ 1000) :
    Calls Try.prog 75 #[.int .i64 p, .slice a n cap, .slice a' n' cap', .int .i64 t] w fun e w' => e = .returned (.bool (asked p xs ys t)) ∧ Below w.heap.size w w' := by
  have hlx := h.len.out
  have HP := Lib.hid (s_thGood p a a' n cap n' cap' xs ys w h h' hn)
  have HI := Lib.hid (fun W => s_l1In t 1 (n : Int) W)
  unfold asked
  rw [hlx]
  clear h h' hlx
  cases h1 : hldB p xs ys with
  | false =>
    rw [h1] at HP
    go_enter Try.func75, Try.ntmps75
    go_wp2_with (go_at_call 122; refine HP.out.mono ?_; rintro e w1 ⟨rfl, hb1⟩)
    go_ret
    exact ⟨rfl, hb1⟩
  | true =>
    rw [h1] at HP
    go_enter Try.func75, Try.ntmps75
    go_wp2_with (first | (go_at_call 122; refine HP.out.mono ?_; rintro e w1 ⟨rfl, hb1⟩) | (go_at_call 57; refine (HI.out _).mono ?_; rintro e w2 ⟨rfl, rfl⟩))
    go_ret
    exact ⟨rfl, hb1⟩
/-- The last share without which the others fit, among the first k; -1 if there is none. -/
def lastW (p : Int) (xs ys : List Int) (t : Nat) : Nat → Int
  | 0 => -1
  | k + 1 => if fitB p (wo xs k) (wo ys k) t then k else lastW p xs ys t k
theorem lastW_bd (p : Int) (xs ys : List Int) (t : Nat) : ∀ k, -1 ≤ lastW p xs ys t k ∧ lastW p xs ys t k ≤ (k : Int) - 1
  | 0 => by rw [lastW]; omega
  | k + 1 => by
    have := lastW_bd p xs ys t k
    rw [lastW]; split <;> omega
theorem lastW_ok {p : Int} {xs ys : List Int} {t : Nat} : ∀ {k : Nat}, 0 ≤ lastW p xs ys t k → ∃ j : Nat, lastW p xs ys t k = j ∧ j < k ∧ fitB p (wo xs j) (wo ys j) t = true
  | 0, h => by rw [lastW] at h; omega
  | k + 1, h => by
    rw [lastW] at h ⊢
    split
    · rename_i e; exact ⟨k, rfl, by omega, e⟩
    · rename_i e
      rw [if_neg e] at h
      obtain ⟨j, h1, h2, h3⟩ := lastW_ok h
      exact ⟨j, h1, by omega, h3⟩
def findWrong (p : Int) (xs ys : List Int) (t : Int) : Int × Bool :=
  if asked p xs ys t && (decide (t + 2 ≤ xs.length) && (!fitB p xs ys t.toNat && decide (0 ≤ lastW p xs ys t.toNat xs.length))) then (lastW p xs ys t.toNat xs.length, true) else (0, false)
set_option maxHeartbeats 4000000 in
theorem i_findWrong (p : Int) (a : Option Addr) (n cap : Nat) (xs : List Int) (a' : Option Addr) (cap' : Nat) (ys : List Int) (t : Nat) (w : World) (h : Ints w a n cap xs) (h' : Ints w a' n cap' ys) (hpr : prB p = true) (hP : Pts p xs ys n) (hn : n ≤ 1000) (ht1 : 1 ≤ t) (htn : t + 2 ≤ n) (hf : fitB p xs ys t = false) :
    Calls Try.prog 78 #[.int .i64 p, .slice a n cap, .slice a' n cap', .int .i64 t] w fun e w' => e = .returned (.int .i64 (lastW p xs ys t n)) ∧ Below w.heap.size w w' := by
  have HX := Lib.hid h; have HY := Lib.hid h'; have HPt := Lib.hid hP
  have HOW : Hid (∀ i j, i < n → j < n → fitB p (wo xs i) (wo ys i) t = true → fitB p (wo xs j) (wo ys j) t = true → i = j) := fun i j hi hj fi fj => by
    obtain ⟨q, rfl, hq⟩ := prB_nat hpr
    exact one_wrong hq hP htn hf hi hj fi fj
  clear h h' hP hf
  go_enter Try.func78, Try.ntmps78
  go_wp2
  go_loopw [9, 13] (fun f i W => ∃ (k : Nat) (F : Int), k ≤ n ∧ i = .int .i64 k ∧ f = .int .i64 F ∧ -1 ≤ F ∧ F ≤ (k : Int) - 1 ∧ Hid (F = lastW p xs ys t k) ∧ Hid (Below w.heap.size w W)) (fun _ i _ => n - (intOf i).toNat)
  case atStart => exact ⟨0, -1, by omega, rfl, rfl, by omega, by omega, (show Hid _ from rfl), Below.refl _ _⟩
  case round =>
    obtain ⟨k, F, hk, rfl, rfl, hF1, hF2, HF, BW⟩ := hrel
    obtain ⟨wk, rfl⟩ : ∃ wk : World, wk = wr := ⟨_, rfl⟩
    by_cases hlt : k < n
    · have hki : (k : Int) < (n : Int) := by omega
      have HPW := Lib.hid (HPt.out.wo hlt)
      go_wp2_with fail
      refine (i_left a n cap k xs _ (HX.out.below BW.out) hlt hn).mono ?_; rintro e w1 ⟨r1, c1, rfl, ho1, hb1⟩
      have HO1 := Lib.hid ho1; have HB1 := Lib.hid (bel_trans BW.out hb1); clear ho1 hb1
      go_wp2_with fail
      refine (i_left a' n cap' k ys _ (HY.out.below HB1.out) hlt hn).mono ?_; rintro e w2 ⟨r2, c2, rfl, ho2, hb2⟩
      have HO2 := Lib.hid ho2; have HO1' := Lib.hid (HO1.out.below hb2); have HB2 := Lib.hid (bel_trans HB1.out hb2); clear ho2 hb2 HO1 HB1
      go_wp2_with fail
      refine (i_fit p r1 (n - 1) c1 (wo xs k) r2 c2 (wo ys k) t _ HO1'.out HO2.out hpr HPW.out (by omega) ht1 (by omega)).mono ?_; rintro e w3 ⟨rfl, hb3⟩
      have HB3 := Lib.hid (bel_trans HB2.out hb3); clear hb3 HB2 HO1' HO2
      cases hfk : fitB p (wo xs k) (wo ys k) t with
      | false =>
        have HFN : Hid (F = lastW p xs ys t (k + 1)) := by show _ = _; rw [lastW, hfk, HF.out]; rfl
        go_wp2
        go_roundw
        case rel => exact ⟨k + 1, F, by omega, by go_num, rfl, by omega, by omega, HFN.out, HB3.out⟩
        case measure => first | (simp [intOf]; done) | (simp [intOf]; omega)
      | true =>
        have hFneg : F < 0 := by
          rcases Int.lt_or_le F 0 with g | g
          · exact g
          · exfalso
            rw [HF.out] at g
            obtain ⟨j, _, hj2, hj3⟩ := lastW_ok g
            have := HOW.out k j hlt (by omega) hfk hj3
            omega
        have HFN : Hid ((k : Int) = lastW p xs ys t (k + 1)) := by show _ = _; rw [lastW, hfk]; rfl
        have hFn2 : ¬ (0 ≤ F) := by omega
        go_wp2
        go_roundw
        case rel => exact ⟨k + 1, k, by omega, by go_num, rfl, by omega, by omega, HFN.out, HB3.out⟩
        case measure => first | (simp [intOf]; done) | (simp [intOf]; omega)
    · obtain rfl : k = n := by omega
      go_wp2
      go_ret
      exact ⟨by rw [← HF.out]; rfl, BW.out⟩
set_option maxHeartbeats 4000000 in
theorem s_thWrong (p : Int) (a : Option Addr) (n cap : Nat) (xs : List Int) (a' : Option Addr) (cap' : Nat) (ys : List Int) (t : Nat) (w : World) (h : Ints w a n cap xs) (h' : Ints w a' n cap' ys) (hpr : prB p = true) (hP : Pts p xs ys n) (hn : n ≤ 1000) (ht1 : 1 ≤ t) (htn : t + 2 ≤ n) :
    Calls Try.prog 79 #[.int .i64 p, .slice a n cap, .slice a' n cap', .int .i64 t] w fun e w' => e = .returned (.int .i64 (lastW p xs ys t n)) ∧ Below w.heap.size w w' := by
  have HX := Lib.hid h; have HY := Lib.hid h'; have HPt := Lib.hid hP
  clear h h' hP
  go_enter Try.func79, Try.ntmps79
  go_wp2
  go_loopw [9, 13] (fun f i W => ∃ (k : Nat) (F : Int), k ≤ n ∧ i = .int .i64 k ∧ f = .int .i64 F ∧ -1 ≤ F ∧ F ≤ (k : Int) - 1 ∧ Hid (F = lastW p xs ys t k) ∧ Hid (Below w.heap.size w W)) (fun _ i _ => n - (intOf i).toNat)
  case atStart => exact ⟨0, -1, by omega, rfl, rfl, by omega, by omega, (show Hid _ from rfl), Below.refl _ _⟩
  case round =>
    obtain ⟨k, F, hk, rfl, rfl, hF1, hF2, HF, BW⟩ := hrel
    obtain ⟨wk, rfl⟩ : ∃ wk : World, wk = wr := ⟨_, rfl⟩
    by_cases hlt : k < n
    · have hki : (k : Int) < (n : Int) := by omega
      have HPW := Lib.hid (HPt.out.wo hlt)
      go_wp2_with fail
      refine (s_thWithout a n cap k xs _ (HX.out.below BW.out) hlt hn).mono ?_; rintro e w1 ⟨r1, c1, rfl, ho1, hb1⟩
      have HO1 := Lib.hid ho1; have HB1 := Lib.hid (bel_trans BW.out hb1); clear ho1 hb1
      go_wp2_with fail
      refine (s_thWithout a' n cap' k ys _ (HY.out.below HB1.out) hlt hn).mono ?_; rintro e w2 ⟨r2, c2, rfl, ho2, hb2⟩
      have HO2 := Lib.hid ho2; have HO1' := Lib.hid (HO1.out.below hb2); have HB2 := Lib.hid (bel_trans HB1.out hb2); clear ho2 hb2 HO1 HB1
      go_wp2_with fail
      refine (s_thFit p r1 (n - 1) c1 (wo xs k) r2 c2 (wo ys k) t _ HO1'.out HO2.out hpr HPW.out (by omega) ht1 (by omega)).mono ?_; rintro e w3 ⟨rfl, hb3⟩
      have HB3 := Lib.hid (bel_trans HB2.out hb3); clear hb3 HB2 HO1' HO2
      cases hfk : fitB p (wo xs k) (wo ys k) t with
      | false =>
        have HFN : Hid (F = lastW p xs ys t (k + 1)) := by show _ = _; rw [lastW, hfk, HF.out]; rfl
        go_wp2
        go_roundw
        case rel => exact ⟨k + 1, F, by omega, by go_num, rfl, by omega, by omega, HFN.out, HB3.out⟩
        case measure => first | (simp [intOf]; done) | (simp [intOf]; omega)
      | true =>
        have HFN : Hid ((k : Int) = lastW p xs ys t (k + 1)) := by show _ = _; rw [lastW, hfk]; rfl
        go_wp2
        go_roundw
        case rel => exact ⟨k + 1, k, by omega, by go_num, rfl, by omega, by omega, HFN.out, HB3.out⟩
        case measure => first | (simp [intOf]; done) | (simp [intOf]; omega)
    · obtain rfl : k = n := by omega
      go_wp2
      go_ret
      exact ⟨by rw [← HF.out]; rfl, BW.out⟩
def joinThreshold (p : Int) (xs ys : List Int) : Int × Bool := if hldB p xs ys && !(xs.length == 0) then (atS p xs ys 0 xs.length xs.length, true) else (0, false)
set_option maxHeartbeats 2000000 in
theorem i_JoinThreshold (p : Int) (a : Option Addr) (n cap : Nat) (xs : List Int) (a' : Option Addr) (n' cap' : Nat) (ys : List Int) (w : World) (h : Ints w a n cap xs) (h' : Ints w a' n' cap' ys) :
    Calls Try.prog 73 #[.int .i64 p, .slice a n cap, .slice a' n' cap'] w fun e w' => e = .returned (.tuple #[.int .i64 (joinThreshold p xs ys).1, .bool (joinThreshold p xs ys).2]) ∧ Below w.heap.size w w' := by
  unfold joinThreshold
  have hlx := h.len.out; have hly := h'.len.out
  have HP := Lib.hid (i_areHolders p a a' n cap n' cap' xs ys w h h')
  have HX := Lib.hid h; have HY := Lib.hid h'
  rw [hlx]
  clear h h'
  cases h1 : hldB p xs ys with
  | false =>
    rw [h1] at HP
    go_enter Try.func73, Try.ntmps73
    go_wp2_with (go_at_call 86; refine HP.out.mono ?_; rintro e w1 ⟨rfl, hb1⟩)
    go_ret2
    exact ⟨rfl, hb1⟩
  | true =>
    rw [h1] at HP
    by_cases hn0 : n = 0
    · subst hn0
      go_enter Try.func73, Try.ntmps73
      go_wp2_with (first | (go_at_call 86; refine HP.out.mono ?_; rintro e w1 ⟨rfl, hb1⟩))
      go_ret2
      exact ⟨rfl, hb1⟩
    · have hn0b : (n == 0) = false := by rw [beq_eq_false_iff_ne]; exact hn0
      have hn0i : ((n : Int) == 0) = false := by rw [beq_eq_false_iff_ne]; omega
      rw [hn0b]
      obtain ⟨hpr, hPt, h10, _⟩ := hldB_iff.1 h1
      obtain ⟨hp1, hp2⟩ := prB_lo hpr
      rw [hlx] at hPt h10
      obtain rfl : n = n' := by rw [← hly]; exact hPt.ly.symm
      have HXB := Lib.hid hPt.xb; have HYB := Lib.hid hPt.yb
      have HPL : Hid ((polyI p xs ys n n).length = n) := polyI_len _ _ _ _ _ (Nat.le_refl _)
      have HRS := Lib.hid (polyI_res hp1 xs ys n n (Nat.le_refl _))
      have HAE := Lib.hid (at_eq hp1 xs ys 0 n)
      clear hlx hly hPt hn0b
      go_enter Try.func73, Try.ntmps73
      go_wp2_with (first | (go_at_call 86; refine HP.out.mono ?_; rintro e w1 ⟨rfl, hb1⟩) | (go_at_call 48; refine (i_polyThrough p a n cap xs a' cap' ys _ (HX.out.below hb1) (HY.out.below hb1) ⟨hp1, hp2⟩ HXB HYB (by omega)).mono ?_; rintro e w2 ⟨r, c, rfl, ho, hb2⟩) | (go_at_call 55; refine (i_evalPoly p 0 r n c _ _ ho.ints ⟨hp1, hp2⟩ (by omega) (fun i hi => by have := HRS.out.at (i := i) (by rw [HPL.out]; exact hi); omega) (by omega)).mono ?_; rintro e w3 ⟨rfl, hb3⟩; rw [HAE.out]))
      go_ret2
      exact ⟨rfl, bel_trans (bel_trans hb1 hb2) hb3⟩
end Go.Proofs.Ytfichpppjpgahaa
