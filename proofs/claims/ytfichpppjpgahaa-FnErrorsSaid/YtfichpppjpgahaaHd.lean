/-
  FindWrong and JoinDespite.
-/
import Derived.Test.YtfichpppjpgahaaHc
namespace Go.Proofs.Ytfichpppjpgahaa
open Go.RowKit
set_option linter.unusedVariables false
set_option linter.unusedSimpArgs false
set_option maxRecDepth 20000

/-- What stands behind 'findWrong' in the good case. -/
theorem findWrong_eq {p : Int} {xs ys : List Int} {n s : Nat} (hA : asked p xs ys (s : Int) = true) (hl : xs.length = n) : findWrong p xs ys (s : Int) = if decide (s + 2 ≤ n) && (!fitB p xs ys s && decide (0 ≤ lastW p xs ys s n)) then (lastW p xs ys s n, true) else (0, false) := by
  unfold findWrong
  rw [hA, hl, Bool.true_and, show ((s : Int)).toNat = s by omega, show decide ((s : Int) + 2 ≤ (n : Int)) = decide (s + 2 ≤ n) from decide_eq_decide.2 (by omega)]
theorem findWrong_no {p : Int} {xs ys : List Int} {t : Int} (hA : asked p xs ys t = false) : findWrong p xs ys t = (0, false) := by
  unfold findWrong; rw [hA]; rfl
set_option maxHeartbeats 2000000 in
theorem i_FindWrong (p t : Int) (a : Option Addr) (n cap : Nat) (xs : List Int) (a' : Option Addr) (n' cap' : Nat) (ys : List Int) (w : World) (h : Ints w a n cap xs) (h' : Ints w a' n' cap' ys) :
    Calls Try.prog 23 #[.int .i64 p, .slice a n cap, .slice a' n' cap', .int .i64 t] w fun e w' => e = .returned (.tuple #[.int .i64 (findWrong p xs ys t).1, .bool (findWrong p xs ys t).2]) ∧ Below w.heap.size w w' := by
  have hlx := h.len.out; have hly := h'.len.out
  have HS := Lib.hid (i_AreShares p t a n cap xs a' n' cap' ys w h h')
  have HX := Lib.hid h; have HY := Lib.hid h'
  clear h h'
  unfold areShares at HS
  cases hA : asked p xs ys t with
  | false =>
    rw [hA] at HS
    rw [findWrong_no hA]
    go_enter Try.func23, Try.ntmps23
    go_wp2_with (go_at_call 32; refine HS.out.mono ?_; rintro e w1 ⟨rfl, hb1⟩)
    go_ret2
    exact ⟨rfl, hb1⟩
  | true =>
    rw [hA] at HS
    obtain ⟨⟨hpr, hPt, h10, _⟩, ht1, ht2⟩ := asked_iff.1 hA
    rw [hlx] at hPt h10 ht2
    obtain rfl : n = n' := by rw [← hly]; exact hPt.ly.symm
    obtain ⟨s, rfl⟩ : ∃ s : Nat, t = s := ⟨t.toNat, by omega⟩
    rw [findWrong_eq hA hlx]
    rw [show ((s : Int)).toNat = s by omega] at HS
    have HPt := Lib.hid hPt
    have e2 : IntKind.i64.wrap ((s : Int) + 2) = (s : Int) + 2 := IntWalk.i64_in _ (by omega)
    clear hA hPt hlx hly
    cases hf : fitB p xs ys s with
    | true =>
      rw [hf] at HS
      rw [show (decide (s + 2 ≤ n) && (!true && decide (0 ≤ lastW p xs ys s n))) = false by cases decide (s + 2 ≤ n) <;> rfl]
      go_enter Try.func23, Try.ntmps23
      go_wp2_with (go_at_call 32; refine HS.out.mono ?_; rintro e w1 ⟨rfl, hb1⟩)
      go_ret2
      exact ⟨rfl, hb1⟩
    | false =>
      rw [hf] at HS
      by_cases hsn : s + 2 ≤ n
      · have hsni : ¬ (n : Int) < (s : Int) + 2 := by omega
        rw [decide_eq_true hsn]
        have hW := lastW_bd p xs ys s n
        have HC := Lib.hid (fun W hW1 hW2 => i_findWrong p a n cap xs a' cap' ys s W hW1 hW2 hpr HPt.out (by omega) (by omega) hsn hf)
        obtain ⟨F, hF⟩ : ∃ F, F = lastW p xs ys s n := ⟨_, rfl⟩
        rw [← hF] at HC hW ⊢
        by_cases hF0 : 0 ≤ F
        · have hF0i : ¬ F < 0 := by omega
          rw [decide_eq_true hF0]
          clear hF
          go_enter Try.func23, Try.ntmps23
          go_wp2_with (first | (go_at_call 32; refine HS.out.mono ?_; rintro e w1 ⟨rfl, hb1⟩) | (go_at_call 78; refine (HC.out _ (HX.out.below hb1) (HY.out.below hb1)).mono ?_; rintro e w2 ⟨rfl, hb2⟩))
          go_ret2
          exact ⟨rfl, bel_trans hb1 hb2⟩
        · have hF0i : F < 0 := by omega
          rw [decide_eq_false hF0]
          clear hF
          go_enter Try.func23, Try.ntmps23
          go_wp2_with (first | (go_at_call 32; refine HS.out.mono ?_; rintro e w1 ⟨rfl, hb1⟩) | (go_at_call 78; refine (HC.out _ (HX.out.below hb1) (HY.out.below hb1)).mono ?_; rintro e w2 ⟨rfl, hb2⟩))
          go_ret2
          exact ⟨rfl, bel_trans hb1 hb2⟩
      · have hsni : (n : Int) < (s : Int) + 2 := by omega
        rw [decide_eq_false hsn]
        go_enter Try.func23, Try.ntmps23
        go_wp2_with (go_at_call 32; refine HS.out.mono ?_; rintro e w1 ⟨rfl, hb1⟩)
        go_ret2
        exact ⟨rfl, hb1⟩
set_option maxHeartbeats 4000000 in
theorem s_FindWrong (p t : Int) (a : Option Addr) (n cap : Nat) (xs : List Int) (a' : Option Addr) (n' cap' : Nat) (ys : List Int) (w : World) (h : Ints w a n cap xs) (h' : Ints w a' n' cap' ys) (hn : n ≤ 1000) :
    Calls Try.prog 24 #[.int .i64 p, .slice a n cap, .slice a' n' cap', .int .i64 t] w fun e w' => e = .returned (.tuple #[.int .i64 (findWrong p xs ys t).1, .bool (findWrong p xs ys t).2]) ∧ Below w.heap.size w w' := by
  have hlx := h.len.out; have hly := h'.len.out
  have HS := Lib.hid (s_thAsked p t a n cap xs a' n' cap' ys w h h' hn)
  have HX := Lib.hid h; have HY := Lib.hid h'
  clear h h'
  cases hA : asked p xs ys t with
  | false =>
    rw [hA] at HS
    rw [findWrong_no hA]
    go_enter Try.func24, Try.ntmps24
    go_wp2_with (go_at_call 75; refine HS.out.mono ?_; rintro e w1 ⟨rfl, hb1⟩)
    go_ret2
    exact ⟨rfl, hb1⟩
  | true =>
    rw [hA] at HS
    obtain ⟨⟨hpr, hPt, h10, _⟩, ht1, ht2⟩ := asked_iff.1 hA
    rw [hlx] at hPt h10 ht2
    obtain rfl : n = n' := by rw [← hly]; exact hPt.ly.symm
    obtain ⟨s, rfl⟩ : ∃ s : Nat, t = s := ⟨t.toNat, by omega⟩
    rw [findWrong_eq hA hlx]
    have HPt := Lib.hid hPt
    have e2 : IntKind.i64.wrap ((s : Int) + 2) = (s : Int) + 2 := IntWalk.i64_in _ (by omega)
    clear hA hPt hlx hly
    by_cases hsn : s + 2 ≤ n
    · have hsni : ¬ (n : Int) < (s : Int) + 2 := by omega
      rw [decide_eq_true hsn]
      have HFC := Lib.hid (fun W hW1 hW2 => s_thFit p a n cap xs a' cap' ys s W hW1 hW2 hpr HPt.out (by omega) (by omega) (by omega))
      cases hf : fitB p xs ys s with
      | true =>
        rw [hf] at HFC
        go_enter Try.func24, Try.ntmps24
        go_wp2_with (first | (go_at_call 75; refine HS.out.mono ?_; rintro e w1 ⟨rfl, hb1⟩) | (go_at_call 76; refine (HFC.out _ (HX.out.below hb1) (HY.out.below hb1)).mono ?_; rintro e w2 ⟨rfl, hb2⟩))
        go_ret2
        exact ⟨rfl, bel_trans hb1 hb2⟩
      | false =>
        rw [hf] at HFC
        have hW := lastW_bd p xs ys s n
        have HC := Lib.hid (fun W hW1 hW2 => s_thWrong p a n cap xs a' cap' ys s W hW1 hW2 hpr HPt.out (by omega) (by omega) hsn)
        obtain ⟨F, hF⟩ : ∃ F, F = lastW p xs ys s n := ⟨_, rfl⟩
        rw [← hF] at HC hW ⊢
        by_cases hF0 : 0 ≤ F
        · have hF0i : ¬ F < 0 := by omega
          rw [decide_eq_true hF0]
          clear hF
          go_enter Try.func24, Try.ntmps24
          go_wp2_with (first | (go_at_call 75; refine HS.out.mono ?_; rintro e w1 ⟨rfl, hb1⟩) | (go_at_call 76; refine (HFC.out _ (HX.out.below hb1) (HY.out.below hb1)).mono ?_; rintro e w2 ⟨rfl, hb2⟩; have HB2 := Lib.hid (bel_trans hb1 hb2); have tok : True := trivial) | (go_at_call 79; first | (have t0 := tok; clear t0 tok; refine (HC.out _ (HX.out.below HB2.out) (HY.out.below HB2.out)).mono ?_; rintro e w3 ⟨rfl, hb3⟩; have HB3 := Lib.hid (bel_trans HB2.out hb3)) | (refine (HC.out _ (HX.out.below HB3.out) (HY.out.below HB3.out)).mono ?_; rintro e w4 ⟨rfl, hb4⟩)))
          go_ret2
          exact ⟨rfl, bel_trans HB3.out hb4⟩
        · have hF0i : F < 0 := by omega
          rw [decide_eq_false hF0]
          clear hF
          go_enter Try.func24, Try.ntmps24
          go_wp2_with (first | (go_at_call 75; refine HS.out.mono ?_; rintro e w1 ⟨rfl, hb1⟩) | (go_at_call 76; refine (HFC.out _ (HX.out.below hb1) (HY.out.below hb1)).mono ?_; rintro e w2 ⟨rfl, hb2⟩; have HB2 := Lib.hid (bel_trans hb1 hb2)) | (go_at_call 79; refine (HC.out _ (HX.out.below HB2.out) (HY.out.below HB2.out)).mono ?_; rintro e w3 ⟨rfl, hb3⟩))
          go_ret2
          exact ⟨rfl, bel_trans HB2.out hb3⟩
    · have hsni : (n : Int) < (s : Int) + 2 := by omega
      rw [decide_eq_false hsn]
      go_enter Try.func24, Try.ntmps24
      go_wp2_with (go_at_call 75; refine HS.out.mono ?_; rintro e w1 ⟨rfl, hb1⟩)
      go_ret2
      exact ⟨rfl, hb1⟩
def joinDespite (p : Int) (xs ys : List Int) (t : Int) : Int × Bool :=
  if asked p xs ys t then
    if fitB p xs ys t.toNat then (atS p (xs.take t.toNat) (ys.take t.toNat) 0 t.toNat t.toNat, true)
    else if (findWrong p xs ys t).2 then (atS p (wo xs (findWrong p xs ys t).1.toNat) (wo ys (findWrong p xs ys t).1.toNat) 0 (xs.length - 1) (xs.length - 1), true)
    else (0, false)
  else (0, false)
theorem findWrong_ok {p : Int} {xs ys : List Int} {t : Int} (h : (findWrong p xs ys t).2 = true) : ∃ j : Nat, (findWrong p xs ys t).1 = j ∧ j < xs.length ∧ asked p xs ys t = true ∧ t + 2 ≤ xs.length ∧ fitB p xs ys t.toNat = false ∧ fitB p (wo xs j) (wo ys j) t.toNat = true := by
  unfold findWrong at h ⊢
  split at h
  · rename_i e
    rw [if_pos e]
    simp only [Bool.and_eq_true, decide_eq_true_iff, Bool.not_eq_true'] at e
    obtain ⟨e1, e2, e3, e4⟩ := e
    obtain ⟨j, j1, j2, j3⟩ := lastW_ok e4
    exact ⟨j, j1, j2, e1, e2, e3, j3⟩
  · cases h
theorem joinThreshold_eq {p : Int} {xs ys : List Int} {n : Nat} (h : hldB p xs ys = true) (hl : xs.length = n) (hn : 1 ≤ n) : joinThreshold p xs ys = (atS p xs ys 0 n n, true) := by
  unfold joinThreshold
  rw [h, hl, show (n == 0) = false from beq_eq_false_iff_ne.2 (by omega)]; rfl
theorem hldB_wo {p : Int} {xs ys : List Int} {j : Nat} (h : hldB p xs ys = true) (hj : j < xs.length) : hldB p (wo xs j) (wo ys j) = true := by
  obtain ⟨h1, h2, h3, h4⟩ := hldB_iff.1 h
  have h5 := h2.wo hj
  have hl := wo_len hj
  refine hldB_iff.2 ⟨h1, by rw [hl]; exact h5, by omega, fun hm => h4 ?_⟩
  rw [wo_erase] at hm
  exact List.mem_of_mem_eraseIdx hm
set_option maxHeartbeats 4000000 in
theorem i_JoinDespite (p t : Int) (a : Option Addr) (n cap : Nat) (xs : List Int) (a' : Option Addr) (n' cap' : Nat) (ys : List Int) (w : World) (h : Ints w a n cap xs) (h' : Ints w a' n' cap' ys) :
    Calls Try.prog 21 #[.int .i64 p, .slice a n cap, .slice a' n' cap', .int .i64 t] w fun e w' => e = .returned (.tuple #[.int .i64 (joinDespite p xs ys t).1, .bool (joinDespite p xs ys t).2]) ∧ Below w.heap.size w w' := by
  have hlx := h.len.out; have hly := h'.len.out
  have HS := Lib.hid (i_AreShares p t a n cap xs a' n' cap' ys w h h')
  have HX := Lib.hid h; have HY := Lib.hid h'
  clear h h'
  unfold areShares at HS
  unfold joinDespite
  cases hA : asked p xs ys t with
  | false =>
    rw [hA] at HS
    go_enter Try.func21, Try.ntmps21
    go_wp2_with (go_at_call 32; refine HS.out.mono ?_; rintro e w1 ⟨rfl, hb1⟩)
    go_ret2
    exact ⟨rfl, hb1⟩
  | true =>
    rw [hA] at HS
    obtain ⟨⟨hpr, hPt, h10, h0⟩, ht1, ht2⟩ := asked_iff.1 hA
    have hH : hldB p xs ys = true := hldB_iff.2 ⟨hpr, hPt, h10, h0⟩
    rw [hlx] at hPt h10 ht2
    obtain rfl : n = n' := by rw [← hly]; exact hPt.ly.symm
    obtain ⟨s, rfl⟩ : ∃ s : Nat, t = s := ⟨t.toNat, by omega⟩
    rw [show ((s : Int)).toNat = s by omega] at HS ⊢
    rw [hlx]
    have HPt := Lib.hid hPt
    cases hf : fitB p xs ys s with
    | true =>
      rw [hf] at HS
      have HJ : Hid (joinThreshold p xs ys = (atS p (xs.take s) (ys.take s) 0 s s, true)) := by
        show _ = _
        rw [joinThreshold_eq hH hlx (by omega)]
        obtain ⟨q, rfl, hq⟩ := prB_nat hpr
        rw [fit_zero hq hPt (by omega) hf]
      clear hA hPt hlx hly hH
      go_enter Try.func21, Try.ntmps21
      go_wp2_with (first | (go_at_call 32; refine HS.out.mono ?_; rintro e w1 ⟨rfl, hb1⟩) | (go_at_call 73; refine (i_JoinThreshold p a n cap xs a' n cap' ys _ (HX.out.below hb1) (HY.out.below hb1)).mono ?_; rintro e w2 ⟨rfl, hb2⟩; rw [HJ.out]))
      go_ret2
      exact ⟨rfl, bel_trans hb1 hb2⟩
    | false =>
      rw [hf] at HS
      have HF := Lib.hid (fun W hW1 hW2 => i_FindWrong p (s : Int) a n cap xs a' n cap' ys W hW1 hW2)
      cases hw : (findWrong p xs ys (s : Int)).2 with
      | false =>
        rw [hw] at HF
        generalize (findWrong p xs ys (s : Int)).1 = F at HF
        clear hA hPt hlx hly hH hw
        go_enter Try.func21, Try.ntmps21
        go_wp2_with (first | (go_at_call 32; refine HS.out.mono ?_; rintro e w1 ⟨rfl, hb1⟩) | (go_at_call 23; refine (HF.out _ (HX.out.below hb1) (HY.out.below hb1)).mono ?_; rintro e w2 ⟨rfl, hb2⟩))
        go_ret2
        exact ⟨rfl, bel_trans hb1 hb2⟩
      | true =>
        rw [hw] at HF
        obtain ⟨j, j1, j2, _, _, _, _⟩ := findWrong_ok hw
        rw [j1] at HF ⊢
        rw [hlx] at j2
        rw [show ((j : Int)).toNat = j by omega]
        have HJ : Hid (joinThreshold p (wo xs j) (wo ys j) = (atS p (wo xs j) (wo ys j) 0 (n - 1) (n - 1), true)) := joinThreshold_eq (hldB_wo hH (by rw [hlx]; exact j2)) (by rw [wo_len (by rw [hlx]; exact j2), hlx]) (by
          have := (findWrong_ok hw).choose_spec.2.2.2.1
          rw [hlx] at this; omega)
        clear hA hPt hlx hly hH hw j1
        have tok : True := trivial
        go_enter Try.func21, Try.ntmps21
        go_wp2_with (first | (go_at_call 32; refine HS.out.mono ?_; rintro e w1 ⟨rfl, hb1⟩) | (go_at_call 23; refine (HF.out _ (HX.out.below hb1) (HY.out.below hb1)).mono ?_; rintro e w2 ⟨rfl, hb2⟩; have HB2 := Lib.hid (bel_trans hb1 hb2)) | (go_at_call 74; first | (have t0 := tok; clear t0 tok; refine (i_left a n cap j xs _ (HX.out.below HB2.out) j2 (by omega)).mono ?_; rintro e w3 ⟨r3, c3, rfl, ho3, hb3⟩; have HB3 := Lib.hid (bel_trans HB2.out hb3)) | (refine (i_left a' n cap' j ys _ (HY.out.below HB3.out) j2 (by omega)).mono ?_; rintro e w4 ⟨r4, c4, rfl, ho4, hb4⟩; have ho3' := ho3.below hb4; have HB4 := Lib.hid (bel_trans HB3.out hb4))) | (go_at_call 73; refine (i_JoinThreshold p r3 (n - 1) c3 (wo xs j) r4 (n - 1) c4 (wo ys j) _ ho3' ho4).mono ?_; rintro e w5 ⟨rfl, hb5⟩; rw [HJ.out]))
        go_ret2
        exact ⟨rfl, bel_trans HB4.out hb5⟩
set_option maxHeartbeats 4000000 in
theorem s_JoinDespite (p t : Int) (a : Option Addr) (n cap : Nat) (xs : List Int) (a' : Option Addr) (n' cap' : Nat) (ys : List Int) (w : World) (h : Ints w a n cap xs) (h' : Ints w a' n' cap' ys) (hn : n ≤ 1000) :
    Calls Try.prog 22 #[.int .i64 p, .slice a n cap, .slice a' n' cap', .int .i64 t] w fun e w' => e = .returned (.tuple #[.int .i64 (joinDespite p xs ys t).1, .bool (joinDespite p xs ys t).2]) ∧ Below w.heap.size w w' := by
  have hlx := h.len.out; have hly := h'.len.out
  have HS := Lib.hid (s_thAsked p t a n cap xs a' n' cap' ys w h h' hn)
  have HX := Lib.hid h; have HY := Lib.hid h'
  have hncx := h.ncap; have hncy := h'.ncap
  unfold joinDespite
  cases hA : asked p xs ys t with
  | false =>
    rw [hA] at HS
    clear h h'
    go_enter Try.func22, Try.ntmps22
    go_wp2_with (go_at_call 75; refine HS.out.mono ?_; rintro e w1 ⟨rfl, hb1⟩)
    go_ret2
    exact ⟨rfl, hb1⟩
  | true =>
    rw [hA] at HS
    obtain ⟨⟨hpr, hPt, h10, h0⟩, ht1, ht2⟩ := asked_iff.1 hA
    obtain ⟨hp1, hp2⟩ := prB_lo hpr
    rw [hlx] at hPt h10 ht2
    obtain rfl : n = n' := by rw [← hly]; exact hPt.ly.symm
    obtain ⟨s, rfl⟩ : ∃ s : Nat, t = s := ⟨t.toNat, by omega⟩
    rw [show ((s : Int)).toNat = s by omega]
    rw [hlx]
    have HPt := Lib.hid hPt
    have HFC := Lib.hid (fun W hW1 hW2 => s_thFit p a n cap xs a' cap' ys s W hW1 hW2 hpr HPt.out (by omega) (by omega) (by omega))
    cases hf : fitB p xs ys s with
    | true =>
      rw [hf] at HFC
      obtain ⟨bx, ox, rfl, _, _⟩ := h.at (i := 0) (by omega)
      obtain ⟨by', oy, rfl, _, _⟩ := h'.at (i := 0) (by omega)
      have HXT := Lib.hid (h.take (k := s) (by omega)); have HYT := Lib.hid (h'.take (k := s) (by omega))
      have hPT := hPt.take (t := s) (by omega)
      have HXB := Lib.hid hPT.xb; have HYB := Lib.hid hPT.yb
      have hti : (s : Int) ≤ (n : Int) := by omega
      have hti0 : (0 : Int) ≤ (s : Int) := by omega
      have htc1 : (s : Int) ≤ (cap : Int) := by omega
      have htc2 : (s : Int) ≤ (cap' : Int) := by omega
      clear hA hPt hlx hly h h' hPT
      go_enter Try.func22, Try.ntmps22
      go_wp2_with (first | (go_at_call 75; refine HS.out.mono ?_; rintro e w1 ⟨rfl, hb1⟩) | (go_at_call 76; refine (HFC.out _ (HX.out.below hb1) (HY.out.below hb1)).mono ?_; rintro e w2 ⟨rfl, hb2⟩; have HB2 := Lib.hid (bel_trans hb1 hb2)))
      go_region_held3 (fun W => True) (trivial) (first | (go_at_call 58; refine (s_fpAt p 0 _ s _ (xs.take s) _ _ (ys.take s) _ (HXT.out.below (bel_trans HB2.out (by (repeat (first | exact Below.refl _ _ | assumption | refine bel_trans ?_ (bel_alloc _ _) | refine bel_set ?_ (by first | (dsimp only; omega) | (simp; omega) | simp) _ | refine bel_trans ?_ (bel_drewN _ _) | refine bel_trans ?_ (bel_drew _) | refine bel_trans ?_ (by assumption)))))) (HYT.out.below (bel_trans HB2.out (by (repeat (first | exact Below.refl _ _ | assumption | refine bel_trans ?_ (bel_alloc _ _) | refine bel_set ?_ (by first | (dsimp only; omega) | (simp; omega) | simp) _ | refine bel_trans ?_ (bel_drewN _ _) | refine bel_trans ?_ (bel_drew _) | refine bel_trans ?_ (by assumption)))))) ⟨hp1, hp2⟩ HXB HYB (by omega) (by omega)).mono ?_; rintro e w3 ⟨rfl, hb⟩))
      have HB3 := Lib.hid (bel_trans HB2.out (show Below w2.heap.size w2 w3 by (repeat (first | exact Below.refl _ _ | assumption | refine bel_trans ?_ (bel_alloc _ _) | refine bel_set ?_ (by first | (dsimp only; omega) | (simp; omega) | simp) _ | refine bel_trans ?_ (bel_drewN _ _) | refine bel_trans ?_ (bel_drew _) | refine bel_trans ?_ (by assumption)))))
      clear hb hb1 hb2
      go_wp2
      go_ret2
      exact ⟨rfl, HB3.out⟩
    | false =>
      rw [hf] at HFC
      have HF := Lib.hid (fun W hW1 hW2 => s_FindWrong p (s : Int) a n cap xs a' n cap' ys W hW1 hW2 (by omega))
      cases hw : (findWrong p xs ys (s : Int)).2 with
      | false =>
        rw [hw] at HF
        generalize (findWrong p xs ys (s : Int)).1 = F at HF
        clear hA hPt hlx hly hw h h'
        go_enter Try.func22, Try.ntmps22
        go_wp2_with (first | (go_at_call 75; refine HS.out.mono ?_; rintro e w1 ⟨rfl, hb1⟩) | (go_at_call 76; refine (HFC.out _ (HX.out.below hb1) (HY.out.below hb1)).mono ?_; rintro e w2 ⟨rfl, hb2⟩; have HB2 := Lib.hid (bel_trans hb1 hb2)) | (go_at_call 24; refine (HF.out _ (HX.out.below HB2.out) (HY.out.below HB2.out)).mono ?_; rintro e w3 ⟨rfl, hb3⟩))
        go_ret2
        exact ⟨rfl, bel_trans HB2.out hb3⟩
      | true =>
        rw [hw] at HF
        obtain ⟨j, j1, j2, _, _, _, _⟩ := findWrong_ok hw
        rw [j1] at HF ⊢
        rw [hlx] at j2
        rw [show ((j : Int)).toNat = j by omega]
        have hPW := hPt.wo j2
        have HXB := Lib.hid hPW.xb; have HYB := Lib.hid hPW.yb
        clear hA hPt hlx hly hw j1 h h' hPW
        have tok : True := trivial
        go_enter Try.func22, Try.ntmps22
        go_wp2_with (first | (go_at_call 75; refine HS.out.mono ?_; rintro e w1 ⟨rfl, hb1⟩) | (go_at_call 76; refine (HFC.out _ (HX.out.below hb1) (HY.out.below hb1)).mono ?_; rintro e w9 ⟨rfl, hb9⟩; have HB9 := Lib.hid (bel_trans hb1 hb9)) | (go_at_call 24; refine (HF.out _ (HX.out.below HB9.out) (HY.out.below HB9.out)).mono ?_; rintro e w2 ⟨rfl, hb2⟩; have HB2 := Lib.hid (bel_trans HB9.out hb2)) | (go_at_call 77; first | (have t0 := tok; clear t0 tok; refine (s_thWithout a n cap j xs _ (HX.out.below HB2.out) j2 (by omega)).mono ?_; rintro e w3 ⟨r3, c3, rfl, ho3, hb3⟩; have HB3 := Lib.hid (bel_trans HB2.out hb3)) | (refine (s_thWithout a' n cap' j ys _ (HY.out.below HB3.out) j2 (by omega)).mono ?_; rintro e w4 ⟨r4, c4, rfl, ho4, hb4⟩; have ho3' := ho3.below hb4; have HB4 := Lib.hid (bel_trans HB3.out hb4))) | (go_at_call 58; refine (s_fpAt p 0 r3 (n - 1) c3 (wo xs j) r4 c4 (wo ys j) _ ho3' ho4 ⟨hp1, hp2⟩ HXB HYB (by omega) (by omega)).mono ?_; rintro e w5 ⟨rfl, hb5⟩))
        go_ret2
        exact ⟨rfl, bel_trans HB4.out hb5⟩
end Go.Proofs.Ytfichpppjpgahaa
