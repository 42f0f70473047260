/-
  Contracts: points.
-/
import Derived.Test.YtfichpppjpgahaaLf
import Derived.Test.YtfichpppjpgahaaLg
namespace Go.Proofs.Ytfichpppjpgahaa
open Go.RowKit
set_option linter.unusedVariables false
set_option linter.unusedSimpArgs false

theorem nodup_take {xs : List Int} {k : Nat} (hk : k < xs.length) : (xs.take (k + 1)).Nodup ↔ (xs.take k).Nodup ∧ nth xs k ∉ xs.take k := by
  rw [List.take_succ_eq_append_getElem hk, List.nodup_append, nth_get hk]
  constructor
  · rintro ⟨h1, _, h3⟩
    exact ⟨h1, fun hm => h3 _ hm _ (by simp) rfl⟩
  · rintro ⟨h1, h2⟩
    refine ⟨h1, by simp, fun a ha b hb e => ?_⟩
    simp at hb; subst hb; subst e; exact h2 ha
theorem mem_take_succ {xs : List Int} {k : Nat} (hk : k < xs.length) (y : Int) : y ∈ xs.take (k + 1) ↔ y ∈ xs.take k ∨ y = nth xs k := by
  rw [List.take_succ_eq_append_getElem hk, List.mem_append, nth_get hk, List.mem_singleton]
theorem nodup_of_take {xs : List Int} {k : Nat} (h : xs.Nodup) : (xs.take k).Nodup := (List.take_sublist k xs).nodup h
def ptsB (p : Int) (xs ys : List Int) : Bool := elsB p xs && (elsB p ys && (decide (xs.length ≤ 12) && (decide (xs.length = ys.length) && decide xs.Nodup)))
set_option maxHeartbeats 1000000 in
theorem i_areDifferent (a : Option Addr) (n cap : Nat) (xs : List Int) (w : World) (h : Ints w a n cap xs) :
    Calls Try.prog 109 #[.slice a n cap] w fun e w' => e = .returned (.bool (decide xs.Nodup)) ∧ Below w.heap.size w w' := by
  have hs := h.small
  have hcap := h.ncap
  have hcm := h.capm
  have hlen := Lib.hid h.len.out
  go_enter Try.func109, Try.ntmps109
  go_wp2
  go_loopw [7] (fun i wr => ∃ k : Nat, k ≤ n ∧ i = .int .i64 k ∧ Hid ((xs.take k).Nodup) ∧ Hid (Below w.heap.size w wr)) (fun i _ => n - (intOf i).toNat)
  case atStart => exact ⟨0, by omega, rfl, (by rw [List.take_zero]; exact List.nodup_nil), Below.refl _ _⟩
  case round =>
    obtain ⟨k, hk, rfl, H, BW⟩ := hrel
    by_cases hlt : k < n
    · obtain ⟨b, off, rfl, hbl, hc⟩ := (h.below BW.out).at hlt
      have hT := Lib.hid (g_Contains _ _ _ _ (nth xs k) _ ((h.below BW.out).take hk) (h.fit hlt))
      have hnd := nodup_take (xs := xs) (k := k) (by rw [hlen.out]; exact hlt)
      by_cases hin : nth xs k ∈ xs.take k
      · have hr : decide xs.Nodup = false := by
          rw [decide_eq_false_iff_not]; intro hn
          exact (hnd.1 (nodup_of_take hn)).2 hin
        have e1 : decide (nth xs k ∈ xs.take k) = true := decide_eq_true hin
        rw [e1] at hT
        have HR := Lib.hid hr; clear hr hnd e1 hin
        go_wp2_with (go_at_call 102; refine hT.out.mono ?_; rintro e w1 ⟨rfl, hb1⟩)
        go_ret
        exact ⟨by first | (rw [HR.out]; done) | (rw [HR.out]; rfl), BW.out.trans (hb1.mono BW.out.size)⟩
      · have e1 : decide (nth xs k ∈ xs.take k) = false := decide_eq_false hin
        rw [e1] at hT
        have HN := Lib.hid (hnd.2 ⟨H.out, hin⟩); clear hnd e1 hin
        go_wp2_with (go_at_call 102; refine hT.out.mono ?_; rintro e w1 ⟨rfl, hb1⟩)
        go_roundw
        case rel => exact ⟨k + 1, by omega, by go_num, HN.out, BW.out.trans (hb1.mono BW.out.size)⟩
        case measure => simp [intOf]; omega
    · obtain rfl : k = n := by omega
      have hr : decide xs.Nodup = true := by
        rw [decide_eq_true_iff]; have := H.out; rwa [List.take_of_length_le (by rw [hlen.out]; exact Nat.le_refl _)] at this
      have HR := Lib.hid hr; clear hr
      go_wp2
      go_ret
      exact ⟨by first | (rw [HR.out]; done) | (rw [HR.out]; rfl), BW.out⟩
set_option maxHeartbeats 2000000 in
theorem i_arePoints (p : Int) (a a' : Option Addr) (n cap m cap' : Nat) (xs ys : List Int) (w : World) (h : Ints w a n cap xs) (h' : Ints w a' m cap' ys) :
    Calls Try.prog 47 #[.int .i64 p, .slice a n cap, .slice a' m cap'] w fun e w' => e = .returned (.bool (ptsB p xs ys)) ∧ Below w.heap.size w w' := by
  have hlx := h.len.out
  have hly := h'.len.out
  have hs := h.small
  have hs' := h'.small
  unfold ptsB
  rw [hlx, hly]
  have HX := Lib.hid (i_areElements p a n cap xs w h)
  cases hX : elsB p xs with
  | false =>
    rw [hX] at HX
    go_enter Try.func47, Try.ntmps47
    go_wp2_with (go_at_call 54; refine HX.out.mono ?_; rintro e w1 ⟨rfl, hb1⟩)
    go_ret
    exact ⟨rfl, hb1⟩
  | true =>
    rw [hX] at HX
    have HY := fun (W : World) (hb : Below w.heap.size w W) => Lib.hid (i_areElements p a' m cap' ys W (h'.below hb))
    cases hY : elsB p ys with
    | false =>
      rw [hY] at HY
      go_enter Try.func47, Try.ntmps47
      have tok : True := trivial
      go_wp2_with (go_at_call 54; first | (have t := tok; clear t tok; refine HX.out.mono ?_; rintro e w1 ⟨rfl, hb1⟩) | (refine (HY _ hb1).out.mono ?_; rintro e w2 ⟨rfl, hb2⟩))
      go_ret
      exact ⟨rfl, bel_trans hb1 hb2⟩
    | true =>
      rw [hY] at HY
      have HD := fun (W : World) (hb : Below w.heap.size w W) => Lib.hid (i_areDifferent a n cap xs W (h.below hb))
      by_cases h12 : n ≤ 12
      · by_cases hnm : n = m
        · subst hnm
          go_enter Try.func47, Try.ntmps47
          have tok : True := trivial
          go_wp2_with (first | (go_at_call 54; first | (have t := tok; clear t tok; refine HX.out.mono ?_; rintro e w1 ⟨rfl, hb1⟩) | (refine (HY _ hb1).out.mono ?_; rintro e w2 ⟨rfl, hb2⟩; have hb2' := bel_trans hb1 hb2)) | (go_at_call 109; refine (HD _ hb2').out.mono ?_; rintro e w3 ⟨rfl, hb3⟩))
          go_ret
          exact ⟨by first | rfl | (simp [h12]), bel_trans hb2' hb3⟩
        · have hnmi : ((n : Int) == (m : Int)) = false := by rw [beq_eq_false_iff_ne]; omega
          go_enter Try.func47, Try.ntmps47
          have tok : True := trivial
          go_wp2_with (go_at_call 54; first | (have t := tok; clear t tok; refine HX.out.mono ?_; rintro e w1 ⟨rfl, hb1⟩) | (refine (HY _ hb1).out.mono ?_; rintro e w2 ⟨rfl, hb2⟩))
          go_ret
          exact ⟨by first | rfl | (simp [hnm]), bel_trans hb1 hb2⟩
      · go_enter Try.func47, Try.ntmps47
        have tok : True := trivial
        go_wp2_with (go_at_call 54; first | (have t := tok; clear t tok; refine HX.out.mono ?_; rintro e w1 ⟨rfl, hb1⟩) | (refine (HY _ hb1).out.mono ?_; rintro e w2 ⟨rfl, hb2⟩))
        go_ret
        exact ⟨by first | rfl | (simp [h12]), bel_trans hb1 hb2⟩
set_option maxHeartbeats 2000000 in
theorem s_fpPoints (p : Int) (a a' : Option Addr) (n cap m cap' : Nat) (xs ys : List Int) (w : World) (h : Ints w a n cap xs) (h' : Ints w a' m cap' ys) (hn : n ≤ 1000) :
    Calls Try.prog 49 #[.int .i64 p, .slice a n cap, .slice a' m cap'] w fun e w' => e = .returned (.bool (ptsB p xs ys)) ∧ Below w.heap.size w w' := by
  have hlx := Lib.hid h.len.out
  have hly := Lib.hid h'.len.out
  have hs := h.small
  have hs' := h'.small
  go_enter Try.func49, Try.ntmps49
  go_wp2
  go_loopw [7, 12] (fun v i wr => ∃ (k n' c' : Nat) (r : Option Addr) (l' : List Int), k ≤ n ∧ i = .int .i64 k ∧ v = .slice r n' c' ∧ n' ≤ k ∧ Hid (Ints wr r n' c' l') ∧ Hid (l'.Pairwise (· < ·)) ∧ Hid (∀ y, y ∈ l' ↔ y ∈ xs.take k) ∧ Hid (∀ ad, r = some ad → ∃ b off, ad = ⟨b, off, none⟩) ∧ Hid (n' = k ↔ (xs.take k).Nodup) ∧ Hid (Below w.heap.size w wr)) (fun _ i _ => n - (intOf i).toNat)
  case atStart => exact ⟨0, 0, 0, none, [], by omega, rfl, rfl, by omega, (OwnI.nil (E := 0) (B := 0)).ints, List.Pairwise.nil, (fun y => by simp), (fun ad e => by cases e), ⟨fun _ => by simp, fun _ => rfl⟩, Below.refl _ _⟩
  case round =>
    obtain ⟨k, n', c', r, l', hk, rfl, rfl, hn', HI, HS, HM, HP, HN, BW⟩ := hrel
    by_cases hlt : k < n
    · obtain ⟨b, off, rfl, hbl, hc⟩ := (h.below BW.out).at hlt
      have HC := Lib.hid (s_l1Put r n' c' l' (nth xs k) wr HI.out HS.out (by omega) (h.fit hlt) HP.out)
      go_wp2_with (go_at_call 111; refine HC.out.mono ?_; rintro e w1 ⟨r1, n1, c1, l1, rfl, hI1, hb1, hs1, hm1, hp1, hn1⟩; have Hn1 := Lib.hid hn1; clear hn1)
      have hz : xs.length = n := hlx.out
      have hlen' : l'.length = n' := HI.out.len.out
      have hn1 := Hn1.out; clear Hn1
      rw [hlen'] at hn1
      have HM1 : Hid (∀ y, y ∈ l1 ↔ y ∈ xs.take (k + 1)) := fun y => by rw [hm1 y, mem_take_succ (by omega) y, HM.out y]
      have HN1 : Hid (n1 = k + 1 ↔ (xs.take (k + 1)).Nodup) := by
        show _ ↔ _
        rw [nodup_take (by omega), ← HN.out, ← HM.out]
        by_cases hin : nth xs k ∈ l'
        · rw [if_pos hin] at hn1
          exact ⟨fun e => by omega, fun e => absurd hin e.2⟩
        · rw [if_neg hin] at hn1
          exact ⟨fun e => ⟨by omega, hin⟩, fun e => by omega⟩
      have hn1' : n1 ≤ k + 1 := by rw [hn1]; split <;> omega
      have HI1 := Lib.hid hI1; have HS1 := Lib.hid hs1; have HP1 := Lib.hid hp1; have HB1 := Lib.hid (BW.out.trans (hb1.mono BW.out.size))
      clear hn1 hm1 hI1 hs1 hp1 hb1 HN HM HP HS HI HC
      go_roundw
      case rel => exact ⟨k + 1, n1, c1, r1, l1, by omega, by go_num, rfl, by omega, HI1.out, HS1.out, HM1.out, HP1.out, HN1.out, HB1.out⟩
      case measure => simp [intOf]; omega
    · obtain rfl : k = n := by omega
      have hz : xs.length = k := hlx.out
      have hr : ptsB p xs ys = (prB p && (allIn xs 0 (p - 1) && (allIn ys 0 (p - 1) && (decide (k = m) && (decide (n' = k) && decide (k ≤ 12)))))) := by
        have e1 : decide xs.Nodup = decide (n' = k) := by
          have := HN.out
          rw [List.take_of_length_le (by omega)] at this
          exact decide_eq_decide.2 this.symm
        unfold ptsB elsB
        rw [hlx.out, hly.out, e1]
        cases prB p <;> cases allIn xs 0 (p - 1) <;> cases allIn ys 0 (p - 1) <;> cases decide (k ≤ 12) <;> cases decide (k = m) <;> cases decide (n' = k) <;> rfl
      have HR := Lib.hid hr; clear hr HN HM HP HS HI
      have hx2 := Lib.hid (h.below BW.out); have hy2 := Lib.hid (h'.below BW.out)
      have HL1 := Lib.hid (s_l1All a k cap xs 0 (p - 1) wr hx2.out)
      have HL2 := Lib.hid (s_l1All a' m cap' ys 0 (p - 1) wr hy2.out)
      clear hx2 hy2
      cases hP : prB p with
      | false =>
        rw [hP] at HR
        go_wp2_with (go_at_call 112; refine (s_fpGood _ _).mono ?_; rintro e w1 ⟨rfl, rfl⟩; rw [hP])
        go_ret
        exact ⟨by rw [HR.out]; rfl, BW.out⟩
      | true =>
        have hp := prB_lo hP
        rw [hP] at HR
        cases hX : allIn xs 0 (p - 1) with
        | false =>
          rw [hX] at HR HL1
          go_wp2_with (first | (go_at_call 112; refine (s_fpGood _ _).mono ?_; rintro e w1 ⟨rfl, rfl⟩; rw [hP]) | (go_at_call 70; refine HL1.out.mono ?_; rintro e w1 ⟨rfl, rfl⟩))
          go_ret
          exact ⟨by rw [HR.out]; rfl, BW.out⟩
        | true =>
          rw [hX] at HR HL1
          have tok : True := trivial
          cases hY : allIn ys 0 (p - 1) with
          | false =>
            rw [hY] at HR HL2
            go_wp2_with (first | (go_at_call 112; refine (s_fpGood _ _).mono ?_; rintro e w1 ⟨rfl, rfl⟩; rw [hP]) | (go_at_call 70; first | (have t := tok; clear t tok; refine HL1.out.mono ?_; rintro e w1 ⟨rfl, rfl⟩) | (refine HL2.out.mono ?_; rintro e w1 ⟨rfl, rfl⟩)))
            go_ret
            exact ⟨by rw [HR.out]; rfl, BW.out⟩
          | true =>
            rw [hY] at HR HL2
            by_cases hkm : k = m
            · subst hkm
              by_cases hnk : n' = k
              · subst hnk
                by_cases h12 : n' ≤ 12
                · go_wp2_with (first | (go_at_call 112; refine (s_fpGood _ _).mono ?_; rintro e w1 ⟨rfl, rfl⟩; rw [hP]) | (go_at_call 70; first | (have t := tok; clear t tok; refine HL1.out.mono ?_; rintro e w1 ⟨rfl, rfl⟩) | (refine HL2.out.mono ?_; rintro e w1 ⟨rfl, rfl⟩)))
                  go_ret
                  exact ⟨(by rw [HR.out]; simp [h12] <;> first | rfl | omega), BW.out⟩
                · go_wp2_with (first | (go_at_call 112; refine (s_fpGood _ _).mono ?_; rintro e w1 ⟨rfl, rfl⟩; rw [hP]) | (go_at_call 70; first | (have t := tok; clear t tok; refine HL1.out.mono ?_; rintro e w1 ⟨rfl, rfl⟩) | (refine HL2.out.mono ?_; rintro e w1 ⟨rfl, rfl⟩)))
                  go_ret
                  exact ⟨(by rw [HR.out]; simp [h12] <;> first | rfl | omega), BW.out⟩
              · have hnki : ((n' : Int) == (k : Int)) = false := by rw [beq_eq_false_iff_ne]; omega
                go_wp2_with (first | (go_at_call 112; refine (s_fpGood _ _).mono ?_; rintro e w1 ⟨rfl, rfl⟩; rw [hP]) | (go_at_call 70; first | (have t := tok; clear t tok; refine HL1.out.mono ?_; rintro e w1 ⟨rfl, rfl⟩) | (refine HL2.out.mono ?_; rintro e w1 ⟨rfl, rfl⟩)))
                go_ret
                exact ⟨by rw [HR.out]; simp [hnk] <;> rfl, BW.out⟩
            · have hkmi : ((k : Int) == (m : Int)) = false := by rw [beq_eq_false_iff_ne]; omega
              go_wp2_with (first | (go_at_call 112; refine (s_fpGood _ _).mono ?_; rintro e w1 ⟨rfl, rfl⟩; rw [hP]) | (go_at_call 70; first | (have t := tok; clear t tok; refine HL1.out.mono ?_; rintro e w1 ⟨rfl, rfl⟩) | (refine HL2.out.mono ?_; rintro e w1 ⟨rfl, rfl⟩)))
              go_ret
              exact ⟨by rw [HR.out]; simp [hkm] <;> rfl, BW.out⟩
end Go.Proofs.Ytfichpppjpgahaa
