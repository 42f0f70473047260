/-
  RowsMatch, both sides.
-/
import Derived.Test.YtfejpmfcognikaaE3
namespace Go.Proofs.Ytfejpmfcognikaa
open Go.RowKit
set_option linter.unusedVariables false
set_option linter.unusedSimpArgs false

/-- A row that is due, to which a secret is added if a choice is 1. -/
def dueR (row secret : List Int) (c : Int) : List Int := if c = 1 then xrL row secret row.length else row
def rmB (secret choices : List Int) (q t : List (List Int)) : Bool := secB secret && (chosB choices && (rowsB q choices.length secret.length && rowsB t choices.length secret.length))
def rmAll (secret choices : List Int) (q t : List (List Int)) : Bool := (List.range choices.length).all fun j => decide (rowN q j = dueR (rowN t j) secret (nth choices j))
def rowsMatch (secret choices : List Int) (q t : List (List Int)) : Bool × Bool := if rmB secret choices q t then (rmAll secret choices q t, true) else (false, false)
theorem rmB_iff {secret choices : List Int} {q t : List (List Int)} : rmB secret choices q t = true ↔ secB secret = true ∧ chosB choices = true ∧ rowsB q choices.length secret.length = true ∧ rowsB t choices.length secret.length = true := by
  unfold rmB; simp only [Bool.and_eq_true]
theorem rm_t {secret choices : List Int} {q t : List (List Int)} (h : rmB secret choices q t = true) : rowsMatch secret choices q t = (rmAll secret choices q t, true) := by unfold rowsMatch; rw [if_pos h]
theorem rm_f {secret choices : List Int} {q t : List (List Int)} (h : ¬ rmB secret choices q t = true) : rowsMatch secret choices q t = (false, false) := by unfold rowsMatch; rw [if_neg h]
theorem rmAll_no {secret choices : List Int} {q t : List (List Int)} {j : Nat} (hj : j < choices.length) (h : ¬ rowN q j = dueR (rowN t j) secret (nth choices j)) : rmAll secret choices q t = false := by
  cases k : rmAll secret choices q t with
  | false => rfl
  | true =>
    unfold rmAll at k
    rw [List.all_eq_true] at k
    have := k j (List.mem_range.2 hj)
    exact absurd (of_decide_eq_true this) h
theorem rmAll_yes {secret choices : List Int} {q t : List (List Int)} (h : ∀ j, j < choices.length → rowN q j = dueR (rowN t j) secret (nth choices j)) : rmAll secret choices q t = true := by
  unfold rmAll
  rw [List.all_eq_true]
  intro j hj
  exact decide_eq_true (h j (List.mem_range.1 hj))
theorem bits2 {xs ys : List Int} {n : Nat} (hx : bitsB xs = true) (hy : bitsB ys = true) (hn : n ≤ xs.length) (hm : n ≤ ys.length) : Hid (∀ i, i < n → (0 ≤ nth xs i ∧ nth xs i ≤ 1) ∧ (0 ≤ nth ys i ∧ nth ys i ≤ 1)) :=
  fun i hi => ⟨bitsB_nth hx (by omega), bitsB_nth hy (by omega)⟩
set_option maxHeartbeats 4000000 in
theorem i_RowsMatch (a : Option Addr) (n cap : Nat) (xs : List Int) (a1 : Option Addr) (n1 cap1 : Nat) (ys : List Int) (a2 : Option Addr) (n2 cap2 : Nat) (qs : List (List Int)) (a3 : Option Addr) (n3 cap3 : Nat) (ts : List (List Int)) (w : World) (h : Ints w a n cap xs) (h1 : Ints w a1 n1 cap1 ys) (h2 : Rws w a2 n2 cap2 qs) (h3 : Rws w a3 n3 cap3 ts) :
    Calls Try.prog 24 #[.slice a n cap, .slice a1 n1 cap1, .slice a2 n2 cap2, .slice a3 n3 cap3] w fun e w' => e = .returned (.tuple #[.bool (rowsMatch xs ys qs ts).1, .bool (rowsMatch xs ys qs ts).2]) ∧ Below w.heap.size w w' := by
  have hl := h.len; have hl1 := h1.len; have hl2 := h2.len; have hl3 := h3.len
  have hs := h.small; have hs1 := h1.small
  cases g1 : secB xs with
  | false =>
    have HR := Lib.hid (rm_f (secret := xs) (choices := ys) (q := qs) (t := ts) (fun q => by have := rmB_iff.1 q; rw [g1] at this; cases this.1))
    go_enter Try.func24, Try.ntmps24
    go_wp2_with fail
    refine (i_isSecretOf _ _ _ xs _ h).mono ?_; rintro e w1 ⟨rfl, hb1⟩
    go_wp2
    all_goals
      go_ret2
      exact ⟨by rw [HR.out]; try rfl, hb1⟩
  | true =>
    obtain ⟨⟨k1, k2⟩, kb⟩ := secB_iff.1 g1
    rw [hl.out] at k1 k2
    cases g2 : chosB ys with
    | false =>
      have HR := Lib.hid (rm_f (secret := xs) (choices := ys) (q := qs) (t := ts) (fun q => by have := rmB_iff.1 q; rw [g2] at this; cases this.2.1))
      go_enter Try.func24, Try.ntmps24
      go_wp2_with fail
      refine (i_isSecretOf _ _ _ xs _ h).mono ?_; rintro e w1 ⟨rfl, hb1⟩
      go_wp2_with fail
      refine (i_areChosen _ _ _ ys _ (h1.below hb1)).mono ?_; rintro e w2 ⟨rfl, hb2⟩; have B2 := bel_trans hb1 hb2; clear hb2
      go_wp2
      all_goals
        go_ret2
        exact ⟨by rw [HR.out]; try rfl, B2⟩
    | true =>
      obtain ⟨⟨m1, m2⟩, mb⟩ := chosB_iff.1 g2
      rw [hl1.out] at m1 m2
      cases g3 : rowsB qs n1 n with
      | false =>
        have HR := Lib.hid (rm_f (secret := xs) (choices := ys) (q := qs) (t := ts) (fun q => by have := rmB_iff.1 q; rw [hl.out, hl1.out, g3] at this; cases this.2.2.1))
        go_enter Try.func24, Try.ntmps24
        go_wp2_with fail
        refine (i_isSecretOf _ _ _ xs _ h).mono ?_; rintro e w1 ⟨rfl, hb1⟩
        go_wp2_with fail
        refine (i_areChosen _ _ _ ys _ (h1.below hb1)).mono ?_; rintro e w2 ⟨rfl, hb2⟩; have B2 := bel_trans hb1 hb2; clear hb2
        go_wp2_with fail
        refine (i_areRows _ _ _ qs _ _ _ (h2.below B2)).mono ?_; rintro e w3 ⟨rfl, hb3⟩; have B3 := bel_trans B2 hb3; clear hb3
        go_wp2
        all_goals
          go_ret2
          exact ⟨by rw [HR.out]; try rfl, B3⟩
      | true =>
        cases g4 : rowsB ts n1 n with
        | false =>
          have HR := Lib.hid (rm_f (secret := xs) (choices := ys) (q := qs) (t := ts) (fun q => by have := rmB_iff.1 q; rw [hl.out, hl1.out, g4] at this; cases this.2.2.2))
          go_enter Try.func24, Try.ntmps24
          go_wp2_with fail
          refine (i_isSecretOf _ _ _ xs _ h).mono ?_; rintro e w1 ⟨rfl, hb1⟩
          go_wp2_with fail
          refine (i_areChosen _ _ _ ys _ (h1.below hb1)).mono ?_; rintro e w2 ⟨rfl, hb2⟩; have B2 := bel_trans hb1 hb2; clear hb2
          go_wp2_with fail
          refine (i_areRows _ _ _ qs _ _ _ (h2.below B2)).mono ?_; rintro e w3 ⟨rfl, hb3⟩; have B3 := bel_trans B2 hb3; clear hb3
          go_wp2_with fail
          refine (i_areRows _ _ _ ts _ _ _ (h3.below B3)).mono ?_; rintro e w4 ⟨rfl, hb4⟩; have B4 := bel_trans B3 hb4; clear hb4
          go_wp2
          all_goals
            go_ret2
            exact ⟨by rw [HR.out]; try rfl, B4⟩
        | true =>
          have HR := Lib.hid (rm_t (secret := xs) (choices := ys) (q := qs) (t := ts) (rmB_iff.2 ⟨g1, g2, by rw [hl.out, hl1.out]; exact g3, by rw [hl.out, hl1.out]; exact g4⟩))
          obtain ⟨_, _, q1, q2⟩ := rowsB_iff.1 g3
          obtain ⟨_, _, t1, t2⟩ := rowsB_iff.1 g4
          rw [hl2.out] at q1; rw [hl3.out] at t1
          have hq2 : n2 = n1 := by omega
          have ht2 : n3 = n1 := by omega
          subst hq2; subst ht2
          clear q1 t1
          go_enter Try.func24, Try.ntmps24
          go_wp2_with fail
          refine (i_isSecretOf _ _ _ xs _ h).mono ?_; rintro e w1 ⟨rfl, hb1⟩
          go_wp2_with fail
          refine (i_areChosen _ _ _ ys _ (h1.below hb1)).mono ?_; rintro e w2 ⟨rfl, hb2⟩; have B2 := bel_trans hb1 hb2; clear hb2
          go_wp2_with fail
          refine (i_areRows _ _ _ qs _ _ _ (h2.below B2)).mono ?_; rintro e w3 ⟨rfl, hb3⟩; have B3 := bel_trans B2 hb3; clear hb3
          go_wp2_with fail
          refine (i_areRows _ _ _ ts _ _ _ (h3.below B3)).mono ?_; rintro e w4 ⟨rfl, hb4⟩; have B4 := bel_trans B3 hb4; clear hb4
          have HB0 : Hid (Below w.heap.size w w4) := B4
          clear hb1 B2 B3 B4
          have HH := Lib.hid h; have HH1 := Lib.hid h1; have HH2 := Lib.hid h2; have HH3 := Lib.hid h3; clear h h1 h2 h3
          go_wp2
          go_loopw [43] (fun i wr => ∃ j : Nat, j ≤ n3 ∧ i = .int .i64 j ∧ Hid (∀ i, i < j → rowN qs i = dueR (rowN ts i) xs (nth ys i)) ∧ Hid (Below w.heap.size w wr)) (fun i _ => n3 - (intOf i).toNat)
          case atStart => exact ⟨0, by omega, rfl, (fun i hi => by omega), HB0.out⟩
          case round =>
            obtain ⟨j, hj, rfl, HJ, HB⟩ := hrel
            obtain ⟨wo, rfl⟩ : ∃ wo : World, wo = wr := ⟨_, rfl⟩
            clear HB0
            by_cases hlt : j < n3
            · obtain ⟨b, off, rfl, hbl, hc⟩ := (HH1.out.below HB.out).at hlt
              obtain ⟨b2, off2, r2, p2, c2, rfl, hbl2, hc2, hr2⟩ := (HH2.out.below HB.out).at hlt
              obtain ⟨b3, off3, r3, p3, c3, rfl, hbl3, hc3, hr3⟩ := (HH3.out.below HB.out).at hlt
              have hlti : (j : Int) < (n3 : Int) := by omega
              have f2 := listsB_at q2 (i := j) (by rw [hl2.out]; exact hlt)
              have f3 := listsB_at t2 (i := j) (by rw [hl3.out]; exact hlt)
              rw [hr2.len.out] at f2; rw [hr3.len.out] at f3
              have e2 : p2 = n := by omega
              have e3 : p3 = n := by omega
              subst e2; subst e3
              have HL3 := hr3.len
              have R2 := Lib.hid hr2; have R3 := Lib.hid hr3; have F3 := Lib.hid f3.2; clear hr2 hr3 f2 f3
              have hcb := bitsB_nth mb (i := j) (by rw [hl1.out]; exact hlt)
              by_cases h1 : nth ys j = 1
              · skip
                have HD : Hid (dueR (rowN ts j) xs (nth ys j) = xrL (rowN ts j) xs p3) := by show _ = _; unfold dueR; rw [if_pos h1, HL3.out]
                have hc1 := hc; rw [h1] at hc1
                by_cases he : rowN qs j = xrL (rowN ts j) xs p3
                · skip
                  have HE : Hid (decide (rowN qs j = xrL (rowN ts j) xs p3) = true) := decide_eq_true he
                  have HJ2 : Hid (∀ i, i < j + 1 → rowN qs i = dueR (rowN ts i) xs (nth ys i)) := fun i hi => by
                    rcases Nat.lt_or_ge i j with g | g
                    · exact HJ.out i g
                    · obtain rfl : i = j := by omega
                      rw [HD.out]; exact he
                  clear he h1 HD hc
                  go_wp2_with fail
                  refine (i_xored _ _ _ _ _ _ (rowN ts j) xs _ R3.out (HH.out.below HB.out) (Nat.le_refl _) (by omega) (bits2 F3.out kb (by rw [HL3.out]; exact Nat.le_refl _) (by rw [hl.out]; exact Nat.le_refl _))).mono ?_; rintro e w5 ⟨r5, c5, rfl, hm5, hb5⟩
                  have hd := cell_on hc2 hb5
                  go_wp2_with fail
                  refine (g_Equal _ _ _ _ _ _ (rowN qs j) (xrL (rowN ts j) xs p3) _ (R2.out.below hb5) hm5.ints).mono ?_; rintro e w6 ⟨rfl, hb6⟩; rw [HE.out]
                  have HBX := Lib.hid (bel_trans (bel_trans HB.out hb5) hb6); clear hb5 hb6
                  go_wp2
                  go_roundw
                  case rel => exact ⟨j + 1, by omega, by go_num, HJ2.out, HBX.out⟩
                  case measure => simp [intOf]; omega
                · skip
                  have HE : Hid (decide (rowN qs j = xrL (rowN ts j) xs p3) = false) := decide_eq_false he
                  have HN := Lib.hid (rmAll_no (secret := xs) (choices := ys) (q := qs) (t := ts) (j := j) (by rw [hl1.out]; exact hlt) (by rw [HD.out]; exact he))
                  clear he h1 HD hc
                  go_wp2_with fail
                  refine (i_xored _ _ _ _ _ _ (rowN ts j) xs _ R3.out (HH.out.below HB.out) (Nat.le_refl _) (by omega) (bits2 F3.out kb (by rw [HL3.out]; exact Nat.le_refl _) (by rw [hl.out]; exact Nat.le_refl _))).mono ?_; rintro e w5 ⟨r5, c5, rfl, hm5, hb5⟩
                  have hd := cell_on hc2 hb5
                  go_wp2_with fail
                  refine (g_Equal _ _ _ _ _ _ (rowN qs j) (xrL (rowN ts j) xs p3) _ (R2.out.below hb5) hm5.ints).mono ?_; rintro e w6 ⟨rfl, hb6⟩; rw [HE.out]
                  have HBX := Lib.hid (bel_trans (bel_trans HB.out hb5) hb6); clear hb5 hb6
                  go_wp2
                  go_ret2
                  exact ⟨by rw [HR.out, HN.out]; try rfl, HBX.out⟩
              · skip
                have HD : Hid (dueR (rowN ts j) xs (nth ys j) = rowN ts j) := by show _ = _; unfold dueR; rw [if_neg h1]
                have h1b : (nth ys j == 1) = false := by simp [h1]
                by_cases he : rowN qs j = rowN ts j
                · skip
                  have HE : Hid (decide (rowN qs j = rowN ts j) = true) := decide_eq_true he
                  have HJ2 : Hid (∀ i, i < j + 1 → rowN qs i = dueR (rowN ts i) xs (nth ys i)) := fun i hi => by
                    rcases Nat.lt_or_ge i j with g | g
                    · exact HJ.out i g
                    · obtain rfl : i = j := by omega
                      rw [HD.out]; exact he
                  clear he h1 HD
                  go_wp2_with fail
                  refine (g_Equal _ _ _ _ _ _ (rowN qs j) (rowN ts j) _ R2.out R3.out).mono ?_; rintro e w6 ⟨rfl, hb6⟩; rw [HE.out]
                  have HBX := Lib.hid (bel_trans HB.out hb6); clear hb6
                  go_wp2
                  go_roundw
                  case rel => exact ⟨j + 1, by omega, by go_num, HJ2.out, HBX.out⟩
                  case measure => simp [intOf]; omega
                · skip
                  have HE : Hid (decide (rowN qs j = rowN ts j) = false) := decide_eq_false he
                  have HN := Lib.hid (rmAll_no (secret := xs) (choices := ys) (q := qs) (t := ts) (j := j) (by rw [hl1.out]; exact hlt) (by rw [HD.out]; exact he))
                  clear he h1 HD
                  go_wp2_with fail
                  refine (g_Equal _ _ _ _ _ _ (rowN qs j) (rowN ts j) _ R2.out R3.out).mono ?_; rintro e w6 ⟨rfl, hb6⟩; rw [HE.out]
                  have HBX := Lib.hid (bel_trans HB.out hb6); clear hb6
                  go_wp2
                  go_ret2
                  exact ⟨by rw [HR.out, HN.out]; try rfl, HBX.out⟩
            · obtain rfl : j = n3 := by omega
              have HY := Lib.hid (rmAll_yes (secret := xs) (choices := ys) (q := qs) (t := ts) (by rw [hl1.out]; exact HJ.out))
              go_wp2
              go_ret2
              exact ⟨by rw [HR.out, HY.out]; try rfl, HB.out⟩