/-
  Checks: passes, CheckPasses, both sides.
-/
import Derived.Test.YtfejpmfcognikaaGreatE7
namespace Go.Proofs.YtfejpmfcognikaaGreat
open Go.RowKit
set_option linter.unusedVariables false
set_option linter.unusedSimpArgs false

set_option maxHeartbeats 4000000 in
theorem i_passes (a : Option Addr) (n cap : Nat) (xs : List Int) (a1 : Option Addr) (n1 cap1 : Nat) (ws : List (List Int)) (a2 : Option Addr) (n2 cap2 : Nat) (cs : List Int) (a3 : Option Addr) (n3 cap3 : Nat) (ts : List (List Int)) (a4 : Option Addr) (n4 cap4 : Nat) (qs : List (List Int)) (w : World) (h : Ints w a n cap xs) (h1 : Rws w a1 n1 cap1 ws) (h2 : Ints w a2 n2 cap2 cs) (h3 : Rws w a3 n3 cap3 ts) (h4 : Rws w a4 n4 cap4 qs) (hk : 1 ≤ n ∧ n ≤ 8) (hm : n2 ≤ 24) (h3n : n3 = n2) (h4n : n4 = n2) (hxb : bitsB xs = true) (hcb : bitsB cs = true) (hW : Hid (∀ j, j < n1 → (rowN ws j).length = n2 ∧ bitsB (rowN ws j) = true)) (hT : Hid (∀ j, j < n2 → (rowN ts j).length = n ∧ bitsB (rowN ts j) = true)) (hQ : Hid (∀ j, j < n2 → (rowN qs j).length = n ∧ bitsB (rowN qs j) = true)) :
    Calls Tryz.prog 44 #[.slice a n cap, .slice a1 n1 cap1, .slice a2 n2 cap2, .slice a3 n3 cap3, .slice a4 n4 cap4] w fun e w' => e = .returned (.bool (passA xs ws cs ts qs)) ∧ Below w.heap.size w w' := by
  subst h3n; subst h4n
  obtain ⟨hk1, hk2⟩ := hk
  have hl := h.len; have hl1 := h1.len; have hl2 := h2.len
  have hs1 := h1.small
  have HH := Lib.hid h; have HH1 := Lib.hid h1; have HH2 := Lib.hid h2; have HH3 := Lib.hid h3; have HH4 := Lib.hid h4; have HXB := Lib.hid hxb; have HCB := Lib.hid hcb; clear h h1 h2 h3 h4 hxb hcb
  go_enter Tryz.func44, Tryz.ntmps44
  go_wp2
  go_loopw [19] (fun i wr => ∃ t : Nat, t ≤ n1 ∧ i = .int .i64 t ∧ Hid (∀ j, j < t → passR xs (rowN ws j) cs ts qs = true) ∧ Hid (Below w.heap.size w wr)) (fun i _ => n1 - (intOf i).toNat)
  case atStart => exact ⟨0, by omega, rfl, (fun j hj => by omega), Below.refl _ _⟩
  case round =>
    obtain ⟨t, ht, rfl, HJ, HB⟩ := hrel
    obtain ⟨wo, rfl⟩ : ∃ wo : World, wo = wr := ⟨_, rfl⟩
    by_cases hlt : t < n1
    · obtain ⟨b, off, r, q, c, rfl, hbl, hc, hri⟩ := (HH1.out.below HB.out).at hlt
      have f := hW.out t hlt
      have eq : q = n4 := by rw [← hri.len.out]; exact f.1
      subst eq
      have HLW := hri.len
      have R := Lib.hid hri; have HF := Lib.hid f.2; clear hri f
      have HD0 : Hid (passR xs (rowN ws t) cs ts qs = decide (dueR (sumR (rowN ws t) ts n q) xs (parC cs (rowN ws t) q) = sumR (rowN ws t) qs n q)) := by show _ = _; unfold passR; rw [hl.out, hl2.out]
      go_wp2_with fail
      refine (i_checkRow _ _ _ (rowN ws t) _ _ _ ts n _ R.out (HH3.out.below HB.out) (Nat.le_refl _) (by omega) (by omega) hT.out).mono ?_; rintro e w5 ⟨r5, c5, rfl, hm5, hb5⟩
      have HM5 := Lib.hid hm5; have HB5 := Lib.hid hb5; clear hm5 hb5
      have HB6 := Lib.hid (bel_trans HB.out HB5.out)
      go_wp2
      go_loop [14, 30] (fun s i => ∃ k : Nat, k ≤ q ∧ i = .int .i64 k ∧ s = .int .i64 (parC cs (rowN ws t) k)) (fun _ i => q - (intOf i).toNat)
      case atStart => exact ⟨0, by omega, rfl, rfl⟩
      case round =>
        obtain ⟨k, hk, rfl, rfl⟩ := hrel
        by_cases hlk : k < q
        · obtain ⟨b7, off7, rfl, hbl7, hc7⟩ := (HH2.out.below HB6.out).at hlk
          obtain ⟨b8, off8, rfl, hbl8, hc8⟩ := (R.out.below HB5.out).at hlk
          have hlti : (k : Int) < (q : Int) := by omega
          have bx := bitsB_nth HCB.out (i := k) (by rw [hl2.out]; exact hlk)
          have by' := bitsB_nth HF.out (i := k) (by rw [HLW.out]; exact hlk)
          have e1 := and_eq bx by'
          have e2 := xr_eq (parC_bd cs (rowN ws t) k) (mul01 bx by')
          have HD : Hid (parC cs (rowN ws t) (k + 1) = xr (parC cs (rowN ws t) k) (nth cs k * nth (rowN ws t) k)) := rfl
          clear bx by'
          go_wp2
          go_round
          case rel => exact ⟨k + 1, by omega, by go_num, by rw [HD.out]; try first | rfl | rw [e2]⟩
          case measure => simp [intOf]; omega
        · obtain rfl : k = q := by omega
          obtain ⟨wi, rfl⟩ : ∃ wi : World, wi = w5 := ⟨_, rfl⟩
          by_cases hp : parC cs (rowN ws t) k = 1
          · skip
            have HD : Hid (passR xs (rowN ws t) cs ts qs = decide (xrL (sumR (rowN ws t) ts n k) xs n = sumR (rowN ws t) qs n k)) := by show _ = _; rw [HD0.out]; unfold dueR; rw [if_pos hp, sumR_len]
            have hpb : (parC cs (rowN ws t) k == 1) = true := by simp [hp]
            clear hp HD0
            cases hpr : passR xs (rowN ws t) cs ts qs with
            | false =>
              rw [hpr] at HD
              have HN := Lib.hid (passA_no (secret := xs) (wss := ws) (cs := cs) (t := ts) (q := qs) (i := t) (by rw [hl1.out]; exact hlt) hpr)
              clear hpr
              go_wp2_with fail
              refine (i_xored _ _ _ _ _ _ (sumR (rowN ws t) ts n k) xs _ HM5.out.ints (HH.out.below HB6.out) (Nat.le_refl _) (by omega) (bits2 (sumR_bits _ _ _ _) HXB.out (by rw [sumR_len]; exact Nat.le_refl _) (by rw [hl.out]; exact Nat.le_refl _))).mono ?_; rintro e w7 ⟨r7, c7, rfl, hm7, hb7⟩
              have HM7 := Lib.hid hm7; have HB7 := Lib.hid (bel_trans HB6.out hb7); have HR7 := Lib.hid (R.out.below (bel_trans HB5.out hb7)); clear hm7 hb7
              go_wp2_with fail
              refine (i_checkRow _ _ _ (rowN ws t) _ _ _ qs n _ HR7.out (HH4.out.below HB7.out) (Nat.le_refl _) (by omega) (by omega) hQ.out).mono ?_; rintro e w8 ⟨r8, c8, rfl, hm8, hb8⟩
              go_wp2_with fail
              refine (g_Equal _ _ _ _ _ _ (xrL (sumR (rowN ws t) ts n k) xs n) (sumR (rowN ws t) qs n k) _ (HM7.out.ints.below hb8) hm8.ints).mono ?_; rintro e w9 ⟨rfl, hb9⟩; rw [← HD.out]
              have HBX := Lib.hid (bel_trans (bel_trans HB7.out hb8) hb9); clear hm8 hb8 hb9
              go_wp2
              go_ret
              exact ⟨by rw [HN.out]; try rfl, HBX.out⟩
            | true =>
              rw [hpr] at HD
              have HJ2 : Hid (∀ j, j < t + 1 → passR xs (rowN ws j) cs ts qs = true) := fun j hj => by
                rcases Nat.lt_or_ge j t with g | g
                · exact HJ.out j g
                · obtain rfl : j = t := by omega
                  exact hpr
              clear hpr
              go_wp2_with fail
              refine (i_xored _ _ _ _ _ _ (sumR (rowN ws t) ts n k) xs _ HM5.out.ints (HH.out.below HB6.out) (Nat.le_refl _) (by omega) (bits2 (sumR_bits _ _ _ _) HXB.out (by rw [sumR_len]; exact Nat.le_refl _) (by rw [hl.out]; exact Nat.le_refl _))).mono ?_; rintro e w7 ⟨r7, c7, rfl, hm7, hb7⟩
              have HM7 := Lib.hid hm7; have HB7 := Lib.hid (bel_trans HB6.out hb7); have HR7 := Lib.hid (R.out.below (bel_trans HB5.out hb7)); clear hm7 hb7
              go_wp2_with fail
              refine (i_checkRow _ _ _ (rowN ws t) _ _ _ qs n _ HR7.out (HH4.out.below HB7.out) (Nat.le_refl _) (by omega) (by omega) hQ.out).mono ?_; rintro e w8 ⟨r8, c8, rfl, hm8, hb8⟩
              go_wp2_with fail
              refine (g_Equal _ _ _ _ _ _ (xrL (sumR (rowN ws t) ts n k) xs n) (sumR (rowN ws t) qs n k) _ (HM7.out.ints.below hb8) hm8.ints).mono ?_; rintro e w9 ⟨rfl, hb9⟩; rw [← HD.out]
              have HBX := Lib.hid (bel_trans (bel_trans HB7.out hb8) hb9); clear hm8 hb8 hb9
              go_wp2
              go_roundw
              case rel => exact ⟨t + 1, by omega, by go_num, HJ2.out, HBX.out⟩
              case measure => simp [intOf]; omega
          · skip
            have HD : Hid (passR xs (rowN ws t) cs ts qs = decide (sumR (rowN ws t) ts n k = sumR (rowN ws t) qs n k)) := by show _ = _; rw [HD0.out]; unfold dueR; rw [if_neg hp]
            have hpb : (parC cs (rowN ws t) k == 1) = false := by simp [hp]
            clear hp HD0
            cases hpr : passR xs (rowN ws t) cs ts qs with
            | false =>
              rw [hpr] at HD
              have HN := Lib.hid (passA_no (secret := xs) (wss := ws) (cs := cs) (t := ts) (q := qs) (i := t) (by rw [hl1.out]; exact hlt) hpr)
              clear hpr
              have HM7 := HM5; have HB7 := HB6; have HR7 := Lib.hid (R.out.below HB5.out)
              go_wp2_with fail
              refine (i_checkRow _ _ _ (rowN ws t) _ _ _ qs n _ HR7.out (HH4.out.below HB7.out) (Nat.le_refl _) (by omega) (by omega) hQ.out).mono ?_; rintro e w8 ⟨r8, c8, rfl, hm8, hb8⟩
              go_wp2_with fail
              refine (g_Equal _ _ _ _ _ _ (sumR (rowN ws t) ts n k) (sumR (rowN ws t) qs n k) _ (HM7.out.ints.below hb8) hm8.ints).mono ?_; rintro e w9 ⟨rfl, hb9⟩; rw [← HD.out]
              have HBX := Lib.hid (bel_trans (bel_trans HB7.out hb8) hb9); clear hm8 hb8 hb9
              go_wp2
              go_ret
              exact ⟨by rw [HN.out]; try rfl, HBX.out⟩
            | true =>
              rw [hpr] at HD
              have HJ2 : Hid (∀ j, j < t + 1 → passR xs (rowN ws j) cs ts qs = true) := fun j hj => by
                rcases Nat.lt_or_ge j t with g | g
                · exact HJ.out j g
                · obtain rfl : j = t := by omega
                  exact hpr
              clear hpr
              have HM7 := HM5; have HB7 := HB6; have HR7 := Lib.hid (R.out.below HB5.out)
              go_wp2_with fail
              refine (i_checkRow _ _ _ (rowN ws t) _ _ _ qs n _ HR7.out (HH4.out.below HB7.out) (Nat.le_refl _) (by omega) (by omega) hQ.out).mono ?_; rintro e w8 ⟨r8, c8, rfl, hm8, hb8⟩
              go_wp2_with fail
              refine (g_Equal _ _ _ _ _ _ (sumR (rowN ws t) ts n k) (sumR (rowN ws t) qs n k) _ (HM7.out.ints.below hb8) hm8.ints).mono ?_; rintro e w9 ⟨rfl, hb9⟩; rw [← HD.out]
              have HBX := Lib.hid (bel_trans (bel_trans HB7.out hb8) hb9); clear hm8 hb8 hb9
              go_wp2
              go_roundw
              case rel => exact ⟨t + 1, by omega, by go_num, HJ2.out, HBX.out⟩
              case measure => simp [intOf]; omega
    · obtain rfl : t = n1 := by omega
      have HY := Lib.hid (passA_yes (secret := xs) (wss := ws) (cs := cs) (t := ts) (q := qs) (by rw [hl1.out]; exact HJ.out))
      go_wp2
      go_ret
      exact ⟨by rw [HY.out]; try rfl, HB.out⟩
set_option maxHeartbeats 4000000 in
theorem s_oxPasses (a : Option Addr) (n cap : Nat) (xs : List Int) (a1 : Option Addr) (n1 cap1 : Nat) (ws : List (List Int)) (a2 : Option Addr) (n2 cap2 : Nat) (cs : List Int) (a3 : Option Addr) (n3 cap3 : Nat) (ts : List (List Int)) (a4 : Option Addr) (n4 cap4 : Nat) (qs : List (List Int)) (w : World) (h : Ints w a n cap xs) (h1 : Rws w a1 n1 cap1 ws) (h2 : Ints w a2 n2 cap2 cs) (h3 : Rws w a3 n3 cap3 ts) (h4 : Rws w a4 n4 cap4 qs) (hk : 1 ≤ n ∧ n ≤ 8) (hm : n2 ≤ 24) (h3n : n3 = n2) (h4n : n4 = n2) (hxb : bitsB xs = true) (hcb : bitsB cs = true) (hW : Hid (∀ j, j < n1 → (rowN ws j).length = n2 ∧ bitsB (rowN ws j) = true)) (hT : Hid (∀ j, j < n2 → (rowN ts j).length = n ∧ bitsB (rowN ts j) = true)) (hQ : Hid (∀ j, j < n2 → (rowN qs j).length = n ∧ bitsB (rowN qs j) = true)) :
    Calls Tryz.prog 55 #[.slice a n cap, .slice a1 n1 cap1, .slice a2 n2 cap2, .slice a3 n3 cap3, .slice a4 n4 cap4] w fun e w' => e = .returned (.bool (passA xs ws cs ts qs)) ∧ Below w.heap.size w w' := by
  subst h3n; subst h4n
  obtain ⟨hk1, hk2⟩ := hk
  have hl := h.len; have hl1 := h1.len; have hl2 := h2.len
  have hs1 := h1.small
  have HH := Lib.hid h; have HH1 := Lib.hid h1; have HH2 := Lib.hid h2; have HH3 := Lib.hid h3; have HH4 := Lib.hid h4; have HXB := Lib.hid hxb; have HCB := Lib.hid hcb; clear h h1 h2 h3 h4 hxb hcb
  go_enter Tryz.func55, Tryz.ntmps55
  go_wp2
  go_loopw [16] (fun i wr => ∃ t : Nat, t ≤ n1 ∧ i = .int .i64 t ∧ Hid (∀ j, j < t → passR xs (rowN ws j) cs ts qs = true) ∧ Hid (Below w.heap.size w wr)) (fun i _ => n1 - (intOf i).toNat)
  case atStart => exact ⟨0, by omega, rfl, (fun j hj => by omega), Below.refl _ _⟩
  case round =>
    obtain ⟨t, ht, rfl, HJ, HB⟩ := hrel
    obtain ⟨wo, rfl⟩ : ∃ wo : World, wo = wr := ⟨_, rfl⟩
    by_cases hlt : t < n1
    · obtain ⟨b, off, r, q, c, rfl, hbl, hc, hri⟩ := (HH1.out.below HB.out).at hlt
      have f := hW.out t hlt
      have eq : q = n4 := by rw [← hri.len.out]; exact f.1
      subst eq
      have HLW := hri.len
      have R := Lib.hid hri; have HF := Lib.hid f.2; clear hri f
      have HD0 : Hid (passR xs (rowN ws t) cs ts qs = decide (dueR (sumR (rowN ws t) ts n q) xs (parC cs (rowN ws t) q) = sumR (rowN ws t) qs n q)) := by show _ = _; unfold passR; rw [hl.out, hl2.out]
      cases hpr : passR xs (rowN ws t) cs ts qs with
      | false =>
        rw [hpr] at HD0
        have HN := Lib.hid (passA_no (secret := xs) (wss := ws) (cs := cs) (t := ts) (q := qs) (i := t) (by rw [hl1.out]; exact hlt) hpr)
        have HD1 : Hid (decide (sumR (rowN ws t) qs n q = dueR (sumR (rowN ws t) ts n q) xs (parC cs (rowN ws t) q)) = false) := by show _ = _; rw [HD0.out, decide_eq_decide]; exact ⟨Eq.symm, Eq.symm⟩
        clear hpr
        go_wp2_with fail
        refine (s_oxSum _ _ _ (rowN ws t) _ _ _ ts n _ R.out (HH3.out.below HB.out) (Nat.le_refl _) (by omega) (by omega) hT.out).mono ?_; rintro e w5 ⟨r5, c5, rfl, hm5, hb5⟩
        have B5 := bel_trans HB.out hb5
        go_wp2_with fail
        refine (s_btParity _ _ _ _ _ _ cs (rowN ws t) _ (HH2.out.below B5) (R.out.below hb5) (Nat.le_refl _) HCB.out HF.out).mono ?_; rintro e w6 ⟨rfl, rfl⟩
        go_wp2_with fail
        refine (s_oxAdd _ _ _ _ _ _ (sumR (rowN ws t) ts n q) xs _ 0 _ hm5.ints (HH.out.below B5) (Nat.le_refl _) (by omega) (sumR_bits _ _ _ _) HXB.out).mono ?_; rintro e w7 ⟨r7, c7, rfl, hm7, hb7⟩
        have B7 := bel_trans B5 hb7
        go_wp2_with fail
        refine (s_oxSum _ _ _ (rowN ws t) _ _ _ qs n _ (R.out.below (bel_trans hb5 hb7)) (HH4.out.below B7) (Nat.le_refl _) (by omega) (by omega) hQ.out).mono ?_; rintro e w8 ⟨r8, c8, rfl, hm8, hb8⟩
        go_wp2_with fail
        refine (s_l1Same _ _ _ _ _ _ (sumR (rowN ws t) qs n q) (dueR (sumR (rowN ws t) ts n q) xs (parC cs (rowN ws t) q)) _ hm8.ints (hm7.below hb8)).mono ?_; rintro e w9 ⟨rfl, hb9⟩; rw [HD1.out]
        have HBX := Lib.hid (bel_trans (bel_trans B7 hb8) hb9); clear hm5 hb5 B5 hm7 hb7 B7 hm8 hb8 hb9
        go_wp2
        go_ret
        exact ⟨by rw [HN.out]; try rfl, HBX.out⟩
      | true =>
        rw [hpr] at HD0
        have HJ2 : Hid (∀ j, j < t + 1 → passR xs (rowN ws j) cs ts qs = true) := fun j hj => by
          rcases Nat.lt_or_ge j t with g | g
          · exact HJ.out j g
          · obtain rfl : j = t := by omega
            exact hpr
        have HD1 : Hid (decide (sumR (rowN ws t) qs n q = dueR (sumR (rowN ws t) ts n q) xs (parC cs (rowN ws t) q)) = true) := by show _ = _; rw [HD0.out, decide_eq_decide]; exact ⟨Eq.symm, Eq.symm⟩
        clear hpr
        go_wp2_with fail
        refine (s_oxSum _ _ _ (rowN ws t) _ _ _ ts n _ R.out (HH3.out.below HB.out) (Nat.le_refl _) (by omega) (by omega) hT.out).mono ?_; rintro e w5 ⟨r5, c5, rfl, hm5, hb5⟩
        have B5 := bel_trans HB.out hb5
        go_wp2_with fail
        refine (s_btParity _ _ _ _ _ _ cs (rowN ws t) _ (HH2.out.below B5) (R.out.below hb5) (Nat.le_refl _) HCB.out HF.out).mono ?_; rintro e w6 ⟨rfl, rfl⟩
        go_wp2_with fail
        refine (s_oxAdd _ _ _ _ _ _ (sumR (rowN ws t) ts n q) xs _ 0 _ hm5.ints (HH.out.below B5) (Nat.le_refl _) (by omega) (sumR_bits _ _ _ _) HXB.out).mono ?_; rintro e w7 ⟨r7, c7, rfl, hm7, hb7⟩
        have B7 := bel_trans B5 hb7
        go_wp2_with fail
        refine (s_oxSum _ _ _ (rowN ws t) _ _ _ qs n _ (R.out.below (bel_trans hb5 hb7)) (HH4.out.below B7) (Nat.le_refl _) (by omega) (by omega) hQ.out).mono ?_; rintro e w8 ⟨r8, c8, rfl, hm8, hb8⟩
        go_wp2_with fail
        refine (s_l1Same _ _ _ _ _ _ (sumR (rowN ws t) qs n q) (dueR (sumR (rowN ws t) ts n q) xs (parC cs (rowN ws t) q)) _ hm8.ints (hm7.below hb8)).mono ?_; rintro e w9 ⟨rfl, hb9⟩; rw [HD1.out]
        have HBX := Lib.hid (bel_trans (bel_trans B7 hb8) hb9); clear hm5 hb5 B5 hm7 hb7 B7 hm8 hb8 hb9
        go_wp2
        go_roundw
        case rel => exact ⟨t + 1, by omega, by go_num, HJ2.out, HBX.out⟩
        case measure => simp [intOf]; omega
    · obtain rfl : t = n1 := by omega
      have HY := Lib.hid (passA_yes (secret := xs) (wss := ws) (cs := cs) (t := ts) (q := qs) (by rw [hl1.out]; exact HJ.out))
      go_wp2
      go_ret
      exact ⟨by rw [HY.out]; try rfl, HB.out⟩
set_option maxHeartbeats 4000000 in
theorem i_CheckPasses (a : Option Addr) (n cap : Nat) (xs : List Int) (a1 : Option Addr) (n1 cap1 : Nat) (ws : List (List Int)) (a2 : Option Addr) (n2 cap2 : Nat) (cs : List Int) (a3 : Option Addr) (n3 cap3 : Nat) (ts : List (List Int)) (a4 : Option Addr) (n4 cap4 : Nat) (qs : List (List Int)) (w : World) (h : Ints w a n cap xs) (h1 : Rws w a1 n1 cap1 ws) (h2 : Ints w a2 n2 cap2 cs) (h3 : Rws w a3 n3 cap3 ts) (h4 : Rws w a4 n4 cap4 qs) :
    Calls Tryz.prog 10 #[.slice a n cap, .slice a1 n1 cap1, .slice a2 n2 cap2, .slice a3 n3 cap3, .slice a4 n4 cap4] w fun e w' => e = .returned (.tuple #[.bool (checkPasses xs ws cs ts qs).1, .bool (checkPasses xs ws cs ts qs).2]) ∧ Below w.heap.size w w' := by
  have hl := h.len; have hl1 := h1.len; have hl2 := h2.len; have hl3 := h3.len; have hl4 := h4.len
  have hs := h.small; have hs2 := h2.small
  cases g1 : secB xs with
  | false =>
    have HR := Lib.hid (cp_f (secret := xs) (wss := ws) (cs := cs) (t := ts) (q := qs) (fun q => by have := cpB_iff.1 q; rw [g1] at this; cases this.1))
    go_enter Tryz.func10, Tryz.ntmps10
    go_wp2_with fail
    refine (i_isSecretOf _ _ _ xs _ h).mono ?_; rintro e w1 ⟨rfl, hb1⟩
    go_wp2
    all_goals
      go_ret2
      exact ⟨by rw [HR.out]; try rfl, hb1⟩
  | true =>
    obtain ⟨⟨k1, k2⟩, kb⟩ := secB_iff.1 g1
    rw [hl.out] at k1 k2
    cases g2 : chosB cs with
    | false =>
      have HR := Lib.hid (cp_f (secret := xs) (wss := ws) (cs := cs) (t := ts) (q := qs) (fun q => by have := cpB_iff.1 q; rw [g2] at this; cases this.2.1))
      go_enter Tryz.func10, Tryz.ntmps10
      go_wp2_with fail
      refine (i_isSecretOf _ _ _ xs _ h).mono ?_; rintro e w1 ⟨rfl, hb1⟩
      go_wp2_with fail
      refine (i_areChosen _ _ _ cs _ (h2.below hb1)).mono ?_; rintro e w2 ⟨rfl, hb2⟩; have B2 := bel_trans hb1 hb2; clear hb2
      go_wp2
      all_goals
        go_ret2
        exact ⟨by rw [HR.out]; try rfl, B2⟩
    | true =>
      obtain ⟨⟨m1, m2⟩, mb⟩ := chosB_iff.1 g2
      rw [hl2.out] at m1 m2
      cases g3 : wtB ws n2 with
      | false =>
        have HR := Lib.hid (cp_f (secret := xs) (wss := ws) (cs := cs) (t := ts) (q := qs) (fun q => by have := cpB_iff.1 q; rw [hl2.out, g3] at this; cases this.2.2.1))
        go_enter Tryz.func10, Tryz.ntmps10
        go_wp2_with fail
        refine (i_isSecretOf _ _ _ xs _ h).mono ?_; rintro e w1 ⟨rfl, hb1⟩
        go_wp2_with fail
        refine (i_areChosen _ _ _ cs _ (h2.below hb1)).mono ?_; rintro e w2 ⟨rfl, hb2⟩; have B2 := bel_trans hb1 hb2; clear hb2
        go_wp2_with fail
        refine (i_areWeights _ _ _ ws _ _ (h1.below B2)).mono ?_; rintro e w3 ⟨rfl, hb3⟩; have B3 := bel_trans B2 hb3; clear hb3
        go_wp2
        all_goals
          go_ret2
          exact ⟨by rw [HR.out]; try rfl, B3⟩
      | true =>
        cases g4 : rowsB ts n2 n with
        | false =>
          have HR := Lib.hid (cp_f (secret := xs) (wss := ws) (cs := cs) (t := ts) (q := qs) (fun q => by have := cpB_iff.1 q; rw [hl.out, hl2.out, g4] at this; cases this.2.2.2.1))
          go_enter Tryz.func10, Tryz.ntmps10
          go_wp2_with fail
          refine (i_isSecretOf _ _ _ xs _ h).mono ?_; rintro e w1 ⟨rfl, hb1⟩
          go_wp2_with fail
          refine (i_areChosen _ _ _ cs _ (h2.below hb1)).mono ?_; rintro e w2 ⟨rfl, hb2⟩; have B2 := bel_trans hb1 hb2; clear hb2
          go_wp2_with fail
          refine (i_areWeights _ _ _ ws _ _ (h1.below B2)).mono ?_; rintro e w3 ⟨rfl, hb3⟩; have B3 := bel_trans B2 hb3; clear hb3
          go_wp2_with fail
          refine (i_areRows _ _ _ ts _ _ _ (h3.below B3)).mono ?_; rintro e w4 ⟨rfl, hb4⟩; have B4 := bel_trans B3 hb4; clear hb4
          go_wp2
          all_goals
            go_ret2
            exact ⟨by rw [HR.out]; try rfl, B4⟩
        | true =>
          cases g5 : rowsB qs n2 n with
          | false =>
            have HR := Lib.hid (cp_f (secret := xs) (wss := ws) (cs := cs) (t := ts) (q := qs) (fun q => by have := cpB_iff.1 q; rw [hl.out, hl2.out, g5] at this; cases this.2.2.2.2))
            go_enter Tryz.func10, Tryz.ntmps10
            go_wp2_with fail
            refine (i_isSecretOf _ _ _ xs _ h).mono ?_; rintro e w1 ⟨rfl, hb1⟩
            go_wp2_with fail
            refine (i_areChosen _ _ _ cs _ (h2.below hb1)).mono ?_; rintro e w2 ⟨rfl, hb2⟩; have B2 := bel_trans hb1 hb2; clear hb2
            go_wp2_with fail
            refine (i_areWeights _ _ _ ws _ _ (h1.below B2)).mono ?_; rintro e w3 ⟨rfl, hb3⟩; have B3 := bel_trans B2 hb3; clear hb3
            go_wp2_with fail
            refine (i_areRows _ _ _ ts _ _ _ (h3.below B3)).mono ?_; rintro e w4 ⟨rfl, hb4⟩; have B4 := bel_trans B3 hb4; clear hb4
            go_wp2_with fail
            refine (i_areRows _ _ _ qs _ _ _ (h4.below B4)).mono ?_; rintro e w5 ⟨rfl, hb5⟩; have B5 := bel_trans B4 hb5; clear hb5
            go_wp2
            all_goals
              go_ret2
              exact ⟨by rw [HR.out]; try rfl, B5⟩
          | true =>
            have HR := Lib.hid (cp_t (secret := xs) (wss := ws) (cs := cs) (t := ts) (q := qs) (cpB_iff.2 ⟨g1, g2, by rw [hl2.out]; exact g3, by rw [hl.out, hl2.out]; exact g4, by rw [hl.out, hl2.out]; exact g5⟩))
            obtain ⟨_, _, t1, t2⟩ := rowsB_iff.1 g4
            obtain ⟨_, _, q1, q2⟩ := rowsB_iff.1 g5
            obtain ⟨_, hw2⟩ := wtB_iff.1 g3
            have HW : Hid (∀ j, j < n1 → (rowN ws j).length = n2 ∧ bitsB (rowN ws j) = true) := fun j hj => by have := listsB_at hw2 (i := j) (by rw [hl1.out]; exact hj); exact ⟨by omega, this.2⟩
            rw [hl3.out] at t1; rw [hl4.out] at q1
            have HT : Hid (∀ j, j < n2 → (rowN ts j).length = n ∧ bitsB (rowN ts j) = true) := fun j hj => by have := listsB_at t2 (i := j) (by rw [hl3.out]; omega); exact ⟨by omega, this.2⟩
            have HQ : Hid (∀ j, j < n2 → (rowN qs j).length = n ∧ bitsB (rowN qs j) = true) := fun j hj => by have := listsB_at q2 (i := j) (by rw [hl4.out]; omega); exact ⟨by omega, this.2⟩
            go_enter Tryz.func10, Tryz.ntmps10
            go_wp2_with fail
            refine (i_isSecretOf _ _ _ xs _ h).mono ?_; rintro e w1 ⟨rfl, hb1⟩
            go_wp2_with fail
            refine (i_areChosen _ _ _ cs _ (h2.below hb1)).mono ?_; rintro e w2 ⟨rfl, hb2⟩; have B2 := bel_trans hb1 hb2; clear hb2
            go_wp2_with fail
            refine (i_areWeights _ _ _ ws _ _ (h1.below B2)).mono ?_; rintro e w3 ⟨rfl, hb3⟩; have B3 := bel_trans B2 hb3; clear hb3
            go_wp2_with fail
            refine (i_areRows _ _ _ ts _ _ _ (h3.below B3)).mono ?_; rintro e w4 ⟨rfl, hb4⟩; have B4 := bel_trans B3 hb4; clear hb4
            go_wp2_with fail
            refine (i_areRows _ _ _ qs _ _ _ (h4.below B4)).mono ?_; rintro e w5 ⟨rfl, hb5⟩; have B5 := bel_trans B4 hb5; clear hb5
            go_wp2_with fail
            refine (i_passes _ _ _ xs _ _ _ ws _ _ _ cs _ _ _ ts _ _ _ qs _ (h.below B5) (h1.below B5) (h2.below B5) (h3.below B5) (h4.below B5) ⟨by omega, by omega⟩ (by omega) (by omega) (by omega) kb mb HW.out HT.out HQ.out).mono ?_; rintro e w6 ⟨rfl, hb6⟩
            go_wp2
            go_ret2
            exact ⟨by rw [HR.out]; try rfl, bel_trans B5 hb6⟩
set_option maxHeartbeats 4000000 in
theorem s_CheckPasses (a : Option Addr) (n cap : Nat) (xs : List Int) (a1 : Option Addr) (n1 cap1 : Nat) (ws : List (List Int)) (a2 : Option Addr) (n2 cap2 : Nat) (cs : List Int) (a3 : Option Addr) (n3 cap3 : Nat) (ts : List (List Int)) (a4 : Option Addr) (n4 cap4 : Nat) (qs : List (List Int)) (w : World) (h : Ints w a n cap xs) (h1 : Rws w a1 n1 cap1 ws) (h2 : Ints w a2 n2 cap2 cs) (h3 : Rws w a3 n3 cap3 ts) (h4 : Rws w a4 n4 cap4 qs) :
    Calls Tryz.prog 11 #[.slice a n cap, .slice a1 n1 cap1, .slice a2 n2 cap2, .slice a3 n3 cap3, .slice a4 n4 cap4] w fun e w' => e = .returned (.tuple #[.bool (checkPasses xs ws cs ts qs).1, .bool (checkPasses xs ws cs ts qs).2]) ∧ Below w.heap.size w w' := by
  have hl := h.len; have hl1 := h1.len; have hl2 := h2.len; have hl3 := h3.len; have hl4 := h4.len
  have hs := h.small; have hs2 := h2.small
  cases g1 : secB xs with
  | false =>
    have HR := Lib.hid (cp_f (secret := xs) (wss := ws) (cs := cs) (t := ts) (q := qs) (fun q => by have := cpB_iff.1 q; rw [g1] at this; cases this.1))
    go_enter Tryz.func11, Tryz.ntmps11
    go_wp2_with fail
    refine (s_oxSecret _ _ _ xs _ h).mono ?_; rintro e w1 ⟨rfl, rfl⟩
    go_wp2
    all_goals
      go_ret2
      exact ⟨by rw [HR.out]; try rfl, Below.refl _ _⟩
  | true =>
    obtain ⟨⟨k1, k2⟩, kb⟩ := secB_iff.1 g1
    rw [hl.out] at k1 k2
    cases g2 : chosB cs with
    | false =>
      have HR := Lib.hid (cp_f (secret := xs) (wss := ws) (cs := cs) (t := ts) (q := qs) (fun q => by have := cpB_iff.1 q; rw [g2] at this; cases this.2.1))
      go_enter Tryz.func11, Tryz.ntmps11
      go_wp2_with fail
      refine (s_oxSecret _ _ _ xs _ h).mono ?_; rintro e w1 ⟨rfl, rfl⟩
      go_wp2_with fail
      refine (s_oxChoices _ _ _ cs _ h2).mono ?_; rintro e w1 ⟨rfl, rfl⟩
      go_wp2
      all_goals
        go_ret2
        exact ⟨by rw [HR.out]; try rfl, Below.refl _ _⟩
    | true =>
      obtain ⟨⟨m1, m2⟩, mb⟩ := chosB_iff.1 g2
      rw [hl2.out] at m1 m2
      cases g3 : wtB ws n2 with
      | false =>
        have HR := Lib.hid (cp_f (secret := xs) (wss := ws) (cs := cs) (t := ts) (q := qs) (fun q => by have := cpB_iff.1 q; rw [hl2.out, g3] at this; cases this.2.2.1))
        go_enter Tryz.func11, Tryz.ntmps11
        go_wp2_with fail
        refine (s_oxSecret _ _ _ xs _ h).mono ?_; rintro e w1 ⟨rfl, rfl⟩
        go_wp2_with fail
        refine (s_oxChoices _ _ _ cs _ h2).mono ?_; rintro e w1 ⟨rfl, rfl⟩
        go_wp2_with fail
        refine (s_oxWeights _ _ _ ws _ _ h1 (by omega)).mono ?_; rintro e w1 ⟨rfl, rfl⟩
        go_wp2
        all_goals
          go_ret2
          exact ⟨by rw [HR.out]; try rfl, Below.refl _ _⟩
      | true =>
        cases g5 : rowsB qs n2 n with
        | false =>
          have HR := Lib.hid (cp_f (secret := xs) (wss := ws) (cs := cs) (t := ts) (q := qs) (fun q => by have := cpB_iff.1 q; rw [hl.out, hl2.out, g5] at this; cases this.2.2.2.2))
          go_enter Tryz.func11, Tryz.ntmps11
          go_wp2_with fail
          refine (s_oxSecret _ _ _ xs _ h).mono ?_; rintro e w1 ⟨rfl, rfl⟩
          go_wp2_with fail
          refine (s_oxChoices _ _ _ cs _ h2).mono ?_; rintro e w1 ⟨rfl, rfl⟩
          go_wp2_with fail
          refine (s_oxWeights _ _ _ ws _ _ h1 (by omega)).mono ?_; rintro e w1 ⟨rfl, rfl⟩
          go_wp2_with fail
          refine (s_oxRows _ _ _ qs _ _ _ h4 (by omega)).mono ?_; rintro e w1 ⟨rfl, rfl⟩
          go_wp2
          all_goals
            go_ret2
            exact ⟨by rw [HR.out]; try rfl, Below.refl _ _⟩
        | true =>
          cases g4 : rowsB ts n2 n with
          | false =>
            have HR := Lib.hid (cp_f (secret := xs) (wss := ws) (cs := cs) (t := ts) (q := qs) (fun q => by have := cpB_iff.1 q; rw [hl.out, hl2.out, g4] at this; cases this.2.2.2.1))
            go_enter Tryz.func11, Tryz.ntmps11
            go_wp2_with fail
            refine (s_oxSecret _ _ _ xs _ h).mono ?_; rintro e w1 ⟨rfl, rfl⟩
            go_wp2_with fail
            refine (s_oxChoices _ _ _ cs _ h2).mono ?_; rintro e w1 ⟨rfl, rfl⟩
            go_wp2_with fail
            refine (s_oxWeights _ _ _ ws _ _ h1 (by omega)).mono ?_; rintro e w1 ⟨rfl, rfl⟩
            go_wp2_with fail
            refine (s_oxRows _ _ _ qs _ _ _ h4 (by omega)).mono ?_; rintro e w1 ⟨rfl, rfl⟩
            go_wp2_with fail
            refine (s_oxRows _ _ _ ts _ _ _ h3 (by omega)).mono ?_; rintro e w1 ⟨rfl, rfl⟩
            go_wp2
            all_goals
              go_ret2
              exact ⟨by rw [HR.out]; try rfl, Below.refl _ _⟩
          | true =>
            have HR := Lib.hid (cp_t (secret := xs) (wss := ws) (cs := cs) (t := ts) (q := qs) (cpB_iff.2 ⟨g1, g2, by rw [hl2.out]; exact g3, by rw [hl.out, hl2.out]; exact g4, by rw [hl.out, hl2.out]; exact g5⟩))
            obtain ⟨_, _, t1, t2⟩ := rowsB_iff.1 g4
            obtain ⟨_, _, q1, q2⟩ := rowsB_iff.1 g5
            obtain ⟨_, w2⟩ := wtB_iff.1 g3
            have HW : Hid (∀ j, j < n1 → (rowN ws j).length = n2 ∧ bitsB (rowN ws j) = true) := fun j hj => by have := listsB_at w2 (i := j) (by rw [hl1.out]; exact hj); exact ⟨by omega, this.2⟩
            rw [hl3.out] at t1; rw [hl4.out] at q1
            have HT : Hid (∀ j, j < n2 → (rowN ts j).length = n ∧ bitsB (rowN ts j) = true) := fun j hj => by have := listsB_at t2 (i := j) (by rw [hl3.out]; omega); exact ⟨by omega, this.2⟩
            have HQ : Hid (∀ j, j < n2 → (rowN qs j).length = n ∧ bitsB (rowN qs j) = true) := fun j hj => by have := listsB_at q2 (i := j) (by rw [hl4.out]; omega); exact ⟨by omega, this.2⟩
            go_enter Tryz.func11, Tryz.ntmps11
            go_wp2_with fail
            refine (s_oxSecret _ _ _ xs _ h).mono ?_; rintro e w1 ⟨rfl, rfl⟩
            go_wp2_with fail
            refine (s_oxChoices _ _ _ cs _ h2).mono ?_; rintro e w1 ⟨rfl, rfl⟩
            go_wp2_with fail
            refine (s_oxWeights _ _ _ ws _ _ h1 (by omega)).mono ?_; rintro e w1 ⟨rfl, rfl⟩
            go_wp2_with fail
            refine (s_oxRows _ _ _ qs _ _ _ h4 (by omega)).mono ?_; rintro e w1 ⟨rfl, rfl⟩
            go_wp2_with fail
            refine (s_oxRows _ _ _ ts _ _ _ h3 (by omega)).mono ?_; rintro e w1 ⟨rfl, rfl⟩
            go_wp2_with fail
            refine (s_oxPasses _ _ _ xs _ _ _ ws _ _ _ cs _ _ _ ts _ _ _ qs _ h h1 h2 h3 h4 ⟨by omega, by omega⟩ (by omega) (by omega) (by omega) kb mb HW.out HT.out HQ.out).mono ?_; rintro e w6 ⟨rfl, hb6⟩
            go_wp2
            go_ret2
            exact ⟨by rw [HR.out]; try rfl, hb6⟩
end Go.Proofs.YtfejpmfcognikaaGreat
