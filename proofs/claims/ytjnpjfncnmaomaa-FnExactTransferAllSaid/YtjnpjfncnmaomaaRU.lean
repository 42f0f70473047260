/-
  Contracts of the laws' own helpers on slices of slices of ints: sizes, copies, comparisons, marks.
-/
import Derived.Test.YtjnpjfncnmaomaaRA
import Derived.Deep.RegionHeld3
namespace Go.Proofs.Ytjnpjfncnmaomaa
open Go.RowKit
set_option linter.unusedVariables false
set_option linter.unusedSimpArgs false

set_option maxHeartbeats 400000 in
theorem l_szIntS (a : Option Addr) (n cap : Nat) (left : Int) (w : World) (hn : n ≤ 9223372036854775807) (h0 : 0 ≤ left) (h1 : left ≤ 1048576) :
    Calls Try.prog 100 #[.slice a n cap, .int .i64 left] w fun e w' => e = .returned (.int .i64 (if (n : Int) ≤ left then left - n else -1)) ∧ w = w' := by
  by_cases h : (n : Int) ≤ left
  · rw [if_pos h]
    go_enter Try.func100, Try.ntmps100
    go_wp2
    go_ret
    exact ⟨rfl, rfl⟩
  · rw [if_neg h]
    go_enter Try.func100, Try.ntmps100
    go_wp2
    go_ret
    exact ⟨rfl, rfl⟩
theorem szif1 {m L : Int} (h : m ≤ L) : (if m ≤ L then L - m else -1) = L - m := if_pos h
theorem szif2 {m L : Int} (h : ¬ m ≤ L) : (if m ≤ L then L - m else -1) = -1 := if_neg h
/-- What the size's count says. -/
def SzR (w : World) (a : Option Addr) (n cap : Nat) (xss : List (List Int)) (left l' : Int) : Prop := l' = -1 ∨ (0 ≤ l' ∧ l' ≤ left ∧ Rws w a n cap xss ∧ (pre xss n : Int) ≤ left ∧ n ≤ 1048576)
set_option maxHeartbeats 1000000 in
theorem l_szIntSS (a : Option Addr) (n cap : Nat) (xss : List (List Int)) (left : Int) (w : World) (h : RowsIn w a n cap xss) (h0 : 0 ≤ left) (h1 : left ≤ 1048576) :
    Calls Try.prog 36 #[.slice a n cap, .int .i64 left] w fun e w' => ∃ l' : Int, e = .returned (.int .i64 l') ∧ w = w' ∧ SzR w a n cap xss left l' := by
  obtain ⟨hn1, hn2⟩ := h
  by_cases hn : (n : Int) ≤ left
  rotate_left
  · go_enter Try.func36, Try.ntmps36
    go_wp2
    go_ret
    exact ⟨_, rfl, rfl, .inl rfl⟩
  · obtain ⟨g1, g2, g3, g4, g5⟩ := hn2 (by omega)
    have G1 := Lib.hid g1; have G4 := Lib.hid g4; have G5 := Lib.hid g5; clear g1 g4 g5 hn2
    go_enter Try.func36, Try.ntmps36
    go_wp2
    go_loop [1, 5] (fun s i => ∃ (k : Nat) (L : Int), k ≤ n ∧ i = .int .i64 k ∧ s = .int .i64 L ∧ 0 ≤ L ∧ L ≤ left ∧ Hid (L = left - n - (pre xss k : Nat)) ∧ Hid (∀ j, j < k → ∃ b off r m c, a = some ⟨b, off, none⟩ ∧ b < w.heap.size ∧ w.cell? ⟨b, off + j, none⟩ = some (.slice r m c) ∧ Ints w r m c (rowN xss j))) (fun _ i => n - (intOf i).toNat)
    case atStart => exact ⟨0, left - n, by omega, rfl, rfl, by omega, by omega, (by show _ = _; simp [pre]), fun j hj => by omega⟩
    case round =>
      obtain ⟨k, L, hk, rfl, rfl, hL0, hL1, HL, HJ⟩ := hrel
      by_cases hlt : k < n
      · obtain ⟨b, off, r, m, c, e, hbl, hc, hri⟩ := G5.out k hlt
        obtain ⟨hm1, hm2⟩ := hri
        have HE := Lib.hid e
        subst e
        by_cases hmL : (m : Int) ≤ L
        · have hri := hm2 (by omega)
          have hlen := hri.len
          have HP : Hid (L - m = left - n - (pre xss (k + 1) : Nat)) := by
            show _ = _
            rw [HL.out, pre, hlen.out]; omega
          have HS := Lib.hid (szif1 hmL)
          have HR := Lib.hid hri; clear hri
          go_wp2_with (go_at_call 100; refine (l_szIntS _ _ _ _ _ (by omega) (by omega) (by omega)).mono ?_; rintro e w' ⟨rfl, rfl⟩; rw [HS.out])
          go_round
          case rel => exact ⟨k + 1, L - m, by omega, by go_num, rfl, by omega, by omega, HP, (show Hid _ from fun j hj => by
            rcases Nat.lt_or_ge j k with q | q
            · exact HJ.out j q
            · obtain rfl : j = k := by omega
              exact ⟨b, off, r, m, c, rfl, hbl, hc, HR.out⟩)⟩
          case measure => simp [intOf]; omega
        · have HS := Lib.hid (szif2 hmL)
          go_wp2_with (go_at_call 100; refine (l_szIntS _ _ _ _ _ (by omega) (by omega) (by omega)).mono ?_; rintro e w' ⟨rfl, rfl⟩; rw [HS.out])
          go_ret
          exact ⟨_, rfl, rfl, .inl rfl⟩
      · obtain rfl : k = n := by omega
        go_wp2
        go_ret
        have := HL.out
        exact ⟨_, rfl, rfl, .inr ⟨hL0, hL1, ⟨G1, g2, by omega, g3, HJ, G4⟩, by omega, by omega⟩⟩
theorem OwnR.made {E : TypeId} {w : World} {B n : Nat} {v : Value} (h : w.ownsRow B E 1 v n (List.replicate n (.slice none 0 0))) : OwnR E w B v n (List.replicate n []) := by
  refine ⟨_, h, by simp, fun i hi => ⟨none, 0, 0, by simp [hi], ?_, fun h => by omega⟩, fun i j hi hj hne r m c r' m' c' e e' => ?_⟩
  · have : rowN (List.replicate n []) i = [] := by simp [rowN, hi]
    rw [this]
    exact Mine.nil
  · rw [List.getElem?_replicate, if_pos hi] at e
    simp only [Option.some.injEq, Value.slice.injEq] at e
    obtain ⟨rfl, rfl, rfl⟩ := e
    exact Apart.zero
set_option maxHeartbeats 2000000 in
theorem l_convSS (a : Option Addr) (n cap : Nat) (xss : List (List Int)) (w : World) (h : Rws w a n cap xss) (hn : n ≤ 1048576) :
    Calls Try.prog 38 #[.slice a n cap] w fun e w' => ∃ a' cap', e = .returned (.slice a' n cap') ∧ MineR w' w.heap.size w'.heap.size a' n cap' xss ∧ Below w.heap.size w w' := by
  obtain ⟨i0, hi, hz0, hz1, hz2⟩ := info_parts info_row
  go_enter Try.func38, Try.ntmps38
  go_wp2_with (at_make; refine wpList_make_full _ rfl _ _ 46 rfl w.heap.size 39 i0 (.slice none 0 0) 1 Try.underlying46 hi hz0 hz1 _ _ _ _ n rfl rfl rfl rfl ?b1 ?b2 ?b3 ?_)
  case b1 => rw [hz2]; omega
  case b2 => unfold maxLen; omega
  case b3 => exact Nat.le_refl _
  intro w1 hown hgrow
  have hb1 : Below w.heap.size w w1 := (Below.refl _ _).grown hgrow (Nat.le_refl _) (fun k hk => by cases hk)
  try simp only [Nat.mul_one, Value.cells] at hown
  rw [toList_madeCells_one] at hown
  obtain ⟨a', cap', hv, ho⟩ := (OwnR.made hown).mine (by omega) hb1.size
  simp only [Value.slice.injEq] at hv
  obtain ⟨rfl, _, rfl⟩ := hv
  have hlen := h.len
  clear hown hgrow hi hz0 hz1 hz2
  have HO := Lib.hid ho; clear ho
  have HB := Lib.hid hb1; clear hb1
  have HH := Lib.hid h; clear h
  go_wp2
  go_loopw [4] (fun i wr => ∃ k : Nat, k ≤ n ∧ i = .int .i64 k ∧ Hid (∃ yss hi, MineR wr w.heap.size hi (some ⟨w.heap.size, 0, none⟩) n n yss ∧ ∀ j, j < k → rowN yss j = rowN xss j) ∧ Hid (Below w.heap.size w wr)) (fun i _ => n - (intOf i).toNat)
  case atStart => exact ⟨0, by omega, rfl, ⟨_, _, HO.out, fun j hj => by omega⟩, HB.out⟩
  case round =>
    obtain ⟨k, hk, rfl, HY, BW⟩ := hrel
    clear HO HB
    obtain ⟨wo, rfl⟩ : ∃ wo : World, wo = wr := ⟨_, rfl⟩
    by_cases hlt : k < n
    · obtain ⟨b, off, r, m, c, rfl, hbl, hc, hri⟩ := (HH.out.below BW.out).at hlt
      obtain ⟨yss, hi, hy, hjs⟩ := HY.out
      have HR := Lib.hid hri; clear hri
      have HJ := Lib.hid hjs; clear hjs
      have HYY := Lib.hid (hy.wider (Nat.le_refl _) hy.top (Nat.le_refl _)); clear hy HY
      go_wp2_with fail
      refine (l_conv _ _ _ _ _ HR.out).mono ?_; rintro e w2 ⟨r2, c2, rfl, hm2, hb2⟩
      have hy2 := HYY.out.below hb2
      obtain ⟨b0, off0, r0, m0, c0, e0, q1, q2, q3, q4, _⟩ := hy2.at hlt
      simp only [Option.some.injEq, Addr.mk.injEq] at e0
      obtain ⟨rfl, rfl, _⟩ := e0
      have hst := hy2.store hlt (hm2.base BW.out.size) hm2.pl hb2.size (Nat.le_refl _)
      rw [Nat.zero_add] at q3 q4 hst
      have HST := Lib.hid hst
      have hyl := hy2.len
      have HB2 := Lib.hid (bel_trans BW.out hb2)
      clear hst hy2 hm2 hb2 HYY hc
      go_wp2
      go_roundw
      case rel => exact ⟨k + 1, by omega, by go_num, (show Hid _ from ⟨_, _, HST.out, fun j hj => by
          rw [rowN_set (by rw [hyl.out]; exact hlt)]
          by_cases ej : j = k
          · rw [if_pos ej, ej]
          · rw [if_neg ej]; exact HJ.out j (by omega)⟩), (show Hid _ from HB2.out.setCell (by exact Nat.le_refl _) _)⟩
      case measure => simp [intOf]; omega
    · obtain rfl : k = n := by omega
      obtain ⟨yss, hi, hy, hjs⟩ := HY.out
      have hyl := hy.len
      obtain rfl : yss = xss := eq_of_rowN (by rw [hyl.out, hlen.out]) (fun j hj => hjs j (by rw [← hyl.out]; exact hj))
      have H := Lib.hid (hy.wider (Nat.le_refl _) hy.top (Nat.le_refl _)); clear hy hjs HY
      go_wp2
      go_ret
      exact ⟨_, _, rfl, H.out, BW.out⟩
set_option maxHeartbeats 1000000 in
theorem l_eqIntSS (a a' : Option Addr) (n cap cap' : Nat) (xss : List (List Int)) (w : World) (h : Rws w a n cap xss) (h' : Rws w a' n cap' xss) :
    Calls Try.prog 40 #[.slice a n cap, .slice a' n cap'] w fun e w' => e = .returned (.bool true) ∧ Below w.heap.size w w' := by
  have hs := h.small
  have H1 := Lib.hid h; have H2 := Lib.hid h'; clear h h'
  go_enter Try.func40, Try.ntmps40
  go_wp2
  go_loopw [5] (fun i wr => ∃ k : Nat, k ≤ n ∧ i = .int .i64 k ∧ Hid (Below w.heap.size w wr)) (fun i _ => n - (intOf i).toNat)
  case atStart => exact ⟨0, by omega, rfl, Below.refl _ _⟩
  case round =>
    obtain ⟨k, hk, rfl, BW⟩ := hrel
    obtain ⟨wo, rfl⟩ : ∃ wo : World, wo = wr := ⟨_, rfl⟩
    by_cases hlt : k < n
    · obtain ⟨b, off, r, m, c, rfl, hbl, hc, hr⟩ := (H1.out.below BW.out).at hlt
      obtain ⟨b', off', r', m', c', rfl, hbl', hc', hr'⟩ := (H2.out.below BW.out).at hlt
      have hlti : (k : Int) < (n : Int) := by omega
      have hmm : m' = m := hr'.len.out.symm.trans hr.len.out
      subst hmm
      have R1 := Lib.hid hr; have R2 := Lib.hid hr'; clear hr hr'
      go_wp2_with fail
      go_region_held3 (fun W => W.cell? ⟨b, off + k, none⟩ = some (.slice r m' c) ∧ W.cell? ⟨b', off' + k, none⟩ = some (.slice r' m' c')) (exact ⟨cell_on hc (by (repeat (first | exact Below.refl _ _ | assumption | refine bel_trans ?_ (bel_alloc _ _) | refine bel_set ?_ (by first | (dsimp only; omega) | (simp; omega) | simp) _ | refine bel_trans ?_ (bel_drewN _ _) | refine bel_trans ?_ (bel_drew _) | refine bel_trans ?_ (by assumption)))), cell_on hc' (by (repeat (first | exact Below.refl _ _ | assumption | refine bel_trans ?_ (bel_alloc _ _) | refine bel_set ?_ (by first | (dsimp only; omega) | (simp; omega) | simp) _ | refine bel_trans ?_ (bel_drewN _ _) | refine bel_trans ?_ (bel_drew _) | refine bel_trans ?_ (by assumption))))⟩) (first | (go_at_call 33; refine (l_eqIntS _ _ _ _ _ (rowN xss k) _ (R1.out.below (by (repeat (first | exact Below.refl _ _ | assumption | refine bel_trans ?_ (bel_alloc _ _) | refine bel_set ?_ (by first | (dsimp only; omega) | (simp; omega) | simp) _ | refine bel_trans ?_ (bel_drewN _ _) | refine bel_trans ?_ (bel_drew _) | refine bel_trans ?_ (by assumption))))) (R2.out.below (by (repeat (first | exact Below.refl _ _ | assumption | refine bel_trans ?_ (bel_alloc _ _) | refine bel_set ?_ (by first | (dsimp only; omega) | (simp; omega) | simp) _ | refine bel_trans ?_ (bel_drewN _ _) | refine bel_trans ?_ (bel_drew _) | refine bel_trans ?_ (by assumption)))))).mono ?_; rintro e wx ⟨rfl, hb⟩))
      have HB := Lib.hid (bel_trans BW.out (show Below wo.heap.size wo wx by (repeat (first | exact Below.refl _ _ | assumption | refine bel_trans ?_ (bel_alloc _ _) | refine bel_set ?_ (by first | (dsimp only; omega) | (simp; omega) | simp) _ | refine bel_trans ?_ (bel_drewN _ _) | refine bel_trans ?_ (bel_drew _) | refine bel_trans ?_ (by assumption)))))
      clear hb
      go_wp2
      go_roundw
      case rel => exact ⟨k + 1, by omega, by go_num, HB.out⟩
      case measure => simp [intOf]; omega
    · obtain rfl : k = n := by omega
      go_wp2
      go_ret
      exact ⟨rfl, BW.out⟩
set_option maxHeartbeats 1000000 in
theorem l_markSS (a : Option Addr) (n cap lo hi : Nat) (xss : List (List Int)) (k0 : Int) (w : World) (h : MineR w lo hi a n cap xss) (hk0 : -1000000000000 ≤ k0) (hk1 : k0 + (pre xss n : Nat) ≤ 1000000000000) :
    Calls Try.prog 41 #[.slice a n cap, .int .i64 k0] w fun e w' => e = .returned (.int .i64 (k0 + (pre xss n : Nat))) ∧ MineR w' lo hi a n cap (marksR k0 xss) ∧ OnlyI lo hi w w' := by
  have hs := h.small
  have hlen := h.len
  have HO := Lib.hid h; clear h
  go_enter Try.func41, Try.ntmps41
  go_wp2
  go_loopw [1, 5] (fun s1 i wr => ∃ (k : Nat) (K : Int), k ≤ n ∧ i = .int .i64 k ∧ s1 = .int .i64 K ∧ -1000000000000 ≤ K ∧ K ≤ 1000000000000 ∧ Hid (K = k0 + (pre xss k : Nat)) ∧ Hid (∃ yss, MineR wr lo hi a n cap yss ∧ (∀ j, j < n → (rowN yss j).length = (rowN xss j).length) ∧ ∀ j, j < k → rowN yss j = marks (k0 + (pre xss j : Nat)) (rowN xss j).length) ∧ Hid (OnlyI lo hi w wr)) (fun _ i _ => n - (intOf i).toNat)
  case atStart => exact ⟨0, k0, by omega, rfl, rfl, by omega, by omega, (by show _ = _; simp [pre]), ⟨_, HO.out, fun j hj => rfl, fun j hj => by omega⟩, OnlyI.refl _ _ _⟩
  case round =>
    obtain ⟨k, K, hk, rfl, rfl, hK0, hK1, HK, HY, BW⟩ := hrel
    clear HO
    obtain ⟨wo, rfl⟩ : ∃ wo : World, wo = wr := ⟨_, rfl⟩
    by_cases hlt : k < n
    · obtain ⟨yss, hy, hls, hjs⟩ := HY.out
      obtain ⟨b, off, r, m, c, rfl, hlo, hhi, hc, hf, hm, hpl, hne⟩ := hy.at hlt
      have hml : (rowN xss k).length = m := by rw [← hls k hlt]; exact hm.ints.len.out
      have hms := hm.ints.small
      have HP : Hid (K + m = k0 + (pre xss (k + 1) : Nat)) := by
        show _ = _
        rw [HK.out, pre, hml]; omega
      have hmono := pre_mono xss (show k + 1 ≤ n by omega)
      have hKm : K + m ≤ 1000000000000 := by rw [HP.out]; omega
      have hK2 : -1000000000000 ≤ K + m := by omega
      have HM := Lib.hid hm; have HYY := Lib.hid hy; have HLS := Lib.hid hls; have HJ := Lib.hid hjs; have HPL := Lib.hid hpl; have HC := Lib.hid hc
      have HML := Lib.hid hml
      clear hm hy hls hjs hpl hne HY hmono hml
      go_wp2_with fail
      refine (l_mark _ _ _ lo _ _ _ HM.out (by omega) (by omega)).mono ?_; rintro e w2 ⟨rfl, hm2, ho2⟩
      have HT := Lib.hid (HYY.out.turned hlt rfl HC.out hm2 ho2)
      have HO2 := Lib.hid (BW.out.trans (ho2.onlyI HPL.out))
      have hyl := HYY.out.len
      clear hm2 ho2 hc HC
      go_wp2
      go_roundw
      case rel => exact ⟨k + 1, K + m, by omega, by go_num, rfl, by omega, by omega, HP, (show Hid _ from ⟨_, HT.out, fun j hj => by
          rw [rowN_set (by rw [hyl.out]; exact hlt)]
          by_cases ej : j = k
          · rw [if_pos ej, ej, marks_len, HML.out]
          · rw [if_neg ej]; exact HLS.out j hj, fun j hj => by
          rw [rowN_set (by rw [hyl.out]; exact hlt)]
          by_cases ej : j = k
          · rw [if_pos ej, ej, HML.out, HK.out]
          · rw [if_neg ej]; exact HJ.out j (by omega)⟩), HO2.out⟩
      case measure => simp [intOf]; omega
    · obtain rfl : k = n := by omega
      obtain ⟨yss, hy, hls, hjs⟩ := HY.out
      have hyl := hy.len
      obtain rfl : yss = marksR k0 xss := eq_of_rowN (by rw [hyl.out, marksR_len, hlen.out]) (fun j hj => by rw [hyl.out] at hj; rw [hjs j hj, rowN_marksR (by rw [hlen.out]; exact hj)])
      have H := Lib.hid hy; clear hy hjs HY hls
      have HKK := HK
      go_wp2
      go_ret
      exact ⟨by rw [← HKK.out]; try rfl, H.out, BW.out⟩