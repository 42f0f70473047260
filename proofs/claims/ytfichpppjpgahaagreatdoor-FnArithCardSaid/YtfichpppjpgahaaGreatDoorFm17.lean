/-
  Contract: a text is spoilt at one or two places.
  Draws: the text of a circuit, a circuit and values for its inputs.
  The draw of an arithmetic circuit with values for its inputs.
  Contracts of the library: Itoa, Atoi, SplitN, Index, laid at this program.
-/
import Derived.Test.YtfichpppjpgahaaGreatDoorFm1
import Derived.Test.YtfichpppjpgahaaGreatDoorFm4
import Derived.Test.YtfichpppjpgahaaGreatDoorFm3
import Derived.Test.YtfichpppjpgahaaGreatDoorFm10
import Derived.Test.YtfichpppjpgahaaGreatDoorFm12
import Derived.Deep.RegionHeld3
import Derived.Shelf.Strconv.Itoa3
import Derived.Shelf.LaysM
import Derived.Shelf.LaysC
import Derived.Shelf.Strconv.AtoiAll
import Derived.Shelf.Strings.Split
import Derived.Shelf.Slices.Turned
import Derived.Test.YtfichpppjpgahaaGreatDoorProg
namespace Go.Proofs.YtfichpppjpgahaaGreatDoor
open Go.RowKit
set_option linter.unusedVariables false
set_option linter.unusedSimpArgs false
set_option maxRecDepth 10000

set_option maxHeartbeats 8000000 in
theorem s_spoilt (b B0 K : Nat) (t : ByteArray) (w : World) (h : Cur w b B0 K) (hK : K ≤ 100000) (ht : t.size ≤ 1000000) :
    Calls Tryz.prog 35 #[.pointer (some ⟨b, 0, none⟩), .string t, .string ⟨#[48, 49, 32, 97, 109, 10]⟩] w fun e w' => ∃ T : ByteArray, e = .returned (.string T) ∧ T.size ≤ t.size + 2 ∧ Cur w' b B0 (K + 20) ∧ Bex b w w' := by
  have hbl := h.lt
  have hbs := h.base
  go_enter Tryz.func35, Tryz.ntmps35
  go_wp2_with fail
  refine (s_pick b B0 _ 2 _ h (by omega) (by omega)).mono ?_; rintro e w1 ⟨q, rfl, hq, hq', hC1, hX1⟩
  have et : IntKind.i64.wrap (1 + (q : Int)) = (q : Int) + 1 := by rw [IntWalk.i64_in _ (by omega)]; omega
  have HC1 := Lib.hid hC1; have HX1 := Lib.hid hX1; clear hC1 hX1 h
  go_wp2_with fail
  go_loopw [1, 7] (fun s i V => ∃ (m : Nat) (T : ByteArray), m ≤ q + 1 ∧ i = .int .i64 ((q : Int) + 1 - m) ∧ s = .string T ∧ T.size ≤ t.size + m ∧ Hid (Cur V b B0 (K + 2 + 6 * m)) ∧ Hid (Bex b w V)) (fun _ i _ => (intOf i).toNat)
  case atStart => exact ⟨0, t, by omega, by simp, rfl, by omega, HC1, HX1⟩
  case round =>
    clear HC1 HX1
    obtain ⟨m, T, hm, rfl, rfl, hT, HC, HX⟩ := hrel
    by_cases hlt : m < q + 1
    · have hpos : (0 : Int) < (q : Int) + 1 - m := by omega
      have e2 : IntKind.i64.wrap ((q : Int) + 1 - m - 1) = (q : Int) + 1 - m - 1 := IntWalk.i64_in _ (by omega)
      by_cases hz : 0 < T.size
      · have hzi : (0 : Int) < (T.size : Int) := by omega
        go_wp2_with fail
        refine (s_pick b B0 _ T.size _ HC.out (by omega) (by omega)).mono ?_; rintro e w2 ⟨i, rfl, hi, hi', hC2, hX2⟩
        have hin : i < T.size := by omega
        have HC2 := Lib.hid hC2; have HX2 := Lib.hid (HX.out.trans hX2); clear hC2 hX2 HC HX
        go_wp2_with fail
        refine (s_pick b B0 _ 6 _ HC2.out (by omega) (by omega)).mono ?_; rintro e w3 ⟨j, rfl, hj, hj', hC3, hX3⟩
        have HC3 := Lib.hid hC3; have HX3 := Lib.hid (HX2.out.trans hX3); clear hC3 hX3 HC2 HX2
        have hj6 : j < (⟨#[48, 49, 32, 97, 109, 10]⟩ : ByteArray).size := by show j < 6; omega
        obtain ⟨u, hu⟩ : ∃ u : UInt8, (⟨#[48, 49, 32, 97, 109, 10]⟩ : ByteArray)[j] = u := ⟨_, rfl⟩
        have kc := conv1 u _ rfl (w3.alloc (.cells #[.int .u8 (u.toNat : Int)] 5)) w3.heap.size (World.cell?_alloc_at _ _ _ _ rfl)
        have A3 := bel_alloc w3 (.cells #[.int .u8 (u.toNat : Int)] 5)
        have HC4 := Lib.hid (HC3.out.below A3); have HX4 := Lib.hid (HX3.out.trans (Bex.of A3)); clear A3 HC3 HX3
        go_wp2_with fail
        refine (s_pick b B0 _ 3 _ HC4.out (by omega) (by omega)).mono ?_; rintro e w5 ⟨k, rfl, hk, hk', hC5, hX5⟩
        have HC5 := Lib.hid hC5; have HX5 := Lib.hid (HX4.out.trans hX5); clear hC5 hX5 HC4 HX4 kc hu hj6
        have hbs1 : (B [u]).size = 1 := B_size _
        have hii : (i : Int) ≤ (T.size : Int) := by omega
        have hii2 : (i : Int) + 1 ≤ (T.size : Int) := by omega
        have ei : IntKind.i64.wrap ((i : Int) + 1) = ((i + 1 : Nat) : Int) := by rw [IntWalk.i64_in _ (by omega)]; omega
        rcases (show k = 0 ∨ k = 1 ∨ 2 ≤ k by omega) with rfl | rfl | hk2
        · have f1 : ¬ 9223372036854775807 < min i T.size + 1 := by omega
          have f2 : ¬ 9223372036854775807 < min i T.size + 1 + (T.size - i) := by omega
          go_wp2_with fail
          go_region
          go_wp2
          go_roundw
          case rel => exact ⟨m + 1, _, by omega, by first | go_num | (simp; omega), rfl, by simp [hbs1]; omega, (show Hid _ from by first | exact (HC5.out.more (by omega)) | exact ((HC5.out.below (bel_drew _)).more (by omega))), (show Hid _ from by first | exact HX5.out | exact HX5.out.trans (Bex.of (bel_drew _)))⟩
          case measure => simp [intOf]; omega
        · have f1 : ¬ 9223372036854775807 < min i T.size + 1 := by omega
          have f2 : ¬ 9223372036854775807 < min i T.size + 1 + (T.size - (i + 1)) := by omega
          go_wp2_with fail
          go_region
          go_wp2
          go_roundw
          case rel => exact ⟨m + 1, _, by omega, by first | go_num | (simp; omega), rfl, by simp [hbs1]; omega, (show Hid _ from by first | exact (HC5.out.more (by omega)) | exact ((HC5.out.below (bel_drew _)).more (by omega))), (show Hid _ from by first | exact HX5.out | exact HX5.out.trans (Bex.of (bel_drew _)))⟩
          case measure => simp [intOf]; omega
        · have hk0 : ((k : Int) == 0) = false := by simp only [beq_eq_false_iff_ne, ne_eq]; omega
          have hk1 : ((k : Int) == 1) = false := by simp only [beq_eq_false_iff_ne, ne_eq]; omega
          have f2 : ¬ 9223372036854775807 < min i T.size + (T.size - (i + 1)) := by omega
          go_wp2_with fail
          go_region
          go_wp2
          go_roundw
          case rel => exact ⟨m + 1, _, by omega, by first | go_num | (simp; omega), rfl, by simp [hbs1]; omega, (show Hid _ from by first | exact (HC5.out.more (by omega)) | exact ((HC5.out.below (bel_drew _)).more (by omega))), (show Hid _ from by first | exact HX5.out | exact HX5.out.trans (Bex.of (bel_drew _)))⟩
          case measure => simp [intOf]; omega
      · have hz0 : T.size = 0 := by omega
        go_wp2
        go_ret
        exact ⟨T, rfl, by omega, HC.out.more (by omega), HX.out⟩
    · obtain rfl : m = q + 1 := by omega
      have hpos : ¬ (0 : Int) < (q : Int) + 1 - ((q + 1 : Nat) : Int) := by omega
      go_wp2
      go_ret
      exact ⟨T, rfl, by omega, HC.out.more (by omega), HX.out⟩
end Go.Proofs.YtfichpppjpgahaaGreatDoor
namespace Go.Proofs.YtfichpppjpgahaaGreatDoor
open Go.RowKit
set_option linter.unusedVariables false
set_option linter.unusedSimpArgs false
set_option maxRecDepth 10000

theorem textL_len {p i0 i1 : Int} {gs os : List Int} {gn : Nat} (hp : 0 ≤ p ∧ p ≤ 1000) (h0 : 0 ≤ i0 ∧ i0 ≤ 1000) (h1 : 0 ≤ i1 ∧ i1 ≤ 1000) (hg : okG gs gn) (ho : okN os) (hgn : gn ≤ 100) (hon : os.length ≤ 100) : (textL p i0 i1 gs gn os).length ≤ 4000 := by
  have a := headL_le (p := p) (i0 := i0) (i1 := i1) (by omega) (by omega) (by omega)
  have b := gLines_le hg
  have c := oNums_le ho (n := os.length) (Nat.le_refl _)
  simp only [textL, wordO, List.length_append, List.length_cons, List.length_nil]
  omega
set_option maxHeartbeats 8000000 in
theorem s_DrawParseArith (a : Option Addr) (n cap : Nat) (w : World) (hB : Byts w a n cap) :
    Calls Tryz.prog 9 #[.slice a n cap] w fun e w' => ∃ l : List UInt8, e = .returned (.string (B l)) ∧ l.length ≤ 10000 ∧ Below w.heap.size w w' := by
  have A0 := bel_alloc w (.cells #[.slice a n cap, .int .i64 0, .int .u64 0] 46)
  have h0 := Cur.new (t := 46) hB hB.und (Nat.le_refl _)
  go_enter Tryz.func9, Tryz.ntmps9
  go_wp2_with fail
  refine (s_arith w.heap.size w.heap.size 0 _ h0 (by omega)).mono ?_; rintro e w1 ⟨p, i0, i1, v2, gn, gs, v3, on, os, rfl, ⟨hp0, hp1⟩, ⟨hi0, hi0'⟩, ⟨hi1, hi1'⟩, hR, hgn, hon, hC1, hX1, hK, hO⟩
  obtain ⟨ga, gc, rfl⟩ := own_sl hR.og
  obtain ⟨oa, oc, rfl⟩ := own_sl hR.oo
  have hCi := hR.circ (by omega) (by omega)
  have hlo := hCi.o.len.out
  have HT := Lib.hid (s_arText p i0 i1 ga gn gc gs oa on oc os w1 hCi (by omega) (by omega) (by omega) hK hO (by omega) (by omega))
  have hl := textL_len (p := p) (i0 := i0) (i1 := i1) (by omega) (by omega) (by omega) hK hO (by omega) (by omega)
  obtain ⟨t, ht⟩ : ∃ t, textL p i0 i1 gs gn os = t := ⟨_, rfl⟩
  rw [ht] at HT hl
  have BX := Lib.hid (Below.bex A0 hX1 (Nat.le_refl _) (by simp))
  have HC1 := Lib.hid hC1
  clear ht hR hCi hlo hK hO hC1 hX1 A0 h0 hB
  go_wp2_with fail
  refine HT.out.mono ?_; rintro e w2 ⟨rfl, hb2⟩
  have hz1 := HC1.out.lt
  have BX2 := Lib.hid (BX.out.trans (hb2.mono (by omega)))
  go_wp2_with fail
  refine (s_one w.heap.size w.heap.size _ 3 _ (HC1.out.below hb2) (by omega) (by omega)).mono ?_; rintro e w3 ⟨q, rfl, hC3, hX3⟩
  have hz2 := BX2.out.size
  have BX3 := Lib.hid (Below.bex BX2.out hX3 (Nat.le_refl _) hz2)
  cases q with
  | false =>
    go_wp2
    go_ret
    exact ⟨t, rfl, by omega, BX3.out⟩
  | true =>
    have hs : (B t).size ≤ 4000 := by rw [B_size]; exact hl
    generalize B t = T at hs ⊢
    go_wp2_with fail
    refine (s_spoilt w.heap.size w.heap.size _ T _ hC3 (by omega) (by omega)).mono ?_; rintro e w4 ⟨T', rfl, hT', hC4, hX4⟩
    have hz3 := BX3.out.size
    have BX4 := Lib.hid (Below.bex BX3.out hX4 (Nat.le_refl _) hz3)
    go_wp2
    go_ret
    refine ⟨T'.data.toList, congrArg (fun s => Ending.returned (.string s)) (B_of T'), ?_, BX4.out⟩
    have : T'.data.toList.length = T'.size := by show T'.data.toList.length = T'.data.size; exact Array.length_toList
    omega
set_option maxHeartbeats 8000000 in
theorem s_given (b L K : Nat) (p x0 x1 : Int) (ga : Option Addr) (gn gc : Nat) (oa : Option Addr) (on oc : Nat) (w : World) (h : Cur w b L K) (hK : K ≤ 100000) (hp : 1 ≤ p ∧ p ≤ 253) (hx0 : -1 ≤ x0 ∧ x0 ≤ 9) (hx1 : 0 ≤ x1 ∧ x1 ≤ 2) :
    Calls Tryz.prog 23 #[.pointer (some ⟨b, 0, none⟩), .agg #[.int .i64 p, .int .i64 x0, .int .i64 x1, .slice ga gn gc, .slice oa on oc]] w fun e w' => ∃ (ra : Option Addr) (rn rc : Nat) (us : List Int) (sa : Option Addr) (sn sc : Nat) (vs : List Int), e = .returned (.tuple #[.slice ra rn rc, .slice sa sn sc]) ∧ Mine w' w.heap.size ra rn rc us ∧ Mine w' w.heap.size sa sn sc vs ∧ rn ≤ 10 ∧ sn ≤ 10 ∧ Cur w' b L (K + 100) ∧ Bex b w w' := by
  obtain ⟨hp0, hp1⟩ := hp; obtain ⟨hx00, hx01⟩ := hx0; obtain ⟨hx10, hx11⟩ := hx1
  have hbl := h.lt; have hbs := h.base
  have A0 := bel_alloc w (.cells #[.int .i64 p, .int .i64 x0, .int .i64 x1, .slice ga gn gc, .slice oa on oc] 26)
  have g0 := B5.new (w := w) (x0 := .int .i64 p) (x1 := .int .i64 x0) (x2 := .int .i64 x1) (x3 := .slice ga gn gc) (x4 := .slice oa on oc) (t := 26)
  have hz : (w.alloc (.cells #[.int .i64 p, .int .i64 x0, .int .i64 x1, .slice ga gn gc, .slice oa on oc] 26)).heap.size = w.heap.size + 1 := by simp
  have hC0 := h.below A0
  obtain ⟨W1, hW1⟩ : ∃ X, w.alloc (.cells #[.int .i64 p, .int .i64 x0, .int .i64 x1, .slice ga gn gc, .slice oa on oc] 26) = X := ⟨_, rfl⟩
  rw [hW1] at A0 g0 hC0 hz
  obtain ⟨P, hP⟩ : ∃ P : Int, max 2 p = P := ⟨_, rfl⟩
  have hP9 : 2 ≤ P ∧ P ≤ 253 := by omega
  obtain ⟨hP1, hP2⟩ := hP9
  obtain ⟨N0, hN0⟩ : ∃ N : Nat, max 0 x0 = (N : Int) := ⟨x0.toNat, by omega⟩
  obtain ⟨N1, hN1⟩ : ∃ N : Nat, max 0 x1 = (N : Int) := ⟨x1.toNat, by omega⟩
  have hN09 : N0 ≤ 9 := by omega
  have hN19 : N1 ≤ 2 := by omega
  have HP := Lib.hid hP; have HN0 := Lib.hid hN0; have HN1 := Lib.hid hN1
  have hne : w.heap.size ≠ b := by omega
  clear hP hN0 hN1 h
  obtain ⟨c0, c1, c2, c3, c4⟩ := id g0
  go_enter Tryz.func23, Tryz.ntmps23
  go_wp2_with fail
  refine (s_l1MostA 2 p _).mono ?_; rintro e wl ⟨he, rfl⟩; rw [HP.out] at he; subst he
  replace c1 := cell_on c1 (bel_drew W1); replace c2 := cell_on c2 (bel_drew W1)
  clear c0 c3 c4
  go_wp2_with fail
  refine wp_region_held_drew (S := (fun W => W.cell? ⟨w.heap.size, 1, none⟩ = some (.int .i64 x0) ∧ W.cell? ⟨w.heap.size, 2, none⟩ = some (.int .i64 x1))) (by kernel_rfl) (by exact ⟨c1, c2⟩) (fun hHeld => ?_)
  refine wpAnyH_take (i := 0) (oi := ?oi0_1) (v := ?v0_1) ?ho0_1 (by kernel_rfl) (by kernel_rfl) (by kernel_rfl) ?hQ0_1 ?hy0_1 hHeld ?hr0_1
  case ho0_1 => simp only [List.getElem?_toArray, List.getElem?_cons_succ, List.getElem?_cons_zero]; rfl
  case hQ0_1 => exact fun _ _ _ h => h
  case hy0_1 => exact Or.inl ⟨by rfl, by (intro w hSw; go_simp; try with_reducible rfl)⟩
  try simp only [Act.put, List.setIfInBounds_toArray, List.set_cons_zero, List.set_cons_succ]
  refine wpAnyH_take (i := 1) (oi := ?oi1_1) (v := ?v1_1) ?ho1_1 (by kernel_rfl) (by kernel_rfl) (by kernel_rfl) ?hQ1_1 ?hy1_1 hHeld ?hr1_1
  case ho1_1 => simp only [List.getElem?_toArray, List.getElem?_cons_succ, List.getElem?_cons_zero]; rfl
  case hQ1_1 => exact fun _ _ _ h => h
  case hy1_1 => exact Or.inl ⟨by rfl, by (intro w hSw; go_simp; try with_reducible rfl)⟩
  try simp only [Act.put, List.setIfInBounds_toArray, List.set_cons_zero, List.set_cons_succ]
  refine wpAnyH_take (i := 2) (oi := ?oi2_1) (v := ?v2_1) ?ho2_1 (by kernel_rfl) (by kernel_rfl) (by kernel_rfl) ?hQ2_1 ?hy2_1 hHeld ?hr2_1
  case ho2_1 => simp only [List.getElem?_toArray, List.getElem?_cons_succ, List.getElem?_cons_zero]; rfl
  case hQ2_1 => exact fun _ _ _ h => h
  case hy2_1 => exact Or.inl ⟨by rfl, by (intro w hSw; go_simp; try with_reducible rfl)⟩
  try simp only [Act.put, List.setIfInBounds_toArray, List.set_cons_zero, List.set_cons_succ]
  refine wpAnyH_take (i := 3) (oi := ?oi3_1) (v := ?v3_1) ?ho3_1 (by kernel_rfl) (by kernel_rfl) (by kernel_rfl) ?hQ3_1 ?hy3_1 hHeld ?hr3_1
  case ho3_1 => simp only [List.getElem?_toArray, List.getElem?_cons_succ, List.getElem?_cons_zero]; rfl
  case hQ3_1 => exact fun _ _ _ h => h
  case hy3_1 => exact Or.inl ⟨by rfl, by (intro w hSw; go_simp; try with_reducible rfl)⟩
  try simp only [Act.put, List.setIfInBounds_toArray, List.set_cons_zero, List.set_cons_succ]
  refine wpAnyH_take (i := 6) (oi := ?oi6_1) (v := ?v6_1) ?ho6_1 (by kernel_rfl) (by kernel_rfl) (by kernel_rfl) ?hQ6_1 ?hy6_1 hHeld ?hr6_1
  case ho6_1 => simp only [List.getElem?_toArray, List.getElem?_cons_succ, List.getElem?_cons_zero]; rfl
  case hQ6_1 => exact fun _ _ _ h => h
  case hy6_1 => exact Or.inl ⟨by rfl, by (intro w hSw; go_simp; try with_reducible rfl)⟩
  try simp only [Act.put, List.setIfInBounds_toArray, List.set_cons_zero, List.set_cons_succ]
  refine wpAnyH_take (i := 7) (oi := ?oi7_1) (v := ?v7_1) ?ho7_1 (by kernel_rfl) (by kernel_rfl) (by kernel_rfl) ?hQ7_1 ?hy7_1 hHeld ?hr7_1
  case ho7_1 => simp only [List.getElem?_toArray, List.getElem?_cons_succ, List.getElem?_cons_zero]; rfl
  case hQ7_1 => exact fun _ _ _ h => h
  case hy7_1 => exact Or.inl ⟨by rfl, by (intro w hSw; go_simp; try with_reducible rfl)⟩
  try simp only [Act.put, List.setIfInBounds_toArray, List.set_cons_zero, List.set_cons_succ]
  refine wpAnyH_take (i := 8) (oi := ?oi8_1) (v := ?v8_1) ?ho8_1 (by kernel_rfl) (by kernel_rfl) (by kernel_rfl) ?hQ8_1 ?hy8_1 hHeld ?hr8_1
  case ho8_1 => simp only [List.getElem?_toArray, List.getElem?_cons_succ, List.getElem?_cons_zero]; rfl
  case hQ8_1 => exact fun _ _ _ h => h
  case hy8_1 => exact Or.inl ⟨by rfl, by (intro w hSw; go_simp; try with_reducible rfl)⟩
  try simp only [Act.put, List.setIfInBounds_toArray, List.set_cons_zero, List.set_cons_succ]
  refine wpAnyH_take (i := 9) (oi := ?oi9_1) (v := ?v9_1) ?ho9_1 (by kernel_rfl) (by kernel_rfl) (by kernel_rfl) ?hQ9_1 ?hy9_1 hHeld ?hr9_1
  case ho9_1 => simp only [List.getElem?_toArray, List.getElem?_cons_succ, List.getElem?_cons_zero]; rfl
  case hQ9_1 => exact fun _ _ _ h => h
  case hy9_1 => exact Or.inl ⟨by rfl, by (intro w hSw; go_simp; try with_reducible rfl)⟩
  try simp only [Act.put, List.setIfInBounds_toArray, List.set_cons_zero, List.set_cons_succ]
  refine wpAnyH_ready (rs := [4]) (by kernel_rfl) (by simp) ?_
  refine AllReadyH.cons (o := ?o4_1) ?ho4_1 (fun KK hK => ?hs4_1) AllReadyH.nil
  case ho4_1 => simp only [List.getElem?_toArray, List.getElem?_cons_succ, List.getElem?_cons_zero]; rfl
  go_simp
  go_at_call 57; refine (s_l1MostA 0 x0 _).mono ?_; rintro e wl2 ⟨he, rfl⟩; rw [HN0.out] at he; subst he
  refine hK.out _ _ ?hS4_1 (fun hHeld => ?hr4_1)
  case hS4_1 => exact ⟨c1, c2⟩
  clear hK KK
  try simp only [Act.put, List.setIfInBounds_toArray, List.set_cons_zero, List.set_cons_succ]
  refine wpAnyH_ready (rs := [5]) (by kernel_rfl) (by simp) ?_
  refine AllReadyH.cons (o := ?o5_1) ?ho5_1 (fun KK hK => ?hs5_1) AllReadyH.nil
  case ho5_1 => simp only [List.getElem?_toArray, List.getElem?_cons_succ, List.getElem?_cons_zero]; rfl
  go_simp
  go_at_call 58; refine (s_elements b L K P N0 _ (hC0.below (bel_drew _)) (by omega) (by unfold Dr; omega) (by omega)).mono ?_; rintro e w4 ⟨ra, rc, us, rfl, hO4, hC4, hX4⟩; replace c1 := hX4.cell c1 hne; replace c2 := hX4.cell c2 hne
  refine hK.out _ _ ?hS5_1 (fun hHeld => ?hr5_1)
  case hS5_1 => exact ⟨c1, c2⟩
  clear hK KK
  try simp only [Act.put, List.setIfInBounds_toArray, List.set_cons_zero, List.set_cons_succ]
  refine wpAnyH_ready (rs := [10]) (by kernel_rfl) (by simp) ?_
  refine AllReadyH.cons (o := ?o10_1) ?ho10_1 (fun KK hK => ?hs10_1) AllReadyH.nil
  case ho10_1 => simp only [List.getElem?_toArray, List.getElem?_cons_succ, List.getElem?_cons_zero]; rfl
  go_simp
  go_at_call 57; refine (s_l1MostA 0 x1 _).mono ?_; rintro e wl3 ⟨he, rfl⟩; rw [HN1.out] at he; subst he
  refine hK.out _ _ ?hS10_1 (fun hHeld => ?hr10_1)
  case hS10_1 => exact ⟨c1, c2⟩
  clear hK KK
  try simp only [Act.put, List.setIfInBounds_toArray, List.set_cons_zero, List.set_cons_succ]
  refine wpAnyH_ready (rs := [11]) (by kernel_rfl) (by simp) ?_
  refine AllReadyH.cons (o := ?o11_1) ?ho11_1 (fun KK hK => ?hs11_1) AllReadyH.nil
  case ho11_1 => simp only [List.getElem?_toArray, List.getElem?_cons_succ, List.getElem?_cons_zero]; rfl
  go_simp
  go_at_call 58; refine (s_elements b L _ P N1 _ hC4 (by omega) (by unfold Dr; omega) (by omega)).mono ?_; rintro e w5 ⟨sa, sc, vs, rfl, hO5, hC5, hX5⟩; replace c1 := hX5.cell c1 hne; replace c2 := hX5.cell c2 hne
  refine hK.out _ _ ?hS11_1 (fun hHeld => ?hr11_1)
  case hS11_1 => exact ⟨c1, c2⟩
  clear hK KK
  try simp only [Act.put, List.setIfInBounds_toArray, List.set_cons_zero, List.set_cons_succ]
  refine wpAnyH_take (i := 12) (oi := ?oi12_1) (v := ?v12_1) ?ho12_1 (by kernel_rfl) (by kernel_rfl) (by kernel_rfl) ?hQ12_1 ?hy12_1 hHeld ?hr12_1
  case ho12_1 => simp only [List.getElem?_toArray, List.getElem?_cons_succ, List.getElem?_cons_zero]; rfl
  case hQ12_1 => exact fun _ _ _ h => h
  case hy12_1 => exact Or.inl ⟨by rfl, by (intro w hSw; go_simp; try with_reducible rfl)⟩
  try simp only [Act.put, List.setIfInBounds_toArray, List.set_cons_zero, List.set_cons_succ]
  refine wpAnyH_take (i := 13) (oi := ?oi13_1) (v := ?v13_1) ?ho13_1 (by kernel_rfl) (by kernel_rfl) (by kernel_rfl) ?hQ13_1 ?hy13_1 hHeld ?hr13_1
  case ho13_1 => simp only [List.getElem?_toArray, List.getElem?_cons_succ, List.getElem?_cons_zero]; rfl
  case hQ13_1 => exact fun _ _ _ h => h
  case hy13_1 => exact Or.inl ⟨by rfl, by (intro w hSw; go_simp; try with_reducible rfl)⟩
  try simp only [Act.put, List.setIfInBounds_toArray, List.set_cons_zero, List.set_cons_succ]
  refine wpAnyH_done (by kernel_rfl) ?_ _
  have HX5 := Lib.hid ((((Bex.of (b := b) A0).trans (Bex.of (bel_drew _))).trans hX4).trans hX5)
  have hz4 := hX4.size
  have hz5 := hX5.size
  have hzd := (bel_drew W1).size
  have HR5 := Lib.hid ((hO4.bex hX5 (by omega)).base (B' := w.heap.size + 1) (by omega))
  have hr4 := fun q hq => (World.ownsRow.lt hO4.own q hq).2
  have HS5 := Lib.hid hO5
  have hCz := Lib.hid hC5
  clear c1 c2 hO4 hC4 hX4 hO5 hC5 hX5 hC0 A0 g0 hHeld
  have hr4 := Lib.hid hr4
  go_wp2_with fail
  refine (s_one b L _ 16 _ hCz.out (by omega) (by omega)).mono ?_; rintro e w6 ⟨q, rfl, hC6, hX6⟩
  have HX6 := Lib.hid (HX5.out.trans hX6)
  have hz6 := hX6.size
  have HR6 := Lib.hid (HR5.out.bex hX6 (by omega))
  have HS6 := Lib.hid (HS5.out.bex hX6 (by omega))
  have HC6 := Lib.hid hC6
  clear hC6 hX6 HR5 HS5 HX5 hCz
  cases q with
  | false =>
    go_wp2
    go_ret2
    exact ⟨ra, N0, rc, us, sa, N1, sc, vs, rfl, (HR6.out.base (by omega)).mine, (HS6.out.base (by omega)).mine, by omega, by omega, HC6.out.more (by omega), HX6.out⟩
  | true =>
    go_wp2_with (at_builtin; refine wp_app w6 (w.heap.size + 1) N0 _ us 0 _ _ rfl _ _ rfl rfl rfl rfl HR6.out.own (by omega) (by omega) ?_; intro v9 w9 hv9 hb9 hg9)
    have HS9 := ownsRow_keptNe (HS6.out.below (bel_alloc w6 _)).own hg9 (fun q hq e => by
      have h1 := hr4.out q e
      have h2 := (World.ownsRow.lt HS6.out.own q hq).1
      omega)
    obtain ⟨t9, q9, rfl, hO9⟩ := OwnI.of hv9 (by omega) (fun x hx => by rcases List.mem_append.1 hx with e | e; exact HR6.out.ints.wf x e; simp at e; subst e; unfold Fits; omega)
    obtain ⟨t8, q8, e8, hO8⟩ := OwnI.of HS9 (by omega) HS6.out.ints.wf
    simp only [Value.slice.injEq, true_and] at e8
    obtain ⟨rfl, rfl⟩ := e8
    go_wp2
    go_ret2
    exact ⟨t9, N0 + 1, q9, _, sa, N1, sc, vs, rfl, (hO9.base (by omega)).mine, (hO8.base (by omega)).mine, by omega, by omega, (HC6.out.onB hb9 (by omega)).more (by omega), HX6.out.thenB (hb9.mono (by omega))⟩
end Go.Proofs.YtfichpppjpgahaaGreatDoor
namespace Go.Proofs.YtfichpppjpgahaaGreatDoor
open Go.RowKit
set_option linter.unusedVariables false
set_option linter.unusedSimpArgs false
set_option maxRecDepth 10000

/-- What DrawArithValues hands back. -/
def AvRet (w : World) (e : Ending) (w' : World) : Prop :=
  ∃ (p x0 x1 : Int) (ga : Option Addr) (gn gc : Nat) (gs : List Int) (oa : Option Addr) (on oc : Nat) (os : List Int) (ra : Option Addr) (rn rc : Nat) (us : List Int) (sa : Option Addr) (sn sc : Nat) (vs : List Int), e = .returned (.tuple #[.agg #[.int .i64 p, .int .i64 x0, .int .i64 x1, .slice ga gn gc, .slice oa on oc], .slice ra rn rc, .slice sa sn sc]) ∧ Circ w' ga gn gc gs oa on oc os ∧ Ints w' ra rn rc us ∧ Ints w' sa sn sc vs ∧ on ≤ 30 ∧ Below w.heap.size w w'
set_option maxHeartbeats 8000000 in
theorem s_DrawArithValues (a : Option Addr) (n cap : Nat) (w : World) (hB : Byts w a n cap) :
    Calls Tryz.prog 4 #[.slice a n cap] w (AvRet w) := by
  have A0 := bel_alloc w (.cells #[.int .i64 0, .int .i64 0, .int .i64 0, .slice none 0 0, .slice none 0 0] 26)
  have r0 := B5w.new (w := w) (x0 := .int .i64 0) (x1 := .int .i64 0) (x2 := .int .i64 0) (x3 := .slice none 0 0) (x4 := .slice none 0 0) (t := 26)
  have hB1 := hB.below A0
  have h0 := Cur.new (t := 46) hB1 hB.und (by simp)
  have hs0 : (w.alloc (.cells #[.int .i64 0, .int .i64 0, .int .i64 0, .slice none 0 0, .slice none 0 0] 26)).heap.size = w.heap.size + 1 := by simp
  rw [hs0] at h0
  have A1 := bel_alloc (w.alloc (.cells #[.int .i64 0, .int .i64 0, .int .i64 0, .slice none 0 0, .slice none 0 0] 26)) (.cells #[.slice a n cap, .int .i64 0, .int .u64 0] 46)
  have RR := Lib.hid (r0.on A1)
  have BB := Lib.hid (bel_trans A0 A1)
  have z1 : ((w.alloc (.cells #[.int .i64 0, .int .i64 0, .int .i64 0, .slice none 0 0, .slice none 0 0] 26)).alloc (.cells #[.slice a n cap, .int .i64 0, .int .u64 0] 46)).heap.size = w.heap.size + 2 := by simp
  go_enter Tryz.func4, Tryz.ntmps4
  clear A0 r0 hB1 A1 hB
  go_wp2_with fail
  refine (s_anyArith (w.heap.size + 1) w.heap.size 0 _ h0 (by omega)).mono ?_; rintro e w1 ⟨p, x0, x1, v2, gn, gs, v3, m, os, rfl, ⟨hp0, hp1⟩, ⟨hx0, hx0'⟩, ⟨hx1, hx1'⟩, hR, hgn, hm, hC1, hX1⟩
  have hz1 := hX1.size
  rw [z1] at hR hz1
  have hA := AnyA.new (t := 26) (x0 := p) (x1 := x0) (x2 := x1) hR hz1
  have A2 := bel_alloc w1 (.cells #[.int .i64 p, .int .i64 x0, .int .i64 x1, v2, v3] 26)
  obtain ⟨ga, gc, rfl⟩ := own_sl hR.og
  obtain ⟨oa, oc, rfl⟩ := own_sl hR.oo
  have hC2 := hC1.below A2
  have hX2 := hX1.trans (Bex.of A2)
  have hbg : w.heap.size + 1 < w.heap.size + 2 := by omega
  have hgL : w.heap.size + 2 ≤ w1.heap.size := hz1
  have HA := Lib.hid hA; have HX := Lib.hid hX2
  obtain ⟨c0, c1, c2, c3, c4⟩ := id hA.box.r
  clear hA hX2 hX1 hC1 A2 hR h0
  go_wp2_with fail
  have hz2 : w1.heap.size < (w1.alloc (.cells #[.int .i64 p, .int .i64 x0, .int .i64 x1, .slice ga gn gc, .slice oa m oc] 26)).heap.size := by simp
  refine (s_given (w.heap.size + 1) w.heap.size _ p x0 x1 ga gn gc oa m oc _ hC2 (by omega) ⟨hp0, hp1⟩ ⟨hx0, hx0'⟩ ⟨hx1, hx1'⟩).mono ?_; rintro e w3 ⟨ra, rn, rc, us, sa, sn, sc, vs, rfl, hU, hV, hrn, hsn, hC3, hX3⟩
  have XX := Lib.hid (HX.out.trans hX3)
  have AA := Lib.hid (HA.out.bex hX3 hbg)
  have UU := Lib.hid hU; have VV := Lib.hid hV
  clear c0 c1 c2 c3 c4 HA HX hC2 hC3 hX3 hU hV
  obtain ⟨c0, c1, c2, c3, c4⟩ := id AA.out.box.r
  have R5 := RR.out.bex XX.out (by omega)
  have E5 := Lib.hid (R5.set (.int .i64 p) (.int .i64 x0) (.int .i64 x1) (.slice ga gn gc) (.slice oa m oc))
  have F1 := Lib.hid ((AA.out.r.bex (Bex.only5 (g := w.heap.size) _ (.int .i64 p) (.int .i64 x0) (.int .i64 x1) (.slice ga gn gc) (.slice oa m oc)) (by omega)).circ (by omega) (by omega))
  have F2 := Lib.hid (UU.out.bex (Bex.only5 (g := w.heap.size) _ (.int .i64 p) (.int .i64 x0) (.int .i64 x1) (.slice ga gn gc) (.slice oa m oc)) (by omega)).ints
  have F3 := Lib.hid (VV.out.bex (Bex.only5 (g := w.heap.size) _ (.int .i64 p) (.int .i64 x0) (.int .i64 x1) (.slice ga gn gc) (.slice oa m oc)) (by omega)).ints
  have F4 := Lib.hid (bel_set5 (Below.bex BB.out XX.out (by omega) (by omega)) (Nat.le_refl _) (.int .i64 p) (.int .i64 x0) (.int .i64 x1) (.slice ga gn gc) (.slice oa m oc))
  clear AA XX UU VV
  obtain ⟨⟨r0, r1, r2, r3, r4⟩, s0, s1, s2, s3, s4⟩ := R5
  go_wp2
  obtain ⟨E0, E1, E2, E3, E4⟩ := id E5.out.r
  exact bodyPost_ret (v := .tuple #[.agg #[.int .i64 p, .int .i64 x0, .int .i64 x1, .slice ga gn gc, .slice oa m oc], .slice ra rn rc, .slice sa sn sc]) (by simp [results, Tryz.results4, go_sem, E0, E1, E2, E3, E4]) rfl ⟨p, x0, x1, ga, gn, gc, _, oa, m, oc, os, ra, rn, rc, us, sa, sn, sc, vs, rfl, F1.out, F2.out, F3.out, by omega, F4.out⟩
end Go.Proofs.YtfichpppjpgahaaGreatDoor
namespace Go.Proofs.YtfichpppjpgahaaGreatDoor
open Go.Shelf
def Tryz.laysM171_ren : Go.Shelf.Ren := ⟨fun | 171 => 73 | 243 => 82 | 246 => 92 | 283 => 101 | 284 => 102 | 285 => 103 | 286 => 104 | 129 => 110 | 317 => 109 | 318 => 111 | 319 => 112 | 320 => 113 | 337 => 114 | 338 => 115 | n => n, fun | 3 => 3 | 9 => 9 | 2 => 2 | 4 => 4 | 171 => 109 | 0 => 0 | 53 => 44 | 37 => 22 | 5 => 5 | 173 => 112 | 212 => 128 | 51 => 118 | 20 => 20 | 213 => 129 | 46 => 92 | 232 => 132 | 233 => 133 | n => n, fun | 17 => 6 | 18 => 7 | 19 => 8 | n => n⟩
theorem Tryz.laysM171 : Go.Proofs.LaysM.n171 Tryz.prog Tryz.laysM171_ren := {
  mixed := by kernel_rfl
  f129 := Tryz.func110.trans (congrArg some (by kernel_rfl))
  f171 := Tryz.func73.trans (congrArg some (by kernel_rfl))
  f243 := Tryz.func82.trans (congrArg some (by kernel_rfl))
  f246 := Tryz.func92.trans (congrArg some (by kernel_rfl))
  f283 := Tryz.func101.trans (congrArg some (by kernel_rfl))
  f284 := Tryz.func102.trans (congrArg some (by kernel_rfl))
  f285 := Tryz.func103.trans (congrArg some (by kernel_rfl))
  f286 := Tryz.func104.trans (congrArg some (by kernel_rfl))
  f317 := Tryz.func109.trans (congrArg some (by kernel_rfl))
  f318 := Tryz.func111.trans (congrArg some (by kernel_rfl))
  f319 := Tryz.func112.trans (congrArg some (by kernel_rfl))
  f320 := Tryz.func113.trans (congrArg some (by kernel_rfl))
  f337 := Tryz.func114.trans (congrArg some (by kernel_rfl))
  f338 := Tryz.func115.trans (congrArg some (by kernel_rfl))
  t0 := Tryz.underlying0
  a0 := Tryz.isAgg0
  z0 := Tryz.sizeOf0
  v0 := Tryz.zeroValue0
  t2 := Tryz.underlying2
  a2 := Tryz.isAgg2
  z2 := Tryz.sizeOf2
  v2 := Tryz.zeroValue2
  t3 := Tryz.underlying3
  a3 := Tryz.isAgg3
  z3 := Tryz.sizeOf3
  v3 := Tryz.zeroValue3
  t4 := Tryz.underlying4
  a4 := Tryz.isAgg4
  z4 := Tryz.sizeOf4
  v4 := Tryz.zeroValue4
  t5 := Tryz.underlying5
  a5 := Tryz.isAgg5
  z5 := Tryz.sizeOf5
  v5 := Tryz.zeroValue5
  t9 := Tryz.underlying9
  a9 := Tryz.isAgg9
  z9 := Tryz.sizeOf9
  v9 := Tryz.zeroValue9
  t20 := Tryz.underlying20
  a20 := Tryz.isAgg20
  z20 := Tryz.sizeOf20
  v20 := Tryz.zeroValue20
  t37 := Tryz.underlying22
  a37 := Tryz.isAgg22
  z37 := Tryz.sizeOf22
  v37 := Tryz.zeroValue22
  t46 := Tryz.underlying92
  a46 := Tryz.isAgg92
  z46 := Tryz.sizeOf92
  v46 := Tryz.zeroValue92
  t51 := Tryz.underlying118
  a51 := Tryz.isAgg118
  z51 := Tryz.sizeOf118
  v51 := Tryz.zeroValue118
  t53 := Tryz.underlying44
  a53 := Tryz.isAgg44
  z53 := Tryz.sizeOf44
  v53 := Tryz.zeroValue44
  t171 := Tryz.underlying109
  a171 := Tryz.isAgg109
  z171 := Tryz.sizeOf109
  v171 := Tryz.zeroValue109
  t173 := Tryz.underlying112
  a173 := Tryz.isAgg112
  z173 := Tryz.sizeOf112
  v173 := Tryz.zeroValue112
  t212 := Tryz.underlying128
  a212 := Tryz.isAgg128
  z212 := Tryz.sizeOf128
  v212 := Tryz.zeroValue128
  t213 := Tryz.underlying129
  a213 := Tryz.isAgg129
  z213 := Tryz.sizeOf129
  t232 := Tryz.underlying132
  a232 := Tryz.isAgg132
  z232 := Tryz.sizeOf132
  v232 := Tryz.zeroValue132
  t233 := Tryz.underlying133
  a233 := Tryz.isAgg133
  z233 := Tryz.sizeOf133
  v233 := Tryz.zeroValue133
  g17 := by kernel_rfl
  g18 := by kernel_rfl
  g19 := by kernel_rfl
  i0 := by kernel_rfl
  i2 := by kernel_rfl
  i3 := by kernel_rfl
  i4 := by kernel_rfl
  i5 := by kernel_rfl
  i9 := by kernel_rfl
  i20 := by kernel_rfl
  i37 := by kernel_rfl
  i46 := by kernel_rfl
  i51 := by kernel_rfl
  i53 := by kernel_rfl
  i171 := by kernel_rfl
  i173 := by kernel_rfl
  i212 := by kernel_rfl
  i232 := by kernel_rfl
  i233 := by kernel_rfl
  m17 := by kernel_rfl
  m18 := by kernel_rfl
  m19 := by kernel_rfl }
open Go.RowKit Go.Sort Go.Lib in
theorem Tryz.strconv_Itoa (n : Int) (h0 : -9223372036854775808 ≤ n) (h1 : n ≤ 9223372036854775807) (w : World) (htab : Lib.TabIs Tryz.prog w "internal/strconv.uint64pow10" .u64 Lib.pow10Tab) :
    Calls Tryz.prog 73 #[.int .i64 n] w fun e w' => e = .returned (.string ⟨(Lib.itoa n).toArray⟩) ∧ ∃ k os, w' = grow (w.drewN k) os := Any.strconv_Itoa Tryz.laysM171 n h0 h1 w htab
def Tryz.laysC172_ren : Go.Shelf.Ren := ⟨fun | 172 => 66 | 244 => 79 | 245 => 80 | 247 => 87 | 279 => 88 | 280 => 89 | 281 => 90 | 282 => 91 | 287 => 98 | 316 => 99 | 171 => 73 | 205 => 100 | 321 => 107 | 322 => 108 | 243 => 82 | 246 => 92 | 283 => 101 | 284 => 102 | 285 => 103 | 286 => 104 | 129 => 110 | 317 => 109 | 318 => 111 | 319 => 112 | 320 => 113 | 337 => 114 | 338 => 115 | n => n, fun | 9 => 9 | 3 => 3 | 75 => 84 | 76 => 85 | 4 => 4 | 5 => 5 | 167 => 96 | 37 => 22 | 0 => 0 | 85 => 97 | 2 => 2 | 168 => 99 | 53 => 44 | 175 => 103 | 46 => 92 | 210 => 107 | 127 => 123 | 145 => 126 | 143 => 124 | 21 => 21 | 171 => 109 | 173 => 112 | 212 => 128 | 51 => 118 | 20 => 20 | 213 => 129 | 232 => 132 | 233 => 133 | 80 => 134 | n => n, fun | 15 => 2 | 16 => 3 | 17 => 6 | 18 => 7 | 19 => 8 | n => n⟩
theorem Tryz.laysC172 : Go.Proofs.LaysC.n172 Tryz.prog Tryz.laysC172_ren := {
  mixed := by kernel_rfl
  f129 := Tryz.func110.trans (congrArg some (by kernel_rfl))
  f171 := Tryz.func73.trans (congrArg some (by kernel_rfl))
  f172 := Tryz.func66.trans (congrArg some (by kernel_rfl))
  f205 := Tryz.func100.trans (congrArg some (by kernel_rfl))
  f243 := Tryz.func82.trans (congrArg some (by kernel_rfl))
  f244 := Tryz.func79.trans (congrArg some (by kernel_rfl))
  f245 := Tryz.func80.trans (congrArg some (by kernel_rfl))
  f246 := Tryz.func92.trans (congrArg some (by kernel_rfl))
  f247 := Tryz.func87.trans (congrArg some (by kernel_rfl))
  f279 := Tryz.func88.trans (congrArg some (by kernel_rfl))
  f280 := Tryz.func89.trans (congrArg some (by kernel_rfl))
  f281 := Tryz.func90.trans (congrArg some (by kernel_rfl))
  f282 := Tryz.func91.trans (congrArg some (by kernel_rfl))
  f283 := Tryz.func101.trans (congrArg some (by kernel_rfl))
  f284 := Tryz.func102.trans (congrArg some (by kernel_rfl))
  f285 := Tryz.func103.trans (congrArg some (by kernel_rfl))
  f286 := Tryz.func104.trans (congrArg some (by kernel_rfl))
  f287 := Tryz.func98.trans (congrArg some (by kernel_rfl))
  f316 := Tryz.func99.trans (congrArg some (by kernel_rfl))
  f317 := Tryz.func109.trans (congrArg some (by kernel_rfl))
  f318 := Tryz.func111.trans (congrArg some (by kernel_rfl))
  f319 := Tryz.func112.trans (congrArg some (by kernel_rfl))
  f320 := Tryz.func113.trans (congrArg some (by kernel_rfl))
  f321 := Tryz.func107.trans (congrArg some (by kernel_rfl))
  f322 := Tryz.func108.trans (congrArg some (by kernel_rfl))
  f337 := Tryz.func114.trans (congrArg some (by kernel_rfl))
  f338 := Tryz.func115.trans (congrArg some (by kernel_rfl))
  t0 := Tryz.underlying0
  a0 := Tryz.isAgg0
  z0 := Tryz.sizeOf0
  v0 := Tryz.zeroValue0
  t2 := Tryz.underlying2
  a2 := Tryz.isAgg2
  z2 := Tryz.sizeOf2
  v2 := Tryz.zeroValue2
  t3 := Tryz.underlying3
  a3 := Tryz.isAgg3
  z3 := Tryz.sizeOf3
  v3 := Tryz.zeroValue3
  t4 := Tryz.underlying4
  a4 := Tryz.isAgg4
  z4 := Tryz.sizeOf4
  v4 := Tryz.zeroValue4
  t5 := Tryz.underlying5
  a5 := Tryz.isAgg5
  z5 := Tryz.sizeOf5
  v5 := Tryz.zeroValue5
  t9 := Tryz.underlying9
  a9 := Tryz.isAgg9
  z9 := Tryz.sizeOf9
  v9 := Tryz.zeroValue9
  t20 := Tryz.underlying20
  a20 := Tryz.isAgg20
  z20 := Tryz.sizeOf20
  v20 := Tryz.zeroValue20
  t21 := Tryz.underlying21
  a21 := Tryz.isAgg21
  z21 := Tryz.sizeOf21
  v21 := Tryz.zeroValue21
  t37 := Tryz.underlying22
  a37 := Tryz.isAgg22
  z37 := Tryz.sizeOf22
  v37 := Tryz.zeroValue22
  t46 := Tryz.underlying92
  a46 := Tryz.isAgg92
  z46 := Tryz.sizeOf92
  v46 := Tryz.zeroValue92
  t51 := Tryz.underlying118
  a51 := Tryz.isAgg118
  z51 := Tryz.sizeOf118
  v51 := Tryz.zeroValue118
  t53 := Tryz.underlying44
  a53 := Tryz.isAgg44
  z53 := Tryz.sizeOf44
  v53 := Tryz.zeroValue44
  t75 := Tryz.underlying84
  a75 := Tryz.isAgg84
  z75 := Tryz.sizeOf84
  v75 := Tryz.zeroValue84
  t76 := Tryz.underlying85
  a76 := Tryz.isAgg85
  z76 := Tryz.sizeOf85
  v76 := Tryz.zeroValue85
  t85 := Tryz.underlying97
  a85 := Tryz.isAgg97
  z85 := Tryz.sizeOf97
  v85 := Tryz.zeroValue97
  t127 := Tryz.underlying123
  a127 := Tryz.isAgg123
  z127 := Tryz.sizeOf123
  v127 := Tryz.zeroValue123
  t143 := Tryz.underlying124
  a143 := Tryz.isAgg124
  z143 := Tryz.sizeOf124
  v143 := Tryz.zeroValue124
  t145 := Tryz.underlying126
  a145 := Tryz.isAgg126
  z145 := Tryz.sizeOf126
  v145 := Tryz.zeroValue126
  t167 := Tryz.underlying96
  a167 := Tryz.isAgg96
  z167 := Tryz.sizeOf96
  v167 := Tryz.zeroValue96
  t168 := Tryz.underlying99
  a168 := Tryz.isAgg99
  z168 := Tryz.sizeOf99
  v168 := Tryz.zeroValue99
  t171 := Tryz.underlying109
  a171 := Tryz.isAgg109
  z171 := Tryz.sizeOf109
  v171 := Tryz.zeroValue109
  t173 := Tryz.underlying112
  a173 := Tryz.isAgg112
  z173 := Tryz.sizeOf112
  v173 := Tryz.zeroValue112
  t175 := Tryz.underlying103
  a175 := Tryz.isAgg103
  z175 := Tryz.sizeOf103
  v175 := Tryz.zeroValue103
  t210 := Tryz.underlying107
  a210 := Tryz.isAgg107
  z210 := Tryz.sizeOf107
  v210 := Tryz.zeroValue107
  t212 := Tryz.underlying128
  a212 := Tryz.isAgg128
  z212 := Tryz.sizeOf128
  v212 := Tryz.zeroValue128
  t213 := Tryz.underlying129
  a213 := Tryz.isAgg129
  z213 := Tryz.sizeOf129
  t232 := Tryz.underlying132
  a232 := Tryz.isAgg132
  z232 := Tryz.sizeOf132
  v232 := Tryz.zeroValue132
  t233 := Tryz.underlying133
  a233 := Tryz.isAgg133
  z233 := Tryz.sizeOf133
  v233 := Tryz.zeroValue133
  g15 := by kernel_rfl
  g16 := by kernel_rfl
  g17 := by kernel_rfl
  g18 := by kernel_rfl
  g19 := by kernel_rfl
  t80 := Tryz.underlying134
  a80 := Tryz.isAgg134
  z80 := Tryz.sizeOf134
  v80 := Tryz.zeroValue134
  i0 := by kernel_rfl
  i2 := by kernel_rfl
  i3 := by kernel_rfl
  i4 := by kernel_rfl
  i5 := by kernel_rfl
  i9 := by kernel_rfl
  i20 := by kernel_rfl
  i21 := by kernel_rfl
  i37 := by kernel_rfl
  i46 := by kernel_rfl
  i51 := by kernel_rfl
  i53 := by kernel_rfl
  i75 := by kernel_rfl
  i76 := by kernel_rfl
  i80 := by kernel_rfl
  i85 := by kernel_rfl
  i127 := by kernel_rfl
  i143 := by kernel_rfl
  i145 := by kernel_rfl
  i167 := by kernel_rfl
  i168 := by kernel_rfl
  i171 := by kernel_rfl
  i173 := by kernel_rfl
  i175 := by kernel_rfl
  i210 := by kernel_rfl
  i212 := by kernel_rfl
  i232 := by kernel_rfl
  i233 := by kernel_rfl
  m15 := by kernel_rfl
  m16 := by kernel_rfl
  m17 := by kernel_rfl
  m18 := by kernel_rfl
  m19 := by kernel_rfl
  c0 := by kernel_rfl
  c2 := by kernel_rfl
  c3 := by kernel_rfl
  c4 := by kernel_rfl
  c5 := by kernel_rfl
  c9 := by kernel_rfl
  c20 := by kernel_rfl
  c21 := by kernel_rfl
  c37 := by kernel_rfl
  c46 := by kernel_rfl
  c51 := by kernel_rfl
  c53 := by kernel_rfl
  c75 := by kernel_rfl
  c76 := by kernel_rfl
  c80 := by kernel_rfl
  c85 := by kernel_rfl
  c127 := by kernel_rfl
  c143 := by kernel_rfl
  c145 := by kernel_rfl
  c167 := by kernel_rfl
  c168 := by kernel_rfl
  c171 := by kernel_rfl
  c173 := by kernel_rfl
  c175 := by kernel_rfl
  c210 := by kernel_rfl
  c212 := by kernel_rfl
  c213 := by kernel_rfl
  c232 := by kernel_rfl
  c233 := by kernel_rfl }
open Go.RowKit in
theorem Tryz.strconv_Atoi_ok (s : ByteArray) (hmax : s.size ≤ 9223372036854775806) (v : Int) (h : Lib.atoiAll s.data.toList = .ok v) (w : World) :
    Calls Tryz.prog 66 #[.string s] w fun e w' => e = .returned (.tuple #[.int .i64 v, .nilIface]) ∧ (w' = w ∨ ∃ t, w' = Lib.bytesWorld w 5 t) := Any.strconv_Atoi_ok Tryz.laysC172 s hmax v h w
open Go.RowKit in
theorem Tryz.strconv_Atoi_syntax (s : ByteArray) (hlim : s.size ≤ 281474976710656) (h : Lib.atoiAll s.data.toList = Lib.atoiAll []) (ev : Value) (w : World) (hv : w.cell? ⟨2, 0, none⟩ = some ev) (hev : ev = .nilIface ∨ ∃ te pe, ev = .iface te pe) :
    Calls Tryz.prog 66 #[.string s] w fun e w' => ∃ N, e = .returned (.tuple #[.int .i64 (0), .iface 99 (.pointer (some ⟨N, 0, none⟩))]) ∧ w.heap.size ≤ N ∧ w'.heap[N]? = some (.cells #[.string ⟨#[65, 116, 111, 105]⟩, .string s, ev] 107 (0, 0)) ∧ Below w.heap.size w w' := Any.strconv_Atoi_syntax Tryz.laysC172 s hlim h ev w hv hev
open Go.RowKit in
theorem Tryz.strconv_Atoi_range (s : ByteArray) (hlim : s.size ≤ 281474976710656) (h : Lib.atoiAll s.data.toList = .range) (ev : Value) (w : World) (hv : w.cell? ⟨3, 0, none⟩ = some ev) (hev : ev = .nilIface ∨ ∃ te pe, ev = .iface te pe) :
    Calls Tryz.prog 66 #[.string s] w fun e w' => ∃ N, e = .returned (.tuple #[.int .i64 (Lib.atoiSat s.data.toList), .iface 99 (.pointer (some ⟨N, 0, none⟩))]) ∧ w.heap.size ≤ N ∧ w'.heap[N]? = some (.cells #[.string ⟨#[65, 116, 111, 105]⟩, .string s, ev] 107 (0, 0)) ∧ Below w.heap.size w w' := Any.strconv_Atoi_range Tryz.laysC172 s hlim h ev w hv hev
def Tryz.lays147_ren : Go.Shelf.Ren := ⟨fun | 147 => 36 | 221 => 65 | 268 => 76 | 138 => 77 | 143 => 78 | 195 => 83 | 197 => 84 | 218 => 85 | 219 => 86 | 260 => 93 | 217 => 94 | 225 => 95 | 224 => 96 | 267 => 97 | 266 => 105 | 314 => 106 | n => n, fun | 9 => 9 | 3 => 3 | 31 => 59 | 4 => 4 | 0 => 0 | 105 => 93 | 21 => 21 | 5 => 5 | 46 => 92 | 119 => 114 | 139 => 117 | 138 => 116 | 146 => 119 | 51 => 118 | n => n, fun | 1 => 1 | 3 => 4 | 4 => 5 | n => n⟩
theorem Tryz.lays147 : Go.Proofs.Lays.n147 Tryz.prog Tryz.lays147_ren := {
  mixed := by kernel_rfl
  f138 := Tryz.func77.trans (congrArg some (by kernel_rfl))
  f143 := Tryz.func78.trans (congrArg some (by kernel_rfl))
  f147 := Tryz.func36.trans (congrArg some (by kernel_rfl))
  f195 := Tryz.func83.trans (congrArg some (by kernel_rfl))
  f197 := Tryz.func84.trans (congrArg some (by kernel_rfl))
  f217 := Tryz.func94.trans (congrArg some (by kernel_rfl))
  f218 := Tryz.func85.trans (congrArg some (by kernel_rfl))
  f219 := Tryz.func86.trans (congrArg some (by kernel_rfl))
  f221 := Tryz.func65.trans (congrArg some (by kernel_rfl))
  f224 := Tryz.func96.trans (congrArg some (by kernel_rfl))
  f225 := Tryz.func95.trans (congrArg some (by kernel_rfl))
  f260 := Tryz.func93.trans (congrArg some (by kernel_rfl))
  f266 := Tryz.func105.trans (congrArg some (by kernel_rfl))
  f267 := Tryz.func97.trans (congrArg some (by kernel_rfl))
  f268 := Tryz.func76.trans (congrArg some (by kernel_rfl))
  f314 := Tryz.func106.trans (congrArg some (by kernel_rfl))
  t0 := Tryz.underlying0
  a0 := Tryz.isAgg0
  z0 := Tryz.sizeOf0
  v0 := Tryz.zeroValue0
  t3 := Tryz.underlying3
  a3 := Tryz.isAgg3
  z3 := Tryz.sizeOf3
  v3 := Tryz.zeroValue3
  t4 := Tryz.underlying4
  a4 := Tryz.isAgg4
  z4 := Tryz.sizeOf4
  v4 := Tryz.zeroValue4
  t5 := Tryz.underlying5
  a5 := Tryz.isAgg5
  z5 := Tryz.sizeOf5
  v5 := Tryz.zeroValue5
  t9 := Tryz.underlying9
  a9 := Tryz.isAgg9
  z9 := Tryz.sizeOf9
  v9 := Tryz.zeroValue9
  t21 := Tryz.underlying21
  a21 := Tryz.isAgg21
  z21 := Tryz.sizeOf21
  v21 := Tryz.zeroValue21
  t31 := Tryz.underlying59
  a31 := Tryz.isAgg59
  z31 := Tryz.sizeOf59
  v31 := Tryz.zeroValue59
  t46 := Tryz.underlying92
  a46 := Tryz.isAgg92
  z46 := Tryz.sizeOf92
  v46 := Tryz.zeroValue92
  t51 := Tryz.underlying118
  a51 := Tryz.isAgg118
  z51 := Tryz.sizeOf118
  v51 := Tryz.zeroValue118
  t105 := Tryz.underlying93
  a105 := Tryz.isAgg93
  z105 := Tryz.sizeOf93
  v105 := Tryz.zeroValue93
  t119 := Tryz.underlying114
  a119 := Tryz.isAgg114
  z119 := Tryz.sizeOf114
  t138 := Tryz.underlying116
  a138 := Tryz.isAgg116
  z138 := Tryz.sizeOf116
  v138 := Tryz.zeroValue116
  t139 := Tryz.underlying117
  a139 := Tryz.isAgg117
  z139 := Tryz.sizeOf117
  v139 := Tryz.zeroValue117
  t146 := Tryz.underlying119
  a146 := Tryz.isAgg119
  z146 := Tryz.sizeOf119
  v146 := Tryz.zeroValue119
  g1 := by kernel_rfl
  g3 := by kernel_rfl
  g4 := by kernel_rfl }
open Go.RowKit Go.Lib in
theorem Tryz.strings_SplitN (s sep : ByteArray) (n : Nat) (m : Int) (w : World) (hs : s.size < 4294967281) (hm : w.cell? ⟨1, 0, none⟩ = some (.int .i64 m)) (h1 : 1 ≤ sep.size) (hn : 1 ≤ n) (hn63 : n ≤ 9223372036854775807) :
    Calls Tryz.prog 36 #[.string s, .string sep, .int .i64 n] w fun e w' =>
      e = .returned (.slice (some ⟨w.heap.size, 0, none⟩) (Lib.splitB sep 0 (min n (s.size + 1) - 1) s).length (min n (s.size + 1))) ∧ w' = w.alloc (.cells (Lib.cellsOf (Lib.splitB sep 0 (min n (s.size + 1) - 1) s) (min n (s.size + 1))) 9) := Any.strings_SplitN Tryz.lays147 (by kernel_rfl) s sep n m w hs hm h1 hn hn63
def Tryz.lays109_ren : Go.Shelf.Ren := ⟨fun | 109 => 38 | n => n, fun | 31 => 59 | 9 => 9 | 3 => 3 | 0 => 0 | 4 => 4 | n => n, fun | n => n⟩
theorem Tryz.lays109 : Go.Proofs.Lays.n109 Tryz.prog Tryz.lays109_ren := {
  mixed := by kernel_rfl
  f109 := Tryz.func38.trans (congrArg some (by kernel_rfl))
  t0 := Tryz.underlying0
  a0 := Tryz.isAgg0
  z0 := Tryz.sizeOf0
  v0 := Tryz.zeroValue0
  t3 := Tryz.underlying3
  a3 := Tryz.isAgg3
  z3 := Tryz.sizeOf3
  v3 := Tryz.zeroValue3
  t4 := Tryz.underlying4
  a4 := Tryz.isAgg4
  z4 := Tryz.sizeOf4
  v4 := Tryz.zeroValue4
  t9 := Tryz.underlying9
  a9 := Tryz.isAgg9
  z9 := Tryz.sizeOf9
  v9 := Tryz.zeroValue9
  t31 := Tryz.underlying59
  a31 := Tryz.isAgg59
  z31 := Tryz.sizeOf59
  v31 := Tryz.zeroValue59 }
open Go.Lib in
theorem Tryz.slices_Index_string (b off n c : Nat) (zs : List ByteArray) (x : ByteArray) (w : World) (hz : n ≤ zs.length) (hbig : n ≤ 9223372036854775807) (hc : ∀ j, j < zs.length → w.cell? ⟨b, off + j, none⟩ = some (.string (zs.getD j ByteArray.empty))) :
    Calls Tryz.prog 38 #[.slice (some ⟨b, off, none⟩) n c, .string x] w fun e w' => e = .returned (.int .i64 (Lib.idxOfS (zs.take n) x)) ∧ w' = w := Any.slices_Index_string Tryz.lays109 b off n c zs x w hz hbig hc
open Go.Lib in
theorem Tryz.slices_Index_string_empty (a : Option Addr) (c : Nat) (x : ByteArray) (w : World) :
    Calls Tryz.prog 38 #[.slice a 0 c, .string x] w fun e w' => e = .returned (.int .i64 (Lib.idxOfS [] x)) ∧ w' = w := Any.slices_Index_string_empty Tryz.lays109 a c x w
end Go.Proofs.YtfichpppjpgahaaGreatDoor
