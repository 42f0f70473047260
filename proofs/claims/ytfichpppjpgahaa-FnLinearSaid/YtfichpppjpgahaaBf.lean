/-
  Contracts: picks of wires, DegreesOf, both sides.
-/
import Derived.Test.YtfichpppjpgahaaBe
import Derived.Test.YtfichpppjpgahaaLg
import Derived.Test.YtfichpppjpgahaaR
namespace Go.Proofs.Ytfichpppjpgahaa
open Go.RowKit
set_option linter.unusedVariables false
set_option linter.unusedSimpArgs false
set_option maxRecDepth 10000

def pkL (l os : List Int) (n : Nat) : List Int := (List.range n).map (fun k => nth l (nth os k).toNat)
theorem pkL_succ (l os : List Int) (n : Nat) : pkL l os (n + 1) = pkL l os n ++ [nth l (nth os n).toNat] := by simp [pkL, List.range_succ]
theorem pkL_len (l os : List Int) (n : Nat) : (pkL l os n).length = n := by simp [pkL]
theorem nth_pkL {l os : List Int} {n i : Nat} (hi : i < n) : nth (pkL l os n) i = nth l (nth os i).toNat := by simp [nth, pkL, hi]
theorem nth_fit {l : List Int} (h : ∀ x ∈ l, Fits x) (i : Nat) : Fits (nth l i) := by
  by_cases hi : i < l.length
  · exact h _ (nth_mem hi)
  · have : nth l i = 0 := by simp [nth]; rw [List.getElem?_eq_none (by omega)]; rfl
    rw [this]; unfold Fits; omega
theorem pkL_fit {l : List Int} (h : ∀ x ∈ l, Fits x) (os : List Int) (n : Nat) : ∀ x ∈ pkL l os n, Fits x := by
  intro x hx
  simp only [pkL, List.mem_map] at hx
  obtain ⟨i, _, rfl⟩ := hx
  exact nth_fit h _
set_option maxHeartbeats 2000000 in
theorem s_ciPick (a b : Option Addr) (n cap m bc : Nat) (xs os : List Int) (w : World) (h : Ints w a n cap xs) (h' : Ints w b m bc os) (hs : m ≤ 100000) (hx : Hid (∀ i, i < m → 0 ≤ nth os i ∧ nth os i < n)) :
    Calls Try.prog 101 #[.slice a n cap, .slice b m bc] w fun e w' => ∃ r c, e = .returned (.slice r m c) ∧ Mine w' w.heap.size r m c (pkL xs os m) ∧ Below w.heap.size w w' := by
  have HFT := Lib.hid (pkL_fit h.wf os m)
  go_enter Try.func101, Try.ntmps101
  go_wp2
  go_loopw [5, 7, 10] (fun v q_ i wr => ∃ k : Nat, k ≤ m ∧ i = .int .i64 k ∧ Hid (wr.ownsRow w.heap.size 3 1 v k (ivs (pkL xs os k))) ∧ Hid (Below w.heap.size w wr)) (fun _ _ i _ => m - (intOf i).toNat)
  case atStart => exact ⟨0, by omega, rfl, World.ownsRow_nil _ _ _ _, Below.refl _ _⟩
  case round =>
    obtain ⟨k, hk, rfl, HO, HB⟩ := hrel
    by_cases hlt : k < m
    · obtain ⟨b, off, rfl, hbl, hc⟩ := (h'.below HB.out).at hlt
      obtain ⟨q, hq⟩ : ∃ q : Nat, nth os k = q := ⟨(nth os k).toNat, by have := hx.out k hlt; omega⟩
      have hqn : q < n := by have := hx.out k hlt; omega
      have HS : Hid (pkL xs os (k + 1) = pkL xs os k ++ [nth xs q]) := by show _ = _; rw [pkL_succ, hq]; rfl
      rw [hq] at hc; clear hq
      obtain ⟨b', off', rfl, hbl', hc'⟩ := (h.below HB.out).at (i := q) hqn
      have hlti : (k : Int) < (m : Int) := by omega
      have hlt0 : (q : Int) < (n : Int) := by omega
      have hz := HB.out.size
      go_wp2_with (at_builtin; refine wp_app wr w.heap.size _ _ _ (nth xs q) _ _ rfl _ _ rfl rfl rfl rfl HO.out hz (by omega) ?_; intro v9 w9 hv9 hb9 hg9)
      clear hg9
      go_roundw
      case rel => exact ⟨k + 1, by omega, by go_num, by rw [HS.out]; exact hv9, HB.out.trans hb9⟩
      case measure => simp [intOf]; omega
    · obtain rfl : k = m := by omega
      go_wp2
      obtain ⟨r, c, hv, hm⟩ := OwnI.of HO.out (by omega) HFT.out
      subst hv
      go_ret
      exact ⟨_, _, rfl, hm.mine, HB.out⟩
set_option maxHeartbeats 2000000 in
theorem i_at (a b : Option Addr) (n cap m bc : Nat) (xs os : List Int) (w : World) (h : Ints w a n cap xs) (h' : Ints w b m bc os) (hs : m ≤ 100000) (hx : Hid (∀ i, i < m → 0 ≤ nth os i ∧ nth os i < n)) :
    Calls Try.prog 99 #[.slice a n cap, .slice b m bc] w fun e w' => ∃ r c, e = .returned (.slice r m c) ∧ Mine w' w.heap.size r m c (pkL xs os m) ∧ Below w.heap.size w w' := by
  have HFT := Lib.hid (pkL_fit h.wf os m)
  go_enter Try.func99, Try.ntmps99
  go_wp2
  go_loopw [5, 7, 11] (fun v q_ i wr => ∃ k : Nat, k ≤ m ∧ i = .int .i64 k ∧ Hid (wr.ownsRow w.heap.size 3 1 v k (ivs (pkL xs os k))) ∧ Hid (Below w.heap.size w wr)) (fun _ _ i _ => m - (intOf i).toNat)
  case atStart => exact ⟨0, by omega, rfl, (show Hid _ from World.ownsRow_lit w #[] 0 (Nat.le_refl _) (by decide) rfl), (show Hid _ from bel_alloc w _)⟩
  case round =>
    obtain ⟨k, hk, rfl, HO, HB⟩ := hrel
    by_cases hlt : k < m
    · obtain ⟨b, off, rfl, hbl, hc⟩ := (h'.below HB.out).at hlt
      obtain ⟨q, hq⟩ : ∃ q : Nat, nth os k = q := ⟨(nth os k).toNat, by have := hx.out k hlt; omega⟩
      have hqn : q < n := by have := hx.out k hlt; omega
      have HS : Hid (pkL xs os (k + 1) = pkL xs os k ++ [nth xs q]) := by show _ = _; rw [pkL_succ, hq]; rfl
      rw [hq] at hc; clear hq
      obtain ⟨b', off', rfl, hbl', hc'⟩ := (h.below HB.out).at (i := q) hqn
      have hlti : (k : Int) < (m : Int) := by omega
      have hlt0 : (q : Int) < (n : Int) := by omega
      have hz := HB.out.size
      go_wp2_with (at_builtin; refine wp_app wr w.heap.size _ _ _ (nth xs q) _ _ rfl _ _ rfl rfl rfl rfl HO.out hz (by omega) ?_; intro v9 w9 hv9 hb9 hg9)
      clear hg9
      go_roundw
      case rel => exact ⟨k + 1, by omega, by go_num, by rw [HS.out]; exact hv9, HB.out.trans hb9⟩
      case measure => simp [intOf]; omega
    · obtain rfl : k = m := by omega
      go_wp2
      obtain ⟨r, c, hv, hm⟩ := OwnI.of HO.out (by omega) HFT.out
      subst hv
      go_ret
      exact ⟨_, _, rfl, hm.mine, HB.out⟩
theorem arOuts {p i0 i1 : Int} {gs os : List Int} {gn n : Nat} (h : arC p i0 i1 gs gn os = true) (hn : (n : Int) = i0 + i1 + gn) : Hid (∀ i, i < os.length → 0 ≤ nth os i ∧ nth os i < n) := by
  intro i hi
  have := (arC_iff.1 h).2.2
  have := inB_iff.1 (allIn_iff.1 this i hi)
  omega
/-- DegreesOf. -/
def dgAll (p i0 i1 : Int) (gs : List Int) (gn : Nat) (os : List Int) : List Int × Bool :=
  if arC p i0 i1 gs gn os && allIn (ads 2000000 gs (i0 + i1).toNat gn) 0 1000000 then (pkL (ads 2000000 gs (i0 + i1).toNat gn) os os.length, true) else ([], false)
theorem ads_has {gs : List Int} {n m : Nat} : (1000001 ∈ ads 1000001 gs n m) ↔ allIn (ads 2000000 gs n m) 0 1000000 = false := by
  have hl1 := ads_len 1000001 gs n m
  have hl2 := ads_len 2000000 gs n m
  have hm := ads_min (c := 1000001) (C := 2000000) (by omega) (by omega) gs n m
  have hb := ads_bd (C := 2000000) (by omega) gs n m
  constructor
  · intro h
    obtain ⟨i, hi, e⟩ := mem_nth h
    cases hq : allIn (ads 2000000 gs n m) 0 1000000 with
    | false => rfl
    | true =>
      have h1 := inB_iff.1 (allIn_iff.1 hq i (by omega))
      have := hm i
      omega
  · intro h
    apply Classical.byContradiction
    intro hn
    have : allIn (ads 2000000 gs n m) 0 1000000 = true := allIn_iff.2 (fun i hi => inB_iff.2 (by
      have h1 := hm i
      have h2 := hb i
      refine ⟨h2.1, ?_⟩
      rcases Int.lt_or_le 1000000 (nth (ads 2000000 gs n m) i) with q | q
      · exact absurd (show 1000001 ∈ ads 1000001 gs n m by
          have h3 : nth (ads 1000001 gs n m) i = 1000001 := by omega
          have h4 : nth (ads 1000001 gs n m) i ∈ ads 1000001 gs n m := nth_mem (by omega)
          rwa [h3] at h4) hn
      · exact q))
    rw [this] at h; cases h
theorem ads_same {gs os : List Int} {n m k : Nat} (h : allIn (ads 2000000 gs n m) 0 1000000 = true) : pkL (ads 1000001 gs n m) os k = pkL (ads 2000000 gs n m) os k := by
  have hl2 := ads_len 2000000 gs n m
  have hm := ads_min (c := 1000001) (C := 2000000) (by omega) (by omega) gs n m
  unfold pkL
  apply List.map_congr_left
  intro i _
  rw [hm]
  by_cases q : (nth os i).toNat < (ads 2000000 gs n m).length
  · have := inB_iff.1 (allIn_iff.1 h _ q); omega
  · rw [nth_out (by omega)]; omega
set_option maxHeartbeats 8000000 in
theorem i_DegreesOf (p i0 i1 : Int) (ga : Option Addr) (gn gc : Nat) (gs : List Int) (oa : Option Addr) (on oc : Nat) (os : List Int) (w : World) (h : Circ w ga gn gc gs oa on oc os) :
    Calls Try.prog 39 #[.agg #[.int .i64 p, .int .i64 i0, .int .i64 i1, .slice ga gn gc, .slice oa on oc]] w fun e w' => ∃ r c, e = .returned (.tuple #[.slice r (dgAll p i0 i1 gs gn os).1.length c, .bool (dgAll p i0 i1 gs gn os).2]) ∧ Mine w' w.heap.size r (dgAll p i0 i1 gs gn os).1.length c (dgAll p i0 i1 gs gn os).1 ∧ Below w.heap.size w w' := by
  have hlo := h.o.len.out
  have A0 := bel_alloc w (.cells #[.int .i64 p, .int .i64 i0, .int .i64 i1, .slice ga gn gc, .slice oa on oc] 48)
  have g0 := B5.new (w := w) (x0 := .int .i64 p) (x1 := .int .i64 i0) (x2 := .int .i64 i1) (x3 := .slice ga gn gc) (x4 := .slice oa on oc) (t := 48)
  obtain ⟨c0, c1, c2, c3, c4⟩ := g0
  replace h := h.below A0
  have zz := A0.size
  unfold dgAll
  cases hAK : arC p i0 i1 gs gn os with
  | false =>
    go_enter Try.func39, Try.ntmps39
    go_wp2_with fail
    refine (i_IsArith _ _ _ _ _ _ gs _ _ _ os _ h).mono ?_; rintro e w1 ⟨rfl, hb1⟩; rw [hAK]
    go_wp2
    go_ret2
    exact ⟨_, _, rfl, Mine.nil, bel_trans A0 hb1⟩
  | true =>
    obtain ⟨hS, hGG, hOO⟩ := arC_iff.1 hAK
    obtain ⟨hpp, ⟨h01, h02⟩, ⟨h11, h12⟩, hn, hon⟩ := arS_iff.1 hS
    obtain ⟨hp1, hp2⟩ := prB_lo hpp
    obtain ⟨N, hN⟩ : ∃ N : Nat, i0 + i1 = N := ⟨(i0 + i1).toNat, by omega⟩
    have HOU := arOuts (n := N + gn) hAK (by omega)
    rw [hlo] at HOU hon
    rw [hN] at hGG
    have HGT := Lib.hid hGG
    have HNt : Hid ((i0 + i1).toNat = N) := by show _ = _; omega
    clear hS hGG hOO hpp
    rw [HNt.out]
    cases hB : allIn (ads 2000000 gs N gn) 0 1000000 with
    | false =>
      simp only [Bool.and_true, Bool.and_false, Bool.false_eq_true, if_false, if_true, List.length_nil]
      go_enter Try.func39, Try.ntmps39
      go_wp2_with fail
      refine (i_IsArith _ _ _ _ _ _ gs _ _ _ os _ h).mono ?_; rintro e w1 ⟨rfl, hb1⟩; rw [hAK]
      replace c0 := cell_on c0 hb1; replace c1 := cell_on c1 hb1; replace c2 := cell_on c2 hb1; replace c3 := cell_on c3 hb1; replace c4 := cell_on c4 hb1
      go_wp2_with fail
      refine (i_degrees _ _ _ _ _ _ gs _ _ _ os N _ (h.below hb1) HGT ⟨h01, h02⟩ ⟨h11, h12⟩ hN (by omega)).mono ?_; rintro e w2 ⟨r2, k2, rfl, m2, hb2⟩
      replace c0 := cell_on c0 hb2; replace c1 := cell_on c1 hb2; replace c2 := cell_on c2 hb2; replace c3 := cell_on c3 hb2; replace c4 := cell_on c4 hb2
      have hq := ads_has (gs := gs) (n := N) (m := gn)
      have hy : decide (1000001 ∈ ads 1000001 gs N gn) = true := decide_eq_true (hq.2 hB)
      have HY := Lib.hid hy; clear hy hq hB
      go_wp2_with fail
      refine (g_Contains _ _ _ _ _ _ m2.ints (by unfold Fits; omega)).mono ?_; rintro e w3 ⟨rfl, hb3⟩; rw [HY.out]
      go_wp2
      go_ret2
      exact ⟨_, _, rfl, Mine.nil, bel_trans (bel_trans (bel_trans A0 hb1) hb2) hb3⟩
    | true =>
      simp only [Bool.and_self, Bool.and_false, Bool.false_eq_true, if_false, if_true]
      rw [pkL_len, hlo]
      go_enter Try.func39, Try.ntmps39
      go_wp2_with fail
      refine (i_IsArith _ _ _ _ _ _ gs _ _ _ os _ h).mono ?_; rintro e w1 ⟨rfl, hb1⟩; rw [hAK]
      replace c0 := cell_on c0 hb1; replace c1 := cell_on c1 hb1; replace c2 := cell_on c2 hb1; replace c3 := cell_on c3 hb1; replace c4 := cell_on c4 hb1
      go_wp2_with fail
      refine (i_degrees _ _ _ _ _ _ gs _ _ _ os N _ (h.below hb1) HGT ⟨h01, h02⟩ ⟨h11, h12⟩ hN (by omega)).mono ?_; rintro e w2 ⟨r2, k2, rfl, m2, hb2⟩
      replace c0 := cell_on c0 hb2; replace c1 := cell_on c1 hb2; replace c2 := cell_on c2 hb2; replace c3 := cell_on c3 hb2; replace c4 := cell_on c4 hb2
      have hq := ads_has (gs := gs) (n := N) (m := gn)
      have hy : decide (1000001 ∈ ads 1000001 gs N gn) = false := decide_eq_false (fun q => by rw [hq.1 q] at hB; cases hB)
      have HY := Lib.hid hy
      have HE := Lib.hid (ads_same (os := os) (k := on) hB); clear hy hq hB
      go_wp2_with fail
      refine (g_Contains _ _ _ _ _ _ m2.ints (by unfold Fits; omega)).mono ?_; rintro e w3 ⟨rfl, hb3⟩; rw [HY.out]
      replace c0 := cell_on c0 hb3; replace c1 := cell_on c1 hb3; replace c2 := cell_on c2 hb3; replace c3 := cell_on c3 hb3; replace c4 := cell_on c4 hb3
      have hb13 := bel_trans (bel_trans hb1 hb2) hb3
      have zy := hb13.size
      go_wp2_with fail
      refine (i_at _ _ _ _ _ _ _ os _ (m2.ints.below hb3) (h.o.below hb13) (by omega) HOU).mono ?_; rintro e w4 ⟨r4, k4, rfl, m4, hb4⟩
      have m4' := m4.base (B' := w.heap.size) (by omega)
      rw [HE.out] at m4'
      have HM := Lib.hid m4'
      clear m4 m4'
      go_wp2
      go_ret2
      exact ⟨_, _, rfl, HM.out, bel_trans (bel_trans A0 hb13) hb4⟩
set_option maxHeartbeats 8000000 in
theorem s_DegreesOf (p i0 i1 : Int) (ga : Option Addr) (gn gc : Nat) (gs : List Int) (oa : Option Addr) (on oc : Nat) (os : List Int) (w : World) (h : Circ w ga gn gc gs oa on oc os) :
    Calls Try.prog 40 #[.agg #[.int .i64 p, .int .i64 i0, .int .i64 i1, .slice ga gn gc, .slice oa on oc]] w fun e w' => ∃ r c, e = .returned (.tuple #[.slice r (dgAll p i0 i1 gs gn os).1.length c, .bool (dgAll p i0 i1 gs gn os).2]) ∧ Mine w' w.heap.size r (dgAll p i0 i1 gs gn os).1.length c (dgAll p i0 i1 gs gn os).1 ∧ Below w.heap.size w w' := by
  have hlo := h.o.len.out
  have A0 := bel_alloc w (.cells #[.int .i64 p, .int .i64 i0, .int .i64 i1, .slice ga gn gc, .slice oa on oc] 48)
  have g0 := B5.new (w := w) (x0 := .int .i64 p) (x1 := .int .i64 i0) (x2 := .int .i64 i1) (x3 := .slice ga gn gc) (x4 := .slice oa on oc) (t := 48)
  obtain ⟨c0, c1, c2, c3, c4⟩ := g0
  replace h := h.below A0
  have zz := A0.size
  unfold dgAll
  cases hAK : arC p i0 i1 gs gn os with
  | false =>
    go_enter Try.func40, Try.ntmps40
    go_wp2_with fail
    refine (s_arGood _ _ _ _ _ _ gs _ _ _ os _ h).mono ?_; rintro e w1 ⟨rfl, hb1⟩; rw [hAK]
    go_wp2
    go_ret2
    exact ⟨_, _, rfl, Mine.nil, bel_trans A0 hb1⟩
  | true =>
    obtain ⟨hS, hGG, hOO⟩ := arC_iff.1 hAK
    obtain ⟨hpp, ⟨h01, h02⟩, ⟨h11, h12⟩, hn, hon⟩ := arS_iff.1 hS
    obtain ⟨hp1, hp2⟩ := prB_lo hpp
    obtain ⟨N, hN⟩ : ∃ N : Nat, i0 + i1 = N := ⟨(i0 + i1).toNat, by omega⟩
    have HOU := arOuts (n := N + gn) hAK (by omega)
    rw [hlo] at HOU hon
    rw [hN] at hGG
    have HGT := Lib.hid hGG
    have HNt : Hid ((i0 + i1).toNat = N) := by show _ = _; omega
    clear hS hGG hOO hpp
    rw [HNt.out]
    cases hB : allIn (ads 2000000 gs N gn) 0 1000000 with
    | false =>
      simp only [Bool.and_true, Bool.and_false, Bool.false_eq_true, if_false, if_true, List.length_nil]
      go_enter Try.func40, Try.ntmps40
      go_wp2_with fail
      refine (s_arGood _ _ _ _ _ _ gs _ _ _ os _ h).mono ?_; rintro e w1 ⟨rfl, hb1⟩; rw [hAK]
      replace c0 := cell_on c0 hb1; replace c1 := cell_on c1 hb1; replace c2 := cell_on c2 hb1; replace c3 := cell_on c3 hb1; replace c4 := cell_on c4 hb1
      go_wp2_with fail
      refine (s_arDegrees _ _ _ _ _ _ gs _ _ _ os N _ (h.below hb1) HGT ⟨h01, h02⟩ ⟨h11, h12⟩ hN (by omega)).mono ?_; rintro e w2 ⟨r2, k2, rfl, m2, hb2⟩
      replace c0 := cell_on c0 hb2; replace c1 := cell_on c1 hb2; replace c2 := cell_on c2 hb2; replace c3 := cell_on c3 hb2; replace c4 := cell_on c4 hb2
      have hb12 := bel_trans hb1 hb2
      go_wp2_with fail
      refine (s_l1All _ _ _ _ _ _ _ m2.ints).mono ?_; rintro e w3 ⟨rfl, rfl⟩; rw [hB]
      go_wp2
      go_ret2
      exact ⟨_, _, rfl, Mine.nil, bel_trans A0 hb12⟩
    | true =>
      simp only [Bool.and_self, Bool.and_false, Bool.false_eq_true, if_false, if_true]
      rw [pkL_len, hlo]
      go_enter Try.func40, Try.ntmps40
      go_wp2_with fail
      refine (s_arGood _ _ _ _ _ _ gs _ _ _ os _ h).mono ?_; rintro e w1 ⟨rfl, hb1⟩; rw [hAK]
      replace c0 := cell_on c0 hb1; replace c1 := cell_on c1 hb1; replace c2 := cell_on c2 hb1; replace c3 := cell_on c3 hb1; replace c4 := cell_on c4 hb1
      go_wp2_with fail
      refine (s_arDegrees _ _ _ _ _ _ gs _ _ _ os N _ (h.below hb1) HGT ⟨h01, h02⟩ ⟨h11, h12⟩ hN (by omega)).mono ?_; rintro e w2 ⟨r2, k2, rfl, m2, hb2⟩
      replace c0 := cell_on c0 hb2; replace c1 := cell_on c1 hb2; replace c2 := cell_on c2 hb2; replace c3 := cell_on c3 hb2; replace c4 := cell_on c4 hb2
      have hb12 := bel_trans hb1 hb2
      go_wp2_with fail
      refine (s_l1All _ _ _ _ _ _ _ m2.ints).mono ?_; rintro e w3 ⟨rfl, rfl⟩; rw [hB]
      have h2 := h.below hb12
      go_wp2
      go_region_held3 (fun W => W.cell? ⟨w.heap.size, 0, none⟩ = some (.int .i64 p) ∧ W.cell? ⟨w.heap.size, 1, none⟩ = some (.int .i64 i0) ∧ W.cell? ⟨w.heap.size, 2, none⟩ = some (.int .i64 i1) ∧ W.cell? ⟨w.heap.size, 3, none⟩ = some (.slice ga gn gc) ∧ W.cell? ⟨w.heap.size, 4, none⟩ = some (.slice oa on oc)) (exact ⟨c0, c1, c2, c3, c4⟩) (first | (go_at_call 94; refine (s_arDegrees _ _ _ _ _ _ gs _ _ _ os N _ (h2.below (bel_drew _)) HGT ⟨h01, h02⟩ ⟨h11, h12⟩ hN (by omega)).mono ?_; rintro e w4 ⟨r4, k4, rfl, m4, hb4⟩; have hb5 := bel_trans (bel_drew _) hb4; have c0 := cell_on c0 hb5; have c1 := cell_on c1 hb5; have c2 := cell_on c2 hb5; have c3 := cell_on c3 hb5; have c4 := cell_on c4 hb5) | (go_at_call 101; refine (s_ciPick _ _ _ _ _ _ _ os _ m4.ints (h2.o.below hb5) (by omega) HOU).mono ?_; rintro e w6 ⟨r6, k6, rfl, m6, hb6⟩; have hb7 := bel_trans hb5 hb6; have c0 := cell_on c0 hb6; have c1 := cell_on c1 hb6; have c2 := cell_on c2 hb6; have c3 := cell_on c3 hb6; have c4 := cell_on c4 hb6))
      have zy := (bel_trans hb12 hb5).size
      have HM := Lib.hid (m6.base (B' := w.heap.size) (by omega))
      clear m6
      go_wp2
      go_ret2
      exact ⟨_, _, rfl, HM.out, bel_trans (bel_trans A0 hb12) hb7⟩
end Go.Proofs.Ytfichpppjpgahaa
