/-
  Contracts: colours, offsets, labels of inputs, zero labels.
  Contracts: the labels of inputs, the zero labels.
  Contracts: the zero labels of a circuit.
  Contract: the tables of a circuit.
  Contract: the tables of a circuit.
  Contracts: the garbled circuit; the labels of all wires.
  Contract: the labels of all wires.
-/
import Derived.Test.YtfejpmfcognikaaV1
namespace Go.Proofs.Ytfejpmfcognikaa
open Go.RowKit
set_option linter.unusedVariables false
set_option linter.unusedSimpArgs false
set_option maxRecDepth 10000

theorem colL_take (l : List Int) {k : Nat} (hk : k < l.length) : colL (l.take (k + 1)) = colL (l.take k) ++ [nth l k % 2] := by
  unfold colL
  rw [List.take_add_one, List.map_append, List.getElem?_eq_getElem hk, nth_get hk]; rfl
theorem colL_bit (l : List Int) : bit1 (colL l) := fun x hx => by simp only [colL, List.mem_map] at hx; obtain ⟨y, _, rfl⟩ := hx; omega
theorem colL_len (l : List Int) : (colL l).length = l.length := by simp [colL]
set_option maxHeartbeats 2000000 in
theorem i_colours (a : Option Addr) (n cap : Nat) (xs : List Int) (w : World) (h : Ints w a n cap xs) (hl : Hid (labs xs)) (hs : n ≤ 100000) :
    Calls Try.prog 74 #[.slice a n cap] w fun e w' => ∃ r c, e = .returned (.slice r n c) ∧ Mine w' w.heap.size r n c (colL xs) ∧ Below w.heap.size w w' := by
  have hlen := h.len
  go_enter Try.func74, Try.ntmps74
  go_wp2
  go_loopw [3, 9] (fun v i wr => ∃ k : Nat, k ≤ n ∧ i = .int .i64 k ∧ Hid (wr.ownsRow w.heap.size 3 1 v k (ivs (colL (xs.take k)))) ∧ Hid (Below w.heap.size w wr)) (fun _ i _ => n - (intOf i).toNat)
  case atStart => exact ⟨0, by omega, rfl, (show Hid _ from World.ownsRow_lit w #[] 0 (Nat.le_refl _) (by decide) rfl), (show Hid _ from bel_alloc w _)⟩
  case round =>
    obtain ⟨k, hk, rfl, HO, HB⟩ := hrel
    have hz := HB.out.size
    by_cases hlt : k < n
    · have hlti : (k : Int) < (n : Int) := by omega
      obtain ⟨b, off, rfl, hbl, hc⟩ := (h.below HB.out).at hlt
      have e1 := and_oneZ (labs_at hl.out k)
      have HS : Hid (colL (xs.take (k + 1)) = colL (xs.take k) ++ [nth xs k % 2]) := colL_take xs (by rw [hlen.out]; exact hlt)
      go_wp2_with (at_builtin; (try rw [e1]); go_loud (refine wp_app _ w.heap.size k _ (colL (xs.take k)) (nth xs k % 2) _ _ rfl _ _ rfl rfl rfl (by first | rfl | simp) HO.out (by omega) (by omega) ?_; intro v9 w9 hv9 hb9 hg9))
      go_roundw
      case rel => exact ⟨k + 1, by omega, by go_num, by rw [HS.out]; exact hv9, HB.out.trans hb9⟩
      case measure => simp [intOf]; omega
    · obtain rfl : k = n := by omega
      have hlti : ¬ (k : Int) < (k : Int) := by omega
      have HO2 := HO.out
      rw [List.take_of_length_le (by rw [hlen.out]; exact Nat.le_refl _)] at HO2
      obtain ⟨r9, c9, hv, hm⟩ := Mine.of HO2 (by omega) (colL_bit xs).fit
      subst hv
      go_wp2
      go_ret
      exact ⟨_, _, rfl, hm, HB.out⟩
set_option maxHeartbeats 1000000 in
theorem i_isOffsetY (x : Int) (w : World) (ho : Odd x) : Calls Try.prog 65 #[.int .i64 x] w fun e w' => e = .returned (.bool true) ∧ w = w' := by
  have hin : inB x 0 65535 = true := inB_iff.2 ho.1
  have e1 : x.tmod 2 = 1 := by rw [Int.tmod_eq_emod_of_nonneg ho.1.1]; exact ho.2
  have e2 : IntKind.i64.wrap 1 = 1 := rfl
  have HL := i_lab1 x w; rw [hin] at HL
  go_enter Try.func65, Try.ntmps65
  go_wp2_with fail
  refine HL.mono ?_; rintro e w1 ⟨rfl, rfl⟩
  go_wp2
  go_ret
  exact ⟨rfl, rfl⟩
set_option maxHeartbeats 1000000 in
theorem i_OffsetFrom (key : Int) (w : World) :
    Calls Try.prog 8 #[.int .i64 key] w fun e w' => e = .returned (.tuple #[.int .i64 (if keyE key then ofs key else 0), .bool (keyE key)]) ∧ Below w.heap.size w w' := by
  cases hk : keyE key with
  | false =>
    have HL := i_isKeyE key w; rw [hk] at HL
    rw [if_neg (by simp)]
    go_enter Try.func8, Try.ntmps8
    go_wp2_with fail
    refine HL.mono ?_; rintro e w1 ⟨rfl, rfl⟩
    go_wp2
    go_ret2
    exact ⟨rfl, Below.refl _ _⟩
  | true =>
    have HL := i_isKeyE key w; rw [hk] at HL
    have hkk := inB_iff.1 hk
    rw [if_pos rfl]
    have HS : Hid (∀ z ∈ [key, (7 : Int)], Small z) := fun z hz => by simp at hz; unfold Small; omega
    have HO : Hid (bits .or .i64 (dgMix [key, 7]) 1 = ofs key) := rfl
    go_enter Try.func8, Try.ntmps8
    go_wp2_with fail
    refine HL.mono ?_; rintro e w1 ⟨rfl, rfl⟩
    go_wp2_with fail
    refine (i_digest _ _ _ [key, 7] _ (by exact Ints.lit2 rfl (by unfold Fits; omega) (by unfold Fits; omega)) (by omega) HS.out).mono ?_; rintro e w1 ⟨rfl, hb⟩
    obtain ⟨D, hD⟩ : ∃ D, bits .or .i64 (dgMix [key, 7]) 1 = D := ⟨_, rfl⟩
    go_wp2
    go_ret2
    exact ⟨by rw [← HO.out, hD]; first | rfl | simp, by (repeat (first | exact Below.refl _ _ | assumption | refine bel_trans ?_ (bel_alloc _ _) | refine bel_set ?_ (by first | (dsimp only; omega) | (simp; omega) | simp) _ | refine bel_trans ?_ (bel_drewN _ _) | refine bel_trans ?_ (bel_drew _) | refine bel_trans ?_ (by assumption)))⟩
set_option maxHeartbeats 1000000 in
theorem i_LabelOfY (z off v : Int) (w : World) (hz : Lab z) (ho : Odd off) (hv : bit2 v) :
    Calls Try.prog 17 #[.int .i64 z, .int .i64 off, .int .i64 v] w fun e w' => e = .returned (.tuple #[.int .i64 (lbl z off v), .bool true]) ∧ w = w' := by
  have H1 := i_lab1 z w; rw [show inB z 0 65535 = true from inB_iff.2 hz] at H1
  have H2 := i_isOffsetY off w ho
  have H3 := i_bit01 v w; rw [show inB v 0 1 = true from inB_iff.2 hv] at H3
  have H4 := i_labelOf z off v w ho hv
  have HH := Lib.hid (And.intro H1 (And.intro H2 (And.intro H3 H4))); clear H1 H2 H3 H4
  go_enter Try.func17, Try.ntmps17
  go_wp2_with fail
  refine HH.out.1.mono ?_; rintro e w1 ⟨rfl, rfl⟩
  go_wp2_with fail
  refine HH.out.2.1.mono ?_; rintro e w1 ⟨rfl, rfl⟩
  go_wp2_with fail
  refine HH.out.2.2.1.mono ?_; rintro e w1 ⟨rfl, rfl⟩
  go_wp2_with fail
  refine HH.out.2.2.2.mono ?_; rintro e w1 ⟨rfl, rfl⟩
  go_wp2
  go_ret2
  exact ⟨rfl, rfl⟩
end Go.Proofs.Ytfejpmfcognikaa
namespace Go.Proofs.Ytfejpmfcognikaa
open Go.RowKit
set_option linter.unusedVariables false
set_option linter.unusedSimpArgs false
set_option maxRecDepth 10000

theorem actL_succ (off : Int) (Z V : List Int) (n : Nat) : actL off Z V (n + 1) = actL off Z V n ++ [lbl (nth Z n) off (nth V n)] := by simp [actL, List.range_succ]
theorem actL_lab {off : Int} {Z V : List Int} (n : Nat) (ho : Odd off) (hz : labs Z) (hv : bit1 V) : labs (actL off Z V n) := fun x hx => by
  simp only [actL, List.mem_map] at hx
  obtain ⟨j, _, rfl⟩ := hx
  exact lbl_lab (labs_at hz j) ho (bit1_at hv j)
theorem inpZ_lab (key : Int) (m : Nat) : labs (inpZ key m) := fun x hx => by simp only [inpZ, List.mem_map] at hx; obtain ⟨i, _, rfl⟩ := hx; exact lz_lab _ _
set_option maxHeartbeats 400000 in
theorem i_withO (a : Option Addr) (n cap : Nat) (xs : List Int) (a' : Option Addr) (n' cap' : Nat) (ys : List Int) (w : World) (h : Ints w a n cap xs) (h' : Ints w a' n' cap' ys) (hn : n ≤ 1000000) (hn' : n' ≤ 1000000) :
    Calls Try.prog 101 #[.slice a n cap, .slice a' n' cap'] w fun e w' => ∃ r c, e = .returned (.slice r (n + n') c) ∧ OwnI 3 w' w.heap.size r (n + n') c (xs ++ ys) ∧ Below w.heap.size w w' := by
  have hf := h.wf; have hf' := h'.wf
  have HFT : Hid (∀ x ∈ xs ++ ys, Fits x) := fun x hx => by
    rcases List.mem_append.1 hx with k | k
    · exact hf.out x k
    · exact hf'.out x k
  go_enter Try.func101, Try.ntmps101
  go_wp2_with fail
  refine (g_Clone _ _ _ xs _ h (by omega)).mono ?_; rintro e w1 ⟨r, c, rfl, ho, hb1⟩
  have hz1 := hb1.size
  go_wp2_with (at_builtin; refine wp_apps w1 w.heap.size n _ xs ys _ _ _ rfl _ _ rfl rfl rfl (h'.below hb1) ho.own hz1 (by omega) ?_; intro v9 w9 hv9 hb9 hg9; obtain ⟨r2, c2, hr, ho2⟩ := OwnI.of hv9 (by omega) HFT.out; subst hr)
  go_ret
  exact ⟨_, _, rfl, ho2, hb1.trans hb9⟩
set_option maxHeartbeats 4000000 in
theorem i_InputLabels (i0 i1 : Int) (ga : Option Addr) (gn gc : Nat) (gs : List Int) (oa : Option Addr) (on oc : Nat) (os : List Int) (key off : Int) (aa : Option Addr) (an ac : Nat) (us : List Int) (ba : Option Addr) (bn bc : Nat) (vs : List Int) (w : World) (h : Circ w ga gn gc gs oa on oc os) (ha : Ints w aa an ac us) (hb : Ints w ba bn bc vs)
    (hA : askB i0 i1 gs gn os us vs = true) (hk : keyE key = true) (ho : Odd off) :
    Calls Try.prog 37 #[.agg #[.int .i64 i0, .int .i64 i1, .slice ga gn gc, .slice oa on oc], .int .i64 key, .int .i64 off, .slice aa an ac, .slice ba bn bc] w fun e w' => ∃ r c, e = .returned (.tuple #[.slice r (an + bn) c, .bool true]) ∧ Mine w' w.heap.size r (an + bn) c (actL off (inpZ key (an + bn)) (us ++ vs) (an + bn)) ∧ Below w.heap.size w w' := by
  have hla := ha.len.out; have hlb := hb.len.out
  have A0 := bel_alloc w (.cells #[.int .i64 i0, .int .i64 i1, .slice ga gn gc, .slice oa on oc] 25)
  have g0 := B4.new (w := w) (x0 := .int .i64 i0) (x1 := .int .i64 i1) (x2 := .slice ga gn gc) (x3 := .slice oa on oc) (t := 25)
  obtain ⟨c0, c1, c2, c3⟩ := g0
  obtain ⟨hcc, hu, hv, e0, e1⟩ := askB_iff.1 hA
  have hal := askB_len hA
  have hzA := A0.size
  have HA := i_areInputs i0 i1 ga gn gc gs oa on oc os aa an ac us ba bn bc vs _ (h.below A0) (ha.below A0) (hb.below A0)
  rw [hA] at HA
  have hkk := inB_iff.1 hk
  have HI := Lib.hid (And.intro (ha.below A0) (hb.below A0))
  have HV := Lib.hid (show bit1 (us ++ vs) from fun x hx => (List.mem_append.1 hx).elim (bit1.of hu x) (bit1.of hv x))
  obtain ⟨m, hm⟩ : ∃ m, m = an + bn := ⟨_, rfl⟩
  have hm40 : m ≤ 40 := by omega
  have hln : (us ++ vs).length = m := by rw [List.length_append]; omega
  rw [← hm]
  have HM := Lib.hid (And.intro hm hln)
  have han : an ≤ 20 := by omega
  have hbn : bn ≤ 20 := by omega
  have HK := Lib.hid (And.intro hk (And.intro hkk ho))
  have HB := Lib.hid A0
  have HAA := Lib.hid HA
  clear h ha hb hA hk ho hla hlb hcc hu hv e0 e1 hal hkk A0 hm hln HA
  go_enter Try.func37, Try.ntmps37
  go_wp2_with fail
  refine HAA.out.mono ?_; rintro e w1 ⟨rfl, hb1⟩
  have HI1 := Lib.hid (And.intro (HI.out.1.below hb1) (HI.out.2.below hb1)); have HB1 := Lib.hid (bel_trans HB.out hb1)
  clear hb1 HI HB HAA c0 c1 c2 c3
  go_wp2_with fail
  refine (i_isKeyE key _).mono ?_; rintro e w2 ⟨rfl, rfl⟩; rw [HK.out.1]
  go_wp2_with fail
  refine (i_isOffsetY off _ HK.out.2.2).mono ?_; rintro e w2 ⟨rfl, rfl⟩
  have A2 := bel_alloc w1 (.cells #[] 3)
  have O2 := Lib.hid (World.ownsRow_lit (base := w.heap.size) (e := 3) (size := 1) w1 #[] 0 HB1.out.size (by decide) rfl)
  go_wp2_with fail
  refine (i_withO aa an ac us ba bn bc vs _ (HI1.out.1.below A2) (HI1.out.2.below A2) (by omega) (by omega)).mono ?_; rintro e w3 ⟨r, c, he, hI, hb3⟩
  rw [← HM.out.1] at he hI; subst he
  have hzA2 := A2.size
  have hs2 : (w1.alloc (.cells #[] 3)).heap.size = w1.heap.size + 1 := by simp
  have hzz := HB1.out.size
  have D3 := Lib.hid (show Duo w3 w.heap.size (.slice (some ⟨w1.heap.size, 0, none⟩) 0 0) 0 [] (.slice r m c) m (us ++ vs) from ⟨ownsRow_below O2.out hb3, ownsRow_base hI.own (by omega), fun g h1 h2 => by have h3 := (ownLt hI.own g h2).1; simp only [Value.ownBlock, Option.some.injEq] at h1; omega, by have := hb3.size; omega⟩)
  have HB3 := Lib.hid (bel_trans (bel_trans HB1.out A2) hb3)
  clear HI1 HB1 A2 O2 hb3 hI
  have tk : True := trivial
  go_wp2
  go_loopw [12, 35] (fun v i wr => ∃ k : Nat, k ≤ m ∧ i = .int .i64 k ∧ Hid (Duo wr w.heap.size v k (actL off (inpZ key m) (us ++ vs) k) (.slice r m c) m (us ++ vs)) ∧ Hid (Below w.heap.size w wr)) (fun _ i _ => m - (intOf i).toNat)
  case atStart => exact ⟨0, by omega, rfl, D3, HB3⟩
  case round =>
    clear D3 HB3
    obtain ⟨k, hk, rfl, HD, HB⟩ := hrel
    by_cases hlt : k < m
    · have hlti : (k : Int) < (m : Int) := by omega
      obtain ⟨r1, c1, e1, m1⟩ := Mine.of HD.out.own2 (by omega) HV.out.fit
      obtain ⟨b, off', hr, hbl, hc⟩ := m1.ints.at hlt
      simp only [Value.slice.injEq] at e1; obtain ⟨rfl, -, rfl⟩ := e1
      subst hr
      have hbt := bit1_at HV.out k
      clear m1
      go_wp2_with fail
      refine (i_zeroLabel key k _ HK.out.2.1 (by omega)).mono ?_; rintro e w4 ⟨rfl, hb4⟩
      have HD4 := Lib.hid (HD.out.below hb4); have HB4 := Lib.hid (bel_trans HB.out hb4)
      have hz4 := HB4.out.size
      clear hb4 HB HD hc
      go_wp2_with fail
      refine (i_labelOf (lz key k) off (nth (us ++ vs) k) _ HK.out.2.2 hbt).mono ?_; rintro e w5 ⟨rfl, rfl⟩
      have HS : Hid (actL off (inpZ key m) (us ++ vs) (k + 1) = actL off (inpZ key m) (us ++ vs) k ++ [lbl (lz key k) off (nth (us ++ vs) k)]) := by show _ = _; rw [actL_succ, nth_inpZ hlt]
      go_wp2_with (at_builtin; go_loud (refine wp_duo w4 _ w.heap.size k (actL off (inpZ key m) (us ++ vs) k) _ m (us ++ vs) (lbl (lz key k) off (nth (us ++ vs) k)) _ _ rfl _ _ rfl rfl rfl (by first | rfl | simp) HD4.out (by omega) ?_; intro v9 w9 hD9 hb9))
      go_roundw
      case rel => exact ⟨k + 1, by omega, by go_num, by rw [HS.out]; exact hD9, HB4.out.trans hb9⟩
      case measure => simp [intOf]; omega
    · obtain rfl : k = m := by omega
      have hlti : ¬ (k : Int) < (k : Int) := by omega
      obtain ⟨r9, c9, hv, hm⟩ := Mine.of HD.out.own1 (by omega) (labs_fit (actL_lab k HK.out.2.2 (inpZ_lab key k) HV.out))
      subst hv
      go_wp2
      go_ret2
      exact ⟨_, _, rfl, hm, HB.out⟩
end Go.Proofs.Ytfejpmfcognikaa
namespace Go.Proofs.Ytfejpmfcognikaa
open Go.RowKit
set_option linter.unusedVariables false
set_option linter.unusedSimpArgs false
set_option maxRecDepth 10000

set_option maxHeartbeats 1000000 in
theorem i_isKeyedY (i0 i1 : Int) (ga : Option Addr) (gn gc : Nat) (gs : List Int) (oa : Option Addr) (on oc : Nat) (os : List Int) (key off : Int) (w : World) (h : Circ w ga gn gc gs oa on oc os) (hcc : circB i0 i1 gs gn os = true) (hk : keyE key = true) (ho : Odd off) :
    Calls Try.prog 43 #[.agg #[.int .i64 i0, .int .i64 i1, .slice ga gn gc, .slice oa on oc], .int .i64 key, .int .i64 off] w fun e w' => e = .returned (.bool true) ∧ Below w.heap.size w w' := by
  have A0 := bel_alloc w (.cells #[.int .i64 i0, .int .i64 i1, .slice ga gn gc, .slice oa on oc] 25)
  have g0 := B4.new (w := w) (x0 := .int .i64 i0) (x1 := .int .i64 i1) (x2 := .slice ga gn gc) (x3 := .slice oa on oc) (t := 25)
  obtain ⟨c0, c1, c2, c3⟩ := g0
  have HC := i_IsCircuit i0 i1 ga gn gc gs oa on oc os _ (h.below A0)
  rw [hcc] at HC
  have HH := Lib.hid (And.intro HC (And.intro hk ho)); clear HC hk ho hcc h
  go_enter Try.func43, Try.ntmps43
  go_wp2_with fail
  refine HH.out.1.mono ?_; rintro e w1 ⟨rfl, hb1⟩
  go_wp2_with fail
  refine (i_isKeyE key _).mono ?_; rintro e w2 ⟨rfl, rfl⟩; rw [HH.out.2.1]
  go_wp2_with fail
  refine (i_isOffsetY off _ HH.out.2.2).mono ?_; rintro e w2 ⟨rfl, rfl⟩
  go_wp2
  go_ret
  exact ⟨rfl, bel_trans A0 hb1⟩
set_option maxHeartbeats 4000000 in
theorem i_ZeroLabelsY (p q : Nat) (ga : Option Addr) (gn gc : Nat) (gs : List Int) (oa : Option Addr) (on oc : Nat) (os : List Int) (key off : Int) (w : World) (h : Circ w ga gn gc gs oa on oc os) (hcc : circB p q gs gn os = true) (hk : keyE key = true) (ho : Odd off) :
    Calls Try.prog 10 #[.agg #[.int .i64 p, .int .i64 q, .slice ga gn gc, .slice oa on oc], .int .i64 key, .int .i64 off] w fun e w' => ∃ r c, e = .returned (.tuple #[.slice r (p + q + gn) c, .bool true]) ∧ Mine w' w.heap.size r (p + q + gn) c (zerS key off gs (p + q) gn) ∧ Below w.heap.size w w' := by
  have A0 := bel_alloc w (.cells #[.int .i64 p, .int .i64 q, .slice ga gn gc, .slice oa on oc] 25)
  have g0 := B4.new (w := w) (x0 := .int .i64 p) (x1 := .int .i64 q) (x2 := .slice ga gn gc) (x3 := .slice oa on oc) (t := 25)
  have HK := Lib.hid (i_isKeyedY p q ga gn gc gs oa on oc os key off _ (h.below A0) hcc hk ho)
  have hin := circB_in hcc
  have hG : Hid (gatesB (((p + q : Nat)) : Int) gs gn = true) := by have := (circB_iff.1 hcc).2.1; show _ = _; rw [show (((p + q : Nat)) : Int) = (p : Int) + (q : Int) by omega]; exact this
  have hp : p ≤ 20 := by omega
  have hq : q ≤ 20 := by omega
  have hgn : gn ≤ 300 := by omega
  have HH := Lib.hid (And.intro (inB_iff.1 hk) ho)
  have HG := Lib.hid (And.intro (h.g.below A0) g0)
  have HB := Lib.hid A0
  obtain ⟨c0, c1, c2, c3⟩ := g0
  have hzA := A0.size
  clear A0 hcc hk ho hin h
  go_enter Try.func10, Try.ntmps10
  go_wp2_with fail
  refine HK.out.mono ?_; rintro e w1 ⟨rfl, hb1⟩
  have HG1 := Lib.hid (And.intro ((HG.out.1.below hb1).below (bel_drew w1)) ((HG.out.2.on hb1).on (bel_drew w1))); have HB1 := Lib.hid (bel_trans (bel_trans HB.out hb1) (bel_drew w1))
  clear HK HG HB hb1 c0 c1 c2 c3
  obtain ⟨d0, d1, d2, d3⟩ := id HG1.out.2
  have A2 := bel_alloc w1.drew (.cells #[.int .i64 off] 3)
  obtain ⟨f0, f1, f2, f3⟩ := HG1.out.2.on A2
  obtain ⟨h0, h1, h2, h3⟩ := (show B4 (w1.alloc (.cells #[.int .i64 off] 3)) w.heap.size _ _ _ _ from ⟨f0, f1, f2, f3⟩)
  have fo : (w1.drew.alloc (.cells #[.int .i64 off] 3)).cell? ⟨w1.drew.heap.size, 0, none⟩ = some (.int .i64 off) := World.cell?_alloc_at _ _ _ _ rfl
  have HZ := Lib.hid (i_zeros p q ga gn gc gs oa on oc key off w1.drew.heap.size _ (HG1.out.1.below A2) fo HH.out.1 HH.out.2 hp hq hgn hG)
  have hz2 := HB1.out.size; have hz3 := A2.size
  go_wp2_with fail
  go_region_law (first
    | (go_simp; go_at_call 36; refine (i_garbledAnd off w1.drew).mono ?_; rintro e wA ⟨rfl, rfl⟩)
    | (go_simp; go_at_call 44; refine HZ.out.mono ?_; rintro e w5 ⟨v1, v2, rfl, hD, hb5⟩))
  all_goals
    obtain ⟨r9, c9, hv, hm⟩ := Mine.of hD.two (by omega) (labs_fit (zerS_lab gs (p + q) HH.out.2 gn))
    subst hv
    have HM := Lib.hid (hm.base (show w.heap.size ≤ (w1.drew.alloc (.cells #[.int .i64 off] 3)).heap.size by omega))
    have HB5 := Lib.hid (bel_trans (bel_trans HB1.out A2) hb5)
    clear hm hD hb5
    go_wp2
    go_ret2
    exact ⟨_, _, rfl, HM.out, HB5.out⟩
end Go.Proofs.Ytfejpmfcognikaa
namespace Go.Proofs.Ytfejpmfcognikaa
open Go.RowKit
set_option linter.unusedVariables false
set_option linter.unusedSimpArgs false
set_option maxRecDepth 10000

theorem RG.below {w w' : World} {B k : Nat} {v v2 : Value} {xss : List (List Int)} (h : RG w B v k xss v2) (hb : Below w.heap.size w w') : RG w' B v k xss v2 := by
  obtain ⟨hs, h1, h2, h3⟩ := h
  exact ⟨hs, ownsRow_below h1 hb, h2, fun i hi => by obtain ⟨r, m, c, e, hm, hn⟩ := h3 i hi; exact ⟨r, m, c, e, hm.below hb, hn⟩⟩
theorem RG.base {w : World} {B B' k : Nat} {v v2 : Value} {xss : List (List Int)} (h : RG w B v k xss v2) (hb : B' ≤ B) : RG w B' v k xss v2 := by
  obtain ⟨hs, h1, h2, h3⟩ := h
  exact ⟨hs, ownsRow_base h1 hb, h2, fun i hi => by obtain ⟨r, m, c, e, hm, hn⟩ := h3 i hi; exact ⟨r, m, c, e, hm, fun h0 g o e => ⟨by have := (hn h0 g o e).1; omega, (hn h0 g o e).2⟩⟩⟩
/-- Tables of a call's own. -/
structure GarbM (w : World) (B : Nat) (ra : Option Addr) (rn rc : Nat) (rows : List (List Int)) (na : Option Addr) (nn nc : Nat) (ones : List Int) (ca : Option Addr) (cn cc : Nat) (cols : List Int) : Prop where
  r : ∃ v2, RG w B (.slice ra rn rc) rn rows v2
  o : Mine w B na nn nc ones
  c : Mine w B ca cn cc cols
section
variable {w w' : World} {B B' : Nat} {ra : Option Addr} {rn rc : Nat} {rows : List (List Int)} {na : Option Addr} {nn nc : Nat} {ones : List Int} {ca : Option Addr} {cn cc : Nat} {cols : List Int}
theorem GarbM.below (h : GarbM w B ra rn rc rows na nn nc ones ca cn cc cols) (k : Below w.heap.size w w') : GarbM w' B ra rn rc rows na nn nc ones ca cn cc cols := by
  obtain ⟨⟨v2, hr⟩, o, c⟩ := h; exact ⟨⟨v2, hr.below k⟩, o.below k, c.below k⟩
theorem GarbM.bex {b : Nat} (h : GarbM w B ra rn rc rows na nn nc ones ca cn cc cols) (k : Bex b w w') (hb : b < B) : GarbM w' B ra rn rc rows na nn nc ones ca cn cc cols := by
  obtain ⟨⟨v2, hr⟩, o, c⟩ := h; exact ⟨⟨v2, hr.bex k hb⟩, o.bex k hb, c.bex k hb⟩
theorem GarbM.base (h : GarbM w B ra rn rc rows na nn nc ones ca cn cc cols) (hb : B' ≤ B) : GarbM w B' ra rn rc rows na nn nc ones ca cn cc cols := by
  obtain ⟨⟨v2, hr⟩, o, c⟩ := h; exact ⟨⟨v2, hr.base hb⟩, o.base hb, c.base hb⟩
end
/-- Three cells that may be written, of nil slices. -/
structure N3 (w : World) (b : Nat) : Prop where
  c0 : w.cell? ⟨b, 0, none⟩ = some (.slice none 0 0)
  c1 : w.cell? ⟨b, 1, none⟩ = some (.slice none 0 0)
  c2 : w.cell? ⟨b, 2, none⟩ = some (.slice none 0 0)
  f0 : w.frozen? ⟨b, 0, none⟩ = false
  f1 : w.frozen? ⟨b, 1, none⟩ = false
  f2 : w.frozen? ⟨b, 2, none⟩ = false
theorem N3.lt {w : World} {b : Nat} (h : N3 w b) : b < w.heap.size := lt_of_cell h.c0
theorem N3.new {w : World} {t : TypeId} : N3 (w.alloc (.cells #[.slice none 0 0, .slice none 0 0, .slice none 0 0] t)) w.heap.size :=
  ⟨World.cell?_alloc_at _ _ _ _ rfl, World.cell?_alloc_at _ _ _ _ rfl, World.cell?_alloc_at _ _ _ _ rfl, World.frozen?_alloc_at _ _ _ _ rfl, World.frozen?_alloc_at _ _ _ _ rfl, World.frozen?_alloc_at _ _ _ _ rfl⟩
theorem N3.below {w w' : World} {b : Nat} (h : N3 w b) (k : Below w.heap.size w w') : N3 w' b :=
  ⟨cell_on h.c0 k, cell_on h.c1 k, cell_on h.c2 k, (k.frozen (p := ⟨b, 0, none⟩) h.lt).trans h.f0, (k.frozen (p := ⟨b, 1, none⟩) h.lt).trans h.f1, (k.frozen (p := ⟨b, 2, none⟩) h.lt).trans h.f2⟩
theorem N3.set {w : World} {b : Nat} (h : N3 w b) (x y z : Value) : (((w.setCell ⟨b, 0, none⟩ x).setCell ⟨b, 1, none⟩ y).setCell ⟨b, 2, none⟩ z).cell? ⟨b, 0, none⟩ = some x ∧ (((w.setCell ⟨b, 0, none⟩ x).setCell ⟨b, 1, none⟩ y).setCell ⟨b, 2, none⟩ z).cell? ⟨b, 1, none⟩ = some y ∧ (((w.setCell ⟨b, 0, none⟩ x).setCell ⟨b, 1, none⟩ y).setCell ⟨b, 2, none⟩ z).cell? ⟨b, 2, none⟩ = some z := by
  have e1 : (w.setCell ⟨b, 0, none⟩ x).cell? ⟨b, 1, none⟩ = some (.slice none 0 0) := (World.cell?_setCell_other _ _ _ _ (by simp)).trans h.c1
  have e2 : ((w.setCell ⟨b, 0, none⟩ x).setCell ⟨b, 1, none⟩ y).cell? ⟨b, 2, none⟩ = some (.slice none 0 0) := (World.cell?_setCell_other _ _ _ _ (by simp)).trans ((World.cell?_setCell_other _ _ _ _ (by simp)).trans h.c2)
  exact ⟨(World.cell?_setCell_other _ _ _ _ (by simp)).trans ((World.cell?_setCell_other _ _ _ _ (by simp)).trans (World.cell?_setCell_same _ _ _ h.c0)), (World.cell?_setCell_other _ _ _ _ (by simp)).trans (World.cell?_setCell_same _ _ _ e1), World.cell?_setCell_same _ _ _ e2⟩
theorem Bex.only3 {g : Nat} (w : World) (x y z : Value) : Bex g w (((w.setCell ⟨g, 0, none⟩ x).setCell ⟨g, 1, none⟩ y).setCell ⟨g, 2, none⟩ z) := ((Bex.set w x).trans (Bex.set _ y)).trans (Bex.set _ z)
theorem bel_set3 {w w0 : World} {B b : Nat} (h : Below B w0 w) (hb : B ≤ b) (x y z : Value) : Below B w0 (((w.setCell ⟨b, 0, none⟩ x).setCell ⟨b, 1, none⟩ y).setCell ⟨b, 2, none⟩ z) :=
  ((h.setCell hb _).setCell hb _).setCell hb _
/-- Tables that grow: the labels of the gates One, in cell 1 of box D. -/
structure TB (W : World) (D : Nat) (x0 v x2 : Value) (k : Nat) (ones : List Int) : Prop where
  c0 : W.cell? ⟨D, 0, none⟩ = some x0
  c1 : W.cell? ⟨D, 1, none⟩ = some v
  c2 : W.cell? ⟨D, 2, none⟩ = some x2
  f1 : W.frozen? ⟨D, 1, none⟩ = false
  own : W.ownsRow (D + 1) 3 1 v k (ivs ones)
theorem TB.lt {W : World} {D k : Nat} {x0 v x2 : Value} {ones : List Int} (h : TB W D x0 v x2 k ones) : D < W.heap.size := lt_of_cell h.c0
theorem TB.new {w : World} {x0 x2 : Value} : TB (w.alloc (.cells #[x0, .slice none 0 0, x2] 34)) w.heap.size x0 (.slice none 0 0) x2 0 [] :=
  ⟨World.cell?_alloc_at _ _ _ _ rfl, World.cell?_alloc_at _ _ _ _ rfl, World.cell?_alloc_at _ _ _ _ rfl, World.frozen?_alloc_at _ _ _ _ rfl, World.ownsRow_nil _ _ _ _⟩
theorem TB.below {W W' : World} {D k : Nat} {x0 v x2 : Value} {ones : List Int} (h : TB W D x0 v x2 k ones) (b : Below W.heap.size W W') : TB W' D x0 v x2 k ones :=
  ⟨cell_on h.c0 b, cell_on h.c1 b, cell_on h.c2 b, (b.frozen (p := ⟨D, 1, none⟩) h.lt).trans h.f1, ownsRow_below h.own b⟩
theorem TB.after {W W9 : World} {D k : Nat} {x0 v x2 : Value} {ones : List Int} (h : TB W D x0 v x2 k ones) (b : Below (D + 1) W W9) : W9.cell? ⟨D, 1, none⟩ = some v ∧ W9.frozen? ⟨D, 1, none⟩ = false :=
  ⟨(b.cell (p := ⟨D, 1, none⟩) (by show D < D + 1; omega)).trans h.c1, (b.frozen (p := ⟨D, 1, none⟩) (by show D < D + 1; omega)).trans h.f1⟩
theorem TB.grow {W W9 : World} {D k : Nat} {x0 v x2 v9 : Value} {ones : List Int} {u : Int} (h : TB W D x0 v x2 k ones) (b : Below (D + 1) W W9) (hv : W9.ownsRow (D + 1) 3 1 v9 (k + 1) (ivs (ones ++ [u]))) : TB (W9.setCell ⟨D, 1, none⟩ v9) D x0 v9 x2 (k + 1) (ones ++ [u]) := by
  have hD : D < D + 1 := by omega
  have d0 := (b.cell (p := ⟨D, 0, none⟩) hD).trans h.c0; have d2 := (b.cell (p := ⟨D, 2, none⟩) hD).trans h.c2
  obtain ⟨d1, e1⟩ := h.after b
  exact ⟨(World.cell?_setCell_other _ _ _ _ (by simp)).trans d0, World.cell?_setCell_same _ _ _ d1, (World.cell?_setCell_other _ _ _ _ (by simp)).trans d2, by simpa using e1, ownsRow_bex hv (Bex.set (b := D) (i := 1) W9 v9) hD⟩
end Go.Proofs.Ytfejpmfcognikaa
namespace Go.Proofs.Ytfejpmfcognikaa
open Go.RowKit
set_option linter.unusedVariables false
set_option linter.unusedSimpArgs false
set_option maxRecDepth 10000

theorem pkL_labs {l : List Int} (h : labs l) (os : List Int) (n : Nat) : labs (pkL l os n) := fun x hx => by
  simp only [pkL, List.mem_map] at hx
  obtain ⟨i, _, rfl⟩ := hx
  exact labs_at h _
theorem oneS_le (off : Int) (gs : List Int) (m : Nat) (Z : List Int) : ∀ k, (oneS off gs m Z k).length ≤ k
  | 0 => Nat.le_refl _
  | k + 1 => by
    have := oneS_le off gs m Z k
    rw [oneS]; split
    · rw [List.length_append]; simp; omega
    · omega
theorem own_slZ {E : TypeId} {w : World} {B s n : Nat} {v : Value} {xs : List Value} (h : w.ownsRow B E s v n xs) : ∃ a c, v = .slice a n c := by
  rcases h.2 with ⟨h1, h2⟩ | ⟨q, cap, cur, hv, _⟩
  · exact ⟨none, 0, by first | rw [h1, h2] | simp_all⟩
  · exact ⟨_, _, hv⟩
/-- What 'tables' hands back. -/
def TabRet (m gn : Nat) (key off : Int) (gs os : List Int) (on : Nat) (w : World) (e : Ending) (w' : World) : Prop :=
  ∃ (ra : Option Addr) (rc : Nat) (na : Option Addr) (nc : Nat) (ca : Option Addr) (cc : Nat), e = .returned (.agg #[.slice ra (rowS key off gs m gn).length rc, .slice na (oneS off gs m (zerS key off gs m gn) gn).length nc, .slice ca on cc]) ∧
    GarbM w' w.heap.size ra (rowS key off gs m gn).length rc (rowS key off gs m gn) na (oneS off gs m (zerS key off gs m gn) gn).length nc (oneS off gs m (zerS key off gs m gn) gn) ca on cc (colL (pkL (zerS key off gs m gn) os on)) ∧ Below w.heap.size w w'
set_option maxHeartbeats 8000000 in
theorem i_tables (p q : Nat) (ga : Option Addr) (gn gc : Nat) (gs : List Int) (oa : Option Addr) (on oc : Nat) (os : List Int) (key off : Int) (g : Nat) (w : World) (h : Circ w ga gn gc gs oa on oc os) (hcc : circB p q gs gn os = true) (hc : w.cell? ⟨g, 0, none⟩ = some (.int .i64 off)) (hk : 0 ≤ key ∧ key ≤ 1000000000) (ho : Odd off) :
    Calls Try.prog 35 #[.agg #[.int .i64 p, .int .i64 q, .slice ga gn gc, .slice oa on oc], .int .i64 key, .int .i64 off, .func (.func 98) #[] #[.pointer (some ⟨g, 0, none⟩)]] w (TabRet (p + q) gn key off gs os on w) := by
  have hlo := h.o.len.out
  have A0 := bel_alloc w (.cells #[.int .i64 p, .int .i64 q, .slice ga gn gc, .slice oa on oc] 25)
  have g0 := B4.new (w := w) (x0 := .int .i64 p) (x1 := .int .i64 q) (x2 := .slice ga gn gc) (x3 := .slice oa on oc) (t := 25)
  have A1 := bel_alloc (w.alloc (.cells #[.int .i64 p, .int .i64 q, .slice ga gn gc, .slice oa on oc] 25)) (.cells #[.slice none 0 0, .slice none 0 0, .slice none 0 0] 34)
  have n0 := N3.new (w := w.alloc (.cells #[.int .i64 p, .int .i64 q, .slice ga gn gc, .slice oa on oc] 25)) (t := 34)
  have z0 : (w.alloc (.cells #[.int .i64 p, .int .i64 q, .slice ga gn gc, .slice oa on oc] 25)).heap.size = w.heap.size + 1 := by simp
  have z1 : ((w.alloc (.cells #[.int .i64 p, .int .i64 q, .slice ga gn gc, .slice oa on oc] 25)).alloc (.cells #[.slice none 0 0, .slice none 0 0, .slice none 0 0] 34)).heap.size = w.heap.size + 2 := by simp
  rw [z0] at n0
  have hin := circB_in hcc
  have hG : Hid (gatesB (((p + q : Nat)) : Int) gs gn = true) := by have := (circB_iff.1 hcc).2.1; show _ = _; rw [show (((p + q : Nat)) : Int) = (p : Int) + (q : Int) by omega]; exact this
  have hp : p ≤ 20 := by omega
  have hq : q ≤ 20 := by omega
  have hgn : gn ≤ 300 := by omega
  have hon : on ≤ 40 := by omega
  have HZ := Lib.hid (i_zeros p q ga gn gc gs oa on oc key off g _ ((h.g.below A0).below A1) (cell_on (cell_on hc A0) A1) hk ho hp hq hgn hG)
  have HOU := outs_in hcc (n := p + q + gn) (by omega)
  rw [hlo] at HOU
  obtain ⟨m, hm⟩ : ∃ m, m = p + q := ⟨_, rfl⟩
  rw [← hm] at HZ HOU ⊢
  have hm40 : m ≤ 40 := by omega
  have HP := Lib.hid (And.intro (show (0 : Int) ≤ p ∧ (p : Int) ≤ 20 by omega) (And.intro (show (0 : Int) ≤ q ∧ (q : Int) ≤ 20 by omega) (show ((p : Int) + (q : Int)) = (m : Int) by omega)))
  have HO := Lib.hid ho
  have HC := Lib.hid (And.intro ((h.below A0).below A1) (g0.on A1)); have HN := Lib.hid n0; have HB := Lib.hid (bel_trans A0 A1)
  obtain ⟨c0, c1, c2, c3⟩ := g0.on A1
  clear A0 A1 g0 n0 hin hcc hp hq hm hk ho h hc hlo hG
  obtain ⟨Z, hZ⟩ : ∃ Z, Z = zerS key off gs m gn := ⟨_, rfl⟩
  have hZl : labs Z := hZ ▸ zerS_lab gs m HO.out gn
  have hZn : Z.length = m + gn := hZ ▸ zerS_len key off gs m gn
  obtain ⟨R, hR⟩ : ∃ R, R = rowS key off gs m gn := ⟨_, rfl⟩
  have hRl : R.length ≤ gn := hR ▸ rowS_le key off gs m gn
  have HQ : Hid (TabRet m gn key off gs os on w = fun e w' => ∃ (ra : Option Addr) (rc : Nat) (na : Option Addr) (nc : Nat) (ca : Option Addr) (cc : Nat), e = .returned (.agg #[.slice ra R.length rc, .slice na (oneS off gs m Z gn).length nc, .slice ca on cc]) ∧
    GarbM w' w.heap.size ra R.length rc R na (oneS off gs m Z gn).length nc (oneS off gs m Z gn) ca on cc (colL (pkL Z os on)) ∧ Below w.heap.size w w') := by show _ = _; funext e w'; rw [hR, hZ]; rfl
  rw [← hZ, ← hR] at HZ
  have HZZ := Lib.hid (And.intro hZ hR); clear hZ hR
  have HZL := Lib.hid (And.intro hZl hZn); clear hZl hZn
  go_enter Try.func35, Try.ntmps35
  go_wp2_with fail
  refine HZ.out.mono ?_; rintro e w3 ⟨v1, v2, rfl, hD, hb3⟩
  obtain ⟨ra, rc, rfl⟩ := hD.one.val
  obtain ⟨za, zc, rfl, hzm⟩ := Mine.of hD.two (by omega) (labs_fit HZL.out.1)
  have HR3 := Lib.hid hD.one
  rw [z1] at HR3 hzm
  have HC3 := Lib.hid (And.intro (HC.out.1.below hb3) (HC.out.2.on hb3)); have HN3 := Lib.hid (HN.out.below hb3); have HB3 := Lib.hid (bel_trans HB.out hb3)
  have hz3 := hb3.size
  rw [z1] at hz3
  have HI := Lib.hid hzm
  clear c0 c1 c2 c3 hb3 hD hzm HC HN HB HZ
  obtain ⟨c0, c1, c2, c3⟩ := HC3.out.2
  go_wp2_with fail
  refine (i_at za oa (m + gn) zc on oc Z os _ HI.out.ints HC3.out.1.o (by omega) HOU).mono ?_; rintro e w4 ⟨r4, k4, rfl, hm4, hb4⟩
  go_wp2_with fail
  refine (i_colours r4 on k4 (pkL Z os on) _ hm4.ints (pkL_labs HZL.out.1 os on) (by omega)).mono ?_; rintro e w5 ⟨ca, cc, rfl, hm5, hb5⟩
  have hz4 := hb4.size; have hz5 := hb5.size
  have HR5 := Lib.hid ((HR3.out.below hb4).below hb5)
  have HC5 := Lib.hid (And.intro ((HC3.out.1.below hb4).below hb5) ((HC3.out.2.on hb4).on hb5)); have HN5 := Lib.hid ((HN3.out.below hb4).below hb5); have HB5 := Lib.hid (bel_trans (bel_trans HB3.out hb4) hb5)
  have HI5 := Lib.hid ((HI.out.ints.below hb4).below hb5)
  have HM5 := Lib.hid (hm5.base (show w.heap.size + 2 ≤ w4.heap.size by omega))
  clear c0 c1 c2 c3 hm4 hm5 hb4 hb5 HR3 HC3 HN3 HB3 HI HOU
  have A6 := bel_alloc w5 (.cells #[.slice ra R.length rc, .slice none 0 0, .slice ca on cc] 34)
  have T6 := TB.new (w := w5) (x0 := .slice ra R.length rc) (x2 := .slice ca on cc)
  have HT6 := Lib.hid T6; have HB6 := Lib.hid A6
  obtain ⟨d0, d1, d2, d3⟩ := HC5.out.2.on A6
  clear A6 T6
  go_wp2
  go_loopw [32] (fun i wr => ∃ (k : Nat) (v : Value), k ≤ gn ∧ i = .int .i64 k ∧ Hid (TB wr w5.heap.size (.slice ra R.length rc) v (.slice ca on cc) (oneS off gs m Z k).length (oneS off gs m Z k)) ∧ Hid (Below w5.heap.size w5 wr)) (fun i _ => gn - (intOf i).toNat)
  case atStart => exact ⟨0, _, by omega, rfl, HT6, HB6⟩
  case round =>
    clear HT6 HB6 d0 d1 d2 d3
    obtain ⟨k, v, hk9, rfl, HT, HW⟩ := hrel
    have hol := oneS_le off gs m Z k
    by_cases hlt : k < gn
    · have hlti : (k : Int) < (gn : Int) := by omega
      obtain ⟨gb, go, rfl, gl, g0, g1, g2⟩ := (HC5.out.1.g.below HW.out).at3 hlt
      have HS : Hid (oneS off gs m Z (k + 1) = if fld 3 gs k 0 = 3 then oneS off gs m Z k ++ [bx (nth Z (m + k)) off] else oneS off gs m Z k) := rfl
      obtain ⟨L, hL⟩ : ∃ L, L = oneS off gs m Z k := ⟨_, rfl⟩
      rw [← hL] at HS HT hol; clear hL
      generalize fld 3 gs k 0 = K at HS g0
      generalize fld 3 gs k 1 = A at g1
      generalize fld 3 gs k 2 = B at g2
      have A7 := bel_alloc wr (.cells #[.int .i64 K, .int .i64 A, .int .i64 B] 111)
      obtain ⟨b0, b1_, b2_⟩ := B3.new (w := wr) (x0 := .int .i64 K) (x1 := .int .i64 A) (x2 := .int .i64 B) (t := 111)
      have HT7 := Lib.hid (HT.out.below A7); have HW7 := Lib.hid (HW.out.trans (A7.mono HW.out.size))
      have hzw := HW7.out.size
      clear A7 HT HW
      by_cases hK3 : K = 3
      · subst hK3
        have HN7 : Hid (oneS off gs m Z (k + 1) = L ++ [bx (nth Z (m + k)) off]) := by show _ = _; rw [HS.out, if_pos rfl]
        clear HS
        have hW1 := HW7.out.trans ((bel_drew (wr.alloc (.cells #[.int .i64 3, .int .i64 A, .int .i64 B] 111))).mono (show w5.heap.size ≤ _ by omega))
        obtain ⟨e0, e1, e2, e3⟩ := HC5.out.2.on hW1
        obtain ⟨N, hN⟩ : ∃ N, N = m + k := ⟨_, rfl⟩
        rw [← hN] at HN7
        obtain ⟨zb, zo, hzr, hzl, hzc⟩ := HI5.out.at (i := N) (by omega)
        subst hzr
        have hzc1 := cell_on hzc hW1
        have ht1 := HT7.out.below (bel_drew _)
        have h1 := ht1.c1
        have es : IntKind.i64.wrap ((m : Int) + (k : Int)) = (N : Int) := by rw [IntWalk.i64_in _ (by omega)]; omega
        have hNi : (N : Int) < (m : Int) + (gn : Int) := by omega
        clear hN
        obtain ⟨U, hU⟩ : ∃ U, bits .xor .i64 (nth Z N) off = U := ⟨_, rfl⟩
        have HQQ := Lib.hid hU
        go_wp2_with fail
        go_region_law (first
          | (refine step_app w7 (w5.heap.size + 1) L.length v L U _ (by rfl) _ _ (by rfl) (by rfl) (by rfl) (by simp [World.cell?_alloc_at]) ht7.own (by (repeat (first | exact Below.refl _ _ | assumption | refine bel_trans ?_ (bel_alloc _ _) | refine bel_set ?_ (by first | (dsimp only; omega) | (simp; omega) | simp) _ | refine bel_trans ?_ (bel_drewN _ _) | refine bel_trans ?_ (bel_drew _) | refine bel_trans ?_ (by assumption)))) (by have := ht7.lt; omega) (by omega) ?_; intro v9 w9 hv9 hb9 hg9; obtain ⟨r9, k9, rfl⟩ := own_slZ hv9; obtain ⟨k3, kf⟩ := (ht7.below (bel_alloc w7 (.cells #[.int .i64 U] 3))).after hb9)
          | (go_simp; go_at_call 70; refine (i_inputs p q _ gn gc oa on oc _ HP.out.1 HP.out.2.1).mono ?_; rintro e w7 ⟨he, hb7⟩; rw [HP.out.2.2] at he; subst he; have ht7 := ht1.below hb7; have h7 := ht7.c1; have h7a := cell_on h7 (bel_alloc w7 (.cells #[.int .i64 U] 3)); have z7 := cell_on hzc1 hb7))
        all_goals
          have HT9 := Lib.hid ((ht7.below (bel_alloc w7 (.cells #[.int .i64 U] 3))).grow hb9 hv9)
          have hz7 := ht7.lt
          have HW9 := Lib.hid ((((hW1.trans (hb7.mono (by have := hW1.size; omega))).trans ((bel_alloc w7 (.cells #[.int .i64 U] 3)).mono (show w5.heap.size ≤ w7.heap.size by omega))).trans (hb9.mono (show w5.heap.size ≤ w5.heap.size + 1 by omega))).setCell (p := ⟨w5.heap.size, 1, none⟩) (Nat.le_refl _) (.slice r9 (L.length + 1) k9))
          clear ht7 ht1 hW1 hb7 h1 hzc hzc1 e0 e1 e2 e3 hv9 hb9 hg9 HT7 HW7
          go_wp2
          go_roundw
          case rel => exact ⟨k + 1, _, by omega, by go_num, by rw [HN7.out, List.length_append]; unfold bx; rw [HQQ.out]; exact HT9, HW9⟩
          case measure => simp [intOf]; omega
      · have hK3b : (K == 3) = false := by simpa using hK3
        have HN7 : Hid (oneS off gs m Z (k + 1) = L) := by show _ = _; rw [HS.out, if_neg hK3]
        clear HS hK3
        go_wp2
        go_roundw
        case rel => exact ⟨k + 1, v, by omega, by go_num, by rw [HN7.out]; exact HT7, HW7⟩
        case measure => simp [intOf]; omega
    · obtain rfl : k = gn := by omega
      have hlti : ¬ (k : Int) < (k : Int) := by omega
      obtain ⟨na, nc, rfl⟩ := own_slZ HT.out.own
      obtain ⟨d0, d1, d2, df, do_⟩ := id HT.out
      have HNr := HN5.out.below HW.out
      obtain ⟨E0, E1, E2⟩ := HNr.set (.slice ra R.length rc) (.slice na (oneS off gs m Z k).length nc) (.slice ca on cc)
      obtain ⟨n0, n1, n2, m0, m1, m2⟩ := id HNr
      clear do_
      have hzf := HW.out.size
      obtain ⟨a8, k8, e8, m8⟩ := Mine.of HT.out.own (by omega) (labs_fit (oneS_lab HZL.out.1 HO.out k))
      simp only [Value.slice.injEq] at e8; obtain ⟨rfl, -, rfl⟩ := e8
      have HGM := Lib.hid (((show GarbM wr (w.heap.size + 2) ra R.length rc R na (oneS off gs m Z k).length nc (oneS off gs m Z k) ca on cc (colL (pkL Z os on)) from ⟨⟨_, HR5.out.below HW.out⟩, m8.base (by omega), HM5.out.below HW.out⟩).bex (Bex.only3 (g := w.heap.size + 1) _ (.slice ra R.length rc) (.slice na (oneS off gs m Z k).length nc) (.slice ca on cc)) (by omega)).base (B' := w.heap.size) (by omega))
      have HBF := Lib.hid (bel_set3 (bel_trans HB5.out HW.out) (show w.heap.size ≤ w.heap.size + 1 by omega) (.slice ra R.length rc) (.slice na (oneS off gs m Z k).length nc) (.slice ca on cc))
      clear m8 HT HW HNr
      go_wp2
      exact bodyPost_ret (v := .agg #[.slice ra R.length rc, .slice na (oneS off gs m Z k).length nc, .slice ca on cc]) (by simp [results, Try.results35, go_sem, E0, E1, E2]) rfl (by rw [HQ.out]; exact ⟨ra, rc, na, nc, ca, cc, rfl, HGM.out, HBF.out⟩)
end Go.Proofs.Ytfejpmfcognikaa
namespace Go.Proofs.Ytfejpmfcognikaa
open Go.RowKit
set_option linter.unusedVariables false
set_option linter.unusedSimpArgs false
set_option maxRecDepth 10000

/-- What GarbleCircuit hands back. -/
def GarRet (m gn : Nat) (key off : Int) (gs os : List Int) (on : Nat) (w : World) (e : Ending) (w' : World) : Prop :=
  ∃ (ra : Option Addr) (rc : Nat) (na : Option Addr) (nc : Nat) (ca : Option Addr) (cc : Nat), e = .returned (.tuple #[.agg #[.slice ra (rowS key off gs m gn).length rc, .slice na (oneS off gs m (zerS key off gs m gn) gn).length nc, .slice ca on cc], .bool true]) ∧
    GarbM w' w.heap.size ra (rowS key off gs m gn).length rc (rowS key off gs m gn) na (oneS off gs m (zerS key off gs m gn) gn).length nc (oneS off gs m (zerS key off gs m gn) gn) ca on cc (colL (pkL (zerS key off gs m gn) os on)) ∧ Below w.heap.size w w'
set_option maxHeartbeats 4000000 in
theorem i_GarbleCircuitY (p q : Nat) (ga : Option Addr) (gn gc : Nat) (gs : List Int) (oa : Option Addr) (on oc : Nat) (os : List Int) (key off : Int) (w : World) (h : Circ w ga gn gc gs oa on oc os) (hcc : circB p q gs gn os = true) (hk : keyE key = true) (ho : Odd off) :
    Calls Try.prog 9 #[.agg #[.int .i64 p, .int .i64 q, .slice ga gn gc, .slice oa on oc], .int .i64 key, .int .i64 off] w (GarRet (p + q) gn key off gs os on w) := by
  have A0 := bel_alloc w (.cells #[.int .i64 p, .int .i64 q, .slice ga gn gc, .slice oa on oc] 25)
  have g0 := B4.new (w := w) (x0 := .int .i64 p) (x1 := .int .i64 q) (x2 := .slice ga gn gc) (x3 := .slice oa on oc) (t := 25)
  have A1 := bel_alloc (w.alloc (.cells #[.int .i64 p, .int .i64 q, .slice ga gn gc, .slice oa on oc] 25)) (.cells #[.slice none 0 0, .slice none 0 0, .slice none 0 0] 34)
  have n0 := N3.new (w := w.alloc (.cells #[.int .i64 p, .int .i64 q, .slice ga gn gc, .slice oa on oc] 25)) (t := 34)
  have z0 : (w.alloc (.cells #[.int .i64 p, .int .i64 q, .slice ga gn gc, .slice oa on oc] 25)).heap.size = w.heap.size + 1 := by simp
  have z1 : ((w.alloc (.cells #[.int .i64 p, .int .i64 q, .slice ga gn gc, .slice oa on oc] 25)).alloc (.cells #[.slice none 0 0, .slice none 0 0, .slice none 0 0] 34)).heap.size = w.heap.size + 2 := by simp
  rw [z0] at n0
  have HK := Lib.hid (i_isKeyedY p q ga gn gc gs oa on oc os key off _ ((h.below A0).below A1) hcc hk ho)
  have HH := Lib.hid (And.intro (inB_iff.1 hk) ho)
  have HC := Lib.hid (And.intro ((h.below A0).below A1) (g0.on A1)); have HN := Lib.hid n0; have HB := Lib.hid (bel_trans A0 A1)
  have HCC := Lib.hid hcc
  obtain ⟨c0, c1, c2, c3⟩ := g0.on A1
  clear A0 A1 n0 g0 hcc hk ho h
  obtain ⟨T, hT⟩ : ∃ T, T = GarRet (p + q) gn key off gs os on w := ⟨_, rfl⟩
  have HT := Lib.hid hT
  rw [← hT]; clear hT
  go_enter Try.func9, Try.ntmps9
  go_wp2_with fail
  refine HK.out.mono ?_; rintro e w1 ⟨rfl, hb1⟩
  have hz1 := hb1.size
  rw [z1] at hz1
  have HC1 := Lib.hid (And.intro ((HC.out.1.below hb1).below (bel_drew w1)) ((HC.out.2.on hb1).on (bel_drew w1))); have HN1 := Lib.hid ((HN.out.below hb1).below (bel_drew w1)); have HB1 := Lib.hid (bel_trans (bel_trans HB.out hb1) (bel_drew w1))
  clear HK HC HN HB hb1 c0 c1 c2 c3
  obtain ⟨d0, d1, d2, d3⟩ := id HC1.out.2
  have A2 := bel_alloc w1.drew (.cells #[.int .i64 off] 3)
  obtain ⟨f0, f1, f2, f3⟩ := HC1.out.2.on A2
  obtain ⟨h0, h1, h2, h3⟩ := (show B4 (w1.alloc (.cells #[.int .i64 off] 3)) w.heap.size _ _ _ _ from ⟨f0, f1, f2, f3⟩)
  have fo : (w1.drew.alloc (.cells #[.int .i64 off] 3)).cell? ⟨w1.drew.heap.size, 0, none⟩ = some (.int .i64 off) := World.cell?_alloc_at _ _ _ _ rfl
  have HZ := Lib.hid (i_tables p q ga gn gc gs oa on oc os key off w1.drew.heap.size _ (HC1.out.1.below A2) HCC.out fo HH.out.1 HH.out.2)
  have hz2 : w1.drew.heap.size = w1.heap.size := rfl
  have hz3 : (w1.drew.alloc (.cells #[.int .i64 off] 3)).heap.size = w1.heap.size + 1 := by simp
  go_wp2_with fail
  go_region_law (first
    | (go_simp; go_at_call 36; refine (i_garbledAnd off w1.drew).mono ?_; rintro e wA ⟨rfl, rfl⟩)
    | (go_simp; go_at_call 35; refine HZ.out.mono ?_; rintro e w5 ⟨ra, rc, na, nc, ca, cc, rfl, hM, hb5⟩; obtain ⟨n0, n1, n2, m0, m1, m2⟩ := (HN1.out.below A2).below hb5))
  all_goals
    have HNr := (HN1.out.below A2).below hb5
    obtain ⟨E0, E1, E2⟩ := HNr.set (.slice ra (rowS key off gs (p + q) gn).length rc) (.slice na (oneS off gs (p + q) (zerS key off gs (p + q) gn) gn).length nc) (.slice ca on cc)
    have HGM := Lib.hid ((hM.bex (Bex.only3 (g := w.heap.size + 1) _ (.slice ra (rowS key off gs (p + q) gn).length rc) (.slice na (oneS off gs (p + q) (zerS key off gs (p + q) gn) gn).length nc) (.slice ca on cc)) (by omega)).base (B' := w.heap.size) (by omega))
    have HBF := Lib.hid (bel_set3 (bel_trans (bel_trans HB1.out A2) hb5) (show w.heap.size ≤ w.heap.size + 1 by omega) (.slice ra (rowS key off gs (p + q) gn).length rc) (.slice na (oneS off gs (p + q) (zerS key off gs (p + q) gn) gn).length nc) (.slice ca on cc))
    clear hM hb5 HNr HZ HC1 HN1 HB1
    go_wp2
    exact bodyPost_ret (v := .tuple #[.agg #[.slice ra (rowS key off gs (p + q) gn).length rc, .slice na (oneS off gs (p + q) (zerS key off gs (p + q) gn) gn).length nc, .slice ca on cc], .bool true]) (by simp [results, Try.results9, go_sem, E0, E1, E2]) rfl (by rw [HT.out]; exact ⟨ra, rc, na, nc, ca, cc, rfl, HGM.out, HBF.out⟩)
theorem opA_lab {n : Nat} {x y : Int} {row : List Int} (hr : labs row) : Lab (opA n x y row) := by
  unfold opA; split
  · exact cph_lab _ _ _
  · exact bx_lab (cph_lab _ _ _) (labs_at hr _)
set_option maxHeartbeats 2000000 in
theorem i_openedAnd (n : Nat) (x y : Int) (r : Option Addr) (rc : Nat) (row : List Int) (w : World) (hR : Ints w r 3 rc row) (hn : n ≤ 100000) (hx : Lab x) (hy : Lab y) :
    Calls Try.prog 73 #[.int .i64 n, .int .i64 x, .int .i64 y, .slice r 3 rc] w fun e w' => e = .returned (.int .i64 (opA n x y row)) ∧ Below w.heap.size w w' := by
  have e1 := and_oneZ hx; have e2 := and_oneZ hy
  have b1 := par2 x; have b2 := par2 y
  obtain ⟨u, hu⟩ : ∃ u, u = x % 2 := ⟨_, rfl⟩
  obtain ⟨v, hv⟩ : ∃ v, v = y % 2 := ⟨_, rfl⟩
  rw [← hu] at e1 b1; rw [← hv] at e2 b2
  unfold bit2 at b1 b2
  have e3 : IntKind.i64.wrap (2 * u) = 2 * u := IntWalk.i64_in _ (by omega)
  obtain ⟨k, hk⟩ : ∃ k : Nat, 2 * u + v = k := ⟨(2 * u + v).toNat, by omega⟩
  have e4 : IntKind.i64.wrap (2 * u + v) = (k : Int) := by rw [IntWalk.i64_in _ (by omega)]; exact hk
  have hk3 : k ≤ 3 := by omega
  have HC := Lib.hid (i_cipher n x y w hn hx hy)
  have HU := Lib.hid (And.intro hu (And.intro hv hk)); clear hu hv hk hx hy b1 b2
  by_cases k0 : k = 0
  · subst k0
    have HR : Hid (opA n x y row = cph n x y) := by
      obtain ⟨a1, a2, a3⟩ := HU.out
      show _ = _; unfold opA; rw [← a1, ← a2, if_pos (by omega)]
    go_enter Try.func73, Try.ntmps73
    go_wp2_with fail
    refine HC.out.mono ?_; rintro e w1 ⟨rfl, hb1⟩
    go_wp2
    go_ret
    exact ⟨by rw [HR.out]; first | rfl | simp, hb1⟩
  · obtain ⟨j, rfl⟩ : ∃ j, k = j + 1 := ⟨k - 1, by omega⟩
    have hpos : (0 : Int) < ((j : Int) + 1) := by omega
    have HR : Hid (opA n x y row = bits .xor .i64 (cph n x y) (nth row j)) := by
      obtain ⟨a1, a2, a3⟩ := HU.out
      show _ = _; unfold opA; rw [← a1, ← a2, if_neg (by omega), show (2 * u + v - 1).toNat = j by omega]; rfl
    have ej : IntKind.i64.wrap ((j : Int) + 1 - 1) = (j : Int) := by rw [IntWalk.i64_in _ (by omega)]; omega
    have hj3 : (j : Int) < 3 := by omega
    obtain ⟨Q, hQ⟩ : ∃ Q, bits .xor .i64 (cph n x y) (nth row j) = Q := ⟨_, rfl⟩
    rw [show ((j + 1 : Nat) : Int) = (j : Int) + 1 by omega] at e4
    rw [hQ] at HR
    go_enter Try.func73, Try.ntmps73
    go_wp2_with fail
    refine HC.out.mono ?_; rintro e w1 ⟨rfl, hb1⟩
    obtain ⟨b, off, hr, hbl, hc⟩ := (hR.below hb1).at (i := j) (by omega)
    subst hr
    go_wp2
    go_ret
    exact ⟨by rw [HR.out]; first | rfl | simp, hb1⟩
end Go.Proofs.Ytfejpmfcognikaa
namespace Go.Proofs.Ytfejpmfcognikaa
open Go.RowKit
set_option linter.unusedVariables false
set_option linter.unusedSimpArgs false
set_option maxRecDepth 10000

theorem rowN_labs {rows : List (List Int)} (h : ∀ r ∈ rows, r.length = 3 ∧ labs r) (i : Nat) : labs (rowN rows i) := by
  by_cases hi : i < rows.length
  · exact (h _ (rowN_mem hi)).2
  · have : rowN rows i = [] := by simp [rowN]; rw [List.getElem?_eq_none (by omega)]; rfl
    rw [this]; intro x hx; cases hx
theorem labS_lab {gs : List Int} {rows : List (List Int)} {ones inp : List Int} (hr : ∀ r ∈ rows, r.length = 3 ∧ labs r) (ho : labs ones) (hi : labs inp) : ∀ k, labs (labS gs rows ones inp k).1
  | 0 => hi
  | k + 1 => by
    have ih := labS_lab (gs := gs) hr ho hi k
    show labs (labStep _ _ _ rows ones (labS gs rows ones inp k)).1
    unfold labStep
    split
    · exact labs_snoc ih (bx_lab (labs_at ih _) (labs_at ih _))
    · split
      · exact labs_snoc ih (labs_at ih _)
      · split
        · exact labs_snoc ih (labs_at ho _)
        · exact labs_snoc ih (opA_lab (rowN_labs hr _))
theorem cntK_monoZ (gs : List Int) (q : Int) {k : Nat} : ∀ n, k ≤ n → cntK gs q k ≤ cntK gs q n
  | 0, h => by obtain rfl : k = 0 := by omega
               exact Int.le_refl _
  | n + 1, h => by
    by_cases e : k = n + 1
    · subst e; exact Int.le_refl _
    · have := cntK_monoZ gs q (k := k) n (by omega)
      rw [cntK]; split <;> omega
set_option maxHeartbeats 8000000 in
theorem i_labels (i0 i1 : Int) (ga : Option Addr) (gn gc : Nat) (gs : List Int) (oa : Option Addr) (on oc : Nat) (ra : Option Addr) (rn rc : Nat) (rows : List (List Int)) (na : Option Addr) (nn nc : Nat) (ones : List Int) (ca : Option Addr) (cn cc : Nat) (ia : Option Addr) (m ic : Nat) (inp : List Int) (w : World)
    (hg : Recs 3 w ga gn gc gs) (hR : Rws w ra rn rc rows) (hO : Ints w na nn nc ones) (hI : Ints w ia m ic inp) (hG : Hid (gatesB (m : Int) gs gn = true)) (hrl : Hid (∀ r ∈ rows, r.length = 3 ∧ labs r)) (hol : Hid (labs ones)) (hil : Hid (labs inp)) (hrn : (rn : Int) = cntK gs 1 gn) (hnn : (nn : Int) = cntK gs 3 gn) (hm : m ≤ 40) (hgn : gn ≤ 300) :
    Calls Try.prog 72 #[.agg #[.int .i64 i0, .int .i64 i1, .slice ga gn gc, .slice oa on oc], .agg #[.slice ra rn rc, .slice na nn nc, .slice ca cn cc], .slice ia m ic, .func (.func 73) #[] #[]] w fun e w' => ∃ r c, e = .returned (.slice r (m + gn) c) ∧ Mine w' w.heap.size r (m + gn) c (labS gs rows ones inp gn).1 ∧ Below w.heap.size w w' := by
  have eA : ∀ args w, (callFunc 73 args).run Try.prog w = .ok (.enter 73 args) w := enters_of Try.func73 (by kernel_rfl) rfl
  have hlm := hI.len.out; have hlr := hR.len.out
  have A0 := bel_alloc w (.cells #[.int .i64 i0, .int .i64 i1, .slice ga gn gc, .slice oa on oc] 25)
  have g0 := B4.new (w := w) (x0 := .int .i64 i0) (x1 := .int .i64 i1) (x2 := .slice ga gn gc) (x3 := .slice oa on oc) (t := 25)
  have A1 := bel_alloc (w.alloc (.cells #[.int .i64 i0, .int .i64 i1, .slice ga gn gc, .slice oa on oc] 25)) (.cells #[.slice ra rn rc, .slice na nn nc, .slice ca cn cc] 34)
  have n0 := B3.new (w := w.alloc (.cells #[.int .i64 i0, .int .i64 i1, .slice ga gn gc, .slice oa on oc] 25)) (x0 := .slice ra rn rc) (x1 := .slice na nn nc) (x2 := .slice ca cn cc) (t := 34)
  have z0 : (w.alloc (.cells #[.int .i64 i0, .int .i64 i1, .slice ga gn gc, .slice oa on oc] 25)).heap.size = w.heap.size + 1 := by simp
  have z1 : ((w.alloc (.cells #[.int .i64 i0, .int .i64 i1, .slice ga gn gc, .slice oa on oc] 25)).alloc (.cells #[.slice ra rn rc, .slice na nn nc, .slice ca cn cc] 34)).heap.size = w.heap.size + 2 := by simp
  rw [z0] at n0
  have HF0 := Lib.hid (And.intro hg (And.intro hR hO))
  have HBX := Lib.hid (And.intro (g0.on A1) n0)
  have HII := Lib.hid ((hI.below A0).below A1)
  have HB := Lib.hid (bel_trans A0 A1)
  have HRN := Lib.hid (And.intro hrn hnn)
  have hR0 := Lib.hid (And.intro hR.small hO.small)
  have HL : Hid (∀ k, k ≤ gn → labs (labS gs rows ones inp k).1 ∧ (labS gs rows ones inp k).1.length = m + k ∧ ((labS gs rows ones inp k).2.1 : Int) = cntK gs 1 k ∧ ((labS gs rows ones inp k).2.2 : Int) = cntK gs 3 k) := fun k hk => by
    have hGk : gatesB (m : Int) gs k = true := by
      have : ∀ d, gatesB (m : Int) gs (k + d) = true → gatesB (m : Int) gs k = true := by
        intro d
        induction d with
        | zero => exact fun h => h
        | succ d ih => intro h; rw [← Nat.add_assoc, gatesB, Bool.and_eq_true] at h; exact ih h.1
      exact this (gn - k) (by rw [show k + (gn - k) = gn by omega]; exact hG.out)
    obtain ⟨a, b, c⟩ := labS_cnt gs rows ones inp k hGk
    exact ⟨labS_lab hrl.out hol.out hil.out k, by rw [a, hlm], b, c⟩
  have HLR := Lib.hid hlr
  obtain ⟨c0, c1, c2, c3⟩ := g0.on A1
  clear A0 A1 g0 n0 hg hR hO hI hrn hnn hlm hlr
  go_enter Try.func72, Try.ntmps72
  go_wp2_with fail
  refine (g_Clone ia m ic inp _ HII.out (by omega)).mono ?_; rintro e w1 ⟨r1, k1, rfl, hO1, hb1⟩
  have hz1 := hb1.size
  rw [z1] at hz1
  have HO1 := Lib.hid (ownsRow_base hO1.own (show w.heap.size + 2 ≤ _ by rw [z1]; exact Nat.le_refl _))
  have HX1 := Lib.hid (And.intro (HBX.out.1.on hb1) (show B3 w1 (w.heap.size + 1) _ _ _ from ⟨cell_on HBX.out.2.c0 hb1, cell_on HBX.out.2.c1 hb1, cell_on HBX.out.2.c2 hb1⟩))
  have HB1 := Lib.hid (bel_trans HB.out hb1)
  clear hO1 hb1 HBX HII HB c0 c1 c2 c3
  obtain ⟨d0, d1, d2, d3⟩ := HX1.out.1
  go_wp2
  go_loopw [9, 10, 11, 20] (fun v s t i wr => ∃ k : Nat, k ≤ gn ∧ i = .int .i64 k ∧ s = .int .i64 ((labS gs rows ones inp k).2.1 : Nat) ∧ t = .int .i64 ((labS gs rows ones inp k).2.2 : Nat) ∧ Hid (wr.ownsRow (w.heap.size + 2) 3 1 v (m + k) (ivs (labS gs rows ones inp k).1)) ∧ Hid (Below (w.heap.size + 2) w1 wr)) (fun _ _ _ i _ => gn - (intOf i).toNat)
  case atStart => exact ⟨0, by omega, rfl, rfl, rfl, HO1, Below.refl _ _⟩
  case round =>
    clear HO1 d0 d1 d2 d3
    obtain ⟨k, hk9, rfl, rfl, rfl, HO, HW⟩ := hrel
    have hzw := HW.out.size
    by_cases hlt : k < gn
    · have hlti : (k : Int) < (gn : Int) := by omega
      have HBW := Lib.hid (HB1.out.trans (HW.out.mono (show w.heap.size ≤ w.heap.size + 2 by omega)))
      obtain ⟨gb, go, rfl, gl, g0, g1, g2⟩ := (HF0.out.1.below HBW.out).at3 hlt
      have hgt : gateB (fld 3 gs k 0) (fld 3 gs k 1) (fld 3 gs k 2) (((m + k : Nat)) : Int) = true := by have := gatesB_at hG.out hlt; rw [show (((m + k : Nat)) : Int) = (m : Int) + (k : Int) by omega]; exact this
      have hkd := gateB_kind hgt
      have HLk := HL.out k hk9
      have HS : Hid (labS gs rows ones inp (k + 1) = labStep (fld 3 gs k 0) (fld 3 gs k 1) (fld 3 gs k 2) rows ones (labS gs rows ones inp k)) := rfl
      have HC1 : Hid (fld 3 gs k 0 = 1 → cntK gs 1 k + 1 ≤ (rn : Int)) := fun h => by have := cntK_monoZ gs 1 (k := k + 1) gn (by omega); rw [cntK, if_pos h] at this; have := HRN.out.1; omega
      have HC3 : Hid (fld 3 gs k 0 = 3 → cntK gs 3 k + 1 ≤ (nn : Int)) := fun h => by have := cntK_monoZ gs 3 (k := k + 1) gn (by omega); rw [cntK, if_pos h] at this; have := HRN.out.2; omega
      have y0 := (HW.out.cell (p := ⟨w.heap.size + 1, 0, none⟩) (by show w.heap.size + 1 < w.heap.size + 2; omega)).trans HX1.out.2.c0
      have y1 := (HW.out.cell (p := ⟨w.heap.size + 1, 1, none⟩) (by show w.heap.size + 1 < w.heap.size + 2; omega)).trans HX1.out.2.c1
      obtain ⟨n, hn⟩ : ∃ n, n = m + k := ⟨_, rfl⟩
      rw [← hn] at hgt HLk HO
      generalize labS gs rows ones inp k = S at HLk HS HO
      obtain ⟨l, sa, so⟩ := S
      dsimp only at HLk HS HO
      generalize fld 3 gs k 0 = K at hgt HS g0 hkd HC1 HC3
      generalize fld 3 gs k 1 = A at hgt HS g1
      generalize fld 3 gs k 2 = B at hgt HS g2
      have hn9 : n ≤ 340 := by omega
      have HNN := Lib.hid hn; clear hn
      obtain ⟨a1, k1, rfl, m1⟩ := Mine.of HO.out (by omega) (labs_fit HLk.1)
      have HLL := Lib.hid HLk; clear HLk
      have A1 := bel_alloc wr (.cells #[.int .i64 K, .int .i64 A, .int .i64 B] 111)
      have GB := B3.new (w := wr) (x0 := .int .i64 K) (x1 := .int .i64 A) (x2 := .int .i64 B) (t := 111)
      have zA := A1.size
      have HO1 := Lib.hid (ownsRow_below HO.out A1); have HW1 := Lib.hid (HW.out.trans (A1.mono (show w.heap.size + 2 ≤ wr.heap.size by omega)))
      have hsz : w.heap.size + 2 ≤ wr.heap.size := by omega
      have HBV := Lib.hid (bel_trans HBW.out A1)
      replace y0 := cell_on y0 A1; replace y1 := cell_on y1 A1
      obtain ⟨b0, b1_, b2_⟩ := id GB
      by_cases hK0 : K = 0
      · subst hK0
        rw [gateB_01 (Or.inl rfl)] at hgt
        obtain ⟨ga1, gb1⟩ := Bool.and_eq_true_iff.1 hgt
        obtain ⟨q, q', rfl, rfl, hq, hq', bb, off', rfl, hbl, hc, hd⟩ := m1.ints.wires ga1 gb1
        have hqi : (q : Int) < (n : Int) := by omega
        have hqi' : (q' : Int) < (n : Int) := by omega
        have HN : Hid (labS gs rows ones inp (k + 1) = (l ++ [bx (nth l q) (nth l q')], sa, so)) := by show _ = _; rw [HS.out]; unfold labStep; rw [if_pos rfl]; simp
        obtain ⟨Q, hQ⟩ : ∃ Q, bits .xor .i64 (nth l q) (nth l q') = Q := ⟨_, rfl⟩
        replace hc := cell_on hc A1; replace hd := cell_on hd A1
        clear hgt ga1 gb1 HS m1 GB HLL hkd HC1 HC3 y0 y1
        go_wp2_with fail
        go_quiet (fail)
        go_wp2_with (at_builtin; go_loud (refine wp_app _ (w.heap.size + 2) n _ l Q _ _ rfl _ _ rfl rfl rfl (by first | rfl | simp) (ownsRow_below HO1.out (by (repeat (first | exact Below.refl _ _ | assumption | refine bel_trans ?_ (bel_alloc _ _) | refine bel_set ?_ (by first | (dsimp only; omega) | (simp; omega) | simp) _ | refine bel_trans ?_ (bel_drewN _ _) | refine bel_trans ?_ (bel_drew _) | refine bel_trans ?_ (by assumption))))) (by first | omega | (simp; omega)) (by omega) ?_; intro v9 w9 hv9 hb9 hg9))
        go_roundw
        case rel => exact ⟨k + 1, by omega, by go_num, by rw [HN.out], by rw [HN.out], by rw [show m + (k + 1) = n + 1 by have := HNN.out; omega, HN.out]; unfold bx; rw [hQ]; exact hv9, HW1.out.trans (((by (repeat (first | exact Below.refl _ _ | assumption | refine bel_trans ?_ (bel_alloc _ _) | refine bel_set ?_ (by first | (dsimp only; omega) | (simp; omega) | simp) _ | refine bel_trans ?_ (bel_drewN _ _) | refine bel_trans ?_ (bel_drew _) | refine bel_trans ?_ (by assumption))) : Below (wr.alloc (.cells #[.int .i64 0, .int .i64 q, .int .i64 q'] 111)).heap.size (wr.alloc (.cells #[.int .i64 0, .int .i64 q, .int .i64 q'] 111)) _).mono (by omega)).trans hb9)⟩
        case measure => simp [intOf]; omega
      · by_cases hK2 : K = 2
        · subst hK2
          rw [gateB_2] at hgt
          obtain ⟨ga1, gb1⟩ := Bool.and_eq_true_iff.1 hgt
          obtain ⟨q, rfl, hq, bb, off', rfl, hbl, hc⟩ := m1.ints.wire ga1
          have hqi : (q : Int) < (n : Int) := by omega
          have HN : Hid (labS gs rows ones inp (k + 1) = (l ++ [nth l q], sa, so)) := by show _ = _; rw [HS.out]; unfold labStep; rw [if_neg (by omega), if_pos rfl]; simp
          replace hc := cell_on hc A1
          clear hgt ga1 gb1 HS m1 GB HLL hkd hK0 HC1 HC3 y0 y1
          go_wp2_with (at_builtin; go_loud (refine wp_app _ (w.heap.size + 2) n _ l (nth l q) _ _ rfl _ _ rfl rfl rfl (by first | rfl | simp) (ownsRow_below HO1.out (by (repeat (first | exact Below.refl _ _ | assumption | refine bel_trans ?_ (bel_alloc _ _) | refine bel_set ?_ (by first | (dsimp only; omega) | (simp; omega) | simp) _ | refine bel_trans ?_ (bel_drewN _ _) | refine bel_trans ?_ (bel_drew _) | refine bel_trans ?_ (by assumption))))) (by first | omega | (simp; omega)) (by omega) ?_; intro v9 w9 hv9 hb9 hg9))
          go_roundw
          case rel => exact ⟨k + 1, by omega, by go_num, by rw [HN.out], by rw [HN.out], by rw [show m + (k + 1) = n + 1 by have := HNN.out; omega, HN.out]; exact hv9, HW1.out.trans hb9⟩
          case measure => simp [intOf]; omega
        · by_cases hK3 : K = 3
          · subst hK3
            have hso := HC3.out rfl
            have hsn : so < nn := by have := HLL.out.2.2.2; omega
            have hsi : (so : Int) < (nn : Int) := by omega
            obtain ⟨ob, oo, rfl, hbl, hc⟩ := (HF0.out.2.2.below HBV.out).at hsn
            have es : IntKind.i64.wrap ((so : Int) + 1) = (so : Int) + 1 := IntWalk.i64_in _ (by have := hR0.out; omega)
            have HN : Hid (labS gs rows ones inp (k + 1) = (l ++ [nth ones so], sa, so + 1)) := by show _ = _; rw [HS.out]; unfold labStep; rw [if_neg (by omega), if_neg (by omega), if_pos rfl]
            clear hgt HS m1 GB HLL hkd hK0 hK2 HC1 HC3 y0 hso
            go_wp2_with (at_builtin; go_loud (refine wp_app _ (w.heap.size + 2) n _ l (nth ones so) _ _ rfl _ _ rfl rfl rfl (by first | rfl | simp) (ownsRow_below HO1.out (by (repeat (first | exact Below.refl _ _ | assumption | refine bel_trans ?_ (bel_alloc _ _) | refine bel_set ?_ (by first | (dsimp only; omega) | (simp; omega) | simp) _ | refine bel_trans ?_ (bel_drewN _ _) | refine bel_trans ?_ (bel_drew _) | refine bel_trans ?_ (by assumption))))) (by first | omega | (simp; omega)) (by omega) ?_; intro v9 w9 hv9 hb9 hg9))
            go_roundw
            case rel => exact ⟨k + 1, by omega, by go_num, by rw [HN.out], by rw [HN.out]; simp, by rw [show m + (k + 1) = n + 1 by have := HNN.out; omega, HN.out]; exact hv9, HW1.out.trans hb9⟩
            case measure => simp [intOf]; omega
          · obtain rfl : K = 1 := by omega
            have hsa := HC1.out rfl
            have hsn : sa < rn := by have := HLL.out.2.2.1; omega
            have hsi : (sa : Int) < (rn : Int) := by omega
            obtain ⟨ob, oo, r3, m3, c3, rfl, hbl, hrc, hri⟩ := (HF0.out.2.1.below HBV.out).at hsn
            have hm3 := hri.len.out
            have hr3 := (hrl.out _ (rowN_mem (show sa < rows.length by rw [HLR.out]; exact hsn))).1
            obtain rfl : m3 = 3 := by omega
            have es : IntKind.i64.wrap ((sa : Int) + 1) = (sa : Int) + 1 := IntWalk.i64_in _ (by have := hR0.out; omega)
            rw [gateB_01 (Or.inr rfl)] at hgt
            obtain ⟨ga1, gb1⟩ := Bool.and_eq_true_iff.1 hgt
            obtain ⟨q, q', rfl, rfl, hq, hq', bb, off', rfl, hbl', hc, hd⟩ := m1.ints.wires ga1 gb1
            have hqi : (q : Int) < (n : Int) := by omega
            have hqi' : (q' : Int) < (n : Int) := by omega
            have HN : Hid (labS gs rows ones inp (k + 1) = (l ++ [opA n (nth l q) (nth l q') (rowN rows sa)], sa + 1, so)) := by show _ = _; rw [HS.out]; unfold labStep; rw [if_neg (by omega), if_neg (by omega), if_neg (by omega), HLL.out.2.1]; simp
            have HLA := Lib.hid (And.intro (labs_at HLL.out.1 q) (labs_at HLL.out.1 q'))
            replace hc := cell_on hc A1; replace hd := cell_on hd A1
            have HRI := Lib.hid (hri.below (bel_drew (wr.alloc (.cells #[.int .i64 1, .int .i64 q, .int .i64 q'] 111))))
            clear hgt ga1 gb1 HS m1 GB HLL hkd hK0 hK2 hK3 HC1 HC3 y1 hsa hri hm3 hr3
            go_wp2_with fail
            go_region_held3 (fun W => W.cell? ⟨wr.heap.size, 1, none⟩ = some (.int .i64 q) ∧ W.cell? ⟨wr.heap.size, 2, none⟩ = some (.int .i64 q') ∧ W.cell? ⟨bb, off' + q, none⟩ = some (.int .i64 (nth l q)) ∧ W.cell? ⟨bb, off' + q', none⟩ = some (.int .i64 (nth l q')) ∧ W.cell? ⟨w.heap.size + 1, 0, none⟩ = some (.slice (some ⟨ob, oo, none⟩) rn rc) ∧ W.cell? ⟨ob, oo + sa, none⟩ = some (.slice r3 3 c3)) (first | exact ⟨b1_, b2_, hc, hd, y0, hrc⟩ | exact ⟨cell_on b1_ (by (repeat (first | exact Below.refl _ _ | assumption | refine bel_trans ?_ (bel_alloc _ _) | refine bel_set ?_ (by first | (dsimp only; omega) | (simp; omega) | simp) _ | refine bel_trans ?_ (bel_drewN _ _) | refine bel_trans ?_ (bel_drew _) | refine bel_trans ?_ (by assumption)))), cell_on b2_ (by (repeat (first | exact Below.refl _ _ | assumption | refine bel_trans ?_ (bel_alloc _ _) | refine bel_set ?_ (by first | (dsimp only; omega) | (simp; omega) | simp) _ | refine bel_trans ?_ (bel_drewN _ _) | refine bel_trans ?_ (bel_drew _) | refine bel_trans ?_ (by assumption)))), cell_on hc (by (repeat (first | exact Below.refl _ _ | assumption | refine bel_trans ?_ (bel_alloc _ _) | refine bel_set ?_ (by first | (dsimp only; omega) | (simp; omega) | simp) _ | refine bel_trans ?_ (bel_drewN _ _) | refine bel_trans ?_ (bel_drew _) | refine bel_trans ?_ (by assumption)))), cell_on hd (by (repeat (first | exact Below.refl _ _ | assumption | refine bel_trans ?_ (bel_alloc _ _) | refine bel_set ?_ (by first | (dsimp only; omega) | (simp; omega) | simp) _ | refine bel_trans ?_ (bel_drewN _ _) | refine bel_trans ?_ (bel_drew _) | refine bel_trans ?_ (by assumption)))), cell_on y0 (by (repeat (first | exact Below.refl _ _ | assumption | refine bel_trans ?_ (bel_alloc _ _) | refine bel_set ?_ (by first | (dsimp only; omega) | (simp; omega) | simp) _ | refine bel_trans ?_ (bel_drewN _ _) | refine bel_trans ?_ (bel_drew _) | refine bel_trans ?_ (by assumption)))), cell_on hrc (by (repeat (first | exact Below.refl _ _ | assumption | refine bel_trans ?_ (bel_alloc _ _) | refine bel_set ?_ (by first | (dsimp only; omega) | (simp; omega) | simp) _ | refine bel_trans ?_ (bel_drewN _ _) | refine bel_trans ?_ (bel_drew _) | refine bel_trans ?_ (by assumption))))⟩) (first
              | (go_at_fn 73; refine (i_openedAnd n (nth l q) (nth l q') r3 c3 (rowN rows sa) _ HRI.out (by omega) HLA.out.1 HLA.out.2).mono ?_; rintro e w5 ⟨rfl, hb5⟩; have b1_ := cell_on (cell_on b1_ (bel_drew _)) hb5; have b2_ := cell_on (cell_on b2_ (bel_drew _)) hb5; have hc := cell_on (cell_on hc (bel_drew _)) hb5; have hd := cell_on (cell_on hd (bel_drew _)) hb5; have y0 := cell_on (cell_on y0 (bel_drew _)) hb5; have hrc := cell_on (cell_on hrc (bel_drew _)) hb5))
            have HO5 := Lib.hid (ownsRow_below (ownsRow_below HO1.out (bel_drew _)) hb5)
            have HW5 := Lib.hid ((HW1.out.trans ((bel_drew (wr.alloc (.cells #[.int .i64 1, .int .i64 q, .int .i64 q'] 111))).mono (show w.heap.size + 2 ≤ _ by omega))).trans (hb5.mono (show w.heap.size + 2 ≤ (wr.alloc (.cells #[.int .i64 1, .int .i64 q, .int .i64 q'] 111)).heap.size by omega)))
            have hz5 := HW5.out.size
            clear hc hd hrc y0 HO1 HW1 hb5 HRI b0 b1_ b2_
            go_wp2_with (at_builtin; go_loud (refine wp_app _ (w.heap.size + 2) n _ l (opA n (nth l q) (nth l q') (rowN rows sa)) _ _ rfl _ _ rfl rfl rfl (by first | rfl | simp) (ownsRow_below HO5.out (by (repeat (first | exact Below.refl _ _ | assumption | refine bel_trans ?_ (bel_alloc _ _) | refine bel_set ?_ (by first | (dsimp only; omega) | (simp; omega) | simp) _ | refine bel_trans ?_ (bel_drewN _ _) | refine bel_trans ?_ (bel_drew _) | refine bel_trans ?_ (by assumption))))) (by first | omega | (simp; omega)) (by omega) ?_; intro v9 w9 hv9 hb9 hg9))
            go_roundw
            case rel => exact ⟨k + 1, by omega, by go_num, by rw [HN.out]; simp, by rw [HN.out], by rw [show m + (k + 1) = n + 1 by have := HNN.out; omega, HN.out]; exact hv9, HW5.out.trans hb9⟩
            case measure => simp [intOf]; omega
    · obtain rfl : k = gn := by omega
      have hlti : ¬ (k : Int) < (k : Int) := by omega
      obtain ⟨r9, c9, hv, hm9⟩ := Mine.of HO.out (by omega) (labs_fit (HL.out k (Nat.le_refl _)).1)
      subst hv
      have HM9 := Lib.hid (hm9.base (show w.heap.size ≤ w.heap.size + 2 by omega))
      have HB9 := Lib.hid (HB1.out.trans (HW.out.mono (by omega)))
      clear hm9
      go_wp2
      go_ret
      exact ⟨_, _, rfl, HM9.out, HB9.out⟩
end Go.Proofs.Ytfejpmfcognikaa
