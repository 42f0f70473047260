/-
  Contracts: picks, RunSharedBits, both sides.
-/
import Derived.Test.YtmkcanbaleecfaaC10
namespace Go.Proofs.Ytmkcanbaleecfaa
open Go.RowKit
set_option linter.unusedVariables false
set_option linter.unusedSimpArgs false
set_option maxRecDepth 10000

def pkL (l os : List Int) (n : Nat) : List Int := (List.range n).map (fun k => nth l (nth os k).toNat)
theorem pkL_succ (l os : List Int) (n : Nat) : pkL l os (n + 1) = pkL l os n ++ [nth l (nth os n).toNat] := by simp [pkL, List.range_succ]
theorem pkL_len (l os : List Int) (n : Nat) : (pkL l os n).length = n := by simp [pkL]
theorem nth_pkL {l os : List Int} {n i : Nat} (hi : i < n) : nth (pkL l os n) i = nth l (nth os i).toNat := by simp [nth, pkL, hi]
theorem nth_fit {l : List Int} (h : ∀ x ∈ l, Fits x) (i : Nat) : Fits (nth l i) := by
  by_cases hi : i < l.length
  · exact h _ (nth_mem hi)
  · have : nth l i = 0 := by simp [nth]; rw [List.getElem?_eq_none (by omega)]; rfl
    rw [this]; unfold Fits; omega
theorem pkL_fit {l : List Int} (h : ∀ x ∈ l, Fits x) (os : List Int) (n : Nat) : ∀ x ∈ pkL l os n, Fits x := by
  intro x hx
  simp only [pkL, List.mem_map] at hx
  obtain ⟨i, _, rfl⟩ := hx
  exact nth_fit h _
theorem pkL_xr {u v os : List Int} {n m : Nat} (h : ∀ i, i < m → 0 ≤ nth os i ∧ nth os i < n) : pkL (xrL u v n) os m = xrL (pkL u os m) (pkL v os m) m := by
  unfold pkL
  rw [xrL]
  apply List.map_congr_left
  intro k hk
  have hk' := List.mem_range.1 hk
  have := h k hk'
  have e1 := nth_pkL (l := u) (os := os) hk'
  have e2 := nth_pkL (l := v) (os := os) hk'
  have e3 := nth_xrL (xs := u) (ys := v) (n := n) (i := (nth os k).toNat) (by omega)
  unfold pkL at e1 e2
  unfold xrL at e3
  rw [e1, e2, e3]
theorem xrL_bit (xs ys : List Int) (n : Nat) : bit1 (xrL xs ys n) := by
  intro x hx
  simp only [xrL, List.mem_map] at hx
  obtain ⟨i, _, rfl⟩ := hx
  exact xr_bd _ _
theorem bit1_at {l : List Int} (h : bit1 l) (i : Nat) : 0 ≤ nth l i ∧ nth l i ≤ 1 := by
  by_cases hi : i < l.length
  · exact h _ (nth_mem hi)
  · have : nth l i = 0 := by simp [nth]; rw [List.getElem?_eq_none (by omega)]; rfl
    rw [this]; omega
theorem pkL_bit {l : List Int} (h : bit1 l) (os : List Int) (n : Nat) : bit1 (pkL l os n) := by
  intro x hx
  simp only [pkL, List.mem_map] at hx
  obtain ⟨i, _, rfl⟩ := hx
  exact bit1_at h _
def rsAll (i0 i1 : Int) (gs : List Int) (gn : Nat) (os : List Int) (key : Int) (us vs : List Int) : List Int × Bool :=
  if askB i0 i1 gs gn os us vs && keyB key then (xrL (pkL (runR key gs us vs gn).1 os os.length) (pkL (runR key gs us vs gn).2.1 os os.length) os.length, true) else ([], false)
theorem rsAll_len (i0 i1 : Int) (gs : List Int) (gn : Nat) (os : List Int) (key : Int) (us vs : List Int) : (rsAll i0 i1 gs gn os key us vs).1.length ≤ 40 := by
  unfold rsAll
  split
  · rename_i h
    have hc := (askB_iff.1 (Bool.and_eq_true_iff.1 h).1).1
    have := (circB_in hc).2.2.2
    simp [xrL]; omega
  · simp
theorem outs_in {i0 i1 : Int} {gs os : List Int} {gn n : Nat} (h : circB i0 i1 gs gn os = true) (hn : (n : Int) = i0 + i1 + gn) : Hid (∀ i, i < os.length → 0 ≤ nth os i ∧ nth os i < n) := by
  intro i hi
  have := (circB_iff.1 h).2.2
  have := inB_iff.1 (allIn_iff.1 this i hi)
  omega

set_option maxHeartbeats 2000000 in
theorem s_ciPick (a b : Option Addr) (n cap m bc : Nat) (xs os : List Int) (w : World) (h : Ints w a n cap xs) (h' : Ints w b m bc os) (hs : m ≤ 100000) (hx : Hid (∀ i, i < m → 0 ≤ nth os i ∧ nth os i < n)) :
    Calls Try.prog 61 #[.slice a n cap, .slice b m bc] w fun e w' => ∃ r c, e = .returned (.slice r m c) ∧ Mine w' w.heap.size r m c (pkL xs os m) ∧ Below w.heap.size w w' := by
  have HFT := Lib.hid (pkL_fit h.wf os m)
  go_enter Try.func61, Try.ntmps61
  go_wp2
  go_loopw [5, 7, 10] (fun v q_ i wr => ∃ k : Nat, k ≤ m ∧ i = .int .i64 k ∧ Hid (wr.ownsRow w.heap.size 3 1 v k (ivs (pkL xs os k))) ∧ Hid (Below w.heap.size w wr)) (fun _ _ i _ => m - (intOf i).toNat)
  case atStart => exact ⟨0, by omega, rfl, World.ownsRow_nil _ _ _ _, Below.refl _ _⟩
  case round =>
    obtain ⟨k, hk, rfl, HO, HB⟩ := hrel
    by_cases hlt : k < m
    · obtain ⟨b, off, rfl, hbl, hc⟩ := (h'.below HB.out).at hlt
      obtain ⟨q, hq⟩ : ∃ q : Nat, nth os k = q := ⟨(nth os k).toNat, by have := hx.out k hlt; omega⟩
      have hqn : q < n := by have := hx.out k hlt; omega
      have HS : Hid (pkL xs os (k + 1) = pkL xs os k ++ [nth xs q]) := by show _ = _; rw [pkL_succ, hq]; rfl
      rw [hq] at hc; clear hq
      obtain ⟨b', off', rfl, hbl', hc'⟩ := (h.below HB.out).at (i := q) hqn
      have hlti : (k : Int) < (m : Int) := by omega
      have hlt0 : (q : Int) < (n : Int) := by omega
      have hz := HB.out.size
      go_wp2_with (at_builtin; refine wp_app wr w.heap.size _ _ _ (nth xs q) _ _ rfl _ _ rfl rfl rfl rfl HO.out hz (by omega) ?_; intro v9 w9 hv9 hb9 hg9)
      clear hg9
      go_roundw
      case rel => exact ⟨k + 1, by omega, by go_num, by rw [HS.out]; exact hv9, HB.out.trans hb9⟩
      case measure => simp [intOf]; omega
    · obtain rfl : k = m := by omega
      go_wp2
      obtain ⟨r, c, hv, hm⟩ := OwnI.of HO.out (by omega) HFT.out
      subst hv
      go_ret
      exact ⟨_, _, rfl, hm.mine, HB.out⟩
set_option maxHeartbeats 2000000 in
theorem i_at (a b : Option Addr) (n cap m bc : Nat) (xs os : List Int) (w : World) (h : Ints w a n cap xs) (h' : Ints w b m bc os) (hs : m ≤ 100000) (hx : Hid (∀ i, i < m → 0 ≤ nth os i ∧ nth os i < n)) :
    Calls Try.prog 64 #[.slice a n cap, .slice b m bc] w fun e w' => ∃ r c, e = .returned (.slice r m c) ∧ Mine w' w.heap.size r m c (pkL xs os m) ∧ Below w.heap.size w w' := by
  have HFT := Lib.hid (pkL_fit h.wf os m)
  go_enter Try.func64, Try.ntmps64
  go_wp2
  go_loopw [5, 7, 11] (fun v q_ i wr => ∃ k : Nat, k ≤ m ∧ i = .int .i64 k ∧ Hid (wr.ownsRow w.heap.size 3 1 v k (ivs (pkL xs os k))) ∧ Hid (Below w.heap.size w wr)) (fun _ _ i _ => m - (intOf i).toNat)
  case atStart => exact ⟨0, by omega, rfl, (show Hid _ from World.ownsRow_lit w #[] 0 (Nat.le_refl _) (by decide) rfl), (show Hid _ from bel_alloc w _)⟩
  case round =>
    obtain ⟨k, hk, rfl, HO, HB⟩ := hrel
    by_cases hlt : k < m
    · obtain ⟨b, off, rfl, hbl, hc⟩ := (h'.below HB.out).at hlt
      obtain ⟨q, hq⟩ : ∃ q : Nat, nth os k = q := ⟨(nth os k).toNat, by have := hx.out k hlt; omega⟩
      have hqn : q < n := by have := hx.out k hlt; omega
      have HS : Hid (pkL xs os (k + 1) = pkL xs os k ++ [nth xs q]) := by show _ = _; rw [pkL_succ, hq]; rfl
      rw [hq] at hc; clear hq
      obtain ⟨b', off', rfl, hbl', hc'⟩ := (h.below HB.out).at (i := q) hqn
      have hlti : (k : Int) < (m : Int) := by omega
      have hlt0 : (q : Int) < (n : Int) := by omega
      have hz := HB.out.size
      go_wp2_with (at_builtin; refine wp_app wr w.heap.size _ _ _ (nth xs q) _ _ rfl _ _ rfl rfl rfl rfl HO.out hz (by omega) ?_; intro v9 w9 hv9 hb9 hg9)
      clear hg9
      go_roundw
      case rel => exact ⟨k + 1, by omega, by go_num, by rw [HS.out]; exact hv9, HB.out.trans hb9⟩
      case measure => simp [intOf]; omega
    · obtain rfl : k = m := by omega
      go_wp2
      obtain ⟨r, c, hv, hm⟩ := OwnI.of HO.out (by omega) HFT.out
      subst hv
      go_ret
      exact ⟨_, _, rfl, hm.mine, HB.out⟩
set_option maxHeartbeats 8000000 in
theorem s_RunSharedBits (i0 i1 : Int) (ga : Option Addr) (gn gc : Nat) (gs : List Int) (oa : Option Addr) (on oc : Nat) (os : List Int) (key : Int) (aa : Option Addr) (an ac : Nat) (us : List Int) (ba : Option Addr) (bn bc : Nat) (vs : List Int) (w : World) (h : Circ w ga gn gc gs oa on oc os) (hk : Fits key) (ha : Ints w aa an ac us) (hb : Ints w ba bn bc vs) :
    Calls Try.prog 24 #[.agg #[.int .i64 i0, .int .i64 i1, .slice ga gn gc, .slice oa on oc], .int .i64 key, .slice aa an ac, .slice ba bn bc] w fun e w' => ∃ r c, e = .returned (.tuple #[.slice r (rsAll i0 i1 gs gn os key us vs).1.length c, .bool (rsAll i0 i1 gs gn os key us vs).2]) ∧ Mine w' w.heap.size r (rsAll i0 i1 gs gn os key us vs).1.length c (rsAll i0 i1 gs gn os key us vs).1 ∧ Below w.heap.size w w' := by
  have hla := ha.len.out; have hlb := hb.len.out; have hlo := h.o.len.out
  have A0 := bel_alloc w (.cells #[.int .i64 i0, .int .i64 i1, .slice ga gn gc, .slice oa on oc] 31)
  have g0 := B4.new (w := w) (x0 := .int .i64 i0) (x1 := .int .i64 i1) (x2 := .slice ga gn gc) (x3 := .slice oa on oc) (t := 31)
  obtain ⟨c0, c1, c2, c3⟩ := g0
  replace h := h.below A0; replace ha := ha.below A0; replace hb := hb.below A0
  unfold rsAll
  cases hAK : (askB i0 i1 gs gn os us vs && keyB key) with
  | false =>
    go_enter Try.func24, Try.ntmps24
    go_wp2_with fail
    refine (s_sbAsked _ _ _ _ _ gs _ _ _ os _ _ _ _ us _ _ _ vs _ h ha hb).mono ?_; rintro e w1 ⟨rfl, hb1⟩; rw [hAK]
    go_wp2
    go_ret2
    exact ⟨_, _, rfl, Mine.nil, bel_trans A0 hb1⟩
  | true =>
    obtain ⟨hA, hK⟩ := Bool.and_eq_true_iff.1 hAK
    rw [if_pos rfl]
    have HRO := Lib.hid (runR_ok key hA)
    obtain ⟨hcc, _, _, e0, e1⟩ := askB_iff.1 hA; have hgn := (circB_in hcc).2.2.1; have hon := (circB_in hcc).2.2.2; have hl2 := askB_len hA; have hkk := keyB_iff.1 hK
    have HOI := outs_in (n := an + bn + gn) hcc (by omega)
    rw [hlo] at HOI hon; clear hcc
    rw [hla, hlb] at HRO
    obtain ⟨cc_, OK⟩ := HRO.out; have HOK := Lib.hid OK; clear OK HRO
    have HXP : Hid (pkL (xrL (runR key gs us vs gn).1 (runR key gs us vs gn).2.1 (an + bn + gn)) os on = xrL (pkL (runR key gs us vs gn).1 os on) (pkL (runR key gs us vs gn).2.1 os on) on) := pkL_xr HOI.out
    have HU : Hid ((runR key gs us vs gn).1.length = an + bn + gn ∧ (runR key gs us vs gn).2.1.length = an + bn + gn) := ⟨HOK.out.lu, HOK.out.lv⟩
    have HBU : Hid (bit1 (runR key gs us vs gn).1 ∧ bit1 (runR key gs us vs gn).2.1) := ⟨HOK.out.bu, HOK.out.bv⟩
    have HRR := s_sbRun i0 i1 ga gn gc gs oa on oc os key aa an ac us ba bn bc vs
    clear HOK
    go_enter Try.func24, Try.ntmps24
    go_wp2_with fail
    refine (s_sbAsked _ _ _ _ _ gs _ _ _ os _ _ _ _ us _ _ _ vs _ h ha hb).mono ?_; rintro e w1 ⟨rfl, hb1⟩; rw [hAK]
    replace c0 := cell_on c0 hb1; replace c1 := cell_on c1 hb1; replace c2 := cell_on c2 hb1; replace c3 := cell_on c3 hb1
    go_wp2_with fail
    refine (HRR _ (h.below hb1) hkk (ha.below hb1) (hb.below hb1) hA).mono ?_; rintro e w5 ⟨v1, v2, v3, c, rfl, OK, T, hb5⟩
    have B5 := bel_trans (bel_trans A0 hb1) hb5; have zz := (bel_trans A0 hb1).size
    replace c3 := cell_on c3 hb5; clear c0 c1 c2
    have ho5 := (h.o.below hb1).below hb5
    obtain ⟨a1, k1, a2, k2, rfl, rfl, m1, m2, ap⟩ := T.duo.two (w0 := w) (by omega) (by omega) OK.bu.fit OK.bv.fit zz
    have M1 := Lib.hid m1.ints; have M2 := Lib.hid m2.ints; clear m1 m2 T OK ap HRR
    have hN9 : an + bn + gn ≤ 100000 := by rw [hla, hlb] at hl2; omega
    clear hAK hA hK hla hlb e0 e1 hl2 hkk hk ha hb h
    have HO5 := Lib.hid ho5; clear ho5
    have HB5 := Lib.hid B5; clear B5
    go_wp2_with fail
    go_region_held3 (fun W => W.cell? ⟨w.heap.size, 3, none⟩ = some (.slice oa on oc)) (exact c3) (first | (go_at_call 61; refine (s_ciPick _ _ _ _ _ _ _ os _ MX.out HO5.out (by omega) HOI).mono ?_; rintro e9 wq ⟨ry, yc, rfl, my, hb2⟩; have zq := HB5.out.size; have hb3 := hb2; have HB5 := Lib.hid (bel_trans HB5.out hb3); have HO5 := Lib.hid (HO5.out.below hb3); have c3 := cell_on c3 hb3; have MY := Lib.hid (my.base zq); clear hb2 hb3 my MX) | (go_at_call 62; refine (s_btXorO _ _ _ _ _ _ (runR key gs us vs gn).1 (runR key gs us vs gn).2.1 _ (M1.out.below (bel_drew _)) (M2.out.below (bel_drew _)) (Nat.le_refl _) (by omega) (fun i hi => ⟨bit1_at HBU.out.1 i, bit1_at HBU.out.2 i⟩)).mono ?_; rintro e9 wq ⟨rx, rc, rfl, mx, hb2⟩; have hb3 := bel_trans (bel_drew _) hb2; have HB5 := Lib.hid (bel_trans HB5.out hb3); have HO5 := Lib.hid (HO5.out.below hb3); have c3 := cell_on c3 hb3; have MX := Lib.hid mx.ints; clear hb2 hb3 mx M1 M2))
    go_wp2
    go_ret2
    refine ⟨ry, yc, ?_, ?_, HB5.out⟩
    · rw [hlo, show (xrL (pkL (runR key gs us vs gn).1 os on) (pkL (runR key gs us vs gn).2.1 os on) on).length = on by simp [xrL]]; rfl
    · rw [hlo, show (xrL (pkL (runR key gs us vs gn).1 os on) (pkL (runR key gs us vs gn).2.1 os on) on).length = on by simp [xrL]]; rw [← HXP.out]; exact MY.out
set_option maxHeartbeats 8000000 in
theorem i_RunSharedBits (i0 i1 : Int) (ga : Option Addr) (gn gc : Nat) (gs : List Int) (oa : Option Addr) (on oc : Nat) (os : List Int) (key : Int) (aa : Option Addr) (an ac : Nat) (us : List Int) (ba : Option Addr) (bn bc : Nat) (vs : List Int) (w : World) (h : Circ w ga gn gc gs oa on oc os) (hk : Fits key) (ha : Ints w aa an ac us) (hb : Ints w ba bn bc vs) :
    Calls Try.prog 25 #[.agg #[.int .i64 i0, .int .i64 i1, .slice ga gn gc, .slice oa on oc], .int .i64 key, .slice aa an ac, .slice ba bn bc] w fun e w' => ∃ r c, e = .returned (.tuple #[.slice r (rsAll i0 i1 gs gn os key us vs).1.length c, .bool (rsAll i0 i1 gs gn os key us vs).2]) ∧ Mine w' w.heap.size r (rsAll i0 i1 gs gn os key us vs).1.length c (rsAll i0 i1 gs gn os key us vs).1 ∧ Below w.heap.size w w' := by
  have hla := ha.len.out; have hlb := hb.len.out; have hlo := h.o.len.out
  have A0 := bel_alloc w (.cells #[.int .i64 i0, .int .i64 i1, .slice ga gn gc, .slice oa on oc] 31)
  have g0 := B4.new (w := w) (x0 := .int .i64 i0) (x1 := .int .i64 i1) (x2 := .slice ga gn gc) (x3 := .slice oa on oc) (t := 31)
  obtain ⟨c0, c1, c2, c3⟩ := g0
  replace h := h.below A0; replace ha := ha.below A0; replace hb := hb.below A0
  unfold rsAll
  cases hAK : (askB i0 i1 gs gn os us vs && keyB key) with
  | false =>
    have HC := i_SharedWires i0 i1 ga gn gc gs oa on oc os key aa an ac us ba bn bc vs _ h hk ha hb
    rw [show runAll i0 i1 gs gn os key us vs = ([], [], [], false) by unfold runAll; rw [hAK]; rfl] at HC; simp only [TwoA, List.length_nil] at HC
    go_enter Try.func25, Try.ntmps25
    go_wp2_with fail
    refine HC.mono ?_; clear HC; rintro e w1 ⟨_, _, _, _, rfl, _, _, _, hb1⟩
    go_wp2
    go_ret2
    exact ⟨_, _, rfl, Mine.nil, bel_trans A0 hb1⟩
  | true =>
    obtain ⟨hA, hK⟩ := Bool.and_eq_true_iff.1 hAK
    rw [if_pos rfl]
    have HRO := Lib.hid (runR_ok key hA)
    obtain ⟨hcc, _, _, e0, e1⟩ := askB_iff.1 hA; have hgn := (circB_in hcc).2.2.1; have hon := (circB_in hcc).2.2.2; have hl2 := askB_len hA; have hkk := keyB_iff.1 hK
    have HOI := outs_in (n := an + bn + gn) hcc (by omega)
    rw [hlo] at HOI hon; clear hcc
    rw [hla, hlb] at HRO
    obtain ⟨cc_, OK⟩ := HRO.out; have HOK := Lib.hid OK; clear OK HRO
    have HXP : Hid (pkL (xrL (runR key gs us vs gn).1 (runR key gs us vs gn).2.1 (an + bn + gn)) os on = xrL (pkL (runR key gs us vs gn).1 os on) (pkL (runR key gs us vs gn).2.1 os on) on) := pkL_xr HOI.out
    have HC := i_SharedWires i0 i1 ga gn gc gs oa on oc os key aa an ac us ba bn bc vs _ h hk ha hb
    rw [show runAll i0 i1 gs gn os key us vs = ((runR key gs us vs gn).1, (runR key gs us vs gn).2.1, (runR key gs us vs gn).2.2, true) by unfold runAll; rw [hAK]; rfl] at HC; simp only [TwoA, HOK.out.lu, HOK.out.lv] at HC
    have HU : Hid ((runR key gs us vs gn).1.length = an + bn + gn ∧ (runR key gs us vs gn).2.1.length = an + bn + gn) := ⟨HOK.out.lu, HOK.out.lv⟩
    have HBU : Hid (bit1 (runR key gs us vs gn).1 ∧ bit1 (runR key gs us vs gn).2.1) := ⟨HOK.out.bu, HOK.out.bv⟩
    clear HOK
    go_enter Try.func25, Try.ntmps25
    go_wp2_with fail
    refine HC.mono ?_; clear HC; rintro e w5 ⟨a1, k1, a2, k2, rfl, m1, m2, ap, hb5⟩
    have B5 := bel_trans A0 hb5; have zz := A0.size
    replace c3 := cell_on c3 hb5; clear c0 c1 c2 ap
    have ho5 := h.o.below hb5
    have M1 := Lib.hid m1.ints; have M2 := Lib.hid m2.ints; clear m1 m2
    have hN9 : an + bn + gn ≤ 100000 := by rw [hla, hlb] at hl2; omega
    clear hAK hA hK hla hlb e0 e1 hl2 hkk hk ha hb h
    have HO5 := Lib.hid ho5; clear ho5
    have HB5 := Lib.hid B5; clear B5
    go_wp2_with fail
    have tok : True := trivial
    go_region_held3 (fun W => W.cell? ⟨w.heap.size, 3, none⟩ = some (.slice oa on oc)) (exact c3) (first | (have t0 := tok; clear t0 tok; go_at_call 64; refine (i_at _ _ _ _ _ _ _ os _ (M1.out.below (bel_drew _)) (HO5.out.below (bel_drew _)) (by omega) HOI).mono ?_; rintro e9 wq ⟨rx, xc, rfl, mx, hb2⟩; have hb3 := bel_trans (bel_drew _) hb2; have HB5 := Lib.hid (bel_trans HB5.out hb3); have HO5 := Lib.hid (HO5.out.below hb3); have c3 := cell_on c3 hb3; have M2 := Lib.hid (M2.out.below hb3); have MX := Lib.hid mx.ints; clear hb2 hb3 mx M1) | (have t0 := MX; clear t0; go_at_call 64; refine (i_at _ _ _ _ _ _ _ os _ M2.out HO5.out (by omega) HOI).mono ?_; rintro e9 wq ⟨ry, yc, rfl, my, hb2⟩; have hb3 := hb2; have HB5 := Lib.hid (bel_trans HB5.out hb3); have HO5 := Lib.hid (HO5.out.below hb3); have c3 := cell_on c3 hb3; have MX := Lib.hid (MX.out.below hb3); have MY := Lib.hid my.ints; clear hb2 hb3 my M2) | (go_at_call 63; refine (i_xoredO _ _ _ _ _ _ (pkL (runR key gs us vs gn).1 os on) (pkL (runR key gs us vs gn).2.1 os on) _ MX.out MY.out (Nat.le_refl _) (by omega) (fun i hi => ⟨bit1_at (pkL_bit HBU.out.1 os on) i, bit1_at (pkL_bit HBU.out.2 os on) i⟩)).mono ?_; rintro e9 wq ⟨rz, zc, rfl, mz, hb2⟩; have zq := HB5.out.size; have hb3 := hb2; have HB5 := Lib.hid (bel_trans HB5.out hb3); have HO5 := Lib.hid (HO5.out.below hb3); have c3 := cell_on c3 hb3; have MZ := Lib.hid (mz.mine.base zq); clear hb2 hb3 mz MX MY))
    go_wp2
    go_ret2
    refine ⟨rz, zc, ?_, ?_, HB5.out⟩
    · rw [hlo, show (xrL (pkL (runR key gs us vs gn).1 os on) (pkL (runR key gs us vs gn).2.1 os on) on).length = on by simp [xrL]]; rfl
    · rw [hlo, show (xrL (pkL (runR key gs us vs gn).1 os on) (pkL (runR key gs us vs gn).2.1 os on) on).length = on by simp [xrL]]; exact MZ.out
end Go.Proofs.Ytmkcanbaleecfaa
