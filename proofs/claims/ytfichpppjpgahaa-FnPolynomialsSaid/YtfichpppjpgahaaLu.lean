/-
  The draws of points and systems.
-/
import Derived.Test.YtfichpppjpgahaaEl
import Derived.Test.YtfichpppjpgahaaRH
import Derived.Test.YtfichpppjpgahaaLt
namespace Go.Proofs.Ytfichpppjpgahaa
open Go.RowKit
set_option linter.unusedVariables false
set_option linter.unusedSimpArgs false
set_option maxRecDepth 20000

/-- A slice of rows that can be read; it and its rows lie in blocks from lo on. -/
structure RwP (w : World) (lo : Nat) (a : Option Addr) (n cap : Nat) (xss : List (List Int)) : Prop where
  len : Hid (xss.length = n)
  ncap : n ≤ cap
  small : n ≤ 17592186044416
  capm : cap ≤ 9223372036854775807
  nilc : Hid (a = none → cap = 0)
  row : Hid (∀ i, i < n → ∃ b off r m c, a = some ⟨b, off, none⟩ ∧ lo ≤ b ∧ b < w.heap.size ∧ w.cell? ⟨b, off + i, none⟩ = some (.slice r m c) ∧ Ints w r m c (rowN xss i) ∧ (0 < m → ∀ g o, r = some ⟨g, o, none⟩ → lo ≤ g))
theorem RwP.rows {w : World} {lo : Nat} {a : Option Addr} {n cap : Nat} {xss : List (List Int)} (h : RwP w lo a n cap xss) : Rws w a n cap xss := by
  refine ⟨h.len, h.ncap, h.small, h.capm, fun i hi => ?_, h.nilc⟩
  obtain ⟨b, off, r, m, c, e, _, hb, hc, hm, _⟩ := h.row.out i hi
  exact ⟨b, off, r, m, c, e, hb, hc, hm⟩
theorem RwP.below {w w' : World} {lo : Nat} {a : Option Addr} {n cap : Nat} {xss : List (List Int)} (h : RwP w lo a n cap xss) (hb : Below w.heap.size w w') : RwP w' lo a n cap xss := by
  refine ⟨h.len, h.ncap, h.small, h.capm, h.nilc, fun i hi => ?_⟩
  obtain ⟨b, off, r, m, c, e, h0, hl, hc, hm, hp⟩ := h.row.out i hi
  exact ⟨b, off, r, m, c, e, h0, Nat.lt_of_lt_of_le hl hb.size, (hb.cell (p := ⟨b, off + i, none⟩) hl).trans hc, hm.below hb, hp⟩
theorem RwP.bex {b0 : Nat} {w w' : World} {lo : Nat} {a : Option Addr} {n cap : Nat} {xss : List (List Int)} (h : RwP w lo a n cap xss) (k : Bex b0 w w') (hb : b0 < lo) : RwP w' lo a n cap xss := by
  refine ⟨h.len, h.ncap, h.small, h.capm, h.nilc, fun i hi => ?_⟩
  obtain ⟨b, off, r, m, c, e, h0, hl, hc, hm, hp⟩ := h.row.out i hi
  exact ⟨b, off, r, m, c, e, h0, Nat.lt_of_lt_of_le hl k.size, k.cell hc (by omega), hm.bex k (fun h1 g o e' => by have := hp h1 g o e'; omega), hp⟩
theorem RwP.base {w : World} {lo lo' : Nat} {a : Option Addr} {n cap : Nat} {xss : List (List Int)} (h : RwP w lo a n cap xss) (hb : lo' ≤ lo) : RwP w lo' a n cap xss := by
  refine ⟨h.len, h.ncap, h.small, h.capm, h.nilc, fun i hi => ?_⟩
  obtain ⟨b, off, r, m, c, e, h0, hl, hc, hm, hp⟩ := h.row.out i hi
  exact ⟨b, off, r, m, c, e, by omega, hl, hc, hm, fun h1 g o e' => by have := hp h1 g o e'; omega⟩
theorem RwP.nil {w : World} {lo : Nat} : RwP w lo none 0 0 [] := ⟨rfl, by omega, by omega, by omega, fun _ => rfl, fun i hi => by omega⟩
theorem MineR.rwp {w : World} {lo hi : Nat} {a : Option Addr} {n cap : Nat} {xss : List (List Int)} (h : MineR w lo hi a n cap xss) : RwP w lo a n cap xss := by
  refine ⟨h.len, h.ncap, h.small, h.capm, h.nilc, fun i hi => ?_⟩
  obtain ⟨b, off, r, m, c, e, h0, hb, hc, _, hm, hp, _⟩ := h.row.out i hi
  exact ⟨b, off, r, m, c, e, h0, Nat.lt_of_lt_of_le hb h.top, hc, hm.ints, fun h1 g o e' => (hp h1 g o e').1⟩
theorem RG.rwp {w : World} {B k : Nat} {v v2 : Value} {xss : List (List Int)} (h : RG w B v k xss v2) (hs : k ≤ 17592186044416) : ∃ a c, v = .slice a k c ∧ RwP w B a k c xss := by
  obtain ⟨hs', h1, h2, h3⟩ := h
  have h1' := h1
  obtain ⟨hl, h5⟩ := h1
  rcases h5 with ⟨rfl, rfl⟩ | ⟨g, cap, cur, rfl, hg, hh, hn, hm, hc, ht⟩
  · have : xss = [] := List.length_eq_zero_iff.1 h2
    subst this
    exact ⟨none, 0, rfl, RwP.nil⟩
  · have hlt : g < w.heap.size := (ownBlock_lt h1' g rfl).2
    refine ⟨some ⟨g, 0, none⟩, cap, rfl, h2, hn, hs, by unfold maxLen at hm; omega, (fun e => by cases e), fun i hi => ?_⟩
    obtain ⟨r, m, c, e, hmi, hp⟩ := h3 i hi
    refine ⟨g, 0, r, m, c, rfl, hg, hlt, ?_, hmi, fun h0 g o e' => (hp h0 g o e').1⟩
    rw [Nat.zero_add]
    have := World.ownsRow.cellAt h1' i (by omega)
    rw [this]
    simp only [List.getD_eq_getElem?_getD, e, Option.getD_some]
/-- The first row is another one. -/
theorem RG.store0 {w : World} {B k g cap : Nat} {v2 : Value} {xss : List (List Int)} (h : RG w B (.slice (some ⟨g, 0, none⟩) k cap) k xss v2) (hk : 0 < k) (hs : k ≤ 17592186044416) {r : Option Addr} {m c : Nat} {x : List Int} (hm : Ints w r m c x) (hr : 0 < m → ∀ q o, r = some ⟨q, o, none⟩ → B ≤ q ∧ q ≠ g) :
    RwP (w.setCell ⟨g, 0, none⟩ (.slice r m c)) B (some ⟨g, 0, none⟩) k cap (xss.set 0 x) := by
  obtain ⟨a0, c0, e0, hR⟩ := h.rwp hs
  simp only [Value.slice.injEq] at e0
  obtain ⟨rfl, _, rfl⟩ := e0
  obtain ⟨hs', h1, h2, h3⟩ := h
  refine ⟨by show _ = _; rw [List.length_set]; exact h2, hR.ncap, hR.small, hR.capm, hR.nilc, fun i hi => ?_⟩
  obtain ⟨b, off, r1, m1, c1, e, hl, hb, hc, hi1, hp⟩ := hR.row.out i hi
  simp only [Option.some.injEq, Addr.mk.injEq] at e
  obtain ⟨rfl, rfl, _⟩ := e
  have keep : ∀ (r2 : Option Addr) (m2 c2 : Nat) (x2 : List Int), Ints w r2 m2 c2 x2 → (0 < m2 → ∀ q o, r2 = some ⟨q, o, none⟩ → q ≠ g) → Ints (w.setCell ⟨g, 0, none⟩ (.slice r m c)) r2 m2 c2 x2 := fun r2 m2 c2 x2 h2 hq =>
    h2.bex (Bex.set w _) (fun hn q o e => hq hn q o e)
  rw [rowN_set (by omega)]
  by_cases ei : i = 0
  · subst ei
    rw [if_pos rfl]
    exact ⟨g, 0, r, m, c, rfl, hl, by simpa using hb, World.cell?_setCell_same _ _ _ (by simpa using hc), keep _ _ _ _ hm (fun h0 q o e => (hr h0 q o e).2), fun h0 q o e => (hr h0 q o e).1⟩
  · rw [if_neg ei]
    obtain ⟨r3, m3, c3, e3, hm3, hn3⟩ := h3 i hi
    have hc3 : w.cell? ⟨g, 0 + i, none⟩ = some (.slice r3 m3 c3) := by
      rw [Nat.zero_add, World.ownsRow.cellAt h1 i (by omega)]; exact e3
    refine ⟨g, 0, r3, m3, c3, rfl, hl, by simpa using hb, (World.cell?_setCell_other _ _ _ _ (by intro q; simp at q <;> omega)).trans hc3, keep _ _ _ _ hm3 (fun h0 q o e q2 => (hn3 h0 q o e).2.1 (by simp [Value.ownBlock, q2])), fun h0 q o e => (hn3 h0 q o e).1⟩
theorem RG.cell0 {w : World} {B k g cap : Nat} {v2 : Value} {xss : List (List Int)} (h : RG w B (.slice (some ⟨g, 0, none⟩) k cap) k xss v2) {i : Nat} (hi : i < k) : ∃ r m c, w.cell? ⟨g, i, none⟩ = some (.slice r m c) ∧ w.frozen? ⟨g, i, none⟩ = false ∧ Ints w r m c (rowN xss i) ∧ B ≤ g ∧ g < w.heap.size ∧ k ≤ cap := by
  obtain ⟨hs', h1, h2, h3⟩ := h
  obtain ⟨r3, m3, c3, e3, hm3, hn3⟩ := h3 i hi
  have hlt := ownBlock_lt h1 g rfl
  obtain ⟨_, h5⟩ := id h1
  rcases h5 with ⟨hv, _⟩ | ⟨g', cap', cur, hv, hg, hh, hn, hmx, hc, ht⟩
  · simp at hv
  · simp only [Value.slice.injEq] at hv
    refine ⟨r3, m3, c3, by rw [World.ownsRow.cellAt h1 i (by omega)]; exact e3, World.ownsRow.frozenAt h1 i, hm3, hlt.1, hlt.2, by omega⟩
def lenN : Value → Nat
  | .slice _ n _ => n
  | _ => 0
set_option maxHeartbeats 8000000 in
theorem s_points (b B K : Nat) (p : Int) (w : World) (h : Cur w b B K) (hK : K ≤ 100000000) (hp : Dr p) :
    Calls Try.prog 46 #[.pointer (some ⟨b, 0, none⟩), .int .i64 p] w fun e w' => ∃ r n c xs r' n' c' ys, e = .returned (.tuple #[.slice r n c, .slice r' n' c']) ∧ Mine w' w.heap.size r n c xs ∧ Mine w' w.heap.size r' n' c' ys ∧ n ≤ 13 ∧ n' ≤ 14 ∧ Cur w' b B (K + 200) ∧ Bex b w w' := by
  have hbl := h.lt
  go_enter Try.func46, Try.ntmps46
  go_wp2_with fail
  refine (s_pick b B K 6 _ h (by omega) (by omega)).mono ?_; rintro e w0 ⟨k0, rfl, hk0, hk1, hC0, hX0⟩
  have hk5 : k0 ≤ 5 := by omega
  have HC0 := Lib.hid hC0; have HX0 := Lib.hid hX0; clear hC0 hX0 h hk0 hk1
  go_wp2
  go_loopw [6, 7] (fun v i W => ∃ (t m c : Nat) (r : Option Addr), t ≤ k0 ∧ i = .int .i64 t ∧ v = .slice r m c ∧ m + t ≤ 5 ∧ Hid (∃ xs, OwnI 3 W w.heap.size r m c xs) ∧ Hid (Cur W b B (K + 2 + 6 * (5 - t))) ∧ Hid (Bex b w W)) (fun _ i _ => (intOf i).toNat)
  case atStart => exact ⟨k0, 0, 0, none, by omega, rfl, rfl, by omega, (show Hid _ from ⟨[], OwnI.nil⟩), (show Hid _ from HC0.out.more (by omega)), HX0.out⟩
  case round =>
    obtain ⟨t, m, c, r, ht, rfl, rfl, hmt, HO, HC, HX⟩ := hrel
    clear HC0 HX0
    have hzr := HX.out.size
    obtain ⟨xs, ho⟩ := HO.out
    have HOO := Lib.hid ho; clear ho HO
    by_cases hpos : 0 < t
    · obtain ⟨s, rfl⟩ : ∃ s, t = s + 1 := ⟨t - 1, by omega⟩
      have hposI : (0 : Int) < ((s + 1 : Nat) : Int) := by omega
      have e1 : IntKind.i64.wrap (((s + 1 : Nat) : Int) - 1) = (s : Int) := by rw [show ((s + 1 : Nat) : Int) - 1 = (s : Int) by omega]; exact IntWalk.i64_in _ (by omega)
      have HGO : Hid (∀ (W : World) (v : Value) (m' c' : Nat) (r' : Option Addr) (us : List Int), True → True) := fun _ _ _ _ _ _ _ => trivial
      clear HGO
      go_wp2_with fail
      refine (s_element b B _ p _ HC.out (by omega) hp).mono ?_; rintro e w1 ⟨x, rfl, hx, hC1, hX1⟩
      have HO1 := Lib.hid (HOO.out.bex hX1 hbl); have HC1 := Lib.hid hC1; have HX1 := Lib.hid (HX.out.trans hX1); clear hC1 hX1 HOO HC HX
      go_wp2_with fail
      refine (s_l1Has r m c xs x _ HO1.out.ints hx.fits).mono ?_; rintro e w2 ⟨rfl, hb2⟩
      have HO2 := Lib.hid (HO1.out.below hb2); have HC2 := Lib.hid (HC1.out.below hb2); have HX2 := Lib.hid (HX1.out.trans (Bex.of hb2)); clear hb2 HO1 HC1 HX1
      have hz2 := HX2.out.size
      have hxf := hx.fits
      by_cases hin : x ∈ xs
      · rw [decide_eq_true hin]
        go_wp2_with fail
        refine (s_one b B _ 16 _ HC2.out (by omega) (by omega)).mono ?_; rintro e w3 ⟨q, rfl, hC3, hX3⟩
        have HO3 := Lib.hid (HO2.out.bex hX3 hbl); have HC3 := Lib.hid hC3; have HX3 := Lib.hid (HX2.out.trans hX3); clear hC3 hX3 HO2 HC2 HX2
        have hz3 := HX3.out.size
        cases q with
        | false =>
          go_wp2
          go_roundw
          case rel => exact ⟨s, m, c, r, by omega, by first | rfl | go_num, rfl, by omega, (show Hid _ from ⟨xs, HO3.out⟩), (show Hid _ from HC3.out.more (by omega)), HX3.out⟩
          case measure => first | (simp [intOf]; done) | (simp [intOf]; omega)
        | true =>
          go_wp2_with (at_builtin; refine wp_app w3 w.heap.size m _ xs x _ _ rfl _ _ rfl rfl rfl (by first | rfl | simp) HO3.out.own (by omega) (by omega) ?_; intro v9 w9 hv9 hb9 hg9; obtain ⟨r9, c9, e9, ho9⟩ := OwnI.of hv9 (by omega) (fun y hy => by rcases List.mem_append.1 hy with q | q; (exact HO3.out.ints.wf.out y q); (simp at q; rw [q]; exact hxf)); subst e9; have HO9 := Lib.hid ho9; have HC9 := Lib.hid (HC3.out.onB hb9 hbl); have HX9 := Lib.hid (HX3.out.thenB hb9); clear hg9 hv9 ho9 hb9)
          go_roundw
          case rel => exact ⟨s, m + 1, c9, r9, by omega, by first | rfl | go_num, by first | rfl | go_num, by omega, (show Hid _ from ⟨_, HO9.out⟩), (show Hid _ from HC9.out.more (by omega)), HX9.out⟩
          case measure => first | (simp [intOf]; done) | (simp [intOf]; omega)
      · rw [decide_eq_false hin]
        go_wp2_with (at_builtin; refine wp_app w2 w.heap.size m _ xs x _ _ rfl _ _ rfl rfl rfl (by first | rfl | simp) HO2.out.own (by omega) (by omega) ?_; intro v9 w9 hv9 hb9 hg9; obtain ⟨r9, c9, e9, ho9⟩ := OwnI.of hv9 (by omega) (fun y hy => by rcases List.mem_append.1 hy with q | q; (exact HO2.out.ints.wf.out y q); (simp at q; rw [q]; exact hxf)); subst e9; have HO9 := Lib.hid ho9; have HC9 := Lib.hid (HC2.out.onB hb9 hbl); have HX9 := Lib.hid (HX2.out.thenB hb9); clear hg9 hv9 ho9 hb9)
        go_roundw
        case rel => exact ⟨s, m + 1, c9, r9, by omega, by first | rfl | go_num, by first | rfl | go_num, by omega, (show Hid _ from ⟨_, HO9.out⟩), (show Hid _ from HC9.out.more (by omega)), HX9.out⟩
        case measure => first | (simp [intOf]; done) | (simp [intOf]; omega)
    · obtain rfl : t = 0 := by omega
      go_wp2_with fail
      refine (s_one b B _ 16 _ HC.out (by omega) (by omega)).mono ?_; rintro e w1 ⟨q, rfl, hC1, hX1⟩
      have HO1 := Lib.hid (HOO.out.bex hX1 hbl); have HC1 := Lib.hid (hC1.more (K' := K + 100) (by omega)); have HX1 := Lib.hid (HX.out.trans hX1); clear hC1 hX1 HOO HC HX
      have hz1 := HX1.out.size
      cases q with
      | false =>
        go_wp2_with fail
        refine (s_one b B _ 24 _ HC1.out (by omega) (by omega)).mono ?_; rintro e w5 ⟨q5, rfl, hC5, hX5⟩
        have HO5 := Lib.hid (HO1.out.bex hX5 hbl); have HC5 := Lib.hid (hC5.more (K' := K + 130) (by omega)); have HX5 := Lib.hid (HX1.out.trans hX5); clear hC5 hX5 HO1 HC1 HX1
        have hz5 := HX5.out.size
        cases q5 with
        | false =>
          go_wp2_with fail
          refine (s_elementsI b B _ p m _ _ HC5.out (by omega) hp (by omega) (by first | rfl | omega | (simp; done))).mono ?_; rintro e w6 ⟨r6, c6, ys, rfl, ho6, hC6, hX6⟩
          have HO6 := Lib.hid (HO5.out.bex hX6 hbl).mine; have HM6 := Lib.hid (ho6.mine.base hz5); have HX6 := Lib.hid (HX5.out.trans hX6)
          clear ho6 hX6 HO5 HX5
          go_wp2
          go_ret2
          exact ⟨_, _, _, _, _, _, _, _, rfl, HO6.out, HM6.out, by omega, by omega, hC6.more (by omega), HX6.out⟩
        | true =>
          go_wp2_with fail
          refine (s_elementsI b B _ p (m + 1) _ _ HC5.out (by omega) hp (by omega) (by first | rfl | omega | (simp; done))).mono ?_; rintro e w6 ⟨r6, c6, ys, rfl, ho6, hC6, hX6⟩
          have HO6 := Lib.hid (HO5.out.bex hX6 hbl).mine; have HM6 := Lib.hid (ho6.mine.base hz5); have HX6 := Lib.hid (HX5.out.trans hX6)
          clear ho6 hX6 HO5 HX5
          go_wp2
          go_ret2
          exact ⟨_, _, _, _, _, _, _, _, rfl, HO6.out, HM6.out, by omega, by omega, hC6.more (by omega), HX6.out⟩
      | true =>
        by_cases hp13 : 13 < p
        · go_wp2_with fail
          refine (s_pick b B _ 2 _ HC1.out (by omega) (by omega)).mono ?_; rintro e w2 ⟨k2, rfl, hk2, hk3, hC2, hX2⟩
          have hk4 : k2 ≤ 1 := by omega
          have HC2 := Lib.hid (hC2.more (K' := K + 110) (by omega)); have HX2 := Lib.hid (HX1.out.trans hX2); clear hC2 hX2 HO1 HC1 HX1 hk2 hk3
          go_wp2
          go_loopw [6] (fun v W => ∃ (m c : Nat) (r : Option Addr), v = .slice r m c ∧ m ≤ 12 + k2 ∧ Hid (∃ xs, OwnI 3 W w.heap.size r m c xs) ∧ Hid (Cur W b B (K + 110)) ∧ Hid (Bex b w W)) (fun v _ => 13 - lenN v)
          case atStart => exact ⟨0, 0, none, rfl, by omega, (show Hid _ from ⟨[], OwnI.nil⟩), HC2.out, HX2.out⟩
          case round =>
            obtain ⟨m, c, r, rfl, hmt, HO, HC, HX⟩ := hrel
            clear HC2 HX2
            have hzr := HX.out.size
            obtain ⟨xs, ho⟩ := HO.out
            have HOO := Lib.hid ho; clear ho HO
            by_cases hlt : m < 12 + k2
            · have hltI : (m : Int) < 12 + (k2 : Int) := by omega
              go_wp2_with (at_builtin; refine wp_app wr w.heap.size m _ xs (m : Int) _ _ rfl _ _ rfl rfl rfl (by first | rfl | simp) HOO.out.own (by omega) (by omega) ?_; intro v9 w9 hv9 hb9 hg9; obtain ⟨r9, c9, e9, ho9⟩ := OwnI.of hv9 (by omega) (fun y hy => by rcases List.mem_append.1 hy with q | q; (exact HOO.out.ints.wf.out y q); (simp at q; rw [q]; unfold Fits; omega)); subst e9; have HO9 := Lib.hid ho9; have HC9 := Lib.hid (HC.out.onB hb9 hbl); have HX9 := Lib.hid (HX.out.thenB hb9); clear hg9 hv9 ho9 hb9)
              go_roundw
              case rel => exact ⟨m + 1, c9, r9, by first | rfl | go_num, by omega, (show Hid _ from ⟨_, HO9.out⟩), HC9.out, HX9.out⟩
              case measure => first | (simp [lenN]; done) | (simp [lenN]; omega)
            · have hltI : ¬ (m : Int) < 12 + (k2 : Int) := by omega
              go_wp2_with fail
              refine (s_one b B _ 24 _ HC.out (by omega) (by omega)).mono ?_; rintro e w5 ⟨q5, rfl, hC5, hX5⟩
              have HO5 := Lib.hid (HOO.out.bex hX5 hbl); have HC5 := Lib.hid (hC5.more (K' := K + 130) (by omega)); have HX5 := Lib.hid (HX.out.trans hX5); clear hC5 hX5 HOO HC HX
              have hz5 := HX5.out.size
              cases q5 with
              | false =>
                go_wp2_with fail
                refine (s_elementsI b B _ p m _ _ HC5.out (by omega) hp (by omega) (by first | rfl | omega | (simp; done))).mono ?_; rintro e w6 ⟨r6, c6, ys, rfl, ho6, hC6, hX6⟩
                have HO6 := Lib.hid (HO5.out.bex hX6 hbl).mine; have HM6 := Lib.hid (ho6.mine.base hz5); have HX6 := Lib.hid (HX5.out.trans hX6)
                clear ho6 hX6 HO5 HX5
                go_wp2
                go_ret2
                exact ⟨_, _, _, _, _, _, _, _, rfl, HO6.out, HM6.out, by omega, by omega, hC6.more (by omega), HX6.out⟩
              | true =>
                go_wp2_with fail
                refine (s_elementsI b B _ p (m + 1) _ _ HC5.out (by omega) hp (by omega) (by first | rfl | omega | (simp; done))).mono ?_; rintro e w6 ⟨r6, c6, ys, rfl, ho6, hC6, hX6⟩
                have HO6 := Lib.hid (HO5.out.bex hX6 hbl).mine; have HM6 := Lib.hid (ho6.mine.base hz5); have HX6 := Lib.hid (HX5.out.trans hX6)
                clear ho6 hX6 HO5 HX5
                go_wp2
                go_ret2
                exact ⟨_, _, _, _, _, _, _, _, rfl, HO6.out, HM6.out, by omega, by omega, hC6.more (by omega), HX6.out⟩
        · have hp13b : ¬ 13 < p := hp13
          go_wp2_with fail
          refine (s_one b B _ 24 _ HC1.out (by omega) (by omega)).mono ?_; rintro e w5 ⟨q5, rfl, hC5, hX5⟩
          have HO5 := Lib.hid (HO1.out.bex hX5 hbl); have HC5 := Lib.hid (hC5.more (K' := K + 130) (by omega)); have HX5 := Lib.hid (HX1.out.trans hX5); clear hC5 hX5 HO1 HC1 HX1
          have hz5 := HX5.out.size
          cases q5 with
          | false =>
            go_wp2_with fail
            refine (s_elementsI b B _ p m _ _ HC5.out (by omega) hp (by omega) (by first | rfl | omega | (simp; done))).mono ?_; rintro e w6 ⟨r6, c6, ys, rfl, ho6, hC6, hX6⟩
            have HO6 := Lib.hid (HO5.out.bex hX6 hbl).mine; have HM6 := Lib.hid (ho6.mine.base hz5); have HX6 := Lib.hid (HX5.out.trans hX6)
            clear ho6 hX6 HO5 HX5
            go_wp2
            go_ret2
            exact ⟨_, _, _, _, _, _, _, _, rfl, HO6.out, HM6.out, by omega, by omega, hC6.more (by omega), HX6.out⟩
          | true =>
            go_wp2_with fail
            refine (s_elementsI b B _ p (m + 1) _ _ HC5.out (by omega) hp (by omega) (by first | rfl | omega | (simp; done))).mono ?_; rintro e w6 ⟨r6, c6, ys, rfl, ho6, hC6, hX6⟩
            have HO6 := Lib.hid (HO5.out.bex hX6 hbl).mine; have HM6 := Lib.hid (ho6.mine.base hz5); have HX6 := Lib.hid (HX5.out.trans hX6)
            clear ho6 hX6 HO5 HX5
            go_wp2
            go_ret2
            exact ⟨_, _, _, _, _, _, _, _, rfl, HO6.out, HM6.out, by omega, by omega, hC6.more (by omega), HX6.out⟩
end Go.Proofs.Ytfichpppjpgahaa
