/-
  What is drawn for the laws on extended transfers: keys, bits, labels, sizes; what is sent, for whatever key.
-/
import Derived.Test.YtfejpmfcognikaaCv
import Derived.Test.YtfejpmfcognikaaAp
import Derived.Test.YtfejpmfcognikaaRH
import Derived.Test.YtfejpmfcognikaaE9
namespace Go.Proofs.Ytfejpmfcognikaa
open Go.RowKit
set_option linter.unusedVariables false
set_option linter.unusedSimpArgs false

theorem Cur.onY {w w' : World} {b B K X : Nat} (h : Cur w b B K) (hb : Below X w w') (hX : b < X) : Cur w' b B K := by
  have hBb := h.base
  refine ⟨Nat.lt_of_lt_of_le h.lt hb.size, h.base, ?_⟩
  obtain ⟨a, n, cap, i, s, h0, h1, h2, f1, f2, hi, hs, hB, ho⟩ := h.cells.out
  refine ⟨a, n, cap, i, s, (hb.cell (p := ⟨b, 0, none⟩) hX).trans h0, (hb.cell (p := ⟨b, 1, none⟩) hX).trans h1, (hb.cell (p := ⟨b, 2, none⟩) hX).trans h2, (hb.frozen (p := ⟨b, 1, none⟩) hX).trans f1, (hb.frozen (p := ⟨b, 2, none⟩) hX).trans f2, hi, hs, ⟨hB.ncap, hB.capm, hB.small, fun j hj => ?_⟩, ho⟩
  obtain ⟨g, off, y, e, hl, hc, hy⟩ := hB.cell.out j hj
  have hg := ho (by omega) g off e
  exact ⟨g, off, y, e, Nat.lt_of_lt_of_le hl hb.size, (hb.cell (p := ⟨g, off + j, none⟩) (by show g < X; omega)).trans hc, hy⟩
theorem Bex.thenY {b : Nat} {w0 w w' : World} (h : Bex b w0 w) (hb : Below w0.heap.size w w') : Bex b w0 w' :=
  ⟨hb.os.trans h.os, hb.tape.trans h.tape, hb.output.trans h.output, Nat.le_trans h.size hb.size, fun k hk hne => (hb.block k hk).trans (h.block k hk hne)⟩
/-- A slice of rows that can be read; it and its rows lie in blocks from lo on. -/
structure RwP (w : World) (lo : Nat) (a : Option Addr) (n cap : Nat) (xss : List (List Int)) : Prop where
  len : Hid (xss.length = n)
  ncap : n ≤ cap
  small : n ≤ 17592186044416
  capm : cap ≤ 9223372036854775807
  nilc : Hid (a = none → cap = 0)
  row : Hid (∀ i, i < n → ∃ b off r m c, a = some ⟨b, off, none⟩ ∧ lo ≤ b ∧ b < w.heap.size ∧ w.cell? ⟨b, off + i, none⟩ = some (.slice r m c) ∧ Ints w r m c (rowN xss i) ∧ (0 < m → ∀ g o, r = some ⟨g, o, none⟩ → lo ≤ g))
theorem RwP.rows {w : World} {lo : Nat} {a : Option Addr} {n cap : Nat} {xss : List (List Int)} (h : RwP w lo a n cap xss) : Rws w a n cap xss := by
  refine ⟨h.len, h.ncap, h.small, h.capm, fun i hi => ?_, h.nilc⟩
  obtain ⟨b, off, r, m, c, e, _, hb, hc, hm, _⟩ := h.row.out i hi
  exact ⟨b, off, r, m, c, e, hb, hc, hm⟩
theorem RwP.below {w w' : World} {lo : Nat} {a : Option Addr} {n cap : Nat} {xss : List (List Int)} (h : RwP w lo a n cap xss) (hb : Below w.heap.size w w') : RwP w' lo a n cap xss := by
  refine ⟨h.len, h.ncap, h.small, h.capm, h.nilc, fun i hi => ?_⟩
  obtain ⟨b, off, r, m, c, e, h0, hl, hc, hm, hp⟩ := h.row.out i hi
  exact ⟨b, off, r, m, c, e, h0, Nat.lt_of_lt_of_le hl hb.size, (hb.cell (p := ⟨b, off + i, none⟩) hl).trans hc, hm.below hb, hp⟩
theorem RwP.bex {b0 : Nat} {w w' : World} {lo : Nat} {a : Option Addr} {n cap : Nat} {xss : List (List Int)} (h : RwP w lo a n cap xss) (k : Bex b0 w w') (hb : b0 < lo) : RwP w' lo a n cap xss := by
  refine ⟨h.len, h.ncap, h.small, h.capm, h.nilc, fun i hi => ?_⟩
  obtain ⟨b, off, r, m, c, e, h0, hl, hc, hm, hp⟩ := h.row.out i hi
  exact ⟨b, off, r, m, c, e, h0, Nat.lt_of_lt_of_le hl k.size, k.cell hc (by omega), hm.bex k (fun h1 g o e' => by have := hp h1 g o e'; omega), hp⟩
theorem RwP.base {w : World} {lo lo' : Nat} {a : Option Addr} {n cap : Nat} {xss : List (List Int)} (h : RwP w lo a n cap xss) (hb : lo' ≤ lo) : RwP w lo' a n cap xss := by
  refine ⟨h.len, h.ncap, h.small, h.capm, h.nilc, fun i hi => ?_⟩
  obtain ⟨b, off, r, m, c, e, h0, hl, hc, hm, hp⟩ := h.row.out i hi
  exact ⟨b, off, r, m, c, e, by omega, hl, hc, hm, fun h1 g o e' => by have := hp h1 g o e'; omega⟩
theorem RwP.nil {w : World} {lo : Nat} : RwP w lo none 0 0 [] := ⟨rfl, by omega, by omega, by omega, fun _ => rfl, fun i hi => by omega⟩
theorem MineR.rwp {w : World} {lo hi : Nat} {a : Option Addr} {n cap : Nat} {xss : List (List Int)} (h : MineR w lo hi a n cap xss) : RwP w lo a n cap xss := by
  refine ⟨h.len, h.ncap, h.small, h.capm, h.nilc, fun i hi => ?_⟩
  obtain ⟨b, off, r, m, c, e, h0, hb, hc, _, hm, hp, _⟩ := h.row.out i hi
  exact ⟨b, off, r, m, c, e, h0, Nat.lt_of_lt_of_le hb h.top, hc, hm.ints, fun h1 g o e' => (hp h1 g o e').1⟩
theorem RG.rwp {w : World} {B k : Nat} {v v2 : Value} {xss : List (List Int)} (h : RG w B v k xss v2) (hs : k ≤ 17592186044416) : ∃ a c, v = .slice a k c ∧ RwP w B a k c xss := by
  obtain ⟨hs', h1, h2, h3⟩ := h
  have h1' := h1
  obtain ⟨hl, h5⟩ := h1
  rcases h5 with ⟨rfl, rfl⟩ | ⟨g, cap, cur, rfl, hg, hh, hn, hm, hc, ht⟩
  · have : xss = [] := List.length_eq_zero_iff.1 h2
    subst this
    exact ⟨none, 0, rfl, RwP.nil⟩
  · have hlt : g < w.heap.size := (ownBlock_lt h1' g rfl).2
    refine ⟨some ⟨g, 0, none⟩, cap, rfl, h2, hn, hs, by unfold maxLen at hm; omega, (fun e => by cases e), fun i hi => ?_⟩
    obtain ⟨r, m, c, e, hmi, hp⟩ := h3 i hi
    refine ⟨g, 0, r, m, c, rfl, hg, hlt, ?_, hmi, fun h0 g o e' => (hp h0 g o e').1⟩
    rw [Nat.zero_add]
    have := World.ownsRow.cellAt h1' i (by omega)
    rw [this]
    simp only [List.getD_eq_getElem?_getD, e, Option.getD_some]
theorem OwnR.rg {w : World} {B k : Nat} {v : Value} {xss : List (List Int)} (h : OwnR 23 w B v k xss) : RG w B v k xss (.slice none 0 0) := by
  obtain ⟨hs, h1, h2, h3, _⟩ := h
  refine ⟨hs, h1, h2, fun i hi => ?_⟩
  obtain ⟨r, m, c, e, hm, hn⟩ := h3 i hi
  exact ⟨r, m, c, e, hm.ints, fun h0 g o e' => ⟨(hm.pl h0 g o e').1, hn h0 g o e', by simp [Value.ownBlock]⟩⟩
theorem OwnR.duo {w : World} {B k : Nat} {v : Value} {xss : List (List Int)} (h : OwnR 23 w B v k xss) (hB : B ≤ w.heap.size) : RDuo w B v k xss (.slice none 0 0) 0 [] := by
  refine ⟨h.rg, ⟨[], World.ownsRow_nil _ _ _ _, rfl, fun i hi => by omega⟩, fun g _ e => by simp [Value.ownBlock] at e, hB⟩
theorem small4w {a b c d : Int} (ha : -10 ≤ a ∧ a ≤ 1000000010) (hb : 0 ≤ b ∧ b ≤ 1000000) (hc : 0 ≤ c ∧ c ≤ 1000000) (hd : 0 ≤ d ∧ d ≤ 1000000) : ∀ x ∈ [a, b, c, d], Small x := by
  intro x hx; simp at hx; unfold Small
  rcases hx with rfl | rfl | rfl | rfl <;> omega
theorem bitsB_snoc {xs : List Int} {x : Int} (h : bitsB xs = true) (h0 : 0 ≤ x) (h1 : x ≤ 1) : bitsB (xs ++ [x]) = true := by
  refine bitsB_mk fun i hi => ?_
  have hl : i < xs.length + 1 := by simpa using hi
  by_cases e : i < xs.length
  · have : nth (xs ++ [x]) i = nth xs i := by simp [nth, List.getElem?_append, e]
    rw [this]; exact bitsB_nth h e
  · have : nth (xs ++ [x]) i = x := by
      have : i = xs.length := by omega
      subst this; simp [nth]
    rw [this]; exact ⟨h0, h1⟩
/-- A key that was drawn. -/
def Dk (x : Int) : Prop := -1 ≤ x ∧ x ≤ 1000000001
theorem Dk.fits {x : Int} (h : Dk x) : Fits x := by unfold Dk at h; unfold Fits; omega
set_option maxHeartbeats 2000000 in
theorem s_secret (b B K : Nat) (w : World) (h : Cur w b B K) (hK : K ≤ 1000000000) :
    Calls Try.prog 119 #[.pointer (some ⟨b, 0, none⟩)] w fun e w' => ∃ x : Int, e = .returned (.int .i64 x) ∧ Dk x ∧ Cur w' b B (K + 4) ∧ Bex b w w' := by
  go_enter Try.func119, Try.ntmps119
  go_wp2_with fail
  refine (s_one b B K 16 _ h (by omega) (by omega)).mono ?_; rintro e w1 ⟨q, rfl, hC1, hX1⟩
  cases q with
  | false =>
    go_wp2_with fail
    refine (s_pick b B (K + 2) 60000 _ hC1 (by omega) (by omega)).mono ?_; rintro e w2 ⟨r, rfl, hr1, hr2, hC2, hX2⟩
    go_wp2
    go_ret
    exact ⟨_, rfl, ⟨by omega, by omega⟩, hC2, hX1.trans hX2⟩
  | true =>
    obtain ⟨hCa, hIa, hOa, hXa⟩ := among_lit (w := w1) (t := 3) [0, 1000000000, 1000000001, -1] hC1 rfl rfl (by simp) (by intro x hx; simp at hx; unfold Fits; omega)
    go_wp2_with fail
    refine (s_among b B _ _ 4 4 [0, 1000000000, 1000000001, -1] _ hCa (by omega) hIa (by omega) (by omega) hOa).mono ?_; rintro e w2 ⟨x, rfl, hx, hC2, hX2⟩
    go_wp2
    go_ret
    exact ⟨_, rfl, by simp at hx; unfold Dk; omega, hC2, (hX1.trans hXa).trans hX2⟩
set_option maxHeartbeats 4000000 in
theorem s_bits (b B K : Nat) (n : Int) (w : World) (h : Cur w b B K) (hK : K ≤ 100000000) (hn : n ≤ 1000) :
    Calls Try.prog 76 #[.pointer (some ⟨b, 0, none⟩), .int .i64 n] w fun e w' => ∃ r c xs, e = .returned (.slice r n.toNat c) ∧ Mine w' w.heap.size r n.toNat c xs ∧ bitsB xs = true ∧ Cur w' b B (K + 2000) ∧ Bex b w w' := by
  have hbl := h.lt
  by_cases hpos : 0 < n
  · obtain ⟨m, rfl⟩ : ∃ m : Nat, n = m := ⟨n.toNat, by omega⟩
    rw [show ((m : Nat) : Int).toNat = m from rfl]
    have hm1 : m ≤ 1000 := by omega
    clear hpos hn
    go_enter Try.func76, Try.ntmps76
    go_wp2
    go_loopw [1, 5] (fun i v W => ∃ k : Nat, k ≤ m ∧ i = .int .i64 ((m : Int) - k) ∧ Hid (∃ xs, W.ownsRow w.heap.size 3 1 v k (ivs xs) ∧ (∀ x ∈ xs, Fits x) ∧ bitsB xs = true) ∧ Hid (Cur W b B (K + 2 * k)) ∧ Hid (Bex b w W)) (fun i _ _ => (intOf i).toNat)
    case atStart => exact ⟨0, by omega, by simp, ⟨[], World.ownsRow_nil _ _ _ _, by simp, rfl⟩, (show Hid _ from h), Bex.refl _ _⟩
    case round =>
      obtain ⟨k, hk, rfl, HO, HC, HX⟩ := hrel
      by_cases hlt : k < m
      · have hpos : (0 : Int) < (m : Int) - k := by omega
        have e1 : IntKind.i64.wrap ((m : Int) - k - 1) = (m : Int) - k - 1 := IntWalk.i64_in _ (by omega)
        have hzr := HX.out.size
        go_wp2_with fail
        refine (s_pick b B (K + 2 * k) 2 _ HC.out (by omega) (by omega)).mono ?_; rintro e w1 ⟨x, rfl, hx1, hx2, hC1, hX1⟩
        obtain ⟨xs, ho, hf, hbb⟩ := HO.out
        have HO1 := Lib.hid (ownsRow_bex ho hX1 hbl); have HF := Lib.hid (And.intro hf hbb); clear ho hf hbb HO HC
        have HC1 := Lib.hid hC1; have HX1 := Lib.hid (HX.out.trans hX1); clear hC1 hX1 HX
        have hz1 := HX1.out.size
        go_wp2_with (at_builtin; refine wp_app w1 w.heap.size k _ xs x _ _ rfl _ _ rfl rfl rfl (by first | rfl | simp) HO1.out (by omega) (by omega) ?_; intro v9 w9 hv9 hb9 hg9)
        clear hg9
        go_roundw
        case rel => exact ⟨k + 1, by omega, by first | go_num | (simp; omega), (show Hid _ from ⟨_, hv9, fun y hy => by
            rw [List.mem_append] at hy
            rcases hy with hy | hy
            · exact HF.out.1 y hy
            · simp at hy; rw [hy]; unfold Fits; omega, bitsB_snoc HF.out.2 (by omega) (by omega)⟩), (show Hid _ from (HC1.out.onY hb9 hbl).more (by omega)), (show Hid _ from HX1.out.thenY hb9)⟩
        case measure => simp [intOf]; omega
      · obtain rfl : k = m := by omega
        obtain ⟨xs, ho, hf, hbb⟩ := HO.out
        obtain ⟨r, c, rfl, hI⟩ := Mine.of ho (by omega) hf
        have HI := Lib.hid hI; have HBB := Lib.hid hbb; clear hI ho hf HO hbb
        go_wp2
        go_ret
        exact ⟨_, _, _, rfl, HI.out, HBB.out, HC.out.more (by omega), HX.out⟩
  · have h0 : n.toNat = 0 := by omega
    rw [h0]
    have hn0 : ¬ 0 < n := hpos
    go_enter Try.func76, Try.ntmps76
    go_wp2
    go_loopw [1, 5] (fun i v W => i = .int .i64 n ∧ v = .slice none 0 0 ∧ Hid (W = w)) (fun _ _ _ => 0)
    case atStart => exact ⟨rfl, rfl, rfl⟩
    case round =>
      obtain ⟨rfl, rfl, hW⟩ := hrel
      have hw := hW.out
      subst hw
      clear hW
      go_wp2
      go_ret
      exact ⟨none, 0, [], rfl, Mine.nil, rfl, h.more (by omega), Bex.refl _ _⟩
set_option maxHeartbeats 2000000 in
theorem s_label (b B K : Nat) (w : World) (h : Cur w b B K) (hK : K ≤ 1000000000) :
    Calls Try.prog 91 #[.pointer (some ⟨b, 0, none⟩)] w fun e w' => ∃ x : Int, e = .returned (.int .i64 x) ∧ (-1 ≤ x ∧ x ≤ 100000) ∧ Cur w' b B (K + 6) ∧ Bex b w w' := by
  go_enter Try.func91, Try.ntmps91
  go_wp2_with fail
  refine (s_one b B K 20 _ h (by omega) (by omega)).mono ?_; rintro e w1 ⟨q, rfl, hC1, hX1⟩
  cases q with
  | false =>
    go_wp2_with fail
    refine (s_pick b B (K + 2) 250 _ hC1 (by omega) (by omega)).mono ?_; rintro e w2 ⟨r, rfl, hr1, hr2, hC2, hX2⟩
    go_wp2_with fail
    refine (s_pick b B (K + 2 + 2) 257 _ hC2 (by omega) (by omega)).mono ?_; rintro e w3 ⟨s, rfl, hs1, hs2, hC3, hX3⟩
    have e1 : IntKind.i64.wrap ((r : Int) * 257) = (r : Int) * 257 := IntWalk.i64_in _ (by omega)
    have e2 : IntKind.i64.wrap ((r : Int) * 257 + s) = (r : Int) * 257 + s := IntWalk.i64_in _ (by omega)
    go_wp2
    go_ret
    exact ⟨_, rfl, ⟨by omega, by omega⟩, hC3, (hX1.trans hX2).trans hX3⟩
  | true =>
    obtain ⟨hCa, hIa, hOa, hXa⟩ := among_lit (w := w1) (t := 3) [-1, 0, 65535, 65536] hC1 rfl rfl (by simp) (by intro x hx; simp at hx; unfold Fits; omega)
    go_wp2_with fail
    refine (s_among b B _ _ 4 4 [-1, 0, 65535, 65536] _ hCa (by omega) hIa (by omega) (by omega) hOa).mono ?_; rintro e w2 ⟨x, rfl, hx, hC2, hX2⟩
    go_wp2
    go_ret
    exact ⟨_, rfl, by simp at hx; omega, hC2.more (by omega), (hX1.trans hXa).trans hX2⟩
set_option maxHeartbeats 4000000 in
theorem s_sized (b B K : Nat) (w : World) (h : Cur w b B K) (hK : K ≤ 100000000) :
    Calls Try.prog 75 #[.pointer (some ⟨b, 0, none⟩)] w fun e w' => ∃ x k m : Int, e = .returned (.tuple #[.int .i64 x, .int .i64 k, .int .i64 m]) ∧ Dk x ∧ (0 ≤ k ∧ k ≤ 9) ∧ (-1 ≤ m ∧ m ≤ 25) ∧ Cur w' b B (K + 20) ∧ Bex b w w' := by
  go_enter Try.func75, Try.ntmps75
  go_wp2_with fail
  refine (s_pick b B K 5 _ h (by omega) (by omega)).mono ?_; rintro e w1 ⟨k0, rfl, hk1, hk2, hC1, hX1⟩
  have e1 : IntKind.i64.wrap (1 + (k0 : Int)) = 1 + (k0 : Int) := IntWalk.i64_in _ (by omega)
  have hk5 : k0 ≤ 4 := by omega
  go_wp2_with fail
  refine (s_pick b B (K + 2) 8 _ hC1 (by omega) (by omega)).mono ?_; rintro e w2 ⟨m0, rfl, hm1, hm2, hC2, hX2⟩
  have hm8 : m0 ≤ 7 := by omega
  go_wp2_with fail
  refine (s_pick b B (K + 2 + 2) 20 _ hC2 (by omega) (by omega)).mono ?_; rintro e w3 ⟨j, rfl, hj1, hj2, hC3, hX3⟩
  have HX := Lib.hid ((hX1.trans hX2).trans hX3)
  clear hX1 hX2 hX3 hC1 hC2 h
  have hor : j = 0 ∨ j = 1 ∨ 2 ≤ j := by omega
  rcases hor with rfl | rfl | hj
  · obtain ⟨hCa, hIa, hOa, hXa⟩ := among_lit (w := w3) (t := 3) [0, 8, 9] hC3 rfl rfl (by simp) (by intro x hx; simp at hx; unfold Fits; omega)
    go_wp2_with fail
    refine (s_among b B _ _ 3 3 [0, 8, 9] _ hCa (by omega) hIa (by omega) (by omega) hOa).mono ?_; rintro e w4 ⟨x, rfl, hx, hC4, hX4⟩
    go_wp2_with fail
    refine (s_secret b B _ _ hC4 (by omega)).mono ?_; rintro e w5 ⟨y, rfl, hy, hC5, hX5⟩
    go_wp2
    go_ret3
    exact ⟨_, _, _, rfl, hy, by simp at hx; omega, ⟨by omega, by omega⟩, hC5.more (by omega), (HX.out.trans hXa).trans (hX4.trans hX5)⟩
  · obtain ⟨hCa, hIa, hOa, hXa⟩ := among_lit (w := w3) (t := 3) [-1, 24, 25] hC3 rfl rfl (by simp) (by intro x hx; simp at hx; unfold Fits; omega)
    go_wp2_with fail
    refine (s_among b B _ _ 3 3 [-1, 24, 25] _ hCa (by omega) hIa (by omega) (by omega) hOa).mono ?_; rintro e w4 ⟨x, rfl, hx, hC4, hX4⟩
    go_wp2_with fail
    refine (s_secret b B _ _ hC4 (by omega)).mono ?_; rintro e w5 ⟨y, rfl, hy, hC5, hX5⟩
    go_wp2
    go_ret3
    exact ⟨_, _, _, rfl, hy, ⟨by omega, by omega⟩, by simp at hx; omega, hC5.more (by omega), (HX.out.trans hXa).trans (hX4.trans hX5)⟩
  · have hjz : ¬ (j : Int) = 0 := by omega
    have hjo : ¬ (j : Int) = 1 := by omega
    have hjb : ((j : Int) == 0) = false := by simpa using hjz
    have hjc : ((j : Int) == 1) = false := by simpa using hjo
    go_wp2_with fail
    refine (s_secret b B _ _ hC3 (by omega)).mono ?_; rintro e w5 ⟨y, rfl, hy, hC5, hX5⟩
    go_wp2
    go_ret3
    exact ⟨_, _, _, rfl, hy, ⟨by omega, by omega⟩, ⟨by omega, by omega⟩, hC5.more (by omega), HX.out.trans hX5⟩
set_option maxHeartbeats 400000 in
theorem s_oxSeedG (key i side : Int) (m : Nat) (w : World) (hk : -10 ≤ key ∧ key ≤ 1000000010) (hi : 0 ≤ i ∧ i ≤ 1000) (hs : 0 ≤ side ∧ side ≤ 1000) (hm : m ≤ 1000) :
    Calls Try.prog 120 #[.int .i64 key, .int .i64 i, .int .i64 side, .int .i64 m] w fun e w' => ∃ r c, e = .returned (.slice r m c) ∧ Mine w' w.heap.size r m c (seedC key i side m) ∧ Below w.heap.size w w' := by
  have HSM := Lib.hid (small4w (a := key) (b := i) (c := side) (d := 31) (by omega) (by omega) (by omega) (by omega))
  obtain ⟨hk1, hk2⟩ := hk; obtain ⟨hs1, hs2⟩ := hs; obtain ⟨hi1, hi2⟩ := hi
  go_enter Try.func120, Try.ntmps120
  go_wp2_with fail
  refine (s_dgBits _ _ _ [key, i, side, 31] m _ (by exact Ints.lit4 rfl (by unfold Fits; omega) (by unfold Fits; omega) (by unfold Fits; omega) (by unfold Fits; omega)) (by omega) HSM.out (by omega)).mono ?_; rintro e w2 ⟨r, c, rfl, ho, hb⟩
  have hm2 := Lib.hid (ho.mine.base (B' := w.heap.size) (by simp))
  clear ho
  go_wp2
  go_ret
  exact ⟨_, _, rfl, hm2.out, bel_trans (bel_alloc w _) hb⟩
set_option maxHeartbeats 4000000 in
theorem s_oxSentG (key : Int) (k : Nat) (a : Option Addr) (m cap : Nat) (ch : List Int) (w : World) (hk : -10 ≤ key ∧ key ≤ 1000000010) (hk8 : k ≤ 100) (h : Ints w a m cap ch) (hm : m ≤ 100) (hb : bitsB ch = true) :
    Calls Try.prog 79 #[.int .i64 key, .int .i64 k, .slice a m cap] w fun e w' => ∃ r c, e = .returned (.slice r k c) ∧ OwnR 23 w' w.heap.size (.slice r k c) k (sentCs key ch m k) ∧ Below w.heap.size w w' := by
  have hl := h.len
  have HH := Lib.hid h; have HCB := Lib.hid hb; clear h hb
  go_enter Try.func79, Try.ntmps79
  go_wp2
  go_loopw [7, 8] (fun v i wr => ∃ t : Nat, t ≤ k ∧ i = .int .i64 t ∧ Hid (OwnR 23 wr w.heap.size v t (sentCs key ch m t)) ∧ Hid (Below w.heap.size w wr)) (fun _ i _ => k - (intOf i).toNat)
  case atStart => exact ⟨0, by omega, rfl, (show Hid _ from OwnR.nil), (show Hid _ from Below.refl _ _)⟩
  case round =>
    obtain ⟨t, ht, rfl, HO, HB⟩ := hrel
    obtain ⟨wo, rfl⟩ : ∃ wo : World, wo = wr := ⟨_, rfl⟩
    by_cases hlt : t < k
    · have HL := Lib.hid (sentCs_succ key ch m t)
      have hz := HB.out.size
      have HD : Hid (sentC key ch m t = xrL (xrL (seedC key t 0 m) (seedC key t 1 m) m) ch m) := rfl
      go_wp2_with fail
      refine (s_oxSeedG key t 0 m _ hk (by omega) (by omega) (by omega)).mono ?_; rintro e w2 ⟨r2, c2, rfl, hm2, hb2⟩
      go_wp2_with fail
      refine (s_oxSeedG key t 1 m _ hk (by omega) (by omega) (by omega)).mono ?_; rintro e w3 ⟨r3, c3, rfl, hm3, hb3⟩
      go_wp2_with fail
      refine (s_btXor _ _ _ _ _ _ (seedC key t 0 m) (seedC key t 1 m) _ (hm2.ints.below hb3) hm3.ints (Nat.le_refl _) (by omega) (bits2 (seedC_bits _ _ _ _) (seedC_bits _ _ _ _) (by rw [seedC_len]; exact Nat.le_refl _) (by rw [seedC_len]; exact Nat.le_refl _))).mono ?_; rintro e w4 ⟨r4, c4, rfl, hm4, hb4⟩
      have B4 := bel_trans (bel_trans hb2 hb3) hb4
      go_wp2_with fail
      refine (s_btXor _ _ _ _ _ _ (xrL (seedC key t 0 m) (seedC key t 1 m) m) ch _ hm4.ints (HH.out.below (bel_trans HB.out B4)) (Nat.le_refl _) (by omega) (bits2 (xrL_bits _ _ _) HCB.out (by rw [xrL_len]; exact Nat.le_refl _) (by rw [hl.out]; exact Nat.le_refl _))).mono ?_; rintro e w5 ⟨r5, c5, rfl, hm5, hb5⟩
      have hm6 := Lib.hid (hm5.base B4.size)
      have HBX := Lib.hid (bel_trans B4 hb5)
      clear hm2 hb2 hm3 hb3 hm4 hb4 B4 hm5 hb5
      go_wp2_with (at_builtin; refine wp_appR wo w5 w.heap.size t _ _ r5 m c5 (xrL (xrL (seedC key t 0 m) (seedC key t 1 m) m) ch m) _ _ rfl _ _ rfl rfl rfl rfl HO.out HBX.out hm6.out hz (by omega) ?_; intro v9 w9 hv9 hb9)
      go_roundw
      case rel => exact ⟨t + 1, by omega, by go_num, (by rw [HL.out, HD.out]; exact hv9), (show Hid _ from HB.out.trans ((HBX.out.mono hz).trans hb9))⟩
      case measure => simp [intOf]; omega
    · obtain rfl : t = k := by omega
      obtain ⟨a2, c, hv, hm2⟩ := HO.out.mine (by omega) HB.out.size
      subst hv
      clear hm2
      go_wp2
      go_ret
      exact ⟨_, _, rfl, HO.out, HB.out⟩
end Go.Proofs.Ytfejpmfcognikaa
