/-
  What is drawn for the laws on triples: lists of elements, pairs, triple shares.
-/
import Derived.Test.YtfandnakenpfnaaCv
import Derived.Test.YtfandnakenpfnaaD3
import Derived.Test.YtfandnakenpfnaaAp
namespace Go.Proofs.Ytfandnakenpfnaa
open Go.RowKit
set_option linter.unusedVariables false
set_option linter.unusedSimpArgs false

theorem Cur.onB {w w' : World} {b B K X : Nat} (h : Cur w b B K) (hb : Below X w w') (hX : b < X) : Cur w' b B K := by
  have hBb := h.base
  refine ⟨Nat.lt_of_lt_of_le h.lt hb.size, h.base, ?_⟩
  obtain ⟨a, n, cap, i, s, h0, h1, h2, f1, f2, hi, hs, hB, ho⟩ := h.cells.out
  refine ⟨a, n, cap, i, s, (hb.cell (p := ⟨b, 0, none⟩) hX).trans h0, (hb.cell (p := ⟨b, 1, none⟩) hX).trans h1, (hb.cell (p := ⟨b, 2, none⟩) hX).trans h2, (hb.frozen (p := ⟨b, 1, none⟩) hX).trans f1, (hb.frozen (p := ⟨b, 2, none⟩) hX).trans f2, hi, hs, ⟨hB.ncap, hB.capm, hB.small, fun j hj => ?_⟩, ho⟩
  obtain ⟨g, off, y, e, hl, hc, hy⟩ := hB.cell.out j hj
  have hg := ho (by omega) g off e
  exact ⟨g, off, y, e, Nat.lt_of_lt_of_le hl hb.size, (hb.cell (p := ⟨g, off + j, none⟩) (by show g < X; omega)).trans hc, hy⟩
theorem Bex.thenB {b : Nat} {w0 w w' : World} (h : Bex b w0 w) (hb : Below w0.heap.size w w') : Bex b w0 w' :=
  ⟨hb.os.trans h.os, hb.tape.trans h.tape, hb.output.trans h.output, Nat.le_trans h.size hb.size, fun k hk hne => (hb.block k hk).trans (h.block k hk hne)⟩
theorem Bex.store {b : Nat} {w w' : World} {p : Addr} (h : Bex b w w') (hp : w.heap.size ≤ p.block) (u : Value) : Bex b w (w'.setCell p u) :=
  ⟨h.os, h.tape, h.output, by simpa [World.setCell] using h.size, fun k hk hne => (Below.heap_setCell _ _ _ _ (by omega)).trans (h.block k hk hne)⟩
set_option maxHeartbeats 2000000 in
theorem s_elements (b B K : Nat) (p : Int) (n : Nat) (w : World) (h : Cur w b B K) (hK : K + 4 * n ≤ 1000000000) (hp : Dr p) (hn : n ≤ 1000) :
    Calls Try.prog 86 #[.pointer (some ⟨b, 0, none⟩), .int .i64 p, .int .i64 n] w fun e w' => ∃ r c xs, e = .returned (.slice r n c) ∧ OwnI 3 w' w.heap.size r n c xs ∧ Cur w' b B (K + 4 * n) ∧ Bex b w w' := by
  have hbl := h.lt
  go_enter Try.func86, Try.ntmps86
  go_wp2
  go_loopw [2, 7] (fun i v W => ∃ k : Nat, k ≤ n ∧ i = .int .i64 ((n : Int) - k) ∧ Hid (∃ xs, W.ownsRow w.heap.size 3 1 v k (ivs xs) ∧ ∀ x ∈ xs, Fits x) ∧ Hid (Cur W b B (K + 4 * k)) ∧ Hid (Bex b w W)) (fun i _ _ => (intOf i).toNat)
  case atStart => exact ⟨0, by omega, by simp, ⟨[], World.ownsRow_nil _ _ _ _, by simp⟩, (show Hid _ from h), Bex.refl _ _⟩
  case round =>
    obtain ⟨k, hk, rfl, HO, HC, HX⟩ := hrel
    by_cases hlt : k < n
    · have hpos : (0 : Int) < (n : Int) - k := by omega
      have e1 : IntKind.i64.wrap ((n : Int) - k - 1) = (n : Int) - k - 1 := IntWalk.i64_in _ (by omega)
      have hzr := HX.out.size
      go_wp2_with fail
      refine (s_element b B (K + 4 * k) p _ HC.out (by omega) hp).mono ?_; rintro e w1 ⟨x, rfl, hx, hC1, hX1⟩
      obtain ⟨xs, ho, hf⟩ := HO.out
      have HO1 := Lib.hid (ownsRow_bex ho hX1 hbl); have HF := Lib.hid hf; clear ho hf HO HC
      have HC1 := Lib.hid hC1; have HX1 := Lib.hid (HX.out.trans hX1); clear hC1 hX1 HX
      have hz1 := HX1.out.size
      go_wp2_with (at_builtin; refine wp_app w1 w.heap.size k _ xs x _ _ rfl _ _ rfl rfl rfl (by first | rfl | simp) HO1.out (by omega) (by omega) ?_; intro v9 w9 hv9 hb9 hg9)
      clear hg9
      go_roundw
      case rel => exact ⟨k + 1, by omega, by first | go_num | (simp; omega), (show Hid _ from ⟨_, hv9, fun y hy => by
          rw [List.mem_append] at hy
          rcases hy with hy | hy
          · exact HF.out y hy
          · simp at hy; rw [hy]; exact hx.fits⟩), (show Hid _ from (HC1.out.onB hb9 hbl).more (by omega)), (show Hid _ from HX1.out.thenB hb9)⟩
      case measure => simp [intOf]; omega
    · obtain rfl : k = n := by omega
      obtain ⟨xs, ho, hf⟩ := HO.out
      obtain ⟨r, c, rfl, hI⟩ := OwnI.of ho (by omega) hf
      have HI := Lib.hid hI; clear hI ho hf HO
      go_wp2
      go_ret
      exact ⟨_, _, _, rfl, HI.out, HC.out, HX.out⟩
set_option maxHeartbeats 2000000 in
theorem s_pair (b B K : Nat) (p : Int) (w : World) (h : Cur w b B K) (hK : K ≤ 100000000) (hp : Dr p) :
    Calls Try.prog 67 #[.pointer (some ⟨b, 0, none⟩), .int .i64 p] w fun e w' => ∃ r m c xs, e = .returned (.slice r m c) ∧ Mine w' w.heap.size r m c xs ∧ m ≤ 3 ∧ Cur w' b B (K + 10) ∧ Bex b w w' := by
  have hbl := h.lt
  go_enter Try.func67, Try.ntmps67
  go_wp2_with fail
  refine (s_elements b B K p 2 _ h (by omega) hp (by omega)).mono ?_; rintro e w1 ⟨r, c, xs, rfl, hI, hC, hX⟩
  go_wp2_with fail
  refine (s_one b B (K + 4 * 2) 24 _ hC (by omega) (by omega)).mono ?_; rintro e w2 ⟨q, rfl, hC2, hX2⟩
  have hI2 := hI.bex hX2 hbl
  have HX2 := Lib.hid (hX.trans hX2); have hz := HX2.out.size
  clear hI hC hX hX2
  have HI2 := Lib.hid hI2; clear hI2
  cases q with
  | false =>
    go_wp2
    go_ret
    exact ⟨_, _, _, _, rfl, HI2.out.mine, by omega, hC2.more (by omega), HX2.out⟩
  | true =>
    go_wp2_with (at_builtin; refine wp_app w2 w.heap.size 2 _ xs 0 _ _ rfl _ _ rfl rfl rfl (by first | rfl | simp) HI2.out.own (by omega) (by omega) ?_; intro v9 w9 hv9 hb9 hg9)
    clear hg9
    obtain ⟨r9, c9, rfl, hM⟩ := Mine.of hv9 (by omega) (fun y hy => by
      rw [List.mem_append] at hy
      rcases hy with hy | hy
      · exact HI2.out.ints.wf.out y hy
      · simp at hy; rw [hy]; unfold Fits; omega)
    clear hv9
    go_ret
    exact ⟨_, _, _, _, rfl, hM, by omega, (hC2.onB hb9 hbl).more (by omega), HX2.out.thenB hb9⟩
theorem Mine.take2 {w : World} {B n cap : Nat} {a : Option Addr} {xs : List Int} (h : Mine w B a n cap xs) (hn : 2 ≤ n) : Mine w B a 2 cap (xs.take 2) := by
  have hl := h.ints.len.out
  refine ⟨⟨by show _ = _; rw [List.length_take]; omega, by have := h.ints.ncap; omega, by omega, h.ints.capm, fun i hi => ?_, fun x hx => h.ints.wf.out x (List.mem_of_mem_take hx), h.ints.nilc⟩, fun _ b off e => h.place.out (by omega) b off e, fun i hi b off e => h.free.out i (by omega) b off e⟩
  obtain ⟨b, off, e, hb, hc⟩ := h.ints.at (i := i) (by omega)
  refine ⟨b, off, e, hb, ?_⟩
  rw [hc]
  simp [nth, List.getElem?_take, hi]
theorem lit000 {w : World} {m : Nat} {t : TypeId} (hm : m = w.heap.size) : Mine (w.alloc (.cells #[.int .i64 0, .int .i64 0, .int .i64 0] t)) w.heap.size (some ⟨m, 0, none⟩) 3 3 [0, 0, 0] := by
  subst hm
  refine ⟨Ints.lit3 rfl (by unfold Fits; omega) (by unfold Fits; omega) (by unfold Fits; omega), fun _ b off e => ?_, fun i hi b off e => ?_⟩
  · simp only [Option.some.injEq, Addr.mk.injEq] at e
    obtain ⟨rfl, _, _⟩ := e
    exact ⟨Nat.le_refl _, by simp⟩
  · simp only [Option.some.injEq, Addr.mk.injEq] at e
    obtain ⟨rfl, rfl, _⟩ := e
    exact World.frozen?_alloc_at _ _ _ _ rfl
set_option maxHeartbeats 4000000 in
theorem s_triple (b B K : Nat) (p : Int) (w : World) (h : Cur w b B K) (hK : K ≤ 100000000) (hp : Dr p) :
    Calls Try.prog 60 #[.pointer (some ⟨b, 0, none⟩), .int .i64 p] w fun e w' => ∃ r1 n1 c1 xs1 r2 n2 c2 xs2, e = .returned (.tuple #[.slice r1 n1 c1, .slice r2 n2 c2]) ∧ Mine w' w.heap.size r1 n1 c1 xs1 ∧ Mine w' w.heap.size r2 n2 c2 xs2 ∧ Cur w' b B (K + 20) ∧ Bex b w w' := by
  have hbl := h.lt
  have hbB := h.base
  cases hpr : prB p with
  | false =>
    have A1 := bel_alloc w (.cells #[.int .i64 0, .int .i64 0, .int .i64 0] 3)
    have A2 := bel_alloc (w.alloc (.cells #[.int .i64 0, .int .i64 0, .int .i64 0] 3)) (.cells #[.int .i64 0, .int .i64 0, .int .i64 0] 3)
    have m1 := (lit000 (w := w) (t := 3) rfl).below A2
    have m2 := (lit000 (w := w.alloc (.cells #[.int .i64 0, .int .i64 0, .int .i64 0] 3)) (m := w.heap.size + 1) (t := 3) (by simp)).base (B' := w.heap.size) (by simp)
    go_enter Try.func60, Try.ntmps60
    go_wp2_with (go_at_call 44; refine (s_fpGood _ _).mono ?_; rintro e w' ⟨rfl, rfl⟩; rw [hpr])
    go_ret2
    exact ⟨_, _, _, _, _, _, _, _, rfl, m1, m2, ((h.below A1).below A2).more (by omega), (Bex.of A1).trans (Bex.of A2)⟩
  | true =>
    have hpl := prB_lo hpr
    go_enter Try.func60, Try.ntmps60
    go_wp2_with fail
    refine (s_fpGood _ _).mono ?_; rintro e wx ⟨rfl, hwx⟩; subst hwx; rw [hpr]
    go_wp2_with fail
    refine (s_pick b B K 9000 _ h (by omega) (by omega)).mono ?_; rintro e w1 ⟨k1, rfl, hk1, hk2, hC1, hX1⟩
    go_wp2_with fail
    refine (s_pick b B (K + 2) 30 _ hC1 (by omega) (by omega)).mono ?_; rintro e w2 ⟨k2, rfl, hk3, hk4, hC2, hX2⟩
    go_wp2_with fail
    refine (s_trFor p k1 k2 _ hpl ⟨by omega, by omega⟩ ⟨by omega, by omega⟩).mono ?_; rintro e w3 ⟨r1, c1, r2, c2, m, rfl, M1, M2, hPL, hm, hb3⟩
    have hX3 := (hX1.trans hX2).trans (Bex.of hb3)
    have hC3 := hC2.below hb3
    have hz2 : w.heap.size ≤ w2.heap.size := (hX1.trans hX2).size
    have N1 := M1.base hz2
    have N2 := M2.base (Nat.le_trans hz2 hm)
    have AP : Apart r1 3 r2 3 := Apart.of hPL M2.pl (Or.inl (Nat.le_refl _))
    clear M1 M2 hPL hb3 hX1 hX2 hC1 hC2
    go_wp2_with fail
    refine (s_one b B (K + 2 + 2) 3 _ hC3 (by omega) (by omega)).mono ?_; rintro e w4 ⟨q, rfl, hC4, hX4⟩
    replace N1 := N1.bex hX4 hbl; replace N2 := N2.bex hX4 hbl
    have HX4 := Lib.hid (hX3.trans hX4); clear hX3 hX4 hC3
    have fin : ∀ (W : World) (xs : List Int), Mine W w.heap.size r1 3 c1 xs → Mine W w.heap.size r2 3 c2 (tripB p k1 k2) → Cur W b B (K + 14) → Bex b w W → True := fun _ _ _ _ _ _ => trivial
    clear fin
    have hc2 := N2.ints.ncap
    cases q with
    | false =>
      have Nx1 := Lib.hid N1; have Nx2 := Lib.hid N2; have HXx := HX4; have HCx := Lib.hid hC4; clear N1 N2 HX4 hC4
      go_wp2_with fail
      refine (s_one b B (K + 2 + 2 + 2) 20 _ HCx.out (by omega) (by omega)).mono ?_; rintro e w8 ⟨q8, rfl, hC8, hX8⟩
      have P1 := Lib.hid (Nx1.out.bex hX8 hbl); have P2 := Lib.hid (Nx2.out.bex hX8 hbl)
      have HX8 := Lib.hid (HXx.out.trans hX8); clear hX8 Nx1 Nx2 HXx HCx
      cases q8 with
      | false =>
        go_wp2
        go_ret2
        exact ⟨_, _, _, _, _, _, _, _, rfl, P1.out, P2.out, hC8.more (by omega), HX8.out⟩
      | true =>
        have P3 := Lib.hid (P2.out.take2 (by omega))
        obtain ⟨g2, o2, rfl, _⟩ := P2.out.ints.at (i := 0) (by omega)
        go_wp2
        go_ret2
        exact ⟨_, _, _, _, _, _, _, _, rfl, P1.out, P3.out, hC8.more (by omega), HX8.out⟩
    | true =>
      go_wp2_with fail
      refine (s_pick b B (K + 2 + 2 + 2) 3 _ hC4 (by omega) (by omega)).mono ?_; rintro e w5 ⟨j, rfl, hj1, hj2, hC5, hX5⟩
      have hj : j < 3 := by omega
      have hji : (j : Int) < 3 := by omega
      go_wp2_with fail
      refine (s_element b B (K + 2 + 2 + 2 + 2) p _ hC5 (by omega) hp).mono ?_; rintro e w6 ⟨x, rfl, hx, hC6, hX6⟩
      have N3 := (N1.bex hX5 hbl).bex hX6 hbl; have N4 := (N2.bex hX5 hbl).bex hX6 hbl
      have HX6 := Lib.hid ((HX4.out.trans hX5).trans hX6)
      clear N1 N2 HX4 hX5 hX6 hC4 hC5
      obtain ⟨g1, o1, rfl, hB1, hg1, hcell, hfro⟩ := N3.at hj
      have N5 := N3.set hj x hx.fits
      have N6 := N4.onlyA ((OnlyM.refl (some ⟨g1, o1, none⟩) 3 w6).setCell (i := o1 + j) (by omega) (.int .i64 x)) (Apart.symm AP)
      have hC7 := hC6.store (p := ⟨g1, o1 + j, none⟩) (u := .int .i64 x) (by simp only []; omega) (by simp only []; omega)
      have hX7 := HX6.out.store (p := ⟨g1, o1 + j, none⟩) (by simp only []; omega) (.int .i64 x)
      have hcap1 := N3.ints.ncap
      have Nx1 := Lib.hid N5; have Nx2 := Lib.hid N6; have HXx := Lib.hid hX7; have HCx := Lib.hid hC7
      clear N3 N4 N5 N6 HX6 hC6 hC7 hX7
      go_wp2_with fail
      refine (s_one b B (K + 2 + 2 + 2 + 2 + 4) 20 _ HCx.out (by omega) (by omega)).mono ?_; rintro e w8 ⟨q8, rfl, hC8, hX8⟩
      have P1 := Lib.hid (Nx1.out.bex hX8 hbl); have P2 := Lib.hid (Nx2.out.bex hX8 hbl)
      have HX8 := Lib.hid (HXx.out.trans hX8); clear hX8 Nx1 Nx2 HXx HCx
      cases q8 with
      | false =>
        go_wp2
        go_ret2
        exact ⟨_, _, _, _, _, _, _, _, rfl, P1.out, P2.out, hC8.more (by omega), HX8.out⟩
      | true =>
        have P3 := Lib.hid (P2.out.take2 (by omega))
        obtain ⟨g2, o2, rfl, _⟩ := P2.out.ints.at (i := 0) (by omega)
        go_wp2
        go_ret2
        exact ⟨_, _, _, _, _, _, _, _, rfl, P1.out, P3.out, hC8.more (by omega), HX8.out⟩
end Go.Proofs.Ytfandnakenpfnaa
