/-
  The first draws of the law FnSharedBits.
-/
import Derived.Test.YtmkcanbaleecfaaSq
import Derived.Test.YtmkcanbaleecfaaCv
namespace Go.Proofs.Ytmkcanbaleecfaa
open Go.RowKit
set_option linter.unusedVariables false
set_option linter.unusedSimpArgs false
set_option maxRecDepth 10000

theorem Bex.thenB {b : Nat} {w0 w w' : World} (h : Bex b w0 w) (hb : Below w0.heap.size w w') : Bex b w0 w' :=
  ⟨hb.os.trans h.os, hb.tape.trans h.tape, hb.output.trans h.output, Nat.le_trans h.size hb.size, fun k hk hne => (hb.block k hk).trans (h.block k hk hne)⟩
theorem Cur.onB {w w' : World} {b B K X : Nat} (h : Cur w b B K) (hb : Below X w w') (hX : b < X) : Cur w' b B K := by
  have hBb := h.base
  refine ⟨Nat.lt_of_lt_of_le h.lt hb.size, h.base, ?_⟩
  obtain ⟨a, n, cap, i, s, h0, h1, h2, f1, f2, hi, hs, hB, ho⟩ := h.cells.out
  refine ⟨a, n, cap, i, s, (hb.cell (p := ⟨b, 0, none⟩) hX).trans h0, (hb.cell (p := ⟨b, 1, none⟩) hX).trans h1, (hb.cell (p := ⟨b, 2, none⟩) hX).trans h2, (hb.frozen (p := ⟨b, 1, none⟩) hX).trans f1, (hb.frozen (p := ⟨b, 2, none⟩) hX).trans f2, hi, hs, ⟨hB.ncap, hB.capm, hB.small, fun j hj => ?_⟩, ho⟩
  obtain ⟨g, off, y, e, hl, hc, hy⟩ := hB.cell.out j hj
  have hg := ho (by omega) g off e
  exact ⟨g, off, y, e, Nat.lt_of_lt_of_le hl hb.size, (hb.cell (p := ⟨g, off + j, none⟩) (by show g < X; omega)).trans hc, hy⟩
/-- A number that was drawn, widely. -/
def Dw (x : Int) : Prop := -10000000000 ≤ x ∧ x ≤ 10000000000
theorem Dw.fits {x : Int} (h : Dw x) : Fits x := by unfold Dw at h; unfold Fits; omega
set_option maxHeartbeats 2000000 in
theorem s_bitsZ (b B K : Nat) (n : Int) (w : World) (h : Cur w b B K) (hK : K ≤ 1000000) (hn : -100 ≤ n ∧ n ≤ 1000) :
    Calls Try.prog 112 #[.pointer (some ⟨b, 0, none⟩), .int .i64 n] w fun e w' => ∃ r c xs, e = .returned (.slice r n.toNat c) ∧ OwnI 3 w' w.heap.size r n.toNat c xs ∧ Cur w' b B (K + 2 * n.toNat) ∧ Bex b w w' := by
  have hbl := h.lt
  obtain ⟨m, hm⟩ : ∃ m, m = n.toNat := ⟨_, rfl⟩
  have hmn : (m : Int) = n ∨ (m = 0 ∧ n ≤ 0) := by omega
  rw [← hm]; have HM := Lib.hid hm; clear hm
  go_enter Try.func112, Try.ntmps112
  go_wp2
  go_loopw [1, 5] (fun i v W => ∃ k : Nat, k ≤ m ∧ i = .int .i64 (n - k) ∧ Hid (∃ xs, W.ownsRow w.heap.size 3 1 v k (ivs xs) ∧ ∀ x ∈ xs, Fits x) ∧ Hid (Cur W b B (K + 2 * k)) ∧ Hid (Bex b w W)) (fun i _ _ => (intOf i).toNat)
  case atStart => exact ⟨0, by omega, by simp, ⟨[], World.ownsRow_nil _ _ _ _, by simp⟩, (show Hid _ from h), Bex.refl _ _⟩
  case round =>
    obtain ⟨k, hk, rfl, HO, HC, HX⟩ := hrel
    by_cases hlt : k < m
    · have hpos : (0 : Int) < n - k := by omega
      have e1 : IntKind.i64.wrap (n - k - 1) = n - k - 1 := IntWalk.i64_in _ (by omega)
      have hzr := HX.out.size
      go_wp2_with fail
      refine (s_pick b B (K + 2 * k) 2 _ HC.out (by omega) (by omega)).mono ?_; rintro e w1 ⟨x, rfl, hx, hx2, hC1, hX1⟩
      obtain ⟨xs, ho, hf⟩ := HO.out
      have HO1 := Lib.hid (ownsRow_bex ho hX1 hbl); have HF := Lib.hid hf; clear ho hf HO HC
      have HC1 := Lib.hid hC1; have HX1 := Lib.hid (HX.out.trans hX1); clear hC1 hX1 HX
      have hz1 := HX1.out.size
      go_wp2_with (at_builtin; refine wp_app w1 w.heap.size k _ xs (x : Int) _ _ rfl _ _ rfl rfl rfl (by first | rfl | simp) HO1.out (by omega) (by omega) ?_; intro v9 w9 hv9 hb9 hg9)
      clear hg9
      go_roundw
      case rel => exact ⟨k + 1, by omega, by first | go_num | (simp; omega), (show Hid _ from ⟨_, hv9, fun y hy => by
          rw [List.mem_append] at hy
          rcases hy with hy | hy
          · exact HF.out y hy
          · simp at hy; rw [hy]; unfold Fits; omega⟩), (show Hid _ from (HC1.out.onB hb9 hbl).more (by omega)), (show Hid _ from HX1.out.thenB hb9)⟩
      case measure => simp [intOf]; omega
    · obtain rfl : k = m := by omega
      have hpos : ¬ (0 : Int) < n - k := by omega
      obtain ⟨xs, ho, hf⟩ := HO.out
      obtain ⟨r, c, rfl, hI⟩ := OwnI.of ho (by omega) hf
      have HI := Lib.hid hI; clear hI ho hf HO
      go_wp2
      go_ret
      exact ⟨_, _, rfl, ⟨_, HI.out⟩, HC.out, HX.out⟩

set_option maxHeartbeats 2000000 in
theorem s_DrawBitTriple (a : Option Addr) (n cap : Nat) (w : World) (hB : Byts w a n cap) :
    Calls Try.prog 37 #[.slice a n cap] w fun e w' => ∃ (k : Int) (i : Int), e = .returned (.tuple #[.int .i64 k, .int .i64 i]) ∧ Dw k ∧ Dw i ∧ Below w.heap.size w w' := by
  have hC0 := Cur.new (t := 98) hB hB.und (Nat.le_refl _)
  go_enter Try.func37, Try.ntmps37
  have hl0 := hC0.lt
  go_wp2_with fail
  refine (s_pick _ _ _ 60000 _ hC0 (by omega) (by omega)).mono ?_; rintro e w1 ⟨u, rfl, hu1, hu2, hC1, hX1⟩
  have hY1 := hX1
  have hl1 := hC1.lt
  go_wp2_with fail
  refine (s_pick _ _ _ 60000 _ hC1 (by omega) (by omega)).mono ?_; rintro e w2 ⟨v, rfl, hv1, hv2, hC2, hX2⟩
  have hY2 := hY1.trans hX2
  obtain ⟨hCa, hIa, hOa, hXa⟩ := among_lit (t := 3) [(u : Int), (v : Int), 1000000000, 1000000001] hC2 rfl rfl (by simp) (by intro x hx; simp at hx; unfold Fits; omega)
  have hl2a := hC2.lt
  go_wp2_with fail
  refine (s_among _ _ _ _ 4 4 [(u : Int), (v : Int), 1000000000, 1000000001] _ hCa (by omega) hIa (by omega) (by omega) hOa).mono ?_; rintro e w3 ⟨k, rfl, hk, hC3, hX3⟩
  have hY3 := (hY2.trans hXa).trans hX3
  have dk : Dw k := by simp at hk; unfold Dw; omega
  clear hCa hIa hOa hXa hk
  have hl3 := hC3.lt
  go_wp2_with fail
  refine (s_pick _ _ _ 300 _ hC3 (by omega) (by omega)).mono ?_; rintro e w4 ⟨t, rfl, ht1, ht2, hC4, hX4⟩
  have hY4 := hY3.trans hX4
  obtain ⟨hCa, hIa, hOa, hXa⟩ := among_lit (t := 3) [0, 1, (t : Int), 299, 300, -1] hC4 rfl rfl (by simp) (by intro x hx; simp at hx; unfold Fits; omega)
  have hl4a := hC4.lt
  go_wp2_with fail
  refine (s_among _ _ _ _ 6 6 [0, 1, (t : Int), 299, 300, -1] _ hCa (by omega) hIa (by omega) (by omega) hOa).mono ?_; rintro e w5 ⟨i, rfl, hi, hC5, hX5⟩
  have hY5 := (hY4.trans hXa).trans hX5
  have di : Dw i := by simp at hi; unfold Dw; omega
  clear hCa hIa hOa hXa hi
  go_wp2
  exact bodyPost_ret (v := .tuple #[.int .i64 k, .int .i64 i]) (by simp [results, Try.results37, go_sem]) rfl ⟨k, i, rfl, dk, di, bel_new hY5⟩

end Go.Proofs.Ytmkcanbaleecfaa
