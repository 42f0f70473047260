/-
  What is drawn for the laws on polynomials and shares: lists of elements.
-/
import Derived.Test.YtfichpppjpgahaaCv
import Derived.Test.YtfichpppjpgahaaAp
namespace Go.Proofs.Ytfichpppjpgahaa
open Go.RowKit
set_option linter.unusedVariables false
set_option linter.unusedSimpArgs false

theorem Cur.onB {w w' : World} {b B K X : Nat} (h : Cur w b B K) (hb : Below X w w') (hX : b < X) : Cur w' b B K := by
  have hBb := h.base
  refine ⟨Nat.lt_of_lt_of_le h.lt hb.size, h.base, ?_⟩
  obtain ⟨a, n, cap, i, s, h0, h1, h2, f1, f2, hi, hs, hB, ho⟩ := h.cells.out
  refine ⟨a, n, cap, i, s, (hb.cell (p := ⟨b, 0, none⟩) hX).trans h0, (hb.cell (p := ⟨b, 1, none⟩) hX).trans h1, (hb.cell (p := ⟨b, 2, none⟩) hX).trans h2, (hb.frozen (p := ⟨b, 1, none⟩) hX).trans f1, (hb.frozen (p := ⟨b, 2, none⟩) hX).trans f2, hi, hs, ⟨hB.ncap, hB.capm, hB.small, fun j hj => ?_⟩, ho⟩
  obtain ⟨g, off, y, e, hl, hc, hy⟩ := hB.cell.out j hj
  have hg := ho (by omega) g off e
  exact ⟨g, off, y, e, Nat.lt_of_lt_of_le hl hb.size, (hb.cell (p := ⟨g, off + j, none⟩) (by show g < X; omega)).trans hc, hy⟩
theorem Bex.thenB {b : Nat} {w0 w w' : World} (h : Bex b w0 w) (hb : Below w0.heap.size w w') : Bex b w0 w' :=
  ⟨hb.os.trans h.os, hb.tape.trans h.tape, hb.output.trans h.output, Nat.le_trans h.size hb.size, fun k hk hne => (hb.block k hk).trans (h.block k hk hne)⟩
theorem Bex.store {b : Nat} {w w' : World} {p : Addr} (h : Bex b w w') (hp : w.heap.size ≤ p.block) (u : Value) : Bex b w (w'.setCell p u) :=
  ⟨h.os, h.tape, h.output, by simpa [World.setCell] using h.size, fun k hk hne => (Below.heap_setCell _ _ _ _ (by omega)).trans (h.block k hk hne)⟩
set_option maxHeartbeats 2000000 in
theorem s_elements (b B K : Nat) (p : Int) (n : Nat) (w : World) (h : Cur w b B K) (hK : K + 4 * n ≤ 1000000000) (hp : Dr p) (hn : n ≤ 1000) :
    Calls Try.prog 62 #[.pointer (some ⟨b, 0, none⟩), .int .i64 p, .int .i64 n] w fun e w' => ∃ r c xs, e = .returned (.slice r n c) ∧ OwnI 3 w' w.heap.size r n c xs ∧ Cur w' b B (K + 4 * n) ∧ Bex b w w' := by
  have hbl := h.lt
  go_enter Try.func62, Try.ntmps62
  go_wp2
  go_loopw [2, 7] (fun i v W => ∃ k : Nat, k ≤ n ∧ i = .int .i64 ((n : Int) - k) ∧ Hid (∃ xs, W.ownsRow w.heap.size 3 1 v k (ivs xs) ∧ ∀ x ∈ xs, Fits x) ∧ Hid (Cur W b B (K + 4 * k)) ∧ Hid (Bex b w W)) (fun i _ _ => (intOf i).toNat)
  case atStart => exact ⟨0, by omega, by simp, ⟨[], World.ownsRow_nil _ _ _ _, by simp⟩, (show Hid _ from h), Bex.refl _ _⟩
  case round =>
    obtain ⟨k, hk, rfl, HO, HC, HX⟩ := hrel
    by_cases hlt : k < n
    · have hpos : (0 : Int) < (n : Int) - k := by omega
      have e1 : IntKind.i64.wrap ((n : Int) - k - 1) = (n : Int) - k - 1 := IntWalk.i64_in _ (by omega)
      have hzr := HX.out.size
      go_wp2_with fail
      refine (s_element b B (K + 4 * k) p _ HC.out (by omega) hp).mono ?_; rintro e w1 ⟨x, rfl, hx, hC1, hX1⟩
      obtain ⟨xs, ho, hf⟩ := HO.out
      have HO1 := Lib.hid (ownsRow_bex ho hX1 hbl); have HF := Lib.hid hf; clear ho hf HO HC
      have HC1 := Lib.hid hC1; have HX1 := Lib.hid (HX.out.trans hX1); clear hC1 hX1 HX
      have hz1 := HX1.out.size
      go_wp2_with (at_builtin; refine wp_app w1 w.heap.size k _ xs x _ _ rfl _ _ rfl rfl rfl (by first | rfl | simp) HO1.out (by omega) (by omega) ?_; intro v9 w9 hv9 hb9 hg9)
      clear hg9
      go_roundw
      case rel => exact ⟨k + 1, by omega, by first | go_num | (simp; omega), (show Hid _ from ⟨_, hv9, fun y hy => by
          rw [List.mem_append] at hy
          rcases hy with hy | hy
          · exact HF.out y hy
          · simp at hy; rw [hy]; exact hx.fits⟩), (show Hid _ from (HC1.out.onB hb9 hbl).more (by omega)), (show Hid _ from HX1.out.thenB hb9)⟩
      case measure => simp [intOf]; omega
    · obtain rfl : k = n := by omega
      obtain ⟨xs, ho, hf⟩ := HO.out
      obtain ⟨r, c, rfl, hI⟩ := OwnI.of ho (by omega) hf
      have HI := Lib.hid hI; clear hI ho hf HO
      go_wp2
      go_ret
      exact ⟨_, _, _, rfl, HI.out, HC.out, HX.out⟩
theorem s_elementsI (b B K : Nat) (p : Int) (n : Nat) (N : Int) (w : World) (h : Cur w b B K) (hK : K + 4 * n ≤ 1000000000) (hp : Dr p) (hn : n ≤ 1000) (hN : N = n) :
    Calls Try.prog 62 #[.pointer (some ⟨b, 0, none⟩), .int .i64 p, .int .i64 N] w fun e w' => ∃ r c xs, e = .returned (.slice r n c) ∧ OwnI 3 w' w.heap.size r n c xs ∧ Cur w' b B (K + 4 * n) ∧ Bex b w w' := by
  subst hN
  exact s_elements b B K p n w h hK hp hn
end Go.Proofs.Ytfichpppjpgahaa
