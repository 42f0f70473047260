/-
  The draws of choices, of views; comparing lists.
-/
import Derived.Test.YtklgneaamhjfpaaGz
import Derived.Test.YtklgneaamhjfpaaAp
import Derived.Test.YtklgneaamhjfpaaU
namespace Go.Proofs.Ytklgneaamhjfpaa
open Go.RowKit
set_option linter.unusedVariables false
set_option linter.unusedSimpArgs false

theorem Cur.onC {w w' : World} {b B K X : Nat} (h : Cur w b B K) (hb : Below X w w') (hX : b < X) : Cur w' b B K := by
  have hBb := h.base
  refine ⟨Nat.lt_of_lt_of_le h.lt hb.size, h.base, ?_⟩
  obtain ⟨a, n, cap, i, s, h0, h1, h2, f1, f2, hi, hs, hB, ho⟩ := h.cells.out
  refine ⟨a, n, cap, i, s, (hb.cell (p := ⟨b, 0, none⟩) hX).trans h0, (hb.cell (p := ⟨b, 1, none⟩) hX).trans h1, (hb.cell (p := ⟨b, 2, none⟩) hX).trans h2, (hb.frozen (p := ⟨b, 1, none⟩) hX).trans f1, (hb.frozen (p := ⟨b, 2, none⟩) hX).trans f2, hi, hs, ⟨hB.ncap, hB.capm, hB.small, fun j hj => ?_⟩, ho⟩
  obtain ⟨g, off, y, e, hl, hc, hy⟩ := hB.cell.out j hj
  have hg := ho (by omega) g off e
  exact ⟨g, off, y, e, Nat.lt_of_lt_of_le hl hb.size, (hb.cell (p := ⟨g, off + j, none⟩) (by show g < X; omega)).trans hc, hy⟩
theorem Bex.thenC {b : Nat} {w0 w w' : World} (h : Bex b w0 w) (hb : Below w0.heap.size w w') : Bex b w0 w' :=
  ⟨hb.os.trans h.os, hb.tape.trans h.tape, hb.output.trans h.output, Nat.le_trans h.size hb.size, fun k hk hne => (hb.block k hk).trans (h.block k hk hne)⟩
theorem fits_snoc {xs : List Int} {x : Int} (h : ∀ y ∈ xs, Fits y) (hx : Fits x) : ∀ y ∈ xs ++ [x], Fits y := by
  intro y hy
  rw [List.mem_append] at hy
  rcases hy with hy | hy
  · exact h y hy
  · simp at hy; rw [hy]; exact hx
set_option maxHeartbeats 1000000 in
theorem l_qIntsG (a a' : Option Addr) (n cap cap' : Nat) (xs : List Int) (w : World) (h : Ints w a n cap xs) (h' : Ints w a' n cap' xs) :
    Calls Try.prog 45 #[.slice a n cap, .slice a' n cap'] w fun e w' => e = .returned (.bool true) ∧ Below w.heap.size w w' := by
  have hs := h.small
  go_enter Try.func45, Try.ntmps45
  go_wp2
  go_loopw [13] (fun i wr => ∃ k : Nat, k ≤ n ∧ i = .int .i64 k ∧ Hid (Below w.heap.size w wr)) (fun i _ => n - (intOf i).toNat)
  case atStart => exact ⟨0, by omega, rfl, Below.refl _ _⟩
  case round =>
    obtain ⟨k, hk, rfl, BW⟩ := hrel
    by_cases hlt : k < n
    · obtain ⟨b, off, rfl, hbl, hc⟩ := (h.below BW.out).at hlt
      obtain ⟨b', off', rfl, hbl', hc'⟩ := (h'.below BW.out).at hlt
      have hlti : (k : Int) < (n : Int) := by omega
      go_wp2
      go_quiet (fail)
      go_wp2
      go_roundw
      case rel => exact ⟨k + 1, by omega, by go_num, (show Hid _ from below_drewN BW.out _)⟩
      case measure => simp [intOf]; omega
    · obtain rfl : k = n := by omega
      go_wp2
      go_ret
      exact ⟨rfl, BW.out⟩
set_option maxHeartbeats 4000000 in
theorem s_choices (b B K : Nat) (w : World) (h : Cur w b B K) (hK : K ≤ 100000000) :
    Calls Try.prog 101 #[.pointer (some ⟨b, 0, none⟩)] w fun e w' => ∃ r n c xs, e = .returned (.slice r n c) ∧ Mine w' w.heap.size r n c xs ∧ n ≤ 100 ∧ Cur w' b B (K + 40) ∧ Bex b w w' := by
  have hbl := h.lt
  go_enter Try.func101, Try.ntmps101
  go_wp2_with fail
  refine (s_pick b B K 8 _ h (by omega) (by omega)).mono ?_; rintro e w0 ⟨k0, rfl, hk1, hk2, hC0, hX0⟩
  have hk8 : k0 ≤ 7 := by omega
  have HC0 := Lib.hid hC0; have HX0 := Lib.hid hX0
  have hz0 := hX0.size
  clear h hC0 hX0
  go_wp2
  go_loopw [3, 4] (fun v i W => ∃ k : Nat, k ≤ k0 ∧ i = .int .i64 ((k0 : Int) - k) ∧ Hid (∃ xs, W.ownsRow w.heap.size 3 1 v k (ivs xs) ∧ ∀ x ∈ xs, Fits x) ∧ Hid (Cur W b B (K + 2 + 2 * k)) ∧ Hid (Bex b w W)) (fun _ i _ => (intOf i).toNat)
  case atStart => exact ⟨0, by omega, by simp, ⟨[], World.ownsRow_nil _ _ _ _, by simp⟩, HC0, HX0⟩
  case round =>
    clear HC0 HX0 hz0
    obtain ⟨k, hk, rfl, HO, HC, HX⟩ := hrel
    by_cases hlt : k < k0
    · have hpos : (0 : Int) < (k0 : Int) - k := by omega
      have e1 : IntKind.i64.wrap ((k0 : Int) - k - 1) = (k0 : Int) - k - 1 := IntWalk.i64_in _ (by omega)
      have hzr := HX.out.size
      go_wp2_with fail
      refine (s_pick b B (K + 2 + 2 * k) 2 _ HC.out (by omega) (by omega)).mono ?_; rintro e w1 ⟨x, rfl, hx1, hx2, hC1, hX1⟩
      obtain ⟨xs, ho, hf⟩ := HO.out
      have HO1 := Lib.hid (ownsRow_bex ho hX1 hbl); have HF := Lib.hid hf; clear ho hf HO HC
      have HC1 := Lib.hid hC1; have HX1 := Lib.hid (HX.out.trans hX1); clear hC1 hX1 HX
      have hz1 := HX1.out.size
      go_wp2_with (at_builtin; refine wp_app w1 w.heap.size k _ xs x _ _ rfl _ _ rfl rfl rfl (by first | rfl | simp) HO1.out (by omega) (by omega) ?_; intro v9 w9 hv9 hb9 hg9)
      clear hg9
      go_roundw
      case rel => exact ⟨k + 1, by omega, by first | go_num | (simp; omega), (show Hid _ from ⟨_, hv9, fits_snoc HF.out (by unfold Fits; omega)⟩), (show Hid _ from (HC1.out.onC hb9 hbl).more (by omega)), (show Hid _ from HX1.out.thenC hb9)⟩
      case measure => simp [intOf]; omega
    · obtain rfl : k = k0 := by omega
      obtain ⟨xs, ho, hf⟩ := HO.out
      have hzr := HX.out.size
      go_wp2_with fail
      refine (s_pick b B (K + 2 + 2 * k) 20 _ HC.out (by omega) (by omega)).mono ?_; rintro e w1 ⟨j, rfl, hj1, hj2, hC1, hX1⟩
      have ho1 := ownsRow_bex ho hX1 hbl
      have HX1 := HX.out.trans hX1
      have hz1 := HX1.size
      clear HO HC HX hX1 ho
      have hor : j = 0 ∨ j = 1 ∨ 2 ≤ j := by omega
      rcases hor with rfl | rfl | hj
      · obtain ⟨hCa, hIa, hOa, hXa⟩ := among_lit (w := w1) (t := 3) [-1, 2] hC1 rfl rfl (by simp) (by intro x hx; simp at hx; unfold Fits; omega)
        have ho2 := ownsRow_bex ho1 hXa hbl
        go_wp2_with fail
        refine (s_among b B _ _ 2 2 [-1, 2] _ hCa (by omega) hIa (by omega) (by omega) hOa).mono ?_; rintro e w2 ⟨x, rfl, hx, hC2, hX2⟩
        have HO3 := Lib.hid (ownsRow_bex ho2 hX2 hbl)
        have HX3 := Lib.hid ((HX1.trans hXa).trans hX2)
        have HC3 := Lib.hid hC2
        have hfx : Fits x := by simp at hx; unfold Fits; omega
        have hz2 := HX3.out.size
        have HF := Lib.hid (fits_snoc hf hfx)
        clear ho1 ho2 hCa hIa hOa hXa hX2 HX1 hC1 hC2 hx hf
        go_wp2_with (at_builtin; refine wp_app w2 w.heap.size k _ xs x _ _ rfl _ _ rfl rfl rfl (by first | rfl | simp) HO3.out (by omega) (by omega) ?_; intro v9 w9 hv9 hb9 hg9)
        clear hg9
        obtain ⟨r9, c9, rfl, hM⟩ := Mine.of hv9 (by omega) HF.out
        clear hv9
        go_wp2
        go_ret
        exact ⟨_, _, _, _, rfl, hM, by omega, (HC3.out.onC hb9 hbl).more (by omega), HX3.out.thenC hb9⟩
      · go_wp2_with fail
        refine (s_pick b B _ 2 _ hC1 (by omega) (by omega)).mono ?_; rintro e w2 ⟨j, rfl, hj3, hj4, hC2, hX2⟩
        have HX3 := Lib.hid (HX1.trans hX2)
        have HC3 := Lib.hid hC2
        have hz2 := HX3.out.size
        clear ho1 HX1 hX2 hC1 hC2 hf
        obtain ⟨n, hn, hn100⟩ : ∃ n : Nat, n = 40 + j ∧ n ≤ 100 := ⟨_, rfl, by omega⟩
        have e3 : IntKind.i64.wrap (40 + (j : Int)) = (n : Int) := by rw [IntWalk.i64_in _ (by omega)]; omega
        clear hn
        obtain ⟨i0, hi, hz0, hz1_, hz2_⟩ := info_parts info_int
        go_wp2_with (at_make; refine wpList_make_full _ rfl _ _ 32 rfl w.heap.size 3 i0 (.int .i64 0) 1 Try.underlying32 hi hz0 hz1_ _ _ _ _ n rfl rfl rfl rfl ?b1 ?b2 ?b3 ?_)
        case b1 => rw [hz2_]; omega
        case b2 => unfold maxLen; omega
        case b3 => exact hz2
        intro w3 hown hgrow
        have hb3 : Below w.heap.size w2 w3 := (Below.refl _ _).grown hgrow hz2 (fun k hk => by cases hk)
        try simp only [Nat.mul_one, Value.cells] at hown
        rw [made_ivs] at hown
        obtain ⟨a', cap', hv, ho⟩ := Mine.of hown (by omega) (fun x hx => by rw [List.eq_of_mem_replicate hx]; unfold Fits; omega)
        simp only [Value.slice.injEq] at hv
        obtain ⟨rfl, _, rfl⟩ := hv
        have HO := Lib.hid ho
        clear hown hgrow ho hi hz0 hz1_ hz2_
        go_wp2
        go_ret
        exact ⟨_, _, _, _, rfl, HO.out, by omega, (HC3.out.onC hb3 hbl).more (by omega), HX3.out.thenC hb3⟩
      · obtain ⟨r, c, rfl, hI⟩ := Mine.of ho1 (by omega) hf
        have n0 : ¬ (j : Int) = 0 := by omega
        have n1 : ¬ (j : Int) = 1 := by omega
        have HI := Lib.hid hI; clear hI ho1
        go_wp2
        go_ret
        exact ⟨_, _, _, _, rfl, HI.out, by omega, hC1.more (by omega), HX1⟩

end Go.Proofs.Ytklgneaamhjfpaa
