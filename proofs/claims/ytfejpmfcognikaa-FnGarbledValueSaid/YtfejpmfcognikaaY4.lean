/-
  The Draw functions that the law on extended transfers asks.
-/
import Derived.Test.YtfejpmfcognikaaY3
import Derived.Test.YtfejpmfcognikaaDu
namespace Go.Proofs.Ytfejpmfcognikaa
open Go.RowKit
set_option linter.unusedVariables false
set_option linter.unusedSimpArgs false
set_option maxRecDepth 10000

theorem Duo.bexY {b B n1 n2 : Nat} {w w' : World} {v1 v2 : Value} {xs1 xs2 : List Int} (h : Duo w B v1 n1 xs1 v2 n2 xs2) (k : Bex b w w') (hb : b < B) : Duo w' B v1 n1 xs1 v2 n2 xs2 :=
  ⟨ownsRow_bex h.own1 k hb, ownsRow_bex h.own2 k hb, h.dj, Nat.le_trans h.base k.size⟩
theorem fits_snocY {xs : List Int} {x : Int} (h : ∀ y ∈ xs, Fits y) (hx : Fits x) : ∀ y ∈ xs ++ [x], Fits y := by
  intro y hy
  rw [List.mem_append] at hy
  rcases hy with hy | hy
  · exact h y hy
  · simp at hy; rw [hy]; exact hx
set_option maxHeartbeats 4000000 in
theorem s_DrawSentColumns (a : Option Addr) (n cap : Nat) (w : World) (hB : Byts w a n cap) :
    Calls Try.prog 21 #[.slice a n cap] w fun e w' => ∃ (key k : Int) (cr : Option Addr) (cn cc : Nat) (cx : List Int), e = .returned (.tuple #[.int .i64 key, .int .i64 k, .slice cr cn cc]) ∧ Dk key ∧ (0 ≤ k ∧ k ≤ 9) ∧ Ints w' cr cn cc cx ∧ cn ≤ 25 ∧ bitsB cx = true ∧ Below w.heap.size w w' := by
  have hC0 := Cur.new (t := 99) hB hB.und (Nat.le_refl _)
  go_enter Try.func21, Try.ntmps21
  go_wp2_with fail
  refine (s_sized _ _ _ _ hC0 (by omega)).mono ?_; rintro e w1 ⟨key, k, m, rfl, hkey, hk, hm, hC1, hX1⟩
  go_wp2_with fail
  refine (s_bits _ _ _ m _ hC1 (by omega) (by omega)).mono ?_; rintro e w2 ⟨r, c, xs, rfl, hM, hb, hC2, hX2⟩
  have HI := Lib.hid hM.ints; have HB := Lib.hid (bel_new (hX1.trans hX2)); have HK := Lib.hid hkey; have HBB := Lib.hid hb
  have hn : m.toNat ≤ 25 := by omega
  clear hC0 hC1 hC2 hX1 hX2 hM hkey hb
  go_wp2
  go_ret3
  exact ⟨key, k, r, m.toNat, c, xs, rfl, HK.out, hk, HI.out, hn, HBB.out, HB.out⟩
set_option maxHeartbeats 4000000 in
theorem s_DrawReceiverRows (a : Option Addr) (n cap : Nat) (w : World) (hB : Byts w a n cap) :
    Calls Try.prog 30 #[.slice a n cap] w fun e w' => ∃ (key k m : Int), e = .returned (.tuple #[.int .i64 key, .int .i64 k, .int .i64 m]) ∧ Dk key ∧ (0 ≤ k ∧ k ≤ 9) ∧ (-1 ≤ m ∧ m ≤ 25) ∧ Below w.heap.size w w' := by
  have hC0 := Cur.new (t := 99) hB hB.und (Nat.le_refl _)
  go_enter Try.func30, Try.ntmps30
  go_wp2_with fail
  refine (s_sized _ _ _ _ hC0 (by omega)).mono ?_; rintro e w1 ⟨key, k, m, rfl, hkey, hk, hm, hC1, hX1⟩
  have HB := Lib.hid (bel_new hX1); have HK := Lib.hid hkey
  clear hC0 hC1 hX1 hkey
  go_wp2
  go_ret3
  exact ⟨key, k, m, rfl, HK.out, hk, hm, HB.out⟩
set_option maxHeartbeats 4000000 in
theorem s_DrawSeedColumns (a : Option Addr) (n cap : Nat) (w : World) (hB : Byts w a n cap) :
    Calls Try.prog 27 #[.slice a n cap] w fun e w' => ∃ (key k m s : Int), e = .returned (.tuple #[.int .i64 key, .int .i64 k, .int .i64 m, .int .i64 s]) ∧ Dk key ∧ (0 ≤ k ∧ k ≤ 9) ∧ (-1 ≤ m ∧ m ≤ 25) ∧ (0 ≤ s ∧ s ≤ 10) ∧ Below w.heap.size w w' := by
  have hC0 := Cur.new (t := 99) hB hB.und (Nat.le_refl _)
  go_enter Try.func27, Try.ntmps27
  go_wp2_with fail
  refine (s_sized _ _ _ _ hC0 (by omega)).mono ?_; rintro e w1 ⟨key, k, m, rfl, hkey, hk, hm, hC1, hX1⟩
  go_wp2_with fail
  refine (s_pick _ _ _ 2 _ hC1 (by omega) (by omega)).mono ?_; rintro e w2 ⟨r, rfl, hr1, hr2, hC2, hX2⟩
  go_wp2_with fail
  refine (s_pick _ _ _ 24 _ hC2 (by omega) (by omega)).mono ?_; rintro e w3 ⟨s, rfl, hs1, hs2, hC3, hX3⟩
  have HB := Lib.hid (bel_new ((hX1.trans hX2).trans hX3)); have HK := Lib.hid hkey
  clear hC0 hC1 hC2 hC3 hX1 hX2 hX3 hkey
  obtain ⟨t, ht, ht1⟩ : ∃ t : Int, ((s : Int).tdiv 23) = t ∧ 0 ≤ t ∧ t ≤ 1 := ⟨_, rfl, by rw [Int.tdiv_eq_ediv_of_nonneg (by omega)]; omega, by rw [Int.tdiv_eq_ediv_of_nonneg (by omega)]; omega⟩
  have ht' : (s : Int) / 23 = t := by rw [← ht, Int.tdiv_eq_ediv_of_nonneg (by omega)]
  have e1 : IntKind.i64.wrap ((r : Int) + t) = (r : Int) + t := IntWalk.i64_in _ (by omega)
  go_wp2
  exact bodyPost_ret (v := .tuple #[.int .i64 key, .int .i64 k, .int .i64 m, .int .i64 ((r : Int) + t)]) (by simp [results, Try.results27, go_sem]) rfl
    ⟨key, k, m, _, rfl, HK.out, hk, hm, ⟨by omega, by omega⟩, HB.out⟩
set_option maxHeartbeats 4000000 in
theorem s_DrawSenderRows (a : Option Addr) (n cap : Nat) (w : World) (hB : Byts w a n cap) :
    Calls Try.prog 25 #[.slice a n cap] w fun e w' => ∃ (key : Int) (sr : Option Addr) (sn sc : Nat) (sx : List Int) (lr : Option Addr) (ln lc : Nat) (lx : List (List Int)), e = .returned (.tuple #[.int .i64 key, .slice sr sn sc, .slice lr ln lc]) ∧ Dk key ∧ Ints w' sr sn sc sx ∧ sn ≤ 9 ∧ Rws w' lr ln lc lx ∧ ln ≤ 10 ∧ Below w.heap.size w w' := by
  have hC0 := Cur.new (t := 99) hB hB.und (Nat.le_refl _)
  go_enter Try.func25, Try.ntmps25
  go_wp2_with fail
  refine (s_extended _ _ _ _ hC0 (by omega)).mono ?_; rintro e w1 ⟨key, sr, sn, sc, sx, cr, cn, cc, cx, lr, ln, lc, lx, rfl, hkey, hS, hsn, bS, hC, hcn, bC, hL, hln, hC1, hX1⟩
  have HB := Lib.hid (bel_new hX1); have HK := Lib.hid hkey; have HS := Lib.hid hS.ints; have HL := Lib.hid hL.rows
  clear hC0 hC1 hX1 hkey hS hC hL bS bC
  go_wp2
  go_ret3
  exact ⟨key, sr, sn, sc, sx, lr, ln, lc, lx, rfl, HK.out, HS.out, hsn, HL.out, hln, HB.out⟩
set_option maxHeartbeats 8000000 in
theorem s_DrawHideMessages (a : Option Addr) (n cap : Nat) (w : World) (hB : Byts w a n cap) :
    Calls Try.prog 32 #[.slice a n cap] w fun e w' => ∃ (sr : Option Addr) (sn sc : Nat) (sx : List Int) (qr : Option Addr) (qn qc : Nat) (qx : List (List Int)) (zr : Option Addr) (zn zc : Nat) (zx : List Int) (or : Option Addr) (on oc : Nat) (ox : List Int),
      e = .returned (.tuple #[.slice sr sn sc, .slice qr qn qc, .slice zr zn zc, .slice or on oc]) ∧ Ints w' sr sn sc sx ∧ sn ≤ 9 ∧ Rws w' qr qn qc qx ∧ qn ≤ 30 ∧ Ints w' zr zn zc zx ∧ zn ≤ 40 ∧ Ints w' or on oc ox ∧ on ≤ 40 ∧ Below w.heap.size w w' := by
  have hC0 := Cur.new (t := 99) hB hB.und (Nat.le_refl _)
  have hs0 : (w.alloc (.cells #[.slice a n cap, .int .i64 0, .int .u64 0] 99)).heap.size = w.heap.size + 1 := by simp
  go_enter Try.func32, Try.ntmps32
  go_wp2_with fail
  refine (s_matched _ _ _ _ hC0 (by omega)).mono ?_; rintro e w1 ⟨sr, sn, sc, sx, cr, cn, cc, cx, qr, qn, qc, qx, tr, tn, tc, tx, rfl, hS, hsn, hC, hcn, hQ, hqn, hT, htn, hC1, hX1⟩
  have z1 := hX1.size
  rw [hs0] at z1 hS hQ
  have HS := Lib.hid hS; have HQ := Lib.hid hQ; have HB := Lib.hid (bel_new hX1); have HC := Lib.hid (hC1.more (K' := 100000) (by omega))
  clear hS hC hQ hT hC1 hX1 hC0 hs0
  have hbl : w.heap.size < w1.heap.size := by omega
  go_wp2
  go_loopw [11, 12, 25] (fun v1 v2 i W => ∃ j : Nat, j ≤ qn ∧ i = .int .i64 j ∧ Hid (∃ xs ys, Duo W w1.heap.size v1 j xs v2 j ys ∧ (∀ x ∈ xs, Fits x) ∧ ∀ y ∈ ys, Fits y) ∧ Hid (Cur W w.heap.size w.heap.size (100000 + 20 * j)) ∧ Hid (Bex w.heap.size w1 W)) (fun _ _ i _ => qn - (intOf i).toNat)
  case atStart => exact ⟨0, by omega, rfl, ⟨[], [], Duo.nil (Nat.le_refl _), by simp, by simp⟩, HC, Bex.refl _ _⟩
  case round =>
    clear HC
    obtain ⟨j, hj, rfl, HD, HC, HX⟩ := hrel
    have hzr := HX.out.size
    by_cases hlt : j < qn
    · have hlti : (j : Int) < (qn : Int) := by omega
      obtain ⟨xs, ys, hd, fx, fy⟩ := HD.out
      go_wp2_with fail
      refine (s_label _ _ _ _ HC.out (by omega)).mono ?_; rintro e w2 ⟨x, rfl, hx, hC2, hX2⟩
      have HD2 := Lib.hid (hd.bexY hX2 hbl); have HX2 := Lib.hid (HX.out.trans hX2); have HC2 := Lib.hid hC2; have HF := Lib.hid (And.intro (fits_snocY fx (show Fits x by unfold Fits; omega)) fy)
      clear hd HD HC HX hX2 hC2 fx fy
      go_wp2_with (at_builtin; refine wp_duo w2 _ w1.heap.size j xs _ j ys x _ _ rfl _ _ rfl rfl rfl (by first | rfl | simp) HD2.out (by omega) ?_; intro v3 w3 hd3 hb3; have HC3 := Lib.hid (HC2.out.onY hb3 hbl); have HX3 := Lib.hid (HX2.out.thenY hb3); have HD3 := Lib.hid hd3; clear hd3 hb3 HD2 HC2 HX2)
      refine (s_label _ _ _ _ HC3.out (by omega)).mono ?_; rintro e w4 ⟨y, rfl, hy, hC4, hX4⟩
      have HD4 := Lib.hid (HD3.out.bexY hX4 hbl); have HX4 := Lib.hid (HX3.out.trans hX4); have HC4 := Lib.hid hC4; have HG := Lib.hid (And.intro HF.out.1 (fits_snocY HF.out.2 (show Fits y by unfold Fits; omega)))
      clear HD3 HC3 HX3 hX4 hC4 HF
      go_wp2_with (at_builtin; refine wp_duo2 w4 _ w1.heap.size (j + 1) (xs ++ [x]) _ j ys y _ _ rfl _ _ rfl rfl rfl (by first | rfl | simp) HD4.out (by omega) ?_; intro v5 w5 hd5 hb5; have HC5 := Lib.hid (HC4.out.onY hb5 hbl); have HX5 := Lib.hid (HX4.out.thenY hb5); have HD5 := Lib.hid hd5; clear hd5 hb5 HD4 HC4 HX4)
      go_roundw
      case rel => exact ⟨j + 1, by omega, by go_num, ⟨_, _, HD5.out, HG.out.1, HG.out.2⟩, (show Hid _ from HC5.out.more (by omega)), HX5⟩
      case measure => simp [intOf]; omega
    · obtain rfl : j = qn := by omega
      have hlti : ¬ (j : Int) < (j : Int) := by omega
      obtain ⟨xs, ys, hd, fx, fy⟩ := HD.out
      go_wp2_with fail
      refine (s_one _ _ _ 24 _ HC.out (by omega) (by omega)).mono ?_; rintro e w2 ⟨q, rfl, hC2, hX2⟩
      have HD2 := Lib.hid (hd.bexY hX2 hbl); have HX2 := Lib.hid (HX.out.trans hX2); have HF := Lib.hid (And.intro fx fy)
      clear hd HD HC HX hX2 hC2 fx fy
      cases q with
      | false =>
        obtain ⟨r1, c1, rfl, m1⟩ := Mine.of HD2.out.own1 (by omega) HF.out.1
        obtain ⟨r2, c2, rfl, m2⟩ := Mine.of HD2.out.own2 (by omega) HF.out.2
        have HR := Lib.hid (And.intro (HS.out.bex HX2.out (by omega)).ints (And.intro (HQ.out.bex HX2.out (by omega)).rows (And.intro m1.ints (And.intro m2.ints (Below.bex HB.out HX2.out (Nat.le_refl _) (by omega))))))
        clear m1 m2 HD2 HX2 HS HQ HB HF
        go_wp2
        exact bodyPost_ret (v := .tuple #[.slice sr sn sc, .slice qr j qc, .slice r1 j c1, .slice r2 j c2]) (by simp [results, Try.results32, go_sem]) rfl
          ⟨sr, sn, sc, sx, qr, j, qc, qx, r1, j, c1, xs, r2, j, c2, ys, rfl, HR.out.1, hsn, HR.out.2.1, hqn, HR.out.2.2.1, by omega, HR.out.2.2.2.1, by omega, HR.out.2.2.2.2⟩
      | true =>
        go_wp2_with (at_builtin; refine wp_duo2 w2 _ w1.heap.size j xs _ j ys 0 _ _ rfl _ _ rfl rfl rfl (by first | rfl | simp) HD2.out (by omega) ?_; intro v5 w5 hd5 hb5; have HX5 := Lib.hid (HX2.out.thenY hb5); have HD5 := Lib.hid hd5; clear hd5 hb5 HD2 HX2; obtain ⟨r1, c1, e1_, m1⟩ := Mine.of HD5.out.own1 (by omega) HF.out.1; subst e1_; obtain ⟨r2, c2, rfl, m2⟩ := Mine.of HD5.out.own2 (by omega) (fits_snocY HF.out.2 (show Fits 0 by unfold Fits; omega)); have HR := Lib.hid (And.intro (HS.out.bex HX5.out (by omega)).ints (And.intro (HQ.out.bex HX5.out (by omega)).rows (And.intro m1.ints (And.intro m2.ints (Below.bex HB.out HX5.out (Nat.le_refl _) (by omega)))))); clear m1 m2 HD5 HX5 HS HQ HB HF)
        exact bodyPost_ret (v := .tuple #[.slice sr sn sc, .slice qr j qc, .slice r1 j c1, .slice r2 (j + 1) c2]) (by simp [results, Try.results32, go_sem]) rfl
          ⟨sr, sn, sc, sx, qr, j, qc, qx, r1, j, c1, xs, r2, j + 1, c2, _, rfl, HR.out.1, hsn, HR.out.2.1, hqn, HR.out.2.2.1, by omega, HR.out.2.2.2.1, by omega, HR.out.2.2.2.2⟩
end Go.Proofs.Ytfejpmfcognikaa
