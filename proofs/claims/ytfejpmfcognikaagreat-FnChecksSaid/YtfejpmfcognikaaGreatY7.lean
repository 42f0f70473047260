/-
  The Draw functions that the law on checks asks.
-/
import Derived.Test.YtfejpmfcognikaaGreatY4
namespace Go.Proofs.YtfejpmfcognikaaGreat
open Go.RowKit
set_option linter.unusedVariables false
set_option linter.unusedSimpArgs false
set_option maxRecDepth 10000

theorem lit2_mineY {w : World} {x y : Int} (t : TypeId) (hx : Fits x) (hy : Fits y) : Mine (w.alloc (.cells #[.int .i64 x, .int .i64 y] t)) w.heap.size (some ⟨w.heap.size, 0, none⟩) 2 2 [x, y] := by
  refine ⟨Ints.lit2 rfl hx hy, fun _ b off e => ?_, fun i hi b off e => ?_⟩
  · simp only [Option.some.injEq, Addr.mk.injEq] at e
    obtain ⟨rfl, _, _⟩ := e
    exact ⟨Nat.le_refl _, by simp⟩
  · simp only [Option.some.injEq, Addr.mk.injEq] at e
    obtain ⟨rfl, rfl, _⟩ := e
    exact World.frozen?_alloc_at _ _ _ _ rfl
theorem lit1_mineY {w : World} {x : Int} (t : TypeId) (hx : Fits x) : Mine (w.alloc (.cells #[.int .i64 x] t)) w.heap.size (some ⟨w.heap.size, 0, none⟩) 1 1 [x] := by
  refine ⟨Ints.lit [x] _ t rfl rfl (by simp) (by simp [hx]), fun _ b off e => ?_, fun i hi b off e => ?_⟩
  · simp only [Option.some.injEq, Addr.mk.injEq] at e
    obtain ⟨rfl, _, _⟩ := e
    exact ⟨Nat.le_refl _, by simp⟩
  · simp only [Option.some.injEq, Addr.mk.injEq] at e
    obtain ⟨rfl, rfl, _⟩ := e
    exact World.frozen?_alloc_at _ _ _ _ rfl
set_option maxHeartbeats 4000000 in
theorem s_DrawCheckRows (a : Option Addr) (n cap : Nat) (w : World) (hB : Byts w a n cap) :
    Calls Tryz.prog 18 #[.slice a n cap] w fun e w' => ∃ (lr : Option Addr) (ln lc : Nat) (lx : List (List Int)) (qr : Option Addr) (qn qc : Nat) (qx : List (List Int)), e = .returned (.tuple #[.slice lr ln lc, .slice qr qn qc]) ∧ Rws w' lr ln lc lx ∧ ln ≤ 20 ∧ Rws w' qr qn qc qx ∧ qn ≤ 30 ∧ Below w.heap.size w w' := by
  have hC0 := Cur.new (t := 53) hB hB.und (Nat.le_refl _)
  have hs0 : (w.alloc (.cells #[.slice a n cap, .int .i64 0, .int .u64 0] 53)).heap.size = w.heap.size + 1 := by simp
  go_enter Tryz.func18, Tryz.ntmps18
  go_wp2_with fail
  refine (s_matched _ _ _ _ hC0 (by omega)).mono ?_; rintro e w1 ⟨sr, sn, sc, sx, cr, cn, cc, cx, qr, qn, qc, qx, tr, tn, tc, tx, rfl, hS, hsn, hC, hcn, hQ, hqn, hT, htn, hC1, hX1⟩
  have z1 := hX1.size
  rw [hs0] at z1 hQ
  go_wp2_with fail
  refine (s_weightLists _ _ _ (qn : Int) _ hC1 (by omega) (by omega)).mono ?_; rintro e w2 ⟨lr, ln, lc, lx, rfl, hL, hln, hC2, hX2⟩
  have HR := Lib.hid (And.intro hL.rows (And.intro (hQ.bex hX2 (by omega)).rows (bel_new (hX1.trans hX2))))
  clear hC0 hC1 hC2 hX1 hX2 hL hQ hS hC hT hs0
  go_wp2
  go_ret2
  exact ⟨lr, ln, lc, lx, qr, qn, qc, qx, rfl, HR.out.1, hln, HR.out.2.1, hqn, HR.out.2.2⟩
set_option maxHeartbeats 4000000 in
theorem s_DrawCheckPasses (a : Option Addr) (n cap : Nat) (w : World) (hB : Byts w a n cap) :
    Calls Tryz.prog 9 #[.slice a n cap] w fun e w' => ∃ (sr : Option Addr) (sn sc : Nat) (sx : List Int) (lr : Option Addr) (ln lc : Nat) (lx : List (List Int)) (cr : Option Addr) (cn cc : Nat) (cx : List Int) (tr : Option Addr) (tn tc : Nat) (tx : List (List Int)) (qr : Option Addr) (qn qc : Nat) (qx : List (List Int)),
      e = .returned (.tuple #[.slice sr sn sc, .slice lr ln lc, .slice cr cn cc, .slice tr tn tc, .slice qr qn qc]) ∧ Ints w' sr sn sc sx ∧ sn ≤ 9 ∧ Rws w' lr ln lc lx ∧ ln ≤ 20 ∧ Ints w' cr cn cc cx ∧ cn ≤ 25 ∧ Rws w' tr tn tc tx ∧ tn ≤ 30 ∧ Rws w' qr qn qc qx ∧ qn ≤ 30 ∧ Below w.heap.size w w' := by
  have hC0 := Cur.new (t := 53) hB hB.und (Nat.le_refl _)
  have hs0 : (w.alloc (.cells #[.slice a n cap, .int .i64 0, .int .u64 0] 53)).heap.size = w.heap.size + 1 := by simp
  go_enter Tryz.func9, Tryz.ntmps9
  go_wp2_with fail
  refine (s_matched _ _ _ _ hC0 (by omega)).mono ?_; rintro e w1 ⟨sr, sn, sc, sx, cr, cn, cc, cx, qr, qn, qc, qx, tr, tn, tc, tx, rfl, hS, hsn, hC, hcn, hQ, hqn, hT, htn, hC1, hX1⟩
  have z1 := hX1.size
  rw [hs0] at z1 hQ hT hS hC
  go_wp2_with fail
  refine (s_weightLists _ _ _ (cn : Int) _ hC1 (by omega) (by omega)).mono ?_; rintro e w2 ⟨lr, ln, lc, lx, rfl, hL, hln, hC2, hX2⟩
  have HR := Lib.hid (And.intro hL.rows (And.intro (hQ.bex hX2 (by omega)).rows (And.intro (hT.bex hX2 (by omega)).rows (And.intro (hS.bex hX2 (by omega)).ints (And.intro (hC.bex hX2 (by omega)).ints (bel_new (hX1.trans hX2)))))))
  clear hC0 hC1 hC2 hX1 hX2 hL hQ hS hC hT hs0
  go_wp2
  exact bodyPost_ret (v := .tuple #[.slice sr sn sc, .slice lr ln lc, .slice cr cn cc, .slice tr tn tc, .slice qr qn qc]) (by simp [results, Tryz.results9, go_sem]) rfl
    ⟨sr, sn, sc, sx, lr, ln, lc, lx, cr, cn, cc, cx, tr, tn, tc, tx, qr, qn, qc, qx, rfl, HR.out.2.2.2.1, hsn, HR.out.1, hln, HR.out.2.2.2.2.1, hcn, HR.out.2.2.1, htn, HR.out.2.1, hqn, HR.out.2.2.2.2.2⟩
set_option maxHeartbeats 4000000 in
theorem s_DrawBendColumns (a : Option Addr) (n cap : Nat) (w : World) (hB : Byts w a n cap) :
    Calls Tryz.prog 14 #[.slice a n cap] w fun e w' => ∃ (lr : Option Addr) (ln lc : Nat) (lx : List (List Int)) (i : Int) (mr : Option Addr) (mn mc : Nat) (mx : List Int), e = .returned (.tuple #[.slice lr ln lc, .int .i64 i, .slice mr mn mc]) ∧ Rws w' lr ln lc lx ∧ ln ≤ 10 ∧ (-10 ≤ i ∧ i ≤ 100000) ∧ Ints w' mr mn mc mx ∧ mn ≤ 30 ∧ Below w.heap.size w w' := by
  have hC0 := Cur.new (t := 53) hB hB.und (Nat.le_refl _)
  have hs0 : (w.alloc (.cells #[.slice a n cap, .int .i64 0, .int .u64 0] 53)).heap.size = w.heap.size + 1 := by simp
  go_enter Tryz.func14, Tryz.ntmps14
  go_wp2_with fail
  refine (s_extended _ _ _ _ hC0 (by omega)).mono ?_; rintro e w1 ⟨key, sr, sn, sc, sx, cr, cn, cc, cx, lr, ln, lc, lx, rfl, hkey, hS, hsn, bS, hC, hcn, bC, hL, hln, hC1, hX1⟩
  have z1 := hX1.size
  rw [hs0] at z1 hL
  have e1 : IntKind.i64.wrap ((ln : Int) + 1) = (ln : Int) + 1 := IntWalk.i64_in _ (by omega)
  go_wp2_with fail
  refine (s_pick _ _ _ ((ln : Int) + 1) _ hC1 (by omega) (by omega)).mono ?_; rintro e w2 ⟨r, rfl, hr1, hr2, hC2, hX2⟩
  go_wp2_with fail
  refine (s_pick _ _ _ 24 _ hC2 (by omega) (by omega)).mono ?_; rintro e w3 ⟨s, rfl, hs1, hs2, hC3, hX3⟩
  obtain ⟨t, ht, ht1⟩ : ∃ t : Int, ((s : Int).tdiv 23) = t ∧ 0 ≤ t ∧ t ≤ 1 := ⟨_, rfl, by rw [Int.tdiv_eq_ediv_of_nonneg (by omega)]; omega, by rw [Int.tdiv_eq_ediv_of_nonneg (by omega)]; omega⟩
  have ht' : (s : Int) / 23 = t := by rw [← ht, Int.tdiv_eq_ediv_of_nonneg (by omega)]
  have e2 : IntKind.i64.wrap ((r : Int) - t) = (r : Int) - t := IntWalk.i64_in _ (by omega)
  go_wp2_with fail
  refine (s_bits _ _ _ (cn : Int) _ hC3 (by omega) (by omega)).mono ?_; rintro e w4 ⟨mr, mc, mx, rfl, hM, bM, hC4, hX4⟩
  rw [Int.toNat_natCast] at hM ⊢
  have HR := Lib.hid (And.intro (hL.bex ((hX2.trans hX3).trans hX4) (by omega)).rows (And.intro hM.ints (bel_new (hX1.trans ((hX2.trans hX3).trans hX4)))))
  clear hC0 hC1 hC2 hC3 hC4 hX1 hX2 hX3 hX4 hL hM hS hC hs0 bS bC bM hkey
  go_wp2
  go_ret3
  exact ⟨lr, ln, lc, lx, _, mr, cn, mc, mx, rfl, HR.out.1, hln, ⟨by omega, by omega⟩, HR.out.2.1, by omega, HR.out.2.2⟩
set_option maxHeartbeats 8000000 in
theorem s_DrawTakeMessages (a : Option Addr) (n cap : Nat) (w : World) (hB : Byts w a n cap) :
    Calls Tryz.prog 21 #[.slice a n cap] w fun e w' => ∃ (cr : Option Addr) (cn cc : Nat) (cx : List Int) (tr : Option Addr) (tn tc : Nat) (tx : List (List Int)) (lr : Option Addr) (ln lc : Nat) (lx : List (List Int)), e = .returned (.tuple #[.slice cr cn cc, .slice tr tn tc, .slice lr ln lc]) ∧ Ints w' cr cn cc cx ∧ cn ≤ 25 ∧ Rws w' tr tn tc tx ∧ tn ≤ 30 ∧ Rws w' lr ln lc lx ∧ ln ≤ 40 ∧ Below w.heap.size w w' := by
  have hC0 := Cur.new (t := 53) hB hB.und (Nat.le_refl _)
  have hs0 : (w.alloc (.cells #[.slice a n cap, .int .i64 0, .int .u64 0] 53)).heap.size = w.heap.size + 1 := by simp
  go_enter Tryz.func21, Tryz.ntmps21
  go_wp2_with fail
  refine (s_matched _ _ _ _ hC0 (by omega)).mono ?_; rintro e w1 ⟨sr, sn, sc, sx, cr, cn, cc, cx, qr, qn, qc, qx, tr, tn, tc, tx, rfl, hS, hsn, hC, hcn, hQ, hqn, hT, htn, hC1, hX1⟩
  have z1 := hX1.size
  rw [hs0] at z1 hC hT
  have HS := Lib.hid hC; have HT := Lib.hid hT; have HB := Lib.hid (bel_new hX1); have HC := Lib.hid (hC1.more (K' := 100000) (by omega))
  clear hS hC hQ hT hC1 hX1 hC0 hs0
  have hbl : w.heap.size < w1.heap.size := by omega
  go_wp2
  go_loopw [10, 23] (fun v i W => ∃ j : Nat, j ≤ tn ∧ i = .int .i64 j ∧ Hid (∃ xs, RDuo W w1.heap.size v j xs (.slice none 0 0) 0 []) ∧ Hid (Cur W w.heap.size w.heap.size (100000 + 20 * j)) ∧ Hid (Bex w.heap.size w1 W)) (fun _ i _ => tn - (intOf i).toNat)
  case atStart => exact ⟨0, by omega, rfl, ⟨[], RDuo.nil (Nat.le_refl _)⟩, HC, Bex.refl _ _⟩
  case round =>
    clear HC
    obtain ⟨j, hj, rfl, HD, HC, HX⟩ := hrel
    have hzr := HX.out.size
    by_cases hlt : j < tn
    · have hlti : (j : Int) < (tn : Int) := by omega
      obtain ⟨xs, hd⟩ := HD.out
      go_wp2_with fail
      refine (s_label _ _ _ _ HC.out (by omega)).mono ?_; rintro e w2 ⟨x, rfl, hx, hC2, hX2⟩
      go_wp2_with fail
      refine (s_label _ _ _ _ hC2 (by omega)).mono ?_; rintro e w3 ⟨y, rfl, hy, hC3, hX3⟩
      have fx : Fits x := by unfold Fits; omega
      have fy : Fits y := by unfold Fits; omega
      have hd3 := hd.bex (hX2.trans hX3) hbl
      have A3 := bel_alloc w3 (.cells #[.int .i64 x, .int .i64 y] 3)
      have M3 : Mine (w3.alloc (.cells #[.int .i64 x, .int .i64 y] 3)) w3.heap.size (some ⟨w3.heap.size, 0, none⟩) 2 2 [x, y] := lit2_mineY 3 fx fy
      have HD4 := Lib.hid (hd3.bex (Bex.of A3) hbl)
      have fr := hd3.fresh M3
      have HM := Lib.hid M3.ints
      have HX4 := Lib.hid ((HX.out.trans (hX2.trans hX3)).trans (Bex.of A3)); have HC4 := Lib.hid (hC3.below A3)
      clear hd hd3 HD HC HX hX2 hX3 hC2 hC3 M3 A3
      go_wp2_with (at_builtin; refine wp_rduo (w3.alloc (.cells #[.int .i64 x, .int .i64 y] 3)) w1.heap.size j _ xs _ 0 [] (some ⟨w3.heap.size, 0, none⟩) 2 2 [x, y] _ _ rfl _ _ rfl rfl rfl (by first | rfl | simp) HD4.out HM.out fr (by omega) (by omega) ?_; intro v5 w5 hd5 hb5; have HC5 := Lib.hid (HC4.out.onY hb5 hbl); have HX5 := Lib.hid (HX4.out.thenY hb5); have HD5 := Lib.hid hd5; clear hd5 hb5 HD4 HC4 HX4 HM fr)
      go_roundw
      case rel => exact ⟨j + 1, by omega, by go_num, ⟨_, HD5.out⟩, (show Hid _ from HC5.out.more (by omega)), HX5⟩
      case measure => simp [intOf]; omega
    · obtain rfl : j = tn := by omega
      have hlti : ¬ (j : Int) < (j : Int) := by omega
      obtain ⟨xs, hd⟩ := HD.out
      obtain ⟨a0_, c0_, rfl⟩ := hd.one.val
      go_wp2_with fail
      refine (s_pick _ _ _ 24 _ HC.out (by omega) (by omega)).mono ?_; rintro e w2 ⟨q, rfl, hq1, hq2, hC2, hX2⟩
      have HD2 := Lib.hid (hd.bex hX2 hbl); have HX2 := Lib.hid (HX.out.trans hX2)
      clear hd HD HC HX hX2 hC2
      have hor : q = 0 ∨ q = 1 ∨ 2 ≤ q := by omega
      rcases hor with rfl | rfl | hq
      · have A3 := bel_alloc w2 (.cells #[.int .i64 1, .int .i64 2] 3)
        have M3 : Mine (w2.alloc (.cells #[.int .i64 1, .int .i64 2] 3)) w2.heap.size (some ⟨w2.heap.size, 0, none⟩) 2 2 [1, 2] := lit2_mineY 3 (by unfold Fits; omega) (by unfold Fits; omega)
        have HD4 := Lib.hid (HD2.out.bex (Bex.of A3) hbl)
        have fr := HD2.out.fresh M3
        have HM := Lib.hid M3.ints
        have HX4 := Lib.hid (HX2.out.trans (Bex.of A3))
        clear HD2 HX2 M3 A3
        go_wp2_with (at_builtin; refine wp_rduo (w2.alloc (.cells #[.int .i64 1, .int .i64 2] 3)) w1.heap.size j _ xs _ 0 [] (some ⟨w2.heap.size, 0, none⟩) 2 2 [1, 2] _ _ rfl _ _ rfl rfl rfl (by first | rfl | simp) HD4.out HM.out fr (by omega) (by omega) ?_; intro v5 w5 hd5 hb5; have HX5 := Lib.hid (HX4.out.thenY hb5); obtain ⟨a5, c5, rfl, hR⟩ := hd5.one.rwp (by omega); have HR := Lib.hid (And.intro (HS.out.bex HX5.out (by omega)).ints (And.intro (HT.out.bex HX5.out (by omega)).rows (And.intro hR.rows (Below.bex HB.out HX5.out (Nat.le_refl _) (by omega))))); clear hd5 hb5 hR HX5 HD4 HX4 HM fr HS HT HB)
        go_ret3
        exact ⟨cr, cn, cc, cx, tr, j, tc, tx, _, _, _, _, rfl, HR.out.1, hcn, HR.out.2.1, htn, HR.out.2.2.1, by omega, HR.out.2.2.2⟩
      · by_cases hj0 : 0 < j
        · have hji : (0 : Int) < (j : Int) := by omega
          obtain ⟨g, rfl, hg1, hg2⟩ := HD2.out.one.shapeY hj0
          obtain ⟨r1, m1, c1, k0, f0, hI1⟩ := HD2.out.one.row hj0
          have A3 := bel_alloc w2 (.cells #[.int .i64 1] 3)
          have M3 : Mine (w2.alloc (.cells #[.int .i64 1] 3)) w2.heap.size (some ⟨w2.heap.size, 0, none⟩) 1 1 [1] := lit1_mineY 3 (by unfold Fits; omega)
          have k3 := cell_on k0 A3
          have f3 := (A3.frozen (p := ⟨g, 0, none⟩) hg2).trans f0
          have hRG := RG.putY (HD2.out.one.below A3) hj0 M3.ints (fun h0 g' o e => by have p := M3.pl h0 g' o e; exact ⟨by omega, (fun q => by simp only [Value.ownBlock, Option.some.injEq] at q; omega), by simp [Value.ownBlock]⟩)
          obtain ⟨a', c', e', hR⟩ := hRG.rwp (by omega)
          simp only [Value.slice.injEq] at e'
          obtain ⟨rfl, _, rfl⟩ := e'
          have hX4 := (HX2.out.trans (Bex.of A3)).storeY (p := ⟨g, 0, none⟩) hg1 (.slice (some ⟨w2.heap.size, 0, none⟩) 1 1)
          have hr0 := (And.intro (HS.out.bex hX4 (by omega)).ints (And.intro (HT.out.bex hX4 (by omega)).rows (And.intro hR.rows (Below.bex HB.out hX4 (Nat.le_refl _) (by omega)))))
          rw [Go.World.setCell_alloc_past _ _ _ _ hg2] at hr0
          have HR := Lib.hid hr0
          clear HD2 HX2 M3 A3 hRG hR hX4 HS HT HB hI1 k0 f0 hr0
          go_wp2
          go_ret3
          exact ⟨cr, cn, cc, cx, tr, j, tc, tx, _, _, _, _, rfl, HR.out.1, hcn, HR.out.2.1, htn, HR.out.2.2.1, by omega, HR.out.2.2.2⟩
        · have hji : ¬ (0 : Int) < (j : Int) := by omega
          obtain ⟨a', c', e', hR⟩ := HD2.out.one.rwp (by omega)
          simp only [Value.slice.injEq] at e'
          obtain ⟨rfl, _, rfl⟩ := e'
          have HR := Lib.hid (And.intro (HS.out.bex HX2.out (by omega)).ints (And.intro (HT.out.bex HX2.out (by omega)).rows (And.intro hR.rows (Below.bex HB.out HX2.out (Nat.le_refl _) (by omega)))))
          clear HD2 HX2 hR HS HT HB
          go_wp2
          go_ret3
          exact ⟨cr, cn, cc, cx, tr, j, tc, tx, _, _, _, _, rfl, HR.out.1, hcn, HR.out.2.1, htn, HR.out.2.2.1, by omega, HR.out.2.2.2⟩
      · have hjz : ((q : Int) == 0) = false := by simp; omega
        have hjo : ((q : Int) == 1) = false := by simp; omega
        obtain ⟨a', c', e', hR⟩ := HD2.out.one.rwp (by omega)
        simp only [Value.slice.injEq] at e'
        obtain ⟨rfl, _, rfl⟩ := e'
        have HR := Lib.hid (And.intro (HS.out.bex HX2.out (by omega)).ints (And.intro (HT.out.bex HX2.out (by omega)).rows (And.intro hR.rows (Below.bex HB.out HX2.out (Nat.le_refl _) (by omega)))))
        clear HD2 HX2 hR HS HT HB
        go_wp2
        go_ret3
        exact ⟨cr, cn, cc, cx, tr, j, tc, tx, _, _, _, _, rfl, HR.out.1, hcn, HR.out.2.1, htn, HR.out.2.2.1, by omega, HR.out.2.2.2⟩
set_option maxHeartbeats 8000000 in
theorem s_DrawCountUnseen (a : Option Addr) (n cap : Nat) (w : World) (hB : Byts w a n cap) :
    Calls Tryz.prog 5 #[.slice a n cap] w fun e w' => ∃ (k : Int) (lr : Option Addr) (ln lc : Nat) (lx : List (List Int)) (cr : Option Addr) (cn cc : Nat) (cx : List Int) (key i : Int) (mr : Option Addr) (mn mc : Nat) (mx : List Int),
      e = .returned (.tuple #[.int .i64 k, .slice lr ln lc, .slice cr cn cc, .int .i64 key, .int .i64 i, .slice mr mn mc]) ∧ (0 ≤ k ∧ k ≤ 9) ∧ Rws w' lr ln lc lx ∧ ln ≤ 20 ∧ Ints w' cr cn cc cx ∧ cn ≤ 25 ∧ Dk key ∧ (-10 ≤ i ∧ i ≤ 100000) ∧ Ints w' mr mn mc mx ∧ mn ≤ 30 ∧ Below w.heap.size w w' := by
  have hC0 := Cur.new (t := 53) hB hB.und (Nat.le_refl _)
  have hs0 : (w.alloc (.cells #[.slice a n cap, .int .i64 0, .int .u64 0] 53)).heap.size = w.heap.size + 1 := by simp
  go_enter Tryz.func5, Tryz.ntmps5
  go_wp2_with fail
  refine (s_sized _ _ _ _ hC0 (by omega)).mono ?_; rintro e w1 ⟨key, k, m, rfl, hkey, hk, hm, hC1, hX1⟩
  obtain ⟨m', hm', hm25⟩ : ∃ mn : Nat, (if (0 : Int) < m then m else 0) = mn ∧ mn ≤ 25 := ⟨m.toNat, by split <;> omega, by omega⟩
  have ek : (if (0 : Int) < k then k else 0) = k := by split <;> omega
  have HK := Lib.hid hkey; clear hkey
  go_wp2_with fail
  refine (s_l1Most _ _ _).mono ?_; rintro e ww ⟨rfl, rfl⟩; rw [hm']
  go_wp2_with fail
  refine (s_bits _ _ _ (m' : Int) _ hC1 (by omega) (by omega)).mono ?_; rintro e w2 ⟨cr, cc, cx, rfl, hC, bC, hC2, hX2⟩
  rw [Int.toNat_natCast] at hC ⊢
  go_wp2_with fail
  refine (s_bits _ _ _ (m' : Int) _ hC2 (by omega) (by omega)).mono ?_; rintro e w3 ⟨mr, mc, mx, rfl, hM, bM, hC3, hX3⟩
  rw [Int.toNat_natCast] at hM ⊢
  go_wp2_with fail
  refine (s_one _ _ _ 4 _ hC3 (by omega) (by omega)).mono ?_; rintro e w4 ⟨q, rfl, hC4, hX4⟩
  have z1 := hX1.size; have z2 := hX2.size; have z3 := hX3.size; have z4 := hX4.size
  rw [hs0] at z1
  have HC4 := Lib.hid hC4; have HX4 := Lib.hid (((hX1.trans hX2).trans hX3).trans hX4)
  have HCh := Lib.hid ((hC.bex (hX3.trans hX4) (by omega)).base (B' := w.heap.size + 1) (by omega)); have HMa := Lib.hid ((hM.bex hX4 (by omega)).base (B' := w.heap.size + 1) (by omega))
  clear hC0 hC1 hC2 hC3 hC4 hX1 hX2 hX3 hX4 hC hM bC bM hs0 hm hm'
  cases q with
  | false =>
    go_wp2_with fail
    refine (s_weightLists _ _ _ (m' : Int) _ HC4.out (by omega) (by omega)).mono ?_; rintro e w5 ⟨lr, ln, lc, lx, rfl, hL, hln, hC5, hX5⟩
    go_wp2_with fail
    refine (s_l1Most _ _ _).mono ?_; rintro e ww ⟨rfl, rfl⟩; rw [ek]
    have e1 : IntKind.i64.wrap (k + 1) = k + 1 := IntWalk.i64_in _ (by omega)
    go_wp2_with fail
    refine (s_pick _ _ _ (k + 1) _ hC5 (by omega) (by omega)).mono ?_; rintro e w6 ⟨r, rfl, hr1, hr2, hC6, hX6⟩
    go_wp2_with fail
    refine (s_pick _ _ _ 24 _ hC6 (by omega) (by omega)).mono ?_; rintro e w7 ⟨s, rfl, hs1, hs2, hC7, hX7⟩
    obtain ⟨t, ht, ht1⟩ : ∃ t : Int, ((s : Int).tdiv 23) = t ∧ 0 ≤ t ∧ t ≤ 1 := ⟨_, rfl, by rw [Int.tdiv_eq_ediv_of_nonneg (by omega)]; omega, by rw [Int.tdiv_eq_ediv_of_nonneg (by omega)]; omega⟩
    have ht' : (s : Int) / 23 = t := by rw [← ht, Int.tdiv_eq_ediv_of_nonneg (by omega)]
    have e2 : IntKind.i64.wrap ((r : Int) - t) = (r : Int) - t := IntWalk.i64_in _ (by omega)
    have X := (hX5.trans hX6).trans hX7
    have z5 := hX5.size
    have HR := Lib.hid (And.intro (hL.bex (hX6.trans hX7) (by omega)).rows (And.intro (HCh.out.bex X (by omega)).ints (And.intro (HMa.out.bex X (by omega)).ints (bel_new (HX4.out.trans X)))))
    clear hC5 hC6 hC7 hX5 hX6 hX7 X hL HC4 HX4 HCh HMa ek
    go_wp2
    exact bodyPost_ret (v := .tuple #[.int .i64 k, .slice lr ln lc, .slice cr m' cc, .int .i64 key, .int .i64 ((r : Int) - t), .slice mr m' mc]) (by simp [results, Tryz.results5, go_sem]) rfl
      ⟨k, lr, ln, lc, lx, cr, m', cc, cx, key, _, mr, m', mc, mx, rfl, hk, HR.out.1, hln, HR.out.2.1, hm25, HK.out, ⟨by omega, by omega⟩, HR.out.2.2.1, by omega, HR.out.2.2.2⟩
  | true =>
    obtain ⟨i0, hi, hz0, hz1_, hz2_⟩ := info_parts info_int
    go_wp2_with (at_make; refine wpList_make_full _ rfl _ _ 25 rfl w4.heap.size 3 i0 (.int .i64 0) 1 Tryz.underlying25 hi hz0 hz1_ _ _ _ _ m' rfl rfl rfl rfl ?b1 ?b2 ?b3 ?_)
    case b1 => rw [hz2_]; omega
    case b2 => unfold maxLen; omega
    case b3 => exact Nat.le_refl _
    intro w5 hown hgrow
    have hb5 : Below w4.heap.size w4 w5 := (Below.refl _ _).grown hgrow (Nat.le_refl _) (fun k hk => by cases hk)
    try simp only [Nat.mul_one, Value.cells] at hown
    rw [made_ivs] at hown
    obtain ⟨a', cap', hv, ho⟩ := Mine.of hown (by omega) (fun x hx => by rw [List.eq_of_mem_replicate hx]; unfold Fits; omega)
    simp only [Value.slice.injEq] at hv
    obtain ⟨rfl, _, rfl⟩ := hv
    have hcn := HC4.out.below hb5
    have z5 := hb5.size
    have HX5 := Lib.hid (HX4.out.trans (Bex.of hb5)); have HCh5 := Lib.hid (HCh.out.below hb5); have HO := Lib.hid (ho.base (B' := w.heap.size + 1) (by omega)); have HC5 := Lib.hid hcn
    clear hown hgrow ho hi hz0 hz1_ hz2_ hb5 HX4 HCh HC4 hcn HMa
    go_wp2_with fail
    refine (s_weightLists _ _ _ (m' : Int) _ HC5.out (by omega) (by omega)).mono ?_; rintro e w6 ⟨lr, ln, lc, lx, rfl, hL, hln, hC6, hX6⟩
    go_wp2_with fail
    refine (s_l1Most _ _ _).mono ?_; rintro e ww ⟨rfl, rfl⟩; rw [ek]
    have e1 : IntKind.i64.wrap (k + 1) = k + 1 := IntWalk.i64_in _ (by omega)
    go_wp2_with fail
    refine (s_pick _ _ _ (k + 1) _ hC6 (by omega) (by omega)).mono ?_; rintro e w7 ⟨r, rfl, hr1, hr2, hC7, hX7⟩
    go_wp2_with fail
    refine (s_pick _ _ _ 24 _ hC7 (by omega) (by omega)).mono ?_; rintro e w8 ⟨s, rfl, hs1, hs2, hC8, hX8⟩
    obtain ⟨t, ht, ht1⟩ : ∃ t : Int, ((s : Int).tdiv 23) = t ∧ 0 ≤ t ∧ t ≤ 1 := ⟨_, rfl, by rw [Int.tdiv_eq_ediv_of_nonneg (by omega)]; omega, by rw [Int.tdiv_eq_ediv_of_nonneg (by omega)]; omega⟩
    have ht' : (s : Int) / 23 = t := by rw [← ht, Int.tdiv_eq_ediv_of_nonneg (by omega)]
    have e2 : IntKind.i64.wrap ((r : Int) - t) = (r : Int) - t := IntWalk.i64_in _ (by omega)
    have X := (hX6.trans hX7).trans hX8
    have z6 := hX6.size
    have HR := Lib.hid (And.intro (hL.bex (hX7.trans hX8) (by omega)).rows (And.intro (HCh5.out.bex X (by omega)).ints (And.intro (HO.out.bex X (by omega)).ints (bel_new (HX5.out.trans X)))))
    clear hC6 hC7 hC8 hX6 hX7 hX8 X hL HC5 HX5 HCh5 HO ek
    go_wp2
    exact bodyPost_ret (v := .tuple #[.int .i64 k, .slice lr ln lc, .slice cr m' cc, .int .i64 key, .int .i64 ((r : Int) - t),  .slice (some ⟨w4.heap.size, 0, none⟩) m' m']) (by simp [results, Tryz.results5, go_sem]) rfl
      ⟨k, lr, ln, lc, lx, cr, m', cc, cx, key, _, _, m', _, _, rfl, hk, HR.out.1, hln, HR.out.2.1, hm25, HK.out, ⟨by omega, by omega⟩, HR.out.2.2.1, by omega, HR.out.2.2.2⟩
end Go.Proofs.YtfejpmfcognikaaGreat
