/-
  The draws of the law on polynomials.
-/
import Derived.Test.YtfichpppjpgahaaLu
namespace Go.Proofs.Ytfichpppjpgahaa
open Go.RowKit
set_option linter.unusedVariables false
set_option linter.unusedSimpArgs false
set_option maxRecDepth 20000

set_option maxHeartbeats 2000000 in
theorem s_DrawPolyThrough (a : Option Addr) (n cap : Nat) (w : World) (hB : Byts w a n cap) :
    Calls Try.prog 7 #[.slice a n cap] w fun e w' => ∃ (p : Int) (xr : Option Addr) (xn xc : Nat) (xs : List Int) (yr : Option Addr) (yn yc : Nat) (ys : List Int), e = .returned (.tuple #[.int .i64 p, .slice xr xn xc, .slice yr yn yc]) ∧ (-7 ≤ p ∧ p ≤ 257) ∧ Ints w' xr xn xc xs ∧ Ints w' yr yn yc ys ∧ xn ≤ 13 ∧ yn ≤ 14 ∧ Below w.heap.size w w' := by
  have hC0 := Cur.new (t := 61) hB hB.und (Nat.le_refl _)
  have hl0 := hC0.lt
  go_enter Try.func7, Try.ntmps7
  go_wp2_with fail
  refine (s_anyPrime _ _ _ _ hC0 (by omega)).mono ?_; rintro e w1 ⟨p, rfl, hp1, hp2, hC1, hX1⟩
  have dp : Dr p := ⟨by omega, by omega⟩
  go_wp2_with fail
  refine (s_points _ _ _ p _ hC1 (by omega) dp).mono ?_; rintro e w2 ⟨xr, xn, xc, xs, yr, yn, yc, ys, rfl, hMx, hMy, hxn, hyn, hC2, hX2⟩
  have hB2 := bel_new (hX1.trans hX2)
  have HX := Lib.hid hMx.ints; have HY := Lib.hid hMy.ints; have HB := Lib.hid hB2
  clear hMx hMy hC2 hX2 hX1 hC1 hC0 hB2
  go_wp2
  exact bodyPost_ret (v := .tuple #[.int .i64 p, .slice xr xn xc, .slice yr yn yc]) (by simp [results, Try.results7, go_sem]) rfl ⟨p, xr, xn, xc, xs, yr, yn, yc, ys, rfl, ⟨hp1, hp2⟩, HX.out, HY.out, hxn, hyn, HB.out⟩
set_option maxHeartbeats 2000000 in
theorem s_DrawInterpolateAt (a : Option Addr) (n cap : Nat) (w : World) (hB : Byts w a n cap) :
    Calls Try.prog 13 #[.slice a n cap] w fun e w' => ∃ (p : Int) (xr : Option Addr) (xn xc : Nat) (xs : List Int) (yr : Option Addr) (yn yc : Nat) (ys : List Int) (x : Int), e = .returned (.tuple #[.int .i64 p, .slice xr xn xc, .slice yr yn yc, .int .i64 x]) ∧ (-7 ≤ p ∧ p ≤ 257) ∧ Ints w' xr xn xc xs ∧ Ints w' yr yn yc ys ∧ xn ≤ 13 ∧ yn ≤ 14 ∧ Dr x ∧ Below w.heap.size w w' := by
  have hC0 := Cur.new (t := 61) hB hB.und (Nat.le_refl _)
  have hl0 := hC0.lt
  go_enter Try.func13, Try.ntmps13
  go_wp2_with fail
  refine (s_anyPrime _ _ _ _ hC0 (by omega)).mono ?_; rintro e w1 ⟨p, rfl, hp1, hp2, hC1, hX1⟩
  have dp : Dr p := ⟨by omega, by omega⟩
  have hl1 := hC1.lt
  go_wp2_with fail
  refine (s_points _ _ _ p _ hC1 (by omega) dp).mono ?_; rintro e w2 ⟨xr, xn, xc, xs, yr, yn, yc, ys, rfl, hMx, hMy, hxn, hyn, hC2, hX2⟩
  go_wp2_with fail
  refine (s_element _ _ _ p _ hC2 (by omega) dp).mono ?_; rintro e w3 ⟨x, rfl, dx, hC3, hX3⟩
  have hB2 := bel_new ((hX1.trans hX2).trans hX3)
  have HX := Lib.hid (hMx.bex hX3 hl1).ints; have HY := Lib.hid (hMy.bex hX3 hl1).ints; have HB := Lib.hid hB2
  clear hMx hMy hC2 hX2 hX1 hC1 hC0 hB2 hX3 hC3
  go_wp2
  exact bodyPost_ret (v := .tuple #[.int .i64 p, .slice xr xn xc, .slice yr yn yc, .int .i64 x]) (by simp [results, Try.results13, go_sem]) rfl ⟨p, xr, xn, xc, xs, yr, yn, yc, ys, x, rfl, ⟨hp1, hp2⟩, HX.out, HY.out, hxn, hyn, dx, HB.out⟩
set_option maxHeartbeats 2000000 in
theorem s_DrawEvalPoly (a : Option Addr) (n cap : Nat) (w : World) (hB : Byts w a n cap) :
    Calls Try.prog 18 #[.slice a n cap] w fun e w' => ∃ (p : Int) (xr : Option Addr) (xn xc : Nat) (xs : List Int) (x : Int), e = .returned (.tuple #[.int .i64 p, .slice xr xn xc, .int .i64 x]) ∧ (-7 ≤ p ∧ p ≤ 257) ∧ Ints w' xr xn xc xs ∧ Dr x ∧ Below w.heap.size w w' := by
  have hC0 := Cur.new (t := 61) hB hB.und (Nat.le_refl _)
  have hl0 := hC0.lt
  go_enter Try.func18, Try.ntmps18
  go_wp2_with fail
  refine (s_anyPrime _ _ _ _ hC0 (by omega)).mono ?_; rintro e w1 ⟨p, rfl, hp1, hp2, hC1, hX1⟩
  have dp : Dr p := ⟨by omega, by omega⟩
  go_wp2_with fail
  refine (s_pick _ _ _ 6 _ hC1 (by omega) (by omega)).mono ?_; rintro e w2 ⟨k, rfl, hk1, hk2, hC2, hX2⟩
  have hk6 : k ≤ 6 := by omega
  go_wp2_with fail
  refine (s_one _ _ _ 20 _ hC2 (by omega) (by omega)).mono ?_; rintro e w3 ⟨q, rfl, hC3, hX3⟩
  cases q with
  | false =>
    have hl3 := hC3.lt
    go_wp2_with fail
    refine (s_elements _ _ _ p k _ hC3 (by omega) dp (by omega)).mono ?_; rintro e w4 ⟨r, c, xs, rfl, ho, hC4, hX4⟩
    go_wp2_with fail
    refine (s_element _ _ _ p _ hC4 (by omega) dp).mono ?_; rintro e w5 ⟨x, rfl, dx, hC5, hX5⟩
    have HX := Lib.hid (ho.mine.bex hX5 hl3).ints
    have HB := Lib.hid (bel_new ((((hX1.trans hX2).trans hX3).trans hX4).trans hX5))
    clear ho hC5 hX5 hX4 hC4 hX3 hC3 hX2 hC2 hX1 hC1 hC0
    go_wp2
    exact bodyPost_ret (v := .tuple #[.int .i64 p, .slice r k c, .int .i64 x]) (by simp [results, Try.results18, go_sem]) rfl ⟨p, r, _, c, xs, x, rfl, ⟨hp1, hp2⟩, HX.out, dx, HB.out⟩
  | true =>
    go_wp2_with fail
    refine (s_pick _ _ _ 2 _ hC3 (by omega) (by omega)).mono ?_; rintro e w9 ⟨k2, rfl, hk3, hk4, hC9, hX9⟩
    have hk5 : k2 ≤ 2 := by omega
    have hl3 := hC9.lt
    go_wp2_with fail
    refine (s_elementsI _ _ _ p (12 + k2) _ _ hC9 (by omega) dp (by omega) (by first | rfl | omega | (simp; done))).mono ?_; rintro e w4 ⟨r, c, xs, rfl, ho, hC4, hX4⟩
    go_wp2_with fail
    refine (s_element _ _ _ p _ hC4 (by omega) dp).mono ?_; rintro e w5 ⟨x, rfl, dx, hC5, hX5⟩
    have HX := Lib.hid (ho.mine.bex hX5 hl3).ints
    have HB := Lib.hid (bel_new (((((hX1.trans hX2).trans hX3).trans hX9).trans hX4).trans hX5))
    clear ho hC5 hX5 hX4 hC4 hX3 hC3 hX2 hC2 hX1 hC1 hC0 hX9 hC9
    go_wp2
    exact bodyPost_ret (v := .tuple #[.int .i64 p, .slice r (12 + k2) c, .int .i64 x]) (by simp [results, Try.results18, go_sem]) rfl ⟨p, r, _, c, xs, x, rfl, ⟨hp1, hp2⟩, HX.out, dx, HB.out⟩
theorem RG.blk {w : World} {B k cap : Nat} {a : Option Addr} {v2 : Value} {xss : List (List Int)} (h : RG w B (.slice a k cap) k xss v2) (hk : 0 < k) : ∃ g, a = some ⟨g, 0, none⟩ := by
  obtain ⟨hs', h1, _⟩ := h
  obtain ⟨_, h5⟩ := id h1
  rcases h5 with ⟨hv, _⟩ | ⟨g', cap', cur, hv, _⟩
  · omega
  · simp only [Value.slice.injEq] at hv
    exact ⟨g', hv.1⟩
set_option maxHeartbeats 4000000 in
theorem s_DrawSolveLinear (a : Option Addr) (n cap : Nat) (w : World) (hB : Byts w a n cap) :
    Calls Try.prog 15 #[.slice a n cap] w fun e w' => ∃ (p : Int) (xr : Option Addr) (xn xc : Nat) (xss : List (List Int)) (yr : Option Addr) (yn yc : Nat) (ys : List Int), e = .returned (.tuple #[.int .i64 p, .slice xr xn xc, .slice yr yn yc]) ∧ (-7 ≤ p ∧ p ≤ 257) ∧ Rws w' xr xn xc xss ∧ Ints w' yr yn yc ys ∧ xn ≤ 7 ∧ Below w.heap.size w w' := by
  have hC0 := Cur.new (t := 61) hB hB.und (Nat.le_refl _)
  obtain ⟨W0, hW0⟩ : ∃ X, X = w.alloc (.cells #[.slice a n cap, .int .i64 0, .int .u64 0] 61) := ⟨_, rfl⟩
  have hs0 : W0.heap.size = w.heap.size + 1 := by rw [hW0]; simp
  have hbb : w.heap.size < W0.heap.size := by omega
  have HW0 := Lib.hid hW0
  go_enter Try.func15, Try.ntmps15
  go_wp2_with fail
  refine (s_anyPrime _ _ _ _ hC0 (by omega)).mono ?_; rintro e w1 ⟨p, rfl, hp1, hp2, hC1, hX1⟩
  have dp : Dr p := ⟨by omega, by omega⟩
  go_wp2_with fail
  refine (s_pick _ _ _ 4 _ hC1 (by omega) (by omega)).mono ?_; rintro e w2 ⟨k, rfl, hk1, hk2, hC2, hX2⟩
  have hk6 : k ≤ 3 := by omega
  go_wp2_with fail
  refine (s_one _ _ _ 20 _ hC2 (by omega) (by omega)).mono ?_; rintro e w3 ⟨q, rfl, hC3, hX3⟩
  have key : ∀ (W : World) (N : Int), True := fun _ _ => trivial
  clear key
  cases q with
  | false =>
    obtain ⟨M, hM⟩ : ∃ M : Nat, M = 1 + k := ⟨_, rfl⟩
    have hMI : (1 : Int) + (k : Int) = (M : Int) := by omega
    have hM7 : M ≤ 7 := by omega
    have HC := Lib.hid (hC3.more (K' := 1000) (by omega))
    have HX : Hid (Bex w.heap.size W0 w3) := Lib.hid (by rw [hW0]; exact (hX1.trans hX2).trans hX3)
    clear hX1 hX2 hX3 hC1 hC2 hC3 hC0 hW0 hM
    have hz2 := HX.out.size
    go_wp2
    go_loopw [8, 9] (fun v1 i W => ∃ j : Nat, j ≤ M ∧ i = .int .i64 j ∧ Hid (∃ xs, RDuo W W0.heap.size v1 j xs (.slice none 0 0) 0 [] ∧ ∀ i, (rowN xs i).length ≤ 7) ∧ Hid (Cur W w.heap.size w.heap.size (1000 + 100 * j)) ∧ Hid (Bex w.heap.size W0 W)) (fun _ i _ => M - (intOf i).toNat)
    case atStart => exact ⟨0, by omega, rfl, ⟨[], RDuo.nil hz2, fun i => by simp [rowN]⟩, HC.out, HX.out⟩
    case round =>
      clear HC HX hz2
      obtain ⟨j, hj, rfl, HD, HC, HX⟩ := hrel
      by_cases hlt : j < M
      · have hzr := HX.out.size
        obtain ⟨xs, hd, hrl⟩ := HD.out
        have HRL := Lib.hid hrl; clear hrl
        go_wp2_with fail
        refine (s_elements _ _ _ p M _ HC.out (by omega) dp (by omega)).mono ?_; rintro e w5 ⟨r, c, x, rfl, ho, hC5, hX5⟩
        have fr := hd.fresh ho.mine; have HD5 := Lib.hid (hd.bex hX5 hbb); have HX5 := Lib.hid (HX.out.trans hX5); have HC5 := Lib.hid hC5; have HM := Lib.hid ho.ints; have hxl := Lib.hid ho.ints.len.out
        clear hd HD HC HX hX5 hC5 ho
        go_wp2_with (at_builtin; refine wp_rduo w5 W0.heap.size j _ xs _ 0 [] r M c x _ _ rfl _ _ rfl rfl rfl (by first | rfl | simp) HD5.out HM.out fr (by omega) (by omega) ?_; intro v6 w6 hd6 hb6; have HC6 := Lib.hid (HC5.out.onB hb6 hbb); have HX6 := Lib.hid (HX5.out.thenB hb6); have HD6 := Lib.hid hd6; clear hd6 hb6)
        go_roundw
        case rel => exact ⟨j + 1, by omega, by go_num, (show Hid _ from ⟨_, HD6.out, fun i => by rw [rowN_snoc]; split; (rw [hxl.out]; omega); exact HRL.out i⟩), (show Hid _ from HC6.out.more (by omega)), HX6.out⟩
        case measure => first | (simp [intOf]; done) | (simp [intOf]; omega)
      · obtain rfl : j = M := by omega
        obtain ⟨xs, hd, hrl⟩ := HD.out
        have HRL := Lib.hid hrl; clear hrl
        have HD0 := Lib.hid hd; clear hd HD
        by_cases hj1 : 1 < j
        · have hj1I : (1 : Int) < (j : Int) := by omega
          go_wp2_with fail
          refine (s_one _ _ _ 6 _ HC.out (by omega) (by omega)).mono ?_; rintro e w7 ⟨q7, rfl, hC7, hX7⟩
          have HD7 := Lib.hid (HD0.out.bex hX7 hbb); have HX7 := Lib.hid (HX.out.trans hX7); have HC7 := Lib.hid hC7
          clear HD0 HC HX hX7 hC7
          cases q7 with
          | false =>
            obtain ⟨xr, xc, rfl, hR⟩ := HD7.out.one.rwp (by omega)
            have HR := Lib.hid hR; clear hR HD7
            go_wp2_with fail
            refine (s_one _ _ _ 24 _ HC7.out (by omega) (by omega)).mono ?_; rintro e wa ⟨qa, rfl, hCa, hXa⟩
            have HRa := Lib.hid (HR.out.bex hXa hbb); have HXa := Lib.hid (HX7.out.trans hXa); have HCa := Lib.hid hCa
            clear HR HC7 HX7 hXa hCa
            cases qa with
            | false =>
              go_wp2_with fail
              refine (s_elementsI _ _ _ p j _ _ HCa.out (by omega) dp (by omega) (by first | rfl | omega | (simp; done))).mono ?_; rintro e wb ⟨yr, yc, ys, rfl, hob, hCb, hXb⟩
              have hXc := HXa.out.trans hXb; rw [HW0.out] at hXc
              have HRb := Lib.hid (HRa.out.bex hXb hbb).rows; have HB := Lib.hid (bel_new hXc); have HO := Lib.hid hob.ints
              clear hXc hXb hCb hob HRa HXa HCa
              go_wp2
              exact bodyPost_ret (v := .tuple #[.int .i64 p, .slice xr j xc, .slice yr j yc]) (by simp [results, Try.results15, go_sem]) rfl ⟨p, _, _, _, _, _, _, _, _, rfl, ⟨hp1, hp2⟩, HRb.out, HO.out, by omega, HB.out⟩
            | true =>
              go_wp2_with fail
              refine (s_elementsI _ _ _ p (j + 1) _ _ HCa.out (by omega) dp (by omega) (by first | rfl | omega | (simp; done))).mono ?_; rintro e wb ⟨yr, yc, ys, rfl, hob, hCb, hXb⟩
              have hXc := HXa.out.trans hXb; rw [HW0.out] at hXc
              have HRb := Lib.hid (HRa.out.bex hXb hbb).rows; have HB := Lib.hid (bel_new hXc); have HO := Lib.hid hob.ints
              clear hXc hXb hCb hob HRa HXa HCa
              go_wp2
              exact bodyPost_ret (v := .tuple #[.int .i64 p, .slice xr j xc, .slice yr (j + 1) yc]) (by simp [results, Try.results15, go_sem]) rfl ⟨p, _, _, _, _, _, _, _, _, rfl, ⟨hp1, hp2⟩, HRb.out, HO.out, by omega, HB.out⟩
          | true =>
            obtain ⟨xr, xc, rfl, _⟩ := HD7.out.one.rws (by omega)
            obtain ⟨g, rfl⟩ : ∃ g, xr = some ⟨g, 0, none⟩ := HD7.out.one.blk (by omega)
            obtain ⟨r1, m1, c1, k1, k2, k3, k4, k5, k6⟩ := HD7.out.one.cell0 (i := 1) (by omega)
            obtain ⟨r0, m0, c0, q1, q2, _, _, _, _⟩ := HD7.out.one.cell0 (i := 0) (by omega)
            have hm1 : m1 ≤ 7 := by rw [← k3.len.out]; exact HRL.out 1
            have K3 := Lib.hid k3; clear k3
            have hz7 := HX7.out.size
            go_wp2_with fail
            refine (s_l1Own _ _ _ _ _ K3.out (by omega)).mono ?_; rintro e w8 ⟨r8, c8, rfl, ho8, hb8⟩
            have HD8 := Lib.hid (HD7.out.bex (Bex.of hb8) hbb); have HX8 := Lib.hid (HX7.out.trans (Bex.of hb8)); have HC8 := Lib.hid (HC7.out.below hb8)
            have HR8 := Lib.hid (HD8.out.one.store0 (by omega) (by omega) ho8.ints (fun h0 q o e => by have := ho8.mine.pl h0 q o e; omega))
            have HC9 := Lib.hid (HC8.out.store (p := ⟨g, 0, none⟩) (u := .slice r8 m1 c8) (by simp only []; omega) (by simp only []; omega))
            have HX9 := Lib.hid (HX8.out.store (p := ⟨g, 0, none⟩) (by simp only []; omega) (.slice r8 m1 c8))
            have q3 := cell_on q1 hb8
            have q4 := (hb8.frozen (p := ⟨g, 0, none⟩) k5).trans q2
            clear HD7 HD8 HX7 HX8 HC7 HC8 q1 q2 k1 k2 hb8 ho8
            go_wp2_with fail
            refine (s_one _ _ _ 24 _ HC9.out (by omega) (by omega)).mono ?_; rintro e wa ⟨qa, rfl, hCa, hXa⟩
            have HRa := Lib.hid (HR8.out.bex hXa hbb); have HXa := Lib.hid (HX9.out.trans hXa); have HCa := Lib.hid hCa
            clear HR8 HC9 HX9 hXa hCa
            cases qa with
            | false =>
              go_wp2_with fail
              refine (s_elementsI _ _ _ p j _ _ HCa.out (by omega) dp (by omega) (by first | rfl | omega | (simp; done))).mono ?_; rintro e wb ⟨yr, yc, ys, rfl, hob, hCb, hXb⟩
              have hXc := HXa.out.trans hXb; rw [HW0.out] at hXc
              have HRb := Lib.hid (HRa.out.bex hXb hbb).rows; have HB := Lib.hid (bel_new hXc); have HO := Lib.hid hob.ints
              clear hXc hXb hCb hob HRa HXa HCa
              go_wp2
              exact bodyPost_ret (v := .tuple #[.int .i64 p, .slice (some ⟨g, 0, none⟩) j xc, .slice yr j yc]) (by simp [results, Try.results15, go_sem]) rfl ⟨p, _, _, _, _, _, _, _, _, rfl, ⟨hp1, hp2⟩, HRb.out, HO.out, by omega, HB.out⟩
            | true =>
              go_wp2_with fail
              refine (s_elementsI _ _ _ p (j + 1) _ _ HCa.out (by omega) dp (by omega) (by first | rfl | omega | (simp; done))).mono ?_; rintro e wb ⟨yr, yc, ys, rfl, hob, hCb, hXb⟩
              have hXc := HXa.out.trans hXb; rw [HW0.out] at hXc
              have HRb := Lib.hid (HRa.out.bex hXb hbb).rows; have HB := Lib.hid (bel_new hXc); have HO := Lib.hid hob.ints
              clear hXc hXb hCb hob HRa HXa HCa
              go_wp2
              exact bodyPost_ret (v := .tuple #[.int .i64 p, .slice (some ⟨g, 0, none⟩) j xc, .slice yr (j + 1) yc]) (by simp [results, Try.results15, go_sem]) rfl ⟨p, _, _, _, _, _, _, _, _, rfl, ⟨hp1, hp2⟩, HRb.out, HO.out, by omega, HB.out⟩
        · have hj1I : ¬ (1 : Int) < (j : Int) := by omega
          obtain ⟨xr, xc, rfl, hR⟩ := HD0.out.one.rwp (by omega)
          have HR := Lib.hid hR; clear hR HD0
          go_wp2_with fail
          refine (s_one _ _ _ 24 _ HC.out (by omega) (by omega)).mono ?_; rintro e wa ⟨qa, rfl, hCa, hXa⟩
          have HRa := Lib.hid (HR.out.bex hXa hbb); have HXa := Lib.hid (HX.out.trans hXa); have HCa := Lib.hid hCa
          clear HR HC HX hXa hCa
          cases qa with
          | false =>
            go_wp2_with fail
            refine (s_elementsI _ _ _ p j _ _ HCa.out (by omega) dp (by omega) (by first | rfl | omega | (simp; done))).mono ?_; rintro e wb ⟨yr, yc, ys, rfl, hob, hCb, hXb⟩
            have hXc := HXa.out.trans hXb; rw [HW0.out] at hXc
            have HRb := Lib.hid (HRa.out.bex hXb hbb).rows; have HB := Lib.hid (bel_new hXc); have HO := Lib.hid hob.ints
            clear hXc hXb hCb hob HRa HXa HCa
            go_wp2
            exact bodyPost_ret (v := .tuple #[.int .i64 p, .slice xr j xc, .slice yr j yc]) (by simp [results, Try.results15, go_sem]) rfl ⟨p, _, _, _, _, _, _, _, _, rfl, ⟨hp1, hp2⟩, HRb.out, HO.out, by omega, HB.out⟩
          | true =>
            go_wp2_with fail
            refine (s_elementsI _ _ _ p (j + 1) _ _ HCa.out (by omega) dp (by omega) (by first | rfl | omega | (simp; done))).mono ?_; rintro e wb ⟨yr, yc, ys, rfl, hob, hCb, hXb⟩
            have hXc := HXa.out.trans hXb; rw [HW0.out] at hXc
            have HRb := Lib.hid (HRa.out.bex hXb hbb).rows; have HB := Lib.hid (bel_new hXc); have HO := Lib.hid hob.ints
            clear hXc hXb hCb hob HRa HXa HCa
            go_wp2
            exact bodyPost_ret (v := .tuple #[.int .i64 p, .slice xr j xc, .slice yr (j + 1) yc]) (by simp [results, Try.results15, go_sem]) rfl ⟨p, _, _, _, _, _, _, _, _, rfl, ⟨hp1, hp2⟩, HRb.out, HO.out, by omega, HB.out⟩
  | true =>
    obtain ⟨hCa, hIa, hOa, hXa⟩ := among_lit (t := 3) [0, 6, 7] hC3 rfl rfl (by simp) (by intro x hx; simp at hx; unfold Fits; omega)
    go_wp2_with fail
    refine (s_among _ _ _ _ 3 3 [0, 6, 7] _ hCa (by omega) hIa (by omega) (by omega) hOa).mono ?_; rintro e w4 ⟨x, rfl, hx, hC4, hX4⟩
    have hx7 : 0 ≤ x ∧ x ≤ 7 := by simp at hx; omega
    obtain ⟨M, rfl⟩ : ∃ M : Nat, x = M := ⟨x.toNat, by omega⟩
    have hM7 : M ≤ 7 := by omega
    have HC := Lib.hid (hC4.more (K' := 1000) (by omega))
    have HX : Hid (Bex w.heap.size W0 w4) := Lib.hid (by rw [hW0]; exact (((hX1.trans hX2).trans hX3).trans hXa).trans hX4)
    clear hX1 hX2 hX3 hC1 hC2 hC3 hC0 hW0 hCa hIa hOa hXa hC4 hX4 hx hx7
    have hz2 := HX.out.size
    go_wp2
    go_loopw [8, 9] (fun v1 i W => ∃ j : Nat, j ≤ M ∧ i = .int .i64 j ∧ Hid (∃ xs, RDuo W W0.heap.size v1 j xs (.slice none 0 0) 0 [] ∧ ∀ i, (rowN xs i).length ≤ 7) ∧ Hid (Cur W w.heap.size w.heap.size (1000 + 100 * j)) ∧ Hid (Bex w.heap.size W0 W)) (fun _ i _ => M - (intOf i).toNat)
    case atStart => exact ⟨0, by omega, rfl, ⟨[], RDuo.nil hz2, fun i => by simp [rowN]⟩, HC.out, HX.out⟩
    case round =>
      clear HC HX hz2
      obtain ⟨j, hj, rfl, HD, HC, HX⟩ := hrel
      by_cases hlt : j < M
      · have hzr := HX.out.size
        obtain ⟨xs, hd, hrl⟩ := HD.out
        have HRL := Lib.hid hrl; clear hrl
        go_wp2_with fail
        refine (s_elements _ _ _ p M _ HC.out (by omega) dp (by omega)).mono ?_; rintro e w5 ⟨r, c, x, rfl, ho, hC5, hX5⟩
        have fr := hd.fresh ho.mine; have HD5 := Lib.hid (hd.bex hX5 hbb); have HX5 := Lib.hid (HX.out.trans hX5); have HC5 := Lib.hid hC5; have HM := Lib.hid ho.ints; have hxl := Lib.hid ho.ints.len.out
        clear hd HD HC HX hX5 hC5 ho
        go_wp2_with (at_builtin; refine wp_rduo w5 W0.heap.size j _ xs _ 0 [] r M c x _ _ rfl _ _ rfl rfl rfl (by first | rfl | simp) HD5.out HM.out fr (by omega) (by omega) ?_; intro v6 w6 hd6 hb6; have HC6 := Lib.hid (HC5.out.onB hb6 hbb); have HX6 := Lib.hid (HX5.out.thenB hb6); have HD6 := Lib.hid hd6; clear hd6 hb6)
        go_roundw
        case rel => exact ⟨j + 1, by omega, by go_num, (show Hid _ from ⟨_, HD6.out, fun i => by rw [rowN_snoc]; split; (rw [hxl.out]; omega); exact HRL.out i⟩), (show Hid _ from HC6.out.more (by omega)), HX6.out⟩
        case measure => first | (simp [intOf]; done) | (simp [intOf]; omega)
      · obtain rfl : j = M := by omega
        obtain ⟨xs, hd, hrl⟩ := HD.out
        have HRL := Lib.hid hrl; clear hrl
        have HD0 := Lib.hid hd; clear hd HD
        by_cases hj1 : 1 < j
        · have hj1I : (1 : Int) < (j : Int) := by omega
          go_wp2_with fail
          refine (s_one _ _ _ 6 _ HC.out (by omega) (by omega)).mono ?_; rintro e w7 ⟨q7, rfl, hC7, hX7⟩
          have HD7 := Lib.hid (HD0.out.bex hX7 hbb); have HX7 := Lib.hid (HX.out.trans hX7); have HC7 := Lib.hid hC7
          clear HD0 HC HX hX7 hC7
          cases q7 with
          | false =>
            obtain ⟨xr, xc, rfl, hR⟩ := HD7.out.one.rwp (by omega)
            have HR := Lib.hid hR; clear hR HD7
            go_wp2_with fail
            refine (s_one _ _ _ 24 _ HC7.out (by omega) (by omega)).mono ?_; rintro e wa ⟨qa, rfl, hCa, hXa⟩
            have HRa := Lib.hid (HR.out.bex hXa hbb); have HXa := Lib.hid (HX7.out.trans hXa); have HCa := Lib.hid hCa
            clear HR HC7 HX7 hXa hCa
            cases qa with
            | false =>
              go_wp2_with fail
              refine (s_elementsI _ _ _ p j _ _ HCa.out (by omega) dp (by omega) (by first | rfl | omega | (simp; done))).mono ?_; rintro e wb ⟨yr, yc, ys, rfl, hob, hCb, hXb⟩
              have hXc := HXa.out.trans hXb; rw [HW0.out] at hXc
              have HRb := Lib.hid (HRa.out.bex hXb hbb).rows; have HB := Lib.hid (bel_new hXc); have HO := Lib.hid hob.ints
              clear hXc hXb hCb hob HRa HXa HCa
              go_wp2
              exact bodyPost_ret (v := .tuple #[.int .i64 p, .slice xr j xc, .slice yr j yc]) (by simp [results, Try.results15, go_sem]) rfl ⟨p, _, _, _, _, _, _, _, _, rfl, ⟨hp1, hp2⟩, HRb.out, HO.out, by omega, HB.out⟩
            | true =>
              go_wp2_with fail
              refine (s_elementsI _ _ _ p (j + 1) _ _ HCa.out (by omega) dp (by omega) (by first | rfl | omega | (simp; done))).mono ?_; rintro e wb ⟨yr, yc, ys, rfl, hob, hCb, hXb⟩
              have hXc := HXa.out.trans hXb; rw [HW0.out] at hXc
              have HRb := Lib.hid (HRa.out.bex hXb hbb).rows; have HB := Lib.hid (bel_new hXc); have HO := Lib.hid hob.ints
              clear hXc hXb hCb hob HRa HXa HCa
              go_wp2
              exact bodyPost_ret (v := .tuple #[.int .i64 p, .slice xr j xc, .slice yr (j + 1) yc]) (by simp [results, Try.results15, go_sem]) rfl ⟨p, _, _, _, _, _, _, _, _, rfl, ⟨hp1, hp2⟩, HRb.out, HO.out, by omega, HB.out⟩
          | true =>
            obtain ⟨xr, xc, rfl, _⟩ := HD7.out.one.rws (by omega)
            obtain ⟨g, rfl⟩ : ∃ g, xr = some ⟨g, 0, none⟩ := HD7.out.one.blk (by omega)
            obtain ⟨r1, m1, c1, k1, k2, k3, k4, k5, k6⟩ := HD7.out.one.cell0 (i := 1) (by omega)
            obtain ⟨r0, m0, c0, q1, q2, _, _, _, _⟩ := HD7.out.one.cell0 (i := 0) (by omega)
            have hm1 : m1 ≤ 7 := by rw [← k3.len.out]; exact HRL.out 1
            have K3 := Lib.hid k3; clear k3
            have hz7 := HX7.out.size
            go_wp2_with fail
            refine (s_l1Own _ _ _ _ _ K3.out (by omega)).mono ?_; rintro e w8 ⟨r8, c8, rfl, ho8, hb8⟩
            have HD8 := Lib.hid (HD7.out.bex (Bex.of hb8) hbb); have HX8 := Lib.hid (HX7.out.trans (Bex.of hb8)); have HC8 := Lib.hid (HC7.out.below hb8)
            have HR8 := Lib.hid (HD8.out.one.store0 (by omega) (by omega) ho8.ints (fun h0 q o e => by have := ho8.mine.pl h0 q o e; omega))
            have HC9 := Lib.hid (HC8.out.store (p := ⟨g, 0, none⟩) (u := .slice r8 m1 c8) (by simp only []; omega) (by simp only []; omega))
            have HX9 := Lib.hid (HX8.out.store (p := ⟨g, 0, none⟩) (by simp only []; omega) (.slice r8 m1 c8))
            have q3 := cell_on q1 hb8
            have q4 := (hb8.frozen (p := ⟨g, 0, none⟩) k5).trans q2
            clear HD7 HD8 HX7 HX8 HC7 HC8 q1 q2 k1 k2 hb8 ho8
            go_wp2_with fail
            refine (s_one _ _ _ 24 _ HC9.out (by omega) (by omega)).mono ?_; rintro e wa ⟨qa, rfl, hCa, hXa⟩
            have HRa := Lib.hid (HR8.out.bex hXa hbb); have HXa := Lib.hid (HX9.out.trans hXa); have HCa := Lib.hid hCa
            clear HR8 HC9 HX9 hXa hCa
            cases qa with
            | false =>
              go_wp2_with fail
              refine (s_elementsI _ _ _ p j _ _ HCa.out (by omega) dp (by omega) (by first | rfl | omega | (simp; done))).mono ?_; rintro e wb ⟨yr, yc, ys, rfl, hob, hCb, hXb⟩
              have hXc := HXa.out.trans hXb; rw [HW0.out] at hXc
              have HRb := Lib.hid (HRa.out.bex hXb hbb).rows; have HB := Lib.hid (bel_new hXc); have HO := Lib.hid hob.ints
              clear hXc hXb hCb hob HRa HXa HCa
              go_wp2
              exact bodyPost_ret (v := .tuple #[.int .i64 p, .slice (some ⟨g, 0, none⟩) j xc, .slice yr j yc]) (by simp [results, Try.results15, go_sem]) rfl ⟨p, _, _, _, _, _, _, _, _, rfl, ⟨hp1, hp2⟩, HRb.out, HO.out, by omega, HB.out⟩
            | true =>
              go_wp2_with fail
              refine (s_elementsI _ _ _ p (j + 1) _ _ HCa.out (by omega) dp (by omega) (by first | rfl | omega | (simp; done))).mono ?_; rintro e wb ⟨yr, yc, ys, rfl, hob, hCb, hXb⟩
              have hXc := HXa.out.trans hXb; rw [HW0.out] at hXc
              have HRb := Lib.hid (HRa.out.bex hXb hbb).rows; have HB := Lib.hid (bel_new hXc); have HO := Lib.hid hob.ints
              clear hXc hXb hCb hob HRa HXa HCa
              go_wp2
              exact bodyPost_ret (v := .tuple #[.int .i64 p, .slice (some ⟨g, 0, none⟩) j xc, .slice yr (j + 1) yc]) (by simp [results, Try.results15, go_sem]) rfl ⟨p, _, _, _, _, _, _, _, _, rfl, ⟨hp1, hp2⟩, HRb.out, HO.out, by omega, HB.out⟩
        · have hj1I : ¬ (1 : Int) < (j : Int) := by omega
          obtain ⟨xr, xc, rfl, hR⟩ := HD0.out.one.rwp (by omega)
          have HR := Lib.hid hR; clear hR HD0
          go_wp2_with fail
          refine (s_one _ _ _ 24 _ HC.out (by omega) (by omega)).mono ?_; rintro e wa ⟨qa, rfl, hCa, hXa⟩
          have HRa := Lib.hid (HR.out.bex hXa hbb); have HXa := Lib.hid (HX.out.trans hXa); have HCa := Lib.hid hCa
          clear HR HC HX hXa hCa
          cases qa with
          | false =>
            go_wp2_with fail
            refine (s_elementsI _ _ _ p j _ _ HCa.out (by omega) dp (by omega) (by first | rfl | omega | (simp; done))).mono ?_; rintro e wb ⟨yr, yc, ys, rfl, hob, hCb, hXb⟩
            have hXc := HXa.out.trans hXb; rw [HW0.out] at hXc
            have HRb := Lib.hid (HRa.out.bex hXb hbb).rows; have HB := Lib.hid (bel_new hXc); have HO := Lib.hid hob.ints
            clear hXc hXb hCb hob HRa HXa HCa
            go_wp2
            exact bodyPost_ret (v := .tuple #[.int .i64 p, .slice xr j xc, .slice yr j yc]) (by simp [results, Try.results15, go_sem]) rfl ⟨p, _, _, _, _, _, _, _, _, rfl, ⟨hp1, hp2⟩, HRb.out, HO.out, by omega, HB.out⟩
          | true =>
            go_wp2_with fail
            refine (s_elementsI _ _ _ p (j + 1) _ _ HCa.out (by omega) dp (by omega) (by first | rfl | omega | (simp; done))).mono ?_; rintro e wb ⟨yr, yc, ys, rfl, hob, hCb, hXb⟩
            have hXc := HXa.out.trans hXb; rw [HW0.out] at hXc
            have HRb := Lib.hid (HRa.out.bex hXb hbb).rows; have HB := Lib.hid (bel_new hXc); have HO := Lib.hid hob.ints
            clear hXc hXb hCb hob HRa HXa HCa
            go_wp2
            exact bodyPost_ret (v := .tuple #[.int .i64 p, .slice xr j xc, .slice yr (j + 1) yc]) (by simp [results, Try.results15, go_sem]) rfl ⟨p, _, _, _, _, _, _, _, _, rfl, ⟨hp1, hp2⟩, HRb.out, HO.out, by omega, HB.out⟩
end Go.Proofs.Ytfichpppjpgahaa
