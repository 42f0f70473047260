/-
  The draw of two lists of pairs.
-/
import Derived.Test.YtfandnakenpfnaaCs
import Derived.Test.YtfandnakenpfnaaRH
import Derived.Test.YtfandnakenpfnaaM3
namespace Go.Proofs.Ytfandnakenpfnaa
open Go.RowKit
set_option linter.unusedVariables false
set_option linter.unusedSimpArgs false
def lenV : Value → Nat
  | .slice _ n _ => n
  | _ => 0
theorem RDuo.lit2 {b : Nat} {w : World} {B n1 n2 : Nat} {v1 v2 : Value} {xs ys : List (List Int)} (h : RDuo w B v1 n1 xs v2 n2 ys) (hb : b < B) {x y : Int} (t : TypeId) (hx : Fits x) (hy : Fits y) :
    Hid (RDuo (w.alloc (.cells #[.int .i64 x, .int .i64 y] t)) B v1 n1 xs v2 n2 ys) ∧ Hid (Ints (w.alloc (.cells #[.int .i64 x, .int .i64 y] t)) (some ⟨w.heap.size, 0, none⟩) 2 2 [x, y]) ∧
    (0 < 2 → ∀ g o, (some ⟨w.heap.size, 0, none⟩ : Option Addr) = some ⟨g, o, none⟩ → B ≤ g ∧ some g ≠ v1.ownBlock ∧ some g ≠ v2.ownBlock) :=
  ⟨h.bex (Bex.of (bel_alloc _ _)) hb, (lit2_mine t hx hy).ints, h.fresh (lit2_mine t hx hy)⟩
set_option maxHeartbeats 4000000 in
theorem s_DrawDotShared (a : Option Addr) (n cap : Nat) (w : World) (hB : Byts w a n cap) :
    Calls Try.prog 30 #[.slice a n cap] w fun e w' => ∃ (p : Int) (k : Nat) (xr : Option Addr) (xn xc : Nat) (xs : List (List Int)) (yr : Option Addr) (yn yc : Nat) (ys : List (List Int)), e = .returned (.tuple #[.int .i64 p, .int .i64 k, .slice xr xn xc, .slice yr yn yc]) ∧ Dw p ∧ k ≤ 65535 ∧ Rws w' xr xn xc xs ∧ Rws w' yr yn yc ys ∧ Below w.heap.size w w' := by
  have hC0 := Cur.new (t := 63) hB hB.und (Nat.le_refl _)
  obtain ⟨W0, hW0⟩ : ∃ X, X = w.alloc (.cells #[.slice a n cap, .int .i64 0, .int .u64 0] 63) := ⟨_, rfl⟩
  have hs0 : W0.heap.size = w.heap.size + 1 := by rw [hW0]; simp
  have hbb : w.heap.size < W0.heap.size := by omega
  have HW0 := Lib.hid hW0
  go_enter Try.func30, Try.ntmps30
  go_wp2_with fail
  refine (s_anyPrime _ _ _ _ hC0 (by omega)).mono ?_; rintro e w1 ⟨p, rfl, hp1, hp2, hC1, hX1⟩
  have dp : Dr p := ⟨by omega, by omega⟩
  go_wp2_with fail
  refine (s_pick _ _ _ 6 _ hC1 (by omega) (by omega)).mono ?_; rintro e w2 ⟨kk, rfl, hk1, hk2, hC2, hX2⟩
  have HC := Lib.hid (hC2.more (K' := 1000) (by omega))
  have HX : Hid (Bex w.heap.size W0 w2) := Lib.hid (by rw [hW0]; exact hX1.trans hX2)
  have hz2 := HX.out.size
  clear hC0 hC1 hC2 hX1 hX2 hW0
  go_wp2
  go_loopw [10, 8, 9] (fun i v1 v2 W => ∃ j : Nat, j ≤ kk ∧ i = .int .i64 ((kk : Int) - j) ∧ Hid (∃ xs ys, RDuo W W0.heap.size v1 j xs v2 j ys) ∧ Hid (Cur W w.heap.size w.heap.size (1000 + 20 * j)) ∧ Hid (Bex w.heap.size W0 W)) (fun i _ _ _ => (intOf i).toNat)
  case atStart => exact ⟨0, by omega, by simp, ⟨[], [], RDuo.nil hz2⟩, HC, HX⟩
  case round =>
    clear HC HX hz2
    obtain ⟨j, hj, rfl, HD, HC, HX⟩ := hrel
    by_cases hlt : j < kk
    · have hpos : (0 : Int) < (kk : Int) - j := by omega
      have e1 : IntKind.i64.wrap ((kk : Int) - j - 1) = (kk : Int) - j - 1 := IntWalk.i64_in _ (by omega)
      have hzr := HX.out.size
      obtain ⟨xs, ys, hd⟩ := HD.out
      go_wp2_with fail
      refine (s_pair _ _ _ p _ HC.out (by omega) dp).mono ?_; rintro e w3 ⟨r, m, c, x, rfl, hM, hm3, hC3, hX3⟩
      have fr := hd.fresh hM; have HD3 := Lib.hid (hd.bex hX3 hbb); have HX3 := Lib.hid (HX.out.trans hX3); have HC3 := Lib.hid hC3; have HM := Lib.hid hM.ints
      clear hd HD HC HX hX3 hC3 hM
      go_wp2_with (at_builtin; refine wp_rduo w3 W0.heap.size j _ xs _ j ys r m c x _ _ rfl _ _ rfl rfl rfl (by first | rfl | simp) HD3.out HM.out fr (by omega) (by omega) ?_; intro v4 w4 hd4 hb4; have HC4 := Lib.hid (HC3.out.onB hb4 hbb); have HX4 := Lib.hid (HX3.out.thenB hb4); have HD4 := Lib.hid hd4; clear hd4 hb4)
      refine (s_pair _ _ _ p _ HC4.out (by omega) dp).mono ?_; rintro e w5 ⟨r', m', c', y, rfl, hM', hm3', hC5, hX5⟩
      have fr' := HD4.out.fresh hM'; have HD5 := Lib.hid (HD4.out.bex hX5 hbb); have HX5 := Lib.hid (HX4.out.trans hX5); have HC5 := Lib.hid hC5; have HM' := Lib.hid hM'.ints
      clear HD3 HC3 HX3 HD4 HC4 HX4 hX5 hC5 hM'
      go_wp2_with (at_builtin; refine wp_rduo2 w5 W0.heap.size (j + 1) _ (xs ++ [x]) _ j ys r' m' c' y _ _ rfl _ _ rfl rfl rfl (by first | rfl | simp) HD5.out HM'.out fr' (by omega) (by omega) ?_; intro v6 w6 hd6 hb6; have HC6 := Lib.hid (HC5.out.onB hb6 hbb); have HX6 := Lib.hid (HX5.out.thenB hb6); have HD6 := Lib.hid hd6; clear hd6 hb6)
      go_roundw
      case rel => exact ⟨j + 1, by omega, by first | go_num | (simp; omega), ⟨_, _, HD6.out⟩, (show Hid _ from HC6.out.more (by omega)), HX6⟩
      case measure => simp [intOf]; omega
    · obtain rfl : j = kk := by omega
      obtain ⟨xs, ys, hd⟩ := HD.out
      have HD0 := Lib.hid hd; clear hd HD
      go_wp2_with fail
      refine (s_pick _ _ _ 16 _ HC.out (by omega) (by omega)).mono ?_; rintro e w7 ⟨q, rfl, hq1, hq2, hC7, hX7⟩
      have HD7 := Lib.hid (HD0.out.bex hX7 hbb); have HX7 := Lib.hid (HX.out.trans hX7); have HC7 := Lib.hid hC7
      clear HD0 HC HX hX7 hC7
      by_cases hq0 : q = 0
      · subst hq0
        have A1 := bel_alloc w7 (.cells #[.int .i64 0, .int .i64 0] 3)
        have lm := lit2_mine (w := w7) (x := 0) (y := 0) 3 (by unfold Fits; omega) (by unfold Fits; omega)
        have fr := HD7.out.fresh lm; have LM := Lib.hid lm.ints; have HD8 := Lib.hid (HD7.out.bex (Bex.of A1) hbb); have HC8 := Lib.hid (HC7.out.below A1); have HX8 := Lib.hid (HX7.out.trans (Bex.of A1))
        clear lm A1
        go_wp2_with (at_builtin; refine wp_rduo2 (w7.alloc (.cells #[.int .i64 0, .int .i64 0] 3)) W0.heap.size j _ xs _ j ys _ 2 2 [0, 0] _ _ rfl _ _ rfl rfl rfl (by first | rfl | simp) HD8.out LM.out fr (by omega) (by omega) ?_; intro v9 w9 hd9 hb9; have HC9 := Lib.hid (HC8.out.onB hb9 hbb); have HX9 := Lib.hid (HX8.out.thenB hb9); have HD9 := Lib.hid hd9; clear hd9 hb9)
        refine (s_pick _ _ _ 60000 _ HC9.out (by omega) (by omega)).mono ?_; rintro e w20 ⟨key, rfl, hy1, hy2, hC20, hX20⟩
        have hd20 := HD9.out.bex hX20 hbb; have hX21 := HX9.out.trans hX20
        obtain ⟨xr, xc, rfl, hRx⟩ := hd20.one.rws (by omega); obtain ⟨yr, yc, rfl, hRy⟩ := hd20.two.rws (by omega)
        rw [HW0.out] at hX21; have HRx := Lib.hid hRx; have HRy := Lib.hid hRy; have HB := Lib.hid (bel_new hX21); clear hd20 hX20 hX21 hRx hRy hC20
        go_wp2
        exact bodyPost_ret (v := .tuple #[.int .i64 p, .int .i64 key, .slice xr (j) xc, .slice yr (j + 1) yc]) (by simp [results, Try.results30, go_sem]) rfl ⟨p, key, xr, _, xc, _, yr, _, yc, _, rfl, dp.dw, by omega, HRx.out, HRy.out, HB.out⟩
      by_cases hq1' : q = 1
      · subst hq1'
        obtain ⟨b1, d1, rfl⟩ := HD7.out.one.val
        obtain ⟨b2, d2, rfl⟩ := HD7.out.two.val
        go_wp2
        go_loopw [8] (fun v W => ∃ (n1 : Nat) (xs' : List (List Int)), n1 ≤ j + 22 ∧ Hid (RDuo W W0.heap.size v n1 xs' (.slice b2 j d2) j ys) ∧ Hid (Cur W w.heap.size w.heap.size (1500000 + 2 * n1)) ∧ Hid (Bex w.heap.size W0 W)) (fun v _ => 21 - lenV v)
        case atStart => exact ⟨j, xs, by omega, HD7, (show Hid _ from HC7.out.more (by omega)), HX7⟩
        case round =>
          clear HD7 HC7 HX7
          obtain ⟨n1, xs1, hn1, HDl, HCl, HXl⟩ := hrel
          obtain ⟨b3, d3, rfl⟩ := HDl.out.one.val
          go_wp2_with fail
          refine (s_pick _ _ _ 2 _ HCl.out (by omega) (by omega)).mono ?_; rintro e w8 ⟨q2, rfl, hq3, hq4, hC8, hX8⟩
          have e2 : IntKind.i64.wrap (20 + (q2 : Int)) = 20 + (q2 : Int) := IntWalk.i64_in _ (by omega)
          have HD8 := Lib.hid (HDl.out.bex hX8 hbb); have HX8 := Lib.hid (HXl.out.trans hX8); have HC8 := Lib.hid hC8
          clear HDl HCl HXl hX8 hC8
          by_cases hlt2 : n1 < 20 + q2
          · have hlti : (n1 : Int) < 20 + (q2 : Int) := by omega
            obtain ⟨HD9, LM, fr⟩ := HD8.out.lit2 hbb (x := 1) (y := 0) 3 (by unfold Fits; omega) (by unfold Fits; omega)
            have HC9 := Lib.hid (HC8.out.below (bel_alloc _ (.cells #[.int .i64 1, .int .i64 0] 3))); have HX9 := Lib.hid (HX8.out.trans (Bex.of (bel_alloc _ (.cells #[.int .i64 1, .int .i64 0] 3))))
            go_wp2_with (at_builtin; refine wp_rduo (w8.alloc (.cells #[.int .i64 1, .int .i64 0] 3)) W0.heap.size n1 _ xs1 _ j ys _ 2 2 [1, 0] _ _ rfl _ _ rfl rfl rfl (by first | rfl | simp) HD9.out LM.out fr (by omega) (by omega) ?_; intro v10 w10 hd10 hb10; have HC10 := Lib.hid (HC9.out.onB hb10 hbb); have HX10 := Lib.hid (HX9.out.thenB hb10); have HD10 := Lib.hid hd10; obtain ⟨b4, d4, rfl⟩ := hd10.one.val; clear hd10 hb10)
            go_roundw
            case rel => exact ⟨n1 + 1, _, by omega, HD10, (show Hid _ from HC10.out.more (by omega)), HX10⟩
            case measure => simp [lenV]; omega
          · have hlti : ¬ (n1 : Int) < 20 + (q2 : Int) := by omega
            go_wp2
            go_loopw [9] (fun v W => ∃ (n2 : Nat) (ys' : List (List Int)), n2 ≤ 70000 ∧ Hid (RDuo W W0.heap.size (.slice b3 n1 d3) n1 xs1 v n2 ys') ∧ Hid (Cur W w.heap.size w.heap.size 2000000) ∧ Hid (Bex w.heap.size W0 W)) (fun v _ => n1 - lenV v)
            case atStart => exact ⟨j, ys, by omega, HD8, (show Hid _ from HC8.out.more (by omega)), HX8⟩
            case round =>
              clear HD8 HC8 HX8
              obtain ⟨n2, ys1, hn2, HDm, HCm, HXm⟩ := hrel
              obtain ⟨b5, d5, rfl⟩ := HDm.out.two.val
              by_cases hlt3 : n2 < n1
              · have hlti3 : (n2 : Int) < (n1 : Int) := by omega
                obtain ⟨HD9, LM, fr⟩ := HDm.out.lit2 hbb (x := 0) (y := 1) 3 (by unfold Fits; omega) (by unfold Fits; omega)
                have HC9 := Lib.hid (HCm.out.below (bel_alloc _ (.cells #[.int .i64 0, .int .i64 1] 3))); have HX9 := Lib.hid (HXm.out.trans (Bex.of (bel_alloc _ (.cells #[.int .i64 0, .int .i64 1] 3))))
                go_wp2_with (at_builtin; refine wp_rduo2 _ W0.heap.size n1 _ xs1 _ n2 ys1 _ 2 2 [0, 1] _ _ rfl _ _ rfl rfl rfl (by first | rfl | simp) HD9.out LM.out fr (by omega) (by omega) ?_; intro v10 w10 hd10 hb10; have HC10 := Lib.hid (HC9.out.onB hb10 hbb); have HX10 := Lib.hid (HX9.out.thenB hb10); have HD10 := Lib.hid hd10; obtain ⟨b4, d4, rfl⟩ := hd10.two.val; clear hd10 hb10)
                go_roundw
                case rel => exact ⟨n2 + 1, _, by omega, HD10, HC10, HX10⟩
                case measure => simp [lenV]; omega
              · have hlti3 : ¬ (n2 : Int) < (n1 : Int) := by omega
                go_wp2_with fail
                refine (s_pick _ _ _ 60000 _ HCm.out (by omega) (by omega)).mono ?_; rintro e w20 ⟨key, rfl, hy1, hy2, hC20, hX20⟩
                have hd20 := HDm.out.bex hX20 hbb; have hX21 := HXm.out.trans hX20
                obtain ⟨xr, xc, ex, hRx⟩ := hd20.one.rws (by omega); obtain ⟨yr, yc, ey, hRy⟩ := hd20.two.rws (by omega)
                obtain ⟨rfl, -, rfl⟩ := Value.slice.inj ex; obtain ⟨rfl, -, rfl⟩ := Value.slice.inj ey
                rw [HW0.out] at hX21; have HRx := Lib.hid hRx; have HRy := Lib.hid hRy; have HB := Lib.hid (bel_new hX21); clear hd20 hX20 hX21 hRx hRy hC20
                go_wp2
                exact bodyPost_ret (v := .tuple #[.int .i64 p, .int .i64 key, .slice b3 (n1) d3, .slice b5 (n2) d5]) (by simp [results, Try.results30, go_sem]) rfl ⟨p, key, b3, _, d3, _, b5, _, d5, _, rfl, dp.dw, by omega, HRx.out, HRy.out, HB.out⟩
      · have hn0 : ¬ (q : Int) = 0 := by omega
        have hn1 : ¬ (q : Int) = 1 := by omega
        go_wp2_with fail
        refine (s_pick _ _ _ 60000 _ HC7.out (by omega) (by omega)).mono ?_; rintro e w20 ⟨key, rfl, hy1, hy2, hC20, hX20⟩
        have hd20 := HD7.out.bex hX20 hbb; have hX21 := HX7.out.trans hX20
        obtain ⟨xr, xc, rfl, hRx⟩ := hd20.one.rws (by omega); obtain ⟨yr, yc, rfl, hRy⟩ := hd20.two.rws (by omega)
        rw [HW0.out] at hX21; have HRx := Lib.hid hRx; have HRy := Lib.hid hRy; have HB := Lib.hid (bel_new hX21); clear hd20 hX20 hX21 hRx hRy hC20
        go_wp2
        exact bodyPost_ret (v := .tuple #[.int .i64 p, .int .i64 key, .slice xr (j) xc, .slice yr (j) yc]) (by simp [results, Try.results30, go_sem]) rfl ⟨p, key, xr, _, xc, _, yr, _, yc, _, rfl, dp.dw, by omega, HRx.out, HRy.out, HB.out⟩
end Go.Proofs.Ytfandnakenpfnaa
