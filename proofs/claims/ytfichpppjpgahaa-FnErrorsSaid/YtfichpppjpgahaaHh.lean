/-
  The draw of holders and their shares.
-/
import Derived.Test.YtfichpppjpgahaaHg
import Derived.Test.YtfichpppjpgahaaEl
import Derived.Test.YtfichpppjpgahaaRQ
import Derived.Deep.RegionLaw
import Derived.BigRegion
namespace Go.Proofs.Ytfichpppjpgahaa
open Go.RowKit
set_option linter.unusedVariables false
set_option linter.unusedSimpArgs false
set_option maxRecDepth 20000

theorem s_l1LeastH (a b : Int) (w : World) :
    Calls Try.prog 123 #[.int .i64 a, .int .i64 b] w fun e w' => ∃ r : Int, e = .returned (.int .i64 r) ∧ r ≤ a ∧ r ≤ b ∧ (r = a ∨ r = b) ∧ w = w' := by
  by_cases h : a < b
  · go_enter Try.func123, Try.ntmps123
    go_wp2
    go_ret
    exact ⟨a, rfl, by omega, by omega, Or.inl rfl, rfl⟩
  · go_enter Try.func123, Try.ntmps123
    go_wp2
    go_ret
    exact ⟨b, rfl, by omega, by omega, Or.inr rfl, rfl⟩
theorem Mine.takeQ {w : World} {B n cap k : Nat} {b off : Nat} {xs : List Int} (h : Mine w B (some ⟨b, off, none⟩) n cap xs) (hk : k ≤ n) : Mine w B (some ⟨b, off, none⟩) k cap (xs.take k) :=
  ⟨h.ints.take hk, fun h0 g o e => h.place.out (by omega) g o e, fun i hi g o e => h.free.out i (by omega) g o e⟩
theorem Bex.belowB {b : Nat} {w0 w w' : World} (h : Bex b w0 w) (hb : Below w.heap.size w w') : Bex b w0 w' := h.trans (Bex.of hb)
def HeldRet (b B K : Nat) (w : World) (e : Ending) (w' : World) : Prop :=
  ∃ (p : Int) (r : Option Addr) (n c : Nat) (xs : List Int) (r' : Option Addr) (n' c' : Nat) (ys : List Int) (t : Nat), e = .returned (.tuple #[.int .i64 p, .slice r n c, .slice r' n' c', .int .i64 t]) ∧ (2 ≤ p ∧ p ≤ 251) ∧ Mine w' w.heap.size r n c xs ∧ Mine w' w.heap.size r' n' c' ys ∧ n ≤ 11 ∧ n' ≤ 11 ∧ Cur w' b B (K + 400) ∧ Bex b w w'
set_option maxHeartbeats 16000000 in
theorem s_held (b B K : Nat) (w : World) (h : Cur w b B K) (hK : K ≤ 100000000) :
    Calls Try.prog 80 #[.pointer (some ⟨b, 0, none⟩)] w (HeldRet b B K w) := by
  have hbl := h.lt
  have hbB := h.base
  obtain ⟨hCa, hIa, hOa, hXa⟩ := among_lit (t := 3) [5, 7, 11, 13, 101, 251] h rfl rfl (by simp) (by intro x hx; simp at hx; unfold Fits; omega)
  go_enter Try.func80, Try.ntmps80
  go_wp2_with fail
  refine (s_among _ _ _ _ 6 6 [5, 7, 11, 13, 101, 251] _ hCa (by omega) hIa (by omega) (by omega) hOa).mono ?_; rintro e w1 ⟨p, rfl, hp, hC1, hX1⟩
  have hp5 : 5 ≤ p ∧ p ≤ 251 := by simp at hp; omega
  have HC1 := Lib.hid hC1; have HX1 := Lib.hid (hXa.trans hX1); clear hC1 hX1 hCa hIa hOa hXa h hp
  go_wp2_with fail
  refine (s_l1LeastH _ _ _).mono ?_; rintro e w2 ⟨m7, rfl, hm1, hm2, hm3, rfl⟩
  have hm7 : 4 ≤ m7 ∧ m7 ≤ 7 := by omega
  clear hm1 hm2 hm3
  go_wp2_with fail
  refine (s_pick _ _ _ m7 _ HC1.out (by omega) (by omega)).mono ?_; rintro e w2 ⟨n0, rfl, hn1, hn2, hC2, hX2⟩
  have HC2 := Lib.hid hC2; have HX2 := Lib.hid (HX1.out.trans hX2); clear hC2 hX2 HC1 HX1
  obtain ⟨n, hn⟩ : ∃ n : Nat, n = 1 + n0 := ⟨_, rfl⟩
  have hnI : (1 : Int) + (n0 : Int) = (n : Int) := by omega
  have hn7 : 1 ≤ n ∧ n ≤ 7 := by omega
  have HNI := Lib.hid hn; clear hn hn1 hn2
  go_wp2_with fail
  refine (s_pick _ _ _ (n : Int) _ HC2.out (by omega) (by omega)).mono ?_; rintro e w3 ⟨t0, rfl, ht1, ht2, hC3, hX3⟩
  have HC3 := Lib.hid hC3; have HX3 := Lib.hid (HX2.out.trans hX3); clear hC3 hX3 HC2 HX2
  obtain ⟨t, ht⟩ : ∃ t : Nat, t = 1 + t0 := ⟨_, rfl⟩
  have htI : (1 : Int) + (t0 : Int) = (t : Int) := by omega
  have htn : 1 ≤ t ∧ t ≤ n := by omega
  have HTI := Lib.hid ht; clear ht ht1 ht2
  go_wp2_with fail
  refine (s_pick _ _ _ 9000 _ HC3.out (by omega) (by omega)).mono ?_; rintro e w4 ⟨key, rfl, hk1, hk2, hC4, hX4⟩
  have HC4 := Lib.hid hC4; have HX4 := Lib.hid (HX3.out.trans hX4); clear hC4 hX4 HC3 HX3
  go_wp2_with fail
  refine (s_pick _ _ _ p _ HC4.out (by omega) (by omega)).mono ?_; rintro e w5 ⟨v, rfl, hv1, hv2, hC5, hX5⟩
  have hvp : (v : Int) < p := by omega
  have HC5 := Lib.hid hC5; have HX5 := Lib.hid (HX4.out.trans hX5); clear hC5 hX5 HC4 HX4 hv1 hv2
  have hz5 := HX5.out.size
  go_wp2_with fail
  refine (s_thSplit p key v n (t - 1) _ ⟨by omega, by omega⟩ ⟨by omega, by omega⟩ ⟨by omega, by omega⟩ (by omega) (by omega) _ (by omega)).mono ?_; rintro e w6 ⟨yr, yc, rfl, hm6, hb6⟩
  have HYR := Lib.hid (spL_res (p := p) (by omega) (cfL p key v (t - 1)) n)
  have HYL := Lib.hid (spL_len p (cfL p key v (t - 1)) n)
  generalize spL p (cfL p key v (t - 1)) n = ys at hm6 HYR HYL
  have HY := Lib.hid (hm6.base hz5); have HC6 := Lib.hid ((HC5.out.below hb6).more (K' := K + 100) (by omega)); have HX6 := Lib.hid (HX5.out.belowB hb6)
  clear hm6 hb6 HC5 HX5
  have hz6 := HX6.out.size
  go_wp2
  go_loopw [10, 11] (fun v1 i W => ∃ j : Nat, j ≤ n ∧ i = .int .i64 ((j : Int) + 1) ∧ Hid (∃ xs, W.ownsRow w6.heap.size 3 1 v1 j (ivs xs) ∧ ∀ x ∈ xs, Fits x) ∧ Hid (Below w6.heap.size w6 W)) (fun _ i _ => n + 1 - (intOf i).toNat)
  case atStart => exact ⟨0, by omega, rfl, (show Hid _ from ⟨[], World.ownsRow_nil _ _ _ _, by simp⟩), Below.refl _ _⟩
  case round =>
    obtain ⟨j, hj, rfl, HO, HB⟩ := hrel
    obtain ⟨wj, rfl⟩ : ∃ wj : World, wj = wr := ⟨_, rfl⟩
    have hzj := HB.out.size
    obtain ⟨xs, ho, hf⟩ := HO.out
    have HOO := Lib.hid ho; have HF := Lib.hid hf; clear ho hf HO
    by_cases hjn : j < n
    · have hji : (j : Int) + 1 ≤ (n : Int) := by omega
      go_wp2_with (at_builtin; refine wp_app wj w6.heap.size j _ xs ((j : Int) + 1) _ _ rfl _ _ rfl rfl rfl (by first | rfl | simp) HOO.out hzj (by omega) ?_; intro v9 w9 hv9 hb9 hg9)
      clear hg9
      go_roundw
      case rel => exact ⟨j + 1, by omega, by first | go_num | (simp; omega), (show Hid _ from ⟨_, hv9, fun y hy => by rcases List.mem_append.1 hy with q | q; (exact HF.out y q); (simp at q; rw [q]; unfold Fits; omega)⟩), HB.out.trans hb9⟩
      case measure => first | (simp [intOf]; done) | (simp [intOf]; omega)
    · obtain rfl : j = n := by omega
      have hji : ¬ (j : Int) + 1 ≤ (j : Int) := by omega
      obtain ⟨xr, xc, rfl, hmx⟩ := Mine.of HOO.out (by omega) HF.out
      have HM0 := Lib.hid (hmx.base hz6); have HMP := Lib.hid hmx.pl
      have HY0 := Lib.hid (HY.out.below HB.out); have HYP := Lib.hid HY.out.pl
      have HC7 := Lib.hid (HC6.out.below HB.out); have HX7 := Lib.hid (HX6.out.belowB HB.out)
      clear hmx HOO HF HB HC6 HX6 HY
      go_wp2_with fail
      refine (s_pick _ _ _ 8 _ HC7.out (by omega) (by omega)).mono ?_; rintro e w8 ⟨s, rfl, hs1, hs2, hC8, hX8⟩
      have hs8 : s < 8 := by omega
      have HX := Lib.hid (HM0.out.bex hX8 hbl); have HY := Lib.hid (HY0.out.bex hX8 hbl); have HC := Lib.hid (hC8.more (K' := K + 110) (by omega)); have HBX := Lib.hid (HX7.out.trans hX8)
      clear hC8 hX8 HM0 HY0 HC7 HX7 hs1 hs2
      have hz8 := HBX.out.size
      obtain ⟨yb, yo, rfl, _, _⟩ := HY.out.ints.at (i := 0) (by omega)
      obtain ⟨xb, xo, rfl, _, _⟩ := HX.out.ints.at (i := 0) (by omega)
      have hap := Lib.hid (Apart.of HMP.out HYP.out (Or.inr (Nat.le_refl _)))
      by_cases hs0 : s = 0
      · subst hs0
        go_wp2_with fail
        refine (s_pick _ _ _ (j : Int) _ HC.out (by omega) (by omega)).mono ?_; rintro e wk ⟨kk, rfl, hk3, hk4, hCn, hXn⟩
        replace HX := Lib.hid (HX.out.bex hXn hbl); replace HY := Lib.hid (HY.out.bex hXn hbl); replace HC := Lib.hid (hCn.more (K' := K + 120) (by omega)); replace HBX := Lib.hid (HBX.out.trans hXn)
        clear hCn hXn
        have hkj : kk < j := by omega
        have hkI : (kk : Int) < (j : Int) := by omega
        obtain ⟨yb2, yo2, ey, y1, y2, y3, y4⟩ := HY.out.at (i := kk) hkj
        simp only [Option.some.injEq, Addr.mk.injEq] at ey
        obtain ⟨rfl, rfl, _⟩ := ey
        have yr := HYR.out.at (i := kk) (by rw [HYL.out]; exact hkj)
        have zk := HBX.out.size
        have hp0 : ¬ p = 0 := by omega
        have e1 : IntKind.i64.wrap (nth ys kk + 1) = nth ys kk + 1 := IntWalk.i64_in _ (by omega)
        have e2 : IntKind.i64.wrap (p - 1) = p - 1 := IntWalk.i64_in _ (by omega)
        have HPK := Lib.hid (fun W hW => s_pick b B (K + 120) (p - 1) W hW (by omega) (by omega))
        have ylt := (HY.out.place.out (by omega) _ _ rfl).2
        go_wp2
        go_region_law (first | (go_simp; go_at_call 59; refine (HPK.out _ (HC.out.below (by (repeat (first | exact Below.refl _ _ | assumption | refine bel_trans ?_ (bel_alloc _ _) | refine bel_set ?_ (by first | (dsimp only; omega) | (simp; omega) | simp) _ | refine bel_trans ?_ (bel_drewN _ _) | refine bel_trans ?_ (bel_drew _) | refine bel_trans ?_ (by assumption)))))).mono ?_; rintro e wp ⟨r5, rfl, hr5, hr6, hCn, hXn⟩; have e3 : IntKind.i64.wrap (nth ys kk + 1 + (r5 : Int)) = nth ys kk + 1 + (r5 : Int) := IntWalk.i64_in _ (by omega); have e4 : (nth ys kk + 1 + (r5 : Int)).tmod p = (nth ys kk + 1 + (r5 : Int)) % p := Int.tmod_eq_emod_of_nonneg (by omega); have y5 : wp.cell? ⟨yb, yo + kk, none⟩ = some (.int .i64 (nth ys kk)) := hXn.cell y3 (by omega); have y6 : wp.frozen? ⟨yb, yo + kk, none⟩ = false := (hXn.frozen ylt (by omega)).trans y4))
        all_goals
          have HXp := Lib.hid ((HX.out.below (bel_drew wk)).bex hXn hbl)
          have HYp := Lib.hid ((HY.out.below (bel_drew wk)).bex hXn hbl)
          have HBp := Lib.hid ((HBX.out.belowB (bel_drew wk)).trans hXn)
          have zp := HBp.out.size
          have em := emod_bd (n := nth ys kk + 1 + (r5 : Int)) (p := p) (by omega)
          have HYS := Lib.hid (HYp.out.set (i := kk) hkj ((nth ys kk + 1 + (r5 : Int)) % p) (by unfold Fits; omega))
          have HXS := Lib.hid (HXp.out.onlyA (a := some ⟨yb, yo, none⟩) (m := j) ((OnlyM.refl _ _ wp).setCell (i := yo + kk) (by omega) (.int .i64 ((nth ys kk + 1 + (r5 : Int)) % p))) hap.out)
          have HCS := Lib.hid (hCn.store (p := ⟨yb, yo + kk, none⟩) (u := .int .i64 ((nth ys kk + 1 + (r5 : Int)) % p)) (by simp only []; omega) (by simp only []; omega))
          have HBS := Lib.hid (HBp.out.store (p := ⟨yb, yo + kk, none⟩) (by simp only []; omega) (.int .i64 ((nth ys kk + 1 + (r5 : Int)) % p)))
          clear HX HY HC HBX hap HXp HYp HBp hCn hXn y3 y4 y5 y6 HPK
          go_wp2_with fail
          refine (s_one _ _ _ 16 _ HCS.out (by omega) (by omega)).mono ?_; rintro e wxa ⟨qa, rfl, hCn, hXn⟩
          have HX := Lib.hid (HXS.out.bex hXn hbl); have HY := Lib.hid (HYS.out.bex hXn hbl); have HC := Lib.hid (hCn.more (K' := K + 200) (by omega)); have HBX := Lib.hid (HBS.out.trans hXn)
          clear hCn hXn HXS HYS HCS HBS
          cases qa with
          | false =>
            go_wp2_with fail
            refine (s_one _ _ _ 24 _ HC.out (by omega) (by omega)).mono ?_; rintro e wxc ⟨qb, rfl, hCn, hXn⟩
            replace HX := Lib.hid (HX.out.bex hXn hbl); replace HY := Lib.hid (HY.out.bex hXn hbl); replace HC := Lib.hid (hCn.more (K' := K + 220) (by omega)); replace HBX := Lib.hid (HBX.out.trans hXn)
            clear hCn hXn
            cases qb with
            | false =>
              go_wp2
              exact bodyPost_ret (v := .tuple #[.int .i64 p, .slice (some ⟨xb, xo, none⟩) j xc, .slice (some ⟨yb, yo, none⟩) j yc, .int .i64 t]) (by simp [results, Try.results80, go_sem]) rfl ⟨p, (some ⟨xb, xo, none⟩), _, xc, _, (some ⟨yb, yo, none⟩), _, yc, _, t, rfl, by omega, HX.out, HY.out, by omega, by omega, HC.out.more (by omega), HBX.out⟩
            | true =>
              clear HX HY
              have z0 := HBX.out.size
              go_wp2_with fail
              refine (s_pick _ _ _ 8 _ HC.out (by omega) (by omega)).mono ?_; rintro e wxd ⟨t8, rfl, ht8, ht9, hCn, hXn⟩
              replace HC := Lib.hid (hCn.more (K' := K + 230) (by omega)); replace HBX := Lib.hid (HBX.out.trans hXn)
              clear hCn hXn
              have ht10 : t8 ≤ 7 := by omega
              obtain ⟨tt, htt⟩ : ∃ tt : Nat, tt = 1 + t8 := ⟨_, rfl⟩
              have httI : (1 : Int) + (t8 : Int) = (tt : Int) := by omega
              have htt8 : 1 ≤ tt ∧ tt ≤ 8 := by omega
              clear htt ht8 ht9
              go_wp2_with fail
              refine (s_pick _ _ _ 9000 _ HC.out (by omega) (by omega)).mono ?_; rintro e wxe ⟨key2, rfl, hk3, hk4, hCn, hXn⟩
              replace HC := Lib.hid (hCn.more (K' := K + 240) (by omega)); replace HBX := Lib.hid (HBX.out.trans hXn)
              clear hCn hXn
              go_wp2_with fail
              refine (s_pick _ _ _ 101 _ HC.out (by omega) (by omega)).mono ?_; rintro e wxf ⟨v2, rfl, hv3, hv4, hCn, hXn⟩
              replace HC := Lib.hid (hCn.more (K' := K + 250) (by omega)); replace HBX := Lib.hid (HBX.out.trans hXn)
              clear hCn hXn
              have hvp2 : (v2 : Int) < 101 := by omega
              go_wp2_with fail
              refine (s_pick _ _ _ 2 _ HC.out (by omega) (by omega)).mono ?_; rintro e wxg ⟨n2, rfl, hn3, hn4, hCn, hXn⟩
              replace HC := Lib.hid (hCn.more (K' := K + 260) (by omega)); replace HBX := Lib.hid (HBX.out.trans hXn)
              clear hCn hXn
              obtain ⟨nn, hnn⟩ : ∃ nn : Nat, nn = 10 + n2 := ⟨_, rfl⟩
              have hnnI : (10 : Int) + (n2 : Int) = (nn : Int) := by omega
              have hnn8 : 10 ≤ nn ∧ nn ≤ 11 := by omega
              clear hnn hn3 hn4 hv3 hv4
              have z1 := HBX.out.size
              go_wp2_with fail
              refine (s_thSplit 101 key2 v2 nn (tt - 1) _ ⟨by omega, by omega⟩ ⟨by omega, by omega⟩ ⟨by omega, by omega⟩ (by omega) (by omega) _ (by omega)).mono ?_; rintro e wxh ⟨yr2, yc2, rfl, hm9, hb9⟩
              have HYR2 := Lib.hid (spL_res (p := 101) (by omega) (cfL 101 key2 v2 (tt - 1)) nn)
              have HYL2 := Lib.hid (spL_len 101 (cfL 101 key2 v2 (tt - 1)) nn)
              generalize spL 101 (cfL 101 key2 v2 (tt - 1)) nn = ys2 at hm9 HYR2 HYL2
              have HY := Lib.hid (hm9.base z1); replace HC := Lib.hid (HC.out.below hb9); replace HBX := Lib.hid (HBX.out.belowB hb9)
              have HYP2 := Lib.hid HY.out.pl
              clear hm9 hb9
              have z2 := HBX.out.size
              go_wp2
              go_loopw [10, 116] (fun v1 i W => ∃ q : Nat, q ≤ nn ∧ i = .int .i64 q ∧ Hid (∃ xs, W.ownsRow wxh.heap.size 3 1 v1 q (ivs xs) ∧ ∀ x ∈ xs, Fits x) ∧ Hid (Below wxh.heap.size wxh W)) (fun _ i _ => nn - (intOf i).toNat)
              case atStart => exact ⟨0, by omega, rfl, (show Hid _ from ⟨[], World.ownsRow_nil _ _ _ _, by simp⟩), Below.refl _ _⟩
              case round =>
                obtain ⟨q, hq, rfl, HO, HB⟩ := hrel
                obtain ⟨wq, rfl⟩ : ∃ wq : World, wq = wr := ⟨_, rfl⟩
                have hzq := HB.out.size
                obtain ⟨xs2, ho, hf⟩ := HO.out
                have HOO := Lib.hid ho; have HF := Lib.hid hf; clear ho hf HO
                by_cases hqn : q < nn
                · have hqi : (q : Int) < (nn : Int) := by omega
                  go_wp2_with (at_builtin; refine wp_app wq wxh.heap.size q _ xs2 ((q : Int) + 1) _ _ rfl _ _ rfl rfl rfl (by first | rfl | simp) HOO.out hzq (by omega) ?_; intro v9 w9 hv9 hb9 hg9)
                  clear hg9
                  go_roundw
                  case rel => exact ⟨q + 1, by omega, by go_num, (show Hid _ from ⟨_, hv9, fun y hy => by rcases List.mem_append.1 hy with q | q; (exact HF.out y q); (simp at q; rw [q]; unfold Fits; omega)⟩), HB.out.trans hb9⟩
                  case measure => first | (simp [intOf]; done) | (simp [intOf]; omega)
                · obtain rfl : q = nn := by omega
                  obtain ⟨xr2, xc2, rfl, hmx⟩ := Mine.of HOO.out (by omega) HF.out
                  have HX := Lib.hid (hmx.base z2); have HXP2 := Lib.hid hmx.pl
                  replace HY := Lib.hid (HY.out.below HB.out); replace HC := Lib.hid (HC.out.below HB.out); replace HBX := Lib.hid (HBX.out.belowB HB.out)
                  clear hmx HOO HF HB
                  go_wp2_with fail
                  refine (s_one _ _ _ 3 _ HC.out (by omega) (by omega)).mono ?_; rintro e wxi ⟨qc, rfl, hCn, hXn⟩
                  replace HX := Lib.hid (HX.out.bex hXn hbl); replace HY := Lib.hid (HY.out.bex hXn hbl); replace HC := Lib.hid (hCn.more (K' := K + 270) (by omega)); replace HBX := Lib.hid (HBX.out.trans hXn)
                  clear hCn hXn
                  cases qc with
                  | false =>
                    go_wp2
                    exact bodyPost_ret (v := .tuple #[.int .i64 101, .slice xr2 q xc2, .slice yr2 q yc2, .int .i64 tt]) (by simp [results, Try.results80, go_sem]) rfl ⟨101, xr2, _, xc2, _, yr2, _, yc2, _, tt, rfl, by omega, HX.out, HY.out, by omega, by omega, HC.out.more (by omega), HBX.out⟩
                  | true =>
                    obtain ⟨yb2, yo2, rfl, y1, y2, y3, y4⟩ := HY.out.at (i := 2) (by omega)
                    have hq2 : (2 : Int) < (q : Int) := by omega
                    have yr := HYR2.out.at (i := 2) (by rw [HYL2.out]; omega)
                    have e101 := emod_bd (n := nth ys2 2 + 1) (p := 101) (by omega)
                    have HYS := Lib.hid (HY.out.set (i := 2) (by omega) ((nth ys2 2 + 1) % 101) (by unfold Fits; omega))
                    have HXS : Hid (∀ u, Mine (wxi.setCell ⟨yb2, yo2 + 2, none⟩ u) w.heap.size xr2 q xc2 xs2) := fun u => HX.out.onlyA (a := some ⟨yb2, yo2, none⟩) (m := q) ((OnlyM.refl _ _ _).setCell (by omega) u) (Apart.of HXP2.out HYP2.out (Or.inr (Nat.le_refl _)))
                    have HCS : Hid (∀ u, Cur (wxi.setCell ⟨yb2, yo2 + 2, none⟩ u) b B (K + 270)) := fun u => HC.out.store (p := ⟨yb2, yo2 + 2, none⟩) (by simp only []; omega) (by simp only []; omega)
                    have HBS : Hid (∀ u, Bex b w (wxi.setCell ⟨yb2, yo2 + 2, none⟩ u)) := fun u => HBX.out.store (p := ⟨yb2, yo2 + 2, none⟩) (by simp only []; omega) u
                    clear HX HY HC HBX HYR2
                    go_wp2
                    exact bodyPost_ret (v := .tuple #[.int .i64 101, .slice xr2 q xc2, .slice (some ⟨yb2, yo2, none⟩) q yc2, .int .i64 tt]) (by simp [results, Try.results80, go_sem]) rfl ⟨101, xr2, _, xc2, _, _, _, yc2, _, tt, rfl, by omega, HXS.out _, HYS.out, by omega, by omega, (HCS.out _).more (by omega), HBS.out _⟩
          | true =>
            obtain ⟨hCl, hIl, hOl, hXl⟩ := among_lit (t := 3) [0, (j : Int) + 1] HC.out rfl rfl (by simp) (by intro x hx; simp at hx; unfold Fits; rcases hx with rfl | rfl <;> omega)
            have HXl := Lib.hid (HX.out.bex hXl hbl); have HYl := Lib.hid (HY.out.bex hXl hbl); have HBl := Lib.hid (HBX.out.trans hXl)
            go_wp2_with fail
            refine (s_among _ _ _ _ 2 2 [0, (j : Int) + 1] _ hCl (by omega) hIl (by omega) (by omega) hOl).mono ?_; rintro e wxb ⟨tx, rfl, htx, hCn, hXn⟩
            have htx2 : 0 ≤ tx ∧ tx ≤ 12 := by simp at htx; rcases htx with rfl | rfl <;> omega
            obtain ⟨tz, rfl⟩ : ∃ tz : Nat, tx = tz := ⟨tx.toNat, by omega⟩
            replace HX := Lib.hid (HXl.out.bex hXn hbl); replace HY := Lib.hid (HYl.out.bex hXn hbl); replace HC := Lib.hid (hCn.more (K' := K + 210) (by omega)); replace HBX := Lib.hid (HBl.out.trans hXn)
            clear hCn hXn HXl HYl HBl hCl hIl hOl hXl htx
            go_wp2_with fail
            refine (s_one _ _ _ 24 _ HC.out (by omega) (by omega)).mono ?_; rintro e wxc ⟨qb, rfl, hCn, hXn⟩
            replace HX := Lib.hid (HX.out.bex hXn hbl); replace HY := Lib.hid (HY.out.bex hXn hbl); replace HC := Lib.hid (hCn.more (K' := K + 220) (by omega)); replace HBX := Lib.hid (HBX.out.trans hXn)
            clear hCn hXn
            cases qb with
            | false =>
              go_wp2
              exact bodyPost_ret (v := .tuple #[.int .i64 p, .slice (some ⟨xb, xo, none⟩) j xc, .slice (some ⟨yb, yo, none⟩) j yc, .int .i64 tz]) (by simp [results, Try.results80, go_sem]) rfl ⟨p, (some ⟨xb, xo, none⟩), _, xc, _, (some ⟨yb, yo, none⟩), _, yc, _, tz, rfl, by omega, HX.out, HY.out, by omega, by omega, HC.out.more (by omega), HBX.out⟩
            | true =>
              clear HX HY
              have z0 := HBX.out.size
              go_wp2_with fail
              refine (s_pick _ _ _ 8 _ HC.out (by omega) (by omega)).mono ?_; rintro e wxd ⟨t8, rfl, ht8, ht9, hCn, hXn⟩
              replace HC := Lib.hid (hCn.more (K' := K + 230) (by omega)); replace HBX := Lib.hid (HBX.out.trans hXn)
              clear hCn hXn
              have ht10 : t8 ≤ 7 := by omega
              obtain ⟨tt, htt⟩ : ∃ tt : Nat, tt = 1 + t8 := ⟨_, rfl⟩
              have httI : (1 : Int) + (t8 : Int) = (tt : Int) := by omega
              have htt8 : 1 ≤ tt ∧ tt ≤ 8 := by omega
              clear htt ht8 ht9
              go_wp2_with fail
              refine (s_pick _ _ _ 9000 _ HC.out (by omega) (by omega)).mono ?_; rintro e wxe ⟨key2, rfl, hk3, hk4, hCn, hXn⟩
              replace HC := Lib.hid (hCn.more (K' := K + 240) (by omega)); replace HBX := Lib.hid (HBX.out.trans hXn)
              clear hCn hXn
              go_wp2_with fail
              refine (s_pick _ _ _ 101 _ HC.out (by omega) (by omega)).mono ?_; rintro e wxf ⟨v2, rfl, hv3, hv4, hCn, hXn⟩
              replace HC := Lib.hid (hCn.more (K' := K + 250) (by omega)); replace HBX := Lib.hid (HBX.out.trans hXn)
              clear hCn hXn
              have hvp2 : (v2 : Int) < 101 := by omega
              go_wp2_with fail
              refine (s_pick _ _ _ 2 _ HC.out (by omega) (by omega)).mono ?_; rintro e wxg ⟨n2, rfl, hn3, hn4, hCn, hXn⟩
              replace HC := Lib.hid (hCn.more (K' := K + 260) (by omega)); replace HBX := Lib.hid (HBX.out.trans hXn)
              clear hCn hXn
              obtain ⟨nn, hnn⟩ : ∃ nn : Nat, nn = 10 + n2 := ⟨_, rfl⟩
              have hnnI : (10 : Int) + (n2 : Int) = (nn : Int) := by omega
              have hnn8 : 10 ≤ nn ∧ nn ≤ 11 := by omega
              clear hnn hn3 hn4 hv3 hv4
              have z1 := HBX.out.size
              go_wp2_with fail
              refine (s_thSplit 101 key2 v2 nn (tt - 1) _ ⟨by omega, by omega⟩ ⟨by omega, by omega⟩ ⟨by omega, by omega⟩ (by omega) (by omega) _ (by omega)).mono ?_; rintro e wxh ⟨yr2, yc2, rfl, hm9, hb9⟩
              have HYR2 := Lib.hid (spL_res (p := 101) (by omega) (cfL 101 key2 v2 (tt - 1)) nn)
              have HYL2 := Lib.hid (spL_len 101 (cfL 101 key2 v2 (tt - 1)) nn)
              generalize spL 101 (cfL 101 key2 v2 (tt - 1)) nn = ys2 at hm9 HYR2 HYL2
              have HY := Lib.hid (hm9.base z1); replace HC := Lib.hid (HC.out.below hb9); replace HBX := Lib.hid (HBX.out.belowB hb9)
              have HYP2 := Lib.hid HY.out.pl
              clear hm9 hb9
              have z2 := HBX.out.size
              go_wp2
              go_loopw [10, 116] (fun v1 i W => ∃ q : Nat, q ≤ nn ∧ i = .int .i64 q ∧ Hid (∃ xs, W.ownsRow wxh.heap.size 3 1 v1 q (ivs xs) ∧ ∀ x ∈ xs, Fits x) ∧ Hid (Below wxh.heap.size wxh W)) (fun _ i _ => nn - (intOf i).toNat)
              case atStart => exact ⟨0, by omega, rfl, (show Hid _ from ⟨[], World.ownsRow_nil _ _ _ _, by simp⟩), Below.refl _ _⟩
              case round =>
                obtain ⟨q, hq, rfl, HO, HB⟩ := hrel
                obtain ⟨wq, rfl⟩ : ∃ wq : World, wq = wr := ⟨_, rfl⟩
                have hzq := HB.out.size
                obtain ⟨xs2, ho, hf⟩ := HO.out
                have HOO := Lib.hid ho; have HF := Lib.hid hf; clear ho hf HO
                by_cases hqn : q < nn
                · have hqi : (q : Int) < (nn : Int) := by omega
                  go_wp2_with (at_builtin; refine wp_app wq wxh.heap.size q _ xs2 ((q : Int) + 1) _ _ rfl _ _ rfl rfl rfl (by first | rfl | simp) HOO.out hzq (by omega) ?_; intro v9 w9 hv9 hb9 hg9)
                  clear hg9
                  go_roundw
                  case rel => exact ⟨q + 1, by omega, by go_num, (show Hid _ from ⟨_, hv9, fun y hy => by rcases List.mem_append.1 hy with q | q; (exact HF.out y q); (simp at q; rw [q]; unfold Fits; omega)⟩), HB.out.trans hb9⟩
                  case measure => first | (simp [intOf]; done) | (simp [intOf]; omega)
                · obtain rfl : q = nn := by omega
                  obtain ⟨xr2, xc2, rfl, hmx⟩ := Mine.of HOO.out (by omega) HF.out
                  have HX := Lib.hid (hmx.base z2); have HXP2 := Lib.hid hmx.pl
                  replace HY := Lib.hid (HY.out.below HB.out); replace HC := Lib.hid (HC.out.below HB.out); replace HBX := Lib.hid (HBX.out.belowB HB.out)
                  clear hmx HOO HF HB
                  go_wp2_with fail
                  refine (s_one _ _ _ 3 _ HC.out (by omega) (by omega)).mono ?_; rintro e wxi ⟨qc, rfl, hCn, hXn⟩
                  replace HX := Lib.hid (HX.out.bex hXn hbl); replace HY := Lib.hid (HY.out.bex hXn hbl); replace HC := Lib.hid (hCn.more (K' := K + 270) (by omega)); replace HBX := Lib.hid (HBX.out.trans hXn)
                  clear hCn hXn
                  cases qc with
                  | false =>
                    go_wp2
                    exact bodyPost_ret (v := .tuple #[.int .i64 101, .slice xr2 q xc2, .slice yr2 q yc2, .int .i64 tt]) (by simp [results, Try.results80, go_sem]) rfl ⟨101, xr2, _, xc2, _, yr2, _, yc2, _, tt, rfl, by omega, HX.out, HY.out, by omega, by omega, HC.out.more (by omega), HBX.out⟩
                  | true =>
                    obtain ⟨yb2, yo2, rfl, y1, y2, y3, y4⟩ := HY.out.at (i := 2) (by omega)
                    have hq2 : (2 : Int) < (q : Int) := by omega
                    have yr := HYR2.out.at (i := 2) (by rw [HYL2.out]; omega)
                    have e101 := emod_bd (n := nth ys2 2 + 1) (p := 101) (by omega)
                    have HYS := Lib.hid (HY.out.set (i := 2) (by omega) ((nth ys2 2 + 1) % 101) (by unfold Fits; omega))
                    have HXS : Hid (∀ u, Mine (wxi.setCell ⟨yb2, yo2 + 2, none⟩ u) w.heap.size xr2 q xc2 xs2) := fun u => HX.out.onlyA (a := some ⟨yb2, yo2, none⟩) (m := q) ((OnlyM.refl _ _ _).setCell (by omega) u) (Apart.of HXP2.out HYP2.out (Or.inr (Nat.le_refl _)))
                    have HCS : Hid (∀ u, Cur (wxi.setCell ⟨yb2, yo2 + 2, none⟩ u) b B (K + 270)) := fun u => HC.out.store (p := ⟨yb2, yo2 + 2, none⟩) (by simp only []; omega) (by simp only []; omega)
                    have HBS : Hid (∀ u, Bex b w (wxi.setCell ⟨yb2, yo2 + 2, none⟩ u)) := fun u => HBX.out.store (p := ⟨yb2, yo2 + 2, none⟩) (by simp only []; omega) u
                    clear HX HY HC HBX HYR2
                    go_wp2
                    exact bodyPost_ret (v := .tuple #[.int .i64 101, .slice xr2 q xc2, .slice (some ⟨yb2, yo2, none⟩) q yc2, .int .i64 tt]) (by simp [results, Try.results80, go_sem]) rfl ⟨101, xr2, _, xc2, _, _, _, yc2, _, tt, rfl, by omega, HXS.out _, HYS.out, by omega, by omega, (HCS.out _).more (by omega), HBS.out _⟩
      by_cases hs1 : s = 1
      · subst hs1
        go_wp2_with fail
        refine (s_pick _ _ _ (j : Int) _ HC.out (by omega) (by omega)).mono ?_; rintro e wk ⟨kk, rfl, hk3, hk4, hCn, hXn⟩
        replace HX := Lib.hid (HX.out.bex hXn hbl); replace HY := Lib.hid (HY.out.bex hXn hbl); replace HC := Lib.hid (hCn.more (K' := K + 120) (by omega)); replace HBX := Lib.hid (HBX.out.trans hXn)
        clear hCn hXn
        have hkj : kk < j := by omega
        have hkI : (kk : Int) < (j : Int) := by omega
        obtain ⟨yb2, yo2, ey, y1, y2, y3, y4⟩ := HY.out.at (i := kk) hkj
        simp only [Option.some.injEq, Addr.mk.injEq] at ey
        obtain ⟨rfl, rfl, _⟩ := ey
        have yr := HYR.out.at (i := kk) (by rw [HYL.out]; exact hkj)
        have zk := HBX.out.size
        have hp0 : ¬ p = 0 := by omega
        have e1 : IntKind.i64.wrap (nth ys kk + 1) = nth ys kk + 1 := IntWalk.i64_in _ (by omega)
        have e2 : IntKind.i64.wrap (p - 1) = p - 1 := IntWalk.i64_in _ (by omega)
        have HPK := Lib.hid (fun W hW => s_pick b B (K + 120) (p - 1) W hW (by omega) (by omega))
        have ylt := (HY.out.place.out (by omega) _ _ rfl).2
        go_wp2
        go_region_law (first | (go_simp; go_at_call 59; refine (HPK.out _ (HC.out.below (by (repeat (first | exact Below.refl _ _ | assumption | refine bel_trans ?_ (bel_alloc _ _) | refine bel_set ?_ (by first | (dsimp only; omega) | (simp; omega) | simp) _ | refine bel_trans ?_ (bel_drewN _ _) | refine bel_trans ?_ (bel_drew _) | refine bel_trans ?_ (by assumption)))))).mono ?_; rintro e wp ⟨r5, rfl, hr5, hr6, hCn, hXn⟩; have e3 : IntKind.i64.wrap (nth ys kk + 1 + (r5 : Int)) = nth ys kk + 1 + (r5 : Int) := IntWalk.i64_in _ (by omega); have e4 : (nth ys kk + 1 + (r5 : Int)).tmod p = (nth ys kk + 1 + (r5 : Int)) % p := Int.tmod_eq_emod_of_nonneg (by omega); have y5 : wp.cell? ⟨yb, yo + kk, none⟩ = some (.int .i64 (nth ys kk)) := hXn.cell y3 (by omega); have y6 : wp.frozen? ⟨yb, yo + kk, none⟩ = false := (hXn.frozen ylt (by omega)).trans y4))
        all_goals
          have HXp := Lib.hid ((HX.out.below (bel_drew wk)).bex hXn hbl)
          have HYp := Lib.hid ((HY.out.below (bel_drew wk)).bex hXn hbl)
          have HBp := Lib.hid ((HBX.out.belowB (bel_drew wk)).trans hXn)
          have zp := HBp.out.size
          have em := emod_bd (n := nth ys kk + 1 + (r5 : Int)) (p := p) (by omega)
          have HYS := Lib.hid (HYp.out.set (i := kk) hkj ((nth ys kk + 1 + (r5 : Int)) % p) (by unfold Fits; omega))
          have HXS := Lib.hid (HXp.out.onlyA (a := some ⟨yb, yo, none⟩) (m := j) ((OnlyM.refl _ _ wp).setCell (i := yo + kk) (by omega) (.int .i64 ((nth ys kk + 1 + (r5 : Int)) % p))) hap.out)
          have HCS := Lib.hid (hCn.store (p := ⟨yb, yo + kk, none⟩) (u := .int .i64 ((nth ys kk + 1 + (r5 : Int)) % p)) (by simp only []; omega) (by simp only []; omega))
          have HBS := Lib.hid (HBp.out.store (p := ⟨yb, yo + kk, none⟩) (by simp only []; omega) (.int .i64 ((nth ys kk + 1 + (r5 : Int)) % p)))
          clear HX HY HC HBX hap HXp HYp HBp hCn hXn y3 y4 y5 y6 HPK
          go_wp2_with fail
          refine (s_one _ _ _ 16 _ HCS.out (by omega) (by omega)).mono ?_; rintro e wxa ⟨qa, rfl, hCn, hXn⟩
          have HX := Lib.hid (HXS.out.bex hXn hbl); have HY := Lib.hid (HYS.out.bex hXn hbl); have HC := Lib.hid (hCn.more (K' := K + 200) (by omega)); have HBX := Lib.hid (HBS.out.trans hXn)
          clear hCn hXn HXS HYS HCS HBS
          cases qa with
          | false =>
            go_wp2_with fail
            refine (s_one _ _ _ 24 _ HC.out (by omega) (by omega)).mono ?_; rintro e wxc ⟨qb, rfl, hCn, hXn⟩
            replace HX := Lib.hid (HX.out.bex hXn hbl); replace HY := Lib.hid (HY.out.bex hXn hbl); replace HC := Lib.hid (hCn.more (K' := K + 220) (by omega)); replace HBX := Lib.hid (HBX.out.trans hXn)
            clear hCn hXn
            cases qb with
            | false =>
              go_wp2
              exact bodyPost_ret (v := .tuple #[.int .i64 p, .slice (some ⟨xb, xo, none⟩) j xc, .slice (some ⟨yb, yo, none⟩) j yc, .int .i64 t]) (by simp [results, Try.results80, go_sem]) rfl ⟨p, (some ⟨xb, xo, none⟩), _, xc, _, (some ⟨yb, yo, none⟩), _, yc, _, t, rfl, by omega, HX.out, HY.out, by omega, by omega, HC.out.more (by omega), HBX.out⟩
            | true =>
              clear HX HY
              have z0 := HBX.out.size
              go_wp2_with fail
              refine (s_pick _ _ _ 8 _ HC.out (by omega) (by omega)).mono ?_; rintro e wxd ⟨t8, rfl, ht8, ht9, hCn, hXn⟩
              replace HC := Lib.hid (hCn.more (K' := K + 230) (by omega)); replace HBX := Lib.hid (HBX.out.trans hXn)
              clear hCn hXn
              have ht10 : t8 ≤ 7 := by omega
              obtain ⟨tt, htt⟩ : ∃ tt : Nat, tt = 1 + t8 := ⟨_, rfl⟩
              have httI : (1 : Int) + (t8 : Int) = (tt : Int) := by omega
              have htt8 : 1 ≤ tt ∧ tt ≤ 8 := by omega
              clear htt ht8 ht9
              go_wp2_with fail
              refine (s_pick _ _ _ 9000 _ HC.out (by omega) (by omega)).mono ?_; rintro e wxe ⟨key2, rfl, hk3, hk4, hCn, hXn⟩
              replace HC := Lib.hid (hCn.more (K' := K + 240) (by omega)); replace HBX := Lib.hid (HBX.out.trans hXn)
              clear hCn hXn
              go_wp2_with fail
              refine (s_pick _ _ _ 101 _ HC.out (by omega) (by omega)).mono ?_; rintro e wxf ⟨v2, rfl, hv3, hv4, hCn, hXn⟩
              replace HC := Lib.hid (hCn.more (K' := K + 250) (by omega)); replace HBX := Lib.hid (HBX.out.trans hXn)
              clear hCn hXn
              have hvp2 : (v2 : Int) < 101 := by omega
              go_wp2_with fail
              refine (s_pick _ _ _ 2 _ HC.out (by omega) (by omega)).mono ?_; rintro e wxg ⟨n2, rfl, hn3, hn4, hCn, hXn⟩
              replace HC := Lib.hid (hCn.more (K' := K + 260) (by omega)); replace HBX := Lib.hid (HBX.out.trans hXn)
              clear hCn hXn
              obtain ⟨nn, hnn⟩ : ∃ nn : Nat, nn = 10 + n2 := ⟨_, rfl⟩
              have hnnI : (10 : Int) + (n2 : Int) = (nn : Int) := by omega
              have hnn8 : 10 ≤ nn ∧ nn ≤ 11 := by omega
              clear hnn hn3 hn4 hv3 hv4
              have z1 := HBX.out.size
              go_wp2_with fail
              refine (s_thSplit 101 key2 v2 nn (tt - 1) _ ⟨by omega, by omega⟩ ⟨by omega, by omega⟩ ⟨by omega, by omega⟩ (by omega) (by omega) _ (by omega)).mono ?_; rintro e wxh ⟨yr2, yc2, rfl, hm9, hb9⟩
              have HYR2 := Lib.hid (spL_res (p := 101) (by omega) (cfL 101 key2 v2 (tt - 1)) nn)
              have HYL2 := Lib.hid (spL_len 101 (cfL 101 key2 v2 (tt - 1)) nn)
              generalize spL 101 (cfL 101 key2 v2 (tt - 1)) nn = ys2 at hm9 HYR2 HYL2
              have HY := Lib.hid (hm9.base z1); replace HC := Lib.hid (HC.out.below hb9); replace HBX := Lib.hid (HBX.out.belowB hb9)
              have HYP2 := Lib.hid HY.out.pl
              clear hm9 hb9
              have z2 := HBX.out.size
              go_wp2
              go_loopw [10, 116] (fun v1 i W => ∃ q : Nat, q ≤ nn ∧ i = .int .i64 q ∧ Hid (∃ xs, W.ownsRow wxh.heap.size 3 1 v1 q (ivs xs) ∧ ∀ x ∈ xs, Fits x) ∧ Hid (Below wxh.heap.size wxh W)) (fun _ i _ => nn - (intOf i).toNat)
              case atStart => exact ⟨0, by omega, rfl, (show Hid _ from ⟨[], World.ownsRow_nil _ _ _ _, by simp⟩), Below.refl _ _⟩
              case round =>
                obtain ⟨q, hq, rfl, HO, HB⟩ := hrel
                obtain ⟨wq, rfl⟩ : ∃ wq : World, wq = wr := ⟨_, rfl⟩
                have hzq := HB.out.size
                obtain ⟨xs2, ho, hf⟩ := HO.out
                have HOO := Lib.hid ho; have HF := Lib.hid hf; clear ho hf HO
                by_cases hqn : q < nn
                · have hqi : (q : Int) < (nn : Int) := by omega
                  go_wp2_with (at_builtin; refine wp_app wq wxh.heap.size q _ xs2 ((q : Int) + 1) _ _ rfl _ _ rfl rfl rfl (by first | rfl | simp) HOO.out hzq (by omega) ?_; intro v9 w9 hv9 hb9 hg9)
                  clear hg9
                  go_roundw
                  case rel => exact ⟨q + 1, by omega, by go_num, (show Hid _ from ⟨_, hv9, fun y hy => by rcases List.mem_append.1 hy with q | q; (exact HF.out y q); (simp at q; rw [q]; unfold Fits; omega)⟩), HB.out.trans hb9⟩
                  case measure => first | (simp [intOf]; done) | (simp [intOf]; omega)
                · obtain rfl : q = nn := by omega
                  obtain ⟨xr2, xc2, rfl, hmx⟩ := Mine.of HOO.out (by omega) HF.out
                  have HX := Lib.hid (hmx.base z2); have HXP2 := Lib.hid hmx.pl
                  replace HY := Lib.hid (HY.out.below HB.out); replace HC := Lib.hid (HC.out.below HB.out); replace HBX := Lib.hid (HBX.out.belowB HB.out)
                  clear hmx HOO HF HB
                  go_wp2_with fail
                  refine (s_one _ _ _ 3 _ HC.out (by omega) (by omega)).mono ?_; rintro e wxi ⟨qc, rfl, hCn, hXn⟩
                  replace HX := Lib.hid (HX.out.bex hXn hbl); replace HY := Lib.hid (HY.out.bex hXn hbl); replace HC := Lib.hid (hCn.more (K' := K + 270) (by omega)); replace HBX := Lib.hid (HBX.out.trans hXn)
                  clear hCn hXn
                  cases qc with
                  | false =>
                    go_wp2
                    exact bodyPost_ret (v := .tuple #[.int .i64 101, .slice xr2 q xc2, .slice yr2 q yc2, .int .i64 tt]) (by simp [results, Try.results80, go_sem]) rfl ⟨101, xr2, _, xc2, _, yr2, _, yc2, _, tt, rfl, by omega, HX.out, HY.out, by omega, by omega, HC.out.more (by omega), HBX.out⟩
                  | true =>
                    obtain ⟨yb2, yo2, rfl, y1, y2, y3, y4⟩ := HY.out.at (i := 2) (by omega)
                    have hq2 : (2 : Int) < (q : Int) := by omega
                    have yr := HYR2.out.at (i := 2) (by rw [HYL2.out]; omega)
                    have e101 := emod_bd (n := nth ys2 2 + 1) (p := 101) (by omega)
                    have HYS := Lib.hid (HY.out.set (i := 2) (by omega) ((nth ys2 2 + 1) % 101) (by unfold Fits; omega))
                    have HXS : Hid (∀ u, Mine (wxi.setCell ⟨yb2, yo2 + 2, none⟩ u) w.heap.size xr2 q xc2 xs2) := fun u => HX.out.onlyA (a := some ⟨yb2, yo2, none⟩) (m := q) ((OnlyM.refl _ _ _).setCell (by omega) u) (Apart.of HXP2.out HYP2.out (Or.inr (Nat.le_refl _)))
                    have HCS : Hid (∀ u, Cur (wxi.setCell ⟨yb2, yo2 + 2, none⟩ u) b B (K + 270)) := fun u => HC.out.store (p := ⟨yb2, yo2 + 2, none⟩) (by simp only []; omega) (by simp only []; omega)
                    have HBS : Hid (∀ u, Bex b w (wxi.setCell ⟨yb2, yo2 + 2, none⟩ u)) := fun u => HBX.out.store (p := ⟨yb2, yo2 + 2, none⟩) (by simp only []; omega) u
                    clear HX HY HC HBX HYR2
                    go_wp2
                    exact bodyPost_ret (v := .tuple #[.int .i64 101, .slice xr2 q xc2, .slice (some ⟨yb2, yo2, none⟩) q yc2, .int .i64 tt]) (by simp [results, Try.results80, go_sem]) rfl ⟨101, xr2, _, xc2, _, _, _, yc2, _, tt, rfl, by omega, HXS.out _, HYS.out, by omega, by omega, (HCS.out _).more (by omega), HBS.out _⟩
          | true =>
            obtain ⟨hCl, hIl, hOl, hXl⟩ := among_lit (t := 3) [0, (j : Int) + 1] HC.out rfl rfl (by simp) (by intro x hx; simp at hx; unfold Fits; rcases hx with rfl | rfl <;> omega)
            have HXl := Lib.hid (HX.out.bex hXl hbl); have HYl := Lib.hid (HY.out.bex hXl hbl); have HBl := Lib.hid (HBX.out.trans hXl)
            go_wp2_with fail
            refine (s_among _ _ _ _ 2 2 [0, (j : Int) + 1] _ hCl (by omega) hIl (by omega) (by omega) hOl).mono ?_; rintro e wxb ⟨tx, rfl, htx, hCn, hXn⟩
            have htx2 : 0 ≤ tx ∧ tx ≤ 12 := by simp at htx; rcases htx with rfl | rfl <;> omega
            obtain ⟨tz, rfl⟩ : ∃ tz : Nat, tx = tz := ⟨tx.toNat, by omega⟩
            replace HX := Lib.hid (HXl.out.bex hXn hbl); replace HY := Lib.hid (HYl.out.bex hXn hbl); replace HC := Lib.hid (hCn.more (K' := K + 210) (by omega)); replace HBX := Lib.hid (HBl.out.trans hXn)
            clear hCn hXn HXl HYl HBl hCl hIl hOl hXl htx
            go_wp2_with fail
            refine (s_one _ _ _ 24 _ HC.out (by omega) (by omega)).mono ?_; rintro e wxc ⟨qb, rfl, hCn, hXn⟩
            replace HX := Lib.hid (HX.out.bex hXn hbl); replace HY := Lib.hid (HY.out.bex hXn hbl); replace HC := Lib.hid (hCn.more (K' := K + 220) (by omega)); replace HBX := Lib.hid (HBX.out.trans hXn)
            clear hCn hXn
            cases qb with
            | false =>
              go_wp2
              exact bodyPost_ret (v := .tuple #[.int .i64 p, .slice (some ⟨xb, xo, none⟩) j xc, .slice (some ⟨yb, yo, none⟩) j yc, .int .i64 tz]) (by simp [results, Try.results80, go_sem]) rfl ⟨p, (some ⟨xb, xo, none⟩), _, xc, _, (some ⟨yb, yo, none⟩), _, yc, _, tz, rfl, by omega, HX.out, HY.out, by omega, by omega, HC.out.more (by omega), HBX.out⟩
            | true =>
              clear HX HY
              have z0 := HBX.out.size
              go_wp2_with fail
              refine (s_pick _ _ _ 8 _ HC.out (by omega) (by omega)).mono ?_; rintro e wxd ⟨t8, rfl, ht8, ht9, hCn, hXn⟩
              replace HC := Lib.hid (hCn.more (K' := K + 230) (by omega)); replace HBX := Lib.hid (HBX.out.trans hXn)
              clear hCn hXn
              have ht10 : t8 ≤ 7 := by omega
              obtain ⟨tt, htt⟩ : ∃ tt : Nat, tt = 1 + t8 := ⟨_, rfl⟩
              have httI : (1 : Int) + (t8 : Int) = (tt : Int) := by omega
              have htt8 : 1 ≤ tt ∧ tt ≤ 8 := by omega
              clear htt ht8 ht9
              go_wp2_with fail
              refine (s_pick _ _ _ 9000 _ HC.out (by omega) (by omega)).mono ?_; rintro e wxe ⟨key2, rfl, hk3, hk4, hCn, hXn⟩
              replace HC := Lib.hid (hCn.more (K' := K + 240) (by omega)); replace HBX := Lib.hid (HBX.out.trans hXn)
              clear hCn hXn
              go_wp2_with fail
              refine (s_pick _ _ _ 101 _ HC.out (by omega) (by omega)).mono ?_; rintro e wxf ⟨v2, rfl, hv3, hv4, hCn, hXn⟩
              replace HC := Lib.hid (hCn.more (K' := K + 250) (by omega)); replace HBX := Lib.hid (HBX.out.trans hXn)
              clear hCn hXn
              have hvp2 : (v2 : Int) < 101 := by omega
              go_wp2_with fail
              refine (s_pick _ _ _ 2 _ HC.out (by omega) (by omega)).mono ?_; rintro e wxg ⟨n2, rfl, hn3, hn4, hCn, hXn⟩
              replace HC := Lib.hid (hCn.more (K' := K + 260) (by omega)); replace HBX := Lib.hid (HBX.out.trans hXn)
              clear hCn hXn
              obtain ⟨nn, hnn⟩ : ∃ nn : Nat, nn = 10 + n2 := ⟨_, rfl⟩
              have hnnI : (10 : Int) + (n2 : Int) = (nn : Int) := by omega
              have hnn8 : 10 ≤ nn ∧ nn ≤ 11 := by omega
              clear hnn hn3 hn4 hv3 hv4
              have z1 := HBX.out.size
              go_wp2_with fail
              refine (s_thSplit 101 key2 v2 nn (tt - 1) _ ⟨by omega, by omega⟩ ⟨by omega, by omega⟩ ⟨by omega, by omega⟩ (by omega) (by omega) _ (by omega)).mono ?_; rintro e wxh ⟨yr2, yc2, rfl, hm9, hb9⟩
              have HYR2 := Lib.hid (spL_res (p := 101) (by omega) (cfL 101 key2 v2 (tt - 1)) nn)
              have HYL2 := Lib.hid (spL_len 101 (cfL 101 key2 v2 (tt - 1)) nn)
              generalize spL 101 (cfL 101 key2 v2 (tt - 1)) nn = ys2 at hm9 HYR2 HYL2
              have HY := Lib.hid (hm9.base z1); replace HC := Lib.hid (HC.out.below hb9); replace HBX := Lib.hid (HBX.out.belowB hb9)
              have HYP2 := Lib.hid HY.out.pl
              clear hm9 hb9
              have z2 := HBX.out.size
              go_wp2
              go_loopw [10, 116] (fun v1 i W => ∃ q : Nat, q ≤ nn ∧ i = .int .i64 q ∧ Hid (∃ xs, W.ownsRow wxh.heap.size 3 1 v1 q (ivs xs) ∧ ∀ x ∈ xs, Fits x) ∧ Hid (Below wxh.heap.size wxh W)) (fun _ i _ => nn - (intOf i).toNat)
              case atStart => exact ⟨0, by omega, rfl, (show Hid _ from ⟨[], World.ownsRow_nil _ _ _ _, by simp⟩), Below.refl _ _⟩
              case round =>
                obtain ⟨q, hq, rfl, HO, HB⟩ := hrel
                obtain ⟨wq, rfl⟩ : ∃ wq : World, wq = wr := ⟨_, rfl⟩
                have hzq := HB.out.size
                obtain ⟨xs2, ho, hf⟩ := HO.out
                have HOO := Lib.hid ho; have HF := Lib.hid hf; clear ho hf HO
                by_cases hqn : q < nn
                · have hqi : (q : Int) < (nn : Int) := by omega
                  go_wp2_with (at_builtin; refine wp_app wq wxh.heap.size q _ xs2 ((q : Int) + 1) _ _ rfl _ _ rfl rfl rfl (by first | rfl | simp) HOO.out hzq (by omega) ?_; intro v9 w9 hv9 hb9 hg9)
                  clear hg9
                  go_roundw
                  case rel => exact ⟨q + 1, by omega, by go_num, (show Hid _ from ⟨_, hv9, fun y hy => by rcases List.mem_append.1 hy with q | q; (exact HF.out y q); (simp at q; rw [q]; unfold Fits; omega)⟩), HB.out.trans hb9⟩
                  case measure => first | (simp [intOf]; done) | (simp [intOf]; omega)
                · obtain rfl : q = nn := by omega
                  obtain ⟨xr2, xc2, rfl, hmx⟩ := Mine.of HOO.out (by omega) HF.out
                  have HX := Lib.hid (hmx.base z2); have HXP2 := Lib.hid hmx.pl
                  replace HY := Lib.hid (HY.out.below HB.out); replace HC := Lib.hid (HC.out.below HB.out); replace HBX := Lib.hid (HBX.out.belowB HB.out)
                  clear hmx HOO HF HB
                  go_wp2_with fail
                  refine (s_one _ _ _ 3 _ HC.out (by omega) (by omega)).mono ?_; rintro e wxi ⟨qc, rfl, hCn, hXn⟩
                  replace HX := Lib.hid (HX.out.bex hXn hbl); replace HY := Lib.hid (HY.out.bex hXn hbl); replace HC := Lib.hid (hCn.more (K' := K + 270) (by omega)); replace HBX := Lib.hid (HBX.out.trans hXn)
                  clear hCn hXn
                  cases qc with
                  | false =>
                    go_wp2
                    exact bodyPost_ret (v := .tuple #[.int .i64 101, .slice xr2 q xc2, .slice yr2 q yc2, .int .i64 tt]) (by simp [results, Try.results80, go_sem]) rfl ⟨101, xr2, _, xc2, _, yr2, _, yc2, _, tt, rfl, by omega, HX.out, HY.out, by omega, by omega, HC.out.more (by omega), HBX.out⟩
                  | true =>
                    obtain ⟨yb2, yo2, rfl, y1, y2, y3, y4⟩ := HY.out.at (i := 2) (by omega)
                    have hq2 : (2 : Int) < (q : Int) := by omega
                    have yr := HYR2.out.at (i := 2) (by rw [HYL2.out]; omega)
                    have e101 := emod_bd (n := nth ys2 2 + 1) (p := 101) (by omega)
                    have HYS := Lib.hid (HY.out.set (i := 2) (by omega) ((nth ys2 2 + 1) % 101) (by unfold Fits; omega))
                    have HXS : Hid (∀ u, Mine (wxi.setCell ⟨yb2, yo2 + 2, none⟩ u) w.heap.size xr2 q xc2 xs2) := fun u => HX.out.onlyA (a := some ⟨yb2, yo2, none⟩) (m := q) ((OnlyM.refl _ _ _).setCell (by omega) u) (Apart.of HXP2.out HYP2.out (Or.inr (Nat.le_refl _)))
                    have HCS : Hid (∀ u, Cur (wxi.setCell ⟨yb2, yo2 + 2, none⟩ u) b B (K + 270)) := fun u => HC.out.store (p := ⟨yb2, yo2 + 2, none⟩) (by simp only []; omega) (by simp only []; omega)
                    have HBS : Hid (∀ u, Bex b w (wxi.setCell ⟨yb2, yo2 + 2, none⟩ u)) := fun u => HBX.out.store (p := ⟨yb2, yo2 + 2, none⟩) (by simp only []; omega) u
                    clear HX HY HC HBX HYR2
                    go_wp2
                    exact bodyPost_ret (v := .tuple #[.int .i64 101, .slice xr2 q xc2, .slice (some ⟨yb2, yo2, none⟩) q yc2, .int .i64 tt]) (by simp [results, Try.results80, go_sem]) rfl ⟨101, xr2, _, xc2, _, _, _, yc2, _, tt, rfl, by omega, HXS.out _, HYS.out, by omega, by omega, (HCS.out _).more (by omega), HBS.out _⟩
      by_cases hs2 : s = 2
      · subst hs2
        obtain ⟨m, hm⟩ : ∃ m : Nat, j = m + 1 := ⟨j - 1, by omega⟩
        have hmI : (j : Int) - 1 = (m : Int) := by omega
        have hmw : IntKind.i64.wrap ((j : Int) - 1) = (m : Int) := by rw [hmI]; exact IntWalk.i64_in _ (by omega)
        have hmw2 : IntKind.i64.wrap (m : Int) = (m : Int) := IntWalk.i64_in _ (by omega)
        have hm0 : (0 : Int) ≤ (m : Int) := by omega
        have hcx := HX.out.ints.ncap; have hcy := HY.out.ints.ncap
        have hm1 : (m : Int) ≤ (xc : Int) := by omega
        have hm2 : (m : Int) ≤ (yc : Int) := by omega
        replace HX := Lib.hid (HX.out.takeQ (k := m) (by omega)); replace HY := Lib.hid (HY.out.takeQ (k := m) (by omega))
        have hm6 : m ≤ 6 := by omega
        have HJM := Lib.hid hm; clear hm hap
        go_wp2_with fail
        refine (s_one _ _ _ 16 _ HC.out (by omega) (by omega)).mono ?_; rintro e wma ⟨qa, rfl, hCn, hXn⟩
        replace HX := Lib.hid (HX.out.bex hXn hbl); replace HY := Lib.hid (HY.out.bex hXn hbl); replace HC := Lib.hid (hCn.more (K' := K + 200) (by omega)); replace HBX := Lib.hid (HBX.out.trans hXn)
        clear hCn hXn
        cases qa with
        | false =>
          go_wp2_with fail
          refine (s_one _ _ _ 24 _ HC.out (by omega) (by omega)).mono ?_; rintro e wmc ⟨qb, rfl, hCn, hXn⟩
          replace HX := Lib.hid (HX.out.bex hXn hbl); replace HY := Lib.hid (HY.out.bex hXn hbl); replace HC := Lib.hid (hCn.more (K' := K + 220) (by omega)); replace HBX := Lib.hid (HBX.out.trans hXn)
          clear hCn hXn
          cases qb with
          | false =>
            go_wp2
            exact bodyPost_ret (v := .tuple #[.int .i64 p, .slice (some ⟨xb, xo, none⟩) m xc, .slice (some ⟨yb, yo, none⟩) m yc, .int .i64 t]) (by simp [results, Try.results80, go_sem]) rfl ⟨p, (some ⟨xb, xo, none⟩), _, xc, _, (some ⟨yb, yo, none⟩), _, yc, _, t, rfl, by omega, HX.out, HY.out, by omega, by omega, HC.out.more (by omega), HBX.out⟩
          | true =>
            clear HX HY
            have z0 := HBX.out.size
            go_wp2_with fail
            refine (s_pick _ _ _ 8 _ HC.out (by omega) (by omega)).mono ?_; rintro e wmd ⟨t8, rfl, ht8, ht9, hCn, hXn⟩
            replace HC := Lib.hid (hCn.more (K' := K + 230) (by omega)); replace HBX := Lib.hid (HBX.out.trans hXn)
            clear hCn hXn
            have ht10 : t8 ≤ 7 := by omega
            obtain ⟨tt, htt⟩ : ∃ tt : Nat, tt = 1 + t8 := ⟨_, rfl⟩
            have httI : (1 : Int) + (t8 : Int) = (tt : Int) := by omega
            have htt8 : 1 ≤ tt ∧ tt ≤ 8 := by omega
            clear htt ht8 ht9
            go_wp2_with fail
            refine (s_pick _ _ _ 9000 _ HC.out (by omega) (by omega)).mono ?_; rintro e wme ⟨key2, rfl, hk3, hk4, hCn, hXn⟩
            replace HC := Lib.hid (hCn.more (K' := K + 240) (by omega)); replace HBX := Lib.hid (HBX.out.trans hXn)
            clear hCn hXn
            go_wp2_with fail
            refine (s_pick _ _ _ 101 _ HC.out (by omega) (by omega)).mono ?_; rintro e wmf ⟨v2, rfl, hv3, hv4, hCn, hXn⟩
            replace HC := Lib.hid (hCn.more (K' := K + 250) (by omega)); replace HBX := Lib.hid (HBX.out.trans hXn)
            clear hCn hXn
            have hvp2 : (v2 : Int) < 101 := by omega
            go_wp2_with fail
            refine (s_pick _ _ _ 2 _ HC.out (by omega) (by omega)).mono ?_; rintro e wmg ⟨n2, rfl, hn3, hn4, hCn, hXn⟩
            replace HC := Lib.hid (hCn.more (K' := K + 260) (by omega)); replace HBX := Lib.hid (HBX.out.trans hXn)
            clear hCn hXn
            obtain ⟨nn, hnn⟩ : ∃ nn : Nat, nn = 10 + n2 := ⟨_, rfl⟩
            have hnnI : (10 : Int) + (n2 : Int) = (nn : Int) := by omega
            have hnn8 : 10 ≤ nn ∧ nn ≤ 11 := by omega
            clear hnn hn3 hn4 hv3 hv4
            have z1 := HBX.out.size
            go_wp2_with fail
            refine (s_thSplit 101 key2 v2 nn (tt - 1) _ ⟨by omega, by omega⟩ ⟨by omega, by omega⟩ ⟨by omega, by omega⟩ (by omega) (by omega) _ (by omega)).mono ?_; rintro e wmh ⟨yr2, yc2, rfl, hm9, hb9⟩
            have HYR2 := Lib.hid (spL_res (p := 101) (by omega) (cfL 101 key2 v2 (tt - 1)) nn)
            have HYL2 := Lib.hid (spL_len 101 (cfL 101 key2 v2 (tt - 1)) nn)
            generalize spL 101 (cfL 101 key2 v2 (tt - 1)) nn = ys2 at hm9 HYR2 HYL2
            have HY := Lib.hid (hm9.base z1); replace HC := Lib.hid (HC.out.below hb9); replace HBX := Lib.hid (HBX.out.belowB hb9)
            have HYP2 := Lib.hid HY.out.pl
            clear hm9 hb9
            have z2 := HBX.out.size
            go_wp2
            go_loopw [10, 116] (fun v1 i W => ∃ q : Nat, q ≤ nn ∧ i = .int .i64 q ∧ Hid (∃ xs, W.ownsRow wmh.heap.size 3 1 v1 q (ivs xs) ∧ ∀ x ∈ xs, Fits x) ∧ Hid (Below wmh.heap.size wmh W)) (fun _ i _ => nn - (intOf i).toNat)
            case atStart => exact ⟨0, by omega, rfl, (show Hid _ from ⟨[], World.ownsRow_nil _ _ _ _, by simp⟩), Below.refl _ _⟩
            case round =>
              obtain ⟨q, hq, rfl, HO, HB⟩ := hrel
              obtain ⟨wq, rfl⟩ : ∃ wq : World, wq = wr := ⟨_, rfl⟩
              have hzq := HB.out.size
              obtain ⟨xs2, ho, hf⟩ := HO.out
              have HOO := Lib.hid ho; have HF := Lib.hid hf; clear ho hf HO
              by_cases hqn : q < nn
              · have hqi : (q : Int) < (nn : Int) := by omega
                go_wp2_with (at_builtin; refine wp_app wq wmh.heap.size q _ xs2 ((q : Int) + 1) _ _ rfl _ _ rfl rfl rfl (by first | rfl | simp) HOO.out hzq (by omega) ?_; intro v9 w9 hv9 hb9 hg9)
                clear hg9
                go_roundw
                case rel => exact ⟨q + 1, by omega, by go_num, (show Hid _ from ⟨_, hv9, fun y hy => by rcases List.mem_append.1 hy with q | q; (exact HF.out y q); (simp at q; rw [q]; unfold Fits; omega)⟩), HB.out.trans hb9⟩
                case measure => first | (simp [intOf]; done) | (simp [intOf]; omega)
              · obtain rfl : q = nn := by omega
                obtain ⟨xr2, xc2, rfl, hmx⟩ := Mine.of HOO.out (by omega) HF.out
                have HX := Lib.hid (hmx.base z2); have HXP2 := Lib.hid hmx.pl
                replace HY := Lib.hid (HY.out.below HB.out); replace HC := Lib.hid (HC.out.below HB.out); replace HBX := Lib.hid (HBX.out.belowB HB.out)
                clear hmx HOO HF HB
                go_wp2_with fail
                refine (s_one _ _ _ 3 _ HC.out (by omega) (by omega)).mono ?_; rintro e wmi ⟨qc, rfl, hCn, hXn⟩
                replace HX := Lib.hid (HX.out.bex hXn hbl); replace HY := Lib.hid (HY.out.bex hXn hbl); replace HC := Lib.hid (hCn.more (K' := K + 270) (by omega)); replace HBX := Lib.hid (HBX.out.trans hXn)
                clear hCn hXn
                cases qc with
                | false =>
                  go_wp2
                  exact bodyPost_ret (v := .tuple #[.int .i64 101, .slice xr2 q xc2, .slice yr2 q yc2, .int .i64 tt]) (by simp [results, Try.results80, go_sem]) rfl ⟨101, xr2, _, xc2, _, yr2, _, yc2, _, tt, rfl, by omega, HX.out, HY.out, by omega, by omega, HC.out.more (by omega), HBX.out⟩
                | true =>
                  obtain ⟨yb2, yo2, rfl, y1, y2, y3, y4⟩ := HY.out.at (i := 2) (by omega)
                  have hq2 : (2 : Int) < (q : Int) := by omega
                  have yr := HYR2.out.at (i := 2) (by rw [HYL2.out]; omega)
                  have e101 := emod_bd (n := nth ys2 2 + 1) (p := 101) (by omega)
                  have HYS := Lib.hid (HY.out.set (i := 2) (by omega) ((nth ys2 2 + 1) % 101) (by unfold Fits; omega))
                  have HXS : Hid (∀ u, Mine (wmi.setCell ⟨yb2, yo2 + 2, none⟩ u) w.heap.size xr2 q xc2 xs2) := fun u => HX.out.onlyA (a := some ⟨yb2, yo2, none⟩) (m := q) ((OnlyM.refl _ _ _).setCell (by omega) u) (Apart.of HXP2.out HYP2.out (Or.inr (Nat.le_refl _)))
                  have HCS : Hid (∀ u, Cur (wmi.setCell ⟨yb2, yo2 + 2, none⟩ u) b B (K + 270)) := fun u => HC.out.store (p := ⟨yb2, yo2 + 2, none⟩) (by simp only []; omega) (by simp only []; omega)
                  have HBS : Hid (∀ u, Bex b w (wmi.setCell ⟨yb2, yo2 + 2, none⟩ u)) := fun u => HBX.out.store (p := ⟨yb2, yo2 + 2, none⟩) (by simp only []; omega) u
                  clear HX HY HC HBX HYR2
                  go_wp2
                  exact bodyPost_ret (v := .tuple #[.int .i64 101, .slice xr2 q xc2, .slice (some ⟨yb2, yo2, none⟩) q yc2, .int .i64 tt]) (by simp [results, Try.results80, go_sem]) rfl ⟨101, xr2, _, xc2, _, _, _, yc2, _, tt, rfl, by omega, HXS.out _, HYS.out, by omega, by omega, (HCS.out _).more (by omega), HBS.out _⟩
        | true =>
          obtain ⟨hCl, hIl, hOl, hXl⟩ := among_lit (t := 3) [0, (j : Int) + 1] HC.out rfl rfl (by simp) (by intro x hx; simp at hx; unfold Fits; rcases hx with rfl | rfl <;> omega)
          have HXl := Lib.hid (HX.out.bex hXl hbl); have HYl := Lib.hid (HY.out.bex hXl hbl); have HBl := Lib.hid (HBX.out.trans hXl)
          go_wp2_with fail
          refine (s_among _ _ _ _ 2 2 [0, (j : Int) + 1] _ hCl (by omega) hIl (by omega) (by omega) hOl).mono ?_; rintro e wmb ⟨tx, rfl, htx, hCn, hXn⟩
          have htx2 : 0 ≤ tx ∧ tx ≤ 12 := by simp at htx; rcases htx with rfl | rfl <;> omega
          obtain ⟨tz, rfl⟩ : ∃ tz : Nat, tx = tz := ⟨tx.toNat, by omega⟩
          replace HX := Lib.hid (HXl.out.bex hXn hbl); replace HY := Lib.hid (HYl.out.bex hXn hbl); replace HC := Lib.hid (hCn.more (K' := K + 210) (by omega)); replace HBX := Lib.hid (HBl.out.trans hXn)
          clear hCn hXn HXl HYl HBl hCl hIl hOl hXl htx
          go_wp2_with fail
          refine (s_one _ _ _ 24 _ HC.out (by omega) (by omega)).mono ?_; rintro e wmc ⟨qb, rfl, hCn, hXn⟩
          replace HX := Lib.hid (HX.out.bex hXn hbl); replace HY := Lib.hid (HY.out.bex hXn hbl); replace HC := Lib.hid (hCn.more (K' := K + 220) (by omega)); replace HBX := Lib.hid (HBX.out.trans hXn)
          clear hCn hXn
          cases qb with
          | false =>
            go_wp2
            exact bodyPost_ret (v := .tuple #[.int .i64 p, .slice (some ⟨xb, xo, none⟩) m xc, .slice (some ⟨yb, yo, none⟩) m yc, .int .i64 tz]) (by simp [results, Try.results80, go_sem]) rfl ⟨p, (some ⟨xb, xo, none⟩), _, xc, _, (some ⟨yb, yo, none⟩), _, yc, _, tz, rfl, by omega, HX.out, HY.out, by omega, by omega, HC.out.more (by omega), HBX.out⟩
          | true =>
            clear HX HY
            have z0 := HBX.out.size
            go_wp2_with fail
            refine (s_pick _ _ _ 8 _ HC.out (by omega) (by omega)).mono ?_; rintro e wmd ⟨t8, rfl, ht8, ht9, hCn, hXn⟩
            replace HC := Lib.hid (hCn.more (K' := K + 230) (by omega)); replace HBX := Lib.hid (HBX.out.trans hXn)
            clear hCn hXn
            have ht10 : t8 ≤ 7 := by omega
            obtain ⟨tt, htt⟩ : ∃ tt : Nat, tt = 1 + t8 := ⟨_, rfl⟩
            have httI : (1 : Int) + (t8 : Int) = (tt : Int) := by omega
            have htt8 : 1 ≤ tt ∧ tt ≤ 8 := by omega
            clear htt ht8 ht9
            go_wp2_with fail
            refine (s_pick _ _ _ 9000 _ HC.out (by omega) (by omega)).mono ?_; rintro e wme ⟨key2, rfl, hk3, hk4, hCn, hXn⟩
            replace HC := Lib.hid (hCn.more (K' := K + 240) (by omega)); replace HBX := Lib.hid (HBX.out.trans hXn)
            clear hCn hXn
            go_wp2_with fail
            refine (s_pick _ _ _ 101 _ HC.out (by omega) (by omega)).mono ?_; rintro e wmf ⟨v2, rfl, hv3, hv4, hCn, hXn⟩
            replace HC := Lib.hid (hCn.more (K' := K + 250) (by omega)); replace HBX := Lib.hid (HBX.out.trans hXn)
            clear hCn hXn
            have hvp2 : (v2 : Int) < 101 := by omega
            go_wp2_with fail
            refine (s_pick _ _ _ 2 _ HC.out (by omega) (by omega)).mono ?_; rintro e wmg ⟨n2, rfl, hn3, hn4, hCn, hXn⟩
            replace HC := Lib.hid (hCn.more (K' := K + 260) (by omega)); replace HBX := Lib.hid (HBX.out.trans hXn)
            clear hCn hXn
            obtain ⟨nn, hnn⟩ : ∃ nn : Nat, nn = 10 + n2 := ⟨_, rfl⟩
            have hnnI : (10 : Int) + (n2 : Int) = (nn : Int) := by omega
            have hnn8 : 10 ≤ nn ∧ nn ≤ 11 := by omega
            clear hnn hn3 hn4 hv3 hv4
            have z1 := HBX.out.size
            go_wp2_with fail
            refine (s_thSplit 101 key2 v2 nn (tt - 1) _ ⟨by omega, by omega⟩ ⟨by omega, by omega⟩ ⟨by omega, by omega⟩ (by omega) (by omega) _ (by omega)).mono ?_; rintro e wmh ⟨yr2, yc2, rfl, hm9, hb9⟩
            have HYR2 := Lib.hid (spL_res (p := 101) (by omega) (cfL 101 key2 v2 (tt - 1)) nn)
            have HYL2 := Lib.hid (spL_len 101 (cfL 101 key2 v2 (tt - 1)) nn)
            generalize spL 101 (cfL 101 key2 v2 (tt - 1)) nn = ys2 at hm9 HYR2 HYL2
            have HY := Lib.hid (hm9.base z1); replace HC := Lib.hid (HC.out.below hb9); replace HBX := Lib.hid (HBX.out.belowB hb9)
            have HYP2 := Lib.hid HY.out.pl
            clear hm9 hb9
            have z2 := HBX.out.size
            go_wp2
            go_loopw [10, 116] (fun v1 i W => ∃ q : Nat, q ≤ nn ∧ i = .int .i64 q ∧ Hid (∃ xs, W.ownsRow wmh.heap.size 3 1 v1 q (ivs xs) ∧ ∀ x ∈ xs, Fits x) ∧ Hid (Below wmh.heap.size wmh W)) (fun _ i _ => nn - (intOf i).toNat)
            case atStart => exact ⟨0, by omega, rfl, (show Hid _ from ⟨[], World.ownsRow_nil _ _ _ _, by simp⟩), Below.refl _ _⟩
            case round =>
              obtain ⟨q, hq, rfl, HO, HB⟩ := hrel
              obtain ⟨wq, rfl⟩ : ∃ wq : World, wq = wr := ⟨_, rfl⟩
              have hzq := HB.out.size
              obtain ⟨xs2, ho, hf⟩ := HO.out
              have HOO := Lib.hid ho; have HF := Lib.hid hf; clear ho hf HO
              by_cases hqn : q < nn
              · have hqi : (q : Int) < (nn : Int) := by omega
                go_wp2_with (at_builtin; refine wp_app wq wmh.heap.size q _ xs2 ((q : Int) + 1) _ _ rfl _ _ rfl rfl rfl (by first | rfl | simp) HOO.out hzq (by omega) ?_; intro v9 w9 hv9 hb9 hg9)
                clear hg9
                go_roundw
                case rel => exact ⟨q + 1, by omega, by go_num, (show Hid _ from ⟨_, hv9, fun y hy => by rcases List.mem_append.1 hy with q | q; (exact HF.out y q); (simp at q; rw [q]; unfold Fits; omega)⟩), HB.out.trans hb9⟩
                case measure => first | (simp [intOf]; done) | (simp [intOf]; omega)
              · obtain rfl : q = nn := by omega
                obtain ⟨xr2, xc2, rfl, hmx⟩ := Mine.of HOO.out (by omega) HF.out
                have HX := Lib.hid (hmx.base z2); have HXP2 := Lib.hid hmx.pl
                replace HY := Lib.hid (HY.out.below HB.out); replace HC := Lib.hid (HC.out.below HB.out); replace HBX := Lib.hid (HBX.out.belowB HB.out)
                clear hmx HOO HF HB
                go_wp2_with fail
                refine (s_one _ _ _ 3 _ HC.out (by omega) (by omega)).mono ?_; rintro e wmi ⟨qc, rfl, hCn, hXn⟩
                replace HX := Lib.hid (HX.out.bex hXn hbl); replace HY := Lib.hid (HY.out.bex hXn hbl); replace HC := Lib.hid (hCn.more (K' := K + 270) (by omega)); replace HBX := Lib.hid (HBX.out.trans hXn)
                clear hCn hXn
                cases qc with
                | false =>
                  go_wp2
                  exact bodyPost_ret (v := .tuple #[.int .i64 101, .slice xr2 q xc2, .slice yr2 q yc2, .int .i64 tt]) (by simp [results, Try.results80, go_sem]) rfl ⟨101, xr2, _, xc2, _, yr2, _, yc2, _, tt, rfl, by omega, HX.out, HY.out, by omega, by omega, HC.out.more (by omega), HBX.out⟩
                | true =>
                  obtain ⟨yb2, yo2, rfl, y1, y2, y3, y4⟩ := HY.out.at (i := 2) (by omega)
                  have hq2 : (2 : Int) < (q : Int) := by omega
                  have yr := HYR2.out.at (i := 2) (by rw [HYL2.out]; omega)
                  have e101 := emod_bd (n := nth ys2 2 + 1) (p := 101) (by omega)
                  have HYS := Lib.hid (HY.out.set (i := 2) (by omega) ((nth ys2 2 + 1) % 101) (by unfold Fits; omega))
                  have HXS : Hid (∀ u, Mine (wmi.setCell ⟨yb2, yo2 + 2, none⟩ u) w.heap.size xr2 q xc2 xs2) := fun u => HX.out.onlyA (a := some ⟨yb2, yo2, none⟩) (m := q) ((OnlyM.refl _ _ _).setCell (by omega) u) (Apart.of HXP2.out HYP2.out (Or.inr (Nat.le_refl _)))
                  have HCS : Hid (∀ u, Cur (wmi.setCell ⟨yb2, yo2 + 2, none⟩ u) b B (K + 270)) := fun u => HC.out.store (p := ⟨yb2, yo2 + 2, none⟩) (by simp only []; omega) (by simp only []; omega)
                  have HBS : Hid (∀ u, Bex b w (wmi.setCell ⟨yb2, yo2 + 2, none⟩ u)) := fun u => HBX.out.store (p := ⟨yb2, yo2 + 2, none⟩) (by simp only []; omega) u
                  clear HX HY HC HBX HYR2
                  go_wp2
                  exact bodyPost_ret (v := .tuple #[.int .i64 101, .slice xr2 q xc2, .slice (some ⟨yb2, yo2, none⟩) q yc2, .int .i64 tt]) (by simp [results, Try.results80, go_sem]) rfl ⟨101, xr2, _, xc2, _, _, _, yc2, _, tt, rfl, by omega, HXS.out _, HYS.out, by omega, by omega, (HCS.out _).more (by omega), HBS.out _⟩
      by_cases hs3 : s = 3
      · subst hs3
        go_wp2_with fail
        refine (s_one _ _ _ 3 _ HC.out (by omega) (by omega)).mono ?_; rintro e wt ⟨q3, rfl, hCn, hXn⟩
        replace HX := Lib.hid (HX.out.bex hXn hbl); replace HY := Lib.hid (HY.out.bex hXn hbl); replace HC := Lib.hid (hCn.more (K' := K + 120) (by omega)); replace HBX := Lib.hid (HBX.out.trans hXn)
        clear hCn hXn
        cases q3 with
        | false =>
          clear hap
          go_wp2_with fail
          refine (s_one _ _ _ 16 _ HC.out (by omega) (by omega)).mono ?_; rintro e wua ⟨qa, rfl, hCn, hXn⟩
          replace HX := Lib.hid (HX.out.bex hXn hbl); replace HY := Lib.hid (HY.out.bex hXn hbl); replace HC := Lib.hid (hCn.more (K' := K + 200) (by omega)); replace HBX := Lib.hid (HBX.out.trans hXn)
          clear hCn hXn
          cases qa with
          | false =>
            go_wp2_with fail
            refine (s_one _ _ _ 24 _ HC.out (by omega) (by omega)).mono ?_; rintro e wuc ⟨qb, rfl, hCn, hXn⟩
            replace HX := Lib.hid (HX.out.bex hXn hbl); replace HY := Lib.hid (HY.out.bex hXn hbl); replace HC := Lib.hid (hCn.more (K' := K + 220) (by omega)); replace HBX := Lib.hid (HBX.out.trans hXn)
            clear hCn hXn
            cases qb with
            | false =>
              go_wp2
              exact bodyPost_ret (v := .tuple #[.int .i64 p, .slice (some ⟨xb, xo, none⟩) j xc, .slice (some ⟨yb, yo, none⟩) j yc, .int .i64 t]) (by simp [results, Try.results80, go_sem]) rfl ⟨p, (some ⟨xb, xo, none⟩), _, xc, _, (some ⟨yb, yo, none⟩), _, yc, _, t, rfl, by omega, HX.out, HY.out, by omega, by omega, HC.out.more (by omega), HBX.out⟩
            | true =>
              clear HX HY
              have z0 := HBX.out.size
              go_wp2_with fail
              refine (s_pick _ _ _ 8 _ HC.out (by omega) (by omega)).mono ?_; rintro e wud ⟨t8, rfl, ht8, ht9, hCn, hXn⟩
              replace HC := Lib.hid (hCn.more (K' := K + 230) (by omega)); replace HBX := Lib.hid (HBX.out.trans hXn)
              clear hCn hXn
              have ht10 : t8 ≤ 7 := by omega
              obtain ⟨tt, htt⟩ : ∃ tt : Nat, tt = 1 + t8 := ⟨_, rfl⟩
              have httI : (1 : Int) + (t8 : Int) = (tt : Int) := by omega
              have htt8 : 1 ≤ tt ∧ tt ≤ 8 := by omega
              clear htt ht8 ht9
              go_wp2_with fail
              refine (s_pick _ _ _ 9000 _ HC.out (by omega) (by omega)).mono ?_; rintro e wue ⟨key2, rfl, hk3, hk4, hCn, hXn⟩
              replace HC := Lib.hid (hCn.more (K' := K + 240) (by omega)); replace HBX := Lib.hid (HBX.out.trans hXn)
              clear hCn hXn
              go_wp2_with fail
              refine (s_pick _ _ _ 101 _ HC.out (by omega) (by omega)).mono ?_; rintro e wuf ⟨v2, rfl, hv3, hv4, hCn, hXn⟩
              replace HC := Lib.hid (hCn.more (K' := K + 250) (by omega)); replace HBX := Lib.hid (HBX.out.trans hXn)
              clear hCn hXn
              have hvp2 : (v2 : Int) < 101 := by omega
              go_wp2_with fail
              refine (s_pick _ _ _ 2 _ HC.out (by omega) (by omega)).mono ?_; rintro e wug ⟨n2, rfl, hn3, hn4, hCn, hXn⟩
              replace HC := Lib.hid (hCn.more (K' := K + 260) (by omega)); replace HBX := Lib.hid (HBX.out.trans hXn)
              clear hCn hXn
              obtain ⟨nn, hnn⟩ : ∃ nn : Nat, nn = 10 + n2 := ⟨_, rfl⟩
              have hnnI : (10 : Int) + (n2 : Int) = (nn : Int) := by omega
              have hnn8 : 10 ≤ nn ∧ nn ≤ 11 := by omega
              clear hnn hn3 hn4 hv3 hv4
              have z1 := HBX.out.size
              go_wp2_with fail
              refine (s_thSplit 101 key2 v2 nn (tt - 1) _ ⟨by omega, by omega⟩ ⟨by omega, by omega⟩ ⟨by omega, by omega⟩ (by omega) (by omega) _ (by omega)).mono ?_; rintro e wuh ⟨yr2, yc2, rfl, hm9, hb9⟩
              have HYR2 := Lib.hid (spL_res (p := 101) (by omega) (cfL 101 key2 v2 (tt - 1)) nn)
              have HYL2 := Lib.hid (spL_len 101 (cfL 101 key2 v2 (tt - 1)) nn)
              generalize spL 101 (cfL 101 key2 v2 (tt - 1)) nn = ys2 at hm9 HYR2 HYL2
              have HY := Lib.hid (hm9.base z1); replace HC := Lib.hid (HC.out.below hb9); replace HBX := Lib.hid (HBX.out.belowB hb9)
              have HYP2 := Lib.hid HY.out.pl
              clear hm9 hb9
              have z2 := HBX.out.size
              go_wp2
              go_loopw [10, 116] (fun v1 i W => ∃ q : Nat, q ≤ nn ∧ i = .int .i64 q ∧ Hid (∃ xs, W.ownsRow wuh.heap.size 3 1 v1 q (ivs xs) ∧ ∀ x ∈ xs, Fits x) ∧ Hid (Below wuh.heap.size wuh W)) (fun _ i _ => nn - (intOf i).toNat)
              case atStart => exact ⟨0, by omega, rfl, (show Hid _ from ⟨[], World.ownsRow_nil _ _ _ _, by simp⟩), Below.refl _ _⟩
              case round =>
                obtain ⟨q, hq, rfl, HO, HB⟩ := hrel
                obtain ⟨wq, rfl⟩ : ∃ wq : World, wq = wr := ⟨_, rfl⟩
                have hzq := HB.out.size
                obtain ⟨xs2, ho, hf⟩ := HO.out
                have HOO := Lib.hid ho; have HF := Lib.hid hf; clear ho hf HO
                by_cases hqn : q < nn
                · have hqi : (q : Int) < (nn : Int) := by omega
                  go_wp2_with (at_builtin; refine wp_app wq wuh.heap.size q _ xs2 ((q : Int) + 1) _ _ rfl _ _ rfl rfl rfl (by first | rfl | simp) HOO.out hzq (by omega) ?_; intro v9 w9 hv9 hb9 hg9)
                  clear hg9
                  go_roundw
                  case rel => exact ⟨q + 1, by omega, by go_num, (show Hid _ from ⟨_, hv9, fun y hy => by rcases List.mem_append.1 hy with q | q; (exact HF.out y q); (simp at q; rw [q]; unfold Fits; omega)⟩), HB.out.trans hb9⟩
                  case measure => first | (simp [intOf]; done) | (simp [intOf]; omega)
                · obtain rfl : q = nn := by omega
                  obtain ⟨xr2, xc2, rfl, hmx⟩ := Mine.of HOO.out (by omega) HF.out
                  have HX := Lib.hid (hmx.base z2); have HXP2 := Lib.hid hmx.pl
                  replace HY := Lib.hid (HY.out.below HB.out); replace HC := Lib.hid (HC.out.below HB.out); replace HBX := Lib.hid (HBX.out.belowB HB.out)
                  clear hmx HOO HF HB
                  go_wp2_with fail
                  refine (s_one _ _ _ 3 _ HC.out (by omega) (by omega)).mono ?_; rintro e wui ⟨qc, rfl, hCn, hXn⟩
                  replace HX := Lib.hid (HX.out.bex hXn hbl); replace HY := Lib.hid (HY.out.bex hXn hbl); replace HC := Lib.hid (hCn.more (K' := K + 270) (by omega)); replace HBX := Lib.hid (HBX.out.trans hXn)
                  clear hCn hXn
                  cases qc with
                  | false =>
                    go_wp2
                    exact bodyPost_ret (v := .tuple #[.int .i64 101, .slice xr2 q xc2, .slice yr2 q yc2, .int .i64 tt]) (by simp [results, Try.results80, go_sem]) rfl ⟨101, xr2, _, xc2, _, yr2, _, yc2, _, tt, rfl, by omega, HX.out, HY.out, by omega, by omega, HC.out.more (by omega), HBX.out⟩
                  | true =>
                    obtain ⟨yb2, yo2, rfl, y1, y2, y3, y4⟩ := HY.out.at (i := 2) (by omega)
                    have hq2 : (2 : Int) < (q : Int) := by omega
                    have yr := HYR2.out.at (i := 2) (by rw [HYL2.out]; omega)
                    have e101 := emod_bd (n := nth ys2 2 + 1) (p := 101) (by omega)
                    have HYS := Lib.hid (HY.out.set (i := 2) (by omega) ((nth ys2 2 + 1) % 101) (by unfold Fits; omega))
                    have HXS : Hid (∀ u, Mine (wui.setCell ⟨yb2, yo2 + 2, none⟩ u) w.heap.size xr2 q xc2 xs2) := fun u => HX.out.onlyA (a := some ⟨yb2, yo2, none⟩) (m := q) ((OnlyM.refl _ _ _).setCell (by omega) u) (Apart.of HXP2.out HYP2.out (Or.inr (Nat.le_refl _)))
                    have HCS : Hid (∀ u, Cur (wui.setCell ⟨yb2, yo2 + 2, none⟩ u) b B (K + 270)) := fun u => HC.out.store (p := ⟨yb2, yo2 + 2, none⟩) (by simp only []; omega) (by simp only []; omega)
                    have HBS : Hid (∀ u, Bex b w (wui.setCell ⟨yb2, yo2 + 2, none⟩ u)) := fun u => HBX.out.store (p := ⟨yb2, yo2 + 2, none⟩) (by simp only []; omega) u
                    clear HX HY HC HBX HYR2
                    go_wp2
                    exact bodyPost_ret (v := .tuple #[.int .i64 101, .slice xr2 q xc2, .slice (some ⟨yb2, yo2, none⟩) q yc2, .int .i64 tt]) (by simp [results, Try.results80, go_sem]) rfl ⟨101, xr2, _, xc2, _, _, _, yc2, _, tt, rfl, by omega, HXS.out _, HYS.out, by omega, by omega, (HCS.out _).more (by omega), HBS.out _⟩
          | true =>
            obtain ⟨hCl, hIl, hOl, hXl⟩ := among_lit (t := 3) [0, (j : Int) + 1] HC.out rfl rfl (by simp) (by intro x hx; simp at hx; unfold Fits; rcases hx with rfl | rfl <;> omega)
            have HXl := Lib.hid (HX.out.bex hXl hbl); have HYl := Lib.hid (HY.out.bex hXl hbl); have HBl := Lib.hid (HBX.out.trans hXl)
            go_wp2_with fail
            refine (s_among _ _ _ _ 2 2 [0, (j : Int) + 1] _ hCl (by omega) hIl (by omega) (by omega) hOl).mono ?_; rintro e wub ⟨tx, rfl, htx, hCn, hXn⟩
            have htx2 : 0 ≤ tx ∧ tx ≤ 12 := by simp at htx; rcases htx with rfl | rfl <;> omega
            obtain ⟨tz, rfl⟩ : ∃ tz : Nat, tx = tz := ⟨tx.toNat, by omega⟩
            replace HX := Lib.hid (HXl.out.bex hXn hbl); replace HY := Lib.hid (HYl.out.bex hXn hbl); replace HC := Lib.hid (hCn.more (K' := K + 210) (by omega)); replace HBX := Lib.hid (HBl.out.trans hXn)
            clear hCn hXn HXl HYl HBl hCl hIl hOl hXl htx
            go_wp2_with fail
            refine (s_one _ _ _ 24 _ HC.out (by omega) (by omega)).mono ?_; rintro e wuc ⟨qb, rfl, hCn, hXn⟩
            replace HX := Lib.hid (HX.out.bex hXn hbl); replace HY := Lib.hid (HY.out.bex hXn hbl); replace HC := Lib.hid (hCn.more (K' := K + 220) (by omega)); replace HBX := Lib.hid (HBX.out.trans hXn)
            clear hCn hXn
            cases qb with
            | false =>
              go_wp2
              exact bodyPost_ret (v := .tuple #[.int .i64 p, .slice (some ⟨xb, xo, none⟩) j xc, .slice (some ⟨yb, yo, none⟩) j yc, .int .i64 tz]) (by simp [results, Try.results80, go_sem]) rfl ⟨p, (some ⟨xb, xo, none⟩), _, xc, _, (some ⟨yb, yo, none⟩), _, yc, _, tz, rfl, by omega, HX.out, HY.out, by omega, by omega, HC.out.more (by omega), HBX.out⟩
            | true =>
              clear HX HY
              have z0 := HBX.out.size
              go_wp2_with fail
              refine (s_pick _ _ _ 8 _ HC.out (by omega) (by omega)).mono ?_; rintro e wud ⟨t8, rfl, ht8, ht9, hCn, hXn⟩
              replace HC := Lib.hid (hCn.more (K' := K + 230) (by omega)); replace HBX := Lib.hid (HBX.out.trans hXn)
              clear hCn hXn
              have ht10 : t8 ≤ 7 := by omega
              obtain ⟨tt, htt⟩ : ∃ tt : Nat, tt = 1 + t8 := ⟨_, rfl⟩
              have httI : (1 : Int) + (t8 : Int) = (tt : Int) := by omega
              have htt8 : 1 ≤ tt ∧ tt ≤ 8 := by omega
              clear htt ht8 ht9
              go_wp2_with fail
              refine (s_pick _ _ _ 9000 _ HC.out (by omega) (by omega)).mono ?_; rintro e wue ⟨key2, rfl, hk3, hk4, hCn, hXn⟩
              replace HC := Lib.hid (hCn.more (K' := K + 240) (by omega)); replace HBX := Lib.hid (HBX.out.trans hXn)
              clear hCn hXn
              go_wp2_with fail
              refine (s_pick _ _ _ 101 _ HC.out (by omega) (by omega)).mono ?_; rintro e wuf ⟨v2, rfl, hv3, hv4, hCn, hXn⟩
              replace HC := Lib.hid (hCn.more (K' := K + 250) (by omega)); replace HBX := Lib.hid (HBX.out.trans hXn)
              clear hCn hXn
              have hvp2 : (v2 : Int) < 101 := by omega
              go_wp2_with fail
              refine (s_pick _ _ _ 2 _ HC.out (by omega) (by omega)).mono ?_; rintro e wug ⟨n2, rfl, hn3, hn4, hCn, hXn⟩
              replace HC := Lib.hid (hCn.more (K' := K + 260) (by omega)); replace HBX := Lib.hid (HBX.out.trans hXn)
              clear hCn hXn
              obtain ⟨nn, hnn⟩ : ∃ nn : Nat, nn = 10 + n2 := ⟨_, rfl⟩
              have hnnI : (10 : Int) + (n2 : Int) = (nn : Int) := by omega
              have hnn8 : 10 ≤ nn ∧ nn ≤ 11 := by omega
              clear hnn hn3 hn4 hv3 hv4
              have z1 := HBX.out.size
              go_wp2_with fail
              refine (s_thSplit 101 key2 v2 nn (tt - 1) _ ⟨by omega, by omega⟩ ⟨by omega, by omega⟩ ⟨by omega, by omega⟩ (by omega) (by omega) _ (by omega)).mono ?_; rintro e wuh ⟨yr2, yc2, rfl, hm9, hb9⟩
              have HYR2 := Lib.hid (spL_res (p := 101) (by omega) (cfL 101 key2 v2 (tt - 1)) nn)
              have HYL2 := Lib.hid (spL_len 101 (cfL 101 key2 v2 (tt - 1)) nn)
              generalize spL 101 (cfL 101 key2 v2 (tt - 1)) nn = ys2 at hm9 HYR2 HYL2
              have HY := Lib.hid (hm9.base z1); replace HC := Lib.hid (HC.out.below hb9); replace HBX := Lib.hid (HBX.out.belowB hb9)
              have HYP2 := Lib.hid HY.out.pl
              clear hm9 hb9
              have z2 := HBX.out.size
              go_wp2
              go_loopw [10, 116] (fun v1 i W => ∃ q : Nat, q ≤ nn ∧ i = .int .i64 q ∧ Hid (∃ xs, W.ownsRow wuh.heap.size 3 1 v1 q (ivs xs) ∧ ∀ x ∈ xs, Fits x) ∧ Hid (Below wuh.heap.size wuh W)) (fun _ i _ => nn - (intOf i).toNat)
              case atStart => exact ⟨0, by omega, rfl, (show Hid _ from ⟨[], World.ownsRow_nil _ _ _ _, by simp⟩), Below.refl _ _⟩
              case round =>
                obtain ⟨q, hq, rfl, HO, HB⟩ := hrel
                obtain ⟨wq, rfl⟩ : ∃ wq : World, wq = wr := ⟨_, rfl⟩
                have hzq := HB.out.size
                obtain ⟨xs2, ho, hf⟩ := HO.out
                have HOO := Lib.hid ho; have HF := Lib.hid hf; clear ho hf HO
                by_cases hqn : q < nn
                · have hqi : (q : Int) < (nn : Int) := by omega
                  go_wp2_with (at_builtin; refine wp_app wq wuh.heap.size q _ xs2 ((q : Int) + 1) _ _ rfl _ _ rfl rfl rfl (by first | rfl | simp) HOO.out hzq (by omega) ?_; intro v9 w9 hv9 hb9 hg9)
                  clear hg9
                  go_roundw
                  case rel => exact ⟨q + 1, by omega, by go_num, (show Hid _ from ⟨_, hv9, fun y hy => by rcases List.mem_append.1 hy with q | q; (exact HF.out y q); (simp at q; rw [q]; unfold Fits; omega)⟩), HB.out.trans hb9⟩
                  case measure => first | (simp [intOf]; done) | (simp [intOf]; omega)
                · obtain rfl : q = nn := by omega
                  obtain ⟨xr2, xc2, rfl, hmx⟩ := Mine.of HOO.out (by omega) HF.out
                  have HX := Lib.hid (hmx.base z2); have HXP2 := Lib.hid hmx.pl
                  replace HY := Lib.hid (HY.out.below HB.out); replace HC := Lib.hid (HC.out.below HB.out); replace HBX := Lib.hid (HBX.out.belowB HB.out)
                  clear hmx HOO HF HB
                  go_wp2_with fail
                  refine (s_one _ _ _ 3 _ HC.out (by omega) (by omega)).mono ?_; rintro e wui ⟨qc, rfl, hCn, hXn⟩
                  replace HX := Lib.hid (HX.out.bex hXn hbl); replace HY := Lib.hid (HY.out.bex hXn hbl); replace HC := Lib.hid (hCn.more (K' := K + 270) (by omega)); replace HBX := Lib.hid (HBX.out.trans hXn)
                  clear hCn hXn
                  cases qc with
                  | false =>
                    go_wp2
                    exact bodyPost_ret (v := .tuple #[.int .i64 101, .slice xr2 q xc2, .slice yr2 q yc2, .int .i64 tt]) (by simp [results, Try.results80, go_sem]) rfl ⟨101, xr2, _, xc2, _, yr2, _, yc2, _, tt, rfl, by omega, HX.out, HY.out, by omega, by omega, HC.out.more (by omega), HBX.out⟩
                  | true =>
                    obtain ⟨yb2, yo2, rfl, y1, y2, y3, y4⟩ := HY.out.at (i := 2) (by omega)
                    have hq2 : (2 : Int) < (q : Int) := by omega
                    have yr := HYR2.out.at (i := 2) (by rw [HYL2.out]; omega)
                    have e101 := emod_bd (n := nth ys2 2 + 1) (p := 101) (by omega)
                    have HYS := Lib.hid (HY.out.set (i := 2) (by omega) ((nth ys2 2 + 1) % 101) (by unfold Fits; omega))
                    have HXS : Hid (∀ u, Mine (wui.setCell ⟨yb2, yo2 + 2, none⟩ u) w.heap.size xr2 q xc2 xs2) := fun u => HX.out.onlyA (a := some ⟨yb2, yo2, none⟩) (m := q) ((OnlyM.refl _ _ _).setCell (by omega) u) (Apart.of HXP2.out HYP2.out (Or.inr (Nat.le_refl _)))
                    have HCS : Hid (∀ u, Cur (wui.setCell ⟨yb2, yo2 + 2, none⟩ u) b B (K + 270)) := fun u => HC.out.store (p := ⟨yb2, yo2 + 2, none⟩) (by simp only []; omega) (by simp only []; omega)
                    have HBS : Hid (∀ u, Bex b w (wui.setCell ⟨yb2, yo2 + 2, none⟩ u)) := fun u => HBX.out.store (p := ⟨yb2, yo2 + 2, none⟩) (by simp only []; omega) u
                    clear HX HY HC HBX HYR2
                    go_wp2
                    exact bodyPost_ret (v := .tuple #[.int .i64 101, .slice xr2 q xc2, .slice (some ⟨yb2, yo2, none⟩) q yc2, .int .i64 tt]) (by simp [results, Try.results80, go_sem]) rfl ⟨101, xr2, _, xc2, _, _, _, yc2, _, tt, rfl, by omega, HXS.out _, HYS.out, by omega, by omega, (HCS.out _).more (by omega), HBS.out _⟩
        | true =>
          go_wp2_with fail
          refine (s_pick _ _ _ (j : Int) _ HC.out (by omega) (by omega)).mono ?_; rintro e wk ⟨kk, rfl, hk3, hk4, hCn, hXn⟩
          replace HX := Lib.hid (HX.out.bex hXn hbl); replace HY := Lib.hid (HY.out.bex hXn hbl); replace HC := Lib.hid (hCn.more (K' := K + 130) (by omega)); replace HBX := Lib.hid (HBX.out.trans hXn)
          clear hCn hXn
          have hkj : kk < j := by omega
          have hkI : (kk : Int) < (j : Int) := by omega
          obtain ⟨hCl, hIl, hOl, hXl⟩ := among_lit (t := 3) [0, 1, p] HC.out rfl rfl (by simp) (by intro x hx; simp at hx; unfold Fits; rcases hx with rfl | rfl | rfl <;> omega)
          have HXl := Lib.hid (HX.out.bex hXl hbl); have HYl := Lib.hid (HY.out.bex hXl hbl); have HBl := Lib.hid (HBX.out.trans hXl)
          go_wp2_with fail
          refine (s_among _ _ _ _ 3 3 [0, 1, p] _ hCl (by omega) hIl (by omega) (by omega) hOl).mono ?_; rintro e wl ⟨tx, rfl, htx, hCn, hXn⟩
          have htx2 : 0 ≤ tx ∧ tx ≤ 251 := by simp at htx; rcases htx with rfl | rfl | rfl <;> omega
          replace HX := Lib.hid (HXl.out.bex hXn hbl); replace HY := Lib.hid (HYl.out.bex hXn hbl); replace HC := Lib.hid (hCn.more (K' := K + 140) (by omega)); replace HBX := Lib.hid (HBl.out.trans hXn)
          clear hCn hXn HXl HYl HBl hCl hIl hOl hXl htx
          obtain ⟨xb2, xo2, ex, x1, x2, x3, x4⟩ := HX.out.at (i := kk) hkj
          simp only [Option.some.injEq, Addr.mk.injEq] at ex
          obtain ⟨rfl, rfl, _⟩ := ex
          have zk := HBX.out.size
          have HXS := Lib.hid (HX.out.set (i := kk) hkj tx (by unfold Fits; omega))
          have HYS := Lib.hid (HY.out.onlyA (a := some ⟨xb, xo, none⟩) (m := j) ((OnlyM.refl _ _ wl).setCell (i := xo + kk) (by omega) (.int .i64 tx)) (Apart.symm hap.out))
          have HCS := Lib.hid (HC.out.store (p := ⟨xb, xo + kk, none⟩) (u := .int .i64 tx) (by simp only []; omega) (by simp only []; omega))
          have HBS := Lib.hid (HBX.out.store (p := ⟨xb, xo + kk, none⟩) (by simp only []; omega) (.int .i64 tx))
          clear HX HY HC HBX hap
          go_wp2_with fail
          refine (s_one _ _ _ 16 _ HCS.out (by omega) (by omega)).mono ?_; rintro e wva ⟨qa, rfl, hCn, hXn⟩
          have HX := Lib.hid (HXS.out.bex hXn hbl); have HY := Lib.hid (HYS.out.bex hXn hbl); have HC := Lib.hid (hCn.more (K' := K + 200) (by omega)); have HBX := Lib.hid (HBS.out.trans hXn)
          clear hCn hXn HXS HYS HCS HBS
          cases qa with
          | false =>
            go_wp2_with fail
            refine (s_one _ _ _ 24 _ HC.out (by omega) (by omega)).mono ?_; rintro e wvc ⟨qb, rfl, hCn, hXn⟩
            replace HX := Lib.hid (HX.out.bex hXn hbl); replace HY := Lib.hid (HY.out.bex hXn hbl); replace HC := Lib.hid (hCn.more (K' := K + 220) (by omega)); replace HBX := Lib.hid (HBX.out.trans hXn)
            clear hCn hXn
            cases qb with
            | false =>
              go_wp2
              exact bodyPost_ret (v := .tuple #[.int .i64 p, .slice (some ⟨xb, xo, none⟩) j xc, .slice (some ⟨yb, yo, none⟩) j yc, .int .i64 t]) (by simp [results, Try.results80, go_sem]) rfl ⟨p, (some ⟨xb, xo, none⟩), _, xc, _, (some ⟨yb, yo, none⟩), _, yc, _, t, rfl, by omega, HX.out, HY.out, by omega, by omega, HC.out.more (by omega), HBX.out⟩
            | true =>
              clear HX HY
              have z0 := HBX.out.size
              go_wp2_with fail
              refine (s_pick _ _ _ 8 _ HC.out (by omega) (by omega)).mono ?_; rintro e wvd ⟨t8, rfl, ht8, ht9, hCn, hXn⟩
              replace HC := Lib.hid (hCn.more (K' := K + 230) (by omega)); replace HBX := Lib.hid (HBX.out.trans hXn)
              clear hCn hXn
              have ht10 : t8 ≤ 7 := by omega
              obtain ⟨tt, htt⟩ : ∃ tt : Nat, tt = 1 + t8 := ⟨_, rfl⟩
              have httI : (1 : Int) + (t8 : Int) = (tt : Int) := by omega
              have htt8 : 1 ≤ tt ∧ tt ≤ 8 := by omega
              clear htt ht8 ht9
              go_wp2_with fail
              refine (s_pick _ _ _ 9000 _ HC.out (by omega) (by omega)).mono ?_; rintro e wve ⟨key2, rfl, hk3, hk4, hCn, hXn⟩
              replace HC := Lib.hid (hCn.more (K' := K + 240) (by omega)); replace HBX := Lib.hid (HBX.out.trans hXn)
              clear hCn hXn
              go_wp2_with fail
              refine (s_pick _ _ _ 101 _ HC.out (by omega) (by omega)).mono ?_; rintro e wvf ⟨v2, rfl, hv3, hv4, hCn, hXn⟩
              replace HC := Lib.hid (hCn.more (K' := K + 250) (by omega)); replace HBX := Lib.hid (HBX.out.trans hXn)
              clear hCn hXn
              have hvp2 : (v2 : Int) < 101 := by omega
              go_wp2_with fail
              refine (s_pick _ _ _ 2 _ HC.out (by omega) (by omega)).mono ?_; rintro e wvg ⟨n2, rfl, hn3, hn4, hCn, hXn⟩
              replace HC := Lib.hid (hCn.more (K' := K + 260) (by omega)); replace HBX := Lib.hid (HBX.out.trans hXn)
              clear hCn hXn
              obtain ⟨nn, hnn⟩ : ∃ nn : Nat, nn = 10 + n2 := ⟨_, rfl⟩
              have hnnI : (10 : Int) + (n2 : Int) = (nn : Int) := by omega
              have hnn8 : 10 ≤ nn ∧ nn ≤ 11 := by omega
              clear hnn hn3 hn4 hv3 hv4
              have z1 := HBX.out.size
              go_wp2_with fail
              refine (s_thSplit 101 key2 v2 nn (tt - 1) _ ⟨by omega, by omega⟩ ⟨by omega, by omega⟩ ⟨by omega, by omega⟩ (by omega) (by omega) _ (by omega)).mono ?_; rintro e wvh ⟨yr2, yc2, rfl, hm9, hb9⟩
              have HYR2 := Lib.hid (spL_res (p := 101) (by omega) (cfL 101 key2 v2 (tt - 1)) nn)
              have HYL2 := Lib.hid (spL_len 101 (cfL 101 key2 v2 (tt - 1)) nn)
              generalize spL 101 (cfL 101 key2 v2 (tt - 1)) nn = ys2 at hm9 HYR2 HYL2
              have HY := Lib.hid (hm9.base z1); replace HC := Lib.hid (HC.out.below hb9); replace HBX := Lib.hid (HBX.out.belowB hb9)
              have HYP2 := Lib.hid HY.out.pl
              clear hm9 hb9
              have z2 := HBX.out.size
              go_wp2
              go_loopw [10, 116] (fun v1 i W => ∃ q : Nat, q ≤ nn ∧ i = .int .i64 q ∧ Hid (∃ xs, W.ownsRow wvh.heap.size 3 1 v1 q (ivs xs) ∧ ∀ x ∈ xs, Fits x) ∧ Hid (Below wvh.heap.size wvh W)) (fun _ i _ => nn - (intOf i).toNat)
              case atStart => exact ⟨0, by omega, rfl, (show Hid _ from ⟨[], World.ownsRow_nil _ _ _ _, by simp⟩), Below.refl _ _⟩
              case round =>
                obtain ⟨q, hq, rfl, HO, HB⟩ := hrel
                obtain ⟨wq, rfl⟩ : ∃ wq : World, wq = wr := ⟨_, rfl⟩
                have hzq := HB.out.size
                obtain ⟨xs2, ho, hf⟩ := HO.out
                have HOO := Lib.hid ho; have HF := Lib.hid hf; clear ho hf HO
                by_cases hqn : q < nn
                · have hqi : (q : Int) < (nn : Int) := by omega
                  go_wp2_with (at_builtin; refine wp_app wq wvh.heap.size q _ xs2 ((q : Int) + 1) _ _ rfl _ _ rfl rfl rfl (by first | rfl | simp) HOO.out hzq (by omega) ?_; intro v9 w9 hv9 hb9 hg9)
                  clear hg9
                  go_roundw
                  case rel => exact ⟨q + 1, by omega, by go_num, (show Hid _ from ⟨_, hv9, fun y hy => by rcases List.mem_append.1 hy with q | q; (exact HF.out y q); (simp at q; rw [q]; unfold Fits; omega)⟩), HB.out.trans hb9⟩
                  case measure => first | (simp [intOf]; done) | (simp [intOf]; omega)
                · obtain rfl : q = nn := by omega
                  obtain ⟨xr2, xc2, rfl, hmx⟩ := Mine.of HOO.out (by omega) HF.out
                  have HX := Lib.hid (hmx.base z2); have HXP2 := Lib.hid hmx.pl
                  replace HY := Lib.hid (HY.out.below HB.out); replace HC := Lib.hid (HC.out.below HB.out); replace HBX := Lib.hid (HBX.out.belowB HB.out)
                  clear hmx HOO HF HB
                  go_wp2_with fail
                  refine (s_one _ _ _ 3 _ HC.out (by omega) (by omega)).mono ?_; rintro e wvi ⟨qc, rfl, hCn, hXn⟩
                  replace HX := Lib.hid (HX.out.bex hXn hbl); replace HY := Lib.hid (HY.out.bex hXn hbl); replace HC := Lib.hid (hCn.more (K' := K + 270) (by omega)); replace HBX := Lib.hid (HBX.out.trans hXn)
                  clear hCn hXn
                  cases qc with
                  | false =>
                    go_wp2
                    exact bodyPost_ret (v := .tuple #[.int .i64 101, .slice xr2 q xc2, .slice yr2 q yc2, .int .i64 tt]) (by simp [results, Try.results80, go_sem]) rfl ⟨101, xr2, _, xc2, _, yr2, _, yc2, _, tt, rfl, by omega, HX.out, HY.out, by omega, by omega, HC.out.more (by omega), HBX.out⟩
                  | true =>
                    obtain ⟨yb2, yo2, rfl, y1, y2, y3, y4⟩ := HY.out.at (i := 2) (by omega)
                    have hq2 : (2 : Int) < (q : Int) := by omega
                    have yr := HYR2.out.at (i := 2) (by rw [HYL2.out]; omega)
                    have e101 := emod_bd (n := nth ys2 2 + 1) (p := 101) (by omega)
                    have HYS := Lib.hid (HY.out.set (i := 2) (by omega) ((nth ys2 2 + 1) % 101) (by unfold Fits; omega))
                    have HXS : Hid (∀ u, Mine (wvi.setCell ⟨yb2, yo2 + 2, none⟩ u) w.heap.size xr2 q xc2 xs2) := fun u => HX.out.onlyA (a := some ⟨yb2, yo2, none⟩) (m := q) ((OnlyM.refl _ _ _).setCell (by omega) u) (Apart.of HXP2.out HYP2.out (Or.inr (Nat.le_refl _)))
                    have HCS : Hid (∀ u, Cur (wvi.setCell ⟨yb2, yo2 + 2, none⟩ u) b B (K + 270)) := fun u => HC.out.store (p := ⟨yb2, yo2 + 2, none⟩) (by simp only []; omega) (by simp only []; omega)
                    have HBS : Hid (∀ u, Bex b w (wvi.setCell ⟨yb2, yo2 + 2, none⟩ u)) := fun u => HBX.out.store (p := ⟨yb2, yo2 + 2, none⟩) (by simp only []; omega) u
                    clear HX HY HC HBX HYR2
                    go_wp2
                    exact bodyPost_ret (v := .tuple #[.int .i64 101, .slice xr2 q xc2, .slice (some ⟨yb2, yo2, none⟩) q yc2, .int .i64 tt]) (by simp [results, Try.results80, go_sem]) rfl ⟨101, xr2, _, xc2, _, _, _, yc2, _, tt, rfl, by omega, HXS.out _, HYS.out, by omega, by omega, (HCS.out _).more (by omega), HBS.out _⟩
          | true =>
            obtain ⟨hCl, hIl, hOl, hXl⟩ := among_lit (t := 3) [0, (j : Int) + 1] HC.out rfl rfl (by simp) (by intro x hx; simp at hx; unfold Fits; rcases hx with rfl | rfl <;> omega)
            have HXl := Lib.hid (HX.out.bex hXl hbl); have HYl := Lib.hid (HY.out.bex hXl hbl); have HBl := Lib.hid (HBX.out.trans hXl)
            go_wp2_with fail
            refine (s_among _ _ _ _ 2 2 [0, (j : Int) + 1] _ hCl (by omega) hIl (by omega) (by omega) hOl).mono ?_; rintro e wvb ⟨tx, rfl, htx, hCn, hXn⟩
            have htx2 : 0 ≤ tx ∧ tx ≤ 12 := by simp at htx; rcases htx with rfl | rfl <;> omega
            obtain ⟨tz, rfl⟩ : ∃ tz : Nat, tx = tz := ⟨tx.toNat, by omega⟩
            replace HX := Lib.hid (HXl.out.bex hXn hbl); replace HY := Lib.hid (HYl.out.bex hXn hbl); replace HC := Lib.hid (hCn.more (K' := K + 210) (by omega)); replace HBX := Lib.hid (HBl.out.trans hXn)
            clear hCn hXn HXl HYl HBl hCl hIl hOl hXl htx
            go_wp2_with fail
            refine (s_one _ _ _ 24 _ HC.out (by omega) (by omega)).mono ?_; rintro e wvc ⟨qb, rfl, hCn, hXn⟩
            replace HX := Lib.hid (HX.out.bex hXn hbl); replace HY := Lib.hid (HY.out.bex hXn hbl); replace HC := Lib.hid (hCn.more (K' := K + 220) (by omega)); replace HBX := Lib.hid (HBX.out.trans hXn)
            clear hCn hXn
            cases qb with
            | false =>
              go_wp2
              exact bodyPost_ret (v := .tuple #[.int .i64 p, .slice (some ⟨xb, xo, none⟩) j xc, .slice (some ⟨yb, yo, none⟩) j yc, .int .i64 tz]) (by simp [results, Try.results80, go_sem]) rfl ⟨p, (some ⟨xb, xo, none⟩), _, xc, _, (some ⟨yb, yo, none⟩), _, yc, _, tz, rfl, by omega, HX.out, HY.out, by omega, by omega, HC.out.more (by omega), HBX.out⟩
            | true =>
              clear HX HY
              have z0 := HBX.out.size
              go_wp2_with fail
              refine (s_pick _ _ _ 8 _ HC.out (by omega) (by omega)).mono ?_; rintro e wvd ⟨t8, rfl, ht8, ht9, hCn, hXn⟩
              replace HC := Lib.hid (hCn.more (K' := K + 230) (by omega)); replace HBX := Lib.hid (HBX.out.trans hXn)
              clear hCn hXn
              have ht10 : t8 ≤ 7 := by omega
              obtain ⟨tt, htt⟩ : ∃ tt : Nat, tt = 1 + t8 := ⟨_, rfl⟩
              have httI : (1 : Int) + (t8 : Int) = (tt : Int) := by omega
              have htt8 : 1 ≤ tt ∧ tt ≤ 8 := by omega
              clear htt ht8 ht9
              go_wp2_with fail
              refine (s_pick _ _ _ 9000 _ HC.out (by omega) (by omega)).mono ?_; rintro e wve ⟨key2, rfl, hk3, hk4, hCn, hXn⟩
              replace HC := Lib.hid (hCn.more (K' := K + 240) (by omega)); replace HBX := Lib.hid (HBX.out.trans hXn)
              clear hCn hXn
              go_wp2_with fail
              refine (s_pick _ _ _ 101 _ HC.out (by omega) (by omega)).mono ?_; rintro e wvf ⟨v2, rfl, hv3, hv4, hCn, hXn⟩
              replace HC := Lib.hid (hCn.more (K' := K + 250) (by omega)); replace HBX := Lib.hid (HBX.out.trans hXn)
              clear hCn hXn
              have hvp2 : (v2 : Int) < 101 := by omega
              go_wp2_with fail
              refine (s_pick _ _ _ 2 _ HC.out (by omega) (by omega)).mono ?_; rintro e wvg ⟨n2, rfl, hn3, hn4, hCn, hXn⟩
              replace HC := Lib.hid (hCn.more (K' := K + 260) (by omega)); replace HBX := Lib.hid (HBX.out.trans hXn)
              clear hCn hXn
              obtain ⟨nn, hnn⟩ : ∃ nn : Nat, nn = 10 + n2 := ⟨_, rfl⟩
              have hnnI : (10 : Int) + (n2 : Int) = (nn : Int) := by omega
              have hnn8 : 10 ≤ nn ∧ nn ≤ 11 := by omega
              clear hnn hn3 hn4 hv3 hv4
              have z1 := HBX.out.size
              go_wp2_with fail
              refine (s_thSplit 101 key2 v2 nn (tt - 1) _ ⟨by omega, by omega⟩ ⟨by omega, by omega⟩ ⟨by omega, by omega⟩ (by omega) (by omega) _ (by omega)).mono ?_; rintro e wvh ⟨yr2, yc2, rfl, hm9, hb9⟩
              have HYR2 := Lib.hid (spL_res (p := 101) (by omega) (cfL 101 key2 v2 (tt - 1)) nn)
              have HYL2 := Lib.hid (spL_len 101 (cfL 101 key2 v2 (tt - 1)) nn)
              generalize spL 101 (cfL 101 key2 v2 (tt - 1)) nn = ys2 at hm9 HYR2 HYL2
              have HY := Lib.hid (hm9.base z1); replace HC := Lib.hid (HC.out.below hb9); replace HBX := Lib.hid (HBX.out.belowB hb9)
              have HYP2 := Lib.hid HY.out.pl
              clear hm9 hb9
              have z2 := HBX.out.size
              go_wp2
              go_loopw [10, 116] (fun v1 i W => ∃ q : Nat, q ≤ nn ∧ i = .int .i64 q ∧ Hid (∃ xs, W.ownsRow wvh.heap.size 3 1 v1 q (ivs xs) ∧ ∀ x ∈ xs, Fits x) ∧ Hid (Below wvh.heap.size wvh W)) (fun _ i _ => nn - (intOf i).toNat)
              case atStart => exact ⟨0, by omega, rfl, (show Hid _ from ⟨[], World.ownsRow_nil _ _ _ _, by simp⟩), Below.refl _ _⟩
              case round =>
                obtain ⟨q, hq, rfl, HO, HB⟩ := hrel
                obtain ⟨wq, rfl⟩ : ∃ wq : World, wq = wr := ⟨_, rfl⟩
                have hzq := HB.out.size
                obtain ⟨xs2, ho, hf⟩ := HO.out
                have HOO := Lib.hid ho; have HF := Lib.hid hf; clear ho hf HO
                by_cases hqn : q < nn
                · have hqi : (q : Int) < (nn : Int) := by omega
                  go_wp2_with (at_builtin; refine wp_app wq wvh.heap.size q _ xs2 ((q : Int) + 1) _ _ rfl _ _ rfl rfl rfl (by first | rfl | simp) HOO.out hzq (by omega) ?_; intro v9 w9 hv9 hb9 hg9)
                  clear hg9
                  go_roundw
                  case rel => exact ⟨q + 1, by omega, by go_num, (show Hid _ from ⟨_, hv9, fun y hy => by rcases List.mem_append.1 hy with q | q; (exact HF.out y q); (simp at q; rw [q]; unfold Fits; omega)⟩), HB.out.trans hb9⟩
                  case measure => first | (simp [intOf]; done) | (simp [intOf]; omega)
                · obtain rfl : q = nn := by omega
                  obtain ⟨xr2, xc2, rfl, hmx⟩ := Mine.of HOO.out (by omega) HF.out
                  have HX := Lib.hid (hmx.base z2); have HXP2 := Lib.hid hmx.pl
                  replace HY := Lib.hid (HY.out.below HB.out); replace HC := Lib.hid (HC.out.below HB.out); replace HBX := Lib.hid (HBX.out.belowB HB.out)
                  clear hmx HOO HF HB
                  go_wp2_with fail
                  refine (s_one _ _ _ 3 _ HC.out (by omega) (by omega)).mono ?_; rintro e wvi ⟨qc, rfl, hCn, hXn⟩
                  replace HX := Lib.hid (HX.out.bex hXn hbl); replace HY := Lib.hid (HY.out.bex hXn hbl); replace HC := Lib.hid (hCn.more (K' := K + 270) (by omega)); replace HBX := Lib.hid (HBX.out.trans hXn)
                  clear hCn hXn
                  cases qc with
                  | false =>
                    go_wp2
                    exact bodyPost_ret (v := .tuple #[.int .i64 101, .slice xr2 q xc2, .slice yr2 q yc2, .int .i64 tt]) (by simp [results, Try.results80, go_sem]) rfl ⟨101, xr2, _, xc2, _, yr2, _, yc2, _, tt, rfl, by omega, HX.out, HY.out, by omega, by omega, HC.out.more (by omega), HBX.out⟩
                  | true =>
                    obtain ⟨yb2, yo2, rfl, y1, y2, y3, y4⟩ := HY.out.at (i := 2) (by omega)
                    have hq2 : (2 : Int) < (q : Int) := by omega
                    have yr := HYR2.out.at (i := 2) (by rw [HYL2.out]; omega)
                    have e101 := emod_bd (n := nth ys2 2 + 1) (p := 101) (by omega)
                    have HYS := Lib.hid (HY.out.set (i := 2) (by omega) ((nth ys2 2 + 1) % 101) (by unfold Fits; omega))
                    have HXS : Hid (∀ u, Mine (wvi.setCell ⟨yb2, yo2 + 2, none⟩ u) w.heap.size xr2 q xc2 xs2) := fun u => HX.out.onlyA (a := some ⟨yb2, yo2, none⟩) (m := q) ((OnlyM.refl _ _ _).setCell (by omega) u) (Apart.of HXP2.out HYP2.out (Or.inr (Nat.le_refl _)))
                    have HCS : Hid (∀ u, Cur (wvi.setCell ⟨yb2, yo2 + 2, none⟩ u) b B (K + 270)) := fun u => HC.out.store (p := ⟨yb2, yo2 + 2, none⟩) (by simp only []; omega) (by simp only []; omega)
                    have HBS : Hid (∀ u, Bex b w (wvi.setCell ⟨yb2, yo2 + 2, none⟩ u)) := fun u => HBX.out.store (p := ⟨yb2, yo2 + 2, none⟩) (by simp only []; omega) u
                    clear HX HY HC HBX HYR2
                    go_wp2
                    exact bodyPost_ret (v := .tuple #[.int .i64 101, .slice xr2 q xc2, .slice (some ⟨yb2, yo2, none⟩) q yc2, .int .i64 tt]) (by simp [results, Try.results80, go_sem]) rfl ⟨101, xr2, _, xc2, _, _, _, yc2, _, tt, rfl, by omega, HXS.out _, HYS.out, by omega, by omega, (HCS.out _).more (by omega), HBS.out _⟩
      have s0 : ((s : Int) == 0) = false := by rw [beq_eq_false_iff_ne]; omega
      have s1 : ((s : Int) == 1) = false := by rw [beq_eq_false_iff_ne]; omega
      have s2 : ((s : Int) == 2) = false := by rw [beq_eq_false_iff_ne]; omega
      have s3 : ((s : Int) == 3) = false := by rw [beq_eq_false_iff_ne]; omega
      clear hap
      go_wp2_with fail
      refine (s_one _ _ _ 16 _ HC.out (by omega) (by omega)).mono ?_; rintro e wza ⟨qa, rfl, hCn, hXn⟩
      replace HX := Lib.hid (HX.out.bex hXn hbl); replace HY := Lib.hid (HY.out.bex hXn hbl); replace HC := Lib.hid (hCn.more (K' := K + 200) (by omega)); replace HBX := Lib.hid (HBX.out.trans hXn)
      clear hCn hXn
      cases qa with
      | false =>
        go_wp2_with fail
        refine (s_one _ _ _ 24 _ HC.out (by omega) (by omega)).mono ?_; rintro e wzc ⟨qb, rfl, hCn, hXn⟩
        replace HX := Lib.hid (HX.out.bex hXn hbl); replace HY := Lib.hid (HY.out.bex hXn hbl); replace HC := Lib.hid (hCn.more (K' := K + 220) (by omega)); replace HBX := Lib.hid (HBX.out.trans hXn)
        clear hCn hXn
        cases qb with
        | false =>
          go_wp2
          exact bodyPost_ret (v := .tuple #[.int .i64 p, .slice (some ⟨xb, xo, none⟩) j xc, .slice (some ⟨yb, yo, none⟩) j yc, .int .i64 t]) (by simp [results, Try.results80, go_sem]) rfl ⟨p, (some ⟨xb, xo, none⟩), _, xc, _, (some ⟨yb, yo, none⟩), _, yc, _, t, rfl, by omega, HX.out, HY.out, by omega, by omega, HC.out.more (by omega), HBX.out⟩
        | true =>
          clear HX HY
          have z0 := HBX.out.size
          go_wp2_with fail
          refine (s_pick _ _ _ 8 _ HC.out (by omega) (by omega)).mono ?_; rintro e wzd ⟨t8, rfl, ht8, ht9, hCn, hXn⟩
          replace HC := Lib.hid (hCn.more (K' := K + 230) (by omega)); replace HBX := Lib.hid (HBX.out.trans hXn)
          clear hCn hXn
          have ht10 : t8 ≤ 7 := by omega
          obtain ⟨tt, htt⟩ : ∃ tt : Nat, tt = 1 + t8 := ⟨_, rfl⟩
          have httI : (1 : Int) + (t8 : Int) = (tt : Int) := by omega
          have htt8 : 1 ≤ tt ∧ tt ≤ 8 := by omega
          clear htt ht8 ht9
          go_wp2_with fail
          refine (s_pick _ _ _ 9000 _ HC.out (by omega) (by omega)).mono ?_; rintro e wze ⟨key2, rfl, hk3, hk4, hCn, hXn⟩
          replace HC := Lib.hid (hCn.more (K' := K + 240) (by omega)); replace HBX := Lib.hid (HBX.out.trans hXn)
          clear hCn hXn
          go_wp2_with fail
          refine (s_pick _ _ _ 101 _ HC.out (by omega) (by omega)).mono ?_; rintro e wzf ⟨v2, rfl, hv3, hv4, hCn, hXn⟩
          replace HC := Lib.hid (hCn.more (K' := K + 250) (by omega)); replace HBX := Lib.hid (HBX.out.trans hXn)
          clear hCn hXn
          have hvp2 : (v2 : Int) < 101 := by omega
          go_wp2_with fail
          refine (s_pick _ _ _ 2 _ HC.out (by omega) (by omega)).mono ?_; rintro e wzg ⟨n2, rfl, hn3, hn4, hCn, hXn⟩
          replace HC := Lib.hid (hCn.more (K' := K + 260) (by omega)); replace HBX := Lib.hid (HBX.out.trans hXn)
          clear hCn hXn
          obtain ⟨nn, hnn⟩ : ∃ nn : Nat, nn = 10 + n2 := ⟨_, rfl⟩
          have hnnI : (10 : Int) + (n2 : Int) = (nn : Int) := by omega
          have hnn8 : 10 ≤ nn ∧ nn ≤ 11 := by omega
          clear hnn hn3 hn4 hv3 hv4
          have z1 := HBX.out.size
          go_wp2_with fail
          refine (s_thSplit 101 key2 v2 nn (tt - 1) _ ⟨by omega, by omega⟩ ⟨by omega, by omega⟩ ⟨by omega, by omega⟩ (by omega) (by omega) _ (by omega)).mono ?_; rintro e wzh ⟨yr2, yc2, rfl, hm9, hb9⟩
          have HYR2 := Lib.hid (spL_res (p := 101) (by omega) (cfL 101 key2 v2 (tt - 1)) nn)
          have HYL2 := Lib.hid (spL_len 101 (cfL 101 key2 v2 (tt - 1)) nn)
          generalize spL 101 (cfL 101 key2 v2 (tt - 1)) nn = ys2 at hm9 HYR2 HYL2
          have HY := Lib.hid (hm9.base z1); replace HC := Lib.hid (HC.out.below hb9); replace HBX := Lib.hid (HBX.out.belowB hb9)
          have HYP2 := Lib.hid HY.out.pl
          clear hm9 hb9
          have z2 := HBX.out.size
          go_wp2
          go_loopw [10, 116] (fun v1 i W => ∃ q : Nat, q ≤ nn ∧ i = .int .i64 q ∧ Hid (∃ xs, W.ownsRow wzh.heap.size 3 1 v1 q (ivs xs) ∧ ∀ x ∈ xs, Fits x) ∧ Hid (Below wzh.heap.size wzh W)) (fun _ i _ => nn - (intOf i).toNat)
          case atStart => exact ⟨0, by omega, rfl, (show Hid _ from ⟨[], World.ownsRow_nil _ _ _ _, by simp⟩), Below.refl _ _⟩
          case round =>
            obtain ⟨q, hq, rfl, HO, HB⟩ := hrel
            obtain ⟨wq, rfl⟩ : ∃ wq : World, wq = wr := ⟨_, rfl⟩
            have hzq := HB.out.size
            obtain ⟨xs2, ho, hf⟩ := HO.out
            have HOO := Lib.hid ho; have HF := Lib.hid hf; clear ho hf HO
            by_cases hqn : q < nn
            · have hqi : (q : Int) < (nn : Int) := by omega
              go_wp2_with (at_builtin; refine wp_app wq wzh.heap.size q _ xs2 ((q : Int) + 1) _ _ rfl _ _ rfl rfl rfl (by first | rfl | simp) HOO.out hzq (by omega) ?_; intro v9 w9 hv9 hb9 hg9)
              clear hg9
              go_roundw
              case rel => exact ⟨q + 1, by omega, by go_num, (show Hid _ from ⟨_, hv9, fun y hy => by rcases List.mem_append.1 hy with q | q; (exact HF.out y q); (simp at q; rw [q]; unfold Fits; omega)⟩), HB.out.trans hb9⟩
              case measure => first | (simp [intOf]; done) | (simp [intOf]; omega)
            · obtain rfl : q = nn := by omega
              obtain ⟨xr2, xc2, rfl, hmx⟩ := Mine.of HOO.out (by omega) HF.out
              have HX := Lib.hid (hmx.base z2); have HXP2 := Lib.hid hmx.pl
              replace HY := Lib.hid (HY.out.below HB.out); replace HC := Lib.hid (HC.out.below HB.out); replace HBX := Lib.hid (HBX.out.belowB HB.out)
              clear hmx HOO HF HB
              go_wp2_with fail
              refine (s_one _ _ _ 3 _ HC.out (by omega) (by omega)).mono ?_; rintro e wzi ⟨qc, rfl, hCn, hXn⟩
              replace HX := Lib.hid (HX.out.bex hXn hbl); replace HY := Lib.hid (HY.out.bex hXn hbl); replace HC := Lib.hid (hCn.more (K' := K + 270) (by omega)); replace HBX := Lib.hid (HBX.out.trans hXn)
              clear hCn hXn
              cases qc with
              | false =>
                go_wp2
                exact bodyPost_ret (v := .tuple #[.int .i64 101, .slice xr2 q xc2, .slice yr2 q yc2, .int .i64 tt]) (by simp [results, Try.results80, go_sem]) rfl ⟨101, xr2, _, xc2, _, yr2, _, yc2, _, tt, rfl, by omega, HX.out, HY.out, by omega, by omega, HC.out.more (by omega), HBX.out⟩
              | true =>
                obtain ⟨yb2, yo2, rfl, y1, y2, y3, y4⟩ := HY.out.at (i := 2) (by omega)
                have hq2 : (2 : Int) < (q : Int) := by omega
                have yr := HYR2.out.at (i := 2) (by rw [HYL2.out]; omega)
                have e101 := emod_bd (n := nth ys2 2 + 1) (p := 101) (by omega)
                have HYS := Lib.hid (HY.out.set (i := 2) (by omega) ((nth ys2 2 + 1) % 101) (by unfold Fits; omega))
                have HXS : Hid (∀ u, Mine (wzi.setCell ⟨yb2, yo2 + 2, none⟩ u) w.heap.size xr2 q xc2 xs2) := fun u => HX.out.onlyA (a := some ⟨yb2, yo2, none⟩) (m := q) ((OnlyM.refl _ _ _).setCell (by omega) u) (Apart.of HXP2.out HYP2.out (Or.inr (Nat.le_refl _)))
                have HCS : Hid (∀ u, Cur (wzi.setCell ⟨yb2, yo2 + 2, none⟩ u) b B (K + 270)) := fun u => HC.out.store (p := ⟨yb2, yo2 + 2, none⟩) (by simp only []; omega) (by simp only []; omega)
                have HBS : Hid (∀ u, Bex b w (wzi.setCell ⟨yb2, yo2 + 2, none⟩ u)) := fun u => HBX.out.store (p := ⟨yb2, yo2 + 2, none⟩) (by simp only []; omega) u
                clear HX HY HC HBX HYR2
                go_wp2
                exact bodyPost_ret (v := .tuple #[.int .i64 101, .slice xr2 q xc2, .slice (some ⟨yb2, yo2, none⟩) q yc2, .int .i64 tt]) (by simp [results, Try.results80, go_sem]) rfl ⟨101, xr2, _, xc2, _, _, _, yc2, _, tt, rfl, by omega, HXS.out _, HYS.out, by omega, by omega, (HCS.out _).more (by omega), HBS.out _⟩
      | true =>
        obtain ⟨hCl, hIl, hOl, hXl⟩ := among_lit (t := 3) [0, (j : Int) + 1] HC.out rfl rfl (by simp) (by intro x hx; simp at hx; unfold Fits; rcases hx with rfl | rfl <;> omega)
        have HXl := Lib.hid (HX.out.bex hXl hbl); have HYl := Lib.hid (HY.out.bex hXl hbl); have HBl := Lib.hid (HBX.out.trans hXl)
        go_wp2_with fail
        refine (s_among _ _ _ _ 2 2 [0, (j : Int) + 1] _ hCl (by omega) hIl (by omega) (by omega) hOl).mono ?_; rintro e wzb ⟨tx, rfl, htx, hCn, hXn⟩
        have htx2 : 0 ≤ tx ∧ tx ≤ 12 := by simp at htx; rcases htx with rfl | rfl <;> omega
        obtain ⟨tz, rfl⟩ : ∃ tz : Nat, tx = tz := ⟨tx.toNat, by omega⟩
        replace HX := Lib.hid (HXl.out.bex hXn hbl); replace HY := Lib.hid (HYl.out.bex hXn hbl); replace HC := Lib.hid (hCn.more (K' := K + 210) (by omega)); replace HBX := Lib.hid (HBl.out.trans hXn)
        clear hCn hXn HXl HYl HBl hCl hIl hOl hXl htx
        go_wp2_with fail
        refine (s_one _ _ _ 24 _ HC.out (by omega) (by omega)).mono ?_; rintro e wzc ⟨qb, rfl, hCn, hXn⟩
        replace HX := Lib.hid (HX.out.bex hXn hbl); replace HY := Lib.hid (HY.out.bex hXn hbl); replace HC := Lib.hid (hCn.more (K' := K + 220) (by omega)); replace HBX := Lib.hid (HBX.out.trans hXn)
        clear hCn hXn
        cases qb with
        | false =>
          go_wp2
          exact bodyPost_ret (v := .tuple #[.int .i64 p, .slice (some ⟨xb, xo, none⟩) j xc, .slice (some ⟨yb, yo, none⟩) j yc, .int .i64 tz]) (by simp [results, Try.results80, go_sem]) rfl ⟨p, (some ⟨xb, xo, none⟩), _, xc, _, (some ⟨yb, yo, none⟩), _, yc, _, tz, rfl, by omega, HX.out, HY.out, by omega, by omega, HC.out.more (by omega), HBX.out⟩
        | true =>
          clear HX HY
          have z0 := HBX.out.size
          go_wp2_with fail
          refine (s_pick _ _ _ 8 _ HC.out (by omega) (by omega)).mono ?_; rintro e wzd ⟨t8, rfl, ht8, ht9, hCn, hXn⟩
          replace HC := Lib.hid (hCn.more (K' := K + 230) (by omega)); replace HBX := Lib.hid (HBX.out.trans hXn)
          clear hCn hXn
          have ht10 : t8 ≤ 7 := by omega
          obtain ⟨tt, htt⟩ : ∃ tt : Nat, tt = 1 + t8 := ⟨_, rfl⟩
          have httI : (1 : Int) + (t8 : Int) = (tt : Int) := by omega
          have htt8 : 1 ≤ tt ∧ tt ≤ 8 := by omega
          clear htt ht8 ht9
          go_wp2_with fail
          refine (s_pick _ _ _ 9000 _ HC.out (by omega) (by omega)).mono ?_; rintro e wze ⟨key2, rfl, hk3, hk4, hCn, hXn⟩
          replace HC := Lib.hid (hCn.more (K' := K + 240) (by omega)); replace HBX := Lib.hid (HBX.out.trans hXn)
          clear hCn hXn
          go_wp2_with fail
          refine (s_pick _ _ _ 101 _ HC.out (by omega) (by omega)).mono ?_; rintro e wzf ⟨v2, rfl, hv3, hv4, hCn, hXn⟩
          replace HC := Lib.hid (hCn.more (K' := K + 250) (by omega)); replace HBX := Lib.hid (HBX.out.trans hXn)
          clear hCn hXn
          have hvp2 : (v2 : Int) < 101 := by omega
          go_wp2_with fail
          refine (s_pick _ _ _ 2 _ HC.out (by omega) (by omega)).mono ?_; rintro e wzg ⟨n2, rfl, hn3, hn4, hCn, hXn⟩
          replace HC := Lib.hid (hCn.more (K' := K + 260) (by omega)); replace HBX := Lib.hid (HBX.out.trans hXn)
          clear hCn hXn
          obtain ⟨nn, hnn⟩ : ∃ nn : Nat, nn = 10 + n2 := ⟨_, rfl⟩
          have hnnI : (10 : Int) + (n2 : Int) = (nn : Int) := by omega
          have hnn8 : 10 ≤ nn ∧ nn ≤ 11 := by omega
          clear hnn hn3 hn4 hv3 hv4
          have z1 := HBX.out.size
          go_wp2_with fail
          refine (s_thSplit 101 key2 v2 nn (tt - 1) _ ⟨by omega, by omega⟩ ⟨by omega, by omega⟩ ⟨by omega, by omega⟩ (by omega) (by omega) _ (by omega)).mono ?_; rintro e wzh ⟨yr2, yc2, rfl, hm9, hb9⟩
          have HYR2 := Lib.hid (spL_res (p := 101) (by omega) (cfL 101 key2 v2 (tt - 1)) nn)
          have HYL2 := Lib.hid (spL_len 101 (cfL 101 key2 v2 (tt - 1)) nn)
          generalize spL 101 (cfL 101 key2 v2 (tt - 1)) nn = ys2 at hm9 HYR2 HYL2
          have HY := Lib.hid (hm9.base z1); replace HC := Lib.hid (HC.out.below hb9); replace HBX := Lib.hid (HBX.out.belowB hb9)
          have HYP2 := Lib.hid HY.out.pl
          clear hm9 hb9
          have z2 := HBX.out.size
          go_wp2
          go_loopw [10, 116] (fun v1 i W => ∃ q : Nat, q ≤ nn ∧ i = .int .i64 q ∧ Hid (∃ xs, W.ownsRow wzh.heap.size 3 1 v1 q (ivs xs) ∧ ∀ x ∈ xs, Fits x) ∧ Hid (Below wzh.heap.size wzh W)) (fun _ i _ => nn - (intOf i).toNat)
          case atStart => exact ⟨0, by omega, rfl, (show Hid _ from ⟨[], World.ownsRow_nil _ _ _ _, by simp⟩), Below.refl _ _⟩
          case round =>
            obtain ⟨q, hq, rfl, HO, HB⟩ := hrel
            obtain ⟨wq, rfl⟩ : ∃ wq : World, wq = wr := ⟨_, rfl⟩
            have hzq := HB.out.size
            obtain ⟨xs2, ho, hf⟩ := HO.out
            have HOO := Lib.hid ho; have HF := Lib.hid hf; clear ho hf HO
            by_cases hqn : q < nn
            · have hqi : (q : Int) < (nn : Int) := by omega
              go_wp2_with (at_builtin; refine wp_app wq wzh.heap.size q _ xs2 ((q : Int) + 1) _ _ rfl _ _ rfl rfl rfl (by first | rfl | simp) HOO.out hzq (by omega) ?_; intro v9 w9 hv9 hb9 hg9)
              clear hg9
              go_roundw
              case rel => exact ⟨q + 1, by omega, by go_num, (show Hid _ from ⟨_, hv9, fun y hy => by rcases List.mem_append.1 hy with q | q; (exact HF.out y q); (simp at q; rw [q]; unfold Fits; omega)⟩), HB.out.trans hb9⟩
              case measure => first | (simp [intOf]; done) | (simp [intOf]; omega)
            · obtain rfl : q = nn := by omega
              obtain ⟨xr2, xc2, rfl, hmx⟩ := Mine.of HOO.out (by omega) HF.out
              have HX := Lib.hid (hmx.base z2); have HXP2 := Lib.hid hmx.pl
              replace HY := Lib.hid (HY.out.below HB.out); replace HC := Lib.hid (HC.out.below HB.out); replace HBX := Lib.hid (HBX.out.belowB HB.out)
              clear hmx HOO HF HB
              go_wp2_with fail
              refine (s_one _ _ _ 3 _ HC.out (by omega) (by omega)).mono ?_; rintro e wzi ⟨qc, rfl, hCn, hXn⟩
              replace HX := Lib.hid (HX.out.bex hXn hbl); replace HY := Lib.hid (HY.out.bex hXn hbl); replace HC := Lib.hid (hCn.more (K' := K + 270) (by omega)); replace HBX := Lib.hid (HBX.out.trans hXn)
              clear hCn hXn
              cases qc with
              | false =>
                go_wp2
                exact bodyPost_ret (v := .tuple #[.int .i64 101, .slice xr2 q xc2, .slice yr2 q yc2, .int .i64 tt]) (by simp [results, Try.results80, go_sem]) rfl ⟨101, xr2, _, xc2, _, yr2, _, yc2, _, tt, rfl, by omega, HX.out, HY.out, by omega, by omega, HC.out.more (by omega), HBX.out⟩
              | true =>
                obtain ⟨yb2, yo2, rfl, y1, y2, y3, y4⟩ := HY.out.at (i := 2) (by omega)
                have hq2 : (2 : Int) < (q : Int) := by omega
                have yr := HYR2.out.at (i := 2) (by rw [HYL2.out]; omega)
                have e101 := emod_bd (n := nth ys2 2 + 1) (p := 101) (by omega)
                have HYS := Lib.hid (HY.out.set (i := 2) (by omega) ((nth ys2 2 + 1) % 101) (by unfold Fits; omega))
                have HXS : Hid (∀ u, Mine (wzi.setCell ⟨yb2, yo2 + 2, none⟩ u) w.heap.size xr2 q xc2 xs2) := fun u => HX.out.onlyA (a := some ⟨yb2, yo2, none⟩) (m := q) ((OnlyM.refl _ _ _).setCell (by omega) u) (Apart.of HXP2.out HYP2.out (Or.inr (Nat.le_refl _)))
                have HCS : Hid (∀ u, Cur (wzi.setCell ⟨yb2, yo2 + 2, none⟩ u) b B (K + 270)) := fun u => HC.out.store (p := ⟨yb2, yo2 + 2, none⟩) (by simp only []; omega) (by simp only []; omega)
                have HBS : Hid (∀ u, Bex b w (wzi.setCell ⟨yb2, yo2 + 2, none⟩ u)) := fun u => HBX.out.store (p := ⟨yb2, yo2 + 2, none⟩) (by simp only []; omega) u
                clear HX HY HC HBX HYR2
                go_wp2
                exact bodyPost_ret (v := .tuple #[.int .i64 101, .slice xr2 q xc2, .slice (some ⟨yb2, yo2, none⟩) q yc2, .int .i64 tt]) (by simp [results, Try.results80, go_sem]) rfl ⟨101, xr2, _, xc2, _, _, _, yc2, _, tt, rfl, by omega, HXS.out _, HYS.out, by omega, by omega, (HCS.out _).more (by omega), HBS.out _⟩
end Go.Proofs.Ytfichpppjpgahaa
