/-
  Bit triples: bitTriple.
-/
import Derived.Test.YtbkmgehigbjgmaaD11
import Derived.Test.YtbkmgehigbjgmaaAp
namespace Go.Proofs.Ytbkmgehigbjgmaa
open Go.RowKit
set_option linter.unusedVariables false
set_option linter.unusedSimpArgs false

theorem size_drew (w : World) : w.drew.heap.size = w.heap.size := rfl

set_option maxHeartbeats 2000000 in
theorem i_bitTriple (key i : Int) (w : World) (hk : 0 ≤ key ∧ key ≤ 1000000000) (hi : 0 ≤ i ∧ i ≤ 100000) :
    Calls Try.prog 68 #[.int .i64 key, .int .i64 i] w fun e w' => ∃ r1 c1 r2 c2, e = .returned (.tuple #[.slice r1 3 c1, .slice r2 3 c2]) ∧ Mine w' w.heap.size r1 3 c1 (btA key i) ∧ Mine w' w.heap.size r2 3 c2 (btB key i) ∧ Apart r1 3 r2 3 ∧ Below w.heap.size w w' := by
  have HSM := Lib.hid (small3 hk hi)
  obtain ⟨hk1, hk2⟩ := hk; obtain ⟨hi1, hi2⟩ := hi
  go_enter Try.func68, Try.ntmps68
  go_wp2_with fail
  refine (i_bitsFrom _ _ _ [key, i, 22] 5 _ (by exact Ints.lit3 rfl (by unfold Fits; omega) (by unfold Fits; omega) (by unfold Fits; omega)) (by omega) HSM.out (by omega)).mono ?_; rintro e wo ⟨a, c, rfl, ho, hb⟩
  have HB := Lib.hid (bel_trans (bel_alloc w _) hb)
  have hbz := HB.out.size
  obtain ⟨g, e, hBg, hgl, c0, _⟩ := ho.at (i := 0) (by omega)
  subst e
  obtain ⟨g1, e1, _, _, c1, _⟩ := ho.at (i := 1) (by omega)
  simp only [Option.some.injEq, Addr.mk.injEq] at e1
  obtain ⟨rfl, _, _⟩ := e1
  have hc5 := ho.ints.ncap
  have hcm := ho.ints.capm
  have q0 := bt_bd key i 0; have q1 := bt_bd key i 1; have q2 := bt_bd key i 2; have q3 := bt_bd key i 3; have q4 := bt_bd key i 4
  have HM0 : Hid (Mine wo w.heap.size (some ⟨g, 0, none⟩) 5 c [bt key i 0, bt key i 1, bt key i 2, bt key i 3, bt key i 4]) := ho.mine.base (by simp)
  have c0' : wo.cell? ⟨g, 0, none⟩ = some (.int .i64 (bt key i 0)) := c0
  have c1' : wo.cell? ⟨g, 1, none⟩ = some (.int .i64 (bt key i 1)) := c1
  clear c0 c1 ho hb
  have HA : Hid (btA key i = [bt key i 2, bt key i 3, bt key i 4]) := rfl
  have HBB : Hid (btB key i = [xr (bt key i 2) (bt key i 0), xr (bt key i 3) (bt key i 1), xr (bt key i 4) (bt key i 0 * bt key i 1)]) := rfl
  generalize bt key i 0 = n0 at *
  generalize bt key i 1 = n1 at *
  generalize bt key i 2 = n2 at *
  generalize bt key i 3 = n3 at *
  generalize bt key i 4 = n4 at *
  obtain ⟨q0, q0'⟩ := q0; obtain ⟨q1, q1'⟩ := q1; obtain ⟨q2, q2'⟩ := q2; obtain ⟨q3, q3'⟩ := q3; obtain ⟨q4, q4'⟩ := q4
  have x1 := xr_eq (a := n0) (b := n2) ⟨q0, q0'⟩ ⟨q2, q2'⟩
  have x2 := xr_eq (a := n1) (b := n3) ⟨q1, q1'⟩ ⟨q3, q3'⟩
  have x3 : bits .and .i64 n0 n1 = n0 * n1 := by
    rcases (show n0 = 0 ∨ n0 = 1 by omega) with rfl | rfl <;> rcases (show n1 = 0 ∨ n1 = 1 by omega) with rfl | rfl <;> decide
  have m0 : 0 ≤ n0 * n1 := Int.mul_nonneg q0 q1
  have m1 : n0 * n1 ≤ 1 := by
    rcases (show n0 = 0 ∨ n0 = 1 by omega) with rfl | rfl <;> omega
  have x4 := xr_eq (a := n0 * n1) (b := n4) ⟨m0, m1⟩ ⟨q4, q4'⟩
  rw [show xr n2 n0 = xr n0 n2 by unfold xr; omega, show xr n3 n1 = xr n1 n3 by unfold xr; omega, show xr n4 (n0 * n1) = xr (n0 * n1) n4 by unfold xr; omega] at HBB
  have y1 := xr_bd n0 n2; have y2 := xr_bd n1 n3; have y3 := xr_bd (n0 * n1) n4
  have HD := Lib.hid (Mine.drop2 HM0.out)
  have hc2 : ¬ c = 2 := by omega
  obtain ⟨_, b5, o5, e5, k0, k1, k2⟩ := HD.out.ints.three
  simp only [Option.some.injEq, Addr.mk.injEq] at e5
  obtain ⟨rfl, rfl, _⟩ := e5
  go_wp2_with fail
  go_region_held3 (fun W => W.cell? ⟨g, 0, none⟩ = some (.int .i64 n0) ∧ W.cell? ⟨g, 1, none⟩ = some (.int .i64 n1) ∧ W.cell? ⟨g, 2, none⟩ = some (.int .i64 n2) ∧ W.cell? ⟨g, 3, none⟩ = some (.int .i64 n3) ∧ W.cell? ⟨g, 4, none⟩ = some (.int .i64 n4)) (exact ⟨cell_on c0' (by (repeat (first | exact Below.refl _ _ | assumption | refine bel_trans ?_ (bel_alloc _ _) | refine bel_set ?_ (by first | (dsimp only; omega) | (simp; omega) | simp) _ | refine bel_trans ?_ (bel_drewN _ _) | refine bel_trans ?_ (bel_drew _) | refine bel_trans ?_ (by assumption)))), cell_on c1' (by (repeat (first | exact Below.refl _ _ | assumption | refine bel_trans ?_ (bel_alloc _ _) | refine bel_set ?_ (by first | (dsimp only; omega) | (simp; omega) | simp) _ | refine bel_trans ?_ (bel_drewN _ _) | refine bel_trans ?_ (bel_drew _) | refine bel_trans ?_ (by assumption)))), cell_on k0 (by (repeat (first | exact Below.refl _ _ | assumption | refine bel_trans ?_ (bel_alloc _ _) | refine bel_set ?_ (by first | (dsimp only; omega) | (simp; omega) | simp) _ | refine bel_trans ?_ (bel_drewN _ _) | refine bel_trans ?_ (bel_drew _) | refine bel_trans ?_ (by assumption)))), cell_on k1 (by (repeat (first | exact Below.refl _ _ | assumption | refine bel_trans ?_ (bel_alloc _ _) | refine bel_set ?_ (by first | (dsimp only; omega) | (simp; omega) | simp) _ | refine bel_trans ?_ (bel_drewN _ _) | refine bel_trans ?_ (bel_drew _) | refine bel_trans ?_ (by assumption)))), cell_on k2 (by (repeat (first | exact Below.refl _ _ | assumption | refine bel_trans ?_ (bel_alloc _ _) | refine bel_set ?_ (by first | (dsimp only; omega) | (simp; omega) | simp) _ | refine bel_trans ?_ (bel_drewN _ _) | refine bel_trans ?_ (bel_drew _) | refine bel_trans ?_ (by assumption))))⟩) (first | (go_at_call 83; refine (g_Clone _ _ _ [n2, n3, n4] _ (by first | exact HD.out.ints.below (bel_drew _) | exact (HD.out.ints.below (bel_alloc _ _)).below (bel_drew _)) (by omega)).mono ?_; rintro e wx ⟨r2, rc2, rfl, ho2, hb2⟩))
  all_goals
    have hm3 := Lib.hid ho2.mine
    have hxz := hb2.size
    have HB2 := Lib.hid hb2
    clear ho2 hb2
    go_wp2
    go_ret2
    have hl := lit3_mine (w := wo) (x := xr n0 n2) (y := xr n1 n3) (z := xr (n0 * n1) n4) 3 (by unfold Fits; omega) (by unfold Fits; omega) (by unfold Fits; omega)
    have hb2 := HB2.out
    first
    | (refine ⟨_, _, _, _, rfl, ?_, ?_, ?_, bel_trans HB.out (bel_trans (bel_trans (bel_drew wo) hb2) (bel_alloc _ _))⟩
       · rw [HA.out]; exact (hm3.out.below (bel_alloc _ _)).base hbz
       · rw [HBB.out]; exact (lit3_mine 3 (by unfold Fits; omega) (by unfold Fits; omega) (by unfold Fits; omega)).base (Nat.le_trans hbz hxz)
       · refine Apart.of hm3.out.pl (lo' := wx.heap.size) (hi' := wx.heap.size + 1) ?_ (Or.inl (Nat.le_refl _))
         intro _ b o e
         simp only [Option.some.injEq, Addr.mk.injEq] at e
         omega)
    | (refine ⟨_, _, _, _, rfl, ?_, ?_, ?_, bel_trans HB.out (bel_trans (bel_trans (bel_alloc wo _) (bel_drew _)) hb2)⟩
       · rw [HA.out]; exact hm3.out.base (by simp [size_drew]; omega)
       · rw [HBB.out]; exact ((hl.below (bel_drew _)).below hb2).base hbz
       · refine Apart.of hm3.out.pl (lo' := wo.heap.size) (hi' := wo.heap.size + 1) ?_ (Or.inr (by simp [size_drew]))
         intro _ b o e
         simp only [Option.some.injEq, Addr.mk.injEq] at e
         omega)
def bitTriple (key i : Int) : List Int × List Int × Bool := if keyB key && inB i 0 299 then (btA key i, btB key i, true) else ([], [], false)
theorem bitTriple_len (key i : Int) : (bitTriple key i).1.length ≤ 3 ∧ (bitTriple key i).2.1.length ≤ 3 := by
  unfold bitTriple; split <;> simp [btA, btB]
set_option maxHeartbeats 1000000 in
theorem i_BitTriple (key i : Int) (w : World) (hk : Fits key) (hi : Fits i) :
    Calls Try.prog 30 #[.int .i64 key, .int .i64 i] w fun e w' => TwoA (bitTriple key i).1 (bitTriple key i).2.1 (bitTriple key i).2.2 w e w' := by
  unfold bitTriple
  cases h1 : keyB key with
  | false =>
    go_enter Try.func30, Try.ntmps30
    go_wp2_with (first | (go_at_call 66; refine (i_isKey _ _).mono ?_; rintro e w' ⟨rfl, rfl⟩) | (go_at_call 67; refine (i_within _ _ _ _).mono ?_; rintro e w' ⟨rfl, rfl⟩))
    go_ret3
    exact ⟨_, _, _, _, rfl, Mine.nil, Mine.nil, Apart.zero, by (repeat (first | exact Below.refl _ _ | assumption | refine bel_trans ?_ (bel_alloc _ _) | refine bel_set ?_ (by first | (dsimp only; omega) | (simp; omega) | simp) _ | refine bel_trans ?_ (bel_drewN _ _) | refine bel_trans ?_ (bel_drew _) | refine bel_trans ?_ (by assumption)))⟩
  | true =>
    cases h2 : inB i 0 299 with
    | false =>
      go_enter Try.func30, Try.ntmps30
      go_wp2_with (first | (go_at_call 66; refine (i_isKey _ _).mono ?_; rintro e w' ⟨rfl, rfl⟩) | (go_at_call 67; refine (i_within _ _ _ _).mono ?_; rintro e w' ⟨rfl, rfl⟩))
      go_ret3
      exact ⟨_, _, _, _, rfl, Mine.nil, Mine.nil, Apart.zero, by (repeat (first | exact Below.refl _ _ | assumption | refine bel_trans ?_ (bel_alloc _ _) | refine bel_set ?_ (by first | (dsimp only; omega) | (simp; omega) | simp) _ | refine bel_trans ?_ (bel_drewN _ _) | refine bel_trans ?_ (bel_drew _) | refine bel_trans ?_ (by assumption)))⟩
    | true =>
      have hk := keyB_iff.1 h1
      have hi := inB_iff.1 h2
      go_enter Try.func30, Try.ntmps30
      go_wp2_with (first | (go_at_call 66; refine (i_isKey _ _).mono ?_; rintro e w' ⟨rfl, rfl⟩) | (go_at_call 67; refine (i_within _ _ _ _).mono ?_; rintro e w' ⟨rfl, rfl⟩) | (go_at_call 68; refine (i_bitTriple _ _ _ hk (by omega)).mono ?_; rintro e w' ⟨r1, c1, r2, c2, rfl, g1, g2, ap, hb⟩))
      go_ret3
      exact ⟨_, _, _, _, rfl, g1, g2, ap, hb⟩
set_option maxHeartbeats 1000000 in
theorem s_BitTriple (key i : Int) (w : World) (hk : Fits key) (hi : Fits i) :
    Calls Try.prog 29 #[.int .i64 key, .int .i64 i] w fun e w' => TwoA (bitTriple key i).1 (bitTriple key i).2.1 (bitTriple key i).2.2 w e w' := by
  unfold bitTriple
  cases h1 : keyB key with
  | false =>
    go_enter Try.func29, Try.ntmps29
    go_wp2_with (first | (go_at_call 64; refine (s_otKey _ _).mono ?_; rintro e w' ⟨rfl, rfl⟩) | (go_at_call 58; refine (s_l1In _ _ _ _).mono ?_; rintro e w' ⟨rfl, rfl⟩))
    go_ret3
    exact ⟨_, _, _, _, rfl, Mine.nil, Mine.nil, Apart.zero, by (repeat (first | exact Below.refl _ _ | assumption | refine bel_trans ?_ (bel_alloc _ _) | refine bel_set ?_ (by first | (dsimp only; omega) | (simp; omega) | simp) _ | refine bel_trans ?_ (bel_drewN _ _) | refine bel_trans ?_ (bel_drew _) | refine bel_trans ?_ (by assumption)))⟩
  | true =>
    cases h2 : inB i 0 299 with
    | false =>
      go_enter Try.func29, Try.ntmps29
      go_wp2_with (first | (go_at_call 64; refine (s_otKey _ _).mono ?_; rintro e w' ⟨rfl, rfl⟩) | (go_at_call 58; refine (s_l1In _ _ _ _).mono ?_; rintro e w' ⟨rfl, rfl⟩))
      go_ret3
      exact ⟨_, _, _, _, rfl, Mine.nil, Mine.nil, Apart.zero, by (repeat (first | exact Below.refl _ _ | assumption | refine bel_trans ?_ (bel_alloc _ _) | refine bel_set ?_ (by first | (dsimp only; omega) | (simp; omega) | simp) _ | refine bel_trans ?_ (bel_drewN _ _) | refine bel_trans ?_ (bel_drew _) | refine bel_trans ?_ (by assumption)))⟩
    | true =>
      have hk := keyB_iff.1 h1
      have hi := inB_iff.1 h2
      go_enter Try.func29, Try.ntmps29
      go_wp2_with (first | (go_at_call 64; refine (s_otKey _ _).mono ?_; rintro e w' ⟨rfl, rfl⟩) | (go_at_call 58; refine (s_l1In _ _ _ _).mono ?_; rintro e w' ⟨rfl, rfl⟩) | (go_at_call 65; refine (s_sbTriple _ _ _ hk (by omega)).mono ?_; rintro e w' ⟨r1, c1, r2, c2, m, rfl, g1, g2, pl, hm, hb⟩; have ap := Apart.of pl g2.pl (Or.inl (Nat.le_refl _)); replace g2 := g2.base hm))
      go_ret3
      exact ⟨_, _, _, _, rfl, g1, g2, ap, hb⟩
end Go.Proofs.Ytbkmgehigbjgmaa
