/-
  Bit triples of a key, both sides (for a seat without the triples over fields).
-/
import Derived.Test.YtmkcanbaleecfaaD10
import Derived.Test.YtmkcanbaleecfaaD
import Derived.Test.YtmkcanbaleecfaaAp
import Derived.Deep.RegionHeld3
namespace Go.Proofs.Ytmkcanbaleecfaa
open Go.RowKit
set_option linter.unusedVariables false
set_option linter.unusedSimpArgs false
theorem lit3_mine {w : World} {x y z : Int} (t : TypeId) (hx : Fits x) (hy : Fits y) (hz : Fits z) : Mine (w.alloc (.cells #[.int .i64 x, .int .i64 y, .int .i64 z] t)) w.heap.size (some ⟨w.heap.size, 0, none⟩) 3 3 [x, y, z] := by
  refine ⟨Ints.lit3 rfl hx hy hz, fun _ b off e => ?_, fun i hi b off e => ?_⟩
  · simp only [Option.some.injEq, Addr.mk.injEq] at e
    obtain ⟨rfl, _, _⟩ := e
    exact ⟨Nat.le_refl _, by simp⟩
  · simp only [Option.some.injEq, Addr.mk.injEq] at e
    obtain ⟨rfl, rfl, _⟩ := e
    exact World.frozen?_alloc_at _ _ _ _ rfl
theorem Ints.drop2 {w : World} {g cap : Nat} {x0 x1 x2 x3 x4 : Int} (h : Ints w (some ⟨g, 0, none⟩) 5 cap [x0, x1, x2, x3, x4]) : Ints w (some ⟨g, 2, none⟩) 3 (cap - 2) [x2, x3, x4] := by
  have hn := h.ncap; have hc := h.capm
  refine ⟨rfl, by omega, by omega, by omega, fun i hi => ?_, fun x hx => h.wf.out x (by simp at hx ⊢; omega), fun e => by cases e⟩
  obtain ⟨b, off, e, hl, hcell⟩ := h.at (i := i + 2) (by omega)
  simp only [Option.some.injEq, Addr.mk.injEq] at e
  obtain ⟨rfl, rfl, _⟩ := e
  refine ⟨g, 2, rfl, hl, ?_⟩
  rw [show 2 + i = 0 + (i + 2) by omega, hcell]
  rcases (show i = 0 ∨ i = 1 ∨ i = 2 by omega) with rfl | rfl | rfl <;> rfl
theorem Ints.three {w : World} {a : Option Addr} {n cap : Nat} {x0 x1 x2 : Int} (h : Ints w a n cap [x0, x1, x2]) : n = 3 ∧ ∃ b off, a = some ⟨b, off, none⟩ ∧ w.cell? ⟨b, off, none⟩ = some (.int .i64 x0) ∧ w.cell? ⟨b, off + 1, none⟩ = some (.int .i64 x1) ∧ w.cell? ⟨b, off + 2, none⟩ = some (.int .i64 x2) := by
  obtain rfl : n = 3 := by have := h.len.out; simpa using this.symm
  obtain ⟨b, off, e, _, h0⟩ := h.at (i := 0) (by omega)
  obtain ⟨b1, off1, e1, _, h1⟩ := h.at (i := 1) (by omega)
  obtain ⟨b2, off2, e2, _, h2⟩ := h.at (i := 2) (by omega)
  rw [e] at e1 e2
  simp only [Option.some.injEq, Addr.mk.injEq] at e1 e2
  obtain ⟨rfl, rfl, _⟩ := e1; obtain ⟨rfl, rfl, _⟩ := e2
  exact ⟨rfl, b, off, e, h0, h1, h2⟩
theorem Mine.drop2 {w : World} {B g cap : Nat} {x0 x1 x2 x3 x4 : Int} (h : Mine w B (some ⟨g, 0, none⟩) 5 cap [x0, x1, x2, x3, x4]) : Mine w B (some ⟨g, 2, none⟩) 3 (cap - 2) [x2, x3, x4] :=
  ⟨h.ints.drop2, fun _ b off e => by
    simp only [Option.some.injEq, Addr.mk.injEq] at e
    obtain ⟨rfl, _, _⟩ := e
    exact h.place.out (by omega) g 0 rfl, fun i hi b off e => by
    simp only [Option.some.injEq, Addr.mk.injEq] at e
    obtain ⟨rfl, rfl, _⟩ := e
    have := h.free.out (i + 2) (by omega) g 0 rfl
    rwa [show 0 + (i + 2) = 2 + i by omega] at this⟩

def keyB (key : Int) : Bool := inB key 0 1000000000
theorem keyB_iff {key : Int} : keyB key = true ↔ 0 ≤ key ∧ key ≤ 1000000000 := inB_iff

set_option maxHeartbeats 400000 in
theorem i_isKey (x : Int) (w : World) : Calls Try.prog 56 #[.int .i64 x] w fun e w' => e = .returned (.bool (keyB x)) ∧ w = w' := by
  go_enter Try.func56, Try.ntmps56
  go_wp2_with (go_at_call 86; refine (i_within _ _ _ _).mono ?_; rintro e w' ⟨rfl, rfl⟩)
  go_ret
  exact ⟨rfl, rfl⟩
set_option maxHeartbeats 400000 in
theorem s_otKey (x : Int) (w : World) : Calls Try.prog 65 #[.int .i64 x] w fun e w' => e = .returned (.bool (keyB x)) ∧ w = w' := by
  go_enter Try.func65, Try.ntmps65
  go_wp2_with (go_at_call 66; refine (s_l1In _ _ _ _).mono ?_; rintro e w' ⟨rfl, rfl⟩)
  go_ret
  exact ⟨rfl, rfl⟩


def bt (key i : Int) (k : Nat) : Int := bitAt [key, i, 22] k
theorem bt_bd (key i : Int) (k : Nat) : 0 ≤ bt key i k ∧ bt key i k ≤ 1 := bitAt_bd _ _
def btA (key i : Int) : List Int := [bt key i 2, bt key i 3, bt key i 4]
def btB (key i : Int) : List Int := [xr (bt key i 2) (bt key i 0), xr (bt key i 3) (bt key i 1), xr (bt key i 4) (bt key i 0 * bt key i 1)]
theorem small3 {key i : Int} (hk : 0 ≤ key ∧ key ≤ 1000000000) (hi : 0 ≤ i ∧ i ≤ 100000) : ∀ x ∈ [key, i, 22], Small x := by
  intro x hx; simp at hx; unfold Small
  rcases hx with rfl | rfl | rfl <;> omega
set_option maxHeartbeats 2000000 in
theorem s_sbTriple (key i : Int) (w : World) (hk : 0 ≤ key ∧ key ≤ 1000000000) (hi : 0 ≤ i ∧ i ≤ 100000) :
    Calls Try.prog 71 #[.int .i64 key, .int .i64 i] w fun e w' => ∃ r1 c1 r2 c2 m, e = .returned (.tuple #[.slice r1 3 c1, .slice r2 3 c2]) ∧ Mine w' w.heap.size r1 3 c1 (btA key i) ∧ Mine w' m r2 3 c2 (btB key i) ∧ PlaceM r1 3 w.heap.size m ∧ w.heap.size ≤ m ∧ Below w.heap.size w w' := by
  have HSM := Lib.hid (small3 hk hi)
  obtain ⟨hk1, hk2⟩ := hk; obtain ⟨hi1, hi2⟩ := hi
  go_enter Try.func71, Try.ntmps71
  go_wp2_with fail
  refine (s_dgBits _ _ _ [key, i, 22] 5 _ (by exact Ints.lit3 rfl (by unfold Fits; omega) (by unfold Fits; omega) (by unfold Fits; omega)) (by omega) HSM.out (by omega)).mono ?_; rintro e wo ⟨a, c, rfl, ho, hb⟩
  have HB := Lib.hid (bel_trans (bel_alloc w _) hb)
  have hbz := HB.out.size
  obtain ⟨g, e, hBg, hgl, c0, _⟩ := ho.at (i := 0) (by omega)
  subst e
  obtain ⟨g1, e1, _, _, c1, _⟩ := ho.at (i := 1) (by omega)
  simp only [Option.some.injEq, Addr.mk.injEq] at e1
  obtain ⟨rfl, _, _⟩ := e1
  have hc5 := ho.ints.ncap
  have hcm := ho.ints.capm
  have q0 := bt_bd key i 0; have q1 := bt_bd key i 1; have q2 := bt_bd key i 2; have q3 := bt_bd key i 3; have q4 := bt_bd key i 4
  have HM0 : Hid (Mine wo w.heap.size (some ⟨g, 0, none⟩) 5 c [bt key i 0, bt key i 1, bt key i 2, bt key i 3, bt key i 4]) := ho.mine.base (by simp)
  have c0' : wo.cell? ⟨g, 0, none⟩ = some (.int .i64 (bt key i 0)) := c0
  have c1' : wo.cell? ⟨g, 1, none⟩ = some (.int .i64 (bt key i 1)) := c1
  clear c0 c1 ho hb
  have HA : Hid (btA key i = [bt key i 2, bt key i 3, bt key i 4]) := rfl
  have HBB : Hid (btB key i = [xr (bt key i 2) (bt key i 0), xr (bt key i 3) (bt key i 1), xr (bt key i 4) (bt key i 0 * bt key i 1)]) := rfl
  generalize bt key i 0 = n0 at *
  generalize bt key i 1 = n1 at *
  generalize bt key i 2 = n2 at *
  generalize bt key i 3 = n3 at *
  generalize bt key i 4 = n4 at *
  obtain ⟨q0, q0'⟩ := q0; obtain ⟨q1, q1'⟩ := q1; obtain ⟨q2, q2'⟩ := q2; obtain ⟨q3, q3'⟩ := q3; obtain ⟨q4, q4'⟩ := q4
  obtain ⟨m1, m2⟩ := mul_bd (a := n0) (b := n1) 1 1 (by omega) (by omega) (by omega) (by omega)
  have m0 : 0 ≤ n0 * n1 := Int.mul_nonneg q0 q1
  have e3 : IntKind.i64.wrap (n0 * n1) = n0 * n1 := IntWalk.i64_in _ (by omega)
  have hx : Hid (∀ i, i < 3 → (0 ≤ nth [n2, n3, n4] i ∧ nth [n2, n3, n4] i ≤ 1) ∧ (0 ≤ nth [n0, n1, n0 * n1] i ∧ nth [n0, n1, n0 * n1] i ≤ 1)) := by
    intro i hi
    rcases (show i = 0 ∨ i = 1 ∨ i = 2 by omega) with rfl | rfl | rfl <;> simp [nth] <;> omega
  have HD := Lib.hid (Mine.drop2 HM0.out)
  go_wp2_with fail
  go_region_held3 (fun W => W.cell? ⟨g, 0, none⟩ = some (.int .i64 n0) ∧ W.cell? ⟨g, 1, none⟩ = some (.int .i64 n1)) (first | exact ⟨c0', c1'⟩ | exact ⟨cell_on c0' BA, cell_on c1' BA⟩ | (simp [go_sem, World.cell?_alloc_some, *]; done)) (first | (go_at_call 62; refine (s_btXor _ _ _ _ _ _ [n2, n3, n4] [n0, n1, n0 * n1] _ ((HD.out.ints.below (bel_drew _)).below (bel_alloc _ _)) (by exact Ints.lit3 rfl (by unfold Fits; omega) (by unfold Fits; omega) (by unfold Fits; omega)) (by omega) (by omega) hx).mono ?_; rintro e wx ⟨r2, rc2, rfl, hm2, hb2⟩; have BA := bel_trans (bel_trans (bel_drew wo) (bel_alloc _ _)) hb2))
  have hm3 := Lib.hid (hm2.base (B' := wo.heap.size) (by simp))
  clear hm2
  go_wp2
  go_ret2
  refine ⟨_, _, _, _, wo.heap.size, rfl, ?_, ?_, HD.out.pl, hbz, bel_trans HB.out BA⟩
  · rw [HA.out]; exact HD.out.below BA
  · rw [HBB.out]; exact hm3.out



theorem size_drew (w : World) : w.drew.heap.size = w.heap.size := rfl

set_option maxHeartbeats 2000000 in
theorem i_bitTriple (key i : Int) (w : World) (hk : 0 ≤ key ∧ key ≤ 1000000000) (hi : 0 ≤ i ∧ i ≤ 100000) :
    Calls Try.prog 79 #[.int .i64 key, .int .i64 i] w fun e w' => ∃ r1 c1 r2 c2, e = .returned (.tuple #[.slice r1 3 c1, .slice r2 3 c2]) ∧ Mine w' w.heap.size r1 3 c1 (btA key i) ∧ Mine w' w.heap.size r2 3 c2 (btB key i) ∧ Apart r1 3 r2 3 ∧ Below w.heap.size w w' := by
  have HSM := Lib.hid (small3 hk hi)
  obtain ⟨hk1, hk2⟩ := hk; obtain ⟨hi1, hi2⟩ := hi
  go_enter Try.func79, Try.ntmps79
  go_wp2_with fail
  refine (i_bitsFrom _ _ _ [key, i, 22] 5 _ (by exact Ints.lit3 rfl (by unfold Fits; omega) (by unfold Fits; omega) (by unfold Fits; omega)) (by omega) HSM.out (by omega)).mono ?_; rintro e wo ⟨a, c, rfl, ho, hb⟩
  have HB := Lib.hid (bel_trans (bel_alloc w _) hb)
  have hbz := HB.out.size
  obtain ⟨g, e, hBg, hgl, c0, _⟩ := ho.at (i := 0) (by omega)
  subst e
  obtain ⟨g1, e1, _, _, c1, _⟩ := ho.at (i := 1) (by omega)
  simp only [Option.some.injEq, Addr.mk.injEq] at e1
  obtain ⟨rfl, _, _⟩ := e1
  have hc5 := ho.ints.ncap
  have hcm := ho.ints.capm
  have q0 := bt_bd key i 0; have q1 := bt_bd key i 1; have q2 := bt_bd key i 2; have q3 := bt_bd key i 3; have q4 := bt_bd key i 4
  have HM0 : Hid (Mine wo w.heap.size (some ⟨g, 0, none⟩) 5 c [bt key i 0, bt key i 1, bt key i 2, bt key i 3, bt key i 4]) := ho.mine.base (by simp)
  have c0' : wo.cell? ⟨g, 0, none⟩ = some (.int .i64 (bt key i 0)) := c0
  have c1' : wo.cell? ⟨g, 1, none⟩ = some (.int .i64 (bt key i 1)) := c1
  clear c0 c1 ho hb
  have HA : Hid (btA key i = [bt key i 2, bt key i 3, bt key i 4]) := rfl
  have HBB : Hid (btB key i = [xr (bt key i 2) (bt key i 0), xr (bt key i 3) (bt key i 1), xr (bt key i 4) (bt key i 0 * bt key i 1)]) := rfl
  generalize bt key i 0 = n0 at *
  generalize bt key i 1 = n1 at *
  generalize bt key i 2 = n2 at *
  generalize bt key i 3 = n3 at *
  generalize bt key i 4 = n4 at *
  obtain ⟨q0, q0'⟩ := q0; obtain ⟨q1, q1'⟩ := q1; obtain ⟨q2, q2'⟩ := q2; obtain ⟨q3, q3'⟩ := q3; obtain ⟨q4, q4'⟩ := q4
  have x1 := xr_eq (a := n0) (b := n2) ⟨q0, q0'⟩ ⟨q2, q2'⟩
  have x2 := xr_eq (a := n1) (b := n3) ⟨q1, q1'⟩ ⟨q3, q3'⟩
  have x3 : bits .and .i64 n0 n1 = n0 * n1 := by
    rcases (show n0 = 0 ∨ n0 = 1 by omega) with rfl | rfl <;> rcases (show n1 = 0 ∨ n1 = 1 by omega) with rfl | rfl <;> decide
  have m0 : 0 ≤ n0 * n1 := Int.mul_nonneg q0 q1
  have m1 : n0 * n1 ≤ 1 := by
    rcases (show n0 = 0 ∨ n0 = 1 by omega) with rfl | rfl <;> omega
  have x4 := xr_eq (a := n0 * n1) (b := n4) ⟨m0, m1⟩ ⟨q4, q4'⟩
  rw [show xr n2 n0 = xr n0 n2 by unfold xr; omega, show xr n3 n1 = xr n1 n3 by unfold xr; omega, show xr n4 (n0 * n1) = xr (n0 * n1) n4 by unfold xr; omega] at HBB
  have y1 := xr_bd n0 n2; have y2 := xr_bd n1 n3; have y3 := xr_bd (n0 * n1) n4
  have HD := Lib.hid (Mine.drop2 HM0.out)
  have hc2 : ¬ c = 2 := by omega
  obtain ⟨_, b5, o5, e5, k0, k1, k2⟩ := HD.out.ints.three
  simp only [Option.some.injEq, Addr.mk.injEq] at e5
  obtain ⟨rfl, rfl, _⟩ := e5
  go_wp2_with fail
  go_region_held3 (fun W => W.cell? ⟨g, 0, none⟩ = some (.int .i64 n0) ∧ W.cell? ⟨g, 1, none⟩ = some (.int .i64 n1) ∧ W.cell? ⟨g, 2, none⟩ = some (.int .i64 n2) ∧ W.cell? ⟨g, 3, none⟩ = some (.int .i64 n3) ∧ W.cell? ⟨g, 4, none⟩ = some (.int .i64 n4)) (exact ⟨cell_on c0' (by (repeat (first | exact Below.refl _ _ | assumption | refine bel_trans ?_ (bel_alloc _ _) | refine bel_set ?_ (by first | (dsimp only; omega) | (simp; omega) | simp) _ | refine bel_trans ?_ (bel_drewN _ _) | refine bel_trans ?_ (bel_drew _) | refine bel_trans ?_ (by assumption)))), cell_on c1' (by (repeat (first | exact Below.refl _ _ | assumption | refine bel_trans ?_ (bel_alloc _ _) | refine bel_set ?_ (by first | (dsimp only; omega) | (simp; omega) | simp) _ | refine bel_trans ?_ (bel_drewN _ _) | refine bel_trans ?_ (bel_drew _) | refine bel_trans ?_ (by assumption)))), cell_on k0 (by (repeat (first | exact Below.refl _ _ | assumption | refine bel_trans ?_ (bel_alloc _ _) | refine bel_set ?_ (by first | (dsimp only; omega) | (simp; omega) | simp) _ | refine bel_trans ?_ (bel_drewN _ _) | refine bel_trans ?_ (bel_drew _) | refine bel_trans ?_ (by assumption)))), cell_on k1 (by (repeat (first | exact Below.refl _ _ | assumption | refine bel_trans ?_ (bel_alloc _ _) | refine bel_set ?_ (by first | (dsimp only; omega) | (simp; omega) | simp) _ | refine bel_trans ?_ (bel_drewN _ _) | refine bel_trans ?_ (bel_drew _) | refine bel_trans ?_ (by assumption)))), cell_on k2 (by (repeat (first | exact Below.refl _ _ | assumption | refine bel_trans ?_ (bel_alloc _ _) | refine bel_set ?_ (by first | (dsimp only; omega) | (simp; omega) | simp) _ | refine bel_trans ?_ (bel_drewN _ _) | refine bel_trans ?_ (bel_drew _) | refine bel_trans ?_ (by assumption))))⟩) (first | (go_at_call 77; refine (g_Clone _ _ _ [n2, n3, n4] _ (by first | exact HD.out.ints.below (bel_drew _) | exact (HD.out.ints.below (bel_alloc _ _)).below (bel_drew _)) (by omega)).mono ?_; rintro e wx ⟨r2, rc2, rfl, ho2, hb2⟩))
  all_goals
    have hm3 := Lib.hid ho2.mine
    have hxz := hb2.size
    have HB2 := Lib.hid hb2
    clear ho2 hb2
    go_wp2
    go_ret2
    have hl := lit3_mine (w := wo) (x := xr n0 n2) (y := xr n1 n3) (z := xr (n0 * n1) n4) 3 (by unfold Fits; omega) (by unfold Fits; omega) (by unfold Fits; omega)
    have hb2 := HB2.out
    first
    | (refine ⟨_, _, _, _, rfl, ?_, ?_, ?_, bel_trans HB.out (bel_trans (bel_trans (bel_drew wo) hb2) (bel_alloc _ _))⟩
       · rw [HA.out]; exact (hm3.out.below (bel_alloc _ _)).base hbz
       · rw [HBB.out]; exact (lit3_mine 3 (by unfold Fits; omega) (by unfold Fits; omega) (by unfold Fits; omega)).base (Nat.le_trans hbz hxz)
       · refine Apart.of hm3.out.pl (lo' := wx.heap.size) (hi' := wx.heap.size + 1) ?_ (Or.inl (Nat.le_refl _))
         intro _ b o e
         simp only [Option.some.injEq, Addr.mk.injEq] at e
         omega)
    | (refine ⟨_, _, _, _, rfl, ?_, ?_, ?_, bel_trans HB.out (bel_trans (bel_trans (bel_alloc wo _) (bel_drew _)) hb2)⟩
       · rw [HA.out]; exact hm3.out.base (by simp [size_drew]; omega)
       · rw [HBB.out]; exact ((hl.below (bel_drew _)).below hb2).base hbz
       · refine Apart.of hm3.out.pl (lo' := wo.heap.size) (hi' := wo.heap.size + 1) ?_ (Or.inr (by simp [size_drew]))
         intro _ b o e
         simp only [Option.some.injEq, Addr.mk.injEq] at e
         omega)
def bitTriple (key i : Int) : List Int × List Int × Bool := if keyB key && inB i 0 299 then (btA key i, btB key i, true) else ([], [], false)
theorem bitTriple_len (key i : Int) : (bitTriple key i).1.length ≤ 3 ∧ (bitTriple key i).2.1.length ≤ 3 := by
  unfold bitTriple; split <;> simp [btA, btB]
set_option maxHeartbeats 1000000 in
theorem i_BitTriple (key i : Int) (w : World) (hk : Fits key) (hi : Fits i) :
    Calls Try.prog 38 #[.int .i64 key, .int .i64 i] w fun e w' => TwoA (bitTriple key i).1 (bitTriple key i).2.1 (bitTriple key i).2.2 w e w' := by
  unfold bitTriple
  cases h1 : keyB key with
  | false =>
    go_enter Try.func38, Try.ntmps38
    go_wp2_with (first | (go_at_call 56; refine (i_isKey _ _).mono ?_; rintro e w' ⟨rfl, rfl⟩) | (go_at_call 86; refine (i_within _ _ _ _).mono ?_; rintro e w' ⟨rfl, rfl⟩))
    go_ret3
    exact ⟨_, _, _, _, rfl, Mine.nil, Mine.nil, Apart.zero, by (repeat (first | exact Below.refl _ _ | assumption | refine bel_trans ?_ (bel_alloc _ _) | refine bel_set ?_ (by first | (dsimp only; omega) | (simp; omega) | simp) _ | refine bel_trans ?_ (bel_drewN _ _) | refine bel_trans ?_ (bel_drew _) | refine bel_trans ?_ (by assumption)))⟩
  | true =>
    cases h2 : inB i 0 299 with
    | false =>
      go_enter Try.func38, Try.ntmps38
      go_wp2_with (first | (go_at_call 56; refine (i_isKey _ _).mono ?_; rintro e w' ⟨rfl, rfl⟩) | (go_at_call 86; refine (i_within _ _ _ _).mono ?_; rintro e w' ⟨rfl, rfl⟩))
      go_ret3
      exact ⟨_, _, _, _, rfl, Mine.nil, Mine.nil, Apart.zero, by (repeat (first | exact Below.refl _ _ | assumption | refine bel_trans ?_ (bel_alloc _ _) | refine bel_set ?_ (by first | (dsimp only; omega) | (simp; omega) | simp) _ | refine bel_trans ?_ (bel_drewN _ _) | refine bel_trans ?_ (bel_drew _) | refine bel_trans ?_ (by assumption)))⟩
    | true =>
      have hk := keyB_iff.1 h1
      have hi := inB_iff.1 h2
      go_enter Try.func38, Try.ntmps38
      go_wp2_with (first | (go_at_call 56; refine (i_isKey _ _).mono ?_; rintro e w' ⟨rfl, rfl⟩) | (go_at_call 86; refine (i_within _ _ _ _).mono ?_; rintro e w' ⟨rfl, rfl⟩) | (go_at_call 79; refine (i_bitTriple _ _ _ hk (by omega)).mono ?_; rintro e w' ⟨r1, c1, r2, c2, rfl, g1, g2, ap, hb⟩))
      go_ret3
      exact ⟨_, _, _, _, rfl, g1, g2, ap, hb⟩
set_option maxHeartbeats 1000000 in
theorem s_BitTriple (key i : Int) (w : World) (hk : Fits key) (hi : Fits i) :
    Calls Try.prog 39 #[.int .i64 key, .int .i64 i] w fun e w' => TwoA (bitTriple key i).1 (bitTriple key i).2.1 (bitTriple key i).2.2 w e w' := by
  unfold bitTriple
  cases h1 : keyB key with
  | false =>
    go_enter Try.func39, Try.ntmps39
    go_wp2_with (first | (go_at_call 65; refine (s_otKey _ _).mono ?_; rintro e w' ⟨rfl, rfl⟩) | (go_at_call 66; refine (s_l1In _ _ _ _).mono ?_; rintro e w' ⟨rfl, rfl⟩))
    go_ret3
    exact ⟨_, _, _, _, rfl, Mine.nil, Mine.nil, Apart.zero, by (repeat (first | exact Below.refl _ _ | assumption | refine bel_trans ?_ (bel_alloc _ _) | refine bel_set ?_ (by first | (dsimp only; omega) | (simp; omega) | simp) _ | refine bel_trans ?_ (bel_drewN _ _) | refine bel_trans ?_ (bel_drew _) | refine bel_trans ?_ (by assumption)))⟩
  | true =>
    cases h2 : inB i 0 299 with
    | false =>
      go_enter Try.func39, Try.ntmps39
      go_wp2_with (first | (go_at_call 65; refine (s_otKey _ _).mono ?_; rintro e w' ⟨rfl, rfl⟩) | (go_at_call 66; refine (s_l1In _ _ _ _).mono ?_; rintro e w' ⟨rfl, rfl⟩))
      go_ret3
      exact ⟨_, _, _, _, rfl, Mine.nil, Mine.nil, Apart.zero, by (repeat (first | exact Below.refl _ _ | assumption | refine bel_trans ?_ (bel_alloc _ _) | refine bel_set ?_ (by first | (dsimp only; omega) | (simp; omega) | simp) _ | refine bel_trans ?_ (bel_drewN _ _) | refine bel_trans ?_ (bel_drew _) | refine bel_trans ?_ (by assumption)))⟩
    | true =>
      have hk := keyB_iff.1 h1
      have hi := inB_iff.1 h2
      go_enter Try.func39, Try.ntmps39
      go_wp2_with (first | (go_at_call 65; refine (s_otKey _ _).mono ?_; rintro e w' ⟨rfl, rfl⟩) | (go_at_call 66; refine (s_l1In _ _ _ _).mono ?_; rintro e w' ⟨rfl, rfl⟩) | (go_at_call 71; refine (s_sbTriple _ _ _ hk (by omega)).mono ?_; rintro e w' ⟨r1, c1, r2, c2, m, rfl, g1, g2, pl, hm, hb⟩; have ap := Apart.of pl g2.pl (Or.inl (Nat.le_refl _)); replace g2 := g2.base hm))
      go_ret3
      exact ⟨_, _, _, _, rfl, g1, g2, ap, hb⟩

end Go.Proofs.Ytmkcanbaleecfaa
