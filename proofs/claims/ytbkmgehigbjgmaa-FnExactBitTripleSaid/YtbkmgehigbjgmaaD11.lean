/-
  Bit triples: sbTriple.
-/
import Derived.Test.YtbkmgehigbjgmaaD10
namespace Go.Proofs.Ytbkmgehigbjgmaa
open Go.RowKit
set_option linter.unusedVariables false
set_option linter.unusedSimpArgs false

def bt (key i : Int) (k : Nat) : Int := bitAt [key, i, 22] k
theorem bt_bd (key i : Int) (k : Nat) : 0 ≤ bt key i k ∧ bt key i k ≤ 1 := bitAt_bd _ _
def btA (key i : Int) : List Int := [bt key i 2, bt key i 3, bt key i 4]
def btB (key i : Int) : List Int := [xr (bt key i 2) (bt key i 0), xr (bt key i 3) (bt key i 1), xr (bt key i 4) (bt key i 0 * bt key i 1)]
theorem small3 {key i : Int} (hk : 0 ≤ key ∧ key ≤ 1000000000) (hi : 0 ≤ i ∧ i ≤ 100000) : ∀ x ∈ [key, i, 22], Small x := by
  intro x hx; simp at hx; unfold Small
  rcases hx with rfl | rfl | rfl <;> omega
set_option maxHeartbeats 2000000 in
theorem s_sbTriple (key i : Int) (w : World) (hk : 0 ≤ key ∧ key ≤ 1000000000) (hi : 0 ≤ i ∧ i ≤ 100000) :
    Calls Try.prog 65 #[.int .i64 key, .int .i64 i] w fun e w' => ∃ r1 c1 r2 c2 m, e = .returned (.tuple #[.slice r1 3 c1, .slice r2 3 c2]) ∧ Mine w' w.heap.size r1 3 c1 (btA key i) ∧ Mine w' m r2 3 c2 (btB key i) ∧ PlaceM r1 3 w.heap.size m ∧ w.heap.size ≤ m ∧ Below w.heap.size w w' := by
  have HSM := Lib.hid (small3 hk hi)
  obtain ⟨hk1, hk2⟩ := hk; obtain ⟨hi1, hi2⟩ := hi
  go_enter Try.func65, Try.ntmps65
  go_wp2_with fail
  refine (s_dgBits _ _ _ [key, i, 22] 5 _ (by exact Ints.lit3 rfl (by unfold Fits; omega) (by unfold Fits; omega) (by unfold Fits; omega)) (by omega) HSM.out (by omega)).mono ?_; rintro e wo ⟨a, c, rfl, ho, hb⟩
  have HB := Lib.hid (bel_trans (bel_alloc w _) hb)
  have hbz := HB.out.size
  obtain ⟨g, e, hBg, hgl, c0, _⟩ := ho.at (i := 0) (by omega)
  subst e
  obtain ⟨g1, e1, _, _, c1, _⟩ := ho.at (i := 1) (by omega)
  simp only [Option.some.injEq, Addr.mk.injEq] at e1
  obtain ⟨rfl, _, _⟩ := e1
  have hc5 := ho.ints.ncap
  have hcm := ho.ints.capm
  have q0 := bt_bd key i 0; have q1 := bt_bd key i 1; have q2 := bt_bd key i 2; have q3 := bt_bd key i 3; have q4 := bt_bd key i 4
  have HM0 : Hid (Mine wo w.heap.size (some ⟨g, 0, none⟩) 5 c [bt key i 0, bt key i 1, bt key i 2, bt key i 3, bt key i 4]) := ho.mine.base (by simp)
  have c0' : wo.cell? ⟨g, 0, none⟩ = some (.int .i64 (bt key i 0)) := c0
  have c1' : wo.cell? ⟨g, 1, none⟩ = some (.int .i64 (bt key i 1)) := c1
  clear c0 c1 ho hb
  have HA : Hid (btA key i = [bt key i 2, bt key i 3, bt key i 4]) := rfl
  have HBB : Hid (btB key i = [xr (bt key i 2) (bt key i 0), xr (bt key i 3) (bt key i 1), xr (bt key i 4) (bt key i 0 * bt key i 1)]) := rfl
  generalize bt key i 0 = n0 at *
  generalize bt key i 1 = n1 at *
  generalize bt key i 2 = n2 at *
  generalize bt key i 3 = n3 at *
  generalize bt key i 4 = n4 at *
  obtain ⟨q0, q0'⟩ := q0; obtain ⟨q1, q1'⟩ := q1; obtain ⟨q2, q2'⟩ := q2; obtain ⟨q3, q3'⟩ := q3; obtain ⟨q4, q4'⟩ := q4
  obtain ⟨m1, m2⟩ := mul_bd (a := n0) (b := n1) 1 1 (by omega) (by omega) (by omega) (by omega)
  have m0 : 0 ≤ n0 * n1 := Int.mul_nonneg q0 q1
  have e3 : IntKind.i64.wrap (n0 * n1) = n0 * n1 := IntWalk.i64_in _ (by omega)
  have hx : Hid (∀ i, i < 3 → (0 ≤ nth [n2, n3, n4] i ∧ nth [n2, n3, n4] i ≤ 1) ∧ (0 ≤ nth [n0, n1, n0 * n1] i ∧ nth [n0, n1, n0 * n1] i ≤ 1)) := by
    intro i hi
    rcases (show i = 0 ∨ i = 1 ∨ i = 2 by omega) with rfl | rfl | rfl <;> simp [nth] <;> omega
  have HD := Lib.hid (Mine.drop2 HM0.out)
  go_wp2_with fail
  go_region_held3 (fun W => W.cell? ⟨g, 0, none⟩ = some (.int .i64 n0) ∧ W.cell? ⟨g, 1, none⟩ = some (.int .i64 n1)) (first | exact ⟨c0', c1'⟩ | exact ⟨cell_on c0' BA, cell_on c1' BA⟩ | (simp [go_sem, World.cell?_alloc_some, *]; done)) (first | (go_at_call 90; refine (s_btXor _ _ _ _ _ _ [n2, n3, n4] [n0, n1, n0 * n1] _ ((HD.out.ints.below (bel_drew _)).below (bel_alloc _ _)) (by exact Ints.lit3 rfl (by unfold Fits; omega) (by unfold Fits; omega) (by unfold Fits; omega)) (by omega) (by omega) hx).mono ?_; rintro e wx ⟨r2, rc2, rfl, hm2, hb2⟩; have BA := bel_trans (bel_trans (bel_drew wo) (bel_alloc _ _)) hb2))
  have hm3 := Lib.hid (hm2.base (B' := wo.heap.size) (by simp))
  clear hm2
  go_wp2
  go_ret2
  refine ⟨_, _, _, _, wo.heap.size, rfl, ?_, ?_, HD.out.pl, hbz, bel_trans HB.out BA⟩
  · rw [HA.out]; exact HD.out.below BA
  · rw [HBB.out]; exact hm3.out
end Go.Proofs.Ytbkmgehigbjgmaa
