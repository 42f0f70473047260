/-
  The draw of a circuit's inputs.
-/
import Derived.Test.YtmkcanbaleecfaaSd
import Derived.Deep.RegionHeld3
namespace Go.Proofs.Ytmkcanbaleecfaa
open Go.RowKit
set_option linter.unusedVariables false
set_option linter.unusedSimpArgs false
set_option maxRecDepth 10000

/-- What 'inputs' hands back. -/
def InpRet (b B K : Nat) (w : World) (e : Ending) (w' : World) : Prop :=
  ∃ (ar : Option Addr) (an ac : Nat) (ax : List Int) (br : Option Addr) (bn bc : Nat) (bx : List Int), e = .returned (.tuple #[.slice ar an ac, .slice br bn bc]) ∧ Mine w' w.heap.size ar an ac ax ∧ Mine w' w.heap.size br bn bc bx ∧ an ≤ 31 ∧ bn ≤ 31 ∧ Cur w' b B (K + 200) ∧ Bex b w w'
set_option maxHeartbeats 4000000 in
theorem s_inputs (b B K : Nat) (i0 i1 : Int) (ga : Option Addr) (gn gc : Nat) (oa : Option Addr) (on oc : Nat) (w : World) (h : Cur w b B K) (hK : K ≤ 100000) (h0 : -100 ≤ i0 ∧ i0 ≤ 1000) (h1 : -100 ≤ i1 ∧ i1 ≤ 1000) :
    Calls Try.prog 105 #[.pointer (some ⟨b, 0, none⟩), .agg #[.int .i64 i0, .int .i64 i1, .slice ga gn gc, .slice oa on oc]] w (InpRet b B K w) := by
  have hbl := h.lt
  have A0 := bel_alloc w (.cells #[.int .i64 i0, .int .i64 i1, .slice ga gn gc, .slice oa on oc] 31)
  have g0 := B4.new (w := w) (x0 := .int .i64 i0) (x1 := .int .i64 i1) (x2 := .slice ga gn gc) (x3 := .slice oa on oc) (t := 31)
  obtain ⟨c0, c1, c2, c3⟩ := g0
  have zA := A0.size
  have HC := Lib.hid (h.below A0); have HX := Lib.hid (Bex.of (b := b) A0)
  have hne : w.heap.size ≠ b := by omega
  clear c2 c3 A0 h
  have tk0 : True := trivial
  go_enter Try.func105, Try.ntmps105
  go_wp2_with fail
  go_region_held3 (fun W => W.cell? ⟨w.heap.size, 0, none⟩ = some (.int .i64 i0) ∧ W.cell? ⟨w.heap.size, 1, none⟩ = some (.int .i64 i1)) (first | exact ⟨c0, c1⟩ | exact ⟨cell_on c0 (by (repeat (first | exact Below.refl _ _ | assumption | refine bel_trans ?_ (bel_alloc _ _) | refine bel_set ?_ (by first | (dsimp only; omega) | (simp; omega) | simp) _ | refine bel_trans ?_ (bel_drewN _ _) | refine bel_trans ?_ (bel_drew _) | refine bel_trans ?_ (by assumption)))), cell_on c1 (by (repeat (first | exact Below.refl _ _ | assumption | refine bel_trans ?_ (bel_alloc _ _) | refine bel_set ?_ (by first | (dsimp only; omega) | (simp; omega) | simp) _ | refine bel_trans ?_ (bel_drewN _ _) | refine bel_trans ?_ (bel_drew _) | refine bel_trans ?_ (by assumption))))⟩) (first
    | (have t0 := tk0; clear t0 tk0; go_at_call 113; refine (s_l1Least i0 30 _).mono ?_; rintro e w2 ⟨m0, rfl, ha1, ha2, ha3, rfl⟩; have tk1 : True := trivial)
    | (have t1 := tk1; clear t1 tk1; go_at_call 112; refine (s_bitsZ b B K m0 _ (HC.out.below (bel_drew _)) (by omega) (by omega)).mono ?_; rintro e w3 ⟨r3, k3, xs3, rfl, hO3, hC3, hX3⟩; have c0 := hX3.cell (cell_on c0 (bel_drew _)) hne; have c1 := hX3.cell (cell_on c1 (bel_drew _)) hne; have tk2 : True := trivial)
    | (have t2 := tk2; clear t2 tk2; go_at_call 113; refine (s_l1Least i1 30 _).mono ?_; rintro e w4 ⟨m1, rfl, hb1, hb2, hb3, rfl⟩; have tk3 : True := trivial)
    | (have t3 := tk3; clear t3 tk3; go_at_call 112; refine (s_bitsZ b B (K + 2 * m0.toNat) m1 _ hC3 (by omega) (by omega)).mono ?_; rintro e w5 ⟨r5, k5, xs5, rfl, hO5, hC5, hX5⟩; have c0 := hX5.cell c0 hne; have c1 := hX5.cell c1 hne))
  have hm0 : m0.toNat ≤ 30 := by omega
  have hm1 : m1.toNat ≤ 30 := by omega
  have z3 := hX3.size; have z5 := hX5.size
  have zs : w.heap.size + 1 ≤ w3.heap.size := by simp at z3; omega
  have F3 := Lib.hid (hO3.ints.wf.out); have F5 := Lib.hid (hO5.ints.wf.out)
  have o3 := ownsRow_base hO3.own (show w.heap.size + 1 ≤ _ by simp)
  have l3 : Hid (∀ g, Value.ownBlock (.slice r3 m0.toNat k3) = some g → g < w3.heap.size) := fun g hg => (ownLt hO3.own _ hg).2
  have o3 := ownsRow_bex o3 hX5 (by omega)
  have HXX := Lib.hid ((HX.out.trans (Bex.of (bel_drew _))).trans (hX3.trans hX5))
  have o5 := hO5.own
  clear c0 c1 HC HX hX3 hC3 hX5 hO3 hO5
  go_wp2_with fail
  refine (s_pick b B _ 30 _ hC5 (by omega) (by omega)).mono ?_; rintro e w6 ⟨q, rfl, hq, hq2, hC6, hX6⟩
  have o3 := Lib.hid (ownsRow_bex o3 hX6 (by omega)); have o5 := Lib.hid (ownsRow_bex o5 hX6 (by omega))
  have z6 := hX6.size
  have HXX := Lib.hid (HXX.out.trans hX6); have HC6 := Lib.hid hC6; clear hC5 hC6 hX6
  have hdj : Value.ownBlock (.slice r5 m1.toNat k5) = none ∨ Value.ownBlock (.slice r5 m1.toNat k5) ≠ Value.ownBlock (.slice r3 m0.toNat k3) := by
    cases h5 : Value.ownBlock (.slice r5 m1.toNat k5) with
    | none => exact Or.inl rfl
    | some g => exact Or.inr fun e => by have x1 := (ownLt o5.out g h5).1; have x2 := l3.out g e.symm; omega
  have hdj' : Value.ownBlock (.slice r3 m0.toNat k3) = none ∨ Value.ownBlock (.slice r3 m0.toNat k3) ≠ Value.ownBlock (.slice r5 m1.toNat k5) := by
    cases h5 : Value.ownBlock (.slice r3 m0.toNat k3) with
    | none => exact Or.inl rfl
    | some g => exact Or.inr fun e => by have x1 := (ownLt o5.out g e.symm).1; have x2 := l3.out g h5; omega
  have DJ := Lib.hid (And.intro hdj hdj'); clear hdj hdj' l3
  have fz : Fits 0 := by unfold Fits; omega
  have ft : Fits 2 := by unfold Fits; omega
  by_cases q0 : q = 0
  · subst q0
    go_wp2_with (at_builtin; refine wp_app w6 (w.heap.size + 1) m0.toNat _ xs3 0 _ _ rfl _ _ rfl rfl rfl (by first | rfl | simp) o3.out (by omega) (by omega) ?_; intro v9 w9 hv9 hb9 hg9)
    have p5 := (o5.out.alloc (.cells #[.int .i64 0] 3)).kept hg9 DJ.out.1
    obtain ⟨r9, c9, rfl, m9⟩ := Mine.of hv9 (by omega) (fun x hx => by rcases List.mem_append.1 hx with e | e; exact F3.out x e; simp at e; rw [e]; exact fz)
    obtain ⟨r8, c8, e8, m8⟩ := Mine.of p5 (by omega) F5.out
    simp only [Value.slice.injEq] at e8; obtain ⟨rfl, -, rfl⟩ := e8
    have M9 := Lib.hid (m9.base (show w.heap.size ≤ w.heap.size + 1 by omega)); have M8 := Lib.hid (m8.base (show w.heap.size ≤ w3.heap.size by omega)); clear m9 m8 p5 hv9 hg9 o3 o5
    go_wp2
    go_ret2
    exact ⟨_, _, _, _, _, _, _, _, rfl, M9.out, M8.out, by omega, by omega, (HC6.out.onB hb9 (by omega)).more (by omega), HXX.out.thenB (hb9.mono (by omega))⟩
  · have q0b : ((q : Int) == 0) = false := by simp only [beq_eq_false_iff_ne, ne_eq]; omega
    by_cases q1 : q = 1
    · subst q1
      go_wp2_with (at_builtin; refine wp_app w6 w3.heap.size m1.toNat _ xs5 2 _ _ rfl _ _ rfl rfl rfl (by first | rfl | simp) o5.out (by omega) (by omega) ?_; intro v9 w9 hv9 hb9 hg9)
      have p3 := (o3.out.alloc (.cells #[.int .i64 2] 3)).kept hg9 DJ.out.2
      obtain ⟨r9, c9, rfl, m9⟩ := Mine.of hv9 (by omega) (fun x hx => by rcases List.mem_append.1 hx with e | e; exact F5.out x e; simp at e; rw [e]; exact ft)
      obtain ⟨r8, c8, e8, m8⟩ := Mine.of p3 (by omega) F3.out
      simp only [Value.slice.injEq] at e8; obtain ⟨rfl, -, rfl⟩ := e8
      have M9 := Lib.hid (m9.base (show w.heap.size ≤ w3.heap.size by omega)); have M8 := Lib.hid (m8.base (show w.heap.size ≤ w.heap.size + 1 by omega)); clear m9 m8 p3 hv9 hg9 o3 o5
      go_wp2
      go_ret2
      exact ⟨_, _, _, _, _, _, _, _, rfl, M8.out, M9.out, by omega, by omega, (HC6.out.onB hb9 (by omega)).more (by omega), HXX.out.thenB (hb9.mono (by omega))⟩
    · have q1b : ((q : Int) == 1) = false := by simp only [beq_eq_false_iff_ne, ne_eq]; omega
      obtain ⟨r9, c9, e9, m9⟩ := Mine.of o3.out (by omega) F3.out
      simp only [Value.slice.injEq] at e9; obtain ⟨rfl, -, rfl⟩ := e9
      obtain ⟨r8, c8, e8, m8⟩ := Mine.of o5.out (by omega) F5.out
      simp only [Value.slice.injEq] at e8; obtain ⟨rfl, -, rfl⟩ := e8
      have M9 := Lib.hid (m9.base (show w.heap.size ≤ w.heap.size + 1 by omega)); have M8 := Lib.hid (m8.base (show w.heap.size ≤ w3.heap.size by omega)); clear m9 m8 o3 o5
      go_wp2
      go_ret2
      exact ⟨_, _, _, _, _, _, _, _, rfl, M9.out, M8.out, by omega, by omega, HC6.out.more (by omega), HXX.out⟩
end Go.Proofs.Ytmkcanbaleecfaa
