/-
  Contracts of tripleFor: the program's and the reference's.
-/
import Derived.Test.YtfandnakenpfnaaD2
import Derived.Test.YtfandnakenpfnaaM4
namespace Go.Proofs.Ytfandnakenpfnaa
open Go.RowKit
set_option linter.unusedVariables false
set_option linter.unusedSimpArgs false

/-- The k-th number that a triple is made of. -/
def t5 (p key i : Int) (k : Nat) : Int := numFrom [key, i, 20, (k : Int)] p
def t5l (p key i : Int) (n : Nat) : List Int := (List.range n).map (t5 p key i)
theorem t5_bd (p key i : Int) (k : Nat) (hp : 1 ≤ p) : 0 ≤ t5 p key i k ∧ t5 p key i k ≤ p - 1 := numFrom_bd _ _ hp
theorem t5l_succ (p key i : Int) (n : Nat) : t5l p key i (n + 1) = t5l p key i n ++ [t5 p key i n] := by simp [t5l, List.range_succ]
theorem t5l_fit (p key i : Int) (n : Nat) (hp : 2 ≤ p ∧ p ≤ 251) : ∀ x ∈ t5l p key i n, Fits x := by
  intro x hx
  simp only [t5l, List.mem_map] at hx
  obtain ⟨k, _, rfl⟩ := hx
  have := t5_bd p key i k (by omega)
  unfold Fits; omega
def tripA (p key i : Int) : List Int := [t5 p key i 2, t5 p key i 3, t5 p key i 4]
def tripB (p key i : Int) : List Int := [(t5 p key i 0 - t5 p key i 2) % p, (t5 p key i 1 - t5 p key i 3) % p, (t5 p key i 0 * t5 p key i 1 - t5 p key i 4) % p]

theorem Ints.drop2 {w : World} {g cap : Nat} {x0 x1 x2 x3 x4 : Int} (h : Ints w (some ⟨g, 0, none⟩) 5 cap [x0, x1, x2, x3, x4]) : Ints w (some ⟨g, 2, none⟩) 3 (cap - 2) [x2, x3, x4] := by
  have hn := h.ncap; have hc := h.capm
  refine ⟨rfl, by omega, by omega, by omega, fun i hi => ?_, fun x hx => h.wf.out x (by simp at hx ⊢; omega), fun e => by cases e⟩
  obtain ⟨b, off, e, hl, hcell⟩ := h.at (i := i + 2) (by omega)
  simp only [Option.some.injEq, Addr.mk.injEq] at e
  obtain ⟨rfl, rfl, _⟩ := e
  refine ⟨g, 2, rfl, hl, ?_⟩
  rw [show 2 + i = 0 + (i + 2) by omega, hcell]
  rcases (show i = 0 ∨ i = 1 ∨ i = 2 by omega) with rfl | rfl | rfl <;> rfl
theorem lit3_mine {w : World} {x y z : Int} (t : TypeId) (hx : Fits x) (hy : Fits y) (hz : Fits z) : Mine (w.alloc (.cells #[.int .i64 x, .int .i64 y, .int .i64 z] t)) w.heap.size (some ⟨w.heap.size, 0, none⟩) 3 3 [x, y, z] := by
  refine ⟨Ints.lit3 rfl hx hy hz, fun _ b off e => ?_, fun i hi b off e => ?_⟩
  · simp only [Option.some.injEq, Addr.mk.injEq] at e
    obtain ⟨rfl, _, _⟩ := e
    exact ⟨Nat.le_refl _, by simp⟩
  · simp only [Option.some.injEq, Addr.mk.injEq] at e
    obtain ⟨rfl, rfl, _⟩ := e
    exact World.frozen?_alloc_at _ _ _ _ rfl
theorem small4 {key i : Int} {k : Nat} (hk : 0 ≤ key ∧ key ≤ 1000000000) (hi : 0 ≤ i ∧ i ≤ 1000) (hk5 : k ≤ 5) : ∀ x ∈ [key, i, 20, (k : Int)], Small x := by
  intro x hx
  simp at hx
  unfold Small
  rcases hx with rfl | rfl | rfl | rfl <;> omega

set_option maxHeartbeats 4000000 in
theorem i_tripleFor (p key i : Int) (w : World) (hp : 2 ≤ p ∧ p ≤ 251) (hk : 0 ≤ key ∧ key ≤ 1000000000) (hi : 0 ≤ i ∧ i ≤ 1000) :
    Calls Try.prog 43 #[.int .i64 p, .int .i64 key, .int .i64 i] w fun e w' => ∃ r1 c1 r2 c2 m, e = .returned (.tuple #[.slice r1 3 c1, .slice r2 3 c2]) ∧ Mine w' w.heap.size r1 3 c1 (tripA p key i) ∧ Mine w' m r2 3 c2 (tripB p key i) ∧ PlaceM r1 3 w.heap.size m ∧ w.heap.size ≤ m ∧ Below w.heap.size w w' := by
  obtain ⟨hp1, hp2⟩ := hp
  have HFT := Lib.hid (t5l_fit p key i 5 ⟨hp1, hp2⟩)
  obtain ⟨hk1, hk2⟩ := hk; obtain ⟨hi1, hi2⟩ := hi
  go_enter Try.func43, Try.ntmps43
  go_wp2
  go_loopw [8, 12] (fun v s W => ∃ k : Nat, k ≤ 5 ∧ s = .int .i64 k ∧ Hid (W.ownsRow w.heap.size 3 1 v k (ivs (t5l p key i k))) ∧ Hid (Below w.heap.size w W)) (fun _ s _ => 5 - (intOf s).toNat)
  case atStart => exact ⟨0, by omega, rfl, (show Hid _ from World.ownsRow_lit w #[] 0 (Nat.le_refl _) (by decide) rfl), (show Hid _ from bel_alloc w _)⟩
  case round =>
    obtain ⟨k, hk5, rfl, HO, HB⟩ := hrel
    have hz := HB.out.size
    by_cases hlt : k < 5
    · have HL : Hid (t5l p key i (k + 1) = t5l p key i k ++ [t5 p key i k]) := t5l_succ p key i k
      have HT : Hid (numFrom [key, i, 20, (k : Int)] p = t5 p key i k) := rfl
      obtain ⟨wo, rfl⟩ : ∃ wo : World, wo = wr := ⟨_, rfl⟩
      go_wp2_with fail
      refine (i_numberFrom _ _ _ [key, i, 20, (k : Int)] _ _ (by exact Ints.lit4 (by simp) (by unfold Fits; omega) (by unfold Fits; omega) (by unfold Fits; omega) (by unfold Fits; omega)) (by omega) (small4 ⟨hk1, hk2⟩ ⟨hi1, hi2⟩ hk5) (by omega) (by omega)).mono ?_; rintro e w1 ⟨rfl, hb1⟩
      rw [HT.out]
      have B1 := bel_trans (bel_alloc wo _) hb1
      have HO1 := Lib.hid (ownsRow_below HO.out B1)
      have hz1 := Nat.le_trans hz B1.size
      have HB1 := Lib.hid (bel_trans HB.out B1)
      clear hb1 B1 HO HB
      go_wp2_with (at_builtin; refine wp_app w1 w.heap.size k _ _ (t5 p key i k) _ _ rfl _ _ rfl rfl rfl rfl HO1.out hz1 (by omega) ?_; intro v9 w9 hv9 hb9 hg9)
      clear hg9
      go_roundw
      case rel => exact ⟨k + 1, by omega, by go_num, by rw [HL.out]; exact hv9, HB1.out.trans hb9⟩
      case measure => simp [intOf]; omega
    · obtain rfl : k = 5 := by omega
      obtain ⟨wo, rfl⟩ : ∃ wo : World, wo = wr := ⟨_, rfl⟩
      obtain ⟨a, c, hv, ho⟩ := OwnI.of HO.out (by omega) HFT.out
      subst hv
      obtain ⟨g, e, hBg, hgl, c0, _⟩ := ho.at (i := 0) (by omega)
      subst e
      obtain ⟨g1, e1, _, _, c1, _⟩ := ho.at (i := 1) (by omega)
      simp only [Option.some.injEq, Addr.mk.injEq] at e1
      obtain ⟨rfl, _, _⟩ := e1
      have hd : Ints wo (some ⟨g, 2, none⟩) 3 (c - 2) [t5 p key i 2, t5 p key i 3, t5 p key i 4] := Ints.drop2 (x0 := t5 p key i 0) (x1 := t5 p key i 1) ho.ints
      have hc5 := ho.ints.ncap
      have hcm := ho.ints.capm
      have C0 : Hid (wo.cell? ⟨g, 0, none⟩ = some (.int .i64 (t5 p key i 0))) := c0
      have C1 : Hid (wo.cell? ⟨g, 1, none⟩ = some (.int .i64 (t5 p key i 1))) := c1
      clear c0 c1 HO
      have q0 := t5_bd p key i 0 (by omega); have q1 := t5_bd p key i 1 (by omega); have q2 := t5_bd p key i 2 (by omega); have q3 := t5_bd p key i 3 (by omega); have q4 := t5_bd p key i 4 (by omega)
      obtain ⟨n0, hn0⟩ : ∃ x, x = t5 p key i 0 := ⟨_, rfl⟩
      obtain ⟨n1, hn1⟩ : ∃ x, x = t5 p key i 1 := ⟨_, rfl⟩
      obtain ⟨n2, hn2⟩ : ∃ x, x = t5 p key i 2 := ⟨_, rfl⟩
      obtain ⟨n3, hn3⟩ : ∃ x, x = t5 p key i 3 := ⟨_, rfl⟩
      obtain ⟨n4, hn4⟩ : ∃ x, x = t5 p key i 4 := ⟨_, rfl⟩
      have HA : Hid (tripA p key i = [n2, n3, n4]) := by show _ = _; rw [hn2, hn3, hn4]; rfl
      have HBB : Hid (tripB p key i = [(n0 - n2) % p, (n1 - n3) % p, (n0 * n1 - n4) % p]) := by show _ = _; rw [hn0, hn1, hn2, hn3, hn4]; rfl
      rw [← hn0] at q0 C0; rw [← hn1] at q1 C1; rw [← hn2] at q2; rw [← hn3] at q3; rw [← hn4] at q4
      rw [← hn2, ← hn3, ← hn4] at hd
      clear hn0 hn1 hn2 hn3 hn4 HFT
      obtain ⟨q0, q0'⟩ := q0; obtain ⟨q1, q1'⟩ := q1; obtain ⟨q2, q2'⟩ := q2; obtain ⟨q3, q3'⟩ := q3; obtain ⟨q4, q4'⟩ := q4
      obtain ⟨m1, m2⟩ := mul_bd (a := n0) (b := n1) 251 251 (by omega) (by omega) (by omega) (by omega)
      have e1 : IntKind.i64.wrap (n0 - n2) = n0 - n2 := IntWalk.i64_in _ (by omega)
      have e2 : IntKind.i64.wrap (n1 - n3) = n1 - n3 := IntWalk.i64_in _ (by omega)
      have e3 : IntKind.i64.wrap (n0 * n1) = n0 * n1 := IntWalk.i64_in _ (by omega)
      have e4 : IntKind.i64.wrap (n0 * n1 - n4) = n0 * n1 - n4 := IntWalk.i64_in _ (by omega)
      obtain ⟨f1, f2⟩ := emod_bd (n := n0 - n2) (p := p) (by omega)
      obtain ⟨f3, f4⟩ := emod_bd (n := n1 - n3) (p := p) (by omega)
      obtain ⟨f5, f6⟩ := emod_bd (n := n0 * n1 - n4) (p := p) (by omega)
      go_wp2_with fail
      refine (g_Clone _ _ _ _ _ hd (by omega)).mono ?_; rintro e w1 ⟨r, rc, rfl, ho1, hb1⟩
      have HM1 := Lib.hid ho1.mine
      obtain ⟨_, b, off, hr, d0, d1, d2⟩ := ho1.ints.three
      subst hr
      have c0 : w1.cell? ⟨g, 0, none⟩ = some (.int .i64 n0) := cell_on C0.out hb1
      have c1 : w1.cell? ⟨g, 1, none⟩ = some (.int .i64 n1) := cell_on C1.out hb1
      have HB1 := Lib.hid (bel_trans HB.out hb1)
      clear ho1 hb1 HB C0 C1 ho hd
      go_wp2_with fail
      go_region_held3 (fun W => W.cell? ⟨g, 0, none⟩ = some (.int .i64 n0) ∧ W.cell? ⟨g, 1, none⟩ = some (.int .i64 n1) ∧ W.cell? ⟨b, off, none⟩ = some (.int .i64 n2) ∧ W.cell? ⟨b, off + 1, none⟩ = some (.int .i64 n3) ∧ W.cell? ⟨b, off + 2, none⟩ = some (.int .i64 n4)) (simp [go_sem, World.cell?_alloc_some, *]) (first | (go_at_call 54; refine (i_mod _ _ _ (by omega) (by omega) (by omega) (by omega)).mono ?_; rintro e w' ⟨rfl, rfl⟩))
      go_wp2
      go_ret2
      refine ⟨_, _, _, _, w1.heap.size, rfl, ?_, ?_, ?_, HB1.out.size, bel_trans (bel_trans HB1.out (bel_alloc _ _)) (bel_drew _)⟩
      · rw [HA.out]; exact ((HM1.out.below (bel_alloc _ _)).below (bel_drew _)).base hz
      · rw [HBB.out]; exact Mine.below (lit3_mine (x := (n0 - n2) % p) (y := (n1 - n3) % p) (z := (n0 * n1 - n4) % p) 3 (by unfold Fits; omega) (by unfold Fits; omega) (by unfold Fits; omega)) (bel_drew _)
      · intro h3 b' o' e'
        have := HM1.out.pl h3 b' o' e'
        exact ⟨Nat.le_trans hz this.1, this.2⟩

theorem Mine.drop2 {w : World} {B g cap : Nat} {x0 x1 x2 x3 x4 : Int} (h : Mine w B (some ⟨g, 0, none⟩) 5 cap [x0, x1, x2, x3, x4]) : Mine w B (some ⟨g, 2, none⟩) 3 (cap - 2) [x2, x3, x4] :=
  ⟨h.ints.drop2, fun _ b off e => by
    simp only [Option.some.injEq, Addr.mk.injEq] at e
    obtain ⟨rfl, _, _⟩ := e
    exact h.place.out (by omega) g 0 rfl, fun i hi b off e => by
    simp only [Option.some.injEq, Addr.mk.injEq] at e
    obtain ⟨rfl, rfl, _⟩ := e
    have := h.free.out (i + 2) (by omega) g 0 rfl
    rwa [show 0 + (i + 2) = 2 + i by omega] at this⟩

/-- What the reference appends to its second list. -/
def othAt (p : Int) (A L : List Int) (k : Nat) : Int := (nth A k - nth L (k + 2)) % p
def othL (p : Int) (A L : List Int) (n : Nat) : List Int := (List.range n).map (othAt p A L)
theorem othL_succ (p : Int) (A L : List Int) (n : Nat) : othL p A L (n + 1) = othL p A L n ++ [othAt p A L n] := by simp [othL, List.range_succ]
set_option maxHeartbeats 4000000 in
theorem s_trFor (p key i : Int) (w : World) (hp : 2 ≤ p ∧ p ≤ 251) (hk : 0 ≤ key ∧ key ≤ 1000000000) (hi : 0 ≤ i ∧ i ≤ 1000) :
    Calls Try.prog 46 #[.int .i64 p, .int .i64 key, .int .i64 i] w fun e w' => ∃ r1 c1 r2 c2 m, e = .returned (.tuple #[.slice r1 3 c1, .slice r2 3 c2]) ∧ Mine w' w.heap.size r1 3 c1 (tripA p key i) ∧ Mine w' m r2 3 c2 (tripB p key i) ∧ PlaceM r1 3 w.heap.size m ∧ w.heap.size ≤ m ∧ Below w.heap.size w w' := by
  obtain ⟨hp1, hp2⟩ := hp
  have HFT := Lib.hid (t5l_fit p key i 5 ⟨hp1, hp2⟩)
  obtain ⟨hk1, hk2⟩ := hk; obtain ⟨hi1, hi2⟩ := hi
  go_enter Try.func46, Try.ntmps46
  go_wp2
  go_loopw [8, 9] (fun v s W => ∃ k : Nat, k ≤ 5 ∧ s = .int .i64 k ∧ Hid (W.ownsRow w.heap.size 3 1 v k (ivs (t5l p key i k))) ∧ Hid (Below w.heap.size w W)) (fun _ s _ => 5 - (intOf s).toNat)
  case atStart => exact ⟨0, by omega, rfl, (show Hid _ from World.ownsRow_nil _ _ _ _), Below.refl _ _⟩
  case round =>
    obtain ⟨k, hk5, rfl, HO, HB⟩ := hrel
    have hz := HB.out.size
    by_cases hlt : k < 5
    · have HL : Hid (t5l p key i (k + 1) = t5l p key i k ++ [t5 p key i k]) := t5l_succ p key i k
      have HT : Hid (numFrom [key, i, 20, (k : Int)] p = t5 p key i k) := rfl
      obtain ⟨wo, rfl⟩ : ∃ wo : World, wo = wr := ⟨_, rfl⟩
      go_wp2_with fail
      refine (s_dgBelow _ _ _ [key, i, 20, (k : Int)] _ _ (by exact Ints.lit4 (by simp) (by unfold Fits; omega) (by unfold Fits; omega) (by unfold Fits; omega) (by unfold Fits; omega)) (by omega) (small4 ⟨hk1, hk2⟩ ⟨hi1, hi2⟩ hk5) (by omega) (by omega)).mono ?_; rintro e w1 ⟨rfl, hb1⟩
      rw [HT.out]
      have B1 := bel_trans (bel_alloc wo _) hb1
      have HO1 := Lib.hid (ownsRow_below HO.out B1)
      have hz1 := Nat.le_trans hz B1.size
      have HB1 := Lib.hid (bel_trans HB.out B1)
      clear hb1 B1 HO HB
      go_wp2_with (at_builtin; refine wp_app w1 w.heap.size k _ _ (t5 p key i k) _ _ rfl _ _ rfl rfl rfl rfl HO1.out hz1 (by omega) ?_; intro v9 w9 hv9 hb9 hg9)
      clear hg9
      go_roundw
      case rel => exact ⟨k + 1, by omega, by go_num, by rw [HL.out]; exact hv9, HB1.out.trans hb9⟩
      case measure => simp [intOf]; omega
    · obtain rfl : k = 5 := by omega
      obtain ⟨wo, rfl⟩ : ∃ wo : World, wo = wr := ⟨_, rfl⟩
      obtain ⟨a, c, hv, ho⟩ := OwnI.of HO.out (by omega) HFT.out
      subst hv
      obtain ⟨g, e, hBg, hgl, c0, _⟩ := ho.at (i := 0) (by omega)
      subst e
      obtain ⟨g1, e1, _, _, c1, _⟩ := ho.at (i := 1) (by omega)
      simp only [Option.some.injEq, Addr.mk.injEq] at e1
      obtain ⟨rfl, _, _⟩ := e1
      have hc5 := ho.ints.ncap
      have hcm := ho.ints.capm
      have q0 := t5_bd p key i 0 (by omega); have q1 := t5_bd p key i 1 (by omega); have q2 := t5_bd p key i 2 (by omega); have q3 := t5_bd p key i 3 (by omega); have q4 := t5_bd p key i 4 (by omega)
      have HM0 : Hid (Mine wo w.heap.size (some ⟨g, 0, none⟩) 5 c [t5 p key i 0, t5 p key i 1, t5 p key i 2, t5 p key i 3, t5 p key i 4]) := ho.mine
      have c0' : wo.cell? ⟨g, 0, none⟩ = some (.int .i64 (t5 p key i 0)) := c0
      have c1' : wo.cell? ⟨g, 1, none⟩ = some (.int .i64 (t5 p key i 1)) := c1
      clear c0 c1
      have HA : Hid (tripA p key i = [t5 p key i 2, t5 p key i 3, t5 p key i 4]) := rfl
      have HBB : Hid (tripB p key i = [(t5 p key i 0 - t5 p key i 2) % p, (t5 p key i 1 - t5 p key i 3) % p, (t5 p key i 0 * t5 p key i 1 - t5 p key i 4) % p]) := rfl
      generalize t5 p key i 0 = n0 at *
      generalize t5 p key i 1 = n1 at *
      generalize t5 p key i 2 = n2 at *
      generalize t5 p key i 3 = n3 at *
      generalize t5 p key i 4 = n4 at *
      clear HO ho HFT
      obtain ⟨q0, q0'⟩ := q0; obtain ⟨q1, q1'⟩ := q1; obtain ⟨q2, q2'⟩ := q2; obtain ⟨q3, q3'⟩ := q3; obtain ⟨q4, q4'⟩ := q4
      obtain ⟨m1, m2⟩ := mul_bd (a := n0) (b := n1) 251 251 (by omega) (by omega) (by omega) (by omega)
      have e3 : IntKind.i64.wrap (n0 * n1) = n0 * n1 := IntWalk.i64_in _ (by omega)
      have e4 : (n0 * n1).tmod p = n0 * n1 % p := IntWalk.rem_in _ _ (by omega)
      have hp0 : ¬ p = 0 := by omega
      obtain ⟨f1, f2⟩ := emod_bd (n := n0 * n1) (p := p) (by omega)
      go_wp2_with fail
      go_region_held3 (fun W => W.cell? ⟨g, 0, none⟩ = some (.int .i64 n0) ∧ W.cell? ⟨g, 1, none⟩ = some (.int .i64 n1)) (simp [go_sem, World.cell?_alloc_some, *]) (first | fail)
      go_wp2
      have HI : Hid (Ints (wo.alloc (.cells #[.int .i64 n0, .int .i64 n1, .int .i64 (n0 * n1 % p)] 3)).drew (some ⟨wo.heap.size, 0, none⟩) 3 3 [n0, n1, n0 * n1 % p]) := (Ints.lit3 rfl (by unfold Fits; omega) (by unfold Fits; omega) (by unfold Fits; omega)).below (bel_drew _)
      have HM1 := Lib.hid ((HM0.out.below (bel_alloc wo (.cells #[.int .i64 n0, .int .i64 n1, .int .i64 (n0 * n1 % p)] 3))).below (bel_drew _))
      have HB1 := Lib.hid (bel_trans (bel_trans HB.out (bel_alloc wo (.cells #[.int .i64 n0, .int .i64 n1, .int .i64 (n0 * n1 % p)] 3))) (bel_drew _))
      clear HB HM0 c0' c1'
      generalize (wo.alloc (.cells #[.int .i64 n0, .int .i64 n1, .int .i64 (n0 * n1 % p)] 3)).drew = wA at *
      have hgA := (HM1.out.place.out (by omega) g 0 rfl).2
      go_loopw [11, 45] (fun v s W => ∃ k : Nat, k ≤ 3 ∧ s = .int .i64 k ∧ Hid (W.ownsRow wA.heap.size 3 1 v k (ivs (othL p [n0, n1, n0 * n1 % p] [n0, n1, n2, n3, n4] k))) ∧ Hid (Below wA.heap.size wA W)) (fun _ s _ => 3 - (intOf s).toNat)
      case atStart => exact ⟨0, by omega, rfl, (show Hid _ from World.ownsRow_nil _ _ _ _), (show Hid _ from Below.refl _ _)⟩
      case round =>
        obtain ⟨k, hk3, rfl, HO, HB⟩ := hrel
        obtain ⟨wq, rfl⟩ : ∃ wq : World, wq = wr := ⟨_, rfl⟩
        have hzq := HB.out.size
        by_cases hlt : k < 3
        · have HL : Hid (othL p [n0, n1, n0 * n1 % p] [n0, n1, n2, n3, n4] (k + 1) = othL p [n0, n1, n0 * n1 % p] [n0, n1, n2, n3, n4] k ++ [(nth [n0, n1, n0 * n1 % p] k - nth [n0, n1, n2, n3, n4] (k + 2)) % p]) := othL_succ _ _ _ _
          have xb : 0 ≤ nth [n0, n1, n0 * n1 % p] k ∧ nth [n0, n1, n0 * n1 % p] k ≤ 251 := by
            rcases (show k = 0 ∨ k = 1 ∨ k = 2 by omega) with rfl | rfl | rfl <;> simp [nth] <;> omega
          have yb : 0 ≤ nth [n0, n1, n2, n3, n4] (k + 2) ∧ nth [n0, n1, n2, n3, n4] (k + 2) ≤ 251 := by
            rcases (show k = 0 ∨ k = 1 ∨ k = 2 by omega) with rfl | rfl | rfl <;> simp [nth] <;> omega
          obtain ⟨b, off, e, _, d0⟩ := (HI.out.below HB.out).at hlt
          simp only [Option.some.injEq, Addr.mk.injEq] at e
          obtain ⟨rfl, rfl, _⟩ := e
          obtain ⟨b', off', e, _, d1⟩ := (HM1.out.ints.below HB.out).at (i := k + 2) (by omega)
          simp only [Option.some.injEq, Addr.mk.injEq] at e
          obtain ⟨rfl, rfl, _⟩ := e
          rw [Nat.zero_add] at d0
          have d2 : wq.cell? ⟨g, 2 + k, none⟩ = some (.int .i64 (nth [n0, n1, n2, n3, n4] (k + 2))) := by rw [← d1]; congr 2; omega
          rw [Nat.zero_add] at d1
          generalize nth [n0, n1, n0 * n1 % p] k = X at *
          generalize nth [n0, n1, n2, n3, n4] (k + 2) = Y at *
          obtain ⟨xb1, xb2⟩ := xb; obtain ⟨yb1, yb2⟩ := yb
          have hki : (2 : Int) + (k : Int) < 5 := by omega
          obtain ⟨u1, u2⟩ := emod_bd (n := X - Y) (p := p) (by omega)
          go_wp2_with (first | (go_at_call 59; refine (s_btMod _ _ _ (by omega) (by omega) (by omega) (by omega)).mono ?_; rintro e w' ⟨rfl, rfl⟩) | (at_builtin; refine wp_app wq wA.heap.size k _ _ ((X - Y) % p) _ _ rfl _ _ rfl rfl rfl rfl HO.out hzq (by omega) ?_; intro v9 w9 hv9 hb9 hg9))
          clear hg9
          go_roundw
          case rel => exact ⟨k + 1, by omega, by go_num, by rw [HL.out]; exact hv9, HB.out.trans hb9⟩
          case measure => simp [intOf]; omega
        · obtain rfl : k = 3 := by omega
          obtain ⟨f3, f4⟩ := emod_bd (n := n0 - n2) (p := p) (by omega)
          obtain ⟨f5, f6⟩ := emod_bd (n := n1 - n3) (p := p) (by omega)
          obtain ⟨f7, f8⟩ := emod_bd (n := n0 * n1 - n4) (p := p) (by omega)
          have HQ : Hid (othL p [n0, n1, n0 * n1 % p] [n0, n1, n2, n3, n4] 3 = tripB p key i) := by
            show _ = _
            rw [HBB.out]
            show [(n0 - n2) % p, (n1 - n3) % p, (n0 * n1 % p - n4) % p] = _
            rw [cg_sub (cg_mod p (n0 * n1)) (rfl : n4 % p = n4 % p)]
          have HF3 : Hid (∀ x ∈ tripB p key i, Fits x) := by
            show ∀ x ∈ tripB p key i, Fits x
            rw [HBB.out]; intro x hx; simp at hx; unfold Fits
            rcases hx with rfl | rfl | rfl <;> omega
          have hv := HO.out
          rw [HQ.out] at hv
          obtain ⟨r, rc, hr, hm⟩ := Mine.of hv (by omega) HF3.out
          subst hr
          have HM := Lib.hid hm; clear hm hv HO
          go_wp2
          go_ret2
          refine ⟨_, _, _, _, wA.heap.size, rfl, ?_, HM.out, ?_, HB1.out.size, bel_trans HB1.out HB.out⟩
          · rw [HA.out]; exact (HM1.out.below HB.out).drop2
          · intro _ b' o' e'
            simp only [Option.some.injEq, Addr.mk.injEq] at e'
            obtain ⟨rfl, _, _⟩ := e'
            exact ⟨hBg, hgA⟩
end Go.Proofs.Ytfandnakenpfnaa
