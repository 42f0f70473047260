/-
  The draws of a group that may be spoilt and of an element.
-/
import Derived.Test.YtklgneaamhjfpaaGv
import Derived.Deep.RegionHeld3
namespace Go.Proofs.Ytklgneaamhjfpaa
open Go.RowKit
set_option linter.unusedVariables false
set_option linter.unusedSimpArgs false

set_option maxHeartbeats 4000000 in
theorem s_anyGroup (b B K : Nat) (w : World) (h : Cur w b B K) (hK : K ≤ 10000000000) :
    Calls Try.prog 58 #[.pointer (some ⟨b, 0, none⟩)] w fun e w' => ∃ P Q G : Int, e = .returned (.agg #[.int .i64 P, .int .i64 Q, .int .i64 G]) ∧ Gd P Q G ∧ Cur w' b B (K + 6) ∧ Bex b w w' := by
  have A0 := bel_alloc w (.cells #[.int .i64 0, .int .i64 0, .int .i64 0] 24)
  have r0 := Gw.new (w := w) (P := 0) (Q := 0) (G := 0) (t := 24)
  have hlt := h.lt
  have hbase := h.base
  have h1 := h.below A0
  have X0 := Bex.of (b := b) A0
  have z0 : (w.alloc (.cells #[.int .i64 0, .int .i64 0, .int .i64 0] 24)).heap.size = w.heap.size + 1 := by simp
  go_enter Try.func58, Try.ntmps58
  go_wp2_with fail
  refine (s_group b B K _ h1 (by omega)).mono ?_; rintro e w1 ⟨P, Q, G, rfl, hgd, hmod, hC1, hX1⟩
  obtain ⟨gp1, gp2⟩ := modB_lo hmod
  have r1 := r0.bex hX1 (by omega)
  have X1 := X0.trans hX1
  have z1 := hX1.size
  rw [z0] at z1
  clear A0 r0 h1 X0 z0 hX1 h hmod
  have A2 := bel_alloc w1 (.cells #[.int .i64 P, .int .i64 Q, .int .i64 G] 24)
  have g2 := Gw.new (w := w1) (P := P) (Q := Q) (G := G) (t := 24)
  have r2 := r1.on A2
  have hC2 := hC1.below A2
  have X2 := X1.trans (Bex.of A2)
  clear r1 hC1 X1 A2
  have z2 : (w1.alloc (.cells #[.int .i64 P, .int .i64 Q, .int .i64 G] 24)).heap.size = w1.heap.size + 1 := by simp
  go_wp2_with fail
  refine (s_pick b B (K + 2) 24 _ hC2 (by omega) (by omega)).mono ?_; rintro e w3 ⟨r, rfl, hr1, hr2, hC3, hX3⟩
  have g3 := g2.bex hX3 (by omega)
  have r3 := r2.bex hX3 (by omega)
  have X3 := X2.trans hX3
  have z3 := hX3.size
  rw [z2] at z3
  clear g2 r2 hC2 X2 z2 hX3
  have hr : r = 0 ∨ r = 1 ∨ r = 2 ∨ r = 3 ∨ 4 ≤ r := by omega
  obtain ⟨q1, q2, q3, q4, q5, q6⟩ := hgd
  have e1 : IntKind.i64.wrap (P - 1) = P - 1 := IntWalk.i64_in _ (by omega)
  rcases hr with rfl | rfl | rfl | rfl | hr
  · have U3 := bel_alloc w3 (.cells (([2, 4, 2003, 2011, 21] : List Int).map (Value.int .i64)).toArray 3)
    obtain ⟨hC, hI, hO, hX⟩ := among_lit (w := w3) (t := 3) [2, 4, 2003, 2011, 21] hC3 rfl rfl (by simp) (by intro x hx; simp at hx; unfold Fits; omega)
    have g4 := g3.on U3; have r4 := r3.on U3
    have g3c := g3.c0; have g3q := g3.c1; have g3g := g3.c2
    clear U3
    go_wp2_with fail
    refine (s_among b B (K + 4) _ 5 5 [2, 4, 2003, 2011, 21] _ hC (by omega) hI (by omega) (by omega) hO).mono ?_; rintro e w4 ⟨x, rfl, hx, hC4, hX4⟩
    have g5 := g4.bex hX4 (by omega)
    have r5 := r4.bex hX4 (by omega)
    have X5 := (X3.trans hX).trans hX4
    have hx1 : -10000 ≤ x ∧ x ≤ 10000 := by simp at hx; omega
    obtain ⟨hx1, hx2⟩ := hx1
    clear g4 r4 hC hI hO hX hX4 hx g3 r3 g3c g3q g3g
    have rf := r5.other (p := ⟨w1.heap.size, 0, none⟩) (by dsimp only; omega) (.int .i64 x)
    have gf := g5.s0 x
    have hCf := hC4.store (p := ⟨w1.heap.size, 0, none⟩) (u := .int .i64 x) (by dsimp only; omega) (by dsimp only; omega)
    have Xf := X5.store (p := ⟨w1.heap.size, 0, none⟩) (by dsimp only; omega) (.int .i64 x)
    obtain ⟨a0, a1, a2, b0, b1, b2⟩ := g5
    obtain ⟨s0, s1, s2, t0, t1, t2⟩ := r5
    have E := rf.set x Q G
    have E0 := E.c0; have E1 := E.c1; have E2 := E.c2
    obtain ⟨c0, c1, c2, f0, f1, f2⟩ := rf
    obtain ⟨d0, d1, d2, _, _, _⟩ := gf
    go_wp2
    exact bodyPost_ret (v := .agg #[.int .i64 x, .int .i64 Q, .int .i64 G]) (by simp [results, Try.results58, go_sem, E0, E1, E2]) rfl
      ⟨x, Q, G, rfl, ⟨by omega, by omega, by omega, by omega, by omega, by omega⟩, (((hCf.store (by dsimp only; omega) (by dsimp only; omega)).store (by dsimp only; omega) (by dsimp only; omega)).store (by dsimp only; omega) (by dsimp only; omega)).more (by omega), ((Xf.store (by dsimp only; omega) _).store (by dsimp only; omega) _).store (by dsimp only; omega) _⟩
  · have U3 := bel_alloc w3 (.cells (([1, 2, 11, 22] : List Int).map (Value.int .i64)).toArray 3)
    obtain ⟨hC, hI, hO, hX⟩ := among_lit (w := w3) (t := 3) [1, 2, 11, 22] hC3 rfl rfl (by simp) (by intro x hx; simp at hx; unfold Fits; omega)
    have g4 := g3.on U3; have r4 := r3.on U3
    have g3c := g3.c0; have g3q := g3.c1; have g3g := g3.c2
    clear U3
    go_wp2_with fail
    refine (s_among b B (K + 4) _ 4 4 [1, 2, 11, 22] _ hC (by omega) hI (by omega) (by omega) hO).mono ?_; rintro e w4 ⟨x, rfl, hx, hC4, hX4⟩
    have g5 := g4.bex hX4 (by omega)
    have r5 := r4.bex hX4 (by omega)
    have X5 := (X3.trans hX).trans hX4
    have hx1 : -10000 ≤ x ∧ x ≤ 10000 := by simp at hx; omega
    obtain ⟨hx1, hx2⟩ := hx1
    clear g4 r4 hC hI hO hX hX4 hx g3 r3 g3c g3q g3g
    have rf := r5.other (p := ⟨w1.heap.size, 1, none⟩) (by dsimp only; omega) (.int .i64 x)
    have gf := g5.s1 x
    have hCf := hC4.store (p := ⟨w1.heap.size, 1, none⟩) (u := .int .i64 x) (by dsimp only; omega) (by dsimp only; omega)
    have Xf := X5.store (p := ⟨w1.heap.size, 1, none⟩) (by dsimp only; omega) (.int .i64 x)
    obtain ⟨a0, a1, a2, b0, b1, b2⟩ := g5
    obtain ⟨s0, s1, s2, t0, t1, t2⟩ := r5
    have E := rf.set P x G
    have E0 := E.c0; have E1 := E.c1; have E2 := E.c2
    obtain ⟨c0, c1, c2, f0, f1, f2⟩ := rf
    obtain ⟨d0, d1, d2, _, _, _⟩ := gf
    go_wp2
    exact bodyPost_ret (v := .agg #[.int .i64 P, .int .i64 x, .int .i64 G]) (by simp [results, Try.results58, go_sem, E0, E1, E2]) rfl
      ⟨P, x, G, rfl, ⟨by omega, by omega, by omega, by omega, by omega, by omega⟩, (((hCf.store (by dsimp only; omega) (by dsimp only; omega)).store (by dsimp only; omega) (by dsimp only; omega)).store (by dsimp only; omega) (by dsimp only; omega)).more (by omega), ((Xf.store (by dsimp only; omega) _).store (by dsimp only; omega) _).store (by dsimp only; omega) _⟩
  · have U3 := bel_alloc w3 (.cells (([0, 1, P - 1, P, 5] : List Int).map (Value.int .i64)).toArray 3)
    obtain ⟨hC, hI, hO, hX⟩ := among_lit (w := w3) (t := 3) [0, 1, P - 1, P, 5] hC3 rfl rfl (by simp) (by intro x hx; simp at hx; unfold Fits; omega)
    have g4 := g3.on U3; have r4 := r3.on U3
    have g3c := g3.c0; have g3q := g3.c1; have g3g := g3.c2
    clear U3
    go_wp2_with fail
    refine (s_among b B (K + 4) _ 5 5 [0, 1, P - 1, P, 5] _ hC (by omega) hI (by omega) (by omega) hO).mono ?_; rintro e w4 ⟨x, rfl, hx, hC4, hX4⟩
    have g5 := g4.bex hX4 (by omega)
    have r5 := r4.bex hX4 (by omega)
    have X5 := (X3.trans hX).trans hX4
    have hx1 : -10000 ≤ x ∧ x ≤ 10000 := by simp at hx; omega
    obtain ⟨hx1, hx2⟩ := hx1
    clear g4 r4 hC hI hO hX hX4 hx g3 r3 g3c g3q g3g
    have rf := r5.other (p := ⟨w1.heap.size, 2, none⟩) (by dsimp only; omega) (.int .i64 x)
    have gf := g5.s2 x
    have hCf := hC4.store (p := ⟨w1.heap.size, 2, none⟩) (u := .int .i64 x) (by dsimp only; omega) (by dsimp only; omega)
    have Xf := X5.store (p := ⟨w1.heap.size, 2, none⟩) (by dsimp only; omega) (.int .i64 x)
    obtain ⟨a0, a1, a2, b0, b1, b2⟩ := g5
    obtain ⟨s0, s1, s2, t0, t1, t2⟩ := r5
    have E := rf.set P Q x
    have E0 := E.c0; have E1 := E.c1; have E2 := E.c2
    obtain ⟨c0, c1, c2, f0, f1, f2⟩ := rf
    obtain ⟨d0, d1, d2, _, _, _⟩ := gf
    go_wp2
    exact bodyPost_ret (v := .agg #[.int .i64 P, .int .i64 Q, .int .i64 x]) (by simp [results, Try.results58, go_sem, E0, E1, E2]) rfl
      ⟨P, Q, x, rfl, ⟨by omega, by omega, by omega, by omega, by omega, by omega⟩, (((hCf.store (by dsimp only; omega) (by dsimp only; omega)).store (by dsimp only; omega) (by dsimp only; omega)).store (by dsimp only; omega) (by dsimp only; omega)).more (by omega), ((Xf.store (by dsimp only; omega) _).store (by dsimp only; omega) _).store (by dsimp only; omega) _⟩
  · have gf := g3.set 7 2 6
    have rf := ((r3.other (p := ⟨w1.heap.size, 0, none⟩) (by dsimp only; omega) (.int .i64 7)).other (p := ⟨w1.heap.size, 1, none⟩) (by dsimp only; omega) (.int .i64 2)).other (p := ⟨w1.heap.size, 2, none⟩) (by dsimp only; omega) (.int .i64 6)
    have hCf := ((hC3.store (p := ⟨w1.heap.size, 0, none⟩) (u := .int .i64 7) (by dsimp only; omega) (by dsimp only; omega)).store (p := ⟨w1.heap.size, 1, none⟩) (u := .int .i64 2) (by dsimp only; omega) (by dsimp only; omega)).store (p := ⟨w1.heap.size, 2, none⟩) (u := .int .i64 6) (by dsimp only; omega) (by dsimp only; omega)
    have Xf := ((X3.store (p := ⟨w1.heap.size, 0, none⟩) (by dsimp only; omega) (.int .i64 7)).store (p := ⟨w1.heap.size, 1, none⟩) (by dsimp only; omega) (.int .i64 2)).store (p := ⟨w1.heap.size, 2, none⟩) (by dsimp only; omega) (.int .i64 6)
    obtain ⟨a0, a1, a2, b0, b1, b2⟩ := g3
    obtain ⟨s0, s1, s2, t0, t1, t2⟩ := r3
    have E := rf.set 7 2 6
    have E0 := E.c0; have E1 := E.c1; have E2 := E.c2
    obtain ⟨c0, c1, c2, f0, f1, f2⟩ := rf
    obtain ⟨d0, d1, d2, _, _, _⟩ := gf
    go_wp2
    exact bodyPost_ret (v := .agg #[.int .i64 7, .int .i64 2, .int .i64 6]) (by simp [results, Try.results58, go_sem, E0, E1, E2]) rfl
      ⟨7, 2, 6, rfl, ⟨by omega, by omega, by omega, by omega, by omega, by omega⟩, (((hCf.store (by dsimp only; omega) (by dsimp only; omega)).store (by dsimp only; omega) (by dsimp only; omega)).store (by dsimp only; omega) (by dsimp only; omega)).more (by omega), ((Xf.store (by dsimp only; omega) _).store (by dsimp only; omega) _).store (by dsimp only; omega) _⟩
  · have n0 : ¬ (r : Int) = 0 := by omega
    have n1 : ¬ (r : Int) = 1 := by omega
    have n2 : ¬ (r : Int) = 2 := by omega
    have n3 : ¬ (r : Int) = 3 := by omega
    have gf := g3; have rf := r3; have hCf := hC3; have Xf := X3
    have E := rf.set P Q G
    have E0 := E.c0; have E1 := E.c1; have E2 := E.c2
    obtain ⟨c0, c1, c2, f0, f1, f2⟩ := rf
    obtain ⟨d0, d1, d2, _, _, _⟩ := gf
    go_wp2
    exact bodyPost_ret (v := .agg #[.int .i64 P, .int .i64 Q, .int .i64 G]) (by simp [results, Try.results58, go_sem, E0, E1, E2]) rfl
      ⟨P, Q, G, rfl, ⟨by omega, by omega, by omega, by omega, by omega, by omega⟩, (((hCf.store (by dsimp only; omega) (by dsimp only; omega)).store (by dsimp only; omega) (by dsimp only; omega)).store (by dsimp only; omega) (by dsimp only; omega)).more (by omega), ((Xf.store (by dsimp only; omega) _).store (by dsimp only; omega) _).store (by dsimp only; omega) _⟩
set_option maxHeartbeats 4000000 in
theorem s_elementOf (b B K : Nat) (P Q G : Int) (w : World) (h : Cur w b B K) (hK : K ≤ 10000000000) (hg : Gd P Q G) :
    Calls Try.prog 67 #[.pointer (some ⟨b, 0, none⟩), .agg #[.int .i64 P, .int .i64 Q, .int .i64 G]] w fun e w' => ∃ x : Int, e = .returned (.int .i64 x) ∧ -20000 ≤ x ∧ x ≤ 20000 ∧ Cur w' b B (K + 4) ∧ Bex b w w' := by
  obtain ⟨q1, q2, q3, q4, q5, q6⟩ := hg
  have e1 : IntKind.i64.wrap (P - 1) = P - 1 := IntWalk.i64_in _ (by omega)
  have A0 := bel_alloc w (.cells #[.int .i64 P, .int .i64 Q, .int .i64 G] 24)
  have g0 := Gw.new (w := w) (P := P) (Q := Q) (G := G) (t := 24)
  have hlt := h.lt
  have hbase := h.base
  have h1 := h.below A0
  have X0 := Bex.of (b := b) A0
  have gx := g0.gx; obtain ⟨k0, k1, k2⟩ := gx
  go_enter Try.func67, Try.ntmps67
  go_wp2_with fail
  refine (s_grGood P Q G _).mono ?_; rintro e w1 ⟨rfl, hb1⟩
  have g1 := g0.on hb1
  have hC1 := h1.below hb1
  have X1 := X0.trans (Bex.of hb1)
  have z1 := hb1.size
  have z0 : (w.alloc (.cells #[.int .i64 P, .int .i64 Q, .int .i64 G] 24)).heap.size = w.heap.size + 1 := by simp
  rw [z0] at z1
  clear A0 g0 h1 X0 k0 k1 k2 hb1 h z0
  have gx := g1.gx; obtain ⟨k0, k1, k2⟩ := gx
  cases hg : grB P Q G with
  | false =>
    have U3 := bel_alloc w1 (.cells (([0, 1, 2, 5, P - 1, P, -1] : List Int).map (Value.int .i64)).toArray 3)
    obtain ⟨hC, hI, hO, hX⟩ := among_lit (w := w1) (t := 3) [0, 1, 2, 5, P - 1, P, -1] hC1 rfl rfl (by simp) (by intro x hx; simp at hx; unfold Fits; omega)
    go_wp2_with fail
    refine (s_among b B K _ 7 7 [0, 1, 2, 5, P - 1, P, -1] _ hC (by omega) hI (by omega) (by omega) hO).mono ?_; rintro e w4 ⟨x, rfl, hx, hC4, hX4⟩
    have hx1 : -20000 ≤ x ∧ x ≤ 20000 := by simp at hx; omega
    go_wp2
    go_ret
    exact ⟨x, rfl, hx1.1, hx1.2, hC4.more (by omega), (X1.trans hX).trans hX4⟩
  | true =>
    obtain ⟨hP, hQ, hG⟩ := grB_lo hg
    go_wp2_with fail
    refine (s_one b B K 16 _ hC1 (by omega) (by omega)).mono ?_; rintro e w2 ⟨q, rfl, hC2, hX2⟩
    have g2 := g1.bex hX2 (by omega)
    have X2 := X1.trans hX2
    have z2 := hX2.size
    clear g1 k0 k1 k2 hC1 X1 hX2
    have gx := g2.gx; obtain ⟨k0, k1, k2⟩ := gx
    cases q with
    | true =>
      have U3 := bel_alloc w2 (.cells (([0, 1, 2, 5, P - 1, P, -1] : List Int).map (Value.int .i64)).toArray 3)
      obtain ⟨hC, hI, hO, hX⟩ := among_lit (w := w2) (t := 3) [0, 1, 2, 5, P - 1, P, -1] hC2 rfl rfl (by simp) (by intro x hx; simp at hx; unfold Fits; omega)
      go_wp2_with fail
      refine (s_among b B (K + 2) _ 7 7 [0, 1, 2, 5, P - 1, P, -1] _ hC (by omega) hI (by omega) (by omega) hO).mono ?_; rintro e w4 ⟨x, rfl, hx, hC4, hX4⟩
      have hx1 : -20000 ≤ x ∧ x ≤ 20000 := by simp at hx; omega
      go_wp2
      go_ret
      exact ⟨x, rfl, hx1.1, hx1.2, hC4, (X2.trans hX).trans hX4⟩
    | false =>
      have hne : w.heap.size ≠ b := by omega
      have HGX := Lib.hid g2.gx
      go_wp2
      go_region_held3 (fun W => W.cell? ⟨w.heap.size, 0, none⟩ = some (.int .i64 P) ∧ W.cell? ⟨w.heap.size, 1, none⟩ = some (.int .i64 Q) ∧ W.cell? ⟨w.heap.size, 2, none⟩ = some (.int .i64 G)) (go_keep) (first | (go_at_call 60; refine (s_pick b B (K + 2) Q _ (hC2.below (bel_drew _)) (by omega) (by omega)).mono ?_; rintro e w5 ⟨r, rfl, hr1, hr2, hC5, hX5⟩; have j0 := hX5.cell (x := .int .i64 P) k0 hne; have j1 := hX5.cell (x := .int .i64 Q) k1 hne; have j2 := hX5.cell (x := .int .i64 G) k2 hne) | (go_at_call 65; refine (s_grTo _ _ _ _ _ _ hP hQ (by omega) (by omega)).mono ?_; rintro e w6 ⟨rfl, hb6⟩; have i0 := cell_on j0 hb6; have i1 := cell_on j1 hb6; have i2 := cell_on j2 hb6))
      all_goals
        have bd := gpw_bd P Q G r (by omega)
        obtain ⟨bd1, bd2⟩ := bd
        go_wp2
        go_ret
        exact ⟨_, rfl, by omega, by omega, hC5.below hb6, ((X2.trans (Bex.of (bel_drew _))).trans hX5).trans (Bex.of hb6)⟩
end Go.Proofs.Ytklgneaamhjfpaa
