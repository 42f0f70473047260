/-
  The draws of secrets, first messages, numbers of transfers, messages.
-/
import Derived.Test.YtklgneaamhjfpaaGw
namespace Go.Proofs.Ytklgneaamhjfpaa
open Go.RowKit
set_option linter.unusedVariables false
set_option linter.unusedSimpArgs false

theorem most_1 (x : Int) : ∃ m : Int, (if x < 1 then 1 else x) = m ∧ 1 ≤ m ∧ (x ≤ 20000 → m ≤ 20000) := by
  by_cases h : x < 1
  · exact ⟨1, if_pos h, by omega, by omega⟩
  · exact ⟨x, if_neg h, by omega, by omega⟩
set_option maxHeartbeats 8000000 in
theorem s_secrets (b B K : Nat) (w : World) (h : Cur w b B K) (hK : K ≤ 1000000000) :
    Calls Try.prog 75 #[.pointer (some ⟨b, 0, none⟩)] w fun e w' => ∃ P Q G x y : Int, e = .returned (.tuple #[.agg #[.int .i64 P, .int .i64 Q, .int .i64 G], .int .i64 x, .int .i64 y]) ∧ Gd P Q G ∧ (-20000 ≤ x ∧ x ≤ 20000) ∧ (-20000 ≤ y ∧ y ≤ 20000) ∧ Cur w' b B (K + 14) ∧ Bex b w w' := by
  have A0 := bel_alloc w (.cells #[.int .i64 0, .int .i64 0, .int .i64 0] 24)
  have r0 := Gw.new (w := w) (P := 0) (Q := 0) (G := 0) (t := 24)
  have hlt := h.lt
  have hbase := h.base
  have h1 := h.below A0
  have X0 := Bex.of (b := b) A0
  have z0 : (w.alloc (.cells #[.int .i64 0, .int .i64 0, .int .i64 0] 24)).heap.size = w.heap.size + 1 := by simp
  go_enter Try.func75, Try.ntmps75
  go_wp2_with fail
  refine (s_anyGroup b B K _ h1 (by omega)).mono ?_; rintro e w1 ⟨P, Q, G, rfl, hgd, hC1, hX1⟩
  have r1 := r0.bex hX1 (by omega)
  have X1 := X0.trans hX1
  have z1 := hX1.size
  rw [z0] at z1
  clear A0 r0 h1 X0 z0 hX1 h
  have A2 := bel_alloc w1 (.cells #[.int .i64 P, .int .i64 Q, .int .i64 G] 24)
  have g2 := Gw.new (w := w1) (P := P) (Q := Q) (G := G) (t := 24)
  have r2 := r1.on A2
  have hC2 := hC1.below A2
  have X2 := X1.trans (Bex.of A2)
  clear r1 hC1 X1 A2
  have z2 : (w1.alloc (.cells #[.int .i64 P, .int .i64 Q, .int .i64 G] 24)).heap.size = w1.heap.size + 1 := by simp
  obtain ⟨q1, q2, q3, q4, q5, q6⟩ := hgd
  have e1 : IntKind.i64.wrap (Q - 1) = Q - 1 := IntWalk.i64_in _ (by omega)
  obtain ⟨m1, hm1, m11, m12⟩ := most_1 (Q - 1)
  obtain ⟨m2, hm2, m21, m22⟩ := most_1 Q
  replace m12 := m12 (by omega)
  replace m22 := m22 (by omega)
  have HM1 := Lib.hid hm1; have HM2 := Lib.hid hm2
  clear hm1 hm2
  obtain ⟨k0, k1, k2, _, _, _⟩ := g2
  have hne : w1.heap.size ≠ b := by omega
  have tok : True := trivial
  have tok2 : True := trivial
  go_wp2
  go_region_held3 (fun W => W.cell? ⟨w1.heap.size, 0, none⟩ = some (.int .i64 P) ∧ W.cell? ⟨w1.heap.size, 1, none⟩ = some (.int .i64 Q) ∧ W.cell? ⟨w1.heap.size, 2, none⟩ = some (.int .i64 G)) (go_keep) (first | (go_at_call 118; have t9 := tok; clear tok; refine (s_l1Most 1 (Q - 1) _).mono ?_; rintro e w' ⟨rfl, rfl⟩; rw [HM1.out]) | (go_at_call 118; have t9 := t9; refine (s_l1Most 1 Q _).mono ?_; rintro e w' ⟨rfl, rfl⟩; rw [HM2.out]) | (go_at_call 60; have t8 := tok2; clear tok2; refine (s_pick b B (K + 6) m1 _ (hC2.below (bel_drew _)) (by omega) (by omega)).mono ?_; rintro e w5 ⟨r, rfl, hr1, hr2, hC5, hX5⟩; have j0 := hX5.cell (x := .int .i64 P) k0 hne; have j1 := hX5.cell (x := .int .i64 Q) k1 hne; have j2 := hX5.cell (x := .int .i64 G) k2 hne) | (go_at_call 60; have t8 := t8; refine (s_pick b B (K + 6 + 2) m2 _ hC5 (by omega) (by omega)).mono ?_; rintro e w6 ⟨s, rfl, hs1, hs2, hC6, hX6⟩; have i0 := hX6.cell (x := .int .i64 P) j0 hne; have i1 := hX6.cell (x := .int .i64 Q) j1 hne; have i2 := hX6.cell (x := .int .i64 G) j2 hne))
  have rr := ((r2.on (bel_drew _)).bex hX5 (by omega)).bex hX6 (by omega)
  have X6 := ((X2.trans (Bex.of (bel_drew _))).trans hX5).trans hX6
  have z6 : w1.heap.size + 1 ≤ w6.heap.size := by have h5 := hX5.size; have h6 := hX6.size; have : (w1.alloc (.cells #[.int .i64 P, .int .i64 Q, .int .i64 G] 24)).drew.heap.size = (w1.alloc (.cells #[.int .i64 P, .int .i64 Q, .int .i64 G] 24)).heap.size := rfl; omega
  clear r2 hC2 X2 hX5 hX6 hC5 j0 j1 j2 k0 k1 k2 z2
  have e2 : IntKind.i64.wrap (1 + (r : Int)) = 1 + (r : Int) := IntWalk.i64_in _ (by omega)
  rw [e2]
  obtain ⟨x, hx⟩ : ∃ x : Int, x = 1 + (r : Int) := ⟨_, rfl⟩
  rw [← hx]
  obtain ⟨y, hy⟩ : ∃ y : Int, y = (s : Int) := ⟨_, rfl⟩
  rw [← hy]
  have bx : -20000 ≤ x ∧ x ≤ 20000 := by omega
  have by' : -20000 ≤ y ∧ y ≤ 20000 := by omega
  obtain ⟨bx1, bx2⟩ := bx
  obtain ⟨by1, by2⟩ := by'
  clear e2 hx hy hr1 hr2 hs1 hs2 HM1 HM2
  go_wp2_with fail
  refine (s_pick b B (K + 10) 20 _ hC6 (by omega) (by omega)).mono ?_; rintro e w7 ⟨k, rfl, hk1, hk2, hC7, hX7⟩
  have r7 := rr.bex hX7 (by omega)
  have X7 := X6.trans hX7
  have g0 := hX7.cell i0 hne; have g1 := hX7.cell i1 hne; have g2 := hX7.cell i2 hne
  have z7 := hX7.size
  clear rr X6 hX7 hC6 i0 i1 i2
  have hr : k = 0 ∨ k = 1 ∨ 2 ≤ k := by omega
  rcases hr with rfl | rfl | hr
  · have ig : True := trivial
    obtain ⟨hC, hI, hO, hX⟩ := among_lit (w := w7) (t := 3) [0, Q - 1, Q] hC7 rfl rfl (by simp) (by intro x hx; simp at hx; unfold Fits; omega)
    have U7 := bel_alloc w7 (.cells (([0, Q - 1, Q] : List Int).map (Value.int .i64)).toArray 3)
    have r8 := r7.on U7
    have l0 := cell_on g0 U7; have l1 := cell_on g1 U7; have l2 := cell_on g2 U7
    clear U7
    go_wp2_with fail
    refine (s_among b B (K + 12) _ 3 3 [0, Q - 1, Q] _ hC (by omega) hI (by omega) (by omega) hO).mono ?_; rintro e w8 ⟨z, rfl, hz, hC8, hX8⟩
    have rf := r8.bex hX8 (by omega)
    have p0 := hX8.cell l0 hne; have p1 := hX8.cell l1 hne; have p2 := hX8.cell l2 hne
    have Xf := (X7.trans hX).trans hX8
    have hz1 : -20000 ≤ z ∧ z ≤ 20000 := by simp at hz; omega
    obtain ⟨hz1, hz2⟩ := hz1
    clear hC hI hO hX hX8 hz r7 r8 X7 hC7 l0 l1 l2 g0 g1 g2
    have E := rf.set P Q G
    have E0 := E.c0; have E1 := E.c1; have E2 := E.c2
    obtain ⟨c0, c1, c2, f0, f1, f2⟩ := rf
    go_wp2
    exact bodyPost_ret (v := .tuple #[.agg #[.int .i64 P, .int .i64 Q, .int .i64 G], .int .i64 z, .int .i64 y]) (by simp [results, Try.results75, go_sem, E0, E1, E2]) rfl
      ⟨P, Q, G, z, y, rfl, ⟨q1, q2, q3, q4, q5, q6⟩, ⟨by omega, by omega⟩, ⟨by omega, by omega⟩, (((hC8.store (by dsimp only; omega) (by dsimp only; omega)).store (by dsimp only; omega) (by dsimp only; omega)).store (by dsimp only; omega) (by dsimp only; omega)).more (by omega), ((Xf.store (by dsimp only; omega) _).store (by dsimp only; omega) _).store (by dsimp only; omega) _⟩
  · have ig : True := trivial
    obtain ⟨hC, hI, hO, hX⟩ := among_lit (w := w7) (t := 3) [-1, 0, Q - 1, Q] hC7 rfl rfl (by simp) (by intro x hx; simp at hx; unfold Fits; omega)
    have U7 := bel_alloc w7 (.cells (([-1, 0, Q - 1, Q] : List Int).map (Value.int .i64)).toArray 3)
    have r8 := r7.on U7
    have l0 := cell_on g0 U7; have l1 := cell_on g1 U7; have l2 := cell_on g2 U7
    clear U7
    go_wp2_with fail
    refine (s_among b B (K + 12) _ 4 4 [-1, 0, Q - 1, Q] _ hC (by omega) hI (by omega) (by omega) hO).mono ?_; rintro e w8 ⟨z, rfl, hz, hC8, hX8⟩
    have rf := r8.bex hX8 (by omega)
    have p0 := hX8.cell l0 hne; have p1 := hX8.cell l1 hne; have p2 := hX8.cell l2 hne
    have Xf := (X7.trans hX).trans hX8
    have hz1 : -20000 ≤ z ∧ z ≤ 20000 := by simp at hz; omega
    obtain ⟨hz1, hz2⟩ := hz1
    clear hC hI hO hX hX8 hz r7 r8 X7 hC7 l0 l1 l2 g0 g1 g2
    have E := rf.set P Q G
    have E0 := E.c0; have E1 := E.c1; have E2 := E.c2
    obtain ⟨c0, c1, c2, f0, f1, f2⟩ := rf
    go_wp2
    exact bodyPost_ret (v := .tuple #[.agg #[.int .i64 P, .int .i64 Q, .int .i64 G], .int .i64 x, .int .i64 z]) (by simp [results, Try.results75, go_sem, E0, E1, E2]) rfl
      ⟨P, Q, G, x, z, rfl, ⟨q1, q2, q3, q4, q5, q6⟩, ⟨by omega, by omega⟩, ⟨by omega, by omega⟩, (((hC8.store (by dsimp only; omega) (by dsimp only; omega)).store (by dsimp only; omega) (by dsimp only; omega)).store (by dsimp only; omega) (by dsimp only; omega)).more (by omega), ((Xf.store (by dsimp only; omega) _).store (by dsimp only; omega) _).store (by dsimp only; omega) _⟩
  · have n0 : ¬ (k : Int) = 0 := by omega
    have n1 : ¬ (k : Int) = 1 := by omega
    have rf := r7
    clear r7
    have E := rf.set P Q G
    have E0 := E.c0; have E1 := E.c1; have E2 := E.c2
    obtain ⟨c0, c1, c2, f0, f1, f2⟩ := rf
    go_wp2
    exact bodyPost_ret (v := .tuple #[.agg #[.int .i64 P, .int .i64 Q, .int .i64 G], .int .i64 x, .int .i64 y]) (by simp [results, Try.results75, go_sem, E0, E1, E2]) rfl
      ⟨P, Q, G, x, y, rfl, ⟨q1, q2, q3, q4, q5, q6⟩, ⟨by omega, by omega⟩, ⟨by omega, by omega⟩, (((hC7.store (by dsimp only; omega) (by dsimp only; omega)).store (by dsimp only; omega) (by dsimp only; omega)).store (by dsimp only; omega) (by dsimp only; omega)).more (by omega), ((X7.store (by dsimp only; omega) _).store (by dsimp only; omega) _).store (by dsimp only; omega) _⟩
set_option maxHeartbeats 2000000 in
theorem s_safeFirst (P Q G a : Int) (w : World) :
    Calls Try.prog 76 #[.agg #[.int .i64 P, .int .i64 Q, .int .i64 G], .int .i64 a] w fun e w' => ∃ x : Int, e = .returned (.int .i64 x) ∧ (-20000 ≤ x ∧ x ≤ 20000) ∧ Below w.heap.size w w' := by
  have A0 := bel_alloc w (.cells #[.int .i64 P, .int .i64 Q, .int .i64 G] 24)
  have g0 := (Gw.new (w := w) (P := P) (Q := Q) (G := G) (t := 24)).gx
  obtain ⟨k0, k1, k2⟩ := g0
  go_enter Try.func76, Try.ntmps76
  go_wp2_with fail
  refine (s_otSender P Q G a _).mono ?_; rintro e w1 ⟨rfl, hb1⟩
  have j0 := cell_on k0 hb1; have j1 := cell_on k1 hb1; have j2 := cell_on k2 hb1
  have B1 := bel_trans A0 hb1
  clear k0 k1 k2 A0 hb1
  cases hs : (grB P Q G && inB a 1 (Q - 1)) with
  | false =>
    go_wp2
    go_ret
    exact ⟨1, rfl, ⟨by omega, by omega⟩, B1⟩
  | true =>
    obtain ⟨hg, ha⟩ := Bool.and_eq_true_iff.1 hs
    obtain ⟨hP, hQ, hG⟩ := grB_lo hg
    obtain ⟨a1, a2⟩ := inB_iff.1 ha
    have bd := gpw_bd P Q G a (by omega)
    obtain ⟨bd1, bd2⟩ := bd
    go_wp2_with fail
    refine (s_grTo P Q G G a _ hP hQ (by omega) (by omega)).mono ?_; rintro e w2 ⟨rfl, hb2⟩
    go_wp2
    go_ret
    exact ⟨_, rfl, ⟨by omega, by omega⟩, bel_trans B1 hb2⟩
set_option maxHeartbeats 1000000 in
theorem s_transfer (b B K : Nat) (w : World) (h : Cur w b B K) (hK : K ≤ 10000000000) :
    Calls Try.prog 77 #[.pointer (some ⟨b, 0, none⟩)] w fun e w' => ∃ x : Int, e = .returned (.int .i64 x) ∧ Dr x ∧ Cur w' b B (K + 4) ∧ Bex b w w' := by
  go_enter Try.func77, Try.ntmps77
  go_wp2_with fail
  refine (s_pick b B K 40 _ h (by omega) (by omega)).mono ?_; rintro e w1 ⟨r, rfl, hr1, hr2, hC, hX⟩
  obtain ⟨hC1, hI1, hO1, hX1⟩ := among_lit (t := 3) [0, 1, (r : Int), 39, 40, -1] hC rfl rfl (by simp) (by intro x hx; simp at hx; unfold Fits; omega)
  go_wp2_with fail
  refine (s_among b B (K + 2) _ 6 6 [0, 1, (r : Int), 39, 40, -1] _ hC1 (by omega) hI1 (by omega) (by omega) hO1).mono ?_; rintro e w2 ⟨x, rfl, hx, hC2, hX2⟩
  go_wp2
  go_ret
  exact ⟨_, rfl, by simp at hx; unfold Dr; omega, hC2, (hX.trans hX1).trans hX2⟩
set_option maxHeartbeats 1000000 in
theorem s_letter (b B K : Nat) (w : World) (h : Cur w b B K) (hK : K ≤ 10000000000) :
    Calls Try.prog 78 #[.pointer (some ⟨b, 0, none⟩)] w fun e w' => ∃ x : Int, e = .returned (.int .i64 x) ∧ Dr x ∧ Cur w' b B (K + 4) ∧ Bex b w w' := by
  go_enter Try.func78, Try.ntmps78
  go_wp2_with fail
  refine (s_pick b B K 60000 _ h (by omega) (by omega)).mono ?_; rintro e w1 ⟨r, rfl, hr1, hr2, hC, hX⟩
  obtain ⟨hC1, hI1, hO1, hX1⟩ := among_lit (t := 3) [0, 1, (r : Int), 65535, 65536, -1] hC rfl rfl (by simp) (by intro x hx; simp at hx; unfold Fits; omega)
  go_wp2_with fail
  refine (s_among b B (K + 2) _ 6 6 [0, 1, (r : Int), 65535, 65536, -1] _ hC1 (by omega) hI1 (by omega) (by omega) hO1).mono ?_; rintro e w2 ⟨x, rfl, hx, hC2, hX2⟩
  go_wp2
  go_ret
  exact ⟨_, rfl, by simp at hx; unfold Dr; omega, hC2, (hX.trans hX1).trans hX2⟩
end Go.Proofs.Ytklgneaamhjfpaa
