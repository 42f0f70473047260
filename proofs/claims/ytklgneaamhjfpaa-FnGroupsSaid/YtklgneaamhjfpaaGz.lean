/-
  More Draw functions over a group.
-/
import Derived.Test.YtklgneaamhjfpaaGy
namespace Go.Proofs.Ytklgneaamhjfpaa
open Go.RowKit
set_option linter.unusedVariables false
set_option linter.unusedSimpArgs false

set_option maxHeartbeats 8000000 in
theorem s_DrawFirstMessage (a : Option Addr) (n cap : Nat) (w : World) (hB : Byts w a n cap) :
    Calls Try.prog 25 #[.slice a n cap] w fun e w' => ∃ P Q G x : Int, e = .returned (.tuple #[.agg #[.int .i64 P, .int .i64 Q, .int .i64 G], .int .i64 x]) ∧ Gd P Q G ∧ Dv x ∧ Below w.heap.size w w' := by
  have A0 := bel_alloc w (.cells #[.int .i64 0, .int .i64 0, .int .i64 0] 24)
  have r0 := Gw.new (w := w) (P := 0) (Q := 0) (G := 0) (t := 24)
  have hB1 := hB.below A0
  have h0 := Cur.new (t := 67) hB1 hB.und (by simp)
  have hs0 : (w.alloc (.cells #[.int .i64 0, .int .i64 0, .int .i64 0] 24)).heap.size = w.heap.size + 1 := by simp
  rw [hs0] at h0
  have A1 := bel_alloc (w.alloc (.cells #[.int .i64 0, .int .i64 0, .int .i64 0] 24)) (.cells #[.slice a n cap, .int .i64 0, .int .u64 0] 67)
  have r1 := r0.on A1
  have B1 := bel_trans A0 A1
  have z1 : ((w.alloc (.cells #[.int .i64 0, .int .i64 0, .int .i64 0] 24)).alloc (.cells #[.slice a n cap, .int .i64 0, .int .u64 0] 67)).heap.size = w.heap.size + 2 := by simp
  go_enter Try.func25, Try.ntmps25
  go_wp2_with fail
  refine (s_secrets (w.heap.size + 1) w.heap.size 0 _ h0 (by omega)).mono ?_; rintro e w1 ⟨P, Q, G, x, y, rfl, hgd, ⟨dx1, dx2⟩, ⟨dy1, dy2⟩, hC1, hX1⟩
  have rr := r1.bex hX1 (by omega)
  have B2 := hX1.belo B1 (by omega)
  have z2 := hX1.size
  rw [z1] at z2
  clear A0 A1 r0 r1 h0 B1 hX1 z1 hs0 hB1
  have A2 := bel_alloc w1 (.cells #[.int .i64 P, .int .i64 Q, .int .i64 G] 24)
  have gg := (Gw.new (w := w1) (P := P) (Q := Q) (G := G) (t := 24)).gx
  obtain ⟨i0, i1, i2⟩ := gg
  have hC2 := hC1.below A2
  have rr2 := rr.on A2
  have B3 := bel_trans B2 A2
  have z3 : (w1.alloc (.cells #[.int .i64 P, .int .i64 Q, .int .i64 G] 24)).heap.size = w1.heap.size + 1 := by simp
  have hne : w1.heap.size ≠ w.heap.size + 1 := by omega
  have hnr : w1.heap.size ≠ w.heap.size := by omega
  have GD := Lib.hid hgd
  clear rr hC1 B2 A2
  have rf := rr2
  obtain ⟨c0, c1, c2, f0, f1, f2⟩ := rr2
  have E := rf.set P Q G
  have E0 := E.c0; have E1 := E.c1; have E2 := E.c2
  go_wp2
  exact bodyPost_ret (v := .tuple #[.agg #[.int .i64 P, .int .i64 Q, .int .i64 G], .int .i64 (x)]) (by simp [results, Try.results25, go_sem, E0, E1, E2]) rfl
    ⟨P, Q, G, x, rfl, hgd, ⟨by omega, by omega⟩, bel_set3 B3 (Nat.le_refl _) _ _ _⟩
set_option maxHeartbeats 2000000 in
theorem s_DrawLogIn (a : Option Addr) (n cap : Nat) (w : World) (hB : Byts w a n cap) :
    Calls Try.prog 35 #[.slice a n cap] w fun e w' => ∃ P Q G u v : Int, e = .returned (.tuple #[.agg #[.int .i64 P, .int .i64 Q, .int .i64 G], .int .i64 u, .int .i64 v]) ∧ Gd P Q G ∧ Dv u ∧ Dv v ∧ Below w.heap.size w w' := by
  have A0 := bel_alloc w (.cells #[.int .i64 0, .int .i64 0, .int .i64 0] 24)
  have r0 := Gw.new (w := w) (P := 0) (Q := 0) (G := 0) (t := 24)
  have hB1 := hB.below A0
  go_enter Try.func35, Try.ntmps35
  go_wp2_with fail
  refine (s_DrawProductIn _ _ _ _ hB1).mono ?_; rintro e w1 ⟨P, Q, G, u, v, rfl, hgd, du, dv, hb1⟩
  have rf := r0.on hb1
  have BF := bel_trans A0 hb1
  have rq := rf
  obtain ⟨c0, c1, c2, f0, f1, f2⟩ := rq
  have E := rf.set P Q G
  have E0 := E.c0; have E1 := E.c1; have E2 := E.c2
  go_wp2
  exact bodyPost_ret (v := .tuple #[.agg #[.int .i64 P, .int .i64 Q, .int .i64 G], .int .i64 (u), .int .i64 (v)]) (by simp [results, Try.results35, go_sem, E0, E1, E2]) rfl
    ⟨P, Q, G, u, v, rfl, hgd, du, dv, bel_set3 BF (Nat.le_refl _) _ _ _⟩
set_option maxHeartbeats 2000000 in
theorem s_DrawGroupFor (a : Option Addr) (n cap : Nat) (w : World) (hB : Byts w a n cap) :
    Calls Try.prog 36 #[.slice a n cap] w fun e w' => ∃ p : Int, e = .returned (.int .i64 p) ∧ Dv p ∧ Below w.heap.size w w' := by
  have hC0 := Cur.new (t := 67) hB hB.und (Nat.le_refl _)
  go_enter Try.func36, Try.ntmps36
  go_wp2_with fail
  refine (s_pick _ _ _ 2005 _ hC0 (by omega) (by omega)).mono ?_; rintro e w1 ⟨r, rfl, hr1, hr2, hC1, hX1⟩
  obtain ⟨hCa, hIa, hOa, hXa⟩ := among_lit (t := 3) [2, 3, 4, 5, 23, 47, 1019, 2003, 2011, 9, 121, -7, (r : Int)] hC1 rfl rfl (by simp) (by intro x hx; simp at hx; unfold Fits; omega)
  go_wp2_with fail
  refine (s_among _ _ _ _ 13 13 [2, 3, 4, 5, 23, 47, 1019, 2003, 2011, 9, 121, -7, (r : Int)] _ hCa (by omega) hIa (by omega) (by omega) hOa).mono ?_; rintro e w2 ⟨k, rfl, hk, hC2, hX2⟩
  go_wp2
  go_ret
  exact ⟨k, rfl, by simp at hk; unfold Dv; omega, bel_new ((hX1.trans hXa).trans hX2)⟩
set_option maxHeartbeats 8000000 in
theorem s_DrawElementFor (a : Option Addr) (n cap : Nat) (w : World) (hB : Byts w a n cap) :
    Calls Try.prog 7 #[.slice a n cap] w fun e w' => ∃ P Q G k : Int, e = .returned (.tuple #[.agg #[.int .i64 P, .int .i64 Q, .int .i64 G], .int .i64 k]) ∧ Gd P Q G ∧ Dv k ∧ Below w.heap.size w w' := by
  have A0 := bel_alloc w (.cells #[.int .i64 0, .int .i64 0, .int .i64 0] 24)
  have r0 := Gw.new (w := w) (P := 0) (Q := 0) (G := 0) (t := 24)
  have hB1 := hB.below A0
  have h0 := Cur.new (t := 67) hB1 hB.und (by simp)
  have hs0 : (w.alloc (.cells #[.int .i64 0, .int .i64 0, .int .i64 0] 24)).heap.size = w.heap.size + 1 := by simp
  rw [hs0] at h0
  have A1 := bel_alloc (w.alloc (.cells #[.int .i64 0, .int .i64 0, .int .i64 0] 24)) (.cells #[.slice a n cap, .int .i64 0, .int .u64 0] 67)
  have r1 := r0.on A1
  have B1 := bel_trans A0 A1
  have z1 : ((w.alloc (.cells #[.int .i64 0, .int .i64 0, .int .i64 0] 24)).alloc (.cells #[.slice a n cap, .int .i64 0, .int .u64 0] 67)).heap.size = w.heap.size + 2 := by simp
  go_enter Try.func7, Try.ntmps7
  go_wp2_with fail
  refine (s_anyGroup (w.heap.size + 1) w.heap.size 0 _ h0 (by omega)).mono ?_; rintro e w1 ⟨P, Q, G, rfl, hgd, hC1, hX1⟩
  have rr := r1.bex hX1 (by omega)
  have B2 := hX1.belo B1 (by omega)
  have z2 := hX1.size
  rw [z1] at z2
  clear A0 A1 r0 r1 h0 B1 hX1 z1 hs0 hB1
  go_wp2_with fail
  refine (s_pick _ _ _ 60000 _ hC1 (by omega) (by omega)).mono ?_; rintro e w2 ⟨r, rfl, hr1, hr2, hC2, hX2⟩
  go_wp2_with fail
  refine (s_pick _ _ _ 60000 _ hC2 (by omega) (by omega)).mono ?_; rintro e w3 ⟨s, rfl, hs1, hs2, hC3, hX3⟩
  obtain ⟨hCa, hIa, hOa, hXa⟩ := among_lit (t := 3) [0, 1, (r : Int), (s : Int), 1000000000, 1000000001, -1] hC3 rfl rfl (by simp) (by intro x hx; simp at hx; unfold Fits; omega)
  go_wp2_with fail
  refine (s_among _ _ _ _ 7 7 [0, 1, (r : Int), (s : Int), 1000000000, 1000000001, -1] _ hCa (by omega) hIa (by omega) (by omega) hOa).mono ?_; rintro e w4 ⟨k, rfl, hk, hC4, hX4⟩
  have XX := ((hX2.trans hX3).trans hXa).trans hX4
  have rf := rr.bex XX (by omega)
  have BF := XX.belo B2 (by omega)
  have rq := rf
  clear rr hX2 hX3 hXa hX4 hCa hIa hOa
  obtain ⟨c0, c1, c2, f0, f1, f2⟩ := rq
  have E := rf.set P Q G
  have E0 := E.c0; have E1 := E.c1; have E2 := E.c2
  go_wp2
  exact bodyPost_ret (v := .tuple #[.agg #[.int .i64 P, .int .i64 Q, .int .i64 G], .int .i64 (k)]) (by simp [results, Try.results7, go_sem, E0, E1, E2]) rfl
    ⟨P, Q, G, k, rfl, hgd, by simp at hk; unfold Dv; omega, bel_set3 BF (Nat.le_refl _) _ _ _⟩
set_option maxHeartbeats 8000000 in
theorem s_DrawIsElement (a : Option Addr) (n cap : Nat) (w : World) (hB : Byts w a n cap) :
    Calls Try.prog 10 #[.slice a n cap] w fun e w' => ∃ P Q G u : Int, e = .returned (.tuple #[.agg #[.int .i64 P, .int .i64 Q, .int .i64 G], .int .i64 u]) ∧ Gd P Q G ∧ Dv u ∧ Below w.heap.size w w' := by
  have A0 := bel_alloc w (.cells #[.int .i64 0, .int .i64 0, .int .i64 0] 24)
  have r0 := Gw.new (w := w) (P := 0) (Q := 0) (G := 0) (t := 24)
  have hB1 := hB.below A0
  have h0 := Cur.new (t := 67) hB1 hB.und (by simp)
  have hs0 : (w.alloc (.cells #[.int .i64 0, .int .i64 0, .int .i64 0] 24)).heap.size = w.heap.size + 1 := by simp
  rw [hs0] at h0
  have A1 := bel_alloc (w.alloc (.cells #[.int .i64 0, .int .i64 0, .int .i64 0] 24)) (.cells #[.slice a n cap, .int .i64 0, .int .u64 0] 67)
  have r1 := r0.on A1
  have B1 := bel_trans A0 A1
  have z1 : ((w.alloc (.cells #[.int .i64 0, .int .i64 0, .int .i64 0] 24)).alloc (.cells #[.slice a n cap, .int .i64 0, .int .u64 0] 67)).heap.size = w.heap.size + 2 := by simp
  go_enter Try.func10, Try.ntmps10
  go_wp2_with fail
  refine (s_anyGroup (w.heap.size + 1) w.heap.size 0 _ h0 (by omega)).mono ?_; rintro e w1 ⟨P, Q, G, rfl, hgd, hC1, hX1⟩
  have rr := r1.bex hX1 (by omega)
  have B2 := hX1.belo B1 (by omega)
  have z2 := hX1.size
  rw [z1] at z2
  clear A0 A1 r0 r1 h0 B1 hX1 z1 hs0 hB1
  have A2 := bel_alloc w1 (.cells #[.int .i64 P, .int .i64 Q, .int .i64 G] 24)
  have gg := (Gw.new (w := w1) (P := P) (Q := Q) (G := G) (t := 24)).gx
  obtain ⟨i0, i1, i2⟩ := gg
  have hC2 := hC1.below A2
  have rr2 := rr.on A2
  have B3 := bel_trans B2 A2
  have z3 : (w1.alloc (.cells #[.int .i64 P, .int .i64 Q, .int .i64 G] 24)).heap.size = w1.heap.size + 1 := by simp
  have hne : w1.heap.size ≠ w.heap.size + 1 := by omega
  have hnr : w1.heap.size ≠ w.heap.size := by omega
  have GD := Lib.hid hgd
  clear rr hC1 B2 A2
  go_wp2_with fail
  refine (s_one _ _ _ 2 _ hC2 (by omega) (by omega)).mono ?_; rintro e w2 ⟨q, rfl, hC3, hX3⟩
  have rr3 := rr2.bex hX3 (by omega)
  have B4 := hX3.belo B3 (by omega)
  replace i0 := hX3.cell i0 hne; replace i1 := hX3.cell i1 hne; replace i2 := hX3.cell i2 hne
  have z4 := hX3.size
  rw [z3] at z4
  clear rr2 B3 hX3 hC2 z3
  cases q with
  | true =>
    go_wp2
    go_region_held3 (fun W => W.cell? ⟨w1.heap.size, 0, none⟩ = some (.int .i64 P) ∧ W.cell? ⟨w1.heap.size, 1, none⟩ = some (.int .i64 Q) ∧ W.cell? ⟨w1.heap.size, 2, none⟩ = some (.int .i64 G)) (first | exact ⟨i0, i1, i2⟩ | exact ⟨far3 i0 hnr, far3 i1 hnr, far3 i2 hnr⟩) (first | (go_at_call 60; refine (s_pick _ _ _ 30 _ (hC3.below (bel_drew _)) (by omega) (by omega)).mono ?_; rintro e w5 ⟨r, rfl, hr1, hr2, hC5, hX5⟩; have ew : IntKind.i64.wrap ((r : Int) - 1) = (r : Int) - 1 := IntWalk.i64_in _ (by omega); have i0 := hX5.cell i0 hne; have i1 := hX5.cell i1 hne; have i2 := hX5.cell i2 hne; have rr4 := (rr3.on (bel_drew _)).bex hX5 (by omega); have rq := rr4; obtain ⟨c0, c1, c2, f0, f1, f2⟩ := rq))
    have rf := rr4
    have BF := hX5.belo (bel_trans B4 (bel_drew _)) (by omega)
    have E := rf.set P Q G
    have E0 := E.c0; have E1 := E.c1; have E2 := E.c2
    go_wp2
    exact bodyPost_ret (v := .tuple #[.agg #[.int .i64 P, .int .i64 Q, .int .i64 G], .int .i64 ((r : Int) - 1)]) (by simp [results, Try.results10, go_sem, E0, E1, E2]) rfl
      ⟨P, Q, G, (r : Int) - 1, rfl, hgd, ⟨by omega, by omega⟩, bel_set3 BF (Nat.le_refl _) _ _ _⟩
  | false =>
    go_wp2
    go_region_held3 (fun W => W.cell? ⟨w1.heap.size, 0, none⟩ = some (.int .i64 P) ∧ W.cell? ⟨w1.heap.size, 1, none⟩ = some (.int .i64 Q) ∧ W.cell? ⟨w1.heap.size, 2, none⟩ = some (.int .i64 G)) (first | exact ⟨i0, i1, i2⟩ | exact ⟨far3 i0 hnr, far3 i1 hnr, far3 i2 hnr⟩) (first | (go_at_call 67; refine (s_elementOf _ _ _ P Q G _ (hC3.below (bel_drew _)) (by omega) GD.out).mono ?_; rintro e w5 ⟨u, rfl, hu1, hu2, hC5, hX5⟩; have i0 := hX5.cell i0 hne; have i1 := hX5.cell i1 hne; have i2 := hX5.cell i2 hne; have rr4 := (rr3.on (bel_drew _)).bex hX5 (by omega); have rq := rr4; obtain ⟨c0, c1, c2, f0, f1, f2⟩ := rq))
    have rf := rr4
    have BF := hX5.belo (bel_trans B4 (bel_drew _)) (by omega)
    have E := rf.set P Q G
    have E0 := E.c0; have E1 := E.c1; have E2 := E.c2
    go_wp2
    exact bodyPost_ret (v := .tuple #[.agg #[.int .i64 P, .int .i64 Q, .int .i64 G], .int .i64 (u)]) (by simp [results, Try.results10, go_sem, E0, E1, E2]) rfl
      ⟨P, Q, G, u, rfl, hgd, ⟨by omega, by omega⟩, bel_set3 BF (Nat.le_refl _) _ _ _⟩
end Go.Proofs.Ytklgneaamhjfpaa
