/-
  The Draw functions over a group: what they hand back is in bounds.
-/
import Derived.Test.YtklgneaamhjfpaaGx
namespace Go.Proofs.Ytklgneaamhjfpaa
open Go.RowKit
set_option linter.unusedVariables false
set_option linter.unusedSimpArgs false

/-- A number that was drawn, widely. -/
def Dv (x : Int) : Prop := -10000000000 ≤ x ∧ x ≤ 10000000000
theorem Dv.fits {x : Int} (h : Dv x) : Fits x := by unfold Dv at h; unfold Fits; omega
theorem Bex.belo {b : Nat} {w w' w0 : World} (k : Bex b w w') (h : Below w0.heap.size w0 w) (hb : w0.heap.size ≤ b) : Below w0.heap.size w0 w' := Below.bex h k hb h.size
theorem far3 {w : World} {b o g : Nat} {u v z x : Value} (h : w.cell? ⟨b, o, none⟩ = some x) (hne : b ≠ g) : (((w.setCell ⟨g, 0, none⟩ u).setCell ⟨g, 1, none⟩ v).setCell ⟨g, 2, none⟩ z).cell? ⟨b, o, none⟩ = some x :=
  (World.cell?_setCell_other _ _ _ _ (fun e => hne (by injection e with e1; exact e1.symm))).trans ((World.cell?_setCell_other _ _ _ _ (fun e => hne (by injection e with e1; exact e1.symm))).trans ((World.cell?_setCell_other _ _ _ _ (fun e => hne (by injection e with e1; exact e1.symm))).trans h))

set_option maxHeartbeats 8000000 in
theorem s_DrawInverseIn (a : Option Addr) (n cap : Nat) (w : World) (hB : Byts w a n cap) :
    Calls Try.prog 13 #[.slice a n cap] w fun e w' => ∃ P Q G u : Int, e = .returned (.tuple #[.agg #[.int .i64 P, .int .i64 Q, .int .i64 G], .int .i64 u]) ∧ Gd P Q G ∧ Dv u ∧ Below w.heap.size w w' := by
  have A0 := bel_alloc w (.cells #[.int .i64 0, .int .i64 0, .int .i64 0] 24)
  have r0 := Gw.new (w := w) (P := 0) (Q := 0) (G := 0) (t := 24)
  have hB1 := hB.below A0
  have h0 := Cur.new (t := 67) hB1 hB.und (by simp)
  have hs0 : (w.alloc (.cells #[.int .i64 0, .int .i64 0, .int .i64 0] 24)).heap.size = w.heap.size + 1 := by simp
  rw [hs0] at h0
  have A1 := bel_alloc (w.alloc (.cells #[.int .i64 0, .int .i64 0, .int .i64 0] 24)) (.cells #[.slice a n cap, .int .i64 0, .int .u64 0] 67)
  have r1 := r0.on A1
  have B1 := bel_trans A0 A1
  have z1 : ((w.alloc (.cells #[.int .i64 0, .int .i64 0, .int .i64 0] 24)).alloc (.cells #[.slice a n cap, .int .i64 0, .int .u64 0] 67)).heap.size = w.heap.size + 2 := by simp
  go_enter Try.func13, Try.ntmps13
  go_wp2_with fail
  refine (s_anyGroup (w.heap.size + 1) w.heap.size 0 _ h0 (by omega)).mono ?_; rintro e w1 ⟨P, Q, G, rfl, hgd, hC1, hX1⟩
  have rr := r1.bex hX1 (by omega)
  have B2 := hX1.belo B1 (by omega)
  have z2 := hX1.size
  rw [z1] at z2
  clear A0 A1 r0 r1 h0 B1 hX1 z1 hs0 hB1
  have A2 := bel_alloc w1 (.cells #[.int .i64 P, .int .i64 Q, .int .i64 G] 24)
  have gg := (Gw.new (w := w1) (P := P) (Q := Q) (G := G) (t := 24)).gx
  obtain ⟨i0, i1, i2⟩ := gg
  have hC2 := hC1.below A2
  have rr2 := rr.on A2
  have B3 := bel_trans B2 A2
  have z3 : (w1.alloc (.cells #[.int .i64 P, .int .i64 Q, .int .i64 G] 24)).heap.size = w1.heap.size + 1 := by simp
  have hne : w1.heap.size ≠ w.heap.size + 1 := by omega
  have hnr : w1.heap.size ≠ w.heap.size := by omega
  have GD := Lib.hid hgd
  clear rr hC1 B2 A2
  have tk0 : True := trivial
  go_wp2
  go_region_held3 (fun W => W.cell? ⟨w1.heap.size, 0, none⟩ = some (.int .i64 P) ∧ W.cell? ⟨w1.heap.size, 1, none⟩ = some (.int .i64 Q) ∧ W.cell? ⟨w1.heap.size, 2, none⟩ = some (.int .i64 G)) (first | exact ⟨i0, i1, i2⟩ | exact ⟨far3 i0 hnr, far3 i1 hnr, far3 i2 hnr⟩) (first | (go_at_call 67; have t_ := tk0; clear tk0; refine (s_elementOf _ _ _ P Q G _ (hC2.below (bel_drew _)) (by omega) GD.out).mono ?_; rintro e w10 ⟨u, rfl, hu1, hu2, hC10, hX10⟩; have i0 := hX10.cell i0 hne; have i1 := hX10.cell i1 hne; have i2 := hX10.cell i2 hne; have rr2 := (rr2.on (bel_drew _)).bex hX10 (by omega); have rq := rr2; obtain ⟨c0, c1, c2, f0, f1, f2⟩ := rq))
  have rf := rr2
  have BF := (hX10.belo (bel_trans B3 (bel_drew _)) (by omega))
  have E := rf.set P Q G
  have E0 := E.c0; have E1 := E.c1; have E2 := E.c2
  go_wp2
  exact bodyPost_ret (v := .tuple #[.agg #[.int .i64 P, .int .i64 Q, .int .i64 G], .int .i64 (u)]) (by simp [results, Try.results13, go_sem, E0, E1, E2]) rfl
    ⟨P, Q, G, u, rfl, GD.out, ⟨by omega, by omega⟩, bel_set3 BF (Nat.le_refl _) _ _ _⟩
set_option maxHeartbeats 8000000 in
theorem s_DrawProductIn (a : Option Addr) (n cap : Nat) (w : World) (hB : Byts w a n cap) :
    Calls Try.prog 95 #[.slice a n cap] w fun e w' => ∃ P Q G u v : Int, e = .returned (.tuple #[.agg #[.int .i64 P, .int .i64 Q, .int .i64 G], .int .i64 u, .int .i64 v]) ∧ Gd P Q G ∧ Dv u ∧ Dv v ∧ Below w.heap.size w w' := by
  have A0 := bel_alloc w (.cells #[.int .i64 0, .int .i64 0, .int .i64 0] 24)
  have r0 := Gw.new (w := w) (P := 0) (Q := 0) (G := 0) (t := 24)
  have hB1 := hB.below A0
  have h0 := Cur.new (t := 67) hB1 hB.und (by simp)
  have hs0 : (w.alloc (.cells #[.int .i64 0, .int .i64 0, .int .i64 0] 24)).heap.size = w.heap.size + 1 := by simp
  rw [hs0] at h0
  have A1 := bel_alloc (w.alloc (.cells #[.int .i64 0, .int .i64 0, .int .i64 0] 24)) (.cells #[.slice a n cap, .int .i64 0, .int .u64 0] 67)
  have r1 := r0.on A1
  have B1 := bel_trans A0 A1
  have z1 : ((w.alloc (.cells #[.int .i64 0, .int .i64 0, .int .i64 0] 24)).alloc (.cells #[.slice a n cap, .int .i64 0, .int .u64 0] 67)).heap.size = w.heap.size + 2 := by simp
  go_enter Try.func95, Try.ntmps95
  go_wp2_with fail
  refine (s_anyGroup (w.heap.size + 1) w.heap.size 0 _ h0 (by omega)).mono ?_; rintro e w1 ⟨P, Q, G, rfl, hgd, hC1, hX1⟩
  have rr := r1.bex hX1 (by omega)
  have B2 := hX1.belo B1 (by omega)
  have z2 := hX1.size
  rw [z1] at z2
  clear A0 A1 r0 r1 h0 B1 hX1 z1 hs0 hB1
  have A2 := bel_alloc w1 (.cells #[.int .i64 P, .int .i64 Q, .int .i64 G] 24)
  have gg := (Gw.new (w := w1) (P := P) (Q := Q) (G := G) (t := 24)).gx
  obtain ⟨i0, i1, i2⟩ := gg
  have hC2 := hC1.below A2
  have rr2 := rr.on A2
  have B3 := bel_trans B2 A2
  have z3 : (w1.alloc (.cells #[.int .i64 P, .int .i64 Q, .int .i64 G] 24)).heap.size = w1.heap.size + 1 := by simp
  have hne : w1.heap.size ≠ w.heap.size + 1 := by omega
  have hnr : w1.heap.size ≠ w.heap.size := by omega
  have GD := Lib.hid hgd
  clear rr hC1 B2 A2
  have tk0 : True := trivial
  have tk1 : True := trivial
  go_wp2
  go_region_held3 (fun W => W.cell? ⟨w1.heap.size, 0, none⟩ = some (.int .i64 P) ∧ W.cell? ⟨w1.heap.size, 1, none⟩ = some (.int .i64 Q) ∧ W.cell? ⟨w1.heap.size, 2, none⟩ = some (.int .i64 G)) (first | exact ⟨i0, i1, i2⟩ | exact ⟨far3 i0 hnr, far3 i1 hnr, far3 i2 hnr⟩) (first | (go_at_call 67; have t_ := tk0; clear tk0; refine (s_elementOf _ _ _ P Q G _ (hC2.below (bel_drew _)) (by omega) GD.out).mono ?_; rintro e w10 ⟨u, rfl, hu1, hu2, hC10, hX10⟩; have i0 := hX10.cell i0 hne; have i1 := hX10.cell i1 hne; have i2 := hX10.cell i2 hne; have rr2 := (rr2.on (bel_drew _)).bex hX10 (by omega); have rq := rr2; obtain ⟨c0, c1, c2, f0, f1, f2⟩ := rq) | (go_at_call 67; have t_ := tk1; clear tk1; refine (s_elementOf _ _ _ P Q G _ hC10 (by omega) GD.out).mono ?_; rintro e w11 ⟨v, rfl, hv1, hv2, hC11, hX11⟩; have i0 := hX11.cell i0 hne; have i1 := hX11.cell i1 hne; have i2 := hX11.cell i2 hne; have rr2 := rr2.bex hX11 (by omega); have rq := rr2; obtain ⟨c0, c1, c2, f0, f1, f2⟩ := rq))
  have rf := rr2
  have BF := (hX11.belo (hX10.belo (bel_trans B3 (bel_drew _)) (by omega)) (by omega))
  have E := rf.set P Q G
  have E0 := E.c0; have E1 := E.c1; have E2 := E.c2
  go_wp2
  exact bodyPost_ret (v := .tuple #[.agg #[.int .i64 P, .int .i64 Q, .int .i64 G], .int .i64 (u), .int .i64 (v)]) (by simp [results, Try.results95, go_sem, E0, E1, E2]) rfl
    ⟨P, Q, G, u, v, rfl, GD.out, ⟨by omega, by omega⟩, ⟨by omega, by omega⟩, bel_set3 BF (Nat.le_refl _) _ _ _⟩
set_option maxHeartbeats 8000000 in
theorem s_DrawPowerIn (a : Option Addr) (n cap : Nat) (w : World) (hB : Byts w a n cap) :
    Calls Try.prog 39 #[.slice a n cap] w fun e w' => ∃ P Q G u k : Int, e = .returned (.tuple #[.agg #[.int .i64 P, .int .i64 Q, .int .i64 G], .int .i64 u, .int .i64 k]) ∧ Gd P Q G ∧ Dv u ∧ Dv k ∧ Below w.heap.size w w' := by
  have A0 := bel_alloc w (.cells #[.int .i64 0, .int .i64 0, .int .i64 0] 24)
  have r0 := Gw.new (w := w) (P := 0) (Q := 0) (G := 0) (t := 24)
  have hB1 := hB.below A0
  have h0 := Cur.new (t := 67) hB1 hB.und (by simp)
  have hs0 : (w.alloc (.cells #[.int .i64 0, .int .i64 0, .int .i64 0] 24)).heap.size = w.heap.size + 1 := by simp
  rw [hs0] at h0
  have A1 := bel_alloc (w.alloc (.cells #[.int .i64 0, .int .i64 0, .int .i64 0] 24)) (.cells #[.slice a n cap, .int .i64 0, .int .u64 0] 67)
  have r1 := r0.on A1
  have B1 := bel_trans A0 A1
  have z1 : ((w.alloc (.cells #[.int .i64 0, .int .i64 0, .int .i64 0] 24)).alloc (.cells #[.slice a n cap, .int .i64 0, .int .u64 0] 67)).heap.size = w.heap.size + 2 := by simp
  go_enter Try.func39, Try.ntmps39
  go_wp2_with fail
  refine (s_anyGroup (w.heap.size + 1) w.heap.size 0 _ h0 (by omega)).mono ?_; rintro e w1 ⟨P, Q, G, rfl, hgd, hC1, hX1⟩
  have rr := r1.bex hX1 (by omega)
  have B2 := hX1.belo B1 (by omega)
  have z2 := hX1.size
  rw [z1] at z2
  clear A0 A1 r0 r1 h0 B1 hX1 z1 hs0 hB1
  have A2 := bel_alloc w1 (.cells #[.int .i64 P, .int .i64 Q, .int .i64 G] 24)
  have gg := (Gw.new (w := w1) (P := P) (Q := Q) (G := G) (t := 24)).gx
  obtain ⟨i0, i1, i2⟩ := gg
  have hC2 := hC1.below A2
  have rr2 := rr.on A2
  have B3 := bel_trans B2 A2
  have z3 : (w1.alloc (.cells #[.int .i64 P, .int .i64 Q, .int .i64 G] 24)).heap.size = w1.heap.size + 1 := by simp
  have hne : w1.heap.size ≠ w.heap.size + 1 := by omega
  have hnr : w1.heap.size ≠ w.heap.size := by omega
  have GD := Lib.hid hgd
  clear rr hC1 B2 A2
  have tk0 : True := trivial
  have tk1 : True := trivial
  have tk2 : True := trivial
  go_wp2
  go_region_held3 (fun W => W.cell? ⟨w1.heap.size, 0, none⟩ = some (.int .i64 P) ∧ W.cell? ⟨w1.heap.size, 1, none⟩ = some (.int .i64 Q) ∧ W.cell? ⟨w1.heap.size, 2, none⟩ = some (.int .i64 G)) (first | exact ⟨i0, i1, i2⟩ | exact ⟨far3 i0 hnr, far3 i1 hnr, far3 i2 hnr⟩ | exact ⟨cell_on i0 (bel_alloc _ _), cell_on i1 (bel_alloc _ _), cell_on i2 (bel_alloc _ _)⟩) (first | (go_at_call 67; have t_ := tk0; clear tk0; refine (s_elementOf _ _ _ P Q G _ (hC2.below (bel_drew _)) (by omega) GD.out).mono ?_; rintro e w10 ⟨u, rfl, hu1, hu2, hC10, hX10⟩; have i0 := hX10.cell i0 hne; have i1 := hX10.cell i1 hne; have i2 := hX10.cell i2 hne; have rr2 := (rr2.on (bel_drew _)).bex hX10 (by omega); have rq := rr2; obtain ⟨c0, c1, c2, f0, f1, f2⟩ := rq) | (go_at_call 60; have t_ := tk1; clear tk1; refine (s_pick _ _ _ 3000 _ hC10 (by omega) (by omega)).mono ?_; rintro e w11 ⟨r, rfl, hr1, hr2, hC11, hX11⟩; have i0 := hX11.cell i0 hne; have i1 := hX11.cell i1 hne; have i2 := hX11.cell i2 hne; have rr2 := rr2.bex hX11 (by omega); have rq := rr2; obtain ⟨c0, c1, c2, f0, f1, f2⟩ := rq; have ew : IntKind.i64.wrap ((r : Int) - 1500) = (r : Int) - 1500 := IntWalk.i64_in _ (by omega)) | (go_at_call 59; have t_ := tk2; clear tk2; obtain ⟨hCa, hIa, hOa, hXa⟩ := among_lit (w := w11) (t := 3) [0, 1, -1, 2, (r : Int) - 1500, 1000000, -1000000, 1000001] hC11 rfl rfl (by simp) (by intro x hx; simp at hx; unfold Fits; omega); refine (s_among _ _ _ _ 8 8 [0, 1, -1, 2, (r : Int) - 1500, 1000000, -1000000, 1000001] _ hCa (by omega) hIa (by omega) (by omega) hOa).mono ?_; rintro e w12 ⟨k, rfl, hk, hC12, hX_⟩; have hX12 := hXa.trans hX_; have i0 := hX12.cell i0 hne; have i1 := hX12.cell i1 hne; have i2 := hX12.cell i2 hne; have rr2 := rr2.bex hX12 (by omega); have rq := rr2; obtain ⟨c0, c1, c2, f0, f1, f2⟩ := rq))
  have rf := rr2
  have BF := (hX12.belo (hX11.belo (hX10.belo (bel_trans B3 (bel_drew _)) (by omega)) (by omega)) (by omega))
  have E := rf.set P Q G
  have E0 := E.c0; have E1 := E.c1; have E2 := E.c2
  go_wp2
  exact bodyPost_ret (v := .tuple #[.agg #[.int .i64 P, .int .i64 Q, .int .i64 G], .int .i64 (u), .int .i64 (k)]) (by simp [results, Try.results39, go_sem, E0, E1, E2]) rfl
    ⟨P, Q, G, u, k, rfl, GD.out, ⟨by omega, by omega⟩, by simp at hk; unfold Dv; omega, bel_set3 BF (Nat.le_refl _) _ _ _⟩
set_option maxHeartbeats 8000000 in
theorem s_DrawAnswerWays (a : Option Addr) (n cap : Nat) (w : World) (hB : Byts w a n cap) :
    Calls Try.prog 22 #[.slice a n cap] w fun e w' => ∃ P Q G f u : Int, e = .returned (.tuple #[.agg #[.int .i64 P, .int .i64 Q, .int .i64 G], .int .i64 f, .int .i64 u]) ∧ Gd P Q G ∧ Dv f ∧ Dv u ∧ Below w.heap.size w w' := by
  have A0 := bel_alloc w (.cells #[.int .i64 0, .int .i64 0, .int .i64 0] 24)
  have r0 := Gw.new (w := w) (P := 0) (Q := 0) (G := 0) (t := 24)
  have hB1 := hB.below A0
  have h0 := Cur.new (t := 67) hB1 hB.und (by simp)
  have hs0 : (w.alloc (.cells #[.int .i64 0, .int .i64 0, .int .i64 0] 24)).heap.size = w.heap.size + 1 := by simp
  rw [hs0] at h0
  have A1 := bel_alloc (w.alloc (.cells #[.int .i64 0, .int .i64 0, .int .i64 0] 24)) (.cells #[.slice a n cap, .int .i64 0, .int .u64 0] 67)
  have r1 := r0.on A1
  have B1 := bel_trans A0 A1
  have z1 : ((w.alloc (.cells #[.int .i64 0, .int .i64 0, .int .i64 0] 24)).alloc (.cells #[.slice a n cap, .int .i64 0, .int .u64 0] 67)).heap.size = w.heap.size + 2 := by simp
  go_enter Try.func22, Try.ntmps22
  go_wp2_with fail
  refine (s_secrets (w.heap.size + 1) w.heap.size 0 _ h0 (by omega)).mono ?_; rintro e w1 ⟨P, Q, G, x, y, rfl, hgd, ⟨dx1, dx2⟩, ⟨dy1, dy2⟩, hC1, hX1⟩
  have rr := r1.bex hX1 (by omega)
  have B2 := hX1.belo B1 (by omega)
  have z2 := hX1.size
  rw [z1] at z2
  clear A0 A1 r0 r1 h0 B1 hX1 z1 hs0 hB1
  have A2 := bel_alloc w1 (.cells #[.int .i64 P, .int .i64 Q, .int .i64 G] 24)
  have gg := (Gw.new (w := w1) (P := P) (Q := Q) (G := G) (t := 24)).gx
  obtain ⟨i0, i1, i2⟩ := gg
  have hC2 := hC1.below A2
  have rr2 := rr.on A2
  have B3 := bel_trans B2 A2
  have z3 : (w1.alloc (.cells #[.int .i64 P, .int .i64 Q, .int .i64 G] 24)).heap.size = w1.heap.size + 1 := by simp
  have hne : w1.heap.size ≠ w.heap.size + 1 := by omega
  have hnr : w1.heap.size ≠ w.heap.size := by omega
  have GD := Lib.hid hgd
  clear rr hC1 B2 A2
  have tk0 : True := trivial
  have tk1 : True := trivial
  go_wp2
  go_region_held3 (fun W => W.cell? ⟨w1.heap.size, 0, none⟩ = some (.int .i64 P) ∧ W.cell? ⟨w1.heap.size, 1, none⟩ = some (.int .i64 Q) ∧ W.cell? ⟨w1.heap.size, 2, none⟩ = some (.int .i64 G)) (first | exact ⟨i0, i1, i2⟩ | exact ⟨far3 i0 hnr, far3 i1 hnr, far3 i2 hnr⟩) (first | (go_at_call 76; have t_ := tk0; clear tk0; refine (s_safeFirst P Q G x _).mono ?_; rintro e w10 ⟨f, rfl, ⟨hf1, hf2⟩, hb10⟩; have hC10 := (hC2.below (bel_drew _)).below hb10; have hX10 := Bex.of (b := w.heap.size + 1) hb10; have i0 := hX10.cell i0 hne; have i1 := hX10.cell i1 hne; have i2 := hX10.cell i2 hne; have rr2 := (rr2.on (bel_drew _)).bex hX10 (by omega); have rq := rr2; obtain ⟨c0, c1, c2, f0, f1, f2⟩ := rq) | (go_at_call 67; have t_ := tk1; clear tk1; refine (s_elementOf _ _ _ P Q G _ hC10 (by omega) GD.out).mono ?_; rintro e w11 ⟨u, rfl, hu1, hu2, hC11, hX11⟩; have i0 := hX11.cell i0 hne; have i1 := hX11.cell i1 hne; have i2 := hX11.cell i2 hne; have rr2 := rr2.bex hX11 (by omega); have rq := rr2; obtain ⟨c0, c1, c2, f0, f1, f2⟩ := rq))
  have rf := rr2
  have BF := (hX11.belo (hX10.belo (bel_trans B3 (bel_drew _)) (by omega)) (by omega))
  have E := rf.set P Q G
  have E0 := E.c0; have E1 := E.c1; have E2 := E.c2
  go_wp2
  exact bodyPost_ret (v := .tuple #[.agg #[.int .i64 P, .int .i64 Q, .int .i64 G], .int .i64 (f), .int .i64 (u)]) (by simp [results, Try.results22, go_sem, E0, E1, E2]) rfl
    ⟨P, Q, G, f, u, rfl, GD.out, ⟨by omega, by omega⟩, ⟨by omega, by omega⟩, bel_set3 BF (Nat.le_refl _) _ _ _⟩
set_option maxHeartbeats 8000000 in
theorem s_DrawChosenPad (a : Option Addr) (n cap : Nat) (w : World) (hB : Byts w a n cap) :
    Calls Try.prog 56 #[.slice a n cap] w fun e w' => ∃ P Q G f y i : Int, e = .returned (.tuple #[.agg #[.int .i64 P, .int .i64 Q, .int .i64 G], .int .i64 f, .int .i64 y, .int .i64 i]) ∧ Gd P Q G ∧ Dv f ∧ Dv y ∧ Dv i ∧ Below w.heap.size w w' := by
  have A0 := bel_alloc w (.cells #[.int .i64 0, .int .i64 0, .int .i64 0] 24)
  have r0 := Gw.new (w := w) (P := 0) (Q := 0) (G := 0) (t := 24)
  have hB1 := hB.below A0
  have h0 := Cur.new (t := 67) hB1 hB.und (by simp)
  have hs0 : (w.alloc (.cells #[.int .i64 0, .int .i64 0, .int .i64 0] 24)).heap.size = w.heap.size + 1 := by simp
  rw [hs0] at h0
  have A1 := bel_alloc (w.alloc (.cells #[.int .i64 0, .int .i64 0, .int .i64 0] 24)) (.cells #[.slice a n cap, .int .i64 0, .int .u64 0] 67)
  have r1 := r0.on A1
  have B1 := bel_trans A0 A1
  have z1 : ((w.alloc (.cells #[.int .i64 0, .int .i64 0, .int .i64 0] 24)).alloc (.cells #[.slice a n cap, .int .i64 0, .int .u64 0] 67)).heap.size = w.heap.size + 2 := by simp
  go_enter Try.func56, Try.ntmps56
  go_wp2_with fail
  refine (s_secrets (w.heap.size + 1) w.heap.size 0 _ h0 (by omega)).mono ?_; rintro e w1 ⟨P, Q, G, x, y, rfl, hgd, ⟨dx1, dx2⟩, ⟨dy1, dy2⟩, hC1, hX1⟩
  have rr := r1.bex hX1 (by omega)
  have B2 := hX1.belo B1 (by omega)
  have z2 := hX1.size
  rw [z1] at z2
  clear A0 A1 r0 r1 h0 B1 hX1 z1 hs0 hB1
  have A2 := bel_alloc w1 (.cells #[.int .i64 P, .int .i64 Q, .int .i64 G] 24)
  have gg := (Gw.new (w := w1) (P := P) (Q := Q) (G := G) (t := 24)).gx
  obtain ⟨i0, i1, i2⟩ := gg
  have hC2 := hC1.below A2
  have rr2 := rr.on A2
  have B3 := bel_trans B2 A2
  have z3 : (w1.alloc (.cells #[.int .i64 P, .int .i64 Q, .int .i64 G] 24)).heap.size = w1.heap.size + 1 := by simp
  have hne : w1.heap.size ≠ w.heap.size + 1 := by omega
  have hnr : w1.heap.size ≠ w.heap.size := by omega
  have GD := Lib.hid hgd
  clear rr hC1 B2 A2
  have tk0 : True := trivial
  have tk1 : True := trivial
  go_wp2
  go_region_held3 (fun W => W.cell? ⟨w1.heap.size, 0, none⟩ = some (.int .i64 P) ∧ W.cell? ⟨w1.heap.size, 1, none⟩ = some (.int .i64 Q) ∧ W.cell? ⟨w1.heap.size, 2, none⟩ = some (.int .i64 G)) (first | exact ⟨i0, i1, i2⟩ | exact ⟨far3 i0 hnr, far3 i1 hnr, far3 i2 hnr⟩) (first | (go_at_call 76; have t_ := tk0; clear tk0; refine (s_safeFirst P Q G x _).mono ?_; rintro e w10 ⟨f, rfl, ⟨hf1, hf2⟩, hb10⟩; have hC10 := (hC2.below (bel_drew _)).below hb10; have hX10 := Bex.of (b := w.heap.size + 1) hb10; have i0 := hX10.cell i0 hne; have i1 := hX10.cell i1 hne; have i2 := hX10.cell i2 hne; have rr2 := (rr2.on (bel_drew _)).bex hX10 (by omega); have rq := rr2; obtain ⟨c0, c1, c2, f0, f1, f2⟩ := rq) | (go_at_call 77; have t_ := tk1; clear tk1; refine (s_transfer _ _ _ _ hC10 (by omega)).mono ?_; rintro e w11 ⟨i, rfl, di, hC11, hX11⟩; have i0 := hX11.cell i0 hne; have i1 := hX11.cell i1 hne; have i2 := hX11.cell i2 hne; have rr2 := rr2.bex hX11 (by omega); have rq := rr2; obtain ⟨c0, c1, c2, f0, f1, f2⟩ := rq))
  have rf := rr2
  have BF := (hX11.belo (hX10.belo (bel_trans B3 (bel_drew _)) (by omega)) (by omega))
  have E := rf.set P Q G
  have E0 := E.c0; have E1 := E.c1; have E2 := E.c2
  go_wp2
  exact bodyPost_ret (v := .tuple #[.agg #[.int .i64 P, .int .i64 Q, .int .i64 G], .int .i64 (f), .int .i64 (y), .int .i64 (i)]) (by simp [results, Try.results56, go_sem, E0, E1, E2]) rfl
    ⟨P, Q, G, f, y, i, rfl, GD.out, ⟨by omega, by omega⟩, ⟨by omega, by omega⟩, by unfold Dr at di; unfold Dv; omega, bel_set3 BF (Nat.le_refl _) _ _ _⟩
set_option maxHeartbeats 8000000 in
theorem s_DrawSealPair (a : Option Addr) (n cap : Nat) (w : World) (hB : Byts w a n cap) :
    Calls Try.prog 54 #[.slice a n cap] w fun e w' => ∃ P Q G x u i m0 m1 : Int, e = .returned (.tuple #[.agg #[.int .i64 P, .int .i64 Q, .int .i64 G], .int .i64 x, .int .i64 u, .int .i64 i, .int .i64 m0, .int .i64 m1]) ∧ Gd P Q G ∧ Dv x ∧ Dv u ∧ Dv i ∧ Dv m0 ∧ Dv m1 ∧ Below w.heap.size w w' := by
  have A0 := bel_alloc w (.cells #[.int .i64 0, .int .i64 0, .int .i64 0] 24)
  have r0 := Gw.new (w := w) (P := 0) (Q := 0) (G := 0) (t := 24)
  have hB1 := hB.below A0
  have h0 := Cur.new (t := 67) hB1 hB.und (by simp)
  have hs0 : (w.alloc (.cells #[.int .i64 0, .int .i64 0, .int .i64 0] 24)).heap.size = w.heap.size + 1 := by simp
  rw [hs0] at h0
  have A1 := bel_alloc (w.alloc (.cells #[.int .i64 0, .int .i64 0, .int .i64 0] 24)) (.cells #[.slice a n cap, .int .i64 0, .int .u64 0] 67)
  have r1 := r0.on A1
  have B1 := bel_trans A0 A1
  have z1 : ((w.alloc (.cells #[.int .i64 0, .int .i64 0, .int .i64 0] 24)).alloc (.cells #[.slice a n cap, .int .i64 0, .int .u64 0] 67)).heap.size = w.heap.size + 2 := by simp
  go_enter Try.func54, Try.ntmps54
  go_wp2_with fail
  refine (s_secrets (w.heap.size + 1) w.heap.size 0 _ h0 (by omega)).mono ?_; rintro e w1 ⟨P, Q, G, x, y, rfl, hgd, ⟨dx1, dx2⟩, ⟨dy1, dy2⟩, hC1, hX1⟩
  have rr := r1.bex hX1 (by omega)
  have B2 := hX1.belo B1 (by omega)
  have z2 := hX1.size
  rw [z1] at z2
  clear A0 A1 r0 r1 h0 B1 hX1 z1 hs0 hB1
  have A2 := bel_alloc w1 (.cells #[.int .i64 P, .int .i64 Q, .int .i64 G] 24)
  have gg := (Gw.new (w := w1) (P := P) (Q := Q) (G := G) (t := 24)).gx
  obtain ⟨i0, i1, i2⟩ := gg
  have hC2 := hC1.below A2
  have rr2 := rr.on A2
  have B3 := bel_trans B2 A2
  have z3 : (w1.alloc (.cells #[.int .i64 P, .int .i64 Q, .int .i64 G] 24)).heap.size = w1.heap.size + 1 := by simp
  have hne : w1.heap.size ≠ w.heap.size + 1 := by omega
  have hnr : w1.heap.size ≠ w.heap.size := by omega
  have GD := Lib.hid hgd
  clear rr hC1 B2 A2
  have tk0 : True := trivial
  have tk1 : True := trivial
  have tk2 : True := trivial
  have tk3 : True := trivial
  go_wp2
  go_region_held3 (fun W => W.cell? ⟨w1.heap.size, 0, none⟩ = some (.int .i64 P) ∧ W.cell? ⟨w1.heap.size, 1, none⟩ = some (.int .i64 Q) ∧ W.cell? ⟨w1.heap.size, 2, none⟩ = some (.int .i64 G)) (first | exact ⟨i0, i1, i2⟩ | exact ⟨far3 i0 hnr, far3 i1 hnr, far3 i2 hnr⟩) (first | (go_at_call 67; have t_ := tk0; clear tk0; refine (s_elementOf _ _ _ P Q G _ (hC2.below (bel_drew _)) (by omega) GD.out).mono ?_; rintro e w10 ⟨u, rfl, hu1, hu2, hC10, hX10⟩; have i0 := hX10.cell i0 hne; have i1 := hX10.cell i1 hne; have i2 := hX10.cell i2 hne; have rr2 := (rr2.on (bel_drew _)).bex hX10 (by omega); have rq := rr2; obtain ⟨c0, c1, c2, f0, f1, f2⟩ := rq) | (go_at_call 77; have t_ := tk1; clear tk1; refine (s_transfer _ _ _ _ hC10 (by omega)).mono ?_; rintro e w11 ⟨i, rfl, di, hC11, hX11⟩; have i0 := hX11.cell i0 hne; have i1 := hX11.cell i1 hne; have i2 := hX11.cell i2 hne; have rr2 := rr2.bex hX11 (by omega); have rq := rr2; obtain ⟨c0, c1, c2, f0, f1, f2⟩ := rq) | (go_at_call 78; have t_ := tk2; clear tk2; refine (s_letter _ _ _ _ hC11 (by omega)).mono ?_; rintro e w12 ⟨m0, rfl, dm0, hC12, hX12⟩; have i0 := hX12.cell i0 hne; have i1 := hX12.cell i1 hne; have i2 := hX12.cell i2 hne; have rr2 := rr2.bex hX12 (by omega); have rq := rr2; obtain ⟨c0, c1, c2, f0, f1, f2⟩ := rq) | (go_at_call 78; have t_ := tk3; clear tk3; refine (s_letter _ _ _ _ hC12 (by omega)).mono ?_; rintro e w13 ⟨m1, rfl, dm1, hC13, hX13⟩; have i0 := hX13.cell i0 hne; have i1 := hX13.cell i1 hne; have i2 := hX13.cell i2 hne; have rr2 := rr2.bex hX13 (by omega); have rq := rr2; obtain ⟨c0, c1, c2, f0, f1, f2⟩ := rq))
  have rf := rr2
  have BF := (hX13.belo (hX12.belo (hX11.belo (hX10.belo (bel_trans B3 (bel_drew _)) (by omega)) (by omega)) (by omega)) (by omega))
  have E := rf.set P Q G
  have E0 := E.c0; have E1 := E.c1; have E2 := E.c2
  go_wp2
  exact bodyPost_ret (v := .tuple #[.agg #[.int .i64 P, .int .i64 Q, .int .i64 G], .int .i64 (x), .int .i64 (u), .int .i64 (i), .int .i64 (m0), .int .i64 (m1)]) (by simp [results, Try.results54, go_sem, E0, E1, E2]) rfl
    ⟨P, Q, G, x, u, i, m0, m1, rfl, GD.out, ⟨by omega, by omega⟩, ⟨by omega, by omega⟩, by unfold Dr at di; unfold Dv; omega, by unfold Dr at dm0; unfold Dv; omega, by unfold Dr at dm1; unfold Dv; omega, bel_set3 BF (Nat.le_refl _) _ _ _⟩
set_option maxHeartbeats 8000000 in
theorem s_DrawOpenChosen (a : Option Addr) (n cap : Nat) (w : World) (hB : Byts w a n cap) :
    Calls Try.prog 19 #[.slice a n cap] w fun e w' => ∃ P Q G f y c i m0 m1 : Int, e = .returned (.tuple #[.agg #[.int .i64 P, .int .i64 Q, .int .i64 G], .int .i64 f, .int .i64 y, .int .i64 c, .int .i64 i, .int .i64 m0, .int .i64 m1]) ∧ Gd P Q G ∧ Dv f ∧ Dv y ∧ Dv c ∧ Dv i ∧ Dv m0 ∧ Dv m1 ∧ Below w.heap.size w w' := by
  have A0 := bel_alloc w (.cells #[.int .i64 0, .int .i64 0, .int .i64 0] 24)
  have r0 := Gw.new (w := w) (P := 0) (Q := 0) (G := 0) (t := 24)
  have hB1 := hB.below A0
  have h0 := Cur.new (t := 67) hB1 hB.und (by simp)
  have hs0 : (w.alloc (.cells #[.int .i64 0, .int .i64 0, .int .i64 0] 24)).heap.size = w.heap.size + 1 := by simp
  rw [hs0] at h0
  have A1 := bel_alloc (w.alloc (.cells #[.int .i64 0, .int .i64 0, .int .i64 0] 24)) (.cells #[.slice a n cap, .int .i64 0, .int .u64 0] 67)
  have r1 := r0.on A1
  have B1 := bel_trans A0 A1
  have z1 : ((w.alloc (.cells #[.int .i64 0, .int .i64 0, .int .i64 0] 24)).alloc (.cells #[.slice a n cap, .int .i64 0, .int .u64 0] 67)).heap.size = w.heap.size + 2 := by simp
  go_enter Try.func19, Try.ntmps19
  go_wp2_with fail
  refine (s_secrets (w.heap.size + 1) w.heap.size 0 _ h0 (by omega)).mono ?_; rintro e w1 ⟨P, Q, G, x, y, rfl, hgd, ⟨dx1, dx2⟩, ⟨dy1, dy2⟩, hC1, hX1⟩
  have rr := r1.bex hX1 (by omega)
  have B2 := hX1.belo B1 (by omega)
  have z2 := hX1.size
  rw [z1] at z2
  clear A0 A1 r0 r1 h0 B1 hX1 z1 hs0 hB1
  have A2 := bel_alloc w1 (.cells #[.int .i64 P, .int .i64 Q, .int .i64 G] 24)
  have gg := (Gw.new (w := w1) (P := P) (Q := Q) (G := G) (t := 24)).gx
  obtain ⟨i0, i1, i2⟩ := gg
  have hC2 := hC1.below A2
  have rr2 := rr.on A2
  have B3 := bel_trans B2 A2
  have z3 : (w1.alloc (.cells #[.int .i64 P, .int .i64 Q, .int .i64 G] 24)).heap.size = w1.heap.size + 1 := by simp
  have hne : w1.heap.size ≠ w.heap.size + 1 := by omega
  have hnr : w1.heap.size ≠ w.heap.size := by omega
  have GD := Lib.hid hgd
  clear rr hC1 B2 A2
  have tk0 : True := trivial
  have tk1 : True := trivial
  have tk2 : True := trivial
  have tk3 : True := trivial
  have tk4 : True := trivial
  have tk5 : True := trivial
  go_wp2
  go_region_held3 (fun W => W.cell? ⟨w1.heap.size, 0, none⟩ = some (.int .i64 P) ∧ W.cell? ⟨w1.heap.size, 1, none⟩ = some (.int .i64 Q) ∧ W.cell? ⟨w1.heap.size, 2, none⟩ = some (.int .i64 G)) (first | exact ⟨i0, i1, i2⟩ | exact ⟨far3 i0 hnr, far3 i1 hnr, far3 i2 hnr⟩) (first | (go_at_call 76; have t_ := tk0; clear tk0; refine (s_safeFirst P Q G x _).mono ?_; rintro e w10 ⟨f, rfl, ⟨hf1, hf2⟩, hb10⟩; have hC10 := (hC2.below (bel_drew _)).below hb10; have hX10 := Bex.of (b := w.heap.size + 1) hb10; have i0 := hX10.cell i0 hne; have i1 := hX10.cell i1 hne; have i2 := hX10.cell i2 hne; have rr2 := (rr2.on (bel_drew _)).bex hX10 (by omega); have rq := rr2; obtain ⟨c0, c1, c2, f0, f1, f2⟩ := rq) | (go_at_call 60; have t_ := tk1; clear tk1; refine (s_pick _ _ _ 2 _ hC10 (by omega) (by omega)).mono ?_; rintro e w11 ⟨j, rfl, hj1, hj2, hC11, hX11⟩; have i0 := hX11.cell i0 hne; have i1 := hX11.cell i1 hne; have i2 := hX11.cell i2 hne; have rr2 := rr2.bex hX11 (by omega); have rq := rr2; obtain ⟨c0, c1, c2, f0, f1, f2⟩ := rq) | (go_at_call 60; have t_ := tk2; clear tk2; refine (s_pick _ _ _ 20 _ hC11 (by omega) (by omega)).mono ?_; rintro e w12 ⟨k, rfl, hk1, hk2, hC12, hX12⟩; have i0 := hX12.cell i0 hne; have i1 := hX12.cell i1 hne; have i2 := hX12.cell i2 hne; have rr2 := rr2.bex hX12 (by omega); have rq := rr2; obtain ⟨c0, c1, c2, f0, f1, f2⟩ := rq; have eq_ : IntKind.i64.wrap ((k : Int) / 19) = (k : Int) / 19 := IntWalk.i64_in _ (by omega); have ew : IntKind.i64.wrap ((j : Int) + (k : Int) / 19) = (j : Int) + (k : Int) / 19 := IntWalk.i64_in _ (by omega)) | (go_at_call 77; have t_ := tk3; clear tk3; refine (s_transfer _ _ _ _ hC12 (by omega)).mono ?_; rintro e w13 ⟨i, rfl, di, hC13, hX13⟩; have i0 := hX13.cell i0 hne; have i1 := hX13.cell i1 hne; have i2 := hX13.cell i2 hne; have rr2 := rr2.bex hX13 (by omega); have rq := rr2; obtain ⟨c0, c1, c2, f0, f1, f2⟩ := rq) | (go_at_call 78; have t_ := tk4; clear tk4; refine (s_letter _ _ _ _ hC13 (by omega)).mono ?_; rintro e w14 ⟨m0, rfl, dm0, hC14, hX14⟩; have i0 := hX14.cell i0 hne; have i1 := hX14.cell i1 hne; have i2 := hX14.cell i2 hne; have rr2 := rr2.bex hX14 (by omega); have rq := rr2; obtain ⟨c0, c1, c2, f0, f1, f2⟩ := rq) | (go_at_call 78; have t_ := tk5; clear tk5; refine (s_letter _ _ _ _ hC14 (by omega)).mono ?_; rintro e w15 ⟨m1, rfl, dm1, hC15, hX15⟩; have i0 := hX15.cell i0 hne; have i1 := hX15.cell i1 hne; have i2 := hX15.cell i2 hne; have rr2 := rr2.bex hX15 (by omega); have rq := rr2; obtain ⟨c0, c1, c2, f0, f1, f2⟩ := rq))
  have rf := rr2
  have BF := (hX15.belo (hX14.belo (hX13.belo (hX12.belo (hX11.belo (hX10.belo (bel_trans B3 (bel_drew _)) (by omega)) (by omega)) (by omega)) (by omega)) (by omega)) (by omega))
  have E := rf.set P Q G
  have E0 := E.c0; have E1 := E.c1; have E2 := E.c2
  go_wp2
  exact bodyPost_ret (v := .tuple #[.agg #[.int .i64 P, .int .i64 Q, .int .i64 G], .int .i64 (f), .int .i64 (y), .int .i64 ((j : Int) + (k : Int) / 19), .int .i64 (i), .int .i64 (m0), .int .i64 (m1)]) (by simp [results, Try.results19, go_sem, E0, E1, E2]) rfl
    ⟨P, Q, G, f, y, (j : Int) + (k : Int) / 19, i, m0, m1, rfl, GD.out, ⟨by omega, by omega⟩, ⟨by omega, by omega⟩, ⟨by omega, by omega⟩, by unfold Dr at di; unfold Dv; omega, by unfold Dr at dm0; unfold Dv; omega, by unfold Dr at dm1; unfold Dv; omega, bel_set3 BF (Nat.le_refl _) _ _ _⟩
end Go.Proofs.Ytklgneaamhjfpaa
