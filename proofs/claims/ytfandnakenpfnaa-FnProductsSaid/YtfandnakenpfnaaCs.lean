/-
  The draws of the laws on triples.
-/
import Derived.Test.YtfandnakenpfnaaCt
namespace Go.Proofs.Ytfandnakenpfnaa
open Go.RowKit
set_option linter.unusedVariables false
set_option linter.unusedSimpArgs false

/-- A number that was drawn, widely. -/
def Dw (x : Int) : Prop := -10000000000 ≤ x ∧ x ≤ 10000000000
theorem Dw.fits {x : Int} (h : Dw x) : Fits x := by unfold Dw at h; unfold Fits; omega
theorem Dr.dw {x : Int} (h : Dr x) : Dw x := by unfold Dr at h; unfold Dw; omega

set_option maxHeartbeats 2000000 in
theorem s_DrawTripleFor (a : Option Addr) (n cap : Nat) (w : World) (hB : Byts w a n cap) :
    Calls Try.prog 6 #[.slice a n cap] w fun e w' => ∃ (p : Int) (k : Int) (i : Int), e = .returned (.tuple #[.int .i64 p, .int .i64 k, .int .i64 i]) ∧ Dw p ∧ Dw k ∧ Dw i ∧ Below w.heap.size w w' := by
  have hC0 := Cur.new (t := 63) hB hB.und (Nat.le_refl _)
  go_enter Try.func6, Try.ntmps6
  have hl0 := hC0.lt
  go_wp2_with fail
  refine (s_anyPrime _ _ _ _ hC0 (by omega)).mono ?_; rintro e w1 ⟨p, rfl, hp1, hp2, hC1, hX1⟩
  have hY1 := hX1
  have dp : Dr p := ⟨by omega, by omega⟩
  have hl1 := hC1.lt
  go_wp2_with fail
  refine (s_pick _ _ _ 60000 _ hC1 (by omega) (by omega)).mono ?_; rintro e w2 ⟨u, rfl, hu1, hu2, hC2, hX2⟩
  have hY2 := hY1.trans hX2
  have hl2 := hC2.lt
  go_wp2_with fail
  refine (s_pick _ _ _ 60000 _ hC2 (by omega) (by omega)).mono ?_; rintro e w3 ⟨v, rfl, hv1, hv2, hC3, hX3⟩
  have hY3 := hY2.trans hX3
  obtain ⟨hCa, hIa, hOa, hXa⟩ := among_lit (t := 3) [(u : Int), (v : Int), 1000000000, 1000000001] hC3 rfl rfl (by simp) (by intro x hx; simp at hx; unfold Fits; omega)
  have hl3a := hC3.lt
  go_wp2_with fail
  refine (s_among _ _ _ _ 4 4 [(u : Int), (v : Int), 1000000000, 1000000001] _ hCa (by omega) hIa (by omega) (by omega) hOa).mono ?_; rintro e w4 ⟨k, rfl, hk, hC4, hX4⟩
  have hY4 := (hY3.trans hXa).trans hX4
  have dk : Dw k := by simp at hk; unfold Dw; omega
  clear hCa hIa hOa hXa hk
  have hl4 := hC4.lt
  go_wp2_with fail
  refine (s_pick _ _ _ 900 _ hC4 (by omega) (by omega)).mono ?_; rintro e w5 ⟨t, rfl, ht1, ht2, hC5, hX5⟩
  have hY5 := hY4.trans hX5
  obtain ⟨hCa, hIa, hOa, hXa⟩ := among_lit (t := 3) [0, 1, (t : Int), 1000, 1001, -1] hC5 rfl rfl (by simp) (by intro x hx; simp at hx; unfold Fits; omega)
  have hl5a := hC5.lt
  go_wp2_with fail
  refine (s_among _ _ _ _ 6 6 [0, 1, (t : Int), 1000, 1001, -1] _ hCa (by omega) hIa (by omega) (by omega) hOa).mono ?_; rintro e w6 ⟨i, rfl, hi, hC6, hX6⟩
  have hY6 := (hY5.trans hXa).trans hX6
  have di : Dw i := by simp at hi; unfold Dw; omega
  clear hCa hIa hOa hXa hi
  go_wp2
  exact bodyPost_ret (v := .tuple #[.int .i64 p, .int .i64 k, .int .i64 i]) (by simp [results, Try.results6, go_sem]) rfl ⟨p, k, i, rfl, dp.dw, dk, di, bel_new hY6⟩

set_option maxHeartbeats 2000000 in
theorem s_DrawCheckTriple (a : Option Addr) (n cap : Nat) (w : World) (hB : Byts w a n cap) :
    Calls Try.prog 24 #[.slice a n cap] w fun e w' => ∃ (p : Int) (sr : Option Addr) (sn sc : Nat) (sx : List Int) (tr : Option Addr) (tn tc : Nat) (tx : List Int) (ur : Option Addr) (un uc : Nat) (ux : List Int) (vr : Option Addr) (vn vc : Nat) (vx : List Int) (r : Int), e = .returned (.tuple #[.int .i64 p, .slice sr sn sc, .slice tr tn tc, .slice ur un uc, .slice vr vn vc, .int .i64 r]) ∧ Dw p ∧ Mine w' w.heap.size sr sn sc sx ∧ Mine w' w.heap.size tr tn tc tx ∧ Mine w' w.heap.size ur un uc ux ∧ Mine w' w.heap.size vr vn vc vx ∧ Dw r ∧ Below w.heap.size w w' := by
  have hC0 := Cur.new (t := 63) hB hB.und (Nat.le_refl _)
  go_enter Try.func24, Try.ntmps24
  have hl0 := hC0.lt
  go_wp2_with fail
  refine (s_anyPrime _ _ _ _ hC0 (by omega)).mono ?_; rintro e w1 ⟨p, rfl, hp1, hp2, hC1, hX1⟩
  have hY1 := hX1
  have dp : Dr p := ⟨by omega, by omega⟩
  have hl1 := hC1.lt
  go_wp2_with fail
  refine (s_triple _ _ _ p _ hC1 (by omega) dp).mono ?_; rintro e w2 ⟨sr, sn, sc, sx, tr, tn, tc, tx, rfl, Ms, Mt, hC2, hX2⟩
  have hY2 := hY1.trans hX2
  have hl2 := hC2.lt
  go_wp2_with fail
  refine (s_triple _ _ _ p _ hC2 (by omega) dp).mono ?_; rintro e w3 ⟨ur, un, uc, ux, vr, vn, vc, vx, rfl, Mu, Mv, hC3, hX3⟩
  replace Ms := Ms.bex hX3 (by omega)
  replace Mt := Mt.bex hX3 (by omega)
  have hY3 := hY2.trans hX3
  have hl3 := hC3.lt
  go_wp2_with fail
  refine (s_element _ _ _ p _ hC3 (by omega) dp).mono ?_; rintro e w4 ⟨r, rfl, dr, hC4, hX4⟩
  replace Ms := Ms.bex hX4 (by omega)
  replace Mt := Mt.bex hX4 (by omega)
  replace Mu := Mu.bex hX4 (by omega)
  replace Mv := Mv.bex hX4 (by omega)
  have hY4 := hY3.trans hX4
  go_wp2
  exact bodyPost_ret (v := .tuple #[.int .i64 p, .slice sr sn sc, .slice tr tn tc, .slice ur un uc, .slice vr vn vc, .int .i64 r]) (by simp [results, Try.results24, go_sem]) rfl ⟨p, sr, sn, sc, sx, tr, tn, tc, tx, ur, un, uc, ux, vr, vn, vc, vx, r, rfl, dp.dw, Ms.base (by omega), Mt.base (by omega), Mu.base (by omega), Mv.base (by omega), dr.dw, bel_new hY4⟩

set_option maxHeartbeats 2000000 in
theorem s_DrawMaskPair (a : Option Addr) (n cap : Nat) (w : World) (hB : Byts w a n cap) :
    Calls Try.prog 18 #[.slice a n cap] w fun e w' => ∃ (p : Int) (sr : Option Addr) (sn sc : Nat) (sx : List Int) (x : Int) (y : Int), e = .returned (.tuple #[.int .i64 p, .slice sr sn sc, .int .i64 x, .int .i64 y]) ∧ Dw p ∧ Mine w' w.heap.size sr sn sc sx ∧ Dw x ∧ Dw y ∧ Below w.heap.size w w' := by
  have hC0 := Cur.new (t := 63) hB hB.und (Nat.le_refl _)
  go_enter Try.func18, Try.ntmps18
  have hl0 := hC0.lt
  go_wp2_with fail
  refine (s_anyPrime _ _ _ _ hC0 (by omega)).mono ?_; rintro e w1 ⟨p, rfl, hp1, hp2, hC1, hX1⟩
  have hY1 := hX1
  have dp : Dr p := ⟨by omega, by omega⟩
  have hl1 := hC1.lt
  go_wp2_with fail
  refine (s_triple _ _ _ p _ hC1 (by omega) dp).mono ?_; rintro e w2 ⟨sr, sn, sc, sx, tr, tn, tc, tx, rfl, Ms, Mt, hC2, hX2⟩
  have hY2 := hY1.trans hX2
  have hl2 := hC2.lt
  go_wp2_with fail
  refine (s_element _ _ _ p _ hC2 (by omega) dp).mono ?_; rintro e w3 ⟨x, rfl, dx, hC3, hX3⟩
  replace Ms := Ms.bex hX3 (by omega)
  replace Mt := Mt.bex hX3 (by omega)
  have hY3 := hY2.trans hX3
  have hl3 := hC3.lt
  go_wp2_with fail
  refine (s_element _ _ _ p _ hC3 (by omega) dp).mono ?_; rintro e w4 ⟨y, rfl, dy, hC4, hX4⟩
  replace Ms := Ms.bex hX4 (by omega)
  replace Mt := Mt.bex hX4 (by omega)
  have hY4 := hY3.trans hX4
  go_wp2
  exact bodyPost_ret (v := .tuple #[.int .i64 p, .slice sr sn sc, .int .i64 x, .int .i64 y]) (by simp [results, Try.results18, go_sem]) rfl ⟨p, sr, sn, sc, sx, x, y, rfl, dp.dw, Ms.base (by omega), dx.dw, dy.dw, bel_new hY4⟩

set_option maxHeartbeats 2000000 in
theorem s_DrawOpenWays (a : Option Addr) (n cap : Nat) (w : World) (hB : Byts w a n cap) :
    Calls Try.prog 15 #[.slice a n cap] w fun e w' => ∃ (p : Int) (x : Int) (y : Int) (d : Int) (ee : Int), e = .returned (.tuple #[.int .i64 p, .int .i64 x, .int .i64 y, .int .i64 d, .int .i64 ee]) ∧ Dw p ∧ Dw x ∧ Dw y ∧ Dw d ∧ Dw ee ∧ Below w.heap.size w w' := by
  have hC0 := Cur.new (t := 63) hB hB.und (Nat.le_refl _)
  go_enter Try.func15, Try.ntmps15
  have hl0 := hC0.lt
  go_wp2_with fail
  refine (s_anyPrime _ _ _ _ hC0 (by omega)).mono ?_; rintro e w1 ⟨p, rfl, hp1, hp2, hC1, hX1⟩
  have hY1 := hX1
  have dp : Dr p := ⟨by omega, by omega⟩
  have hl1 := hC1.lt
  go_wp2_with fail
  refine (s_element _ _ _ p _ hC1 (by omega) dp).mono ?_; rintro e w2 ⟨x, rfl, dx, hC2, hX2⟩
  have hY2 := hY1.trans hX2
  have hl2 := hC2.lt
  go_wp2_with fail
  refine (s_element _ _ _ p _ hC2 (by omega) dp).mono ?_; rintro e w3 ⟨y, rfl, dy, hC3, hX3⟩
  have hY3 := hY2.trans hX3
  have hl3 := hC3.lt
  go_wp2_with fail
  refine (s_element _ _ _ p _ hC3 (by omega) dp).mono ?_; rintro e w4 ⟨d, rfl, dd, hC4, hX4⟩
  have hY4 := hY3.trans hX4
  have hl4 := hC4.lt
  go_wp2_with fail
  refine (s_element _ _ _ p _ hC4 (by omega) dp).mono ?_; rintro e w5 ⟨ee, rfl, dee, hC5, hX5⟩
  have hY5 := hY4.trans hX5
  go_wp2
  exact bodyPost_ret (v := .tuple #[.int .i64 p, .int .i64 x, .int .i64 y, .int .i64 d, .int .i64 ee]) (by simp [results, Try.results15, go_sem]) rfl ⟨p, x, y, d, ee, rfl, dp.dw, dx.dw, dy.dw, dd.dw, dee.dw, bel_new hY5⟩

set_option maxHeartbeats 2000000 in
theorem s_DrawProductShare (a : Option Addr) (n cap : Nat) (w : World) (hB : Byts w a n cap) :
    Calls Try.prog 21 #[.slice a n cap] w fun e w' => ∃ (p : Int) (q : Int) (sr : Option Addr) (sn sc : Nat) (sx : List Int) (d : Int) (ee : Int), e = .returned (.tuple #[.int .i64 p, .int .i64 q, .slice sr sn sc, .int .i64 d, .int .i64 ee]) ∧ Dw p ∧ Dw q ∧ Mine w' w.heap.size sr sn sc sx ∧ Dw d ∧ Dw ee ∧ Below w.heap.size w w' := by
  have hC0 := Cur.new (t := 63) hB hB.und (Nat.le_refl _)
  go_enter Try.func21, Try.ntmps21
  have hl0 := hC0.lt
  go_wp2_with fail
  refine (s_anyPrime _ _ _ _ hC0 (by omega)).mono ?_; rintro e w1 ⟨p, rfl, hp1, hp2, hC1, hX1⟩
  have hY1 := hX1
  have dp : Dr p := ⟨by omega, by omega⟩
  have hl1 := hC1.lt
  go_wp2_with fail
  refine (s_triple _ _ _ p _ hC1 (by omega) dp).mono ?_; rintro e w2 ⟨sr, sn, sc, sx, tr, tn, tc, tx, rfl, Ms, Mt, hC2, hX2⟩
  have hY2 := hY1.trans hX2
  have hl2 := hC2.lt
  go_wp2_with fail
  refine (s_pick _ _ _ 2 _ hC2 (by omega) (by omega)).mono ?_; rintro e w3 ⟨j, rfl, hj1, hj2, hC3, hX3⟩
  replace Ms := Ms.bex hX3 (by omega)
  replace Mt := Mt.bex hX3 (by omega)
  have hY3 := hY2.trans hX3
  have hl3 := hC3.lt
  go_wp2_with fail
  refine (s_pick _ _ _ 20 _ hC3 (by omega) (by omega)).mono ?_; rintro e w4 ⟨k, rfl, hk1, hk2, hC4, hX4⟩
  replace Ms := Ms.bex hX4 (by omega)
  replace Mt := Mt.bex hX4 (by omega)
  have hY4 := hY3.trans hX4
  have hl4 := hC4.lt
  go_wp2_with fail
  refine (s_element _ _ _ p _ hC4 (by omega) dp).mono ?_; rintro e w5 ⟨d, rfl, dd, hC5, hX5⟩
  replace Ms := Ms.bex hX5 (by omega)
  replace Mt := Mt.bex hX5 (by omega)
  have hY5 := hY4.trans hX5
  have hl5 := hC5.lt
  go_wp2_with fail
  refine (s_element _ _ _ p _ hC5 (by omega) dp).mono ?_; rintro e w6 ⟨ee, rfl, dee, hC6, hX6⟩
  replace Ms := Ms.bex hX6 (by omega)
  replace Mt := Mt.bex hX6 (by omega)
  have hY6 := hY5.trans hX6
  go_wp2
  exact bodyPost_ret (v := .tuple #[.int .i64 p, .int .i64 ((j : Int) + (k : Int) / 19), .slice sr sn sc, .int .i64 d, .int .i64 ee]) (by simp [results, Try.results21, go_sem]) rfl ⟨p, (j : Int) + (k : Int) / 19, sr, sn, sc, sx, d, ee, rfl, dp.dw, by unfold Dw; omega, Ms.base (by omega), dd.dw, dee.dw, bel_new hY6⟩

set_option maxHeartbeats 1000000 in
theorem s_DrawPassingChecks (a : Option Addr) (n cap : Nat) (w : World) (hB : Byts w a n cap) :
    Calls Try.prog 9 #[.slice a n cap] w fun e w' => ∃ (p : Int) (sr : Option Addr) (sn sc : Nat) (sx : List Int) (tr : Option Addr) (tn tc : Nat) (tx : List Int) (ur : Option Addr) (un uc : Nat) (ux : List Int) (vr : Option Addr) (vn vc : Nat) (vx : List Int), e = .returned (.tuple #[.int .i64 p, .slice sr sn sc, .slice tr tn tc, .slice ur un uc, .slice vr vn vc]) ∧ Dw p ∧ Mine w' w.heap.size sr sn sc sx ∧ Mine w' w.heap.size tr tn tc tx ∧ Mine w' w.heap.size ur un uc ux ∧ Mine w' w.heap.size vr vn vc vx ∧ Below w.heap.size w w' := by
  go_enter Try.func9, Try.ntmps9
  go_wp2_with fail
  refine (s_DrawCheckTriple _ _ _ _ hB).mono ?_; rintro e w1 ⟨p, sr, sn, sc, sx, tr, tn, tc, tx, ur, un, uc, ux, vr, vn, vc, vx, r, rfl, dp, M1, M2, M3, M4, dr, hb⟩
  go_wp2
  exact bodyPost_ret (v := .tuple #[.int .i64 p, .slice sr sn sc, .slice tr tn tc, .slice ur un uc, .slice vr vn vc]) (by simp [results, Try.results9, go_sem]) rfl ⟨p, sr, sn, sc, sx, tr, tn, tc, tx, ur, un, uc, ux, vr, vn, vc, vx, rfl, dp, M1, M2, M3, M4, hb⟩

end Go.Proofs.Ytfandnakenpfnaa
