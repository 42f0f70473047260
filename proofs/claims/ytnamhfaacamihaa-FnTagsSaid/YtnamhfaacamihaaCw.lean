/-
  What is drawn for the laws on tags.
-/
import Derived.Test.YtnamhfaacamihaaCv
import Derived.Test.YtnamhfaacamihaaTU
import Derived.Test.YtnamhfaacamihaaRQ
namespace Go.Proofs.Ytnamhfaacamihaa
open Go.RowKit
set_option linter.unusedVariables false
set_option linter.unusedSimpArgs false

theorem mul_abs {a b : Int} (h1 : -1000000 ≤ a) (h2 : a ≤ 1000000) (h3 : -1000000 ≤ b) (h4 : b ≤ 1000000) : -1000000000000 ≤ a * b ∧ a * b ≤ 1000000000000 := by
  have h : (a * b).natAbs ≤ 1000000 * 1000000 := by
    rw [Int.natAbs_mul]; exact Nat.mul_le_mul (by omega) (by omega)
  omega
/-- Another box is stored into. -/
theorem Bex.store2 {b g : Nat} {w w' : World} (h : Bex b w w') (hg : w.heap.size ≤ g) (u v : Value) : Bex b w ((w'.setCell ⟨g, 0, none⟩ u).setCell ⟨g, 1, none⟩ v) :=
  ⟨h.os, h.tape, h.output, by simpa [World.setCell] using h.size, fun k hk hne => (Below.heap_setCell _ _ _ _ (by simp only []; omega)).trans ((Below.heap_setCell _ _ _ _ (by simp only []; omega)).trans (h.block k hk hne))⟩
theorem Cur.store2 {w : World} {b B K g : Nat} {u v : Value} (h : Cur w b B K) (hp : g ≠ b) (hq : B ≤ g) : Cur ((w.setCell ⟨g, 0, none⟩ u).setCell ⟨g, 1, none⟩ v) b B K :=
  (h.store (p := ⟨g, 0, none⟩) hp hq).store (p := ⟨g, 1, none⟩) hp hq
set_option maxHeartbeats 1000000 in
theorem s_tagged (b B K : Nat) (p : Int) (w : World) (h : Cur w b B K) (hK : K ≤ 1000000000) (hp : Dr p) :
    Calls Try.prog 70 #[.pointer (some ⟨b, 0, none⟩), .int .i64 p] w fun e w' => ∃ v t : Int, e = .returned (.agg #[.int .i64 v, .int .i64 t]) ∧ Dr v ∧ Dr t ∧ Cur w' b B (K + 8) ∧ Bex b w w' := by
  have hbl := h.lt
  have hbs := h.base
  have h1 := h.below (bel_alloc w (.cells #[.int .i64 0, .int .i64 0] 26))
  have X0 := Bex.of (b := b) (bel_alloc w (.cells #[.int .i64 0, .int .i64 0] 26))
  have g0 := Bx.new (w := w) (x := .int .i64 0) (y := .int .i64 0) (t := 26)
  go_enter Try.func70, Try.ntmps70
  go_wp2_with fail
  refine (s_element b B K p _ h1 (by omega) hp).mono ?_; rintro e w1 ⟨v, rfl, hv, hC1, hX1⟩
  go_wp2_with fail
  refine (s_element b B (K + 4) p _ hC1 (by omega) hp).mono ?_; rintro e w2 ⟨t, rfl, ht, hC2, hX2⟩
  have hX := hX1.trans hX2
  have k0 := hX.cell g0.1 (by omega)
  have k1 := hX.cell g0.2.1 (by omega)
  have k2 := (hX.frozen (g := w.heap.size) (o := 0) (by simp) (by omega)).trans g0.2.2.1
  have k3 := (hX.frozen (g := w.heap.size) (o := 1) (by simp) (by omega)).trans g0.2.2.2
  have G := Bx.set2 (w := w2) (b := w.heap.size) ⟨k0, k1, k2, k3⟩ (.int .i64 v) (.int .i64 t)
  have G0 := G.1; have G1 := G.2.1
  clear g0 G
  go_wp2
  exact bodyPost_ret (v := .agg #[.int .i64 v, .int .i64 t]) (by simp [results, Try.results70, go_sem, G0, G1]) rfl ⟨v, t, rfl, hv, ht, hC2.store2 (by omega) (by omega), (X0.trans hX).store2 (Nat.le_refl _) _ _⟩
set_option maxHeartbeats 1000000 in
theorem s_DrawTagFor (a : Option Addr) (n cap : Nat) (w : World) (hB : Byts w a n cap) :
    Calls Try.prog 45 #[.slice a n cap] w fun e w' => ∃ p d k v : Int, e = .returned (.tuple #[.int .i64 p, .int .i64 d, .int .i64 k, .int .i64 v]) ∧ Dr p ∧ Dr d ∧ Dr k ∧ Dr v ∧ Below w.heap.size w w' := by
  have h0 := Cur.new (t := 81) hB hB.und (Nat.le_refl _)
  go_enter Try.func45, Try.ntmps45
  go_wp2_with fail
  refine (s_anyPrime _ _ _ _ h0 (by omega)).mono ?_; rintro e w1 ⟨p, rfl, hp1, hp2, hC1, hX1⟩
  have hp : Dr p := ⟨by omega, by omega⟩
  go_wp2_with fail
  refine (s_element _ _ _ p _ hC1 (by omega) hp).mono ?_; rintro e w2 ⟨d, rfl, hd, hC2, hX2⟩
  go_wp2_with fail
  refine (s_element _ _ _ p _ hC2 (by omega) hp).mono ?_; rintro e w3 ⟨k, rfl, hk, hC3, hX3⟩
  go_wp2_with fail
  refine (s_element _ _ _ p _ hC3 (by omega) hp).mono ?_; rintro e w4 ⟨v, rfl, hv, hC4, hX4⟩
  go_wp2
  exact bodyPost_ret (v := .tuple #[.int .i64 p, .int .i64 d, .int .i64 k, .int .i64 v]) (by simp [results, Try.results45, go_sem]) rfl ⟨p, d, k, v, rfl, hp, hd, hk, hv, bel_new (((hX1.trans hX2).trans hX3).trans hX4)⟩
set_option maxHeartbeats 1000000 in
theorem s_DrawShiftKey (a : Option Addr) (n cap : Nat) (w : World) (hB : Byts w a n cap) :
    Calls Try.prog 51 #[.slice a n cap] w fun e w' => ∃ p d k v : Int, e = .returned (.tuple #[.int .i64 p, .int .i64 d, .int .i64 k, .int .i64 v]) ∧ Dr p ∧ Dr d ∧ Dr k ∧ Dr v ∧ Below w.heap.size w w' := by
  go_enter Try.func51, Try.ntmps51
  go_wp2_with fail
  refine (s_DrawTagFor _ _ _ _ hB).mono ?_; rintro e w1 ⟨p, d, k, v, rfl, hp, hd, hk, hv, hb⟩
  go_wp2
  exact bodyPost_ret (v := .tuple #[.int .i64 p, .int .i64 d, .int .i64 k, .int .i64 v]) (by simp [results, Try.results51, go_sem]) rfl ⟨p, d, k, v, rfl, hp, hd, hk, hv, hb⟩
set_option maxHeartbeats 2000000 in
theorem s_DrawScaleTagged (a : Option Addr) (n cap : Nat) (w : World) (hB : Byts w a n cap) :
    Calls Try.prog 50 #[.slice a n cap] w fun e w' => ∃ p v t k : Int, e = .returned (.tuple #[.int .i64 p, .agg #[.int .i64 v, .int .i64 t], .int .i64 k]) ∧ Dr p ∧ Dr v ∧ Dr t ∧ Dr k ∧ Below w.heap.size w w' := by
  have A0 := bel_alloc w (.cells #[.int .i64 0, .int .i64 0] 26)
  have g0 := Bx.new (w := w) (x := .int .i64 0) (y := .int .i64 0) (t := 26)
  have hB1 := hB.below A0
  have h0 := Cur.new (t := 81) hB1 hB.und (by simp)
  have hs0 : (w.alloc (.cells #[.int .i64 0, .int .i64 0] 26)).heap.size = w.heap.size + 1 := by simp
  rw [hs0] at h0
  have A1 := bel_alloc (w.alloc (.cells #[.int .i64 0, .int .i64 0] 26)) (.cells #[.slice a n cap, .int .i64 0, .int .u64 0] 81)
  have g1 := g0.on A1
  have hs : (w.alloc (.cells #[.int .i64 0, .int .i64 0] 26)).heap.size = w.heap.size + 1 := by simp
  go_enter Try.func50, Try.ntmps50
  go_wp2_with fail
  refine (s_anyPrime _ _ _ _ h0 (by omega)).mono ?_; rintro e w1 ⟨p, rfl, hp1, hp2, hC1, hX1⟩
  have hp : Dr p := ⟨by omega, by omega⟩
  go_wp2_with fail
  refine (s_tagged _ _ _ p _ hC1 (by omega) hp).mono ?_; rintro e w2 ⟨v, t, rfl, hv, ht, hC2, hX2⟩
  go_wp2_with fail
  refine (s_element _ _ _ p _ hC2 (by omega) hp).mono ?_; rintro e w3 ⟨k, rfl, hk, hC3, hX3⟩
  have hX := (hX1.trans hX2).trans hX3
  have k0 := hX.cell g1.1 (by omega)
  have k1 := hX.cell g1.2.1 (by omega)
  have k2 := (hX.frozen (g := w.heap.size) (o := 0) (by simp; omega) (by omega)).trans g1.2.2.1
  have k3 := (hX.frozen (g := w.heap.size) (o := 1) (by simp; omega) (by omega)).trans g1.2.2.2
  have hb3 := Below.bex (A0.trans (A1.mono (by simp))) hX (by omega) (by simp; omega)
  have G := Bx.set2 (w := w3) (b := w.heap.size) ⟨k0, k1, k2, k3⟩ (.int .i64 v) (.int .i64 t)
  have G0 := G.1; have G1 := G.2.1
  clear g0 g1 G
  go_wp2
  exact bodyPost_ret (v := .tuple #[.int .i64 p, .agg #[.int .i64 v, .int .i64 t], .int .i64 k]) (by simp [results, Try.results50, go_sem, G0, G1]) rfl ⟨p, v, t, k, rfl, hp, hv, ht, hk, (hb3.setCell (Nat.le_refl _) _).setCell (Nat.le_refl _) _⟩
set_option maxHeartbeats 2000000 in
theorem s_DrawAddTagged (a : Option Addr) (n cap : Nat) (w : World) (hB : Byts w a n cap) :
    Calls Try.prog 69 #[.slice a n cap] w fun e w' => ∃ p v t v' t' : Int, e = .returned (.tuple #[.int .i64 p, .agg #[.int .i64 v, .int .i64 t], .agg #[.int .i64 v', .int .i64 t']]) ∧ Dr p ∧ Dr v ∧ Dr t ∧ Dr v' ∧ Dr t' ∧ Below w.heap.size w w' := by
  have A0 := bel_alloc w (.cells #[.int .i64 0, .int .i64 0] 26)
  have g0 := Bx.new (w := w) (x := .int .i64 0) (y := .int .i64 0) (t := 26)
  have A1 := bel_alloc (w.alloc (.cells #[.int .i64 0, .int .i64 0] 26)) (.cells #[.int .i64 0, .int .i64 0] 26)
  have f0 := Bx.new (w := w.alloc (.cells #[.int .i64 0, .int .i64 0] 26)) (x := .int .i64 0) (y := .int .i64 0) (t := 26)
  have hs : (w.alloc (.cells #[.int .i64 0, .int .i64 0] 26)).heap.size = w.heap.size + 1 := by simp
  rw [hs] at f0
  have hB1 := (hB.below A0).below A1
  have g1 := g0.on A1
  have A01 := A0.trans (A1.mono (by simp))
  generalize hW : (w.alloc (.cells #[.int .i64 0, .int .i64 0] 26)).alloc (.cells #[.int .i64 0, .int .i64 0] 26) = W at *
  have hsW : W.heap.size = w.heap.size + 2 := by rw [← hW]; simp
  have h0 := Cur.new (t := 81) hB1 hB.und (by omega)
  rw [hsW] at h0
  have A2 := bel_alloc W (.cells #[.slice a n cap, .int .i64 0, .int .u64 0] 81)
  have g2 := g1.on A2
  have f2 := f0.on A2
  have A3 := A01.trans (A2.mono (by omega))
  go_enter Try.func69, Try.ntmps69
  go_wp2_with fail
  refine (s_anyPrime _ _ _ _ h0 (by omega)).mono ?_; rintro e w1 ⟨p, rfl, hp1, hp2, hC1, hX1⟩
  have hp : Dr p := ⟨by omega, by omega⟩
  go_wp2_with fail
  refine (s_tagged _ _ _ p _ hC1 (by omega) hp).mono ?_; rintro e w2 ⟨v, t, rfl, hv, ht, hC2, hX2⟩
  go_wp2_with fail
  refine (s_tagged _ _ _ p _ hC2 (by omega) hp).mono ?_; rintro e w3 ⟨v', t', rfl, hv', ht', hC3, hX3⟩
  have hX := (hX1.trans hX2).trans hX3
  have k0 := hX.cell g2.1 (by omega)
  have k1 := hX.cell g2.2.1 (by omega)
  have k2 := (hX.frozen (g := w.heap.size) (o := 0) (by simp; omega) (by omega)).trans g2.2.2.1
  have k3 := (hX.frozen (g := w.heap.size) (o := 1) (by simp; omega) (by omega)).trans g2.2.2.2
  have k4 := hX.cell f2.1 (by omega)
  have k5 := hX.cell f2.2.1 (by omega)
  have k6 := (hX.frozen (g := w.heap.size + 1) (o := 0) (by simp; omega) (by omega)).trans f2.2.2.1
  have k7 := (hX.frozen (g := w.heap.size + 1) (o := 1) (by simp; omega) (by omega)).trans f2.2.2.2
  have hb3 := Below.bex A3 hX (by omega) (by simp; omega)
  have G := Bx.set2 (w := w3) (b := w.heap.size) ⟨k0, k1, k2, k3⟩ (.int .i64 v) (.int .i64 t)
  have F := Bx.set2 (w := (w3.setCell ⟨w.heap.size, 0, none⟩ (.int .i64 v)).setCell ⟨w.heap.size, 1, none⟩ (.int .i64 t)) (b := w.heap.size + 1) (x := .int .i64 0) (y := .int .i64 0) ⟨(World.cell?_setCell_other _ _ _ _ (by simp)).trans ((World.cell?_setCell_other _ _ _ _ (by simp)).trans k4), (World.cell?_setCell_other _ _ _ _ (by simp)).trans ((World.cell?_setCell_other _ _ _ _ (by simp)).trans k5), by simpa using k6, by simpa using k7⟩ (.int .i64 v') (.int .i64 t')
  have G2 := Bx.other (Bx.other G (p := ⟨w.heap.size + 1, 0, none⟩) (by simp) (.int .i64 v')) (p := ⟨w.heap.size + 1, 1, none⟩) (by simp) (.int .i64 t')
  have G0 := G2.1; have G1 := G2.2.1; have F0 := F.1; have F1 := F.2.1
  clear g0 g1 g2 f0 f2 G G2 F
  go_wp2
  exact bodyPost_ret (v := .tuple #[.int .i64 p, .agg #[.int .i64 v, .int .i64 t], .agg #[.int .i64 v', .int .i64 t']]) (by simp [results, Try.results69, go_sem, G0, G1, F0, F1]) rfl
    ⟨p, v, t, v', t', rfl, hp, hv, ht, hv', ht', (((hb3.setCell (Nat.le_refl _) _).setCell (Nat.le_refl _) _).setCell (Nat.le_succ _) _).setCell (Nat.le_succ _) _⟩
theorem set4 {w : World} {b : Nat} {x y x' y' : Value} (h : Bx w b x y) (k : Bx w (b + 1) x' y') (u v u' v' : Value) :
    Bx ((((w.setCell ⟨b, 0, none⟩ u).setCell ⟨b, 1, none⟩ v).setCell ⟨b + 1, 0, none⟩ u').setCell ⟨b + 1, 1, none⟩ v') b u v ∧ Bx ((((w.setCell ⟨b, 0, none⟩ u).setCell ⟨b, 1, none⟩ v).setCell ⟨b + 1, 0, none⟩ u').setCell ⟨b + 1, 1, none⟩ v') (b + 1) u' v' := by
  have G := Bx.set2 h u v
  have F : Bx ((w.setCell ⟨b, 0, none⟩ u).setCell ⟨b, 1, none⟩ v) (b + 1) x' y' := ⟨(World.cell?_setCell_other _ _ _ _ (by simp)).trans ((World.cell?_setCell_other _ _ _ _ (by simp)).trans k.1), (World.cell?_setCell_other _ _ _ _ (by simp)).trans ((World.cell?_setCell_other _ _ _ _ (by simp)).trans k.2.1), by simpa using k.2.2.1, by simpa using k.2.2.2⟩
  exact ⟨Bx.other (Bx.other G (p := ⟨b + 1, 0, none⟩) (by simp) u') (p := ⟨b + 1, 1, none⟩) (by simp) v', Bx.set2 F u' v'⟩
set_option maxHeartbeats 1000000 in
theorem s_DrawCheatingKeys (a : Option Addr) (n cap : Nat) (w : World) (hB : Byts w a n cap) :
    Calls Try.prog 47 #[.slice a n cap] w fun e w' => ∃ p v t v' t' : Int, e = .returned (.tuple #[.int .i64 p, .agg #[.int .i64 v, .int .i64 t], .agg #[.int .i64 v', .int .i64 t']]) ∧ Dr p ∧ Dr v ∧ Dr t ∧ Dr v' ∧ Dr t' ∧ Below w.heap.size w w' := by
  go_enter Try.func47, Try.ntmps47
  go_wp2_with fail
  refine (s_DrawAddTagged _ _ _ _ (hB.below (by (repeat (first | exact Below.refl _ _ | assumption | refine bel_trans ?_ (bel_alloc _ _) | refine bel_set ?_ (by first | (dsimp only; omega) | (simp; omega) | simp) _ | refine bel_trans ?_ (bel_drewN _ _) | refine bel_trans ?_ (bel_drew _) | refine bel_trans ?_ (by assumption)))))).mono ?_; rintro e w1 ⟨p, v, t, v', t', rfl, hp, hv, ht, hv', ht', hb⟩
  obtain ⟨b0, b1⟩ := boxes2 hb
  obtain ⟨G, F⟩ := set4 b0 b1 (.int .i64 v) (.int .i64 t) (.int .i64 v') (.int .i64 t')
  obtain ⟨k0, k1, k2, k3⟩ := b0
  obtain ⟨k4, k5, k6, k7⟩ := b1
  have G0 := G.1; have G1 := G.2.1; have F0 := F.1; have F1 := F.2.1
  have hbb : Below w.heap.size w w1 := by (repeat (first | exact Below.refl _ _ | assumption | refine bel_trans ?_ (bel_alloc _ _) | refine bel_set ?_ (by first | (dsimp only; omega) | (simp; omega) | simp) _ | refine bel_trans ?_ (bel_drewN _ _) | refine bel_trans ?_ (bel_drew _) | refine bel_trans ?_ (by assumption)))
  clear G F hb
  go_wp2
  exact bodyPost_ret (v := .tuple #[.int .i64 p, .agg #[.int .i64 v, .int .i64 t], .agg #[.int .i64 v', .int .i64 t']]) (by simp [results, Try.results47, go_sem, G0, G1, F0, F1]) rfl
    ⟨p, v, t, v', t', rfl, hp, hv, ht, hv', ht', (((hbb.setCell (Nat.le_refl _) _).setCell (Nat.le_refl _) _).setCell (Nat.le_succ _) _).setCell (Nat.le_succ _) _⟩
set_option maxHeartbeats 4000000 in
theorem s_DrawTagHolds (a : Option Addr) (n cap : Nat) (w : World) (hB : Byts w a n cap) :
    Calls Try.prog 49 #[.slice a n cap] w fun e w' => ∃ p d k v t : Int, e = .returned (.tuple #[.int .i64 p, .int .i64 d, .int .i64 k, .agg #[.int .i64 v, .int .i64 t]]) ∧ Dr p ∧ Dr d ∧ Dr k ∧ Dr v ∧ Dr t ∧ Below w.heap.size w w' := by
  have A0 := bel_alloc w (.cells #[.int .i64 0, .int .i64 0] 26)
  have g0 := Bx.new (w := w) (x := .int .i64 0) (y := .int .i64 0) (t := 26)
  have hB1 := hB.below A0
  have h0 := Cur.new (t := 81) hB1 hB.und (by simp)
  have hs0 : (w.alloc (.cells #[.int .i64 0, .int .i64 0] 26)).heap.size = w.heap.size + 1 := by simp
  rw [hs0] at h0
  have A1 := bel_alloc (w.alloc (.cells #[.int .i64 0, .int .i64 0] 26)) (.cells #[.slice a n cap, .int .i64 0, .int .u64 0] 81)
  have g1 := g0.on A1
  go_enter Try.func49, Try.ntmps49
  go_wp2_with fail
  refine (s_anyPrime _ _ _ _ h0 (by omega)).mono ?_; rintro e w1 ⟨p, rfl, hp1, hp2, hC1, hX1⟩
  have hp : Dr p := ⟨by omega, by omega⟩
  go_wp2_with fail
  refine (s_element _ _ _ p _ hC1 (by omega) hp).mono ?_; rintro e w2 ⟨d, rfl, hd, hC2, hX2⟩
  go_wp2_with fail
  refine (s_element _ _ _ p _ hC2 (by omega) hp).mono ?_; rintro e w3 ⟨k, rfl, hk, hC3, hX3⟩
  go_wp2_with fail
  refine (s_tagged _ _ _ p _ hC3 (by omega) hp).mono ?_; rintro e w4 ⟨v, t, rfl, hv, ht, hC4, hX4⟩
  have hX := ((hX1.trans hX2).trans hX3).trans hX4
  have k0 := hX.cell g1.1 (by omega)
  have k1 := hX.cell g1.2.1 (by omega)
  have k2 := (hX.frozen (g := w.heap.size) (o := 0) (by simp; omega) (by omega)).trans g1.2.2.1
  have k3 := (hX.frozen (g := w.heap.size) (o := 1) (by simp; omega) (by omega)).trans g1.2.2.2
  have G4 : Bx w4 w.heap.size (.int .i64 0) (.int .i64 0) := ⟨k0, k1, k2, k3⟩
  have hb4 := Below.bex (A0.trans (A1.mono (by simp))) hX (by omega) (by simp; omega)
  have hl4 := hC4.lt
  have A4 := bel_alloc w4 (.cells #[.int .i64 v, .int .i64 t] 26)
  have g4 := Bx.new (w := w4) (x := .int .i64 v) (y := .int .i64 t) (t := 26)
  have hC5 := hC4.below A4
  have G5 := G4.on A4
  clear g0 g1 k0 k1 k2 k3 G4 hX1 hX2 hX3 hX4 hX hC1 hC2 hC3 hC4 h0 A0 A1
  go_wp2_with fail
  refine (s_one _ _ _ 3 _ hC5 (by omega) (by omega)).mono ?_; rintro e w5 ⟨q, rfl, hC6, hX6⟩
  have x0 := hX6.cell g4.1 (by omega)
  have x1 := hX6.cell g4.2.1 (by omega)
  have x2 := (hX6.frozen (g := w4.heap.size) (o := 0) (by simp) (by omega)).trans g4.2.2.1
  have x3 := (hX6.frozen (g := w4.heap.size) (o := 1) (by simp) (by omega)).trans g4.2.2.2
  have r0 := hX6.cell G5.1 (by omega)
  have r1 := hX6.cell G5.2.1 (by omega)
  have r2 := (hX6.frozen (g := w.heap.size) (o := 0) (by simp; omega) (by omega)).trans G5.2.2.1
  have r3 := (hX6.frozen (g := w.heap.size) (o := 1) (by simp; omega) (by omega)).trans G5.2.2.2
  have hb5 := Below.bex (hb4.trans (A4.mono (by omega))) hX6 (by omega) (by simp; omega)
  have hsz5 := hX6.size
  have hlt5 : w.heap.size < w4.heap.size := by omega
  clear g4 G5 hX6 hC5 hb4 A4
  obtain ⟨pd1, pd2⟩ := hp; obtain ⟨dd1, dd2⟩ := hd; obtain ⟨kd1, kd2⟩ := hk; obtain ⟨vd1, vd2⟩ := hv; obtain ⟨td1, td2⟩ := ht
  have ne1 : w4.heap.size ≠ w.heap.size := by omega
  cases q with
  | true =>
    go_wp2
    go_region_held3 (fun W => W.cell? ⟨w4.heap.size, 0, none⟩ = some (.int .i64 v) ∧ W.cell? ⟨w4.heap.size, 1, none⟩ = some (.int .i64 t)) (first | exact ⟨x0, x1⟩ | exact ⟨far2 x0 ne1, far2 x1 ne1⟩) (fail)
    have G := Bx.set2 (w := w5) (b := w.heap.size) ⟨r0, r1, r2, r3⟩ (.int .i64 v) (.int .i64 t)
    have G0 := G.1; have G1 := G.2.1
    clear G
    go_wp2
    exact bodyPost_ret (v := .tuple #[.int .i64 p, .int .i64 d, .int .i64 k, .agg #[.int .i64 v, .int .i64 t]]) (by simp [results, Try.results49, go_sem, G0, G1]) rfl
      ⟨p, d, k, v, t, rfl, ⟨pd1, pd2⟩, ⟨dd1, dd2⟩, ⟨kd1, kd2⟩, ⟨vd1, vd2⟩, ⟨td1, td2⟩, ((hb5.setCell (Nat.le_refl _) _).setCell (Nat.le_refl _) _).drew⟩
  | false =>
    obtain ⟨m1, m2⟩ : -1000000000000 ≤ v * d ∧ v * d ≤ 1000000000000 := mul_abs vd1 vd2 dd1 dd2
    have e1 : IntKind.i64.wrap (v * d) = v * d := IntWalk.i64_in _ (by omega)
    have e2 : IntKind.i64.wrap (v * d + k) = v * d + k := IntWalk.i64_in _ (by omega)
    obtain ⟨m, hm, mm1, mm2⟩ : ∃ m : Int, (if 1 < p then p else 1) = m ∧ 1 ≤ m ∧ m ≤ 1000000 := by
      by_cases h1 : 1 < p
      · exact ⟨p, if_pos h1, by omega, by omega⟩
      · exact ⟨1, if_neg h1, by omega, by omega⟩
    have tm := emod_bd (n := v * d + k) (p := m) mm1
    have HM := Lib.hid hm; clear hm
    go_wp2
    go_region_held3 (fun W => W.cell? ⟨w4.heap.size, 0, none⟩ = some (.int .i64 v)) (first | exact x0 | exact (World.cell?_setCell_other _ _ _ _ (by simp)).trans x0) (first | (go_at_call 72; refine (s_l1Most _ _ _).mono ?_; rintro e w' ⟨rfl, rfl⟩; rw [HM.out]) | (go_at_call 58; refine (s_btMod _ _ _ (by omega) (by omega) (by omega) (by omega)).mono ?_; rintro e w' ⟨rfl, rfl⟩))
    obtain ⟨t2, ht2⟩ : ∃ t2, t2 = (v * d + k) % m := ⟨_, rfl⟩
    rw [← ht2] at tm
    rw [← ht2]
    clear ht2
    obtain ⟨tm1, tm2⟩ := tm
    have y0 : (w5.setCell ⟨w4.heap.size, 1, none⟩ (.int .i64 t2)).cell? ⟨w4.heap.size, 0, none⟩ = some (.int .i64 v) := (World.cell?_setCell_other _ _ _ _ (by simp)).trans x0
    have y1 : (w5.setCell ⟨w4.heap.size, 1, none⟩ (.int .i64 t2)).cell? ⟨w4.heap.size, 1, none⟩ = some (.int .i64 t2) := World.cell?_setCell_same _ _ _ x1
    have R : Bx (w5.setCell ⟨w4.heap.size, 1, none⟩ (.int .i64 t2)) w.heap.size (.int .i64 0) (.int .i64 0) := Bx.other ⟨r0, r1, r2, r3⟩ (by simp only []; omega) _
    have hb6 : Below w.heap.size w (w5.setCell ⟨w4.heap.size, 1, none⟩ (.int .i64 t2)) := hb5.setCell (by simp only []; omega) _
    clear hb5 x0 x1 x2 x3 r0 r1 r2 r3 HM e1 e2
    generalize (w5.setCell ⟨w4.heap.size, 1, none⟩ (.int .i64 t2)) = w6 at *
    obtain ⟨r0, r1, r2, r3⟩ := R
    go_wp2
    go_region_held3 (fun W => W.cell? ⟨w4.heap.size, 0, none⟩ = some (.int .i64 v) ∧ W.cell? ⟨w4.heap.size, 1, none⟩ = some (.int .i64 t2)) (first | exact ⟨y0, y1⟩ | exact ⟨far2 y0 ne1, far2 y1 ne1⟩) (fail)
    have G := Bx.set2 (w := w6) (b := w.heap.size) ⟨r0, r1, r2, r3⟩ (.int .i64 v) (.int .i64 t2)
    have G0 := G.1; have G1 := G.2.1
    clear G
    go_wp2
    exact bodyPost_ret (v := .tuple #[.int .i64 p, .int .i64 d, .int .i64 k, .agg #[.int .i64 v, .int .i64 t2]]) (by simp [results, Try.results49, go_sem, G0, G1]) rfl
      ⟨p, d, k, v, t2, rfl, ⟨pd1, pd2⟩, ⟨dd1, dd2⟩, ⟨kd1, kd2⟩, ⟨vd1, vd2⟩, ⟨by omega, by omega⟩, by first | exact ((hb6.setCell (Nat.le_refl _) _).setCell (Nat.le_refl _) _).drew | exact ((hb6.setCell (Nat.le_refl _) _).setCell (Nat.le_refl _) _).drew.drew⟩
end Go.Proofs.Ytnamhfaacamihaa
