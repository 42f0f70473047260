/-
  The draw of any arithmetic circuit.
-/
import Derived.Test.YtfichpppjpgahaaGreatDoorBl
namespace Go.Proofs.YtfichpppjpgahaaGreatDoor
open Go.RowKit
set_option linter.unusedVariables false
set_option linter.unusedSimpArgs false
set_option maxRecDepth 10000

/-- The box gets other contents. -/
theorem AnyA.reset {W : World} {L g : Nat} {x0 x1 x2 : Int} {v2 v3 : Value} {n m : Nat} {gs os : List Int} {y0 y1 y2 y3 y4 : Value} (hB : B5w W g y0 y1 y2 y3 y4) (r : CirO W L v2 n gs v3 m os) (d2 : v2.ownBlock ≠ some g) (d3 : v3.ownBlock ≠ some g) (hL : L ≤ g) :
    AnyA (((((W.setCell ⟨g, 0, none⟩ (.int .i64 x0)).setCell ⟨g, 1, none⟩ (.int .i64 x1)).setCell ⟨g, 2, none⟩ (.int .i64 x2)).setCell ⟨g, 3, none⟩ v2).setCell ⟨g, 4, none⟩ v3) L g x0 x1 x2 v2 n gs v3 m os :=
  ⟨hB.set _ _ _ _ _, ((((r.kept (grow_set _ g 0 _) (ne_some d2) (ne_some d3)).kept (grow_set _ g 1 _) (ne_some d2) (ne_some d3)).kept (grow_set _ g 2 _) (ne_some d2) (ne_some d3)).kept (grow_set _ g 3 _) (ne_some d2) (ne_some d3)).kept (grow_set _ g 4 _) (ne_some d2) (ne_some d3), d2, d3, hL⟩
/-- What 'anyArith' hands back. -/
def AnyArRet (b B K : Nat) (w : World) (e : Ending) (w' : World) : Prop :=
  ∃ (p x0 x1 : Int) (v2 : Value) (n : Nat) (gs : List Int) (v3 : Value) (m : Nat) (os : List Int), e = .returned (.agg #[.int .i64 p, .int .i64 x0, .int .i64 x1, v2, v3]) ∧ (1 ≤ p ∧ p ≤ 253) ∧ (-1 ≤ x0 ∧ x0 ≤ 9) ∧ (0 ≤ x1 ∧ x1 ≤ 2) ∧ CirO w' w.heap.size v2 n gs v3 m os ∧ n ≤ 101 ∧ m ≤ 21 ∧ Cur w' b B (K + 300) ∧ Bex b w w'
set_option maxHeartbeats 8000000 in
theorem s_anyArith (b B K : Nat) (w : World) (h : Cur w b B K) (hK : K ≤ 90000) :
    Calls Tryz.prog 22 #[.pointer (some ⟨b, 0, none⟩)] w (AnyArRet b B K w) := by
  have hbl := h.lt
  have hbs := h.base
  go_enter Tryz.func22, Tryz.ntmps22
  have hC0 := h.below (bel_alloc w (.cells #[.int .i64 0, .int .i64 0, .int .i64 0, .slice none 0 0, .slice none 0 0] 26))
  have RC := Lib.hid (B5w.new (w := w) (x0 := .int .i64 0) (x1 := .int .i64 0) (x2 := .int .i64 0) (x3 := .slice none 0 0) (x4 := .slice none 0 0) (t := 26))
  have hzw : (w.alloc (.cells #[.int .i64 0, .int .i64 0, .int .i64 0, .slice none 0 0, .slice none 0 0] 26)).heap.size = w.heap.size + 1 := by simp
  go_wp2_with fail
  refine (s_arith b B K _ hC0 (by omega)).mono ?_; rintro e w1 ⟨p, i0, i1, v2, n, gs, v3, m, os, rfl, ⟨hp0, hp1⟩, ⟨hi0, hi0'⟩, ⟨hi1, hi1'⟩, hR, hn, hm, hC1, hX1, _, _⟩
  have hz1 := hX1.size
  rw [hzw] at hR hz1
  have hA := AnyA.new (t := 26) (x0 := p) (x1 := i0) (x2 := i1) hR hz1
  have A1 := bel_alloc w1 (.cells #[.int .i64 p, .int .i64 i0, .int .i64 i1, v2, v3] 26)
  obtain ⟨ga, gc, rfl⟩ := own_sl hR.og
  obtain ⟨oa, oc, rfl⟩ := own_sl hR.oo
  have hC2 := hC1.below A1
  have hX2 := hX1.trans (Bex.of A1)
  have hbg : b < w.heap.size + 1 := by omega
  have hgL := hA.Lg
  obtain ⟨⟨c0, c1, c2, c3, c4⟩, _, _, _, _, _⟩ := id hA.box
  have HA := Lib.hid hA; have HX := Lib.hid hX2
  clear hA hX2 hX1 hC0 hC1 A1 hR h
  go_wp2_with fail
  refine (s_pick b B _ 30 _ hC2 (by omega) (by omega)).mono ?_; rintro e w3 ⟨k, rfl, hk, hk', hC3, hX3⟩
  replace HA := Lib.hid (HA.out.bex hX3 hbg); replace HX := Lib.hid (HX.out.trans hX3); have HC := Lib.hid hC3
  clear c0 c1 c2 c3 c4 hC2 hC3 hX3
  by_cases k0 : k = 0
  · subst k0
    obtain ⟨hCa, hIa, hOa, hXa⟩ := among_lit (t := 3) [1, 4, 251, 253] HC.out rfl rfl (by simp) (by intro x hx; simp at hx; unfold Fits; omega)
    go_wp2_with fail
    refine (s_among b B _ _ 4 4 [1, 4, 251, 253] _ hCa (by omega) hIa (by omega) (by omega) hOa).mono ?_; rintro e w5 ⟨u, rfl, hu, hC5, hX5⟩
    simp at hu
    have hA5 := HA.out.bex (hXa.trans hX5) hbg
    obtain ⟨⟨c0, c1, c2, c3, c4⟩, f0, f1, f2, f3, f4⟩ := id hA5.box
    have HA := Lib.hid (hA5.set0 u)
    have HX := Lib.hid ((HX.out.trans (hXa.trans hX5)).store1A (p := ⟨w1.heap.size, 0, none⟩) (u := .int .i64 u) (by simp only []; omega))
    have HC := Lib.hid (hC5.store (p := ⟨w1.heap.size, 0, none⟩) (u := .int .i64 u) (by simp only []; omega) (by simp only []; omega))
    obtain ⟨W6, hW6⟩ : ∃ X, w5.setCell ⟨w1.heap.size, 0, none⟩ (.int .i64 u) = X := ⟨_, rfl⟩
    rw [hW6] at HA HX HC
    clear hCa hIa hOa hXa hC5 hX5 hA5
    obtain ⟨c0, c1, c2, c3, c4⟩ := id HA.out.box.r
    have R5 := RC.out.bex HX.out (by omega)
    have E5 := Lib.hid (R5.set (.int .i64 (u)) (.int .i64 (i0)) (.int .i64 (i1)) (.slice ga n gc) (.slice oa m oc))
    obtain ⟨⟨r0, r1, r2, r3, r4⟩, f0, f1, f2, f3, f4⟩ := R5
    go_wp2
    obtain ⟨E0, E1, E2, E3, E4⟩ := id E5.out.r
    exact bodyPost_ret (v := .agg #[.int .i64 (u), .int .i64 (i0), .int .i64 (i1), .slice ga n gc, .slice oa m oc]) (by simp [results, Tryz.results22, go_sem, E0, E1, E2, E3, E4]) rfl ⟨_, _, _, _, n, _, _, m, _, rfl, ⟨by omega, by omega⟩, ⟨by omega, by omega⟩, ⟨by omega, by omega⟩, (HA.out.r.bex (Bex.only5 _ _ _ _ _ _) (by omega)).base (by omega), by omega, by omega, (HC.out.set5 (by omega) (by omega)).more (by omega), (((Bex.of (bel_alloc w _)).trans HX.out).set5 (Nat.le_refl _) _ _ _ _ _)⟩
  · have kb0 : ((k : Int) == 0) = false := by simp only [beq_eq_false_iff_ne, ne_eq]; omega
    by_cases k1 : k = 1
    · subst k1
      obtain ⟨hCa, hIa, hOa, hXa⟩ := among_lit (t := 3) [-1, 8, 9] HC.out rfl rfl (by simp) (by intro x hx; simp at hx; unfold Fits; omega)
      go_wp2_with fail
      refine (s_among b B _ _ 3 3 [-1, 8, 9] _ hCa (by omega) hIa (by omega) (by omega) hOa).mono ?_; rintro e w5 ⟨u, rfl, hu, hC5, hX5⟩
      simp at hu
      have hA5 := HA.out.bex (hXa.trans hX5) hbg
      obtain ⟨⟨c0, c1, c2, c3, c4⟩, f0, f1, f2, f3, f4⟩ := id hA5.box
      have HA := Lib.hid (hA5.set1 u)
      have HX := Lib.hid ((HX.out.trans (hXa.trans hX5)).store1A (p := ⟨w1.heap.size, 1, none⟩) (u := .int .i64 u) (by simp only []; omega))
      have HC := Lib.hid (hC5.store (p := ⟨w1.heap.size, 1, none⟩) (u := .int .i64 u) (by simp only []; omega) (by simp only []; omega))
      obtain ⟨W6, hW6⟩ : ∃ X, w5.setCell ⟨w1.heap.size, 1, none⟩ (.int .i64 u) = X := ⟨_, rfl⟩
      rw [hW6] at HA HX HC
      clear hCa hIa hOa hXa hC5 hX5 hA5
      obtain ⟨c0, c1, c2, c3, c4⟩ := id HA.out.box.r
      have R5 := RC.out.bex HX.out (by omega)
      have E5 := Lib.hid (R5.set (.int .i64 (p)) (.int .i64 (u)) (.int .i64 (i1)) (.slice ga n gc) (.slice oa m oc))
      obtain ⟨⟨r0, r1, r2, r3, r4⟩, f0, f1, f2, f3, f4⟩ := R5
      go_wp2
      obtain ⟨E0, E1, E2, E3, E4⟩ := id E5.out.r
      exact bodyPost_ret (v := .agg #[.int .i64 (p), .int .i64 (u), .int .i64 (i1), .slice ga n gc, .slice oa m oc]) (by simp [results, Tryz.results22, go_sem, E0, E1, E2, E3, E4]) rfl ⟨_, _, _, _, n, _, _, m, _, rfl, ⟨by omega, by omega⟩, ⟨by omega, by omega⟩, ⟨by omega, by omega⟩, (HA.out.r.bex (Bex.only5 _ _ _ _ _ _) (by omega)).base (by omega), by omega, by omega, (HC.out.set5 (by omega) (by omega)).more (by omega), (((Bex.of (bel_alloc w _)).trans HX.out).set5 (Nat.le_refl _) _ _ _ _ _)⟩
    · have kb1 : ((k : Int) == 1) = false := by simp only [beq_eq_false_iff_ne, ne_eq]; omega
      by_cases k2 : k = 2
      · subst k2
        obtain ⟨N, hN⟩ : ∃ N : Int, (i0 : Int) + i1 + n = N := ⟨_, rfl⟩
        have hN9 : 0 ≤ N ∧ N ≤ 1000 := by omega
        obtain ⟨c0, c1, c2, c3, c4⟩ := id HA.out.box.r
        have d0 := cell_on c0 (bel_drew _); have d1 := cell_on c1 (bel_drew _); have d2 := cell_on c2 (bel_drew _); have d3 := cell_on c3 (bel_drew _); have d4 := cell_on c4 (bel_drew _)
        clear c0 c1 c2 c3 c4
        go_wp2_with fail
        go_region_law (first
          | (refine step_appX (w.heap.size + 1) m _ os u _ (by rfl) _ _ (by rfl) (by rfl) (by rfl) (by simp [World.cell?_alloc_at]) HA6a.out.r.oo (by have := HA6a.out.lt; omega) (by omega) ?_; intro v9 w9 hv9 hb9 hg9 ho9; obtain ⟨r9, k9, rfl⟩ := own_sl hv9; have hB9 := HA6a.out.box.grown hg9 (fun e => HA6a.out.d3 e.symm); have k4 := hB9.r.c4; have kf := hB9.f4)
          | (go_simp; go_at_call 54; refine (s_arWires p i0 i1 ga n gc oa m oc _ (by omega) (by omega) (by omega)).mono ?_; rintro e w5 ⟨he, hb5⟩; rw [hN] at he; subst he; have HA5 := Lib.hid ((HA.out.below (bel_drew _)).below hb5); have HC5 := Lib.hid ((HC.out.below (bel_drew _)).below hb5); have HX5 := Lib.hid ((HX.out.trans (Bex.of (bel_drew _))).trans (Bex.of hb5)); obtain ⟨hCa, hIa, hOa, hXa⟩ := among_lit (t := 3) [-1, N] HC5.out rfl rfl (by simp) (by intro x hx; simp at hx; unfold Fits; omega); have e4 := HA5.out.box.r.c4; have e4a := cell_on e4 (bel_alloc w5 (.cells #[.int .i64 (-1), .int .i64 N] 3)))
          | (go_simp; go_at_call 56; refine (s_among b B _ _ 2 2 [-1, N] _ hCa (by omega) hIa (by omega) (by omega) hOa).mono ?_; rintro e w6 ⟨u, rfl, hu, hC6, hX6⟩; simp at hu; have HA6 := Lib.hid (HA5.out.bex (hXa.trans hX6) hbg); have HC6 := Lib.hid hC6; have HX6 := Lib.hid (HX5.out.trans (hXa.trans hX6)); have HA6a := Lib.hid (HA6.out.below (bel_alloc w6 (.cells #[.int .i64 u] 3))); have f4 := HA6.out.box.r.c4; have f4a := HA6a.out.box.r.c4))
        all_goals
          have HA9 := Lib.hid (HA6a.out.outs hv9 hg9 ho9 (fun x hx => by rcases List.mem_append.1 hx with e | e; exact HA6a.out.r.fo.out x e; simp at e; subst e; unfold Fits; omega))
          have HC9 := Lib.hid (((HC6.out.below (bel_alloc w6 (.cells #[.int .i64 u] 3))).onB hb9 hbg).store (p := ⟨w1.heap.size, 4, none⟩) (u := .slice r9 (m + 1) k9) (by simp only []; omega) (by simp only []; omega))
          have HX9 := Lib.hid (((HX6.out.trans (Bex.of (bel_alloc w6 (.cells #[.int .i64 u] 3)))).thenB (hb9.mono (Nat.le_of_eq hzw))).store1A (p := ⟨w1.heap.size, 4, none⟩) (u := .slice r9 (m + 1) k9) (by simp only []; omega))
          obtain ⟨W6, hW6⟩ : ∃ X, w9.setCell ⟨w1.heap.size, 4, none⟩ (.slice r9 (m + 1) k9) = X := ⟨_, rfl⟩
          rw [hW6] at HA9 HX9 HC9
          clear hCa hIa hOa hXa hC6 hX6 hv9 hb9 hg9 ho9 hB9 HA6a HA6 HC6 HX6 HA5 HC5 HX5 HA HX HC d0 d1 d2 d3 d4 e4 e4a f4 f4a
          obtain ⟨c0, c1, c2, c3, c4⟩ := id HA9.out.box.r
          have R5 := RC.out.bex HX9.out (by omega)
          have E5 := Lib.hid (R5.set (.int .i64 (p)) (.int .i64 (i0)) (.int .i64 (i1)) (.slice ga n gc) (.slice r9 (m + 1) k9))
          obtain ⟨⟨r0, r1, r2, r3, r4⟩, f0, f1, f2, f3, f4⟩ := R5
          go_wp2
          obtain ⟨E0, E1, E2, E3, E4⟩ := id E5.out.r
          exact bodyPost_ret (v := .agg #[.int .i64 (p), .int .i64 (i0), .int .i64 (i1), .slice ga n gc, .slice r9 (m + 1) k9]) (by simp [results, Tryz.results22, go_sem, E0, E1, E2, E3, E4]) rfl ⟨_, _, _, _, n, _, _, m + 1, _, rfl, ⟨by omega, by omega⟩, ⟨by omega, by omega⟩, ⟨by omega, by omega⟩, (HA9.out.r.bex (Bex.only5 _ _ _ _ _ _) (by omega)).base (by omega), by omega, by omega, (HC9.out.set5 (by omega) (by omega)).more (by omega), (((Bex.of (bel_alloc w _)).trans HX9.out).set5 (Nat.le_refl _) _ _ _ _ _)⟩
      · have kb2 : ((k : Int) == 2) = false := by simp only [beq_eq_false_iff_ne, ne_eq]; omega
        by_cases k3 : k = 3
        · subst k3
          by_cases hn0 : 0 < n
          · have hn0i : (0 : Int) < (n : Int) := by omega
            obtain ⟨q, qc, hq, hq1, hq2⟩ := HA.out.row hn0
            simp only [Value.slice.injEq, true_and] at hq; obtain ⟨rfl, rfl⟩ := hq
            obtain ⟨c0, c1, c2, c3, c4⟩ := id HA.out.box.r
            have d0 := cell_on c0 (bel_drew _); have d1 := cell_on c1 (bel_drew _); have d2 := cell_on c2 (bel_drew _); have d3 := cell_on c3 (bel_drew _); have d4 := cell_on c4 (bel_drew _)
            clear c0 c1 c2 c3 c4
            have tk0 : True := trivial
            go_wp2_with fail
            go_region_law (first
              | (have t0 := tk0; clear t0 tk0; go_simp; go_at_call 55; refine (s_pick b B _ n _ (HC.out.below (bel_drew _)) (by omega) (by omega)).mono ?_; rintro e w4 ⟨i, rfl, hi, hi', hC4, hX4⟩; have hin : i < n := (by omega); have hini : (i : Int) < (n : Int) := (by omega); have HA4 := Lib.hid ((HA.out.below (bel_drew _)).bex hX4 hbg); have HC4 := Lib.hid hC4; have HX4 := Lib.hid ((HX.out.trans (Bex.of (bel_drew _))).trans hX4); have e3 := HA4.out.box.r.c3; have tk1 : True := trivial)
              | (have t1 := tk1; clear t1 tk1; go_simp; go_at_call 55; refine (s_pick b B _ 6 _ HC4.out (by omega) (by omega)).mono ?_; rintro e w5 ⟨y, rfl, hy, hy', hC5, hX5⟩; have ey := IntWalk.i64_in ((y : Int) - 1) (by omega); have HA5 := Lib.hid (HA4.out.bex hX5 hbg); have HC5 := Lib.hid hC5; have HX5 := Lib.hid (HX4.out.trans hX5); have h3 := HA5.out.box.r.c3; have tk2 : True := trivial)
              | (have t2 := tk2; clear t2 tk2; go_simp; go_at_call 55; refine (s_pick b B _ 9 _ HC5.out (by omega) (by omega)).mono ?_; rintro e w6 ⟨z, rfl, hz, hz', hC6, hX6⟩; have HA6 := Lib.hid (HA5.out.bex hX6 hbg); have HC6 := Lib.hid hC6; have HX6 := Lib.hid (HX5.out.trans hX6); have i3 := HA6.out.box.r.c3; have tk3 : True := trivial)
              | (have t3 := tk3; clear t3 tk3; go_simp; go_at_call 55; refine (s_pick b B _ 3 _ HC6.out (by omega) (by omega)).mono ?_; rintro e w7 ⟨x, rfl, hx, hx', hC7, hX7⟩; have HA7 := Lib.hid (HA6.out.bex hX7 hbg); have HC7 := Lib.hid hC7; have HX7 := Lib.hid (HX6.out.trans hX7); have j3 := HA7.out.box.r.c3; obtain ⟨⟨uz, cz⟩, fz⟩ := HA7.out.cells (j := i * 3) (by omega); obtain ⟨⟨uz', cz'⟩, fz'⟩ := HA7.out.cells (j := i * 3 + 1) (by omega); obtain ⟨⟨uz'', cz''⟩, fz''⟩ := HA7.out.cells (j := i * 3 + 2) (by omega)))
            all_goals
              have HA9 := Lib.hid (AnyA.put (j := i * 3 + 2) (u := (x : Int)) (AnyA.put (j := i * 3 + 1) (u := (z : Int)) (AnyA.put (j := i * 3) (u := ((y : Int) - 1)) HA7.out (by unfold Fits; omega)) (by unfold Fits; omega)) (by unfold Fits; omega))
              have HC9 := Lib.hid (Cur.store (p := ⟨q, i * 3 + 2, none⟩) (u := .int .i64 (x : Int)) (Cur.store (p := ⟨q, i * 3 + 1, none⟩) (u := .int .i64 (z : Int)) (Cur.store (p := ⟨q, i * 3, none⟩) (u := .int .i64 ((y : Int) - 1)) HC7.out (by simp only []; omega) (by simp only []; omega)) (by simp only []; omega) (by simp only []; omega)) (by simp only []; omega) (by simp only []; omega))
              have HX9 := Lib.hid (Bex.store1A (p := ⟨q, i * 3 + 2, none⟩) (u := .int .i64 (x : Int)) (Bex.store1A (p := ⟨q, i * 3 + 1, none⟩) (u := .int .i64 (z : Int)) (Bex.store1A (p := ⟨q, i * 3, none⟩) (u := .int .i64 ((y : Int) - 1)) HX7.out (by simp only []; omega)) (by simp only []; omega)) (by simp only []; omega))
              obtain ⟨W6, hW6⟩ : ∃ X, (((w7.setCell ⟨q, i * 3, none⟩ (.int .i64 ((y : Int) - 1))).setCell ⟨q, i * 3 + 1, none⟩ (.int .i64 (z : Int))).setCell ⟨q, i * 3 + 2, none⟩ (.int .i64 (x : Int))) = X := ⟨_, rfl⟩
              rw [hW6] at HA9 HX9 HC9
              clear hC4 hX4 hC5 hX5 hC6 hX6 hC7 hX7 HA7 HC7 HX7 HA6 HC6 HX6 HA5 HC5 HX5 HA4 HC4 HX4 HA HX HC d0 d1 d2 d3 d4 e3 h3 i3 j3 cz fz cz' fz' cz'' fz''
              obtain ⟨c0, c1, c2, c3, c4⟩ := id HA9.out.box.r
              have R5 := RC.out.bex HX9.out (by omega)
              have E5 := Lib.hid (R5.set (.int .i64 (p)) (.int .i64 (i0)) (.int .i64 (i1)) (.slice (some ⟨q, 0, none⟩) n gc) (.slice oa m oc))
              obtain ⟨⟨r0, r1, r2, r3, r4⟩, f0, f1, f2, f3, f4⟩ := R5
              go_wp2
              obtain ⟨E0, E1, E2, E3, E4⟩ := id E5.out.r
              exact bodyPost_ret (v := .agg #[.int .i64 (p), .int .i64 (i0), .int .i64 (i1), .slice (some ⟨q, 0, none⟩) n gc, .slice oa m oc]) (by simp [results, Tryz.results22, go_sem, E0, E1, E2, E3, E4]) rfl ⟨_, _, _, _, n, _, _, m, _, rfl, ⟨by omega, by omega⟩, ⟨by omega, by omega⟩, ⟨by omega, by omega⟩, (HA9.out.r.bex (Bex.only5 _ _ _ _ _ _) (by omega)).base (by omega), by omega, by omega, (HC9.out.set5 (by omega) (by omega)).more (by omega), (((Bex.of (bel_alloc w _)).trans HX9.out).set5 (Nat.le_refl _) _ _ _ _ _)⟩
          · have hn0i : ¬ (0 : Int) < (n : Int) := by omega
            obtain ⟨c0, c1, c2, c3, c4⟩ := id HA.out.box.r
            have R5 := RC.out.bex HX.out (by omega)
            have E5 := Lib.hid (R5.set (.int .i64 (p)) (.int .i64 (i0)) (.int .i64 (i1)) (.slice ga n gc) (.slice oa m oc))
            obtain ⟨⟨r0, r1, r2, r3, r4⟩, f0, f1, f2, f3, f4⟩ := R5
            go_wp2
            obtain ⟨E0, E1, E2, E3, E4⟩ := id E5.out.r
            exact bodyPost_ret (v := .agg #[.int .i64 (p), .int .i64 (i0), .int .i64 (i1), .slice ga n gc, .slice oa m oc]) (by simp [results, Tryz.results22, go_sem, E0, E1, E2, E3, E4]) rfl ⟨_, _, _, _, n, _, _, m, _, rfl, ⟨by omega, by omega⟩, ⟨by omega, by omega⟩, ⟨by omega, by omega⟩, (HA.out.r.bex (Bex.only5 _ _ _ _ _ _) (by omega)).base (by omega), by omega, by omega, (HC.out.set5 (by omega) (by omega)).more (by omega), (((Bex.of (bel_alloc w _)).trans HX.out).set5 (Nat.le_refl _) _ _ _ _ _)⟩
        · have kb3 : ((k : Int) == 3) = false := by simp only [beq_eq_false_iff_ne, ne_eq]; omega
          by_cases k4 : k = 4
          · subst k4
            have A3 := bel_alloc w3 (.cells #[.int .i64 1] 3)
            have hA3 := HA.out.below A3
            have hgl := HA.out.lt
            obtain ⟨⟨c0, c1, c2, c3, c4⟩, f0, f1, f2, f3, f4⟩ := id HA.out.box
            have hR : CirO (w3.alloc (.cells #[.int .i64 1] 3)) (w.heap.size + 1) (.slice none 0 0) 0 [] (.slice (some ⟨w3.heap.size, 0, none⟩) 1 1) 1 [1] := ⟨World.ownsRow_nil _ _ _ _, (show World.ownsRow _ _ _ _ _ _ (ivs [1]) from World.ownsRow_lit w3 #[.int .i64 1] 1 (by omega) (by decide) rfl), (fun q e => by simp [Value.ownBlock] at e), (fun x hx => by cases hx), (fun x hx => by simp at hx; subst hx; unfold Fits; omega)⟩
            have hd3 : (.slice (some ⟨w3.heap.size, 0, none⟩) 1 1 : Value).ownBlock ≠ some w1.heap.size := by intro e; simp [Value.ownBlock] at e; omega
            have HA5 := Lib.hid (AnyA.reset (x0 := 5) (x1 := 1) (x2 := 0) hA3.box hR (by intro e; cases e) hd3 hgL)
            have HC5 := Lib.hid (Cur.set5 (g := w1.heap.size) (x := .int .i64 5) (y := .int .i64 1) (z := .int .i64 0) (u := .slice none 0 0) (v := .slice (some ⟨w3.heap.size, 0, none⟩) 1 1) (HC.out.below A3) (by omega) (by omega))
            have HX5 := Lib.hid (Bex.set5 (g := w1.heap.size) (HX.out.trans (Bex.of A3)) (by omega) (.int .i64 5) (.int .i64 1) (.int .i64 0) (.slice none 0 0) (.slice (some ⟨w3.heap.size, 0, none⟩) 1 1))
            have hSW : ((((((w3.alloc (.cells #[.int .i64 1] 3)).setCell ⟨w1.heap.size, 0, none⟩ (.int .i64 5)).setCell ⟨w1.heap.size, 1, none⟩ (.int .i64 1)).setCell ⟨w1.heap.size, 2, none⟩ (.int .i64 0)).setCell ⟨w1.heap.size, 3, none⟩ (.slice none 0 0)).setCell ⟨w1.heap.size, 4, none⟩ (.slice (some ⟨w3.heap.size, 0, none⟩) 1 1)) = ((((((w3.setCell ⟨w1.heap.size, 0, none⟩ (.int .i64 5)).setCell ⟨w1.heap.size, 1, none⟩ (.int .i64 1)).setCell ⟨w1.heap.size, 2, none⟩ (.int .i64 0)).setCell ⟨w1.heap.size, 3, none⟩ (.slice none 0 0)).setCell ⟨w1.heap.size, 4, none⟩ (.slice (some ⟨w3.heap.size, 0, none⟩) 1 1)).alloc (.cells #[.int .i64 1] 3)) := by rw [World.setCell_alloc_past _ _ _ _ hgl, World.setCell_alloc_past _ _ _ _ (by simpa using hgl), World.setCell_alloc_past _ _ _ _ (by simpa using hgl), World.setCell_alloc_past _ _ _ _ (by simpa using hgl), World.setCell_alloc_past _ _ _ _ (by simpa using hgl)]
            rw [hSW] at HA5 HC5 HX5; clear hSW
            obtain ⟨W6, hW6⟩ : ∃ X, ((((((w3.setCell ⟨w1.heap.size, 0, none⟩ (.int .i64 5)).setCell ⟨w1.heap.size, 1, none⟩ (.int .i64 1)).setCell ⟨w1.heap.size, 2, none⟩ (.int .i64 0)).setCell ⟨w1.heap.size, 3, none⟩ (.slice none 0 0)).setCell ⟨w1.heap.size, 4, none⟩ (.slice (some ⟨w3.heap.size, 0, none⟩) 1 1)).alloc (.cells #[.int .i64 1] 3)) = X := ⟨_, rfl⟩
            rw [hW6] at HA5 HC5 HX5
            clear hA3 A3 HA HC HX hR
            go_wp2_with fail
            go_loopw [5] (fun i V => ∃ (n9 : Nat) (v9 : Value) (gs9 : List Int), n9 ≤ 21 ∧ i = .int .i64 n9 ∧ Hid (AnyA V (w.heap.size + 1) w1.heap.size 5 1 0 v9 n9 gs9 (.slice (some ⟨w3.heap.size, 0, none⟩) 1 1) 1 [1]) ∧ Hid (Cur V b B (K + 200 + 2 + 2 * n9)) ∧ Hid (Bex b (w.alloc (.cells #[.int .i64 0, .int .i64 0, .int .i64 0, .slice none 0 0, .slice none 0 0] 26)) V)) (fun i _ => 22 - (intOf i).toNat)
            case atStart => exact ⟨0, _, [], by omega, rfl, HA5, HC5, HX5⟩
            case round =>
              obtain ⟨n9, v9, gs9, hn9, rfl, HA0, HC0, HX0⟩ := hrel
              clear HA5 HC5 HX5
              obtain ⟨g9, q9, rfl⟩ := own_sl HA0.out.r.og
              go_wp2_with fail
              refine (s_pick b B _ 4 _ HC0.out (by omega) (by omega)).mono ?_; rintro e w5 ⟨t, rfl, ht, ht', hC5, hX5⟩
              obtain ⟨T, hT⟩ : ∃ T : Nat, T = 18 + t := ⟨_, rfl⟩
              have et : IntKind.i64.wrap (18 + (t : Int)) = (T : Int) := by rw [IntWalk.i64_in _ (by omega)]; omega
              have hT9 : T ≤ 21 := by omega
              clear hT
              have HA := Lib.hid (HA0.out.bex hX5 hbg); have HC := Lib.hid hC5; have HX := Lib.hid (HX0.out.trans hX5)
              clear HA0 HC0 HX0 hC5 hX5
              obtain ⟨c0, c1, c2, c3, c4⟩ := id HA.out.box.r
              have cf := HA.out.box.f3
              by_cases hlt : (n9 : Int) < (T : Int)
              · have hvl := HA.out.lt
                go_wp2_with (at_builtin; refine wp_appGX w5 (w.heap.size + 1) n9 _ gs9 1 n9 n9 _ _ rfl _ _ rfl rfl rfl (by first | rfl | simp) HA.out.r.og (by omega) (by omega) ?_; intro v8 w8 hv8 hb8 hg8 ho8; obtain ⟨g8, q8, rfl⟩ := own_sl hv8; have HB8 := (HA.out.below (bel_alloc w5 (.cells #[.int .i64 1, .int .i64 n9, .int .i64 n9] 65))).box.grown hg8 (fun e => HA.out.d2 e.symm); have k3 := HB8.r.c3; have kf := HB8.f3)
                have HA8 := Lib.hid ((HA.out.below (bel_alloc w5 (.cells #[.int .i64 1, .int .i64 n9, .int .i64 n9] 65))).gates hv8 hg8 ho8 (fun x hx => by rcases List.mem_append.1 hx with e | e; exact HA.out.r.fg.out x e; simp at e; (first | (rcases e with rfl | rfl | rfl <;> (unfold Fits; omega)) | (rcases e with rfl | rfl <;> (unfold Fits; omega)) | (subst e; unfold Fits; omega))))
                have HC8 := Lib.hid ((HC.out.onB hb8 hbg).store (p := ⟨w1.heap.size, 3, none⟩) (u := .slice g8 (n9 + 1) q8) (by simp only []; omega) (by simp only []; omega))
                have HX8 := Lib.hid ((HX.out.thenB (hb8.mono (Nat.le_of_eq hzw))).store1A (p := ⟨w1.heap.size, 3, none⟩) (u := .slice g8 (n9 + 1) q8) (by simp only []; omega))
                have k8 := HA8.out.box.r.c3
                go_roundw
                case rel => exact ⟨n9 + 1, _, _, by omega, by first | go_num | (simp; omega), HA8, (show Hid _ from HC8.out.more (by omega)), HX8⟩
                case measure => simp [intOf]; omega
              · skip
                obtain ⟨c0, c1, c2, c3, c4⟩ := id HA.out.box.r
                have R5 := RC.out.bex HX.out (by omega)
                have E5 := Lib.hid (R5.set (.int .i64 (5)) (.int .i64 (1)) (.int .i64 (0)) (.slice g9 n9 q9) (.slice (some ⟨w3.heap.size, 0, none⟩) 1 1))
                obtain ⟨⟨r0, r1, r2, r3, r4⟩, f0, f1, f2, f3, f4⟩ := R5
                go_wp2
                obtain ⟨E0, E1, E2, E3, E4⟩ := id E5.out.r
                exact bodyPost_ret (v := .agg #[.int .i64 (5), .int .i64 (1), .int .i64 (0), .slice g9 n9 q9, .slice (some ⟨w3.heap.size, 0, none⟩) 1 1]) (by simp [results, Tryz.results22, go_sem, E0, E1, E2, E3, E4]) rfl ⟨_, _, _, _, n9, _, _, 1, _, rfl, ⟨by omega, by omega⟩, ⟨by omega, by omega⟩, ⟨by omega, by omega⟩, (HA.out.r.bex (Bex.only5 _ _ _ _ _ _) (by omega)).base (by omega), by omega, by omega, (HC.out.set5 (by omega) (by omega)).more (by omega), (((Bex.of (bel_alloc w _)).trans HX.out).set5 (Nat.le_refl _) _ _ _ _ _)⟩
          · have kb4 : ((k : Int) == 4) = false := by simp only [beq_eq_false_iff_ne, ne_eq]; omega
            by_cases k5 : k = 5
            · subst k5
              have A3 := bel_alloc w3 (.cells #[.int .i64 0, .int .i64 0] 3)
              have hA3 := HA.out.below A3
              have hgl := HA.out.lt
              obtain ⟨⟨c0, c1, c2, c3, c4⟩, f0, f1, f2, f3, f4⟩ := id HA.out.box
              have hR : CirO (w3.alloc (.cells #[.int .i64 0, .int .i64 0] 3)) (w.heap.size + 1) (.slice none 0 0) 0 [] (.slice (some ⟨w3.heap.size, 0, none⟩) 2 2) 2 [0, 0] := ⟨World.ownsRow_nil _ _ _ _, (show World.ownsRow _ _ _ _ _ _ (ivs [0, 0]) from World.ownsRow_lit w3 #[.int .i64 0, .int .i64 0] 2 (by omega) (by decide) rfl), (fun q e => by simp [Value.ownBlock] at e), (fun x hx => by cases hx), (fun x hx => by simp at hx; subst hx; unfold Fits; omega)⟩
              have hd3 : (.slice (some ⟨w3.heap.size, 0, none⟩) 2 2 : Value).ownBlock ≠ some w1.heap.size := by intro e; simp [Value.ownBlock] at e; omega
              have HA5 := Lib.hid (AnyA.reset (x0 := 7) (x1 := 1) (x2 := 0) hA3.box hR (by intro e; cases e) hd3 hgL)
              have HC5 := Lib.hid (Cur.set5 (g := w1.heap.size) (x := .int .i64 7) (y := .int .i64 1) (z := .int .i64 0) (u := .slice none 0 0) (v := .slice (some ⟨w3.heap.size, 0, none⟩) 2 2) (HC.out.below A3) (by omega) (by omega))
              have HX5 := Lib.hid (Bex.set5 (g := w1.heap.size) (HX.out.trans (Bex.of A3)) (by omega) (.int .i64 7) (.int .i64 1) (.int .i64 0) (.slice none 0 0) (.slice (some ⟨w3.heap.size, 0, none⟩) 2 2))
              have hSW : ((((((w3.alloc (.cells #[.int .i64 0, .int .i64 0] 3)).setCell ⟨w1.heap.size, 0, none⟩ (.int .i64 7)).setCell ⟨w1.heap.size, 1, none⟩ (.int .i64 1)).setCell ⟨w1.heap.size, 2, none⟩ (.int .i64 0)).setCell ⟨w1.heap.size, 3, none⟩ (.slice none 0 0)).setCell ⟨w1.heap.size, 4, none⟩ (.slice (some ⟨w3.heap.size, 0, none⟩) 2 2)) = ((((((w3.setCell ⟨w1.heap.size, 0, none⟩ (.int .i64 7)).setCell ⟨w1.heap.size, 1, none⟩ (.int .i64 1)).setCell ⟨w1.heap.size, 2, none⟩ (.int .i64 0)).setCell ⟨w1.heap.size, 3, none⟩ (.slice none 0 0)).setCell ⟨w1.heap.size, 4, none⟩ (.slice (some ⟨w3.heap.size, 0, none⟩) 2 2)).alloc (.cells #[.int .i64 0, .int .i64 0] 3)) := by rw [World.setCell_alloc_past _ _ _ _ hgl, World.setCell_alloc_past _ _ _ _ (by simpa using hgl), World.setCell_alloc_past _ _ _ _ (by simpa using hgl), World.setCell_alloc_past _ _ _ _ (by simpa using hgl), World.setCell_alloc_past _ _ _ _ (by simpa using hgl)]
              rw [hSW] at HA5 HC5 HX5; clear hSW
              obtain ⟨W6, hW6⟩ : ∃ X, ((((((w3.setCell ⟨w1.heap.size, 0, none⟩ (.int .i64 7)).setCell ⟨w1.heap.size, 1, none⟩ (.int .i64 1)).setCell ⟨w1.heap.size, 2, none⟩ (.int .i64 0)).setCell ⟨w1.heap.size, 3, none⟩ (.slice none 0 0)).setCell ⟨w1.heap.size, 4, none⟩ (.slice (some ⟨w3.heap.size, 0, none⟩) 2 2)).alloc (.cells #[.int .i64 0, .int .i64 0] 3)) = X := ⟨_, rfl⟩
              rw [hW6] at HA5 HC5 HX5
              clear hA3 A3 HA HC HX hR
              go_wp2_with fail
              refine (s_pick b B _ 4 _ HC5.out (by omega) (by omega)).mono ?_; rintro e w5 ⟨t, rfl, ht, ht', hC6, hX6⟩
              obtain ⟨T, hT⟩ : ∃ T : Nat, T = 98 + t := ⟨_, rfl⟩
              have et : IntKind.i64.wrap (98 + (t : Int)) = (T : Int) := by rw [IntWalk.i64_in _ (by omega)]; omega
              have HA6 := Lib.hid (HA5.out.bex hX6 hbg); have HC6 := Lib.hid hC6; have HX6 := Lib.hid (HX5.out.trans hX6)
              have hT9 : T ≤ 101 := by omega
              clear hT hC6 hX6 HA5 HC5 HX5
              go_wp2_with fail
              go_loopw [] (fun V => ∃ (n9 : Nat) (v9 : Value) (gs9 : List Int), n9 ≤ 101 ∧ Hid (AnyA V (w.heap.size + 1) w1.heap.size 7 1 0 v9 n9 gs9 (.slice (some ⟨w3.heap.size, 0, none⟩) 2 2) 2 [0, 0]) ∧ Hid (Cur V b B (K + 200 + 2 + 2)) ∧ Hid (Bex b (w.alloc (.cells #[.int .i64 0, .int .i64 0, .int .i64 0, .slice none 0 0, .slice none 0 0] 26)) V)) (fun V => match V.cell? ⟨w1.heap.size, 3, none⟩ with | some (.slice _ k _) => 101 - k | _ => 0)
              case atStart => exact ⟨0, _, [], by omega, HA6, HC6, HX6⟩
              case round =>
                obtain ⟨n9, v9, gs9, hn9, HA, HC, HX⟩ := hrel
                clear HA6 HC6 HX6
                obtain ⟨g9, q9, rfl⟩ := own_sl HA.out.r.og
                obtain ⟨c0, c1, c2, c3, c4⟩ := id HA.out.box.r
                have cf := HA.out.box.f3
                by_cases hlt : (n9 : Int) < (T : Int)
                · have hvl := HA.out.lt
                  go_wp2_with (at_builtin; refine wp_appGX wr (w.heap.size + 1) n9 _ gs9 0 0 0 _ _ rfl _ _ rfl rfl rfl (by first | rfl | simp) HA.out.r.og (by omega) (by omega) ?_; intro v8 w8 hv8 hb8 hg8 ho8; obtain ⟨g8, q8, rfl⟩ := own_sl hv8; have HB8 := (HA.out.below (bel_alloc wr (.cells #[.int .i64 0, .int .i64 0, .int .i64 0] 65))).box.grown hg8 (fun e => HA.out.d2 e.symm); have k3 := HB8.r.c3; have kf := HB8.f3)
                  have HA8 := Lib.hid ((HA.out.below (bel_alloc wr (.cells #[.int .i64 0, .int .i64 0, .int .i64 0] 65))).gates hv8 hg8 ho8 (fun x hx => by rcases List.mem_append.1 hx with e | e; exact HA.out.r.fg.out x e; simp at e; (first | (rcases e with rfl | rfl | rfl <;> (unfold Fits; omega)) | (rcases e with rfl | rfl <;> (unfold Fits; omega)) | (subst e; unfold Fits; omega))))
                  have HC8 := Lib.hid ((HC.out.onB hb8 hbg).store (p := ⟨w1.heap.size, 3, none⟩) (u := .slice g8 (n9 + 1) q8) (by simp only []; omega) (by simp only []; omega))
                  have HX8 := Lib.hid ((HX.out.thenB (hb8.mono (Nat.le_of_eq hzw))).store1A (p := ⟨w1.heap.size, 3, none⟩) (u := .slice g8 (n9 + 1) q8) (by simp only []; omega))
                  have k8 := HA8.out.box.r.c3
                  go_roundw
                  case rel => exact ⟨n9 + 1, _, _, by omega, HA8, HC8, HX8⟩
                  case measure => simp [k8, c3]; omega
                · skip
                  obtain ⟨c0, c1, c2, c3, c4⟩ := id HA.out.box.r
                  have R5 := RC.out.bex HX.out (by omega)
                  have E5 := Lib.hid (R5.set (.int .i64 (7)) (.int .i64 (1)) (.int .i64 (0)) (.slice g9 n9 q9) (.slice (some ⟨w3.heap.size, 0, none⟩) 2 2))
                  obtain ⟨⟨r0, r1, r2, r3, r4⟩, f0, f1, f2, f3, f4⟩ := R5
                  go_wp2
                  obtain ⟨E0, E1, E2, E3, E4⟩ := id E5.out.r
                  exact bodyPost_ret (v := .agg #[.int .i64 (7), .int .i64 (1), .int .i64 (0), .slice g9 n9 q9, .slice (some ⟨w3.heap.size, 0, none⟩) 2 2]) (by simp [results, Tryz.results22, go_sem, E0, E1, E2, E3, E4]) rfl ⟨_, _, _, _, n9, _, _, 2, _, rfl, ⟨by omega, by omega⟩, ⟨by omega, by omega⟩, ⟨by omega, by omega⟩, (HA.out.r.bex (Bex.only5 _ _ _ _ _ _) (by omega)).base (by omega), by omega, by omega, (HC.out.set5 (by omega) (by omega)).more (by omega), (((Bex.of (bel_alloc w _)).trans HX.out).set5 (Nat.le_refl _) _ _ _ _ _)⟩
            · have kb5 : ((k : Int) == 5) = false := by simp only [beq_eq_false_iff_ne, ne_eq]; omega
              by_cases k6 : k = 6
              · subst k6
                go_wp2_with fail
                refine (s_pick b B _ 4 _ HC.out (by omega) (by omega)).mono ?_; rintro e w5 ⟨t, rfl, ht, ht2, hC5, hX5⟩
                have et : IntKind.i64.wrap (18 + (t : Int)) = ((18 + t : Nat) : Int) := by rw [IntWalk.i64_in _ (by omega)]; omega
                have hA5 := HA.out.bex hX5 hbg
                obtain ⟨ii, hi, hz0, hz1, hz2⟩ := info_parts info_int
                have hl5 := hA5.lt
                have hs5 : w.heap.size + 1 ≤ w5.heap.size := Nat.le_trans hgL (Nat.le_of_lt hA5.lt)
                go_wp2_with (at_make; (try rw [et]); refine wpList_make_full _ rfl _ _ 24 rfl (w.heap.size + 1) 3 ii (.int .i64 0) 1 Tryz.underlying24 hi hz0 hz1 _ _ _ _ (18 + t) rfl rfl (by first | rfl | exact et) (by first | rfl | exact et) ?b1 ?b2 ?b3 ?_)
                case b1 => rw [hz2]; omega
                case b2 => unfold maxLen; omega
                case b3 => exact hs5
                intro w9 hown hgrow
                try simp only [Nat.mul_one, Value.cells] at hown
                rw [toList_madeCells_one, show List.replicate (18 + t) (Value.int .i64 0) = ivs (List.replicate (18 + t) 0) by simp [ivs]] at hown
                have hb9 : Below w5.heap.size w5 w9 := (Below.refl _ _).grown hgrow (Nat.le_refl _) (fun k hk => by cases hk)
                have hA9 := hA5.below hb9
                obtain ⟨⟨c0, c1, c2, c3, c4⟩, f0, f1, f2, f3, f4⟩ := id hA9.box
                have hR : CirO w9 (w.heap.size + 1) (.slice none 0 0) 0 [] (.slice (some ⟨w5.heap.size, 0, none⟩) (18 + t) (18 + t)) (18 + t) (List.replicate (18 + t) 0) := ⟨World.ownsRow_nil _ _ _ _, hown, (fun q e => by simp [Value.ownBlock] at e), (fun x hx => by cases hx), (fun x hx => by rw [(List.mem_replicate.1 hx).2]; unfold Fits; omega)⟩
                have hd3 : (.slice (some ⟨w5.heap.size, 0, none⟩) (18 + t) (18 + t) : Value).ownBlock ≠ some w1.heap.size := by intro e; simp [Value.ownBlock] at e; omega
                have HCX := And.intro (hC5.below hb9) ((HX.out.trans hX5).trans (Bex.of hb9))
                clear HA HC HX
                have HA5 := Lib.hid (AnyA.reset (x0 := 7) (x1 := 1) (x2 := 0) hA9.box hR (by intro e; cases e) hd3 hgL)
                have HC5 := Lib.hid (Cur.set5 (g := w1.heap.size) (x := .int .i64 7) (y := .int .i64 1) (z := .int .i64 0) (u := .slice none 0 0) (v := .slice (some ⟨w5.heap.size, 0, none⟩) (18 + t) (18 + t)) HCX.1 (by omega) (by omega))
                have HX5 := Lib.hid (Bex.set5 (g := w1.heap.size) HCX.2 (by omega) (.int .i64 7) (.int .i64 1) (.int .i64 0) (.slice none 0 0) (.slice (some ⟨w5.heap.size, 0, none⟩) (18 + t) (18 + t)))
                obtain ⟨W6, hW6⟩ : ∃ X, (((((w9.setCell ⟨w1.heap.size, 0, none⟩ (.int .i64 7)).setCell ⟨w1.heap.size, 1, none⟩ (.int .i64 1)).setCell ⟨w1.heap.size, 2, none⟩ (.int .i64 0)).setCell ⟨w1.heap.size, 3, none⟩ (.slice none 0 0)).setCell ⟨w1.heap.size, 4, none⟩ (.slice (some ⟨w5.heap.size, 0, none⟩) (18 + t) (18 + t))) = X := ⟨_, rfl⟩
                rw [hW6] at HA5 HC5 HX5
                clear hA5 hC5 hX5 hown hgrow hA9 hb9 hR HCX hi hz0 hz1 hz2
                obtain ⟨c0, c1, c2, c3, c4⟩ := id HA5.out.box.r
                have R5 := RC.out.bex HX5.out (by omega)
                have E5 := Lib.hid (R5.set (.int .i64 (7)) (.int .i64 (1)) (.int .i64 (0)) (.slice none 0 0) (.slice (some ⟨w5.heap.size, 0, none⟩) (18 + t) (18 + t)))
                obtain ⟨⟨r0, r1, r2, r3, r4⟩, f0, f1, f2, f3, f4⟩ := R5
                go_wp2
                obtain ⟨E0, E1, E2, E3, E4⟩ := id E5.out.r
                exact bodyPost_ret (v := .agg #[.int .i64 (7), .int .i64 (1), .int .i64 (0), .slice none 0 0, .slice (some ⟨w5.heap.size, 0, none⟩) (18 + t) (18 + t)]) (by simp [results, Tryz.results22, go_sem, E0, E1, E2, E3, E4]) rfl ⟨_, _, _, _, 0, _, _, 18 + t, _, rfl, ⟨by omega, by omega⟩, ⟨by omega, by omega⟩, ⟨by omega, by omega⟩, (HA5.out.r.bex (Bex.only5 _ _ _ _ _ _) (by omega)).base (by omega), by omega, by omega, (HC5.out.set5 (by omega) (by omega)).more (by omega), (((Bex.of (bel_alloc w _)).trans HX5.out).set5 (Nat.le_refl _) _ _ _ _ _)⟩
              · have kb6 : ((k : Int) == 6) = false := by simp only [beq_eq_false_iff_ne, ne_eq]; omega
                obtain ⟨c0, c1, c2, c3, c4⟩ := id HA.out.box.r
                have R5 := RC.out.bex HX.out (by omega)
                have E5 := Lib.hid (R5.set (.int .i64 (p)) (.int .i64 (i0)) (.int .i64 (i1)) (.slice ga n gc) (.slice oa m oc))
                obtain ⟨⟨r0, r1, r2, r3, r4⟩, f0, f1, f2, f3, f4⟩ := R5
                go_wp2
                obtain ⟨E0, E1, E2, E3, E4⟩ := id E5.out.r
                exact bodyPost_ret (v := .agg #[.int .i64 (p), .int .i64 (i0), .int .i64 (i1), .slice ga n gc, .slice oa m oc]) (by simp [results, Tryz.results22, go_sem, E0, E1, E2, E3, E4]) rfl ⟨_, _, _, _, n, _, _, m, _, rfl, ⟨by omega, by omega⟩, ⟨by omega, by omega⟩, ⟨by omega, by omega⟩, (HA.out.r.bex (Bex.only5 _ _ _ _ _ _) (by omega)).base (by omega), by omega, by omega, (HC.out.set5 (by omega) (by omega)).more (by omega), (((Bex.of (bel_alloc w _)).trans HX.out).set5 (Nat.le_refl _) _ _ _ _ _)⟩
end Go.Proofs.YtfichpppjpgahaaGreatDoor
