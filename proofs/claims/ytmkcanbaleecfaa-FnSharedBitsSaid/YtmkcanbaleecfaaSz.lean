/-
  The draw of any circuit.
-/
import Derived.Test.YtmkcanbaleecfaaSu
namespace Go.Proofs.Ytmkcanbaleecfaa
open Go.RowKit
set_option linter.unusedVariables false
set_option linter.unusedSimpArgs false
set_option maxRecDepth 10000

/-- What 'anyCircuit' hands back. -/
def AnyRet (b B K : Nat) (w : World) (e : Ending) (w' : World) : Prop :=
  ∃ (x0 x1 : Int) (v2 : Value) (n : Nat) (gs : List Int) (v3 : Value) (m : Nat) (os : List Int), e = .returned (.agg #[.int .i64 x0, .int .i64 x1, v2, v3]) ∧ (-1 ≤ x0 ∧ x0 ≤ 21) ∧ (-1 ≤ x1 ∧ x1 ≤ 21) ∧ CirO w' w.heap.size v2 n gs v3 m os ∧ n ≤ 301 ∧ m ≤ 41 ∧ Cur w' b B (K + 300) ∧ Bex b w w'
set_option maxHeartbeats 8000000 in
theorem s_anyCircuit (b B K : Nat) (w : World) (h : Cur w b B K) (hK : K ≤ 100000) :
    Calls Try.prog 104 #[.pointer (some ⟨b, 0, none⟩)] w (AnyRet b B K w) := by
  have hbl := h.lt
  have hbs := h.base
  go_enter Try.func104, Try.ntmps104
  have hC0 := h.below (bel_alloc w (.cells #[.int .i64 0, .int .i64 0, .slice none 0 0, .slice none 0 0] 31))
  have RC := Lib.hid (B4w.new (w := w) (x0 := .int .i64 0) (x1 := .int .i64 0) (x2 := .slice none 0 0) (x3 := .slice none 0 0) (t := 31))
  have hzw : (w.alloc (.cells #[.int .i64 0, .int .i64 0, .slice none 0 0, .slice none 0 0] 31)).heap.size = w.heap.size + 1 := by simp
  go_wp2_with fail
  refine (s_circuit b B K _ hC0 (by omega)).mono ?_; rintro e w1 ⟨i0, i1, v2, n, gs, v3, m, os, rfl, ⟨hi0, hi0'⟩, ⟨hi1, hi1'⟩, hR, hn, hm, hC1, hX1⟩
  have hz1 := hX1.size
  have hA := AnyC.new (t := 31) (x0 := i0) (x1 := i1) hR hz1
  have A1 := bel_alloc w1 (.cells #[.int .i64 i0, .int .i64 i1, v2, v3] 31)
  obtain ⟨ga, gc, rfl⟩ := own_sl hR.og
  obtain ⟨oa, oc, rfl⟩ := own_sl hR.oo
  have hC2 := hC1.below A1
  have hX2 := hX1.trans (Bex.of A1)
  have hbg : b < (w.alloc (.cells #[.int .i64 0, .int .i64 0, .slice none 0 0, .slice none 0 0] 31)).heap.size := by omega
  have hgL := hA.Lg
  obtain ⟨⟨c0, c1, c2, c3⟩, _, _, _, _⟩ := id hA.box
  have HA := Lib.hid hA; have HX := Lib.hid hX2
  clear hA hX2 hX1 hC0 hC1 A1 hR h
  go_wp2_with fail
  refine (s_pick b B _ 30 _ hC2 (by omega) (by omega)).mono ?_; rintro e w3 ⟨k, rfl, hk, hk', hC3, hX3⟩
  replace HA := Lib.hid (HA.out.bex hX3 hbg); replace HX := Lib.hid (HX.out.trans hX3); have HC := Lib.hid hC3
  clear c0 c1 c2 c3 hC2 hC3 hX3

  by_cases k0 : k = 0
  · subst k0
    obtain ⟨hCa, hIa, hOa, hXa⟩ := among_lit (t := 3) [-1, 20, 21] HC.out rfl rfl (by simp) (by intro x hx; simp at hx; unfold Fits; omega)
    go_wp2_with fail
    refine (s_among b B _ _ 3 3 [-1, 20, 21] _ hCa (by omega) hIa (by omega) (by omega) hOa).mono ?_; rintro e w5 ⟨u, rfl, hu, hC5, hX5⟩
    simp at hu
    have hA5 := HA.out.bex (hXa.trans hX5) hbg
    obtain ⟨⟨c0, c1, c2, c3⟩, f0, f1, f2, f3⟩ := id hA5.box
    have HA := Lib.hid (hA5.set0 u)
    have HX := Lib.hid ((HX.out.trans (hXa.trans hX5)).store1 (p := ⟨w1.heap.size, 0, none⟩) (u := .int .i64 u) (by simp only []; omega))
    have HC := Lib.hid (hC5.store (p := ⟨w1.heap.size, 0, none⟩) (u := .int .i64 u) (by simp only []; omega) (by simp only []; omega))
    obtain ⟨W6, hW6⟩ : ∃ X, w5.setCell ⟨w1.heap.size, 0, none⟩ (.int .i64 u) = X := ⟨_, rfl⟩
    rw [hW6] at HA HX HC
    clear hCa hIa hOa hXa hC5 hX5 hA5
    obtain ⟨c0, c1, c2, c3⟩ := id HA.out.box.r
    have R4 := RC.out.bex HX.out (by omega)
    have E4 := R4.set (.int .i64 (u)) (.int .i64 (i1)) (.slice ga n gc) (.slice oa m oc)
    obtain ⟨E0, E1, E2, E3⟩ := id E4.r
    obtain ⟨⟨r0, r1, r2, r3⟩, f0, f1, f2, f3⟩ := R4
    go_wp2
    exact bodyPost_ret (v := .agg #[.int .i64 (u), .int .i64 (i1), .slice ga n gc, .slice oa m oc]) (by simp [results, Try.results104, go_sem, E0, E1, E2, E3]) rfl ⟨_, _, _, n, _, _, m, _, rfl, ⟨by omega, by omega⟩, ⟨by omega, by omega⟩, (HA.out.r.bex (Bex.only4 _ _ _ _ _) (by omega)).base (by omega), by omega, by omega, (HC.out.set4 (by omega) (by omega)).more (by omega), (((Bex.of (bel_alloc w _)).trans HX.out).set4 (Nat.le_refl _) _ _ _ _)⟩
  · have kb0 : ((k : Int) == 0) = false := by simp only [beq_eq_false_iff_ne, ne_eq]; omega
    by_cases k1 : k = 1
    · subst k1
      obtain ⟨hCa, hIa, hOa, hXa⟩ := among_lit (t := 3) [-1, 20, 21] HC.out rfl rfl (by simp) (by intro x hx; simp at hx; unfold Fits; omega)
      go_wp2_with fail
      refine (s_among b B _ _ 3 3 [-1, 20, 21] _ hCa (by omega) hIa (by omega) (by omega) hOa).mono ?_; rintro e w5 ⟨u, rfl, hu, hC5, hX5⟩
      simp at hu
      have hA5 := HA.out.bex (hXa.trans hX5) hbg
      obtain ⟨⟨c0, c1, c2, c3⟩, f0, f1, f2, f3⟩ := id hA5.box
      have HA := Lib.hid (hA5.set1 u)
      have HX := Lib.hid ((HX.out.trans (hXa.trans hX5)).store1 (p := ⟨w1.heap.size, 1, none⟩) (u := .int .i64 u) (by simp only []; omega))
      have HC := Lib.hid (hC5.store (p := ⟨w1.heap.size, 1, none⟩) (u := .int .i64 u) (by simp only []; omega) (by simp only []; omega))
      obtain ⟨W6, hW6⟩ : ∃ X, w5.setCell ⟨w1.heap.size, 1, none⟩ (.int .i64 u) = X := ⟨_, rfl⟩
      rw [hW6] at HA HX HC
      clear hCa hIa hOa hXa hC5 hX5 hA5
      obtain ⟨c0, c1, c2, c3⟩ := id HA.out.box.r
      have R4 := RC.out.bex HX.out (by omega)
      have E4 := R4.set (.int .i64 (i0)) (.int .i64 (u)) (.slice ga n gc) (.slice oa m oc)
      obtain ⟨E0, E1, E2, E3⟩ := id E4.r
      obtain ⟨⟨r0, r1, r2, r3⟩, f0, f1, f2, f3⟩ := R4
      go_wp2
      exact bodyPost_ret (v := .agg #[.int .i64 (i0), .int .i64 (u), .slice ga n gc, .slice oa m oc]) (by simp [results, Try.results104, go_sem, E0, E1, E2, E3]) rfl ⟨_, _, _, n, _, _, m, _, rfl, ⟨by omega, by omega⟩, ⟨by omega, by omega⟩, (HA.out.r.bex (Bex.only4 _ _ _ _ _) (by omega)).base (by omega), by omega, by omega, (HC.out.set4 (by omega) (by omega)).more (by omega), (((Bex.of (bel_alloc w _)).trans HX.out).set4 (Nat.le_refl _) _ _ _ _)⟩
    · have kb1 : ((k : Int) == 1) = false := by simp only [beq_eq_false_iff_ne, ne_eq]; omega
      by_cases k2 : k = 2
      · subst k2
        obtain ⟨N, hN⟩ : ∃ N : Int, (i0 : Int) + i1 + n = N := ⟨_, rfl⟩
        have hN9 : 0 ≤ N ∧ N ≤ 1000 := by omega
        obtain ⟨c0, c1, c2, c3⟩ := id HA.out.box.r
        have d0 := cell_on c0 (bel_drew _); have d1 := cell_on c1 (bel_drew _); have d2 := cell_on c2 (bel_drew _); have d3 := cell_on c3 (bel_drew _)
        clear c0 c1 c2 c3
        go_wp2_with fail
        go_region_law (first
          | (refine step_appX (w.alloc (.cells #[.int .i64 0, .int .i64 0, .slice none 0 0, .slice none 0 0] 31)).heap.size m _ os u _ (by rfl) _ _ (by rfl) (by rfl) (by rfl) (by simp [World.cell?_alloc_at]) HA6a.out.r.oo (by have := HA6a.out.lt; omega) (by omega) ?_; intro v9 w9 hv9 hb9 hg9 ho9; obtain ⟨r9, k9, rfl⟩ := own_sl hv9; have hB9 := HA6a.out.box.grown hg9 (fun e => HA6a.out.d3 e.symm); have k3 := hB9.r.c3; have kf := hB9.f3)
          | (go_simp; go_at_call 93; refine (s_ciWires i0 i1 ga n gc oa m oc _ (by omega) (by omega) (by omega)).mono ?_; rintro e w5 ⟨he, hb5⟩; rw [hN] at he; subst he; have HA5 := Lib.hid ((HA.out.below (bel_drew _)).below hb5); have HC5 := Lib.hid ((HC.out.below (bel_drew _)).below hb5); have HX5 := Lib.hid ((HX.out.trans (Bex.of (bel_drew _))).trans (Bex.of hb5)); obtain ⟨hCa, hIa, hOa, hXa⟩ := among_lit (t := 3) [-1, N] HC5.out rfl rfl (by simp) (by intro x hx; simp at hx; unfold Fits; omega); have e3 := HA5.out.box.r.c3; have e3a := cell_on e3 (bel_alloc w5 (.cells #[.int .i64 (-1), .int .i64 N] 3)))
          | (go_simp; go_at_call 85; refine (s_among b B _ _ 2 2 [-1, N] _ hCa (by omega) hIa (by omega) (by omega) hOa).mono ?_; rintro e w6 ⟨u, rfl, hu, hC6, hX6⟩; simp at hu; have HA6 := Lib.hid (HA5.out.bex (hXa.trans hX6) hbg); have HC6 := Lib.hid hC6; have HX6 := Lib.hid (HX5.out.trans (hXa.trans hX6)); have HA6a := Lib.hid (HA6.out.below (bel_alloc w6 (.cells #[.int .i64 u] 3))); have f3 := HA6.out.box.r.c3; have f3a := HA6a.out.box.r.c3))
        all_goals
          have HA9 := Lib.hid (HA6a.out.outs hv9 hg9 ho9 (fun x hx => by rcases List.mem_append.1 hx with e | e; exact HA6a.out.r.fo.out x e; simp at e; subst e; unfold Fits; omega))
          have HC9 := Lib.hid (((HC6.out.below (bel_alloc w6 (.cells #[.int .i64 u] 3))).onB hb9 hbg).store (p := ⟨w1.heap.size, 3, none⟩) (u := .slice r9 (m + 1) k9) (by simp only []; omega) (by simp only []; omega))
          have HX9 := Lib.hid (((HX6.out.trans (Bex.of (bel_alloc w6 (.cells #[.int .i64 u] 3)))).thenB hb9).store1 (p := ⟨w1.heap.size, 3, none⟩) (u := .slice r9 (m + 1) k9) (by simp only []; omega))
          obtain ⟨W6, hW6⟩ : ∃ X, w9.setCell ⟨w1.heap.size, 3, none⟩ (.slice r9 (m + 1) k9) = X := ⟨_, rfl⟩
          rw [hW6] at HA9 HX9 HC9
          clear hCa hIa hOa hXa hC6 hX6 hv9 hb9 hg9 ho9 hB9 HA6a HA6 HC6 HX6 HA5 HC5 HX5 HA HX HC d0 d1 d2 d3 e3 e3a f3 f3a
          obtain ⟨c0, c1, c2, c3⟩ := id HA9.out.box.r
          have R4 := RC.out.bex HX9.out (by omega)
          have E4 := R4.set (.int .i64 (i0)) (.int .i64 (i1)) (.slice ga n gc) (.slice r9 (m + 1) k9)
          obtain ⟨E0, E1, E2, E3⟩ := id E4.r
          obtain ⟨⟨r0, r1, r2, r3⟩, f0, f1, f2, f3⟩ := R4
          go_wp2
          exact bodyPost_ret (v := .agg #[.int .i64 (i0), .int .i64 (i1), .slice ga n gc, .slice r9 (m + 1) k9]) (by simp [results, Try.results104, go_sem, E0, E1, E2, E3]) rfl ⟨_, _, _, n, _, _, m + 1, _, rfl, ⟨by omega, by omega⟩, ⟨by omega, by omega⟩, (HA9.out.r.bex (Bex.only4 _ _ _ _ _) (by omega)).base (by omega), by omega, by omega, (HC9.out.set4 (by omega) (by omega)).more (by omega), (((Bex.of (bel_alloc w _)).trans HX9.out).set4 (Nat.le_refl _) _ _ _ _)⟩
      · have kb2 : ((k : Int) == 2) = false := by simp only [beq_eq_false_iff_ne, ne_eq]; omega
        by_cases k3 : k = 3
        · subst k3
          by_cases hn0 : 0 < n
          · have hn0i : (0 : Int) < (n : Int) := by omega
            obtain ⟨q, qc, hq, hq1, hq2⟩ := HA.out.row hn0
            simp only [Value.slice.injEq, true_and] at hq; obtain ⟨rfl, rfl⟩ := hq
            obtain ⟨N, hN⟩ : ∃ N : Int, (i0 : Int) + i1 + n = N := ⟨_, rfl⟩
            have hN9 : 0 ≤ N ∧ N ≤ 1000 := by omega
            obtain ⟨c0, c1, c2, c3⟩ := id HA.out.box.r
            have d0 := cell_on c0 (bel_drew _); have d1 := cell_on c1 (bel_drew _); have d2 := cell_on c2 (bel_drew _); have d3 := cell_on c3 (bel_drew _)
            clear c0 c1 c2 c3
            have tk0 : True := trivial
            go_wp2_with fail
            go_region_law (first
              | (have t0 := tk0; clear t0 tk0; go_simp; go_at_call 83; refine (s_pick b B _ n _ (HC.out.below (bel_drew _)) (by omega) (by omega)).mono ?_; rintro e w4 ⟨i, rfl, hi, hi', hC4, hX4⟩; have hin : i < n := (by omega); have hini : (i : Int) < (n : Int) := (by omega); have HA4 := Lib.hid ((HA.out.below (bel_drew _)).bex hX4 hbg); have HC4 := Lib.hid hC4; have HX4 := Lib.hid ((HX.out.trans (Bex.of (bel_drew _))).trans hX4); obtain ⟨e0, e1, e2, e3⟩ := id HA4.out.box.r; have tk1 : True := trivial)
              | (go_simp; go_at_call 93; refine (s_ciWires i0 i1 _ n _ oa m oc _ (by omega) (by omega) (by omega)).mono ?_; rintro e w5 ⟨he, hb5⟩; rw [hN] at he; subst he; have HA5 := Lib.hid (HA4.out.below hb5); have HC5 := Lib.hid (HC4.out.below hb5); have HX5 := Lib.hid (HX4.out.trans (Bex.of hb5)); obtain ⟨hCa, hIa, hOa, hXa⟩ := among_lit (t := 3) [-1, N, 1] HC5.out rfl rfl (by simp) (by intro x hx; simp at hx; unfold Fits; omega); have g2 := HA5.out.box.r.c2; have g2a := cell_on g2 (bel_alloc w5 (.cells #[.int .i64 (-1), .int .i64 N, .int .i64 1] 3)))
              | (go_simp; go_at_call 85; refine (s_among b B _ _ 3 3 [-1, N, 1] _ hCa (by omega) hIa (by omega) (by omega) hOa).mono ?_; rintro e w6 ⟨u, rfl, hu, hC6, hX6⟩; simp at hu; have HA6 := Lib.hid (HA5.out.bex (hXa.trans hX6) hbg); have HC6 := Lib.hid hC6; have HX6 := Lib.hid (HX5.out.trans (hXa.trans hX6)); have h2 := HA6.out.box.r.c2; obtain ⟨⟨uz, cz⟩, fz⟩ := HA6.out.cells (j := i * 3 + 1) (by omega)))
            all_goals
              have HA9 := Lib.hid (HA6.out.put (j := i * 3 + 1) (u := u) (by unfold Fits; omega))
              have HC9 := Lib.hid (HC6.out.store (p := ⟨q, i * 3 + 1, none⟩) (u := .int .i64 (u)) (by simp only []; omega) (by simp only []; omega))
              have HX9 := Lib.hid (HX6.out.store1 (p := ⟨q, i * 3 + 1, none⟩) (u := .int .i64 (u)) (by simp only []; omega))
              obtain ⟨W6, hW6⟩ : ∃ X, w6.setCell ⟨q, i * 3 + 1, none⟩ (.int .i64 (u)) = X := ⟨_, rfl⟩
              rw [hW6] at HA9 HX9 HC9
              clear hCa hIa hOa hXa hC4 hX4 hC6 hX6 HA6 HC6 HX6 HA5 HC5 HX5 HA4 HC4 HX4 HA HX HC d0 d1 d2 d3 e0 e1 e2 e3 g2 g2a h2 cz fz
              obtain ⟨c0, c1, c2, c3⟩ := id HA9.out.box.r
              have R4 := RC.out.bex HX9.out (by omega)
              have E4 := R4.set (.int .i64 (i0)) (.int .i64 (i1)) (.slice (some ⟨q, 0, none⟩) n gc) (.slice oa m oc)
              obtain ⟨E0, E1, E2, E3⟩ := id E4.r
              obtain ⟨⟨r0, r1, r2, r3⟩, f0, f1, f2, f3⟩ := R4
              go_wp2
              exact bodyPost_ret (v := .agg #[.int .i64 (i0), .int .i64 (i1), .slice (some ⟨q, 0, none⟩) n gc, .slice oa m oc]) (by simp [results, Try.results104, go_sem, E0, E1, E2, E3]) rfl ⟨_, _, _, n, _, _, m, _, rfl, ⟨by omega, by omega⟩, ⟨by omega, by omega⟩, (HA9.out.r.bex (Bex.only4 _ _ _ _ _) (by omega)).base (by omega), by omega, by omega, (HC9.out.set4 (by omega) (by omega)).more (by omega), (((Bex.of (bel_alloc w _)).trans HX9.out).set4 (Nat.le_refl _) _ _ _ _)⟩
          · have hn0i : ¬ (0 : Int) < (n : Int) := by omega
            obtain ⟨c0, c1, c2, c3⟩ := id HA.out.box.r
            have R4 := RC.out.bex HX.out (by omega)
            have E4 := R4.set (.int .i64 (i0)) (.int .i64 (i1)) (.slice ga n gc) (.slice oa m oc)
            obtain ⟨E0, E1, E2, E3⟩ := id E4.r
            obtain ⟨⟨r0, r1, r2, r3⟩, f0, f1, f2, f3⟩ := R4
            go_wp2
            exact bodyPost_ret (v := .agg #[.int .i64 (i0), .int .i64 (i1), .slice ga n gc, .slice oa m oc]) (by simp [results, Try.results104, go_sem, E0, E1, E2, E3]) rfl ⟨_, _, _, n, _, _, m, _, rfl, ⟨by omega, by omega⟩, ⟨by omega, by omega⟩, (HA.out.r.bex (Bex.only4 _ _ _ _ _) (by omega)).base (by omega), by omega, by omega, (HC.out.set4 (by omega) (by omega)).more (by omega), (((Bex.of (bel_alloc w _)).trans HX.out).set4 (Nat.le_refl _) _ _ _ _)⟩
        · have kb3 : ((k : Int) == 3) = false := by simp only [beq_eq_false_iff_ne, ne_eq]; omega
          by_cases k4 : k = 4
          · subst k4
            by_cases hn0 : 0 < n
            · have hn0i : (0 : Int) < (n : Int) := by omega
              obtain ⟨q, qc, hq, hq1, hq2⟩ := HA.out.row hn0
              simp only [Value.slice.injEq, true_and] at hq; obtain ⟨rfl, rfl⟩ := hq
              obtain ⟨c0, c1, c2, c3⟩ := id HA.out.box.r
              have d0 := cell_on c0 (bel_drew _); have d1 := cell_on c1 (bel_drew _); have d2 := cell_on c2 (bel_drew _); have d3 := cell_on c3 (bel_drew _)
              clear c0 c1 c2 c3
              have tk0 : True := trivial
              go_wp2_with fail
              go_region_law (first
                | (have t0 := tk0; clear t0 tk0; go_simp; go_at_call 83; refine (s_pick b B _ n _ (HC.out.below (bel_drew _)) (by omega) (by omega)).mono ?_; rintro e w4 ⟨i, rfl, hi, hi', hC4, hX4⟩; have hin : i < n := (by omega); have hini : (i : Int) < (n : Int) := (by omega); have HA4 := Lib.hid ((HA.out.below (bel_drew _)).bex hX4 hbg); have HC4 := Lib.hid hC4; have HX4 := Lib.hid ((HX.out.trans (Bex.of (bel_drew _))).trans hX4); obtain ⟨e0, e1, e2, e3⟩ := id HA4.out.box.r; have tk1 : True := trivial; obtain ⟨⟨uz, cz⟩, fz⟩ := HA4.out.cells (j := i * 3) (by omega))
                | (have t1 := tk1; clear t1 tk1; go_simp; go_at_call 83; refine (s_pick b B _ 6 _ HC4.out (by omega) (by omega)).mono ?_; rintro e w6 ⟨y, rfl, hy, hy', hC6, hX6⟩; have ey := IntWalk.i64_in ((y : Int) - 1) (by omega); have HA6 := Lib.hid (HA4.out.bex hX6 hbg); have HC6 := Lib.hid hC6; have HX6 := Lib.hid (HX4.out.trans hX6); have h2 := HA6.out.box.r.c2; obtain ⟨⟨uz', cz'⟩, fz'⟩ := HA6.out.cells (j := i * 3) (by omega)))
              all_goals
                have HA9 := Lib.hid (HA6.out.put (j := i * 3) (u := (y : Int) - 1) (by unfold Fits; omega))
                have HC9 := Lib.hid (HC6.out.store (p := ⟨q, i * 3, none⟩) (u := .int .i64 ((y : Int) - 1)) (by simp only []; omega) (by simp only []; omega))
                have HX9 := Lib.hid (HX6.out.store1 (p := ⟨q, i * 3, none⟩) (u := .int .i64 ((y : Int) - 1)) (by simp only []; omega))
                obtain ⟨W6, hW6⟩ : ∃ X, w6.setCell ⟨q, i * 3, none⟩ (.int .i64 ((y : Int) - 1)) = X := ⟨_, rfl⟩
                rw [hW6] at HA9 HX9 HC9
                clear hC4 hX4 hC6 hX6 HA6 HC6 HX6 HA4 HC4 HX4 HA HX HC d0 d1 d2 d3 e0 e1 e2 e3 h2 cz fz
                obtain ⟨c0, c1, c2, c3⟩ := id HA9.out.box.r
                have R4 := RC.out.bex HX9.out (by omega)
                have E4 := R4.set (.int .i64 (i0)) (.int .i64 (i1)) (.slice (some ⟨q, 0, none⟩) n gc) (.slice oa m oc)
                obtain ⟨E0, E1, E2, E3⟩ := id E4.r
                obtain ⟨⟨r0, r1, r2, r3⟩, f0, f1, f2, f3⟩ := R4
                go_wp2
                exact bodyPost_ret (v := .agg #[.int .i64 (i0), .int .i64 (i1), .slice (some ⟨q, 0, none⟩) n gc, .slice oa m oc]) (by simp [results, Try.results104, go_sem, E0, E1, E2, E3]) rfl ⟨_, _, _, n, _, _, m, _, rfl, ⟨by omega, by omega⟩, ⟨by omega, by omega⟩, (HA9.out.r.bex (Bex.only4 _ _ _ _ _) (by omega)).base (by omega), by omega, by omega, (HC9.out.set4 (by omega) (by omega)).more (by omega), (((Bex.of (bel_alloc w _)).trans HX9.out).set4 (Nat.le_refl _) _ _ _ _)⟩
            · have hn0i : ¬ (0 : Int) < (n : Int) := by omega
              obtain ⟨c0, c1, c2, c3⟩ := id HA.out.box.r
              have R4 := RC.out.bex HX.out (by omega)
              have E4 := R4.set (.int .i64 (i0)) (.int .i64 (i1)) (.slice ga n gc) (.slice oa m oc)
              obtain ⟨E0, E1, E2, E3⟩ := id E4.r
              obtain ⟨⟨r0, r1, r2, r3⟩, f0, f1, f2, f3⟩ := R4
              go_wp2
              exact bodyPost_ret (v := .agg #[.int .i64 (i0), .int .i64 (i1), .slice ga n gc, .slice oa m oc]) (by simp [results, Try.results104, go_sem, E0, E1, E2, E3]) rfl ⟨_, _, _, n, _, _, m, _, rfl, ⟨by omega, by omega⟩, ⟨by omega, by omega⟩, (HA.out.r.bex (Bex.only4 _ _ _ _ _) (by omega)).base (by omega), by omega, by omega, (HC.out.set4 (by omega) (by omega)).more (by omega), (((Bex.of (bel_alloc w _)).trans HX.out).set4 (Nat.le_refl _) _ _ _ _)⟩
          · have kb4 : ((k : Int) == 4) = false := by simp only [beq_eq_false_iff_ne, ne_eq]; omega
            by_cases k5 : k = 5
            · subst k5
              go_wp2_with fail
              refine (s_pick b B _ 2 _ HC.out (by omega) (by omega)).mono ?_; rintro e w5 ⟨t, rfl, ht, ht2, hC5, hX5⟩
              have et : IntKind.i64.wrap (40 + (t : Int)) = ((40 + t : Nat) : Int) := by rw [IntWalk.i64_in _ (by omega)]; omega
              have hA5 := HA.out.bex hX5 hbg
              obtain ⟨ii, hi, hz0, hz1, hz2⟩ := info_parts info_int
              have hs5 : (w.alloc (.cells #[.int .i64 0, .int .i64 0, .slice none 0 0, .slice none 0 0] 31)).heap.size ≤ w5.heap.size := Nat.le_trans hgL (Nat.le_of_lt hA5.lt)
              go_wp2_with (at_make; (try rw [et]); refine wpList_make_full _ rfl _ _ 23 rfl (w.alloc (.cells #[.int .i64 0, .int .i64 0, .slice none 0 0, .slice none 0 0] 31)).heap.size 3 ii (.int .i64 0) 1 Try.underlying23 hi hz0 hz1 _ _ _ _ (40 + t) rfl rfl (by first | rfl | exact et) (by first | rfl | exact et) ?b1 ?b2 ?b3 ?_)
              case b1 => rw [hz2]; omega
              case b2 => unfold maxLen; omega
              case b3 => exact hs5
              intro w9 hown hgrow
              try simp only [Nat.mul_one, Value.cells] at hown
              rw [toList_madeCells_one, show List.replicate (40 + t) (Value.int .i64 0) = ivs (List.replicate (40 + t) 0) by simp [ivs]] at hown
              try rw [← hzw] at hown
              have hg9 := hgrow.but (Value.slice oa m oc).ownBlock
              have hB9 := hA5.box.grown hg9 (fun e => hA5.d3 e.symm); have k3 := hB9.r.c3; have kf := hB9.f3
              have hb9 : Below w5.heap.size w5 w9 := (Below.refl _ _).grown hgrow (Nat.le_refl _) (fun k hk => by cases hk)
              have HA9 := Lib.hid (hA5.outs (v9 := .slice (some ⟨w5.heap.size, 0, none⟩) (40 + t) (40 + t)) (m9 := 40 + t) (os9 := List.replicate (40 + t) 0) hown hg9 (Or.inr rfl) (fun x hx => by rw [(List.mem_replicate.1 hx).2]; unfold Fits; omega))
              have HC9 := Lib.hid ((hC5.below hb9).store (p := ⟨w1.heap.size, 3, none⟩) (u := .slice (some ⟨w5.heap.size, 0, none⟩) (40 + t) (40 + t)) (by simp only []; omega) (by simp only []; omega))
              have HX9 := Lib.hid (((HX.out.trans hX5).trans (Bex.of hb9)).store1 (p := ⟨w1.heap.size, 3, none⟩) (u := .slice (some ⟨w5.heap.size, 0, none⟩) (40 + t) (40 + t)) (by simp only []; omega))
              obtain ⟨W6, hW6⟩ : ∃ X, w9.setCell ⟨w1.heap.size, 3, none⟩ (.slice (some ⟨w5.heap.size, 0, none⟩) (40 + t) (40 + t)) = X := ⟨_, rfl⟩
              rw [hW6] at HA9 HX9 HC9
              clear hA5 hC5 hX5 hown hgrow hg9 hB9 hb9 HA HX HC hi hz0 hz1 hz2
              obtain ⟨c0, c1, c2, c3⟩ := id HA9.out.box.r
              have R4 := RC.out.bex HX9.out (by omega)
              have E4 := R4.set (.int .i64 (i0)) (.int .i64 (i1)) (.slice ga n gc) (.slice (some ⟨w5.heap.size, 0, none⟩) (40 + t) (40 + t))
              obtain ⟨E0, E1, E2, E3⟩ := id E4.r
              obtain ⟨⟨r0, r1, r2, r3⟩, f0, f1, f2, f3⟩ := R4
              go_wp2
              exact bodyPost_ret (v := .agg #[.int .i64 (i0), .int .i64 (i1), .slice ga n gc, .slice (some ⟨w5.heap.size, 0, none⟩) (40 + t) (40 + t)]) (by simp [results, Try.results104, go_sem, E0, E1, E2, E3]) rfl ⟨_, _, _, n, _, _, 40 + t, _, rfl, ⟨by omega, by omega⟩, ⟨by omega, by omega⟩, (HA9.out.r.bex (Bex.only4 _ _ _ _ _) (by omega)).base (by omega), by omega, by omega, (HC9.out.set4 (by omega) (by omega)).more (by omega), (((Bex.of (bel_alloc w _)).trans HX9.out).set4 (Nat.le_refl _) _ _ _ _)⟩
            · have kb5 : ((k : Int) == 5) = false := by simp only [beq_eq_false_iff_ne, ne_eq]; omega
              by_cases k6 : k = 6
              · subst k6
                go_wp2_with fail
                refine (s_pick b B _ 2 _ HC.out (by omega) (by omega)).mono ?_; rintro e w5 ⟨t, rfl, ht, ht2, hC5, hX5⟩
                obtain ⟨T, hT⟩ : ∃ T : Nat, T = 300 + t := ⟨_, rfl⟩
                have et : IntKind.i64.wrap (300 + (t : Int)) = (T : Int) := by rw [IntWalk.i64_in _ (by omega)]; omega
                have HA5 := Lib.hid (HA.out.bex hX5 hbg); have HC5 := Lib.hid hC5; have HX5 := Lib.hid (HX.out.trans hX5)
                have hT9 : T ≤ 301 := by omega
                clear hT hC5 hX5 HA HC HX
                go_wp2_with fail
                go_loopw [] (fun V => ∃ (n9 : Nat) (v9 : Value) (gs9 : List Int), n9 ≤ 301 ∧ Hid (AnyC V (w.alloc (.cells #[.int .i64 0, .int .i64 0, .slice none 0 0, .slice none 0 0] 31)).heap.size w1.heap.size i0 i1 v9 n9 gs9 (.slice oa m oc) m os) ∧ Hid (Cur V b B (K + 200 + 2 + 2)) ∧ Hid (Bex b (w.alloc (.cells #[.int .i64 0, .int .i64 0, .slice none 0 0, .slice none 0 0] 31)) V)) (fun V => match V.cell? ⟨w1.heap.size, 2, none⟩ with | some (.slice _ k _) => 301 - k | _ => 0)
                case atStart => exact ⟨n, _, gs, by omega, HA5, HC5, HX5⟩
                case round =>
                  obtain ⟨n9, v9, gs9, hn9, HA, HC, HX⟩ := hrel
                  clear HA5 HC5 HX5
                  obtain ⟨g9, q9, rfl⟩ := own_sl HA.out.r.og
                  obtain ⟨c0, c1, c2, c3⟩ := id HA.out.box.r
                  have cf := HA.out.box.f2
                  by_cases hlt : n9 < T
                  · have hlti : (n9 : Int) < (T : Int) := by omega
                    have hvl := HA.out.lt
                    go_wp2_with (at_builtin; refine wp_appGX wr (w.alloc (.cells #[.int .i64 0, .int .i64 0, .slice none 0 0, .slice none 0 0] 31)).heap.size n9 _ gs9 3 0 0 _ _ rfl _ _ rfl rfl rfl (by first | rfl | simp) HA.out.r.og (by omega) (by omega) ?_; intro v8 w8 hv8 hb8 hg8 ho8; obtain ⟨g8, q8, rfl⟩ := own_sl hv8; have HB8 := (HA.out.below (bel_alloc wr (.cells #[.int .i64 3, .int .i64 0, .int .i64 0] 83))).box.grown hg8 (fun e => HA.out.d2 e.symm); have k2 := HB8.r.c2; have kf := HB8.f2)
                    have HA8 := Lib.hid ((HA.out.below (bel_alloc wr (.cells #[.int .i64 3, .int .i64 0, .int .i64 0] 83))).gates hv8 hg8 ho8 (fun x hx => by rcases List.mem_append.1 hx with e | e; exact HA.out.r.fg.out x e; simp at e; rcases e with rfl | rfl <;> (unfold Fits; omega)))
                    have HC8 := Lib.hid ((HC.out.onB hb8 hbg).store (p := ⟨w1.heap.size, 2, none⟩) (u := .slice g8 (n9 + 1) q8) (by simp only []; omega) (by simp only []; omega))
                    have HX8 := Lib.hid ((HX.out.thenB hb8).store1 (p := ⟨w1.heap.size, 2, none⟩) (u := .slice g8 (n9 + 1) q8) (by simp only []; omega))
                    have k8 := HA8.out.box.r.c2
                    go_roundw
                    case rel => exact ⟨n9 + 1, _, _, by omega, HA8, HC8, HX8⟩
                    case measure => simp [k8, c2]; omega
                  · have hlti : ¬ (n9 : Int) < (T : Int) := by omega
                    obtain ⟨c0, c1, c2, c3⟩ := id HA.out.box.r
                    have R4 := RC.out.bex HX.out (by omega)
                    have E4 := R4.set (.int .i64 (i0)) (.int .i64 (i1)) (.slice g9 n9 q9) (.slice oa m oc)
                    obtain ⟨E0, E1, E2, E3⟩ := id E4.r
                    obtain ⟨⟨r0, r1, r2, r3⟩, f0, f1, f2, f3⟩ := R4
                    go_wp2
                    exact bodyPost_ret (v := .agg #[.int .i64 (i0), .int .i64 (i1), .slice g9 n9 q9, .slice oa m oc]) (by simp [results, Try.results104, go_sem, E0, E1, E2, E3]) rfl ⟨_, _, _, n9, _, _, m, _, rfl, ⟨by omega, by omega⟩, ⟨by omega, by omega⟩, (HA.out.r.bex (Bex.only4 _ _ _ _ _) (by omega)).base (by omega), by omega, by omega, (HC.out.set4 (by omega) (by omega)).more (by omega), (((Bex.of (bel_alloc w _)).trans HX.out).set4 (Nat.le_refl _) _ _ _ _)⟩
              · have kb6 : ((k : Int) == 6) = false := by simp only [beq_eq_false_iff_ne, ne_eq]; omega
                obtain ⟨c0, c1, c2, c3⟩ := id HA.out.box.r
                have R4 := RC.out.bex HX.out (by omega)
                have E4 := R4.set (.int .i64 (i0)) (.int .i64 (i1)) (.slice ga n gc) (.slice oa m oc)
                obtain ⟨E0, E1, E2, E3⟩ := id E4.r
                obtain ⟨⟨r0, r1, r2, r3⟩, f0, f1, f2, f3⟩ := R4
                go_wp2
                exact bodyPost_ret (v := .agg #[.int .i64 (i0), .int .i64 (i1), .slice ga n gc, .slice oa m oc]) (by simp [results, Try.results104, go_sem, E0, E1, E2, E3]) rfl ⟨_, _, _, n, _, _, m, _, rfl, ⟨by omega, by omega⟩, ⟨by omega, by omega⟩, (HA.out.r.bex (Bex.only4 _ _ _ _ _) (by omega)).base (by omega), by omega, by omega, (HC.out.set4 (by omega) (by omega)).more (by omega), (((Bex.of (bel_alloc w _)).trans HX.out).set4 (Nat.le_refl _) _ _ _ _)⟩
end Go.Proofs.Ytmkcanbaleecfaa
