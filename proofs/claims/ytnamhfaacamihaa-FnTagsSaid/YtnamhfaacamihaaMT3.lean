/-
  The walk of the law FnTags.
-/
import Derived.Test.YtnamhfaacamihaaCw
import Derived.Test.YtnamhfaacamihaaCx
import Derived.Test.YtnamhfaacamihaaTm
namespace Go.Proofs.Ytnamhfaacamihaa
open Go.RowKit
set_option linter.unusedVariables false
set_option linter.unusedSimpArgs false
set_option maxRecDepth 100000

set_option maxHeartbeats 8000000 in
theorem law_FnTags (a0 : Option Addr) (n0 c0 : Nat) (z0 : List Int) (a1 : Option Addr) (n1 c1 : Nat) (z1 : List Int) (w : World) (h0 : BytesIn w a0 n0 c0 z0) (h1 : BytesIn w a1 n1 c1 z1) :
    Calls Try.prog 13 #[.slice a0 n0 c0, .slice a1 n1 c1] w fun e w' => e = .returned (.bool true) ∧ Below w.heap.size w w' := by
  have hn0 := h0.small; have hn1 := h1.small
  have hB : Byts w a1 n1 c1 := h1
  have hA : Byts w a0 n0 c0 := h0
  clear h0 h1
  go_enter Try.func13, Try.ntmps13
  go_wp2_with fail
  refine (l_big _ _ _ _ _ _ _ hn0 hn1).mono ?_; rintro e wx ⟨qb, rfl, hwx⟩; subst hwx
  cases qb with
  | true =>
    go_wp2
    go_ret
    exact ⟨rfl, Below.refl _ _⟩
  | false =>
    go_wp2_with fail
    refine (s_DrawTagFor _ _ _ _ hA).mono ?_; rintro e w1 ⟨p, d, k, v, rfl, hp, hd, hk, hv, hbw1⟩
    replace hB := hB.below hbw1
    have Bw1 := bel_trans (Below.refl w.heap.size w) hbw1
    clear hbw1
    obtain ⟨x, hx⟩ : ∃ x, x = tagFor p d k v := ⟨_, rfl⟩; have HX := Lib.hid hx; clear hx
    go_wp2_with fail
    refine (i_TagFor _ _ _ _ _ hd.fits hk.fits hv.fits).mono ?_; rintro e w2 ⟨rfl, hbw2⟩
    replace hB := hB.below hbw2
    have Bw2 := bel_trans Bw1 hbw2
    clear hbw2
    rw [← HX.out]
    have Aw3 := bel_alloc w2 (.cells #[.int .i64 x.1, .int .i64 x.2.1] 26)
    have gx := Bx.new (w := w2) (x := .int .i64 x.1) (y := .int .i64 x.2.1) (t := 26)
    replace hB := hB.below Aw3
    have Bw3 := bel_trans Bw2 Aw3
    obtain ⟨w3, hw3⟩ : ∃ X, X = w2.alloc (.cells #[.int .i64 x.1, .int .i64 x.2.1] 26) := ⟨_, rfl⟩
    rw [← hw3] at gx hB Bw3 Aw3
    have hw3' := hw3.symm; clear hw3
    go_wp2_with fail
    refine (s_TagFor _ _ _ _ _ hd.fits hk.fits hv.fits).mono ?_; rintro e w4 ⟨rfl, hbw4⟩
    replace gx := gx.on hbw4
    replace hB := hB.below hbw4
    have Bw4 := bel_trans Bw3 hbw4
    clear hbw4
    rw [← HX.out]
    have Aw5 := bel_alloc w4 (.cells #[.int .i64 x.1, .int .i64 x.2.1] 26)
    have gy := Bx.new (w := w4) (x := .int .i64 x.1) (y := .int .i64 x.2.1) (t := 26)
    replace gx := gx.on Aw5
    replace hB := hB.below Aw5
    have Bw5 := bel_trans Bw4 Aw5
    obtain ⟨w5, hw5⟩ : ∃ X, X = w4.alloc (.cells #[.int .i64 x.1, .int .i64 x.2.1] 26) := ⟨_, rfl⟩
    rw [← hw5] at gx gy hB Bw5 Aw5
    have hw5' := hw5.symm; clear hw5
    cases hok : elsB p [d, k, v] with
    | false =>
      have x0 : x.2.2 = false := by rw [HX.out]; unfold tagFor; rw [hok]; rfl
      obtain ⟨gx0, gx1, gx2, gx3⟩ := id gx
      obtain ⟨gy0, gy1, gy2, gy3⟩ := id gy
      go_wp2_with fail
      clear gx0 gx1 gx2 gx3 gy0 gy1 gy2 gy3 gx gy
      go_wp2_with fail
      refine (s_DrawCheatingKeys _ _ _ _ hB).mono ?_; rintro e w6 ⟨p2, va, ta, vb, tb, rfl, hp2, hva, hta, hvb, htb, hbw6⟩
      replace hB := hB.below hbw6
      have Bw6 := bel_trans Bw5 hbw6
      clear hbw6
      have Aw7 : Below w6.heap.size w6 ((w6.alloc (.cells #[.int .i64 0, .int .i64 0] 26)).alloc (.cells #[.int .i64 0, .int .i64 0] 26)) := by (repeat (first | exact Below.refl _ _ | assumption | refine bel_trans ?_ (bel_alloc _ _) | refine bel_set ?_ (by first | (dsimp only; omega) | (simp; omega) | simp) _ | refine bel_trans ?_ (bel_drewN _ _) | refine bel_trans ?_ (bel_drew _) | refine bel_trans ?_ (by assumption)))
      have c1w7 : Bx ((w6.alloc (.cells #[.int .i64 0, .int .i64 0] 26)).alloc (.cells #[.int .i64 0, .int .i64 0] 26)) w6.heap.size (.int .i64 0) (.int .i64 0) := (Bx.new (w := w6) (t := 26)).on (bel_alloc _ _)
      have c2w7 : Bx ((w6.alloc (.cells #[.int .i64 0, .int .i64 0] 26)).alloc (.cells #[.int .i64 0, .int .i64 0] 26)) (w6.heap.size + 1) (.int .i64 0) (.int .i64 0) := by have := Bx.new (w := w6.alloc (.cells #[.int .i64 0, .int .i64 0] 26)) (x := .int .i64 0) (y := .int .i64 0) (t := 26); simpa using this
      obtain ⟨w7, hw7⟩ : ∃ X, X = (w6.alloc (.cells #[.int .i64 0, .int .i64 0] 26)).alloc (.cells #[.int .i64 0, .int .i64 0] 26) := ⟨_, rfl⟩
      rw [← hw7] at Aw7 c1w7 c2w7; have hw7' := hw7.symm; clear hw7
      obtain ⟨ga, gb⟩ := set4 c1w7 c2w7 (.int .i64 va) (.int .i64 ta) (.int .i64 vb) (.int .i64 tb)
      have Aw8 : Below w6.heap.size w6 ((((w7.setCell ⟨w6.heap.size, 0, none⟩ (.int .i64 va)).setCell ⟨w6.heap.size, 1, none⟩ (.int .i64 ta)).setCell ⟨w6.heap.size + 1, 0, none⟩ (.int .i64 vb)).setCell ⟨w6.heap.size + 1, 1, none⟩ (.int .i64 tb)) := (((Aw7.setCell (Nat.le_refl _) _).setCell (Nat.le_refl _) _).setCell (Nat.le_succ _) _).setCell (Nat.le_succ _) _
      obtain ⟨w8, hw8⟩ : ∃ X, X = (((w7.setCell ⟨w6.heap.size, 0, none⟩ (.int .i64 va)).setCell ⟨w6.heap.size, 1, none⟩ (.int .i64 ta)).setCell ⟨w6.heap.size + 1, 0, none⟩ (.int .i64 vb)).setCell ⟨w6.heap.size + 1, 1, none⟩ (.int .i64 tb) := ⟨_, rfl⟩
      rw [← hw8] at Aw8 ga gb; have hw8' := hw8.symm; clear hw8
      replace hB := hB.below Aw8
      have Bw8 := bel_trans Bw6 Aw8
      obtain ⟨c10, c11, c12, c13⟩ := c1w7; obtain ⟨c20, c21, c22, c23⟩ := c2w7
      have YL := cheatKeys_len p2 va ta vb tb; have YF := Lib.hid (cheatKeys_fit p2 va ta vb tb); have YO := Lib.hid (fun h1 h2 => cheat_one (p := p2) (v := va) (t := ta) (v' := vb) (t' := tb) h1 h2)
      obtain ⟨y, hy⟩ : ∃ y, y = cheatKeys p2 va ta vb tb := ⟨_, rfl⟩; rw [← hy] at YL YF YO; have HY := Lib.hid hy; clear hy
      obtain ⟨ga0, ga1, ga2, ga3⟩ := id ga
      obtain ⟨gb0, gb1, gb2, gb3⟩ := id gb
      go_wp2_with fail
      clear ga0 ga1 ga2 ga3
      clear gb0 gb1 gb2 gb3
      refine (i_CheatingKeys _ _ _ _ _ _).mono ?_; rintro e w9 ⟨r1, rfl, ho1, hbw9⟩
      replace ga := ga.on hbw9
      replace gb := gb.on hbw9
      replace hB := hB.below hbw9
      have Bw9 := bel_trans Bw8 hbw9
      clear hbw9
      clear c10 c11 c12 c13 c20 c21 c22 c23; rw [← HY.out] at ho1 ⊢; obtain ⟨ra, rc, rfl, M1⟩ := Mine.of ho1 (by omega) YF.out; clear ho1
      obtain ⟨ga0, ga1, ga2, ga3⟩ := id ga
      obtain ⟨gb0, gb1, gb2, gb3⟩ := id gb
      go_wp2_with fail
      clear ga0 ga1 ga2 ga3
      clear gb0 gb1 gb2 gb3
      refine (s_CheatingKeys _ _ _ _ _ _ hva.fits hta.fits hvb.fits htb.fits).mono ?_; rintro e w10 ⟨r2, rfl, ho2, hbw10⟩
      replace ga := ga.on hbw10
      replace gb := gb.on hbw10
      replace hB := hB.below hbw10
      replace M1 := M1.below hbw10
      have Bw10 := bel_trans Bw9 hbw10
      clear hbw10
      rw [← HY.out] at ho2 ⊢; obtain ⟨sa, sc, rfl, M2⟩ := Mine.of ho2 (by omega) YF.out; clear ho2
      cases hy2 : y.2 with
      | false =>
        go_wp2_with fail
        refine (l_sameInts _ _ _ _ _ y.1 _ M1.ints M2.ints).mono ?_; rintro e w11 ⟨rfl, hbw11⟩
        replace ga := ga.on hbw11
        replace gb := gb.on hbw11
        replace hB := hB.below hbw11
        replace M1 := M1.below hbw11
        replace M2 := M2.below hbw11
        have Bw11 := bel_trans Bw10 hbw11
        clear hbw11
        clear M1 M2 ga gb
        go_wp2_with fail
        refine (s_DrawTagHolds _ _ _ _ hB).mono ?_; rintro e w12 ⟨p4, d4, k4, v4, t4, rfl, hp4, hd4, hk4, hv4, ht4, hbw12⟩
        replace hB := hB.below hbw12
        have Bw12 := bel_trans Bw11 hbw12
        clear hbw12
        have Aw13 := bel_alloc w12 (.cells #[.int .i64 v4, .int .i64 t4] 26)
        have g4 := Bx.new (w := w12) (x := .int .i64 v4) (y := .int .i64 t4) (t := 26)
        replace hB := hB.below Aw13
        have Bw13 := bel_trans Bw12 Aw13
        obtain ⟨w13, hw13⟩ : ∃ X, X = w12.alloc (.cells #[.int .i64 v4, .int .i64 t4] 26) := ⟨_, rfl⟩
        rw [← hw13] at g4 hB Bw13 Aw13
        have hw13' := hw13.symm; clear hw13
        obtain ⟨q4, hq4⟩ : ∃ q, q = (elsB p4 [d4, k4, v4, t4] && tagOk p4 d4 k4 v4 t4) := ⟨_, rfl⟩; have HQ4 := Lib.hid hq4; clear hq4
        obtain ⟨r4, hr4⟩ : ∃ q, q = elsB p4 [d4, k4, v4, t4] := ⟨_, rfl⟩; have HR4 := Lib.hid hr4; clear hr4
        obtain ⟨g40, g41, g42, g43⟩ := id g4
        go_wp2_with fail
        clear g40 g41 g42 g43
        refine (i_TagHolds _ _ _ _ _ _ hd4.fits hk4.fits hv4.fits ht4.fits).mono ?_; rintro e w14 ⟨rfl, hbw14⟩
        replace g4 := g4.on hbw14
        replace hB := hB.below hbw14
        have Bw14 := bel_trans Bw13 hbw14
        clear hbw14
        rw [← HQ4.out, ← HR4.out]
        obtain ⟨g40, g41, g42, g43⟩ := id g4
        go_wp2_with fail
        clear g40 g41 g42 g43
        refine (s_TagHolds _ _ _ _ _ _ hd4.fits hk4.fits hv4.fits ht4.fits).mono ?_; rintro e w15 ⟨rfl, hbw15⟩
        replace g4 := g4.on hbw15
        replace hB := hB.below hbw15
        have Bw15 := bel_trans Bw14 hbw15
        clear hbw15
        rw [← HQ4.out, ← HR4.out]
        clear g4
        go_wp2_with fail
        refine (s_DrawScaleTagged _ _ _ _ hB).mono ?_; rintro e w16 ⟨p5, v5, t5, k5, rfl, hp5, hv5, ht5, hk5, hbw16⟩
        replace hB := hB.below hbw16
        have Bw16 := bel_trans Bw15 hbw16
        clear hbw16
        have Aw17 := bel_alloc w16 (.cells #[.int .i64 v5, .int .i64 t5] 26)
        have g5 := Bx.new (w := w16) (x := .int .i64 v5) (y := .int .i64 t5) (t := 26)
        replace hB := hB.below Aw17
        have Bw17 := bel_trans Bw16 Aw17
        obtain ⟨w17, hw17⟩ : ∃ X, X = w16.alloc (.cells #[.int .i64 v5, .int .i64 t5] 26) := ⟨_, rfl⟩
        rw [← hw17] at g5 hB Bw17 Aw17
        have hw17' := hw17.symm; clear hw17
        obtain ⟨x5, hx5⟩ : ∃ x, x = scaleTg p5 v5 t5 k5 := ⟨_, rfl⟩; have HX5 := Lib.hid hx5; clear hx5
        obtain ⟨g50, g51, g52, g53⟩ := id g5
        go_wp2_with fail
        clear g50 g51 g52 g53
        refine (i_ScaleTagged _ _ _ _ _).mono ?_; rintro e w18 ⟨rfl, hbw18⟩
        replace g5 := g5.on hbw18
        replace hB := hB.below hbw18
        have Bw18 := bel_trans Bw17 hbw18
        clear hbw18
        rw [← HX5.out]
        have Aw19 := bel_alloc w18 (.cells #[.int .i64 x5.1, .int .i64 x5.2.1] 26)
        have g6 := Bx.new (w := w18) (x := .int .i64 x5.1) (y := .int .i64 x5.2.1) (t := 26)
        replace g5 := g5.on Aw19
        replace hB := hB.below Aw19
        have Bw19 := bel_trans Bw18 Aw19
        obtain ⟨w19, hw19⟩ : ∃ X, X = w18.alloc (.cells #[.int .i64 x5.1, .int .i64 x5.2.1] 26) := ⟨_, rfl⟩
        rw [← hw19] at g5 g6 hB Bw19 Aw19
        have hw19' := hw19.symm; clear hw19
        obtain ⟨g50, g51, g52, g53⟩ := id g5
        go_wp2_with fail
        clear g50 g51 g52 g53
        refine (s_ScaleTagged _ _ _ _ _ hv5.fits ht5.fits).mono ?_; rintro e w20 ⟨rfl, hbw20⟩
        replace g5 := g5.on hbw20
        replace g6 := g6.on hbw20
        replace hB := hB.below hbw20
        have Bw20 := bel_trans Bw19 hbw20
        clear hbw20
        rw [← HX5.out]
        have Aw21 := bel_alloc w20 (.cells #[.int .i64 x5.1, .int .i64 x5.2.1] 26)
        have g7 := Bx.new (w := w20) (x := .int .i64 x5.1) (y := .int .i64 x5.2.1) (t := 26)
        replace g5 := g5.on Aw21
        replace g6 := g6.on Aw21
        replace hB := hB.below Aw21
        have Bw21 := bel_trans Bw20 Aw21
        obtain ⟨w21, hw21⟩ : ∃ X, X = w20.alloc (.cells #[.int .i64 x5.1, .int .i64 x5.2.1] 26) := ⟨_, rfl⟩
        rw [← hw21] at g5 g6 g7 hB Bw21 Aw21
        have hw21' := hw21.symm; clear hw21
        clear g5
        go_wp2_with fail
        refine (s_DrawShiftKey _ _ _ _ hB).mono ?_; rintro e w22 ⟨p6, d6, k6, j6, rfl, hp6, hd6, hk6, hj6, hbw22⟩
        replace g6 := g6.on hbw22
        replace g7 := g7.on hbw22
        replace hB := hB.below hbw22
        have Bw22 := bel_trans Bw21 hbw22
        clear hbw22
        clear hB
        obtain ⟨x6, hx6⟩ : ∃ x, x = semShiftKey p6 d6 k6 j6 := ⟨_, rfl⟩; have HX6 := Lib.hid hx6; clear hx6
        go_wp2_with fail
        refine (i_ShiftKey _ _ _ _ _ hd6.fits hk6.fits hj6.fits).mono ?_; rintro e w23 ⟨rfl, hbw23⟩
        replace g6 := g6.on hbw23
        replace g7 := g7.on hbw23
        have Bw23 := bel_trans Bw22 hbw23
        clear hbw23
        rw [← HX6.out]
        go_wp2_with fail
        refine (s_ShiftKey _ _ _ _ _ hd6.fits hk6.fits hj6.fits).mono ?_; rintro e w24 ⟨rfl, hbw24⟩
        replace g6 := g6.on hbw24
        replace g7 := g7.on hbw24
        have Bw24 := bel_trans Bw23 hbw24
        clear hbw24
        rw [← HX6.out]
        obtain ⟨g60, g61, g62, g63⟩ := id g6
        obtain ⟨g70, g71, g72, g73⟩ := id g7
        go_wp2
        go_ret
        exact ⟨by first | rfl | simp, Bw24⟩
      | true =>
        by_cases hvv : va = vb
        · subst hvv
          go_wp2_with fail
          refine (l_sameInts _ _ _ _ _ y.1 _ M1.ints M2.ints).mono ?_; rintro e w11 ⟨rfl, hbw11⟩
          replace ga := ga.on hbw11
          replace gb := gb.on hbw11
          replace hB := hB.below hbw11
          replace M1 := M1.below hbw11
          replace M2 := M2.below hbw11
          have Bw11 := bel_trans Bw10 hbw11
          clear hbw11
          obtain ⟨ga0, ga1, ga2, ga3⟩ := id ga
          obtain ⟨gb0, gb1, gb2, gb3⟩ := id gb
          go_wp2_with fail
          clear ga0 ga1 ga2 ga3 gb0 gb1 gb2 gb3
          clear M1 M2 ga gb
          go_wp2_with fail
          refine (s_DrawTagHolds _ _ _ _ hB).mono ?_; rintro e w12 ⟨p4, d4, k4, v4, t4, rfl, hp4, hd4, hk4, hv4, ht4, hbw12⟩
          replace hB := hB.below hbw12
          have Bw12 := bel_trans Bw11 hbw12
          clear hbw12
          have Aw13 := bel_alloc w12 (.cells #[.int .i64 v4, .int .i64 t4] 26)
          have g4 := Bx.new (w := w12) (x := .int .i64 v4) (y := .int .i64 t4) (t := 26)
          replace hB := hB.below Aw13
          have Bw13 := bel_trans Bw12 Aw13
          obtain ⟨w13, hw13⟩ : ∃ X, X = w12.alloc (.cells #[.int .i64 v4, .int .i64 t4] 26) := ⟨_, rfl⟩
          rw [← hw13] at g4 hB Bw13 Aw13
          have hw13' := hw13.symm; clear hw13
          obtain ⟨q4, hq4⟩ : ∃ q, q = (elsB p4 [d4, k4, v4, t4] && tagOk p4 d4 k4 v4 t4) := ⟨_, rfl⟩; have HQ4 := Lib.hid hq4; clear hq4
          obtain ⟨r4, hr4⟩ : ∃ q, q = elsB p4 [d4, k4, v4, t4] := ⟨_, rfl⟩; have HR4 := Lib.hid hr4; clear hr4
          obtain ⟨g40, g41, g42, g43⟩ := id g4
          go_wp2_with fail
          clear g40 g41 g42 g43
          refine (i_TagHolds _ _ _ _ _ _ hd4.fits hk4.fits hv4.fits ht4.fits).mono ?_; rintro e w14 ⟨rfl, hbw14⟩
          replace g4 := g4.on hbw14
          replace hB := hB.below hbw14
          have Bw14 := bel_trans Bw13 hbw14
          clear hbw14
          rw [← HQ4.out, ← HR4.out]
          obtain ⟨g40, g41, g42, g43⟩ := id g4
          go_wp2_with fail
          clear g40 g41 g42 g43
          refine (s_TagHolds _ _ _ _ _ _ hd4.fits hk4.fits hv4.fits ht4.fits).mono ?_; rintro e w15 ⟨rfl, hbw15⟩
          replace g4 := g4.on hbw15
          replace hB := hB.below hbw15
          have Bw15 := bel_trans Bw14 hbw15
          clear hbw15
          rw [← HQ4.out, ← HR4.out]
          clear g4
          go_wp2_with fail
          refine (s_DrawScaleTagged _ _ _ _ hB).mono ?_; rintro e w16 ⟨p5, v5, t5, k5, rfl, hp5, hv5, ht5, hk5, hbw16⟩
          replace hB := hB.below hbw16
          have Bw16 := bel_trans Bw15 hbw16
          clear hbw16
          have Aw17 := bel_alloc w16 (.cells #[.int .i64 v5, .int .i64 t5] 26)
          have g5 := Bx.new (w := w16) (x := .int .i64 v5) (y := .int .i64 t5) (t := 26)
          replace hB := hB.below Aw17
          have Bw17 := bel_trans Bw16 Aw17
          obtain ⟨w17, hw17⟩ : ∃ X, X = w16.alloc (.cells #[.int .i64 v5, .int .i64 t5] 26) := ⟨_, rfl⟩
          rw [← hw17] at g5 hB Bw17 Aw17
          have hw17' := hw17.symm; clear hw17
          obtain ⟨x5, hx5⟩ : ∃ x, x = scaleTg p5 v5 t5 k5 := ⟨_, rfl⟩; have HX5 := Lib.hid hx5; clear hx5
          obtain ⟨g50, g51, g52, g53⟩ := id g5
          go_wp2_with fail
          clear g50 g51 g52 g53
          refine (i_ScaleTagged _ _ _ _ _).mono ?_; rintro e w18 ⟨rfl, hbw18⟩
          replace g5 := g5.on hbw18
          replace hB := hB.below hbw18
          have Bw18 := bel_trans Bw17 hbw18
          clear hbw18
          rw [← HX5.out]
          have Aw19 := bel_alloc w18 (.cells #[.int .i64 x5.1, .int .i64 x5.2.1] 26)
          have g6 := Bx.new (w := w18) (x := .int .i64 x5.1) (y := .int .i64 x5.2.1) (t := 26)
          replace g5 := g5.on Aw19
          replace hB := hB.below Aw19
          have Bw19 := bel_trans Bw18 Aw19
          obtain ⟨w19, hw19⟩ : ∃ X, X = w18.alloc (.cells #[.int .i64 x5.1, .int .i64 x5.2.1] 26) := ⟨_, rfl⟩
          rw [← hw19] at g5 g6 hB Bw19 Aw19
          have hw19' := hw19.symm; clear hw19
          obtain ⟨g50, g51, g52, g53⟩ := id g5
          go_wp2_with fail
          clear g50 g51 g52 g53
          refine (s_ScaleTagged _ _ _ _ _ hv5.fits ht5.fits).mono ?_; rintro e w20 ⟨rfl, hbw20⟩
          replace g5 := g5.on hbw20
          replace g6 := g6.on hbw20
          replace hB := hB.below hbw20
          have Bw20 := bel_trans Bw19 hbw20
          clear hbw20
          rw [← HX5.out]
          have Aw21 := bel_alloc w20 (.cells #[.int .i64 x5.1, .int .i64 x5.2.1] 26)
          have g7 := Bx.new (w := w20) (x := .int .i64 x5.1) (y := .int .i64 x5.2.1) (t := 26)
          replace g5 := g5.on Aw21
          replace g6 := g6.on Aw21
          replace hB := hB.below Aw21
          have Bw21 := bel_trans Bw20 Aw21
          obtain ⟨w21, hw21⟩ : ∃ X, X = w20.alloc (.cells #[.int .i64 x5.1, .int .i64 x5.2.1] 26) := ⟨_, rfl⟩
          rw [← hw21] at g5 g6 g7 hB Bw21 Aw21
          have hw21' := hw21.symm; clear hw21
          clear g5
          go_wp2_with fail
          refine (s_DrawShiftKey _ _ _ _ hB).mono ?_; rintro e w22 ⟨p6, d6, k6, j6, rfl, hp6, hd6, hk6, hj6, hbw22⟩
          replace g6 := g6.on hbw22
          replace g7 := g7.on hbw22
          replace hB := hB.below hbw22
          have Bw22 := bel_trans Bw21 hbw22
          clear hbw22
          clear hB
          obtain ⟨x6, hx6⟩ : ∃ x, x = semShiftKey p6 d6 k6 j6 := ⟨_, rfl⟩; have HX6 := Lib.hid hx6; clear hx6
          go_wp2_with fail
          refine (i_ShiftKey _ _ _ _ _ hd6.fits hk6.fits hj6.fits).mono ?_; rintro e w23 ⟨rfl, hbw23⟩
          replace g6 := g6.on hbw23
          replace g7 := g7.on hbw23
          have Bw23 := bel_trans Bw22 hbw23
          clear hbw23
          rw [← HX6.out]
          go_wp2_with fail
          refine (s_ShiftKey _ _ _ _ _ hd6.fits hk6.fits hj6.fits).mono ?_; rintro e w24 ⟨rfl, hbw24⟩
          replace g6 := g6.on hbw24
          replace g7 := g7.on hbw24
          have Bw24 := bel_trans Bw23 hbw24
          clear hbw24
          rw [← HX6.out]
          obtain ⟨g60, g61, g62, g63⟩ := id g6
          obtain ⟨g70, g71, g72, g73⟩ := id g7
          go_wp2
          go_ret
          exact ⟨by first | rfl | simp, Bw24⟩
        · have hy1 : (y.1.length : Int) = 1 := by have := YO.out hy2 hvv; omega
          go_wp2_with fail
          refine (l_sameInts _ _ _ _ _ y.1 _ M1.ints M2.ints).mono ?_; rintro e w11 ⟨rfl, hbw11⟩
          replace ga := ga.on hbw11
          replace gb := gb.on hbw11
          replace hB := hB.below hbw11
          replace M1 := M1.below hbw11
          replace M2 := M2.below hbw11
          have Bw11 := bel_trans Bw10 hbw11
          clear hbw11
          obtain ⟨ga0, ga1, ga2, ga3⟩ := id ga
          obtain ⟨gb0, gb1, gb2, gb3⟩ := id gb
          go_wp2_with fail
          clear ga0 ga1 ga2 ga3 gb0 gb1 gb2 gb3
          clear M1 M2 ga gb
          go_wp2_with fail
          refine (s_DrawTagHolds _ _ _ _ hB).mono ?_; rintro e w12 ⟨p4, d4, k4, v4, t4, rfl, hp4, hd4, hk4, hv4, ht4, hbw12⟩
          replace hB := hB.below hbw12
          have Bw12 := bel_trans Bw11 hbw12
          clear hbw12
          have Aw13 := bel_alloc w12 (.cells #[.int .i64 v4, .int .i64 t4] 26)
          have g4 := Bx.new (w := w12) (x := .int .i64 v4) (y := .int .i64 t4) (t := 26)
          replace hB := hB.below Aw13
          have Bw13 := bel_trans Bw12 Aw13
          obtain ⟨w13, hw13⟩ : ∃ X, X = w12.alloc (.cells #[.int .i64 v4, .int .i64 t4] 26) := ⟨_, rfl⟩
          rw [← hw13] at g4 hB Bw13 Aw13
          have hw13' := hw13.symm; clear hw13
          obtain ⟨q4, hq4⟩ : ∃ q, q = (elsB p4 [d4, k4, v4, t4] && tagOk p4 d4 k4 v4 t4) := ⟨_, rfl⟩; have HQ4 := Lib.hid hq4; clear hq4
          obtain ⟨r4, hr4⟩ : ∃ q, q = elsB p4 [d4, k4, v4, t4] := ⟨_, rfl⟩; have HR4 := Lib.hid hr4; clear hr4
          obtain ⟨g40, g41, g42, g43⟩ := id g4
          go_wp2_with fail
          clear g40 g41 g42 g43
          refine (i_TagHolds _ _ _ _ _ _ hd4.fits hk4.fits hv4.fits ht4.fits).mono ?_; rintro e w14 ⟨rfl, hbw14⟩
          replace g4 := g4.on hbw14
          replace hB := hB.below hbw14
          have Bw14 := bel_trans Bw13 hbw14
          clear hbw14
          rw [← HQ4.out, ← HR4.out]
          obtain ⟨g40, g41, g42, g43⟩ := id g4
          go_wp2_with fail
          clear g40 g41 g42 g43
          refine (s_TagHolds _ _ _ _ _ _ hd4.fits hk4.fits hv4.fits ht4.fits).mono ?_; rintro e w15 ⟨rfl, hbw15⟩
          replace g4 := g4.on hbw15
          replace hB := hB.below hbw15
          have Bw15 := bel_trans Bw14 hbw15
          clear hbw15
          rw [← HQ4.out, ← HR4.out]
          clear g4
          go_wp2_with fail
          refine (s_DrawScaleTagged _ _ _ _ hB).mono ?_; rintro e w16 ⟨p5, v5, t5, k5, rfl, hp5, hv5, ht5, hk5, hbw16⟩
          replace hB := hB.below hbw16
          have Bw16 := bel_trans Bw15 hbw16
          clear hbw16
          have Aw17 := bel_alloc w16 (.cells #[.int .i64 v5, .int .i64 t5] 26)
          have g5 := Bx.new (w := w16) (x := .int .i64 v5) (y := .int .i64 t5) (t := 26)
          replace hB := hB.below Aw17
          have Bw17 := bel_trans Bw16 Aw17
          obtain ⟨w17, hw17⟩ : ∃ X, X = w16.alloc (.cells #[.int .i64 v5, .int .i64 t5] 26) := ⟨_, rfl⟩
          rw [← hw17] at g5 hB Bw17 Aw17
          have hw17' := hw17.symm; clear hw17
          obtain ⟨x5, hx5⟩ : ∃ x, x = scaleTg p5 v5 t5 k5 := ⟨_, rfl⟩; have HX5 := Lib.hid hx5; clear hx5
          obtain ⟨g50, g51, g52, g53⟩ := id g5
          go_wp2_with fail
          clear g50 g51 g52 g53
          refine (i_ScaleTagged _ _ _ _ _).mono ?_; rintro e w18 ⟨rfl, hbw18⟩
          replace g5 := g5.on hbw18
          replace hB := hB.below hbw18
          have Bw18 := bel_trans Bw17 hbw18
          clear hbw18
          rw [← HX5.out]
          have Aw19 := bel_alloc w18 (.cells #[.int .i64 x5.1, .int .i64 x5.2.1] 26)
          have g6 := Bx.new (w := w18) (x := .int .i64 x5.1) (y := .int .i64 x5.2.1) (t := 26)
          replace g5 := g5.on Aw19
          replace hB := hB.below Aw19
          have Bw19 := bel_trans Bw18 Aw19
          obtain ⟨w19, hw19⟩ : ∃ X, X = w18.alloc (.cells #[.int .i64 x5.1, .int .i64 x5.2.1] 26) := ⟨_, rfl⟩
          rw [← hw19] at g5 g6 hB Bw19 Aw19
          have hw19' := hw19.symm; clear hw19
          obtain ⟨g50, g51, g52, g53⟩ := id g5
          go_wp2_with fail
          clear g50 g51 g52 g53
          refine (s_ScaleTagged _ _ _ _ _ hv5.fits ht5.fits).mono ?_; rintro e w20 ⟨rfl, hbw20⟩
          replace g5 := g5.on hbw20
          replace g6 := g6.on hbw20
          replace hB := hB.below hbw20
          have Bw20 := bel_trans Bw19 hbw20
          clear hbw20
          rw [← HX5.out]
          have Aw21 := bel_alloc w20 (.cells #[.int .i64 x5.1, .int .i64 x5.2.1] 26)
          have g7 := Bx.new (w := w20) (x := .int .i64 x5.1) (y := .int .i64 x5.2.1) (t := 26)
          replace g5 := g5.on Aw21
          replace g6 := g6.on Aw21
          replace hB := hB.below Aw21
          have Bw21 := bel_trans Bw20 Aw21
          obtain ⟨w21, hw21⟩ : ∃ X, X = w20.alloc (.cells #[.int .i64 x5.1, .int .i64 x5.2.1] 26) := ⟨_, rfl⟩
          rw [← hw21] at g5 g6 g7 hB Bw21 Aw21
          have hw21' := hw21.symm; clear hw21
          clear g5
          go_wp2_with fail
          refine (s_DrawShiftKey _ _ _ _ hB).mono ?_; rintro e w22 ⟨p6, d6, k6, j6, rfl, hp6, hd6, hk6, hj6, hbw22⟩
          replace g6 := g6.on hbw22
          replace g7 := g7.on hbw22
          replace hB := hB.below hbw22
          have Bw22 := bel_trans Bw21 hbw22
          clear hbw22
          clear hB
          obtain ⟨x6, hx6⟩ : ∃ x, x = semShiftKey p6 d6 k6 j6 := ⟨_, rfl⟩; have HX6 := Lib.hid hx6; clear hx6
          go_wp2_with fail
          refine (i_ShiftKey _ _ _ _ _ hd6.fits hk6.fits hj6.fits).mono ?_; rintro e w23 ⟨rfl, hbw23⟩
          replace g6 := g6.on hbw23
          replace g7 := g7.on hbw23
          have Bw23 := bel_trans Bw22 hbw23
          clear hbw23
          rw [← HX6.out]
          go_wp2_with fail
          refine (s_ShiftKey _ _ _ _ _ hd6.fits hk6.fits hj6.fits).mono ?_; rintro e w24 ⟨rfl, hbw24⟩
          replace g6 := g6.on hbw24
          replace g7 := g7.on hbw24
          have Bw24 := bel_trans Bw23 hbw24
          clear hbw24
          rw [← HX6.out]
          obtain ⟨g60, g61, g62, g63⟩ := id g6
          obtain ⟨g70, g71, g72, g73⟩ := id g7
          go_wp2
          go_ret
          exact ⟨by first | rfl | simp, Bw24⟩
    | true =>
      obtain ⟨f1, f2, f3, f4, f5, f6, f7, f8, f9, f10, f11⟩ := tags_ok hok
      have x0 : x = (v, (v * d + k) % p, true) := by rw [HX.out]; exact f1
      have fm : addMod p k k = ((k + k) % p, true) := by unfold addMod; rw [f5]; rfl
      obtain ⟨t, hT⟩ : ∃ t, t = (v * d + k) % p := ⟨_, rfl⟩
      rw [← hT] at x0 f2 f3 f4 f6 f7 f8 f10 f11
      obtain ⟨s1, hs1⟩ : ∃ t, t = (v + v) % p := ⟨_, rfl⟩; obtain ⟨s2, hs2⟩ : ∃ q, q = (t + t) % p := ⟨_, rfl⟩; obtain ⟨kk, hkk⟩ : ∃ t, t = (k + k) % p := ⟨_, rfl⟩; obtain ⟨k1, hk1⟩ : ∃ t, t = (k - 1 * d) % p := ⟨_, rfl⟩; obtain ⟨m1, hm1⟩ : ∃ t, t = (v + 1) % p := ⟨_, rfl⟩
      rw [← hs1, ← hs2] at f4 f6 f7; rw [← hkk] at f6 f7 fm; rw [← hm1] at f8 f10 f11; rw [← hk1] at f9 f10 f11
      have hp := elsB_p hok
      have b2 := fun i (hi : i < 4) => elsB_nth f2 (i := i) (by simpa using hi); have b6 := fun i (hi : i < 4) => elsB_nth f6 (i := i) (by simpa using hi); have b10 := fun i (hi : i < 4) => elsB_nth f10 (i := i) (by simpa using hi)
      have ft : Fits t := by have := b2 3 (by omega); simp [nth] at this; unfold Fits; omega
      have fs1 : Fits s1 := by have := b6 2 (by omega); simp [nth] at this; unfold Fits; omega
      have fs2 : Fits s2 := by have := b6 3 (by omega); simp [nth] at this; unfold Fits; omega
      have fkk : Fits kk := by have := b6 1 (by omega); simp [nth] at this; unfold Fits; omega
      have fk1 : Fits k1 := by have := b10 1 (by omega); simp [nth] at this; unfold Fits; omega
      have fm1 : Fits m1 := by have := b10 2 (by omega); simp [nth] at this; unfold Fits; omega
      clear b2 b6 b10 hT hs1 hs2 hkk hk1 hm1 f1 hok hp HX
      subst x0; (try dsimp only at gx gy hw3' hw5')
      obtain ⟨gx0, gx1, gx2, gx3⟩ := id gx
      obtain ⟨gy0, gy1, gy2, gy3⟩ := id gy
      go_wp2_with fail
      refine (i_TagHolds _ _ _ _ _ _ hd.fits hk.fits hv.fits ft).mono ?_; rintro e w6 ⟨rfl, hbw6⟩
      replace gx := gx.on hbw6
      replace gy := gy.on hbw6
      replace hB := hB.below hbw6
      have Bw6 := bel_trans Bw5 hbw6
      clear hbw6
      rw [f2, f3]
      clear gx0 gx1 gx2 gx3 gy0 gy1 gy2 gy3 gy
      (try dsimp only at gx)
      obtain ⟨gx0, gx1, gx2, gx3⟩ := id gx
      go_wp2_with fail
      clear gx0 gx1 gx2 gx3
      refine (i_AddTagged _ _ _ _ _ _).mono ?_; rintro e w7 ⟨rfl, hbw7⟩
      replace gx := gx.on hbw7
      replace hB := hB.below hbw7
      have Bw7 := bel_trans Bw6 hbw7
      clear hbw7
      rw [f4]
      have Aw8 := bel_alloc w7 (.cells #[.int .i64 s1, .int .i64 s2] 26)
      have gs := Bx.new (w := w7) (x := .int .i64 s1) (y := .int .i64 s2) (t := 26)
      replace gx := gx.on Aw8
      replace hB := hB.below Aw8
      have Bw8 := bel_trans Bw7 Aw8
      obtain ⟨w8, hw8⟩ : ∃ X, X = w7.alloc (.cells #[.int .i64 s1, .int .i64 s2] 26) := ⟨_, rfl⟩
      rw [← hw8] at gx gs hB Bw8 Aw8
      have hw8' := hw8.symm; clear hw8
      go_wp2_with fail
      refine (i_AddMod _ _ _ _).mono ?_; rintro e wx ⟨rfl, hwx⟩; subst hwx
      rw [fm]
      obtain ⟨gs0, gs1, gs2, gs3⟩ := id gs
      go_wp2_with fail
      clear gs0 gs1 gs2 gs3
      refine (i_TagHolds _ _ _ _ _ _ hd.fits fkk fs1 fs2).mono ?_; rintro e w9 ⟨rfl, hbw9⟩
      replace gx := gx.on hbw9
      replace gs := gs.on hbw9
      replace hB := hB.below hbw9
      have Bw9 := bel_trans Bw8 hbw9
      clear hbw9
      rw [f6, f7]
      clear gs
      obtain ⟨gx0, gx1, gx2, gx3⟩ := id gx
      go_wp2_with fail
      clear gx0 gx1 gx2 gx3
      refine (i_ShiftTagged _ _ _ _ _).mono ?_; rintro e w10 ⟨rfl, hbw10⟩
      replace gx := gx.on hbw10
      replace hB := hB.below hbw10
      have Bw10 := bel_trans Bw9 hbw10
      clear hbw10
      rw [f8]
      clear gx
      have Aw11 := bel_alloc w10 (.cells #[.int .i64 m1, .int .i64 t] 26)
      have gm := Bx.new (w := w10) (x := .int .i64 m1) (y := .int .i64 t) (t := 26)
      replace hB := hB.below Aw11
      have Bw11 := bel_trans Bw10 Aw11
      obtain ⟨w11, hw11⟩ : ∃ X, X = w10.alloc (.cells #[.int .i64 m1, .int .i64 t] 26) := ⟨_, rfl⟩
      rw [← hw11] at gm hB Bw11 Aw11
      have hw11' := hw11.symm; clear hw11
      go_wp2_with fail
      refine (i_ShiftKey _ _ _ _ _ hd.fits hk.fits (by unfold Fits; omega)).mono ?_; rintro e w12 ⟨rfl, hbw12⟩
      replace gm := gm.on hbw12
      replace hB := hB.below hbw12
      have Bw12 := bel_trans Bw11 hbw12
      clear hbw12
      rw [f9]
      obtain ⟨gm0, gm1, gm2, gm3⟩ := id gm
      go_wp2_with fail
      clear gm0 gm1 gm2 gm3
      refine (i_TagHolds _ _ _ _ _ _ hd.fits fk1 fm1 ft).mono ?_; rintro e w13 ⟨rfl, hbw13⟩
      replace gm := gm.on hbw13
      replace hB := hB.below hbw13
      have Bw13 := bel_trans Bw12 hbw13
      clear hbw13
      rw [f10, f11]
      clear gm
      go_wp2_with fail
      refine (s_DrawCheatingKeys _ _ _ _ hB).mono ?_; rintro e w14 ⟨p2, va, ta, vb, tb, rfl, hp2, hva, hta, hvb, htb, hbw14⟩
      replace hB := hB.below hbw14
      have Bw14 := bel_trans Bw13 hbw14
      clear hbw14
      have Aw15 : Below w14.heap.size w14 ((w14.alloc (.cells #[.int .i64 0, .int .i64 0] 26)).alloc (.cells #[.int .i64 0, .int .i64 0] 26)) := by (repeat (first | exact Below.refl _ _ | assumption | refine bel_trans ?_ (bel_alloc _ _) | refine bel_set ?_ (by first | (dsimp only; omega) | (simp; omega) | simp) _ | refine bel_trans ?_ (bel_drewN _ _) | refine bel_trans ?_ (bel_drew _) | refine bel_trans ?_ (by assumption)))
      have c1w15 : Bx ((w14.alloc (.cells #[.int .i64 0, .int .i64 0] 26)).alloc (.cells #[.int .i64 0, .int .i64 0] 26)) w14.heap.size (.int .i64 0) (.int .i64 0) := (Bx.new (w := w14) (t := 26)).on (bel_alloc _ _)
      have c2w15 : Bx ((w14.alloc (.cells #[.int .i64 0, .int .i64 0] 26)).alloc (.cells #[.int .i64 0, .int .i64 0] 26)) (w14.heap.size + 1) (.int .i64 0) (.int .i64 0) := by have := Bx.new (w := w14.alloc (.cells #[.int .i64 0, .int .i64 0] 26)) (x := .int .i64 0) (y := .int .i64 0) (t := 26); simpa using this
      obtain ⟨w15, hw15⟩ : ∃ X, X = (w14.alloc (.cells #[.int .i64 0, .int .i64 0] 26)).alloc (.cells #[.int .i64 0, .int .i64 0] 26) := ⟨_, rfl⟩
      rw [← hw15] at Aw15 c1w15 c2w15; have hw15' := hw15.symm; clear hw15
      obtain ⟨ga, gb⟩ := set4 c1w15 c2w15 (.int .i64 va) (.int .i64 ta) (.int .i64 vb) (.int .i64 tb)
      have Aw16 : Below w14.heap.size w14 ((((w15.setCell ⟨w14.heap.size, 0, none⟩ (.int .i64 va)).setCell ⟨w14.heap.size, 1, none⟩ (.int .i64 ta)).setCell ⟨w14.heap.size + 1, 0, none⟩ (.int .i64 vb)).setCell ⟨w14.heap.size + 1, 1, none⟩ (.int .i64 tb)) := (((Aw15.setCell (Nat.le_refl _) _).setCell (Nat.le_refl _) _).setCell (Nat.le_succ _) _).setCell (Nat.le_succ _) _
      obtain ⟨w16, hw16⟩ : ∃ X, X = (((w15.setCell ⟨w14.heap.size, 0, none⟩ (.int .i64 va)).setCell ⟨w14.heap.size, 1, none⟩ (.int .i64 ta)).setCell ⟨w14.heap.size + 1, 0, none⟩ (.int .i64 vb)).setCell ⟨w14.heap.size + 1, 1, none⟩ (.int .i64 tb) := ⟨_, rfl⟩
      rw [← hw16] at Aw16 ga gb; have hw16' := hw16.symm; clear hw16
      replace hB := hB.below Aw16
      have Bw16 := bel_trans Bw14 Aw16
      obtain ⟨c10, c11, c12, c13⟩ := c1w15; obtain ⟨c20, c21, c22, c23⟩ := c2w15
      have YL := cheatKeys_len p2 va ta vb tb; have YF := Lib.hid (cheatKeys_fit p2 va ta vb tb); have YO := Lib.hid (fun h1 h2 => cheat_one (p := p2) (v := va) (t := ta) (v' := vb) (t' := tb) h1 h2)
      obtain ⟨y, hy⟩ : ∃ y, y = cheatKeys p2 va ta vb tb := ⟨_, rfl⟩; rw [← hy] at YL YF YO; have HY := Lib.hid hy; clear hy
      obtain ⟨ga0, ga1, ga2, ga3⟩ := id ga
      obtain ⟨gb0, gb1, gb2, gb3⟩ := id gb
      go_wp2_with fail
      clear ga0 ga1 ga2 ga3
      clear gb0 gb1 gb2 gb3
      refine (i_CheatingKeys _ _ _ _ _ _).mono ?_; rintro e w17 ⟨r1, rfl, ho1, hbw17⟩
      replace ga := ga.on hbw17
      replace gb := gb.on hbw17
      replace hB := hB.below hbw17
      have Bw17 := bel_trans Bw16 hbw17
      clear hbw17
      clear c10 c11 c12 c13 c20 c21 c22 c23; rw [← HY.out] at ho1 ⊢; obtain ⟨ra, rc, rfl, M1⟩ := Mine.of ho1 (by omega) YF.out; clear ho1
      obtain ⟨ga0, ga1, ga2, ga3⟩ := id ga
      obtain ⟨gb0, gb1, gb2, gb3⟩ := id gb
      go_wp2_with fail
      clear ga0 ga1 ga2 ga3
      clear gb0 gb1 gb2 gb3
      refine (s_CheatingKeys _ _ _ _ _ _ hva.fits hta.fits hvb.fits htb.fits).mono ?_; rintro e w18 ⟨r2, rfl, ho2, hbw18⟩
      replace ga := ga.on hbw18
      replace gb := gb.on hbw18
      replace hB := hB.below hbw18
      replace M1 := M1.below hbw18
      have Bw18 := bel_trans Bw17 hbw18
      clear hbw18
      rw [← HY.out] at ho2 ⊢; obtain ⟨sa, sc, rfl, M2⟩ := Mine.of ho2 (by omega) YF.out; clear ho2
      cases hy2 : y.2 with
      | false =>
        go_wp2_with fail
        refine (l_sameInts _ _ _ _ _ y.1 _ M1.ints M2.ints).mono ?_; rintro e w19 ⟨rfl, hbw19⟩
        replace ga := ga.on hbw19
        replace gb := gb.on hbw19
        replace hB := hB.below hbw19
        replace M1 := M1.below hbw19
        replace M2 := M2.below hbw19
        have Bw19 := bel_trans Bw18 hbw19
        clear hbw19
        clear M1 M2 ga gb
        go_wp2_with fail
        refine (s_DrawTagHolds _ _ _ _ hB).mono ?_; rintro e w20 ⟨p4, d4, k4, v4, t4, rfl, hp4, hd4, hk4, hv4, ht4, hbw20⟩
        replace hB := hB.below hbw20
        have Bw20 := bel_trans Bw19 hbw20
        clear hbw20
        have Aw21 := bel_alloc w20 (.cells #[.int .i64 v4, .int .i64 t4] 26)
        have g4 := Bx.new (w := w20) (x := .int .i64 v4) (y := .int .i64 t4) (t := 26)
        replace hB := hB.below Aw21
        have Bw21 := bel_trans Bw20 Aw21
        obtain ⟨w21, hw21⟩ : ∃ X, X = w20.alloc (.cells #[.int .i64 v4, .int .i64 t4] 26) := ⟨_, rfl⟩
        rw [← hw21] at g4 hB Bw21 Aw21
        have hw21' := hw21.symm; clear hw21
        obtain ⟨q4, hq4⟩ : ∃ q, q = (elsB p4 [d4, k4, v4, t4] && tagOk p4 d4 k4 v4 t4) := ⟨_, rfl⟩; have HQ4 := Lib.hid hq4; clear hq4
        obtain ⟨r4, hr4⟩ : ∃ q, q = elsB p4 [d4, k4, v4, t4] := ⟨_, rfl⟩; have HR4 := Lib.hid hr4; clear hr4
        obtain ⟨g40, g41, g42, g43⟩ := id g4
        go_wp2_with fail
        clear g40 g41 g42 g43
        refine (i_TagHolds _ _ _ _ _ _ hd4.fits hk4.fits hv4.fits ht4.fits).mono ?_; rintro e w22 ⟨rfl, hbw22⟩
        replace g4 := g4.on hbw22
        replace hB := hB.below hbw22
        have Bw22 := bel_trans Bw21 hbw22
        clear hbw22
        rw [← HQ4.out, ← HR4.out]
        obtain ⟨g40, g41, g42, g43⟩ := id g4
        go_wp2_with fail
        clear g40 g41 g42 g43
        refine (s_TagHolds _ _ _ _ _ _ hd4.fits hk4.fits hv4.fits ht4.fits).mono ?_; rintro e w23 ⟨rfl, hbw23⟩
        replace g4 := g4.on hbw23
        replace hB := hB.below hbw23
        have Bw23 := bel_trans Bw22 hbw23
        clear hbw23
        rw [← HQ4.out, ← HR4.out]
        clear g4
        go_wp2_with fail
        refine (s_DrawScaleTagged _ _ _ _ hB).mono ?_; rintro e w24 ⟨p5, v5, t5, k5, rfl, hp5, hv5, ht5, hk5, hbw24⟩
        replace hB := hB.below hbw24
        have Bw24 := bel_trans Bw23 hbw24
        clear hbw24
        have Aw25 := bel_alloc w24 (.cells #[.int .i64 v5, .int .i64 t5] 26)
        have g5 := Bx.new (w := w24) (x := .int .i64 v5) (y := .int .i64 t5) (t := 26)
        replace hB := hB.below Aw25
        have Bw25 := bel_trans Bw24 Aw25
        obtain ⟨w25, hw25⟩ : ∃ X, X = w24.alloc (.cells #[.int .i64 v5, .int .i64 t5] 26) := ⟨_, rfl⟩
        rw [← hw25] at g5 hB Bw25 Aw25
        have hw25' := hw25.symm; clear hw25
        obtain ⟨x5, hx5⟩ : ∃ x, x = scaleTg p5 v5 t5 k5 := ⟨_, rfl⟩; have HX5 := Lib.hid hx5; clear hx5
        obtain ⟨g50, g51, g52, g53⟩ := id g5
        go_wp2_with fail
        clear g50 g51 g52 g53
        refine (i_ScaleTagged _ _ _ _ _).mono ?_; rintro e w26 ⟨rfl, hbw26⟩
        replace g5 := g5.on hbw26
        replace hB := hB.below hbw26
        have Bw26 := bel_trans Bw25 hbw26
        clear hbw26
        rw [← HX5.out]
        have Aw27 := bel_alloc w26 (.cells #[.int .i64 x5.1, .int .i64 x5.2.1] 26)
        have g6 := Bx.new (w := w26) (x := .int .i64 x5.1) (y := .int .i64 x5.2.1) (t := 26)
        replace g5 := g5.on Aw27
        replace hB := hB.below Aw27
        have Bw27 := bel_trans Bw26 Aw27
        obtain ⟨w27, hw27⟩ : ∃ X, X = w26.alloc (.cells #[.int .i64 x5.1, .int .i64 x5.2.1] 26) := ⟨_, rfl⟩
        rw [← hw27] at g5 g6 hB Bw27 Aw27
        have hw27' := hw27.symm; clear hw27
        obtain ⟨g50, g51, g52, g53⟩ := id g5
        go_wp2_with fail
        clear g50 g51 g52 g53
        refine (s_ScaleTagged _ _ _ _ _ hv5.fits ht5.fits).mono ?_; rintro e w28 ⟨rfl, hbw28⟩
        replace g5 := g5.on hbw28
        replace g6 := g6.on hbw28
        replace hB := hB.below hbw28
        have Bw28 := bel_trans Bw27 hbw28
        clear hbw28
        rw [← HX5.out]
        have Aw29 := bel_alloc w28 (.cells #[.int .i64 x5.1, .int .i64 x5.2.1] 26)
        have g7 := Bx.new (w := w28) (x := .int .i64 x5.1) (y := .int .i64 x5.2.1) (t := 26)
        replace g5 := g5.on Aw29
        replace g6 := g6.on Aw29
        replace hB := hB.below Aw29
        have Bw29 := bel_trans Bw28 Aw29
        obtain ⟨w29, hw29⟩ : ∃ X, X = w28.alloc (.cells #[.int .i64 x5.1, .int .i64 x5.2.1] 26) := ⟨_, rfl⟩
        rw [← hw29] at g5 g6 g7 hB Bw29 Aw29
        have hw29' := hw29.symm; clear hw29
        clear g5
        go_wp2_with fail
        refine (s_DrawShiftKey _ _ _ _ hB).mono ?_; rintro e w30 ⟨p6, d6, k6, j6, rfl, hp6, hd6, hk6, hj6, hbw30⟩
        replace g6 := g6.on hbw30
        replace g7 := g7.on hbw30
        replace hB := hB.below hbw30
        have Bw30 := bel_trans Bw29 hbw30
        clear hbw30
        clear hB
        obtain ⟨x6, hx6⟩ : ∃ x, x = semShiftKey p6 d6 k6 j6 := ⟨_, rfl⟩; have HX6 := Lib.hid hx6; clear hx6
        go_wp2_with fail
        refine (i_ShiftKey _ _ _ _ _ hd6.fits hk6.fits hj6.fits).mono ?_; rintro e w31 ⟨rfl, hbw31⟩
        replace g6 := g6.on hbw31
        replace g7 := g7.on hbw31
        have Bw31 := bel_trans Bw30 hbw31
        clear hbw31
        rw [← HX6.out]
        go_wp2_with fail
        refine (s_ShiftKey _ _ _ _ _ hd6.fits hk6.fits hj6.fits).mono ?_; rintro e w32 ⟨rfl, hbw32⟩
        replace g6 := g6.on hbw32
        replace g7 := g7.on hbw32
        have Bw32 := bel_trans Bw31 hbw32
        clear hbw32
        rw [← HX6.out]
        obtain ⟨g60, g61, g62, g63⟩ := id g6
        obtain ⟨g70, g71, g72, g73⟩ := id g7
        go_wp2
        go_ret
        exact ⟨by first | rfl | simp, Bw32⟩
      | true =>
        by_cases hvv : va = vb
        · subst hvv
          go_wp2_with fail
          refine (l_sameInts _ _ _ _ _ y.1 _ M1.ints M2.ints).mono ?_; rintro e w19 ⟨rfl, hbw19⟩
          replace ga := ga.on hbw19
          replace gb := gb.on hbw19
          replace hB := hB.below hbw19
          replace M1 := M1.below hbw19
          replace M2 := M2.below hbw19
          have Bw19 := bel_trans Bw18 hbw19
          clear hbw19
          obtain ⟨ga0, ga1, ga2, ga3⟩ := id ga
          obtain ⟨gb0, gb1, gb2, gb3⟩ := id gb
          go_wp2_with fail
          clear ga0 ga1 ga2 ga3 gb0 gb1 gb2 gb3
          clear M1 M2 ga gb
          go_wp2_with fail
          refine (s_DrawTagHolds _ _ _ _ hB).mono ?_; rintro e w20 ⟨p4, d4, k4, v4, t4, rfl, hp4, hd4, hk4, hv4, ht4, hbw20⟩
          replace hB := hB.below hbw20
          have Bw20 := bel_trans Bw19 hbw20
          clear hbw20
          have Aw21 := bel_alloc w20 (.cells #[.int .i64 v4, .int .i64 t4] 26)
          have g4 := Bx.new (w := w20) (x := .int .i64 v4) (y := .int .i64 t4) (t := 26)
          replace hB := hB.below Aw21
          have Bw21 := bel_trans Bw20 Aw21
          obtain ⟨w21, hw21⟩ : ∃ X, X = w20.alloc (.cells #[.int .i64 v4, .int .i64 t4] 26) := ⟨_, rfl⟩
          rw [← hw21] at g4 hB Bw21 Aw21
          have hw21' := hw21.symm; clear hw21
          obtain ⟨q4, hq4⟩ : ∃ q, q = (elsB p4 [d4, k4, v4, t4] && tagOk p4 d4 k4 v4 t4) := ⟨_, rfl⟩; have HQ4 := Lib.hid hq4; clear hq4
          obtain ⟨r4, hr4⟩ : ∃ q, q = elsB p4 [d4, k4, v4, t4] := ⟨_, rfl⟩; have HR4 := Lib.hid hr4; clear hr4
          obtain ⟨g40, g41, g42, g43⟩ := id g4
          go_wp2_with fail
          clear g40 g41 g42 g43
          refine (i_TagHolds _ _ _ _ _ _ hd4.fits hk4.fits hv4.fits ht4.fits).mono ?_; rintro e w22 ⟨rfl, hbw22⟩
          replace g4 := g4.on hbw22
          replace hB := hB.below hbw22
          have Bw22 := bel_trans Bw21 hbw22
          clear hbw22
          rw [← HQ4.out, ← HR4.out]
          obtain ⟨g40, g41, g42, g43⟩ := id g4
          go_wp2_with fail
          clear g40 g41 g42 g43
          refine (s_TagHolds _ _ _ _ _ _ hd4.fits hk4.fits hv4.fits ht4.fits).mono ?_; rintro e w23 ⟨rfl, hbw23⟩
          replace g4 := g4.on hbw23
          replace hB := hB.below hbw23
          have Bw23 := bel_trans Bw22 hbw23
          clear hbw23
          rw [← HQ4.out, ← HR4.out]
          clear g4
          go_wp2_with fail
          refine (s_DrawScaleTagged _ _ _ _ hB).mono ?_; rintro e w24 ⟨p5, v5, t5, k5, rfl, hp5, hv5, ht5, hk5, hbw24⟩
          replace hB := hB.below hbw24
          have Bw24 := bel_trans Bw23 hbw24
          clear hbw24
          have Aw25 := bel_alloc w24 (.cells #[.int .i64 v5, .int .i64 t5] 26)
          have g5 := Bx.new (w := w24) (x := .int .i64 v5) (y := .int .i64 t5) (t := 26)
          replace hB := hB.below Aw25
          have Bw25 := bel_trans Bw24 Aw25
          obtain ⟨w25, hw25⟩ : ∃ X, X = w24.alloc (.cells #[.int .i64 v5, .int .i64 t5] 26) := ⟨_, rfl⟩
          rw [← hw25] at g5 hB Bw25 Aw25
          have hw25' := hw25.symm; clear hw25
          obtain ⟨x5, hx5⟩ : ∃ x, x = scaleTg p5 v5 t5 k5 := ⟨_, rfl⟩; have HX5 := Lib.hid hx5; clear hx5
          obtain ⟨g50, g51, g52, g53⟩ := id g5
          go_wp2_with fail
          clear g50 g51 g52 g53
          refine (i_ScaleTagged _ _ _ _ _).mono ?_; rintro e w26 ⟨rfl, hbw26⟩
          replace g5 := g5.on hbw26
          replace hB := hB.below hbw26
          have Bw26 := bel_trans Bw25 hbw26
          clear hbw26
          rw [← HX5.out]
          have Aw27 := bel_alloc w26 (.cells #[.int .i64 x5.1, .int .i64 x5.2.1] 26)
          have g6 := Bx.new (w := w26) (x := .int .i64 x5.1) (y := .int .i64 x5.2.1) (t := 26)
          replace g5 := g5.on Aw27
          replace hB := hB.below Aw27
          have Bw27 := bel_trans Bw26 Aw27
          obtain ⟨w27, hw27⟩ : ∃ X, X = w26.alloc (.cells #[.int .i64 x5.1, .int .i64 x5.2.1] 26) := ⟨_, rfl⟩
          rw [← hw27] at g5 g6 hB Bw27 Aw27
          have hw27' := hw27.symm; clear hw27
          obtain ⟨g50, g51, g52, g53⟩ := id g5
          go_wp2_with fail
          clear g50 g51 g52 g53
          refine (s_ScaleTagged _ _ _ _ _ hv5.fits ht5.fits).mono ?_; rintro e w28 ⟨rfl, hbw28⟩
          replace g5 := g5.on hbw28
          replace g6 := g6.on hbw28
          replace hB := hB.below hbw28
          have Bw28 := bel_trans Bw27 hbw28
          clear hbw28
          rw [← HX5.out]
          have Aw29 := bel_alloc w28 (.cells #[.int .i64 x5.1, .int .i64 x5.2.1] 26)
          have g7 := Bx.new (w := w28) (x := .int .i64 x5.1) (y := .int .i64 x5.2.1) (t := 26)
          replace g5 := g5.on Aw29
          replace g6 := g6.on Aw29
          replace hB := hB.below Aw29
          have Bw29 := bel_trans Bw28 Aw29
          obtain ⟨w29, hw29⟩ : ∃ X, X = w28.alloc (.cells #[.int .i64 x5.1, .int .i64 x5.2.1] 26) := ⟨_, rfl⟩
          rw [← hw29] at g5 g6 g7 hB Bw29 Aw29
          have hw29' := hw29.symm; clear hw29
          clear g5
          go_wp2_with fail
          refine (s_DrawShiftKey _ _ _ _ hB).mono ?_; rintro e w30 ⟨p6, d6, k6, j6, rfl, hp6, hd6, hk6, hj6, hbw30⟩
          replace g6 := g6.on hbw30
          replace g7 := g7.on hbw30
          replace hB := hB.below hbw30
          have Bw30 := bel_trans Bw29 hbw30
          clear hbw30
          clear hB
          obtain ⟨x6, hx6⟩ : ∃ x, x = semShiftKey p6 d6 k6 j6 := ⟨_, rfl⟩; have HX6 := Lib.hid hx6; clear hx6
          go_wp2_with fail
          refine (i_ShiftKey _ _ _ _ _ hd6.fits hk6.fits hj6.fits).mono ?_; rintro e w31 ⟨rfl, hbw31⟩
          replace g6 := g6.on hbw31
          replace g7 := g7.on hbw31
          have Bw31 := bel_trans Bw30 hbw31
          clear hbw31
          rw [← HX6.out]
          go_wp2_with fail
          refine (s_ShiftKey _ _ _ _ _ hd6.fits hk6.fits hj6.fits).mono ?_; rintro e w32 ⟨rfl, hbw32⟩
          replace g6 := g6.on hbw32
          replace g7 := g7.on hbw32
          have Bw32 := bel_trans Bw31 hbw32
          clear hbw32
          rw [← HX6.out]
          obtain ⟨g60, g61, g62, g63⟩ := id g6
          obtain ⟨g70, g71, g72, g73⟩ := id g7
          go_wp2
          go_ret
          exact ⟨by first | rfl | simp, Bw32⟩
        · have hy1 : (y.1.length : Int) = 1 := by have := YO.out hy2 hvv; omega
          go_wp2_with fail
          refine (l_sameInts _ _ _ _ _ y.1 _ M1.ints M2.ints).mono ?_; rintro e w19 ⟨rfl, hbw19⟩
          replace ga := ga.on hbw19
          replace gb := gb.on hbw19
          replace hB := hB.below hbw19
          replace M1 := M1.below hbw19
          replace M2 := M2.below hbw19
          have Bw19 := bel_trans Bw18 hbw19
          clear hbw19
          obtain ⟨ga0, ga1, ga2, ga3⟩ := id ga
          obtain ⟨gb0, gb1, gb2, gb3⟩ := id gb
          go_wp2_with fail
          clear ga0 ga1 ga2 ga3 gb0 gb1 gb2 gb3
          clear M1 M2 ga gb
          go_wp2_with fail
          refine (s_DrawTagHolds _ _ _ _ hB).mono ?_; rintro e w20 ⟨p4, d4, k4, v4, t4, rfl, hp4, hd4, hk4, hv4, ht4, hbw20⟩
          replace hB := hB.below hbw20
          have Bw20 := bel_trans Bw19 hbw20
          clear hbw20
          have Aw21 := bel_alloc w20 (.cells #[.int .i64 v4, .int .i64 t4] 26)
          have g4 := Bx.new (w := w20) (x := .int .i64 v4) (y := .int .i64 t4) (t := 26)
          replace hB := hB.below Aw21
          have Bw21 := bel_trans Bw20 Aw21
          obtain ⟨w21, hw21⟩ : ∃ X, X = w20.alloc (.cells #[.int .i64 v4, .int .i64 t4] 26) := ⟨_, rfl⟩
          rw [← hw21] at g4 hB Bw21 Aw21
          have hw21' := hw21.symm; clear hw21
          obtain ⟨q4, hq4⟩ : ∃ q, q = (elsB p4 [d4, k4, v4, t4] && tagOk p4 d4 k4 v4 t4) := ⟨_, rfl⟩; have HQ4 := Lib.hid hq4; clear hq4
          obtain ⟨r4, hr4⟩ : ∃ q, q = elsB p4 [d4, k4, v4, t4] := ⟨_, rfl⟩; have HR4 := Lib.hid hr4; clear hr4
          obtain ⟨g40, g41, g42, g43⟩ := id g4
          go_wp2_with fail
          clear g40 g41 g42 g43
          refine (i_TagHolds _ _ _ _ _ _ hd4.fits hk4.fits hv4.fits ht4.fits).mono ?_; rintro e w22 ⟨rfl, hbw22⟩
          replace g4 := g4.on hbw22
          replace hB := hB.below hbw22
          have Bw22 := bel_trans Bw21 hbw22
          clear hbw22
          rw [← HQ4.out, ← HR4.out]
          obtain ⟨g40, g41, g42, g43⟩ := id g4
          go_wp2_with fail
          clear g40 g41 g42 g43
          refine (s_TagHolds _ _ _ _ _ _ hd4.fits hk4.fits hv4.fits ht4.fits).mono ?_; rintro e w23 ⟨rfl, hbw23⟩
          replace g4 := g4.on hbw23
          replace hB := hB.below hbw23
          have Bw23 := bel_trans Bw22 hbw23
          clear hbw23
          rw [← HQ4.out, ← HR4.out]
          clear g4
          go_wp2_with fail
          refine (s_DrawScaleTagged _ _ _ _ hB).mono ?_; rintro e w24 ⟨p5, v5, t5, k5, rfl, hp5, hv5, ht5, hk5, hbw24⟩
          replace hB := hB.below hbw24
          have Bw24 := bel_trans Bw23 hbw24
          clear hbw24
          have Aw25 := bel_alloc w24 (.cells #[.int .i64 v5, .int .i64 t5] 26)
          have g5 := Bx.new (w := w24) (x := .int .i64 v5) (y := .int .i64 t5) (t := 26)
          replace hB := hB.below Aw25
          have Bw25 := bel_trans Bw24 Aw25
          obtain ⟨w25, hw25⟩ : ∃ X, X = w24.alloc (.cells #[.int .i64 v5, .int .i64 t5] 26) := ⟨_, rfl⟩
          rw [← hw25] at g5 hB Bw25 Aw25
          have hw25' := hw25.symm; clear hw25
          obtain ⟨x5, hx5⟩ : ∃ x, x = scaleTg p5 v5 t5 k5 := ⟨_, rfl⟩; have HX5 := Lib.hid hx5; clear hx5
          obtain ⟨g50, g51, g52, g53⟩ := id g5
          go_wp2_with fail
          clear g50 g51 g52 g53
          refine (i_ScaleTagged _ _ _ _ _).mono ?_; rintro e w26 ⟨rfl, hbw26⟩
          replace g5 := g5.on hbw26
          replace hB := hB.below hbw26
          have Bw26 := bel_trans Bw25 hbw26
          clear hbw26
          rw [← HX5.out]
          have Aw27 := bel_alloc w26 (.cells #[.int .i64 x5.1, .int .i64 x5.2.1] 26)
          have g6 := Bx.new (w := w26) (x := .int .i64 x5.1) (y := .int .i64 x5.2.1) (t := 26)
          replace g5 := g5.on Aw27
          replace hB := hB.below Aw27
          have Bw27 := bel_trans Bw26 Aw27
          obtain ⟨w27, hw27⟩ : ∃ X, X = w26.alloc (.cells #[.int .i64 x5.1, .int .i64 x5.2.1] 26) := ⟨_, rfl⟩
          rw [← hw27] at g5 g6 hB Bw27 Aw27
          have hw27' := hw27.symm; clear hw27
          obtain ⟨g50, g51, g52, g53⟩ := id g5
          go_wp2_with fail
          clear g50 g51 g52 g53
          refine (s_ScaleTagged _ _ _ _ _ hv5.fits ht5.fits).mono ?_; rintro e w28 ⟨rfl, hbw28⟩
          replace g5 := g5.on hbw28
          replace g6 := g6.on hbw28
          replace hB := hB.below hbw28
          have Bw28 := bel_trans Bw27 hbw28
          clear hbw28
          rw [← HX5.out]
          have Aw29 := bel_alloc w28 (.cells #[.int .i64 x5.1, .int .i64 x5.2.1] 26)
          have g7 := Bx.new (w := w28) (x := .int .i64 x5.1) (y := .int .i64 x5.2.1) (t := 26)
          replace g5 := g5.on Aw29
          replace g6 := g6.on Aw29
          replace hB := hB.below Aw29
          have Bw29 := bel_trans Bw28 Aw29
          obtain ⟨w29, hw29⟩ : ∃ X, X = w28.alloc (.cells #[.int .i64 x5.1, .int .i64 x5.2.1] 26) := ⟨_, rfl⟩
          rw [← hw29] at g5 g6 g7 hB Bw29 Aw29
          have hw29' := hw29.symm; clear hw29
          clear g5
          go_wp2_with fail
          refine (s_DrawShiftKey _ _ _ _ hB).mono ?_; rintro e w30 ⟨p6, d6, k6, j6, rfl, hp6, hd6, hk6, hj6, hbw30⟩
          replace g6 := g6.on hbw30
          replace g7 := g7.on hbw30
          replace hB := hB.below hbw30
          have Bw30 := bel_trans Bw29 hbw30
          clear hbw30
          clear hB
          obtain ⟨x6, hx6⟩ : ∃ x, x = semShiftKey p6 d6 k6 j6 := ⟨_, rfl⟩; have HX6 := Lib.hid hx6; clear hx6
          go_wp2_with fail
          refine (i_ShiftKey _ _ _ _ _ hd6.fits hk6.fits hj6.fits).mono ?_; rintro e w31 ⟨rfl, hbw31⟩
          replace g6 := g6.on hbw31
          replace g7 := g7.on hbw31
          have Bw31 := bel_trans Bw30 hbw31
          clear hbw31
          rw [← HX6.out]
          go_wp2_with fail
          refine (s_ShiftKey _ _ _ _ _ hd6.fits hk6.fits hj6.fits).mono ?_; rintro e w32 ⟨rfl, hbw32⟩
          replace g6 := g6.on hbw32
          replace g7 := g7.on hbw32
          have Bw32 := bel_trans Bw31 hbw32
          clear hbw32
          rw [← HX6.out]
          obtain ⟨g60, g61, g62, g63⟩ := id g6
          obtain ⟨g70, g71, g72, g73⟩ := id g7
          go_wp2
          go_ret
          exact ⟨by first | rfl | simp, Bw32⟩
end Go.Proofs.Ytnamhfaacamihaa
