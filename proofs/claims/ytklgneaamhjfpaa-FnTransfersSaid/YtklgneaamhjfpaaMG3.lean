/-
  The walk of the law FnTransfers.
-/
import Derived.Test.YtklgneaamhjfpaaGz
import Derived.Test.YtklgneaamhjfpaaGq
import Derived.Test.YtklgneaamhjfpaaG4
namespace Go.Proofs.Ytklgneaamhjfpaa
open Go.RowKit
set_option linter.unusedVariables false
set_option linter.unusedSimpArgs false
set_option maxRecDepth 100000

set_option maxHeartbeats 8000000 in
theorem law_FnTransfers (a0 : Option Addr) (n0 c0 : Nat) (z0 : List Int) (a1 : Option Addr) (n1 c1 : Nat) (z1 : List Int) (w : World) (h0 : BytesIn w a0 n0 c0 z0) (h1 : BytesIn w a1 n1 c1 z1) :
    Calls Try.prog 4 #[.slice a0 n0 c0, .slice a1 n1 c1] w fun e w' => e = .returned (.bool true) ∧ Below w.heap.size w w' := by
  have hn0 := h0.small; have hn1 := h1.small
  have hB : Byts w a1 n1 c1 := h1
  have hA : Byts w a0 n0 c0 := h0
  clear h0 h1
  obtain ⟨G, hG⟩ : ∃ G, IntKind.i64.wrap ((n0 : Int) + (n1 : Int)) = G := ⟨_, rfl⟩
  by_cases hg : 1048576 < G
  · go_enter Try.func4, Try.ntmps4
    go_wp2
    go_ret
    exact ⟨rfl, Below.refl _ _⟩
  go_enter Try.func4, Try.ntmps4
  go_wp2_with fail
  refine (s_DrawOpenChosen _ _ _ _ hA).mono ?_; rintro e w1 ⟨P, Q, R, f, y, c, i, m0, m1, rfl, gd, df, dy, dc, di, dm0, dm1, hbw1⟩
  replace hB := hB.below hbw1
  replace hA := hA.below hbw1
  have Bw1 := bel_trans (Below.refl w.heap.size w) hbw1
  clear hbw1
  clear hA
  obtain ⟨w1b, hw1b⟩ : ∃ X, X = w1.alloc (.cells #[.int .i64 P, .int .i64 Q, .int .i64 R] 24) := ⟨_, rfl⟩
  have A_ : Below w1.heap.size w1 w1b := by rw [hw1b]; exact bel_alloc _ _
  have ga : Gx w1b w1.heap.size P Q R := by rw [hw1b]; exact Gx.new
  replace hw1b := hw1b.symm
  replace hB := hB.below A_
  have kk_ := ga; obtain ⟨ga0, ga1, ga2⟩ := kk_
  have Bw1b := bel_trans Bw1 A_; clear A_
  obtain ⟨X, hX⟩ : ∃ zz_, zz_ = openChosen P Q R f y c i m0 m1 := ⟨_, rfl⟩; have HX := Lib.hid hX; clear hX
  go_wp2_with fail
  refine (i_OpenChosen _ _ _ _ _ _ _ _ _ _ gd.fP gd.fQ gd.fG df.fits dy.fits dc.fits di.fits dm0.fits dm1.fits).mono ?_; rintro e w2 ⟨rfl, hbw2⟩
  replace hB := hB.below hbw2
  replace ga := ga.on hbw2; clear ga0 ga1 ga2; have kk_ := ga; obtain ⟨ga0, ga1, ga2⟩ := kk_
  have Bw2 := bel_trans Bw1b hbw2
  clear hbw2
  rw [← HX.out]
  go_wp2_with fail
  refine (s_OpenChosen _ _ _ _ _ _ _ _ _ _ gd.fP gd.fQ gd.fG df.fits dy.fits dc.fits di.fits dm0.fits dm1.fits).mono ?_; rintro e w3 ⟨rfl, hbw3⟩
  replace hB := hB.below hbw3
  replace ga := ga.on hbw3; clear ga0 ga1 ga2; have kk_ := ga; obtain ⟨ga0, ga1, ga2⟩ := kk_
  have Bw3 := bel_trans Bw2 hbw3
  clear hbw3
  rw [← HX.out]
  go_wp2_with fail
  refine (s_DrawAnswerWays _ _ _ _ hB).mono ?_; rintro e w4 ⟨P2, Q2, R2, f2, u2, rfl, gd2, df2, du2, hbw4⟩
  replace hB := hB.below hbw4
  replace ga := ga.on hbw4; clear ga0 ga1 ga2; have kk_ := ga; obtain ⟨ga0, ga1, ga2⟩ := kk_
  have Bw4 := bel_trans Bw3 hbw4
  clear hbw4
  obtain ⟨w4b, hw4b⟩ : ∃ X, X = w4.alloc (.cells #[.int .i64 P2, .int .i64 Q2, .int .i64 R2] 24) := ⟨_, rfl⟩
  have A_ : Below w4.heap.size w4 w4b := by rw [hw4b]; exact bel_alloc _ _
  have gb : Gx w4b w4.heap.size P2 Q2 R2 := by rw [hw4b]; exact Gx.new
  replace hw4b := hw4b.symm
  replace hB := hB.below A_
  replace ga := ga.on A_; clear ga0 ga1 ga2; have kk_ := ga; obtain ⟨ga0, ga1, ga2⟩ := kk_
  have kk_ := gb; obtain ⟨gb0, gb1, gb2⟩ := kk_
  have Bw4b := bel_trans Bw4 A_; clear A_
  obtain ⟨Y, hY⟩ : ∃ zz_, zz_ = answerWays P2 Q2 R2 f2 u2 := ⟨_, rfl⟩; have HY := Lib.hid hY; clear hY
  go_wp2_with fail
  refine (i_AnswerWays _ _ _ _ _ _ gd2.fP gd2.fQ gd2.fG df2.fits du2.fits).mono ?_; rintro e w5 ⟨rfl, hbw5⟩
  replace hB := hB.below hbw5
  replace ga := ga.on hbw5; clear ga0 ga1 ga2; have kk_ := ga; obtain ⟨ga0, ga1, ga2⟩ := kk_
  replace gb := gb.on hbw5; clear gb0 gb1 gb2; have kk_ := gb; obtain ⟨gb0, gb1, gb2⟩ := kk_
  have Bw5 := bel_trans Bw4b hbw5
  clear hbw5
  rw [← HY.out]
  go_wp2_with fail
  refine (s_AnswerWays _ _ _ _ _ _ gd2.fP gd2.fQ gd2.fG df2.fits du2.fits).mono ?_; rintro e w6 ⟨rfl, hbw6⟩
  replace hB := hB.below hbw6
  replace ga := ga.on hbw6; clear ga0 ga1 ga2; have kk_ := ga; obtain ⟨ga0, ga1, ga2⟩ := kk_
  replace gb := gb.on hbw6; clear gb0 gb1 gb2; have kk_ := gb; obtain ⟨gb0, gb1, gb2⟩ := kk_
  have Bw6 := bel_trans Bw5 hbw6
  clear hbw6
  rw [← HY.out]
  clear gb gb0 gb1 gb2
  go_wp2_with fail
  refine (s_DrawFirstMessage _ _ _ _ hB).mono ?_; rintro e w7 ⟨P3, Q3, R3, x3, rfl, gd3, dx3, hbw7⟩
  replace hB := hB.below hbw7
  replace ga := ga.on hbw7; clear ga0 ga1 ga2; have kk_ := ga; obtain ⟨ga0, ga1, ga2⟩ := kk_
  have Bw7 := bel_trans Bw6 hbw7
  clear hbw7
  clear hB
  obtain ⟨w7b, hw7b⟩ : ∃ X, X = w7.alloc (.cells #[.int .i64 P3, .int .i64 Q3, .int .i64 R3] 24) := ⟨_, rfl⟩
  have A_ : Below w7.heap.size w7 w7b := by rw [hw7b]; exact bel_alloc _ _
  have gc : Gx w7b w7.heap.size P3 Q3 R3 := by rw [hw7b]; exact Gx.new
  replace hw7b := hw7b.symm
  replace ga := ga.on A_; clear ga0 ga1 ga2; have kk_ := ga; obtain ⟨ga0, ga1, ga2⟩ := kk_
  have kk_ := gc; obtain ⟨gc0, gc1, gc2⟩ := kk_
  have Bw7b := bel_trans Bw7 A_; clear A_
  obtain ⟨Z, hZ⟩ : ∃ zz_, zz_ = firstMsg P3 Q3 R3 x3 := ⟨_, rfl⟩; have HZ := Lib.hid hZ; clear hZ
  go_wp2_with fail
  refine (i_FirstMessage _ _ _ _ _ gd3.fP gd3.fQ gd3.fG dx3.fits).mono ?_; rintro e w8 ⟨rfl, hbw8⟩
  replace ga := ga.on hbw8; clear ga0 ga1 ga2; have kk_ := ga; obtain ⟨ga0, ga1, ga2⟩ := kk_
  replace gc := gc.on hbw8; clear gc0 gc1 gc2; have kk_ := gc; obtain ⟨gc0, gc1, gc2⟩ := kk_
  have Bw8 := bel_trans Bw7b hbw8
  clear hbw8
  rw [← HZ.out]
  go_wp2_with fail
  refine (s_FirstMessage _ _ _ _ _ gd3.fP gd3.fQ gd3.fG dx3.fits).mono ?_; rintro e w9 ⟨rfl, hbw9⟩
  replace ga := ga.on hbw9; clear ga0 ga1 ga2; have kk_ := ga; obtain ⟨ga0, ga1, ga2⟩ := kk_
  replace gc := gc.on hbw9; clear gc0 gc1 gc2; have kk_ := gc; obtain ⟨gc0, gc1, gc2⟩ := kk_
  have Bw9 := bel_trans Bw8 hbw9
  clear hbw9
  rw [← HZ.out]
  clear gc gc0 gc1 gc2
  cases hy2 : Y.2.2 with
  | false =>
    cases hx2 : X.2 with
    | false =>
      go_wp2
      go_ret
      exact ⟨by first | rfl | simp, Bw9⟩
    | true =>
      obtain ⟨hlog, hlaw⟩ := transfer_law (P := P) (Q := Q) (G := R) (f := f) (b := y) (c := c) (i := i) (x0 := m0) (x1 := m1) (by rw [← HX.out]; exact hx2)
      have HL := Lib.hid hlaw; have HG := Lib.hid hlog; clear hlaw hlog
      go_wp2_with fail
      refine (i_LogIn P Q R R f _).mono ?_; rintro e w10 ⟨s1, rfl, l1, l2, hbw10⟩
      replace ga := ga.on hbw10; clear ga0 ga1 ga2; have kk_ := ga; obtain ⟨ga0, ga1, ga2⟩ := kk_
      have Bw10 := bel_trans Bw9 hbw10
      clear hbw10
      rw [HG.out] at l1 l2 ⊢; have L1 := Lib.hid (l1 rfl); clear l1 l2
      go_wp2_with fail
      refine (s_LogIn P Q R R f _).mono ?_; rintro e w11 ⟨s2, rfl, l1, l2, hbw11⟩
      replace ga := ga.on hbw11; clear ga0 ga1 ga2; have kk_ := ga; obtain ⟨ga0, ga1, ga2⟩ := kk_
      have Bw11 := bel_trans Bw10 hbw11
      clear hbw11
      rw [HG.out] at l1 l2 ⊢; have L2 := Lib.hid (l1 rfl); clear l1 l2
      obtain rfl : s1 = s2 := logRet_eq (P := P) (Q := Q) (G := R) (a := R) (b := f) (fun _ => L1.out) (fun h => by rw [HG.out] at h; cases h) (fun _ => L2.out) (fun h => by rw [HG.out] at h; cases h)
      obtain ⟨rep, u, v, e1, e2, fr, fu, fv, pd, oz, e3, e4⟩ := HL.out s1 L1.out.1 L1.out.2
      have fs : Fits (s1 : Int) := by have := L1.out.1; have := gd.q2; unfold Fits; omega
      have E1 := Lib.hid e1; have E2 := Lib.hid e2; have E3 := Lib.hid e3; clear e1 e2 e3 L2 HL
      go_wp2_with fail
      refine (i_AnswerTo P Q R f y c _ gd.fP gd.fQ gd.fG df.fits dy.fits dc.fits).mono ?_; rintro e w12 ⟨rfl, hbw12⟩
      replace ga := ga.on hbw12; clear ga0 ga1 ga2; have kk_ := ga; obtain ⟨ga0, ga1, ga2⟩ := kk_
      have Bw12 := bel_trans Bw11 hbw12
      clear hbw12
      rw [E1.out]
      go_wp2_with fail
      refine (s_AnswerTo P Q R f y c _ gd.fP gd.fQ gd.fG df.fits dy.fits dc.fits).mono ?_; rintro e w13 ⟨rfl, hbw13⟩
      replace ga := ga.on hbw13; clear ga0 ga1 ga2; have kk_ := ga; obtain ⟨ga0, ga1, ga2⟩ := kk_
      have Bw13 := bel_trans Bw12 hbw13
      clear hbw13
      rw [E1.out]
      go_wp2_with fail
      refine (i_SealPair P Q R s1 rep i m0 m1 _ gd.fP gd.fQ gd.fG fs fr di.fits dm0.fits dm1.fits).mono ?_; rintro e w14 ⟨rfl, hbw14⟩
      replace ga := ga.on hbw14; clear ga0 ga1 ga2; have kk_ := ga; obtain ⟨ga0, ga1, ga2⟩ := kk_
      have Bw14 := bel_trans Bw13 hbw14
      clear hbw14
      rw [E2.out]
      rcases e4 with ⟨rfl, e5, e6⟩ | ⟨rfl, e5, e6⟩
      · have E5 := Lib.hid e5; have E6 := Lib.hid e6; clear e5 e6
        go_wp2_with fail
        refine (i_OpenChosen P Q R f y _ i u v _ gd.fP gd.fQ gd.fG df.fits dy.fits dc.fits di.fits fu fv).mono ?_; rintro e w15 ⟨rfl, hbw15⟩
        replace ga := ga.on hbw15; clear ga0 ga1 ga2; have kk_ := ga; obtain ⟨ga0, ga1, ga2⟩ := kk_
        have Bw15 := bel_trans Bw14 hbw15
        clear hbw15
        rw [E5.out]
        go_wp2_with fail
        refine (i_ChosenPad P Q R f y i _ gd.fP gd.fQ gd.fG df.fits dy.fits di.fits).mono ?_; rintro e w16 ⟨rfl, hbw16⟩
        replace ga := ga.on hbw16; clear ga0 ga1 ga2; have kk_ := ga; obtain ⟨ga0, ga1, ga2⟩ := kk_
        have Bw16 := bel_trans Bw15 hbw16
        clear hbw16
        rw [E3.out]
        go_wp2_with fail
        refine (i_PadsOf P Q R s1 rep i _ gd.fP gd.fQ gd.fG fs fr di.fits).mono ?_; rintro e w17 ⟨rfl, hbw17⟩
        replace ga := ga.on hbw17; clear ga0 ga1 ga2; have kk_ := ga; obtain ⟨ga0, ga1, ga2⟩ := kk_
        have Bw17 := bel_trans Bw16 hbw17
        clear hbw17
        rw [E6.out]
        go_wp2
        go_ret
        exact ⟨by first | rfl | simp, Bw17⟩
      · have E5 := Lib.hid e5; have E6 := Lib.hid e6; clear e5 e6
        go_wp2_with fail
        refine (i_OpenChosen P Q R f y _ i u v _ gd.fP gd.fQ gd.fG df.fits dy.fits dc.fits di.fits fu fv).mono ?_; rintro e w15 ⟨rfl, hbw15⟩
        replace ga := ga.on hbw15; clear ga0 ga1 ga2; have kk_ := ga; obtain ⟨ga0, ga1, ga2⟩ := kk_
        have Bw15 := bel_trans Bw14 hbw15
        clear hbw15
        rw [E5.out]
        go_wp2_with fail
        refine (i_ChosenPad P Q R f y i _ gd.fP gd.fQ gd.fG df.fits dy.fits di.fits).mono ?_; rintro e w16 ⟨rfl, hbw16⟩
        replace ga := ga.on hbw16; clear ga0 ga1 ga2; have kk_ := ga; obtain ⟨ga0, ga1, ga2⟩ := kk_
        have Bw16 := bel_trans Bw15 hbw16
        clear hbw16
        rw [E3.out]
        go_wp2_with fail
        refine (i_PadsOf P Q R s1 rep i _ gd.fP gd.fQ gd.fG fs fr di.fits).mono ?_; rintro e w17 ⟨rfl, hbw17⟩
        replace ga := ga.on hbw17; clear ga0 ga1 ga2; have kk_ := ga; obtain ⟨ga0, ga1, ga2⟩ := kk_
        have Bw17 := bel_trans Bw16 hbw17
        clear hbw17
        rw [E6.out]
        go_wp2
        go_ret
        exact ⟨by first | rfl | simp, Bw17⟩
  | true =>
    obtain ⟨w1_, w2_⟩ := ways_one (P := P2) (Q := Q2) (G := R2) (f := f2) (ans := u2) (by rw [← HY.out]; exact hy2)
    rw [← HY.out] at w1_ w2_
    cases hx2 : X.2 with
    | false =>
      go_wp2
      go_ret
      exact ⟨by first | rfl | simp, Bw9⟩
    | true =>
      obtain ⟨hlog, hlaw⟩ := transfer_law (P := P) (Q := Q) (G := R) (f := f) (b := y) (c := c) (i := i) (x0 := m0) (x1 := m1) (by rw [← HX.out]; exact hx2)
      have HL := Lib.hid hlaw; have HG := Lib.hid hlog; clear hlaw hlog
      go_wp2_with fail
      refine (i_LogIn P Q R R f _).mono ?_; rintro e w10 ⟨s1, rfl, l1, l2, hbw10⟩
      replace ga := ga.on hbw10; clear ga0 ga1 ga2; have kk_ := ga; obtain ⟨ga0, ga1, ga2⟩ := kk_
      have Bw10 := bel_trans Bw9 hbw10
      clear hbw10
      rw [HG.out] at l1 l2 ⊢; have L1 := Lib.hid (l1 rfl); clear l1 l2
      go_wp2_with fail
      refine (s_LogIn P Q R R f _).mono ?_; rintro e w11 ⟨s2, rfl, l1, l2, hbw11⟩
      replace ga := ga.on hbw11; clear ga0 ga1 ga2; have kk_ := ga; obtain ⟨ga0, ga1, ga2⟩ := kk_
      have Bw11 := bel_trans Bw10 hbw11
      clear hbw11
      rw [HG.out] at l1 l2 ⊢; have L2 := Lib.hid (l1 rfl); clear l1 l2
      obtain rfl : s1 = s2 := logRet_eq (P := P) (Q := Q) (G := R) (a := R) (b := f) (fun _ => L1.out) (fun h => by rw [HG.out] at h; cases h) (fun _ => L2.out) (fun h => by rw [HG.out] at h; cases h)
      obtain ⟨rep, u, v, e1, e2, fr, fu, fv, pd, oz, e3, e4⟩ := HL.out s1 L1.out.1 L1.out.2
      have fs : Fits (s1 : Int) := by have := L1.out.1; have := gd.q2; unfold Fits; omega
      have E1 := Lib.hid e1; have E2 := Lib.hid e2; have E3 := Lib.hid e3; clear e1 e2 e3 L2 HL
      go_wp2_with fail
      refine (i_AnswerTo P Q R f y c _ gd.fP gd.fQ gd.fG df.fits dy.fits dc.fits).mono ?_; rintro e w12 ⟨rfl, hbw12⟩
      replace ga := ga.on hbw12; clear ga0 ga1 ga2; have kk_ := ga; obtain ⟨ga0, ga1, ga2⟩ := kk_
      have Bw12 := bel_trans Bw11 hbw12
      clear hbw12
      rw [E1.out]
      go_wp2_with fail
      refine (s_AnswerTo P Q R f y c _ gd.fP gd.fQ gd.fG df.fits dy.fits dc.fits).mono ?_; rintro e w13 ⟨rfl, hbw13⟩
      replace ga := ga.on hbw13; clear ga0 ga1 ga2; have kk_ := ga; obtain ⟨ga0, ga1, ga2⟩ := kk_
      have Bw13 := bel_trans Bw12 hbw13
      clear hbw13
      rw [E1.out]
      go_wp2_with fail
      refine (i_SealPair P Q R s1 rep i m0 m1 _ gd.fP gd.fQ gd.fG fs fr di.fits dm0.fits dm1.fits).mono ?_; rintro e w14 ⟨rfl, hbw14⟩
      replace ga := ga.on hbw14; clear ga0 ga1 ga2; have kk_ := ga; obtain ⟨ga0, ga1, ga2⟩ := kk_
      have Bw14 := bel_trans Bw13 hbw14
      clear hbw14
      rw [E2.out]
      rcases e4 with ⟨rfl, e5, e6⟩ | ⟨rfl, e5, e6⟩
      · have E5 := Lib.hid e5; have E6 := Lib.hid e6; clear e5 e6
        go_wp2_with fail
        refine (i_OpenChosen P Q R f y _ i u v _ gd.fP gd.fQ gd.fG df.fits dy.fits dc.fits di.fits fu fv).mono ?_; rintro e w15 ⟨rfl, hbw15⟩
        replace ga := ga.on hbw15; clear ga0 ga1 ga2; have kk_ := ga; obtain ⟨ga0, ga1, ga2⟩ := kk_
        have Bw15 := bel_trans Bw14 hbw15
        clear hbw15
        rw [E5.out]
        go_wp2_with fail
        refine (i_ChosenPad P Q R f y i _ gd.fP gd.fQ gd.fG df.fits dy.fits di.fits).mono ?_; rintro e w16 ⟨rfl, hbw16⟩
        replace ga := ga.on hbw16; clear ga0 ga1 ga2; have kk_ := ga; obtain ⟨ga0, ga1, ga2⟩ := kk_
        have Bw16 := bel_trans Bw15 hbw16
        clear hbw16
        rw [E3.out]
        go_wp2_with fail
        refine (i_PadsOf P Q R s1 rep i _ gd.fP gd.fQ gd.fG fs fr di.fits).mono ?_; rintro e w17 ⟨rfl, hbw17⟩
        replace ga := ga.on hbw17; clear ga0 ga1 ga2; have kk_ := ga; obtain ⟨ga0, ga1, ga2⟩ := kk_
        have Bw17 := bel_trans Bw16 hbw17
        clear hbw17
        rw [E6.out]
        go_wp2
        go_ret
        exact ⟨by first | rfl | simp, Bw17⟩
      · have E5 := Lib.hid e5; have E6 := Lib.hid e6; clear e5 e6
        go_wp2_with fail
        refine (i_OpenChosen P Q R f y _ i u v _ gd.fP gd.fQ gd.fG df.fits dy.fits dc.fits di.fits fu fv).mono ?_; rintro e w15 ⟨rfl, hbw15⟩
        replace ga := ga.on hbw15; clear ga0 ga1 ga2; have kk_ := ga; obtain ⟨ga0, ga1, ga2⟩ := kk_
        have Bw15 := bel_trans Bw14 hbw15
        clear hbw15
        rw [E5.out]
        go_wp2_with fail
        refine (i_ChosenPad P Q R f y i _ gd.fP gd.fQ gd.fG df.fits dy.fits di.fits).mono ?_; rintro e w16 ⟨rfl, hbw16⟩
        replace ga := ga.on hbw16; clear ga0 ga1 ga2; have kk_ := ga; obtain ⟨ga0, ga1, ga2⟩ := kk_
        have Bw16 := bel_trans Bw15 hbw16
        clear hbw16
        rw [E3.out]
        go_wp2_with fail
        refine (i_PadsOf P Q R s1 rep i _ gd.fP gd.fQ gd.fG fs fr di.fits).mono ?_; rintro e w17 ⟨rfl, hbw17⟩
        replace ga := ga.on hbw17; clear ga0 ga1 ga2; have kk_ := ga; obtain ⟨ga0, ga1, ga2⟩ := kk_
        have Bw17 := bel_trans Bw16 hbw17
        clear hbw17
        rw [E6.out]
        go_wp2
        go_ret
        exact ⟨by first | rfl | simp, Bw17⟩
end Go.Proofs.Ytklgneaamhjfpaa
