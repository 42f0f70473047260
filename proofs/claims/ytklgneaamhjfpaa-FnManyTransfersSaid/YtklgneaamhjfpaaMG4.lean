/-
  The walk of the law FnManyTransfers.
-/
import Derived.Test.YtklgneaamhjfpaaGd
import Derived.Test.YtklgneaamhjfpaaGe
namespace Go.Proofs.Ytklgneaamhjfpaa
open Go.RowKit
set_option linter.unusedVariables false
set_option linter.unusedSimpArgs false
set_option maxRecDepth 100000

theorem views_law (P Q G key : Int) (xs : List Int) : (transViews P Q G key xs).1.length = (transViews P Q G key xs).2.1.length ∧ (∀ k, k < (transViews P Q G key xs).1.length → hasB P Q (nth (transViews P Q G key xs).1 k) = true ∧ hasB P Q (nth (transViews P Q G key xs).2.1 k) = true ∧ nth (transViews P Q G key xs).1 k ≠ 1 ∧ grB P Q G = true) := by
  cases h : chsB P Q G key xs with
  | false =>
    have e : transViews P Q G key xs = ([], [], false) := by unfold transViews; rw [h]; rfl
    rw [e]
    exact ⟨rfl, fun k hk => by simp at hk⟩
  | true =>
    have e : transViews P Q G key xs = (fsN P Q G key xs.length, anN P Q G key xs xs.length, true) := by unfold transViews; rw [h]; rfl
    rw [e]
    refine ⟨by simp [fsN, anN], fun k hk => ?_⟩
    have hk' : k < xs.length := by simpa [fsN] using hk
    have h1 : nth (fsN P Q G key xs.length) k = fsAt P Q G key k := by simp [nth, fsN, hk']
    have h2 : nth (anN P Q G key xs xs.length) k = anAt P Q G key xs k := by simp [nth, anN, hk']
    have v := views_at (k := k) h
    dsimp only
    rw [h1, h2]
    exact ⟨v.1, v.2.1, v.2.2, (chsB_iff.1 h).1⟩
theorem all_law (P Q G key : Int) {ps : List (List Int)} {xs : List Int} {pn cn : Nat} (hp : ps.length = pn) (hc : xs.length = cn) : ∀ k, k < (transAll P Q G key ps xs).1.length → k < cn ∧ k < pn ∧ (rowN ps k).length = 2 ∧ (nth xs k = 0 ∨ nth xs k = 1) ∧ nth (transAll P Q G key ps xs).1 k = nth (rowN ps k) (nth xs k).toNat := by
  cases h : taB P Q G key ps xs with
  | false => rw [transAll_no h]; intro k hk; simp at hk
  | true =>
    rw [transAll_yes h]
    intro k hk
    have hk' : k < xs.length := by simpa [chN] using hk
    obtain ⟨h1, h2, h3⟩ := taB_iff.1 h
    obtain ⟨_, _, h4, _⟩ := chsB_iff.1 h1
    have hx := inB_iff.1 (allIn_iff.1 h4 k hk')
    have hr := List.all_eq_true.1 h3 (rowN ps k) (rowN_mem (by omega))
    unfold okP at hr
    rw [Bool.and_eq_true, decide_eq_true_iff] at hr
    refine ⟨by omega, by omega, hr.1, by omega, ?_⟩
    show nth (chN ps xs xs.length) k = _
    simp [nth, chN, hk', chAt]
set_option maxHeartbeats 8000000 in
theorem law_FnManyTransfers (a0 : Option Addr) (n0 c0 : Nat) (z0 : List Int) (a1 : Option Addr) (n1 c1 : Nat) (z1 : List Int) (w : World) (h0 : BytesIn w a0 n0 c0 z0) (h1 : BytesIn w a1 n1 c1 z1) :
    Calls Try.prog 6 #[.slice a0 n0 c0, .slice a1 n1 c1] w fun e w' => e = .returned (.bool true) ∧ Below w.heap.size w w' := by
  have hn0 := h0.small; have hn1 := h1.small
  have hB : Byts w a1 n1 c1 := h1
  have hA : Byts w a0 n0 c0 := h0
  clear h0 h1
  obtain ⟨G, hG⟩ : ∃ G, IntKind.i64.wrap ((n0 : Int) + (n1 : Int)) = G := ⟨_, rfl⟩
  by_cases hg : 1048576 < G
  · go_enter Try.func6, Try.ntmps6
    go_wp2
    go_ret
    exact ⟨rfl, Below.refl _ _⟩
  go_enter Try.func6, Try.ntmps6
  go_wp2_with fail
  refine (s_DrawTransferAll _ _ _ _ hA).mono ?_; rintro e w1 ⟨P, Q, R, key, pr, pn, pc, ps, cr, cn, cc, cx, rfl, gd, dk, HP, HC, hbw1⟩
  replace hB := hB.below hbw1
  replace hA := hA.below hbw1
  have Bw1 := bel_trans (Below.refl w.heap.size w) hbw1
  clear hbw1
  clear hA
  obtain ⟨w1b, hw1b⟩ : ∃ X, X = w1.alloc (.cells #[.int .i64 P, .int .i64 Q, .int .i64 R] 24) := ⟨_, rfl⟩
  have A_ : Below w1.heap.size w1 w1b := by rw [hw1b]; exact bel_alloc _ _
  have ga : Gx w1b w1.heap.size P Q R := by rw [hw1b]; exact Gx.new
  replace hw1b := hw1b.symm
  replace hB := hB.below A_
  replace HP := HP.below A_
  replace HC := HC.below A_
  have kk_ := ga; obtain ⟨ga0, ga1, ga2⟩ := kk_
  have Bw1b := bel_trans Bw1 A_; clear A_
  obtain ⟨X, hX⟩ : ∃ zz_, zz_ = transAll P Q R key ps cx := ⟨_, rfl⟩; have HX := Lib.hid hX; clear hX
  go_wp2_with fail
  refine (i_TransferAll _ _ _ _ _ _ _ _ _ _ _ _ _ gd.fP gd.fQ gd.fG dk.fits HP HC.ints).mono ?_; rintro e w2 ⟨r1, e1, rfl, X1, hbw2⟩
  replace hB := hB.below hbw2
  replace HP := HP.below hbw2
  replace HC := HC.below hbw2
  replace ga := ga.on hbw2; clear ga0 ga1 ga2; have kk_ := ga; obtain ⟨ga0, ga1, ga2⟩ := kk_
  have Bw2 := bel_trans Bw1b hbw2
  clear hbw2
  rw [← HX.out] at X1 ⊢
  go_wp2_with fail
  refine (s_TransferAll _ _ _ _ _ _ _ _ _ _ _ _ _ gd.fP gd.fQ gd.fG dk.fits HP HC.ints).mono ?_; rintro e w3 ⟨r2, e2, rfl, X2, hbw3⟩
  replace hB := hB.below hbw3
  replace HP := HP.below hbw3
  replace HC := HC.below hbw3
  replace X1 := X1.below hbw3
  replace ga := ga.on hbw3; clear ga0 ga1 ga2; have kk_ := ga; obtain ⟨ga0, ga1, ga2⟩ := kk_
  have Bw3 := bel_trans Bw2 hbw3
  clear hbw3
  rw [← HX.out] at X2 ⊢
  clear ga ga0 ga1 ga2
  go_wp2_with fail
  refine (s_DrawTransferViews _ _ _ _ hB).mono ?_; rintro e w4 ⟨P2, Q2, R2, k2, dr, dn, dc, dx, rfl, gd2, dk2, HD, hbw4⟩
  replace hB := hB.below hbw4
  replace HP := HP.below hbw4
  replace HC := HC.below hbw4
  replace X1 := X1.below hbw4
  replace X2 := X2.below hbw4
  have Bw4 := bel_trans Bw3 hbw4
  clear hbw4
  obtain ⟨w4b, hw4b⟩ : ∃ X, X = w4.alloc (.cells #[.int .i64 P2, .int .i64 Q2, .int .i64 R2] 24) := ⟨_, rfl⟩
  have A_ : Below w4.heap.size w4 w4b := by rw [hw4b]; exact bel_alloc _ _
  have gb : Gx w4b w4.heap.size P2 Q2 R2 := by rw [hw4b]; exact Gx.new
  replace hw4b := hw4b.symm
  replace hB := hB.below A_
  replace HP := HP.below A_
  replace HC := HC.below A_
  replace X1 := X1.below A_
  replace X2 := X2.below A_
  replace HD := HD.below A_
  have kk_ := gb; obtain ⟨gb0, gb1, gb2⟩ := kk_
  have Bw4b := bel_trans Bw4 A_; clear A_
  obtain ⟨Y, hY⟩ : ∃ zz_, zz_ = transViews P2 Q2 R2 k2 dx := ⟨_, rfl⟩; have HY := Lib.hid hY; clear hY
  go_wp2_with fail
  refine (i_TransferViews _ _ _ _ _ _ _ _ _ gd2.fP gd2.fQ gd2.fG dk2.fits HD.ints).mono ?_; rintro e w5 ⟨r3, e3, r4, e4, rfl, Y1, Y2, -, hbw5⟩
  replace hB := hB.below hbw5
  replace HP := HP.below hbw5
  replace HC := HC.below hbw5
  replace X1 := X1.below hbw5
  replace X2 := X2.below hbw5
  replace HD := HD.below hbw5
  replace gb := gb.on hbw5; clear gb0 gb1 gb2; have kk_ := gb; obtain ⟨gb0, gb1, gb2⟩ := kk_
  have Bw5 := bel_trans Bw4b hbw5
  clear hbw5
  rw [← HY.out] at Y1 Y2 ⊢
  go_wp2_with fail
  refine (s_TransferViews _ _ _ _ _ _ _ _ _ gd2.fP gd2.fQ gd2.fG dk2.fits HD.ints).mono ?_; rintro e w6 ⟨r5, e5, r6, e6, rfl, Y3, Y4, -, hbw6⟩
  replace hB := hB.below hbw6
  replace HP := HP.below hbw6
  replace HC := HC.below hbw6
  replace X1 := X1.below hbw6
  replace X2 := X2.below hbw6
  replace HD := HD.below hbw6
  replace Y1 := Y1.below hbw6
  replace Y2 := Y2.below hbw6
  replace gb := gb.on hbw6; clear gb0 gb1 gb2; have kk_ := gb; obtain ⟨gb0, gb1, gb2⟩ := kk_
  have Bw6 := bel_trans Bw5 hbw6
  clear hbw6
  rw [← HY.out] at Y3 Y4 ⊢
  clear HD
  go_wp2_with fail
  refine (s_DrawSealPair _ _ _ _ hB).mono ?_; rintro e w7 ⟨P3, Q3, R3, s3, an, i, m0, m1, rfl, gd3, ds, dan, di, dm0, dm1, hbw7⟩
  replace hB := hB.below hbw7
  replace HP := HP.below hbw7
  replace HC := HC.below hbw7
  replace X1 := X1.below hbw7
  replace X2 := X2.below hbw7
  replace Y1 := Y1.below hbw7
  replace Y2 := Y2.below hbw7
  replace Y3 := Y3.below hbw7
  replace Y4 := Y4.below hbw7
  replace gb := gb.on hbw7; clear gb0 gb1 gb2; have kk_ := gb; obtain ⟨gb0, gb1, gb2⟩ := kk_
  have Bw7 := bel_trans Bw6 hbw7
  clear hbw7
  obtain ⟨w7b, hw7b⟩ : ∃ X, X = w7.alloc (.cells #[.int .i64 P3, .int .i64 Q3, .int .i64 R3] 24) := ⟨_, rfl⟩
  have A_ : Below w7.heap.size w7 w7b := by rw [hw7b]; exact bel_alloc _ _
  have gc : Gx w7b w7.heap.size P3 Q3 R3 := by rw [hw7b]; exact Gx.new
  replace hw7b := hw7b.symm
  replace hB := hB.below A_
  replace HP := HP.below A_
  replace HC := HC.below A_
  replace X1 := X1.below A_
  replace X2 := X2.below A_
  replace Y1 := Y1.below A_
  replace Y2 := Y2.below A_
  replace Y3 := Y3.below A_
  replace Y4 := Y4.below A_
  replace gb := gb.on A_; clear gb0 gb1 gb2; have kk_ := gb; obtain ⟨gb0, gb1, gb2⟩ := kk_
  have kk_ := gc; obtain ⟨gc0, gc1, gc2⟩ := kk_
  have Bw7b := bel_trans Bw7 A_; clear A_
  obtain ⟨Z, hZ⟩ : ∃ zz_, zz_ = sealPair P3 Q3 R3 s3 an i m0 m1 := ⟨_, rfl⟩; have HZ := Lib.hid hZ; clear hZ
  go_wp2_with fail
  refine (i_SealPair _ _ _ _ _ _ _ _ _ gd3.fP gd3.fQ gd3.fG ds.fits dan.fits di.fits dm0.fits dm1.fits).mono ?_; rintro e w8 ⟨rfl, hbw8⟩
  replace hB := hB.below hbw8
  replace HP := HP.below hbw8
  replace HC := HC.below hbw8
  replace X1 := X1.below hbw8
  replace X2 := X2.below hbw8
  replace Y1 := Y1.below hbw8
  replace Y2 := Y2.below hbw8
  replace Y3 := Y3.below hbw8
  replace Y4 := Y4.below hbw8
  replace gb := gb.on hbw8; clear gb0 gb1 gb2; have kk_ := gb; obtain ⟨gb0, gb1, gb2⟩ := kk_
  replace gc := gc.on hbw8; clear gc0 gc1 gc2; have kk_ := gc; obtain ⟨gc0, gc1, gc2⟩ := kk_
  have Bw8 := bel_trans Bw7b hbw8
  clear hbw8
  rw [← HZ.out]
  go_wp2_with fail
  refine (s_SealPair _ _ _ _ _ _ _ _ _ gd3.fP gd3.fQ gd3.fG ds.fits dan.fits di.fits dm0.fits dm1.fits).mono ?_; rintro e w9 ⟨rfl, hbw9⟩
  replace hB := hB.below hbw9
  replace HP := HP.below hbw9
  replace HC := HC.below hbw9
  replace X1 := X1.below hbw9
  replace X2 := X2.below hbw9
  replace Y1 := Y1.below hbw9
  replace Y2 := Y2.below hbw9
  replace Y3 := Y3.below hbw9
  replace Y4 := Y4.below hbw9
  replace gb := gb.on hbw9; clear gb0 gb1 gb2; have kk_ := gb; obtain ⟨gb0, gb1, gb2⟩ := kk_
  replace gc := gc.on hbw9; clear gc0 gc1 gc2; have kk_ := gc; obtain ⟨gc0, gc1, gc2⟩ := kk_
  have Bw9 := bel_trans Bw8 hbw9
  clear hbw9
  rw [← HZ.out]
  clear gc gc0 gc1 gc2
  go_wp2_with fail
  refine (s_DrawChosenPad _ _ _ _ hB).mono ?_; rintro e w10 ⟨P4, Q4, R4, f4, b4, i4, rfl, gd4, df4, db4, di4, hbw10⟩
  replace hB := hB.below hbw10
  replace HP := HP.below hbw10
  replace HC := HC.below hbw10
  replace X1 := X1.below hbw10
  replace X2 := X2.below hbw10
  replace Y1 := Y1.below hbw10
  replace Y2 := Y2.below hbw10
  replace Y3 := Y3.below hbw10
  replace Y4 := Y4.below hbw10
  replace gb := gb.on hbw10; clear gb0 gb1 gb2; have kk_ := gb; obtain ⟨gb0, gb1, gb2⟩ := kk_
  have Bw10 := bel_trans Bw9 hbw10
  clear hbw10
  clear hB
  obtain ⟨w10b, hw10b⟩ : ∃ X, X = w10.alloc (.cells #[.int .i64 P4, .int .i64 Q4, .int .i64 R4] 24) := ⟨_, rfl⟩
  have A_ : Below w10.heap.size w10 w10b := by rw [hw10b]; exact bel_alloc _ _
  have ge : Gx w10b w10.heap.size P4 Q4 R4 := by rw [hw10b]; exact Gx.new
  replace hw10b := hw10b.symm
  replace HP := HP.below A_
  replace HC := HC.below A_
  replace X1 := X1.below A_
  replace X2 := X2.below A_
  replace Y1 := Y1.below A_
  replace Y2 := Y2.below A_
  replace Y3 := Y3.below A_
  replace Y4 := Y4.below A_
  replace gb := gb.on A_; clear gb0 gb1 gb2; have kk_ := gb; obtain ⟨gb0, gb1, gb2⟩ := kk_
  have kk_ := ge; obtain ⟨ge0, ge1, ge2⟩ := kk_
  have Bw10b := bel_trans Bw10 A_; clear A_
  obtain ⟨V, hV⟩ : ∃ zz_, zz_ = chosenPad P4 Q4 R4 f4 b4 i4 := ⟨_, rfl⟩; have HV := Lib.hid hV; clear hV
  go_wp2_with fail
  refine (i_ChosenPad _ _ _ _ _ _ _ gd4.fP gd4.fQ gd4.fG df4.fits db4.fits di4.fits).mono ?_; rintro e w11 ⟨rfl, hbw11⟩
  replace HP := HP.below hbw11
  replace HC := HC.below hbw11
  replace X1 := X1.below hbw11
  replace X2 := X2.below hbw11
  replace Y1 := Y1.below hbw11
  replace Y2 := Y2.below hbw11
  replace Y3 := Y3.below hbw11
  replace Y4 := Y4.below hbw11
  replace gb := gb.on hbw11; clear gb0 gb1 gb2; have kk_ := gb; obtain ⟨gb0, gb1, gb2⟩ := kk_
  replace ge := ge.on hbw11; clear ge0 ge1 ge2; have kk_ := ge; obtain ⟨ge0, ge1, ge2⟩ := kk_
  have Bw11 := bel_trans Bw10b hbw11
  clear hbw11
  rw [← HV.out]
  go_wp2_with fail
  refine (s_ChosenPad _ _ _ _ _ _ _ gd4.fP gd4.fQ gd4.fG df4.fits db4.fits di4.fits).mono ?_; rintro e w12 ⟨rfl, hbw12⟩
  replace HP := HP.below hbw12
  replace HC := HC.below hbw12
  replace X1 := X1.below hbw12
  replace X2 := X2.below hbw12
  replace Y1 := Y1.below hbw12
  replace Y2 := Y2.below hbw12
  replace Y3 := Y3.below hbw12
  replace Y4 := Y4.below hbw12
  replace gb := gb.on hbw12; clear gb0 gb1 gb2; have kk_ := gb; obtain ⟨gb0, gb1, gb2⟩ := kk_
  replace ge := ge.on hbw12; clear ge0 ge1 ge2; have kk_ := ge; obtain ⟨ge0, ge1, ge2⟩ := kk_
  have Bw12 := bel_trans Bw11 hbw12
  clear hbw12
  rw [← HV.out]
  clear ge ge0 ge1 ge2
  go_wp2_with fail
  refine (l_qIntsG _ _ _ _ _ _ _ X1.ints X2.ints).mono ?_; rintro e w13 ⟨rfl, hbw13⟩
  replace HP := HP.below hbw13
  replace HC := HC.below hbw13
  replace X1 := X1.below hbw13
  replace X2 := X2.below hbw13
  replace Y1 := Y1.below hbw13
  replace Y2 := Y2.below hbw13
  replace Y3 := Y3.below hbw13
  replace Y4 := Y4.below hbw13
  replace gb := gb.on hbw13; clear gb0 gb1 gb2; have kk_ := gb; obtain ⟨gb0, gb1, gb2⟩ := kk_
  have Bw13 := bel_trans Bw12 hbw13
  clear hbw13
  go_wp2_with fail
  refine (l_qIntsG _ _ _ _ _ _ _ Y1.ints Y3.ints).mono ?_; rintro e w14 ⟨rfl, hbw14⟩
  replace HP := HP.below hbw14
  replace HC := HC.below hbw14
  replace X1 := X1.below hbw14
  replace X2 := X2.below hbw14
  replace Y1 := Y1.below hbw14
  replace Y2 := Y2.below hbw14
  replace Y3 := Y3.below hbw14
  replace Y4 := Y4.below hbw14
  replace gb := gb.on hbw14; clear gb0 gb1 gb2; have kk_ := gb; obtain ⟨gb0, gb1, gb2⟩ := kk_
  have Bw14 := bel_trans Bw13 hbw14
  clear hbw14
  go_wp2_with fail
  refine (l_qIntsG _ _ _ _ _ _ _ Y2.ints Y4.ints).mono ?_; rintro e w15 ⟨rfl, hbw15⟩
  replace HP := HP.below hbw15
  replace HC := HC.below hbw15
  replace X1 := X1.below hbw15
  replace X2 := X2.below hbw15
  replace Y1 := Y1.below hbw15
  replace Y2 := Y2.below hbw15
  replace Y3 := Y3.below hbw15
  replace Y4 := Y4.below hbw15
  replace gb := gb.on hbw15; clear gb0 gb1 gb2; have kk_ := gb; obtain ⟨gb0, gb1, gb2⟩ := kk_
  have Bw15 := bel_trans Bw14 hbw15
  clear hbw15
  clear X1 Y1 Y2
  have hlen : Y.1.length = Y.2.1.length ∧ (∀ k, k < Y.1.length → hasB P2 Q2 (nth Y.1 k) = true ∧ hasB P2 Q2 (nth Y.2.1 k) = true ∧ nth Y.1 k ≠ 1 ∧ grB P2 Q2 R2 = true) := by
    rw [HY.out]; exact views_law _ _ _ _ _
  obtain ⟨hl1, hl2⟩ := hlen
  have HV1 := Lib.hid hl2; have HL1 := Lib.hid hl1; clear hl2 hl1
  have ys1 := Y3.ints.small; have ys2 := Y4.ints.small; have xs1 := X2.ints.small
  have hx : ∀ k, k < X.1.length → k < cn ∧ k < pn ∧ (rowN ps k).length = 2 ∧ (nth cx k = 0 ∨ nth cx k = 1) ∧ nth X.1 k = nth (rowN ps k) (nth cx k).toNat := by
    rw [HX.out]; exact all_law _ _ _ _ HP.len.out HC.ints.len.out
  have HX1 := Lib.hid hx; clear hx
  go_wp2_with fail
  go_loopw [207] (fun i W => ∃ k : Nat, k ≤ Y.1.length ∧ i = .int .i64 k ∧ Hid (Below w15.heap.size w15 W)) (fun i _ => Y.1.length - (intOf i).toNat)
  case atStart => exact ⟨0, by omega, rfl, Below.refl _ _⟩
  case round =>
    obtain ⟨k, hk, rfl, HB⟩ := hrel
    by_cases hlt : k < Y.1.length
    · obtain ⟨hv1, hv2, hv3, hv4⟩ := HV1.out k hlt
      obtain ⟨b1, o1, rfl, hbl1, hc1⟩ := (Y3.ints.below HB.out).at hlt
      obtain ⟨b2, o2, rfl, hbl2, hc2⟩ := (Y4.ints.below HB.out).at (i := k) (by have := HL1.out; omega)
      have kk1 := gb.on HB.out; obtain ⟨q0, q1, q2⟩ := kk1
      have hlti : (k : Int) < (Y.1.length : Int) := by omega
      have hlti2 : (k : Int) < (Y.2.1.length : Int) := by have := HL1.out; omega
      obtain ⟨u1, hu1⟩ : ∃ t, t = nth Y.1 k := ⟨_, rfl⟩; obtain ⟨u2, hu2⟩ : ∃ t, t = nth Y.2.1 k := ⟨_, rfl⟩
      rw [← hu1] at hc1 hv1 hv3; rw [← hu2] at hc2 hv2; clear hu1 hu2
      have hne : (u1 == 1) = false := by simpa using hv3
      obtain ⟨wo, rfl⟩ : ∃ wo : World, wo = wr := ⟨_, rfl⟩
      go_wp2
      go_region_held3 (fun W => W.cell? ⟨w4.heap.size, 0, none⟩ = some (.int .i64 P2) ∧ W.cell? ⟨w4.heap.size, 1, none⟩ = some (.int .i64 Q2) ∧ W.cell? ⟨w4.heap.size, 2, none⟩ = some (.int .i64 R2) ∧ W.cell? ⟨b1, o1 + k, none⟩ = some (.int .i64 u1)) (exact ⟨q0, q1, q2, hc1⟩) (first | (go_at_call 11; refine (i_IsElement P2 Q2 R2 u1 _).mono ?_; rintro e w7_ ⟨rfl, hb7⟩; rw [hv1, hv4]; have hb8 := bel_trans (bel_drew _) hb7; have q0 := cell_on q0 hb8; have q1 := cell_on q1 hb8; have q2 := cell_on q2 hb8; have hc1 := cell_on hc1 hb8; have hc2 := cell_on hc2 hb8))
      have HB2 := Lib.hid (bel_trans HB.out hb8); clear hb7 hb8
      go_wp2
      go_region_held3 (fun W => W.cell? ⟨w4.heap.size, 0, none⟩ = some (.int .i64 P2) ∧ W.cell? ⟨w4.heap.size, 1, none⟩ = some (.int .i64 Q2) ∧ W.cell? ⟨w4.heap.size, 2, none⟩ = some (.int .i64 R2) ∧ W.cell? ⟨b2, o2 + k, none⟩ = some (.int .i64 u2)) (exact ⟨q0, q1, q2, hc2⟩) (first | (go_at_call 11; refine (i_IsElement P2 Q2 R2 u2 _).mono ?_; rintro e w7_ ⟨rfl, hb7⟩; rw [hv2, hv4]; have hb8 := bel_trans (bel_drew _) hb7; have q0 := cell_on q0 hb8; have q1 := cell_on q1 hb8; have q2 := cell_on q2 hb8; have hc1 := cell_on hc1 hb8; have hc2 := cell_on hc2 hb8))
      have HB3 := Lib.hid (bel_trans HB2.out hb8); clear hb7 hb8
      go_wp2
      go_roundw
      case rel => exact ⟨k + 1, by omega, by go_num, HB3⟩
      case measure => simp [intOf]; omega
    · obtain rfl : k = Y.1.length := by omega
      have hlti : ¬ (Y.1.length : Int) < (Y.1.length : Int) := by omega
      go_wp2
      go_loopw [252] (fun i W => ∃ k : Nat, k ≤ X.1.length ∧ i = .int .i64 k ∧ Hid (Below w15.heap.size w15 W)) (fun i _ => X.1.length - (intOf i).toNat)
      case atStart => exact ⟨0, by omega, rfl, HB⟩
      case round =>
        clear hlti HB
        obtain ⟨k, hk2, rfl, HB⟩ := hrel
        by_cases hlt : k < X.1.length
        · obtain ⟨x1, x2, x3, x4, x5⟩ := HX1.out k hlt
          obtain ⟨b1, o1, rfl, hbl1, hc1⟩ := (X2.ints.below HB.out).at hlt
          obtain ⟨b2, o2, rfl, hbl2, hc2⟩ := (HC.ints.below HB.out).at x1
          obtain ⟨b3, o3, r3_, m3_, c3_, rfl, hbl3, hc3, hi3⟩ := (HP.below HB.out).at x2
          have hm2 : m3_ = 2 := by rw [← hi3.len.out]; exact x3
          subst hm2
          have hlti : (k : Int) < (X.1.length : Int) := by omega
          have l1 : (k : Int) < (cn : Int) := by omega
          have l2 : (k : Int) < (pn : Int) := by omega
          rw [x5] at hc1
          have HX5 := Lib.hid x5; clear x5
          rcases x4 with x4 | x4
          · rw [x4] at hc1 hc2
            simp only [show ((0 : Int)).toNat = 0 from rfl] at hc1
            obtain ⟨b4, o4, rfl, hbl4, hc4⟩ := hi3.at (i := 0) (by omega)
            clear hi3 x4
            rw [Nat.add_zero] at hc4
            go_wp2
            go_quiet (fail)
            go_wp2
            go_roundw
            case rel => exact ⟨k + 1, by omega, by go_num, (show Hid _ from below_drewN HB.out _)⟩
            case measure => simp [intOf]; omega
          · rw [x4] at hc1 hc2
            simp only [show ((1 : Int)).toNat = 1 from rfl] at hc1
            obtain ⟨b4, o4, rfl, hbl4, hc4⟩ := hi3.at (i := 1) (by omega)
            clear hi3 x4
            go_wp2
            go_quiet (fail)
            go_wp2
            go_roundw
            case rel => exact ⟨k + 1, by omega, by go_num, (show Hid _ from below_drewN HB.out _)⟩
            case measure => simp [intOf]; omega
        · obtain rfl : k = X.1.length := by omega
          have hlti : ¬ (X.1.length : Int) < (X.1.length : Int) := by omega
          go_wp2
          go_ret
          exact ⟨by first | rfl | simp, bel_trans Bw15 HB.out⟩
end Go.Proofs.Ytklgneaamhjfpaa
