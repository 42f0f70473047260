/-
  The walk of the law FnGarbledValue.
-/
import Derived.Test.YtfejpmfcognikaaV3
namespace Go.Proofs.Ytfejpmfcognikaa
open Go.RowKit
set_option linter.unusedVariables false
set_option linter.unusedSimpArgs false
set_option maxRecDepth 100000

theorem ints_cell {w : World} {a : Option Addr} {n cap N b o : Nat} {xs : List Int} (h : Ints w a n cap xs) (hN : N < n) (e : a = some ⟨b, o, none⟩) : w.cell? ⟨b, o + N, none⟩ = some (.int .i64 (nth xs N)) := by
  obtain ⟨b', o', e', _, hc⟩ := h.at hN
  rw [e] at e'
  simp only [Option.some.injEq, Addr.mk.injEq, and_true] at e'
  obtain ⟨rfl, rfl⟩ := e'
  exact hc
set_option maxHeartbeats 16000000 in
theorem law_FnGarbledValue (i0 i1 : Int) (ga : Option Addr) (gn gc : Nat) (gs : List Int) (oa : Option Addr) (on oc : Nat) (os : List Int) (key : Int) (aa : Option Addr) (an ac : Nat) (us : List Int) (ba : Option Addr) (bn bc : Nat) (vs : List Int) (w : World) (hi0 : Fits i0) (hi1 : Fits i1) (hCI : CircIn w ga gn gc gs oa on oc os) (hkey : Fits key) (ha : IntsIn w aa an ac us) (hb : IntsIn w ba bn bc vs) :
    Calls Try.prog 3 #[.agg #[.int .i64 i0, .int .i64 i1, .slice ga gn gc, .slice oa on oc], .int .i64 key, .slice aa an ac, .slice ba bn bc] w fun e w' => e = .returned (.bool true) ∧ Below w.heap.size w w' := by
  have A0 := bel_alloc w (.cells #[.int .i64 i0, .int .i64 i1, .slice ga gn gc, .slice oa on oc] 25)
  have g0 := B4.new (w := w) (x0 := .int .i64 i0) (x1 := .int .i64 i1) (x2 := .slice ga gn gc) (x3 := .slice oa on oc) (t := 25)
  obtain ⟨c0, c1, c2, c3⟩ := g0
  obtain ⟨⟨hg1, hg2⟩, ⟨ho1, ho2⟩⟩ := hCI
  obtain ⟨ha1, ha2⟩ := ha
  obtain ⟨hb1, hb2⟩ := hb
  by_cases qg : gn ≤ 65536
  rotate_left
  · have qg' : (65536 : Int) < (gn : Int) := by omega
    go_enter Try.func3, Try.ntmps3
    go_wp2
    go_ret
    exact ⟨rfl, A0⟩
  by_cases qa : an ≤ 65536
  rotate_left
  · have qg' : ¬ (65536 : Int) < (gn : Int) := by omega
    have qa' : (65536 : Int) < (an : Int) := by omega
    go_enter Try.func3, Try.ntmps3
    go_wp2
    go_ret
    exact ⟨rfl, A0⟩
  by_cases qb : bn ≤ 65536
  rotate_left
  · have qg' : ¬ (65536 : Int) < (gn : Int) := by omega
    have qa' : ¬ (65536 : Int) < (an : Int) := by omega
    have qb' : (65536 : Int) < (bn : Int) := by omega
    go_enter Try.func3, Try.ntmps3
    go_wp2
    go_ret
    exact ⟨rfl, A0⟩
  have qg' : ¬ (65536 : Int) < (gn : Int) := by omega
  have qa' : ¬ (65536 : Int) < (an : Int) := by omega
  have qb' : ¬ (65536 : Int) < (bn : Int) := by omega
  have HG := Lib.hid (hg2 (by omega)); have HA := Lib.hid (ha2 (by omega)); have HBB := Lib.hid (hb2 (by omega))
  have HOU := Lib.hid ho2
  have hgn : gn ≤ 1048576 := by omega
  clear hg1 hg2 ha1 ha2 hb1 hb2 qg qa qb hi0 hi1 ho2
  have HB0 := Lib.hid A0
  by_cases qo : on ≤ 1048576
  rotate_left
  · have hon : 40 < on := by omega
    by_cases k0 : 0 ≤ key
    · by_cases k1 : key ≤ 1000000000
      · have hk : keyE key = true := inB_iff.2 ⟨k0, k1⟩
        go_enter Try.func3, Try.ntmps3
        go_wp2_with fail
        refine (i_RunGarbledBig i0 i1 ga gn gc oa on oc key aa an ac ba bn bc _ hgn hon ho1).mono ?_; rintro e w1 ⟨rfl, hb1⟩
        replace c0 := cell_on c0 hb1; replace c1 := cell_on c1 hb1; replace c2 := cell_on c2 hb1; replace c3 := cell_on c3 hb1
        go_wp2_with fail
        refine (s_EvalCircuitBig i0 i1 ga gn gc oa on oc aa an ac ba bn bc _ hgn hon ho1).mono ?_; rintro e w2 ⟨rfl, hb2⟩
        go_wp2
        go_ret
        exact ⟨rfl, bel_trans (bel_trans HB0.out hb1) hb2⟩
      · have hk : keyE key = false := inB_no.2 (by omega)
        go_enter Try.func3, Try.ntmps3
        go_wp2_with fail
        refine (i_RunGarbledBig i0 i1 ga gn gc oa on oc key aa an ac ba bn bc _ hgn hon ho1).mono ?_; rintro e w1 ⟨rfl, hb1⟩
        replace c0 := cell_on c0 hb1; replace c1 := cell_on c1 hb1; replace c2 := cell_on c2 hb1; replace c3 := cell_on c3 hb1
        go_wp2_with fail
        refine (s_EvalCircuitBig i0 i1 ga gn gc oa on oc aa an ac ba bn bc _ hgn hon ho1).mono ?_; rintro e w2 ⟨rfl, hb2⟩
        go_wp2
        go_ret
        exact ⟨rfl, bel_trans (bel_trans HB0.out hb1) hb2⟩
    · have hk : keyE key = false := inB_no.2 (by omega)
      go_enter Try.func3, Try.ntmps3
      go_wp2_with fail
      refine (i_RunGarbledBig i0 i1 ga gn gc oa on oc key aa an ac ba bn bc _ hgn hon ho1).mono ?_; rintro e w1 ⟨rfl, hb1⟩
      replace c0 := cell_on c0 hb1; replace c1 := cell_on c1 hb1; replace c2 := cell_on c2 hb1; replace c3 := cell_on c3 hb1
      go_wp2_with fail
      refine (s_EvalCircuitBig i0 i1 ga gn gc oa on oc aa an ac ba bn bc _ hgn hon ho1).mono ?_; rintro e w2 ⟨rfl, hb2⟩
      go_wp2
      go_ret
      exact ⟨rfl, bel_trans (bel_trans HB0.out hb1) hb2⟩
  have HO := Lib.hid (HOU.out qo)
  have HC := Lib.hid (show Circ w ga gn gc gs oa on oc os from ⟨HG.out, HO.out⟩)
  clear HOU HG HO ho1 A0 qo
  by_cases k0 : 0 ≤ key
  · by_cases k1 : key ≤ 1000000000
    · have hk : keyE key = true := inB_iff.2 ⟨k0, k1⟩
      cases hA : askB i0 i1 gs gn os us vs with
      | false =>
        have HR : Hid (rgAll i0 i1 gs gn os key us vs = ([], false)) := by show _ = _; unfold rgAll; rw [hA]; rfl
        have HE : Hid (evAll i0 i1 gs gn os us vs = ([], false)) := by show _ = _; unfold evAll; rw [hA]; rfl
        go_enter Try.func3, Try.ntmps3
        go_wp2_with fail
        refine (i_RunGarbled i0 i1 ga gn gc gs oa on oc os key aa an ac us ba bn bc vs _ (HC.out.below HB0.out) (HA.out.below HB0.out) (HBB.out.below HB0.out)).mono ?_; rintro e w1 ⟨r1, z1, rfl, m1, hb1⟩; rw [HR.out]
        replace c0 := cell_on c0 hb1; replace c1 := cell_on c1 hb1; replace c2 := cell_on c2 hb1; replace c3 := cell_on c3 hb1
        have HB1 := Lib.hid (bel_trans HB0.out hb1)
        clear hb1
        go_wp2_with fail
        refine (s_EvalCircuit i0 i1 ga gn gc gs oa on oc os aa an ac us ba bn bc vs _ (HC.out.below HB1.out) (HA.out.below HB1.out) (HBB.out.below HB1.out)).mono ?_; rintro e w2 ⟨r2, z2, rfl, m2, hb2⟩; rw [HE.out]
        replace c0 := cell_on c0 hb2; replace c1 := cell_on c1 hb2; replace c2 := cell_on c2 hb2; replace c3 := cell_on c3 hb2
        have HB2 := Lib.hid (bel_trans HB1.out hb2)
        go_wp2
        go_ret
        exact ⟨rfl, HB2.out⟩
      | true =>
        have hla := HA.out.len.out; have hlb := HBB.out.len.out; have hlo := HC.out.o.len.out
        obtain ⟨hcc, hub, hvb, e0, e1⟩ := askB_iff.1 hA
        obtain rfl : i0 = (an : Int) := by omega
        obtain rfl : i1 = (bn : Int) := by omega
        have hal := askB_len hA
        have hin := circB_in hcc
        obtain ⟨off, hoff⟩ : ∃ off, off = ofs key := ⟨_, rfl⟩
        obtain ⟨Z, hZ⟩ : ∃ Z, Z = zerS key off gs (an + bn) gn := ⟨_, rfl⟩
        obtain ⟨hodd, hZl, hZn, hsc, q, t, hd, taken, hsr, hrr, hhm, htm, htl, hinp⟩ := gv_law hla hlb hA hk hoff hZ
        have hG : gatesB (((an + bn : Nat)) : Int) gs gn = true := by have := (circB_iff.1 hcc).2.1; rw [show (((an + bn : Nat)) : Int) = (an : Int) + (bn : Int) by omega]; exact this
        have hxx := (outs_in hcc (n := an + bn + gn) (by omega)).out
        rw [hlo] at hxx
        have hbv : bit1 (us ++ vs) := fun x hx => (List.mem_append.1 hx).elim (bit1.of hub x) (bit1.of hvb x)
        obtain ⟨tr, to_, -, -, hlab⟩ := eval_law (key := key) (m := an + bn) hodd hbv (by rw [List.length_append]; omega) hG gn (Nat.le_refl _)
        have hdec := dec_law (off := off) (Z := zerS key off gs (an + bn) gn) (V := valS gs (us ++ vs) gn) (os := os) (n := an + bn + gn) (on := on) hodd (zerS_lab gs (an + bn) hodd gn) (valS_bit hbv gn) hxx
        have hll : labs (actL off (inpZ key (an + bn)) (us ++ vs) (an + bn)) := actL_lab _ hodd (inpZ_lab _ _) hbv
        have hlk : labs (actL off (zerS key off gs (an + bn) gn) (valS gs (us ++ vs) gn) (an + bn + gn)) := actL_lab _ hodd (zerS_lab gs _ hodd gn) (valS_bit hbv gn)
        have HL := Lib.hid (And.intro hlab (And.intro hdec (And.intro hll hlk)))
        have HE := Lib.hid (And.intro hsc (And.intro hsr (And.intro hrr (And.intro hhm (And.intro htm (And.intro htl hinp))))))
        have HZ := Lib.hid (And.intro hZl (And.intro hZn (And.intro hodd hZ)))
        have HCC := Lib.hid (And.intro hcc (And.intro hG (And.intro hk hoff)))
        have HUV := Lib.hid (And.intro (bit1.of hub) (bit1.of hvb))
        have han : an ≤ 20 := by omega
        have hbn : bn ≤ 20 := by omega
        have hgn3 : gn ≤ 300 := by omega
        have hon4 : on ≤ 40 := by omega
        have HR : Hid (rgAll an bn gs gn os key us vs = (pkL (valS gs (us ++ vs) gn) os on, true)) := by show _ = _; unfold rgAll; rw [hA, hk, Bool.true_and, if_pos rfl, hlo]
        have HEV : Hid (evAll an bn gs gn os us vs = (pkL (valS gs (us ++ vs) gn) os on, true)) := by show _ = _; unfold evAll; rw [hA, if_pos rfl, hlo]
        clear hla hlb hlo hcc hub hvb e0 e1 hal hin hoff hZ hodd hZl hZn hsc hsr hrr hhm htm htl hinp hG hxx hbv hlab hdec hll hlk hA
        have hk0 : key ≤ 1000000000 := k1
        have HR3 := Lib.hid (show (rgAll an bn gs gn os key us vs).1.length = on ∧ (rgAll an bn gs gn os key us vs).1 = pkL (valS gs (us ++ vs) gn) os on ∧ (rgAll an bn gs gn os key us vs).2 = true by rw [HR.out]; exact ⟨pkL_len _ _ _, rfl, rfl⟩)
        have HE3 := Lib.hid (show (evAll an bn gs gn os us vs).1.length = on ∧ (evAll an bn gs gn os us vs).1 = pkL (valS gs (us ++ vs) gn) os on ∧ (evAll an bn gs gn os us vs).2 = true by rw [HEV.out]; exact ⟨pkL_len _ _ _, rfl, rfl⟩)
        clear HR HEV
        go_enter Try.func3, Try.ntmps3
        go_wp2_with fail
        refine (i_RunGarbled an bn ga gn gc gs oa on oc os key aa an ac us ba bn bc vs _ (HC.out.below HB0.out) (HA.out.below HB0.out) (HBB.out.below HB0.out)).mono ?_; rintro e w1 ⟨r1, z1, rfl, m1, hb1⟩; rw [HR3.out.1] at m1 ⊢; rw [HR3.out.2.1] at m1; rw [HR3.out.2.2]
        replace c0 := cell_on c0 hb1; replace c1 := cell_on c1 hb1; replace c2 := cell_on c2 hb1; replace c3 := cell_on c3 hb1
        have HB1 := Lib.hid (bel_trans HB0.out hb1)
        clear hb1
        go_wp2_with fail
        refine (s_EvalCircuit an bn ga gn gc gs oa on oc os aa an ac us ba bn bc vs _ (HC.out.below HB1.out) (HA.out.below HB1.out) (HBB.out.below HB1.out)).mono ?_; rintro e w2 ⟨r2, z2, rfl, m2, hb2⟩; rw [HE3.out.1] at m2 ⊢; rw [HE3.out.2.1] at m2; rw [HE3.out.2.2]
        replace c0 := cell_on c0 hb2; replace c1 := cell_on c1 hb2; replace c2 := cell_on c2 hb2; replace c3 := cell_on c3 hb2
        have HB2 := Lib.hid (bel_trans HB1.out hb2)
        have I1 := m1.ints.below hb2; have I2 := m2.ints; clear m1 m2 hb2
        go_wp2_with fail
        refine (l_sameInts r1 r2 on z1 z2 (pkL (valS gs (us ++ vs) gn) os on) _ I1 I2).mono ?_; rintro e w3 ⟨rfl, hb3⟩
        replace c0 := cell_on c0 hb3; replace c1 := cell_on c1 hb3; replace c2 := cell_on c2 hb3; replace c3 := cell_on c3 hb3
        have HW := Lib.hid (I2.below hb3); have HB3 := Lib.hid (bel_trans HB2.out hb3); clear I1 I2 hb3 HB1 HB2
        go_wp2_with fail
        refine (i_OffsetFrom key _).mono ?_; rintro e w4 ⟨he, hb4⟩; rw [HCC.out.2.2.1, if_pos rfl, ← HCC.out.2.2.2] at he; subst he
        replace c0 := cell_on c0 hb4; replace c1 := cell_on c1 hb4; replace c2 := cell_on c2 hb4; replace c3 := cell_on c3 hb4
        have HW4 := Lib.hid (HW.out.below hb4); have HB4 := Lib.hid (bel_trans HB3.out hb4); clear hb4 HW HB3
        go_wp2_with fail
        refine (i_GarbleCircuitY an bn ga gn gc gs oa on oc os key off _ (HC.out.below HB4.out) HCC.out.1 HCC.out.2.2.1 HZ.out.2.2.1).mono ?_; rintro e w5 ⟨ra, rc, na, nc, ca, cc, rfl, hM, hb5⟩
        replace c0 := cell_on c0 hb5; replace c1 := cell_on c1 hb5; replace c2 := cell_on c2 hb5; replace c3 := cell_on c3 hb5
        have hMok := hM.ok HZ.out.2.2.1 HCC.out.2.1 hgn3
        generalize (rowS key off gs (an + bn) gn).length = rn at hMok ⊢; generalize (oneS off gs (an + bn) (zerS key off gs (an + bn) gn) gn).length = nn at hMok ⊢
        have A6 := bel_alloc w5 (.cells #[.slice ra rn rc, .slice na nn nc, .slice ca on cc] 34)
        obtain ⟨y0, y1, y2⟩ := B3.new (w := w5) (x0 := .slice ra rn rc) (x1 := .slice na nn nc) (x2 := .slice ca on cc) (t := 34)
        replace c0 := cell_on c0 A6; replace c1 := cell_on c1 A6; replace c2 := cell_on c2 A6; replace c3 := cell_on c3 A6
        have HOK := Lib.hid (hMok.below A6); have HW6 := Lib.hid ((HW4.out.below hb5).below A6); have HB6 := Lib.hid (bel_trans (bel_trans HB4.out hb5) A6); clear hM hMok hb5 A6 HW4 HB4
        go_wp2_with fail
        refine (i_ZeroLabelsY an bn ga gn gc gs oa on oc os key off _ (HC.out.below HB6.out) HCC.out.1 HCC.out.2.2.1 HZ.out.2.2.1).mono ?_; rintro e w7 ⟨zr, zc, rfl, mz, hb7⟩; rw [← HZ.out.2.2.2] at mz
        replace c0 := cell_on c0 hb7; replace c1 := cell_on c1 hb7; replace c2 := cell_on c2 hb7; replace c3 := cell_on c3 hb7
        replace y0 := cell_on y0 hb7; replace y1 := cell_on y1 hb7; replace y2 := cell_on y2 hb7
        have HOK7 := Lib.hid (HOK.out.below hb7); have HW7 := Lib.hid (HW6.out.below hb7); have HB7 := Lib.hid (bel_trans HB6.out hb7); have HZ7 := Lib.hid mz.ints; clear mz hb7 HOK HW6 HB6
        go_wp2_with fail
        refine (i_SentColumns key 4 ba bn bc vs _ hkey (by unfold Fits; omega) (HBB.out.below HB7.out)).mono ?_; rintro e w8 ⟨sr, sc, rfl, msn, hb8⟩; rw [HE.out.1] at msn ⊢; skip
        replace c0 := cell_on c0 hb8; replace c1 := cell_on c1 hb8; replace c2 := cell_on c2 hb8; replace c3 := cell_on c3 hb8
        replace y0 := cell_on y0 hb8; replace y1 := cell_on y1 hb8; replace y2 := cell_on y2 hb8
        have HOK8 := Lib.hid (HOK7.out.below hb8); have HW8 := Lib.hid (HW7.out.below hb8); have HZ8 := Lib.hid (HZ7.out.below hb8); have HB8 := Lib.hid (bel_trans HB7.out hb8)
        have HS8 := Lib.hid msn.rows; clear msn
        clear hb8 HOK7 HW7 HZ7 HB7
        have A9 := bel_alloc w8 (.cells #[.int .i64 key, .int .i64 77] 3)
        have L9 := Ints.lit2 (w := w8) (t := 3) rfl hkey (show Fits 77 by unfold Fits; omega)
        replace c0 := cell_on c0 A9; replace c1 := cell_on c1 A9; replace c2 := cell_on c2 A9; replace c3 := cell_on c3 A9
        replace y0 := cell_on y0 A9; replace y1 := cell_on y1 A9; replace y2 := cell_on y2 A9
        have HOK9 := Lib.hid (HOK8.out.below A9); have HW9 := Lib.hid (HW8.out.below A9); have HZ9 := Lib.hid (HZ8.out.below A9); have HS9 := Lib.hid (HS8.out.below A9); have HB9 := Lib.hid (bel_trans HB8.out A9)
        clear A9 HOK8 HW8 HZ8 HS8 HB8
        go_wp2_with fail
        refine (i_BitsFrom _ 2 _ [key, 77] 4 _ L9 (by omega) (by intro x hx; simp at hx; omega) (by omega)).mono ?_; rintro e w10 ⟨br, bc_, rfl, mb, hb10⟩; skip
        replace c0 := cell_on c0 hb10; replace c1 := cell_on c1 hb10; replace c2 := cell_on c2 hb10; replace c3 := cell_on c3 hb10
        replace y0 := cell_on y0 hb10; replace y1 := cell_on y1 hb10; replace y2 := cell_on y2 hb10
        have HOK10 := Lib.hid (HOK9.out.below hb10); have HW10 := Lib.hid (HW9.out.below hb10); have HZ10 := Lib.hid (HZ9.out.below hb10); have HS10 := Lib.hid (HS9.out.below hb10); have HB10 := Lib.hid (bel_trans HB9.out hb10)
        have HK10 := Lib.hid mb.ints; clear mb L9
        clear hb10 HOK9 HW9 HZ9 HS9 HB9
        go_wp2_with fail
        refine (i_SenderRows key br 4 bc_ (bitsL [key, 77] 4) sr _ sc (sentCs key vs bn 4) _ hkey HK10.out HS10.out).mono ?_; rintro e w11 ⟨qr, qc, rfl, mq, hb11⟩; rw [HE.out.2.1] at mq ⊢; skip
        replace c0 := cell_on c0 hb11; replace c1 := cell_on c1 hb11; replace c2 := cell_on c2 hb11; replace c3 := cell_on c3 hb11
        replace y0 := cell_on y0 hb11; replace y1 := cell_on y1 hb11; replace y2 := cell_on y2 hb11
        have HOK11 := Lib.hid (HOK10.out.below hb11); have HW11 := Lib.hid (HW10.out.below hb11); have HZ11 := Lib.hid (HZ10.out.below hb11); have HK11 := Lib.hid (HK10.out.below hb11); have HB11 := Lib.hid (bel_trans HB10.out hb11)
        have HQ11 := Lib.hid mq.rows; clear mq HS10
        clear hb11 HOK10 HW10 HZ10 HK10 HB10
        go_wp2_with fail
        refine (i_ReceiverRows key 4 bn _ hkey (by unfold Fits; omega) (by unfold Fits; omega)).mono ?_; rintro e w12 ⟨tr_, tc, rfl, mt, hb12⟩; rw [HE.out.2.2.1] at mt ⊢; skip
        replace c0 := cell_on c0 hb12; replace c1 := cell_on c1 hb12; replace c2 := cell_on c2 hb12; replace c3 := cell_on c3 hb12
        replace y0 := cell_on y0 hb12; replace y1 := cell_on y1 hb12; replace y2 := cell_on y2 hb12
        have HOK12 := Lib.hid (HOK11.out.below hb12); have HW12 := Lib.hid (HW11.out.below hb12); have HZ12 := Lib.hid (HZ11.out.below hb12); have HK12 := Lib.hid (HK11.out.below hb12); have HQ12 := Lib.hid (HQ11.out.below hb12); have HB12 := Lib.hid (bel_trans HB11.out hb12)
        have HT12 := Lib.hid mt.rows; clear mt
        clear hb12 HOK11 HW11 HZ11 HK11 HQ11 HB11
        have f1 : IntKind.i64.wrap ((an : Int) + (bn : Int)) = (an : Int) + (bn : Int) := IntWalk.i64_in _ (by omega)
        have f2 : IntKind.i64.wrap ((an : Int) + (bn : Int) + (gn : Int)) = (an : Int) + (bn : Int) + (gn : Int) := IntWalk.i64_in _ (by omega)
        go_wp2
        have HCE := Lib.hid (And.intro c0 (And.intro c1 (And.intro c2 (And.intro c3 (And.intro y0 (And.intro y1 y2))))))
        clear c0 c1 c2 c3 y0 y1 y2
        go_loopw [28, 29, 182] (fun v1 v2 i wr => ∃ j : Nat, j ≤ bn ∧ i = .int .i64 j ∧ Hid (Duo wr w12.heap.size v1 j (zL Z an j) v2 j (oL Z off an j)) ∧ Hid (Below w12.heap.size w12 wr)) (fun _ _ i _ => bn - (intOf i).toNat)
        case atStart => exact ⟨0, by omega, rfl, (show Hid _ from Duo.nil (Nat.le_refl _)), (show Hid _ from Below.refl _ _)⟩
        case round =>
          obtain ⟨j, hj, rfl, HD, HL1⟩ := hrel
          have c0 := cell_on HCE.out.1 HL1.out
          by_cases hlt : j < bn
          · have hlti : (j : Int) < (bn : Int) := by omega
            obtain ⟨N, hN⟩ : ∃ N, N = an + j := ⟨_, rfl⟩
            have es : IntKind.i64.wrap ((an : Int) + (j : Int)) = (N : Int) := by rw [IntWalk.i64_in _ (by omega)]; omega
            have hNi : (N : Int) < (an : Int) + (bn : Int) + (gn : Int) := by omega
            have hNn : N < an + bn + gn := by omega
            obtain ⟨zb, zo, hze, hzl, hzc⟩ := (HZ12.out.below HL1.out).at (i := N) hNn
            subst hze
            have hze : (some ⟨zb, zo, none⟩ : Option Addr) = some ⟨zb, zo, none⟩ := rfl
            have S1 : Hid (zL Z an (j + 1) = zL Z an j ++ [nth Z N]) := by show _ = _; rw [zL_snoc, hN]
            obtain ⟨U, hU⟩ : ∃ U, bits .xor .i64 (nth Z N) off = U := ⟨_, rfl⟩
            have S2 : Hid (oL Z off an (j + 1) = oL Z off an j ++ [U]) := by show _ = _; rw [oL_snoc, ← hN, ← hU]; rfl
            clear hN
            have hzw := HL1.out.size
            have tk0 : True := trivial
            go_wp2_with (at_builtin; first | (have t0 := tk0; clear t0 tk0; refine wp_duo wr _ w12.heap.size j (zL Z an j) _ j (oL Z off an j) (nth Z N) _ _ rfl _ _ rfl rfl rfl (by first | rfl | simp) HD.out (by omega) ?_; intro v3 w3 hd3 hb3; have HD3 := Lib.hid hd3; have HL3 := Lib.hid (HL1.out.trans hb3); clear HD hd3; have c0 := cell_on HCE.out.1 HL3.out; have hzc := ints_cell (HZ12.out.below HL3.out) hNn hze) | (refine wp_duo2 w3 _ w12.heap.size (j + 1) (zL Z an j ++ [nth Z N]) _ j (oL Z off an j) U _ _ rfl _ _ rfl rfl rfl (by first | rfl | simp) HD3.out (by omega) ?_; intro v4 w4_ hd4 hb4))
            go_roundw
            case rel => exact ⟨j + 1, by omega, by go_num, by rw [S1.out, S2.out]; exact hd4, HL3.out.trans hb4⟩
            case measure => simp [intOf]; omega
          · obtain rfl : bn = j := by omega
            have hlti : ¬ (bn : Int) < (bn : Int) := by omega
            obtain ⟨p1, x1, p2, x2, rfl, rfl, mz1, mz2, -⟩ := HD.out.two (w0 := w) (by omega) (by omega) (labs_fit (zL_labs HZ.out.1 an bn)) (labs_fit (oL_labs HZ.out.1 HZ.out.2.2.1 an bn)) HB12.out.size
            have HP := Lib.hid (And.intro mz1.ints mz2.ints); clear mz1 mz2 HD c0
            have HOKa := Lib.hid (HOK12.out.below HL1.out); have HWa := Lib.hid (HW12.out.below HL1.out); have HZa := Lib.hid (HZ12.out.below HL1.out); have HKa := Lib.hid (HK12.out.below HL1.out); have HQa := Lib.hid (HQ12.out.below HL1.out); have HTa := Lib.hid (HT12.out.below HL1.out); have HBa := Lib.hid (bel_trans HB12.out HL1.out)
            obtain ⟨c0, c1, c2, c3, y0, y1, y2⟩ := id HCE.out
            replace c0 := cell_on c0 HL1.out; replace c1 := cell_on c1 HL1.out; replace c2 := cell_on c2 HL1.out; replace c3 := cell_on c3 HL1.out
            replace y0 := cell_on y0 HL1.out; replace y1 := cell_on y1 HL1.out; replace y2 := cell_on y2 HL1.out
            clear HOK12 HW12 HZ12 HK12 HQ12 HT12 HB12 HL1 HCE
            go_wp2_with fail
            refine (i_HideMessages br 4 bc_ (bitsL [key, 77] 4) qr _ qc q p1 bn x1 (zL Z an bn) p2 bn x2 (oL Z off an bn) _ HKa.out HQa.out HP.out.1 HP.out.2).mono ?_; rintro e w13 ⟨hr, hc, rfl, mh, hb13⟩; rw [HE.out.2.2.2.1] at mh ⊢
            replace c0 := cell_on c0 hb13; replace c1 := cell_on c1 hb13; replace c2 := cell_on c2 hb13; replace c3 := cell_on c3 hb13
            replace y0 := cell_on y0 hb13; replace y1 := cell_on y1 hb13; replace y2 := cell_on y2 hb13
            have HMH := Lib.hid mh.rows; have HOKb := Lib.hid (HOKa.out.below hb13); have HWb := Lib.hid (HWa.out.below hb13); have HZb := Lib.hid (HZa.out.below hb13); have HTb := Lib.hid (HTa.out.below hb13); have HBb := Lib.hid (bel_trans HBa.out hb13)
            clear mh hb13 HP HKa HQa HOKa HWa HZa HTa HBa
            have HT3 := Lib.hid (show (takeMessages vs t hd).1.length = bn ∧ (takeMessages vs t hd).1 = taken ∧ (takeMessages vs t hd).2 = true by rw [HE.out.2.2.2.2.1]; exact ⟨HE.out.2.2.2.2.2.1, rfl, rfl⟩)
            go_wp2_with fail
            refine (i_TakeMessages ba bn bc vs tr_ _ tc t hr _ hc hd _ (HBB.out.below HBb.out) HTb.out HMH.out).mono ?_; rintro e w14 ⟨kr, kc, rfl, mk, hb14⟩; rw [HT3.out.1] at mk ⊢; rw [HT3.out.2.1] at mk; rw [HT3.out.2.2]
            replace c0 := cell_on c0 hb14; replace c1 := cell_on c1 hb14; replace c2 := cell_on c2 hb14; replace c3 := cell_on c3 hb14
            replace y0 := cell_on y0 hb14; replace y1 := cell_on y1 hb14; replace y2 := cell_on y2 hb14
            have HMK := Lib.hid mk.ints; have HOKc := Lib.hid (HOKb.out.below hb14); have HWc := Lib.hid (HWb.out.below hb14); have HZc := Lib.hid (HZb.out.below hb14); have HBc := Lib.hid (bel_trans HBb.out hb14)
            clear mk hb14 HMH HOKb HWb HZb HTb HBb
            have HCF := Lib.hid (And.intro c0 (And.intro c1 (And.intro c2 (And.intro c3 (And.intro y0 (And.intro y1 y2))))))
            clear c0 c1 c2 c3 y0 y1 y2
            go_wp2
            go_loopw [30, 231] (fun v i wr => ∃ j : Nat, j ≤ an ∧ i = .int .i64 j ∧ Hid (wr.ownsRow w14.heap.size 3 1 v j (ivs (actL off Z us j))) ∧ Hid (Below w14.heap.size w14 wr)) (fun _ i _ => an - (intOf i).toNat)
            case atStart => exact ⟨0, by omega, rfl, (show Hid _ from World.ownsRow_nil _ _ _ _), (show Hid _ from Below.refl _ _)⟩
            case round =>
              obtain ⟨j, hj, rfl, HO, HL2⟩ := hrel
              have hzw := HL2.out.size
              by_cases hlt : j < an
              · have hlti : (j : Int) < (an : Int) := by omega
                have hji : (j : Int) < (an : Int) + (bn : Int) + (gn : Int) := by omega
                obtain ⟨ub, uo, hue, hul, huc⟩ := (HA.out.below (bel_trans HBc.out HL2.out)).at hlt
                obtain ⟨zb, zo, hze, hzl, hzc⟩ := (HZc.out.below HL2.out).at (i := j) (by omega)
                subst hue hze
                have HLA := Lib.hid (And.intro (labs_at HZ.out.1 j) (bit1_at HUV.out.1 j))
                have HS := Lib.hid (actL_succ off Z us j)
                go_wp2_with fail
                refine (i_LabelOfY (nth Z j) off (nth us j) _ HLA.out.1 HZ.out.2.2.1 HLA.out.2).mono ?_; rintro e w15 ⟨rfl, rfl⟩
                go_wp2_with (at_builtin; go_loud (refine wp_app _ w14.heap.size j _ (actL off Z us j) (lbl (nth Z j) off (nth us j)) _ _ rfl _ _ rfl rfl rfl (by first | rfl | simp) HO.out (by omega) (by omega) ?_; intro v9 w9 hv9 hb9 hg9))
                go_roundw
                case rel => exact ⟨j + 1, by omega, by go_num, by rw [HS.out]; exact hv9, HL2.out.trans hb9⟩
                case measure => simp [intOf]; omega
              · obtain rfl : an = j := by omega
                have hltj : ¬ (an : Int) < (an : Int) := by omega
                have HL3 := Lib.hid (HL2.out.trans ((bel_drew wr).mono (show w14.heap.size ≤ wr.heap.size from hzw)))
                have hzd : wr.drew.heap.size = wr.heap.size := rfl
                obtain ⟨c0, c1, c2, c3, y0, y1, y2⟩ := id HCF.out
                replace c0 := cell_on c0 HL3.out; replace c1 := cell_on c1 HL3.out; replace c2 := cell_on c2 HL3.out; replace c3 := cell_on c3 HL3.out
                replace y0 := cell_on y0 HL3.out; replace y1 := cell_on y1 HL3.out; replace y2 := cell_on y2 HL3.out
                have HO3 := Lib.hid (ownsRow_below HO.out (bel_drew wr))
                have HMK3 := Lib.hid (HMK.out.below HL3.out)
                obtain ⟨va, vc, hva⟩ := own_slZ HO.out
                subst hva
                have tk0 : True := trivial
                go_wp2_with fail
                go_region_held3 (fun W => W.cell? ⟨w.heap.size, 0, none⟩ = some (.int .i64 an) ∧ W.cell? ⟨w.heap.size, 1, none⟩ = some (.int .i64 bn) ∧ W.cell? ⟨w.heap.size, 2, none⟩ = some (.slice ga gn gc) ∧ W.cell? ⟨w.heap.size, 3, none⟩ = some (.slice oa on oc) ∧ W.cell? ⟨w5.heap.size, 0, none⟩ = some (.slice ra rn rc) ∧ W.cell? ⟨w5.heap.size, 1, none⟩ = some (.slice na nn nc) ∧ W.cell? ⟨w5.heap.size, 2, none⟩ = some (.slice ca on cc)) (first | exact ⟨c0, c1, c2, c3, y0, y1, y2⟩ | exact ⟨cell_on c0 (by (repeat (first | exact Below.refl _ _ | assumption | refine bel_trans ?_ (bel_alloc _ _) | refine bel_set ?_ (by first | (dsimp only; omega) | (simp; omega) | simp) _ | refine bel_trans ?_ (bel_drewN _ _) | refine bel_trans ?_ (bel_drew _) | refine bel_trans ?_ (by assumption)))), cell_on c1 (by (repeat (first | exact Below.refl _ _ | assumption | refine bel_trans ?_ (bel_alloc _ _) | refine bel_set ?_ (by first | (dsimp only; omega) | (simp; omega) | simp) _ | refine bel_trans ?_ (bel_drewN _ _) | refine bel_trans ?_ (bel_drew _) | refine bel_trans ?_ (by assumption)))), cell_on c2 (by (repeat (first | exact Below.refl _ _ | assumption | refine bel_trans ?_ (bel_alloc _ _) | refine bel_set ?_ (by first | (dsimp only; omega) | (simp; omega) | simp) _ | refine bel_trans ?_ (bel_drewN _ _) | refine bel_trans ?_ (bel_drew _) | refine bel_trans ?_ (by assumption)))), cell_on c3 (by (repeat (first | exact Below.refl _ _ | assumption | refine bel_trans ?_ (bel_alloc _ _) | refine bel_set ?_ (by first | (dsimp only; omega) | (simp; omega) | simp) _ | refine bel_trans ?_ (bel_drewN _ _) | refine bel_trans ?_ (bel_drew _) | refine bel_trans ?_ (by assumption)))), cell_on y0 (by (repeat (first | exact Below.refl _ _ | assumption | refine bel_trans ?_ (bel_alloc _ _) | refine bel_set ?_ (by first | (dsimp only; omega) | (simp; omega) | simp) _ | refine bel_trans ?_ (bel_drewN _ _) | refine bel_trans ?_ (bel_drew _) | refine bel_trans ?_ (by assumption)))), cell_on y1 (by (repeat (first | exact Below.refl _ _ | assumption | refine bel_trans ?_ (bel_alloc _ _) | refine bel_set ?_ (by first | (dsimp only; omega) | (simp; omega) | simp) _ | refine bel_trans ?_ (bel_drewN _ _) | refine bel_trans ?_ (bel_drew _) | refine bel_trans ?_ (by assumption)))), cell_on y2 (by (repeat (first | exact Below.refl _ _ | assumption | refine bel_trans ?_ (bel_alloc _ _) | refine bel_set ?_ (by first | (dsimp only; omega) | (simp; omega) | simp) _ | refine bel_trans ?_ (bel_drewN _ _) | refine bel_trans ?_ (bel_drew _) | refine bel_trans ?_ (by assumption))))⟩) (first
                  | (have t0 := tk0; clear t0 tk0; refine step_apps w14.heap.size an _ (actL off Z us an) taken kr bn kc (by rfl) _ _ (by rfl) (by rfl) (by rfl) HMK3.out HO3.out (by omega) (by omega) ?_; intro v9 w9 hv9 hb9; rw [HE.out.2.2.2.2.2.2] at hv9; obtain ⟨r9, k9, e9, m9⟩ := Mine.of hv9 (by omega) (labs_fit HL.out.2.2.1); subst e9; have HL9 := Lib.hid (HL3.out.trans hb9); have HI9 := Lib.hid m9.ints; clear hv9 hb9 m9; have c0 := cell_on HCF.out.1 HL9.out; have c1 := cell_on HCF.out.2.1 HL9.out; have c2 := cell_on HCF.out.2.2.1 HL9.out; have c3 := cell_on HCF.out.2.2.2.1 HL9.out; have y0 := cell_on HCF.out.2.2.2.2.1 HL9.out; have y1 := cell_on HCF.out.2.2.2.2.2.1 HL9.out; have y2 := cell_on HCF.out.2.2.2.2.2.2 HL9.out)
                  | (go_at_call 18; refine (i_EvalGarbledY an bn ga gn gc gs oa on oc os ra rn rc _ na nn nc _ ca cc _ r9 (an + bn) k9 _ _ (HC.out.below (bel_trans HBc.out HL9.out)) HCC.out.1 (HOKc.out.below HL9.out) HI9.out HL.out.2.2.1 rfl).mono ?_; rintro e w10 ⟨r5, k5, rfl, hM5, hb10⟩; rw [HL.out.1] at hM5; have c0 := cell_on c0 hb10; have c1 := cell_on c1 hb10; have c2 := cell_on c2 hb10; have c3 := cell_on c3 hb10; have y0 := cell_on y0 hb10; have y1 := cell_on y1 hb10; have y2 := cell_on y2 hb10))
                all_goals
                  have HBd := Lib.hid (bel_trans (bel_trans HBc.out HL9.out) hb10)
                  have HOKd := Lib.hid ((HOKc.out.below HL9.out).below hb10); have HWd := Lib.hid ((HWc.out.below HL9.out).below hb10)
                  have HI5 := Lib.hid hM5.ints
                  clear hM5 hb10 HL9 HI9 HOKc HWc HZc HBc HMK HMK3 HO HO3 HL2 HL3
                  go_wp2_with fail
                  refine (i_DecodeOutsY an bn ga gn gc gs oa on oc os ra rn rc _ na nn nc _ ca cc _ r5 k5 _ _ (HC.out.below HBd.out) HCC.out.1 HOKd.out HI5.out (pkL_labs HL.out.2.2.2 os on)).mono ?_; rintro e w11_ ⟨r6, k6, rfl, hM6, hb11⟩; rw [HL.out.2.1] at hM6
                  have HBe := Lib.hid (bel_trans HBd.out hb11); have HWe := Lib.hid (HWd.out.below hb11); have HI6 := Lib.hid hM6.ints; clear hM6 hb11
                  go_wp2_with fail
                  refine (l_sameInts r6 r2 on k6 z2 (pkL (valS gs (us ++ vs) gn) os on) _ HI6.out HWe.out).mono ?_; rintro e w16 ⟨rfl, hb16⟩
                  go_wp2
                  go_ret
                  exact ⟨rfl, bel_trans HBe.out hb16⟩
    · have hk : keyE key = false := inB_no.2 (by omega)
      cases hA : askB i0 i1 gs gn os us vs with
      | false =>
        have HR : Hid (rgAll i0 i1 gs gn os key us vs = ([], false)) := by show _ = _; unfold rgAll; rw [hA]; rfl
        have HE : Hid (evAll i0 i1 gs gn os us vs = ([], false)) := by show _ = _; unfold evAll; rw [hA]; rfl
        go_enter Try.func3, Try.ntmps3
        go_wp2_with fail
        refine (i_RunGarbled i0 i1 ga gn gc gs oa on oc os key aa an ac us ba bn bc vs _ (HC.out.below HB0.out) (HA.out.below HB0.out) (HBB.out.below HB0.out)).mono ?_; rintro e w1 ⟨r1, z1, rfl, m1, hb1⟩; rw [HR.out]
        replace c0 := cell_on c0 hb1; replace c1 := cell_on c1 hb1; replace c2 := cell_on c2 hb1; replace c3 := cell_on c3 hb1
        have HB1 := Lib.hid (bel_trans HB0.out hb1)
        clear hb1
        go_wp2_with fail
        refine (s_EvalCircuit i0 i1 ga gn gc gs oa on oc os aa an ac us ba bn bc vs _ (HC.out.below HB1.out) (HA.out.below HB1.out) (HBB.out.below HB1.out)).mono ?_; rintro e w2 ⟨r2, z2, rfl, m2, hb2⟩; rw [HE.out]
        replace c0 := cell_on c0 hb2; replace c1 := cell_on c1 hb2; replace c2 := cell_on c2 hb2; replace c3 := cell_on c3 hb2
        have HB2 := Lib.hid (bel_trans HB1.out hb2)
        go_wp2
        go_ret
        exact ⟨rfl, HB2.out⟩
      | true =>
        have HR : Hid (rgAll i0 i1 gs gn os key us vs = ([], false)) := by show _ = _; unfold rgAll; rw [hA, hk]; rfl
        have HE : Hid ((evAll i0 i1 gs gn os us vs).2 = true) := by show _ = _; unfold evAll; rw [hA]; rfl
        go_enter Try.func3, Try.ntmps3
        go_wp2_with fail
        refine (i_RunGarbled i0 i1 ga gn gc gs oa on oc os key aa an ac us ba bn bc vs _ (HC.out.below HB0.out) (HA.out.below HB0.out) (HBB.out.below HB0.out)).mono ?_; rintro e w1 ⟨r1, z1, rfl, m1, hb1⟩; rw [HR.out]
        replace c0 := cell_on c0 hb1; replace c1 := cell_on c1 hb1; replace c2 := cell_on c2 hb1; replace c3 := cell_on c3 hb1
        have HB1 := Lib.hid (bel_trans HB0.out hb1)
        clear hb1
        go_wp2_with fail
        refine (s_EvalCircuit i0 i1 ga gn gc gs oa on oc os aa an ac us ba bn bc vs _ (HC.out.below HB1.out) (HA.out.below HB1.out) (HBB.out.below HB1.out)).mono ?_; rintro e w2 ⟨r2, z2, rfl, m2, hb2⟩; rw [HE.out]
        replace c0 := cell_on c0 hb2; replace c1 := cell_on c1 hb2; replace c2 := cell_on c2 hb2; replace c3 := cell_on c3 hb2
        have HB2 := Lib.hid (bel_trans HB1.out hb2)
        go_wp2
        go_ret
        exact ⟨rfl, HB2.out⟩
  · have hk : keyE key = false := inB_no.2 (by omega)
    cases hA : askB i0 i1 gs gn os us vs with
    | false =>
      have HR : Hid (rgAll i0 i1 gs gn os key us vs = ([], false)) := by show _ = _; unfold rgAll; rw [hA]; rfl
      have HE : Hid (evAll i0 i1 gs gn os us vs = ([], false)) := by show _ = _; unfold evAll; rw [hA]; rfl
      go_enter Try.func3, Try.ntmps3
      go_wp2_with fail
      refine (i_RunGarbled i0 i1 ga gn gc gs oa on oc os key aa an ac us ba bn bc vs _ (HC.out.below HB0.out) (HA.out.below HB0.out) (HBB.out.below HB0.out)).mono ?_; rintro e w1 ⟨r1, z1, rfl, m1, hb1⟩; rw [HR.out]
      replace c0 := cell_on c0 hb1; replace c1 := cell_on c1 hb1; replace c2 := cell_on c2 hb1; replace c3 := cell_on c3 hb1
      have HB1 := Lib.hid (bel_trans HB0.out hb1)
      clear hb1
      go_wp2_with fail
      refine (s_EvalCircuit i0 i1 ga gn gc gs oa on oc os aa an ac us ba bn bc vs _ (HC.out.below HB1.out) (HA.out.below HB1.out) (HBB.out.below HB1.out)).mono ?_; rintro e w2 ⟨r2, z2, rfl, m2, hb2⟩; rw [HE.out]
      replace c0 := cell_on c0 hb2; replace c1 := cell_on c1 hb2; replace c2 := cell_on c2 hb2; replace c3 := cell_on c3 hb2
      have HB2 := Lib.hid (bel_trans HB1.out hb2)
      go_wp2
      go_ret
      exact ⟨rfl, HB2.out⟩
    | true =>
      have HR : Hid (rgAll i0 i1 gs gn os key us vs = ([], false)) := by show _ = _; unfold rgAll; rw [hA, hk]; rfl
      have HE : Hid ((evAll i0 i1 gs gn os us vs).2 = true) := by show _ = _; unfold evAll; rw [hA]; rfl
      go_enter Try.func3, Try.ntmps3
      go_wp2_with fail
      refine (i_RunGarbled i0 i1 ga gn gc gs oa on oc os key aa an ac us ba bn bc vs _ (HC.out.below HB0.out) (HA.out.below HB0.out) (HBB.out.below HB0.out)).mono ?_; rintro e w1 ⟨r1, z1, rfl, m1, hb1⟩; rw [HR.out]
      replace c0 := cell_on c0 hb1; replace c1 := cell_on c1 hb1; replace c2 := cell_on c2 hb1; replace c3 := cell_on c3 hb1
      have HB1 := Lib.hid (bel_trans HB0.out hb1)
      clear hb1
      go_wp2_with fail
      refine (s_EvalCircuit i0 i1 ga gn gc gs oa on oc os aa an ac us ba bn bc vs _ (HC.out.below HB1.out) (HA.out.below HB1.out) (HBB.out.below HB1.out)).mono ?_; rintro e w2 ⟨r2, z2, rfl, m2, hb2⟩; rw [HE.out]
      replace c0 := cell_on c0 hb2; replace c1 := cell_on c1 hb2; replace c2 := cell_on c2 hb2; replace c3 := cell_on c3 hb2
      have HB2 := Lib.hid (bel_trans HB1.out hb2)
      go_wp2
      go_ret
      exact ⟨rfl, HB2.out⟩
end Go.Proofs.Ytfejpmfcognikaa
