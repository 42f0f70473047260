/-
  The walk of the law FnSharedBits.
-/
import Derived.Test.YtmkcanbaleecfaaVc
import Derived.BigQuiet
import Derived.Deep.QuietTactic
import Derived.Deep.DeepCutAuto
namespace Go.Proofs.Ytmkcanbaleecfaa
open Go.RowKit
set_option linter.unusedVariables false
set_option linter.unusedSimpArgs false
set_option maxRecDepth 100000

set_option maxHeartbeats 16000000 in
theorem law_FnSharedBits (a0 : Option Addr) (n0 c0 : Nat) (z0 : List Int) (a1 : Option Addr) (n1 c1 : Nat) (z1 : List Int) (w : World) (h0 : BytesIn w a0 n0 c0 z0) (h1 : BytesIn w a1 n1 c1 z1) :
    Calls Try.prog 9 #[.slice a0 n0 c0, .slice a1 n1 c1] w fun e w' => e = .returned (.bool true) ∧ Below w.heap.size w w' := by
  have hn0 := h0.small; have hn1 := h1.small
  have hB : Byts w a1 n1 c1 := h1
  have hA : Byts w a0 n0 c0 := h0
  clear h0 h1
  obtain ⟨G, hG⟩ : ∃ G, IntKind.i64.wrap ((n0 : Int) + (n1 : Int)) = G := ⟨_, rfl⟩
  by_cases hg : 1048576 < G
  · go_enter Try.func9, Try.ntmps9
    go_wp2
    go_ret
    exact ⟨rfl, Below.refl _ _⟩
  go_enter Try.func9, Try.ntmps9
  go_wp2_with fail
  refine (s_DrawSharedWires _ _ _ _ hA).mono ?_; rintro e w1 ⟨x0, x1, ga, gn, gc, gs, oa, on, oc, os, key, aa, an, ac, us, ba, bn, bc, vs, rfl, hM, hk, hU, hV, hbw1⟩
  replace hB := hB.below hbw1
  replace hA := hA.below hbw1
  have Bw1 := bel_trans (Below.refl w.heap.size w) hbw1
  clear hbw1
  clear hA
  have hc := hM.circ; have hu := hU.ints; have hv := hV.ints; clear hM hU hV
  have A_ := bel_alloc w1 (.cells #[.int .i64 x0, .int .i64 x1, .slice ga gn gc, .slice oa on oc] 31)
  have X1 := B4.new (w := w1) (x0 := .int .i64 x0) (x1 := .int .i64 x1) (x2 := .slice ga gn gc) (x3 := .slice oa on oc) (t := 31)
  replace hB := hB.below A_
  replace hc := hc.below A_
  replace hu := hu.below A_
  replace hv := hv.below A_
  have BA_ := bel_trans Bw1 A_; have BX1 := BA_; clear A_ BA_
  obtain ⟨R, hR⟩ : ∃ zz_, zz_ = runAll x0 x1 gs gn os key us vs := ⟨_, rfl⟩; have HR := Lib.hid hR; clear hR
  obtain ⟨b0_, b1_, b2_, b3_⟩ := id X1
  go_wp2_with fail
  refine (i_SharedWires x0 x1 _ _ _ gs _ _ _ os key _ _ _ us _ _ _ vs _ hc hk.fits hu hv).mono ?_; rintro e w2 ⟨iur, iuc, ivr, ivc, rfl, ium, ivm, iup, hbw2⟩
  replace hB := hB.below hbw2
  replace hc := hc.below hbw2
  replace hu := hu.below hbw2
  replace hv := hv.below hbw2
  replace X1 := X1.below hbw2
  have Bw2 := bel_trans BX1 hbw2
  clear hbw2
  rw [← HR.out] at ium ivm ⊢; clear iup
  clear b0_ b1_ b2_ b3_
  have iu := ium.ints; clear ium
  have iv := ivm.ints; clear ivm
  obtain ⟨b0_, b1_, b2_, b3_⟩ := id X1
  go_wp2_with fail
  refine (s_SharedWires x0 x1 _ _ _ gs _ _ _ os key _ _ _ us _ _ _ vs _ hc hk.fits hu hv).mono ?_; rintro e w3 ⟨sur, suc, svr, svc, rfl, sum, svm, sup, hbw3⟩
  replace hB := hB.below hbw3
  replace hc := hc.below hbw3
  replace hu := hu.below hbw3
  replace hv := hv.below hbw3
  replace X1 := X1.below hbw3
  replace iu := iu.below hbw3
  replace iv := iv.below hbw3
  have Bw3 := bel_trans Bw2 hbw3
  clear hbw3
  rw [← HR.out] at sum svm ⊢; clear sup
  clear b0_ b1_ b2_ b3_
  have su := sum.ints; clear sum
  have sv := svm.ints; clear svm
  go_wp2_with fail
  refine (s_DrawPartyWires _ _ _ _ hB).mono ?_; rintro e w4 ⟨y0, y1, ha, hn, hcc, hs, pa, pn, pc, ps, k2, P, ea, en, ec, es, fa, fn, fc, fs, rfl, hM, hk2, hP, hU, hZ, hbw4⟩
  replace hB := hB.below hbw4
  replace hc := hc.below hbw4
  replace hu := hu.below hbw4
  replace hv := hv.below hbw4
  replace X1 := X1.below hbw4
  replace iu := iu.below hbw4
  replace iv := iv.below hbw4
  replace su := su.below hbw4
  replace sv := sv.below hbw4
  have Bw4 := bel_trans Bw3 hbw4
  clear hbw4
  have hd := hM.circ; have he := hU.ints; have hf := hZ.recs; clear hM hU hZ
  have A_ := bel_alloc w4 (.cells #[.int .i64 y0, .int .i64 y1, .slice ha hn hcc, .slice pa pn pc] 31)
  have X2 := B4.new (w := w4) (x0 := .int .i64 y0) (x1 := .int .i64 y1) (x2 := .slice ha hn hcc) (x3 := .slice pa pn pc) (t := 31)
  replace hB := hB.below A_
  replace hc := hc.below A_
  replace hu := hu.below A_
  replace hv := hv.below A_
  replace X1 := X1.below A_
  replace iu := iu.below A_
  replace iv := iv.below A_
  replace su := su.below A_
  replace sv := sv.below A_
  replace hd := hd.below A_
  replace he := he.below A_
  replace hf := hf.below A_
  have BA_ := bel_trans Bw4 A_; have BX2 := BA_; clear A_ BA_
  obtain ⟨Q, hQ⟩ : ∃ zz_, zz_ = pwAll y0 y1 hs hn ps k2 P es fs := ⟨_, rfl⟩; have HQ := Lib.hid hQ; clear hQ
  obtain ⟨b0_, b1_, b2_, b3_⟩ := id X2
  go_wp2_with fail
  refine (i_PartyWires y0 y1 _ _ _ hs _ _ _ ps k2 P _ _ _ es _ _ _ fs _ hd hk2.fits (by unfold Fits; omega) he hf).mono ?_; rintro e w5 ⟨iwr, iwc, rfl, iwm, hbw5⟩
  replace hB := hB.below hbw5
  replace hc := hc.below hbw5
  replace hu := hu.below hbw5
  replace hv := hv.below hbw5
  replace X1 := X1.below hbw5
  replace iu := iu.below hbw5
  replace iv := iv.below hbw5
  replace su := su.below hbw5
  replace sv := sv.below hbw5
  replace hd := hd.below hbw5
  replace he := he.below hbw5
  replace hf := hf.below hbw5
  replace X2 := X2.below hbw5
  have Bw5 := bel_trans BX2 hbw5
  clear hbw5
  rw [← HQ.out] at iwm ⊢
  clear b0_ b1_ b2_ b3_
  have iw := iwm.ints; clear iwm
  obtain ⟨b0_, b1_, b2_, b3_⟩ := id X2
  go_wp2_with fail
  refine (s_PartyWires y0 y1 _ _ _ hs _ _ _ ps k2 P _ _ _ es _ _ _ fs _ hd hk2.fits (by unfold Fits; omega) he hf).mono ?_; rintro e w6 ⟨swr, swc, rfl, swm, hbw6⟩
  replace hB := hB.below hbw6
  replace hc := hc.below hbw6
  replace hu := hu.below hbw6
  replace hv := hv.below hbw6
  replace X1 := X1.below hbw6
  replace iu := iu.below hbw6
  replace iv := iv.below hbw6
  replace su := su.below hbw6
  replace sv := sv.below hbw6
  replace hd := hd.below hbw6
  replace he := he.below hbw6
  replace hf := hf.below hbw6
  replace X2 := X2.below hbw6
  replace iw := iw.below hbw6
  have Bw6 := bel_trans Bw5 hbw6
  clear hbw6
  rw [← HQ.out] at swm ⊢
  clear b0_ b1_ b2_ b3_
  have sw := swm.ints; clear swm
  clear X2 hd he hf
  go_wp2_with fail
  refine (s_DrawBitTriple _ _ _ _ hB).mono ?_; rintro e w7 ⟨tk, ti, rfl, dtk, dti, hbw7⟩
  replace hB := hB.below hbw7
  replace hc := hc.below hbw7
  replace hu := hu.below hbw7
  replace hv := hv.below hbw7
  replace X1 := X1.below hbw7
  replace iu := iu.below hbw7
  replace iv := iv.below hbw7
  replace su := su.below hbw7
  replace sv := sv.below hbw7
  replace iw := iw.below hbw7
  replace sw := sw.below hbw7
  have Bw7 := bel_trans Bw6 hbw7
  clear hbw7
  clear hB
  obtain ⟨T, hT⟩ : ∃ zz_, zz_ = bitTriple tk ti := ⟨_, rfl⟩; have HT := Lib.hid hT; clear hT
  go_wp2_with fail
  refine (i_BitTriple tk ti _ dtk.fits dti.fits).mono ?_; rintro e w8 ⟨is_r, is_c, it_r, it_c, rfl, is_m, it_m, is_p, hbw8⟩
  replace hc := hc.below hbw8
  replace hu := hu.below hbw8
  replace hv := hv.below hbw8
  replace X1 := X1.below hbw8
  replace iu := iu.below hbw8
  replace iv := iv.below hbw8
  replace su := su.below hbw8
  replace sv := sv.below hbw8
  replace iw := iw.below hbw8
  replace sw := sw.below hbw8
  have Bw8 := bel_trans Bw7 hbw8
  clear hbw8
  rw [← HT.out] at is_m it_m ⊢; clear is_p
  have is_ := is_m.ints; clear is_m
  have it_ := it_m.ints; clear it_m
  go_wp2_with fail
  refine (s_BitTriple tk ti _ dtk.fits dti.fits).mono ?_; rintro e w9 ⟨lsr, lsc, ltr, ltc, rfl, lsm, ltm, lsp, hbw9⟩
  replace hc := hc.below hbw9
  replace hu := hu.below hbw9
  replace hv := hv.below hbw9
  replace X1 := X1.below hbw9
  replace iu := iu.below hbw9
  replace iv := iv.below hbw9
  replace su := su.below hbw9
  replace sv := sv.below hbw9
  replace iw := iw.below hbw9
  replace sw := sw.below hbw9
  replace is_ := is_.below hbw9
  replace it_ := it_.below hbw9
  have Bw9 := bel_trans Bw8 hbw9
  clear hbw9
  rw [← HT.out] at lsm ltm ⊢; clear lsp
  have ls := lsm.ints; clear lsm
  have lt := ltm.ints; clear ltm
  go_wp2_with fail
  refine (l_qInts _ _ _ _ _ R.1 _ iu su).mono ?_; rintro e w10 ⟨rfl, hbw10⟩
  replace hc := hc.below hbw10
  replace hu := hu.below hbw10
  replace hv := hv.below hbw10
  replace X1 := X1.below hbw10
  replace iu := iu.below hbw10
  replace iv := iv.below hbw10
  replace su := su.below hbw10
  replace sv := sv.below hbw10
  replace iw := iw.below hbw10
  replace sw := sw.below hbw10
  replace is_ := is_.below hbw10
  replace it_ := it_.below hbw10
  replace ls := ls.below hbw10
  replace lt := lt.below hbw10
  have Bw10 := bel_trans Bw9 hbw10
  clear hbw10
  clear iu
  go_wp2_with fail
  refine (l_qInts _ _ _ _ _ R.2.1 _ iv sv).mono ?_; rintro e w11 ⟨rfl, hbw11⟩
  replace hc := hc.below hbw11
  replace hu := hu.below hbw11
  replace hv := hv.below hbw11
  replace X1 := X1.below hbw11
  replace iv := iv.below hbw11
  replace su := su.below hbw11
  replace sv := sv.below hbw11
  replace iw := iw.below hbw11
  replace sw := sw.below hbw11
  replace is_ := is_.below hbw11
  replace it_ := it_.below hbw11
  replace ls := ls.below hbw11
  replace lt := lt.below hbw11
  have Bw11 := bel_trans Bw10 hbw11
  clear hbw11
  clear iv
  go_wp2_with fail
  refine (l_qInts _ _ _ _ _ Q.1 _ iw sw).mono ?_; rintro e w12 ⟨rfl, hbw12⟩
  replace hc := hc.below hbw12
  replace hu := hu.below hbw12
  replace hv := hv.below hbw12
  replace X1 := X1.below hbw12
  replace su := su.below hbw12
  replace sv := sv.below hbw12
  replace iw := iw.below hbw12
  replace sw := sw.below hbw12
  replace is_ := is_.below hbw12
  replace it_ := it_.below hbw12
  replace ls := ls.below hbw12
  replace lt := lt.below hbw12
  have Bw12 := bel_trans Bw11 hbw12
  clear hbw12
  clear iw sw
  go_wp2_with fail
  refine (l_qInts _ _ _ _ _ T.1 _ is_ ls).mono ?_; rintro e w13 ⟨rfl, hbw13⟩
  replace hc := hc.below hbw13
  replace hu := hu.below hbw13
  replace hv := hv.below hbw13
  replace X1 := X1.below hbw13
  replace su := su.below hbw13
  replace sv := sv.below hbw13
  replace is_ := is_.below hbw13
  replace it_ := it_.below hbw13
  replace ls := ls.below hbw13
  replace lt := lt.below hbw13
  have Bw13 := bel_trans Bw12 hbw13
  clear hbw13
  clear is_
  go_wp2_with fail
  refine (l_qInts _ _ _ _ _ T.2.1 _ it_ lt).mono ?_; rintro e w14 ⟨rfl, hbw14⟩
  replace hc := hc.below hbw14
  replace hu := hu.below hbw14
  replace hv := hv.below hbw14
  replace X1 := X1.below hbw14
  replace su := su.below hbw14
  replace sv := sv.below hbw14
  replace it_ := it_.below hbw14
  replace ls := ls.below hbw14
  replace lt := lt.below hbw14
  have Bw14 := bel_trans Bw13 hbw14
  clear hbw14
  clear it_
  cases hT : T.2.2 with
  | false =>
    clear ls lt
    go_wp2
    go_quiet (fail)
    have hq_ := below_drewN (Below.refl w14.heap.size w14) nq
    replace hc := hc.below hq_
    replace hu := hu.below hq_
    replace hv := hv.below hq_
    replace X1 := X1.below hq_
    replace su := su.below hq_
    replace sv := sv.below hq_
    have BQ_ := bel_trans Bw14 hq_; clear hq_
    cases hR : R.2.2.2 with
    | false =>
      go_wp2
      go_ret
      exact ⟨by first | rfl | simp, BQ_⟩
    | true =>
      obtain ⟨hV2, hE2, hrs, hl1, hl2, hb1, hb2, hxx, hS2, hp0, hp1⟩ := sb_law HR.out hR
      have HH := Lib.hid (And.intro hrs (And.intro hp0 hp1)); clear hrs hp0 hp1
      have HXX := Lib.hid (And.intro hb1 (And.intro hb2 hxx)); clear hb1 hb2 hxx
      have HRR := Lib.hid hR
      obtain ⟨V, hV⟩ : ∃ zz_, zz_ = valAll x0 x1 gs gn os us vs := ⟨_, rfl⟩; rw [← hV] at hV2 hl1 hl2 HXX; have HV := Lib.hid hV; clear hV
      obtain ⟨E, hE⟩ : ∃ zz_, zz_ = evAll x0 x1 gs gn os us vs := ⟨_, rfl⟩; rw [← hE] at hE2 HH; have HE := Lib.hid hE; clear hE
      obtain ⟨S, hS⟩ : ∃ zz_, zz_ = shAll x0 x1 gs gn os key us vs := ⟨_, rfl⟩; rw [← hS] at hS2 HH; have HS := Lib.hid hS; clear hS
      obtain ⟨M, hM⟩ : ∃ M, M = V.1.length := ⟨_, rfl⟩; rw [← hM] at hl1 hl2 HXX; have HM := Lib.hid hM; clear hM
      have hrl1 := hl1; rw [hl1] at su ⊢; rw [hl2] at sv ⊢; have HL := Lib.hid (And.intro hl1 hl2); clear hl1 hl2 hrl1
      obtain ⟨O, hO⟩ : ∃ O, O = R.2.2.1.length / 3 := ⟨_, rfl⟩; have HO := Lib.hid hO; clear hO hR
      obtain ⟨b0_, b1_, b2_, b3_⟩ := id X1
      go_wp2_with fail
      refine (i_WireValues x0 x1 _ _ _ gs _ _ _ os _ _ _ us _ _ _ vs _ hc hu hv).mono ?_; rintro e w15 ⟨ivr, ivc, rfl, ivm, hbw15⟩
      replace hc := hc.below hbw15
      replace hu := hu.below hbw15
      replace hv := hv.below hbw15
      replace X1 := X1.below hbw15
      replace su := su.below hbw15
      replace sv := sv.below hbw15
      have Bw15 := bel_trans BQ_ hbw15
      clear hbw15
      rw [← HV.out, ← HM.out] at ivm ⊢; rw [hV2]
      clear b0_ b1_ b2_ b3_
      have iv := ivm.ints; clear ivm
      obtain ⟨b0_, b1_, b2_, b3_⟩ := id X1
      go_wp2_with fail
      refine (s_WireValues x0 x1 _ _ _ gs _ _ _ os _ _ _ us _ _ _ vs _ hc hu hv).mono ?_; rintro e w16 ⟨sv2r, sv2c, rfl, sv2m, hbw16⟩
      replace hc := hc.below hbw16
      replace hu := hu.below hbw16
      replace hv := hv.below hbw16
      replace X1 := X1.below hbw16
      replace su := su.below hbw16
      replace sv := sv.below hbw16
      replace iv := iv.below hbw16
      have Bw16 := bel_trans Bw15 hbw16
      clear hbw16
      rw [← HV.out, ← HM.out] at sv2m ⊢; rw [hV2]
      clear b0_ b1_ b2_ b3_
      have sv2 := sv2m.ints; clear sv2m
      obtain ⟨b0_, b1_, b2_, b3_⟩ := id X1
      go_wp2_with fail
      refine (i_RunSharedBits x0 x1 _ _ _ gs _ _ _ os key _ _ _ us _ _ _ vs _ hc hk.fits hu hv).mono ?_; rintro e w17 ⟨ior, ioc, rfl, iom, hbw17⟩
      replace hc := hc.below hbw17
      replace hu := hu.below hbw17
      replace hv := hv.below hbw17
      replace X1 := X1.below hbw17
      replace su := su.below hbw17
      replace sv := sv.below hbw17
      replace iv := iv.below hbw17
      replace sv2 := sv2.below hbw17
      have Bw17 := bel_trans Bw16 hbw17
      clear hbw17
      rw [HH.out.1] at iom ⊢; rw [hE2]
      clear b0_ b1_ b2_ b3_
      have io := iom.ints; clear iom
      obtain ⟨b0_, b1_, b2_, b3_⟩ := id X1
      go_wp2_with fail
      refine (i_EvalCircuit x0 x1 _ _ _ gs _ _ _ os _ _ _ us _ _ _ vs _ hc hu hv).mono ?_; rintro e w18 ⟨ipr, ipc, rfl, ipm, hbw18⟩
      replace hc := hc.below hbw18
      replace hu := hu.below hbw18
      replace hv := hv.below hbw18
      replace X1 := X1.below hbw18
      replace su := su.below hbw18
      replace sv := sv.below hbw18
      replace iv := iv.below hbw18
      replace sv2 := sv2.below hbw18
      replace io := io.below hbw18
      have Bw18 := bel_trans Bw17 hbw18
      clear hbw18
      rw [← HE.out] at ipm ⊢; rw [hE2]
      clear b0_ b1_ b2_ b3_
      have ip := ipm.ints; clear ipm
      obtain ⟨b0_, b1_, b2_, b3_⟩ := id X1
      go_wp2_with fail
      refine (i_OpenedFor x0 x1 _ _ _ gs _ _ _ os key _ _ _ us _ _ _ vs _ hc hk.fits hu hv).mono ?_; rintro e w19 ⟨oir, oic, rfl, oim, hbw19⟩
      replace hc := hc.below hbw19
      replace hu := hu.below hbw19
      replace hv := hv.below hbw19
      replace X1 := X1.below hbw19
      replace su := su.below hbw19
      replace sv := sv.below hbw19
      replace iv := iv.below hbw19
      replace sv2 := sv2.below hbw19
      replace io := io.below hbw19
      replace ip := ip.below hbw19
      have Bw19 := bel_trans Bw18 hbw19
      clear hbw19
      rw [← HR.out] at oim ⊢; rw [← HO.out] at oim ⊢; rw [HRR.out]
      clear b0_ b1_ b2_ b3_
      have oi := oim.recs; clear oim
      obtain ⟨b0_, b1_, b2_, b3_⟩ := id X1
      go_wp2_with fail
      refine (s_OpenedFor x0 x1 _ _ _ gs _ _ _ os key _ _ _ us _ _ _ vs _ hc hk.fits hu hv).mono ?_; rintro e w20 ⟨ojr, ojc, rfl, ojm, hbw20⟩
      replace hc := hc.below hbw20
      replace hu := hu.below hbw20
      replace hv := hv.below hbw20
      replace X1 := X1.below hbw20
      replace su := su.below hbw20
      replace sv := sv.below hbw20
      replace iv := iv.below hbw20
      replace sv2 := sv2.below hbw20
      replace io := io.below hbw20
      replace ip := ip.below hbw20
      replace oi := oi.below hbw20
      have Bw20 := bel_trans Bw19 hbw20
      clear hbw20
      rw [← HR.out] at ojm ⊢; rw [← HO.out] at ojm ⊢; rw [HRR.out]
      clear b0_ b1_ b2_ b3_
      have oj := ojm.recs; clear ojm
      go_wp2_with fail
      refine (l_qInts _ _ _ _ _ V.1 _ iv sv2).mono ?_; rintro e w21 ⟨rfl, hbw21⟩
      replace hc := hc.below hbw21
      replace hu := hu.below hbw21
      replace hv := hv.below hbw21
      replace X1 := X1.below hbw21
      replace su := su.below hbw21
      replace sv := sv.below hbw21
      replace iv := iv.below hbw21
      replace sv2 := sv2.below hbw21
      replace io := io.below hbw21
      replace ip := ip.below hbw21
      replace oi := oi.below hbw21
      replace oj := oj.below hbw21
      have Bw21 := bel_trans Bw20 hbw21
      clear hbw21
      clear iv
      go_wp2_with fail
      refine (l_qInts _ _ _ _ _ E.1 _ io ip).mono ?_; rintro e w22 ⟨rfl, hbw22⟩
      replace hc := hc.below hbw22
      replace hu := hu.below hbw22
      replace hv := hv.below hbw22
      replace X1 := X1.below hbw22
      replace su := su.below hbw22
      replace sv := sv.below hbw22
      replace sv2 := sv2.below hbw22
      replace io := io.below hbw22
      replace ip := ip.below hbw22
      replace oi := oi.below hbw22
      replace oj := oj.below hbw22
      have Bw22 := bel_trans Bw21 hbw22
      clear hbw22
      clear io ip
      go_wp2_with fail
      refine (l_qOpened _ _ _ _ _ R.2.2.1 _ oi oj).mono ?_; rintro e w23 ⟨rfl, hbw23⟩
      replace hc := hc.below hbw23
      replace hu := hu.below hbw23
      replace hv := hv.below hbw23
      replace X1 := X1.below hbw23
      replace su := su.below hbw23
      replace sv := sv.below hbw23
      replace sv2 := sv2.below hbw23
      replace oi := oi.below hbw23
      replace oj := oj.below hbw23
      have Bw23 := bel_trans Bw22 hbw23
      clear hbw23
      clear oj
      go_wp2
      have hMs := su.small
      have HF := Lib.hid (And.intro hc (And.intro hu (And.intro hv (And.intro X1 (And.intro su (And.intro sv (And.intro sv2 (And.intro oi Bw23))))))))
      go_loopw [287] (fun i W => ∃ j : Nat, j ≤ M ∧ i = .int .i64 j ∧ Hid (Below w23.heap.size w23 W)) (fun i _ => M - (intOf i).toNat)
      case atStart => exact ⟨0, by omega, rfl, Below.refl _ _⟩
      case round =>
        clear hc hu hv X1 su sv sv2 oi
        obtain ⟨j, hj, rfl, HB⟩ := hrel
        by_cases hlt : j < M
        · have hlti : (j : Int) < (M : Int) := by omega
          obtain ⟨c1, o1, rfl, hl1, k1⟩ := (HF.out.2.2.2.2.1.below HB.out).at hlt
          obtain ⟨c2, o2, rfl, hl2, k2⟩ := (HF.out.2.2.2.2.2.1.below HB.out).at hlt
          obtain ⟨c3, o3, rfl, hl3, k3⟩ := (HF.out.2.2.2.2.2.2.1.below HB.out).at hlt
          have e1 := xr_eq (HXX.out.1 j) (HXX.out.2.1 j)
          rw [HXX.out.2.2 j hlt] at e1
          generalize nth R.1 j = r1 at k1 e1; generalize nth R.2.1 j = r2 at k2 e1; generalize nth V.1 j = r3 at k3 e1
          go_wp2
          go_quiet (fail)
          go_wp2
          go_roundw
          case rel => exact ⟨j + 1, by omega, by go_num, (show Hid _ from below_drewN HB.out _)⟩
          case measure => simp [intOf]; omega
        · obtain rfl : j = M := by omega
          have hlti : ¬ (j : Int) < (j : Int) := by omega
          have hc := HF.out.1.below HB.out; have hu := HF.out.2.1.below HB.out; have hv := HF.out.2.2.1.below HB.out; have X1 := HF.out.2.2.2.1.below HB.out; have su := HF.out.2.2.2.2.1.below HB.out; have sv := HF.out.2.2.2.2.2.1.below HB.out; have oi := HF.out.2.2.2.2.2.2.2.1.below HB.out; have BV := bel_trans HF.out.2.2.2.2.2.2.2.2 HB.out; clear HF HB HXX
          obtain ⟨b0_, b1_, b2_, b3_⟩ := id X1
          go_wp2_with fail
          refine (i_ShareInputs x0 x1 _ _ _ gs _ _ _ os key _ _ _ us _ _ _ vs _ hc hk.fits hu hv).mono ?_; rintro e w24 ⟨pr, pc_, qr, qc, rfl, pm, qm, pp, hbw24⟩
          replace hc := hc.below hbw24
          replace hu := hu.below hbw24
          replace hv := hv.below hbw24
          replace X1 := X1.below hbw24
          replace su := su.below hbw24
          replace sv := sv.below hbw24
          replace oi := oi.below hbw24
          have Bw24 := bel_trans BV hbw24
          clear hbw24
          rw [← HS.out] at pm qm ⊢; clear pp; rw [hS2]
          clear b0_ b1_ b2_ b3_
          have p_ := pm.ints; clear pm
          have q_ := qm.ints; clear qm
          obtain ⟨b0_, b1_, b2_, b3_⟩ := id X1
          go_wp2_with fail
          refine (i_PartyWires x0 x1 _ _ _ gs _ _ _ os key 0 _ _ _ S.1 _ _ _ R.2.2.1 _ hc hk.fits (by unfold Fits; omega) p_ oi).mono ?_; rintro e w25 ⟨yr, yc, rfl, ym, hbw25⟩
          replace hc := hc.below hbw25
          replace hu := hu.below hbw25
          replace hv := hv.below hbw25
          replace X1 := X1.below hbw25
          replace su := su.below hbw25
          replace sv := sv.below hbw25
          replace oi := oi.below hbw25
          replace p_ := p_.below hbw25
          replace q_ := q_.below hbw25
          have Bw25 := bel_trans Bw24 hbw25
          clear hbw25
          rw [HH.out.2.1] at ym ⊢; dsimp only at ym ⊢; rw [HL.out.1] at ym ⊢
          clear b0_ b1_ b2_ b3_
          have y_ := ym.ints; clear ym
          obtain ⟨b0_, b1_, b2_, b3_⟩ := id X1
          go_wp2_with fail
          refine (i_PartyWires x0 x1 _ _ _ gs _ _ _ os key 1 _ _ _ S.2.1 _ _ _ R.2.2.1 _ hc hk.fits (by unfold Fits; omega) q_ oi).mono ?_; rintro e w26 ⟨zr, zc, rfl, zm, hbw26⟩
          replace hc := hc.below hbw26
          replace hu := hu.below hbw26
          replace hv := hv.below hbw26
          replace X1 := X1.below hbw26
          replace su := su.below hbw26
          replace sv := sv.below hbw26
          replace oi := oi.below hbw26
          replace p_ := p_.below hbw26
          replace q_ := q_.below hbw26
          replace y_ := y_.below hbw26
          have Bw26 := bel_trans Bw25 hbw26
          clear hbw26
          rw [HH.out.2.2] at zm ⊢; dsimp only at zm ⊢; rw [HL.out.2] at zm ⊢
          clear b0_ b1_ b2_ b3_
          have z_ := zm.ints; clear zm
          go_wp2_with fail
          refine (l_qInts _ _ _ _ _ R.1 _ y_ su).mono ?_; rintro e w27 ⟨rfl, hbw27⟩
          replace hc := hc.below hbw27
          replace hu := hu.below hbw27
          replace hv := hv.below hbw27
          replace X1 := X1.below hbw27
          replace su := su.below hbw27
          replace sv := sv.below hbw27
          replace oi := oi.below hbw27
          replace p_ := p_.below hbw27
          replace q_ := q_.below hbw27
          replace y_ := y_.below hbw27
          replace z_ := z_.below hbw27
          have Bw27 := bel_trans Bw26 hbw27
          clear hbw27
          clear y_ su
          go_wp2_with fail
          refine (l_qInts _ _ _ _ _ R.2.1 _ z_ sv).mono ?_; rintro e w28 ⟨rfl, hbw28⟩
          replace hc := hc.below hbw28
          replace hu := hu.below hbw28
          replace hv := hv.below hbw28
          replace X1 := X1.below hbw28
          replace sv := sv.below hbw28
          replace oi := oi.below hbw28
          replace p_ := p_.below hbw28
          replace q_ := q_.below hbw28
          replace z_ := z_.below hbw28
          have Bw28 := bel_trans Bw27 hbw28
          clear hbw28
          go_wp2
          go_ret
          exact ⟨by first | rfl | simp, Bw28⟩
  | true =>
    obtain ⟨ht1, ht2, hta, htb, htl⟩ := bt_facts HT.out hT
    rw [ht1] at ls ⊢; rw [ht2] at lt ⊢; clear ht1 ht2
    obtain ⟨c0, o0, hc0, hl0, k0⟩ := ls.at (i := 0) (by omega)
    obtain ⟨d0, p0, hd0, hm0, l0⟩ := lt.at (i := 0) (by omega)
    obtain ⟨c1, o1, hc1, hl1, k1⟩ := ls.at (i := 1) (by omega)
    obtain ⟨d1, p1, hd1, hm1, l1⟩ := lt.at (i := 1) (by omega)
    obtain ⟨c2, o2, hc2, hl2, k2⟩ := ls.at (i := 2) (by omega)
    obtain ⟨d2, p2, hd2, hm2, l2⟩ := lt.at (i := 2) (by omega)
    subst hc0; subst hd0; simp only [Nat.add_zero] at k0 l0
    simp only [Option.some.injEq, Addr.mk.injEq, and_true] at hc1 hd1; obtain ⟨rfl, rfl⟩ := hc1; obtain ⟨rfl, rfl⟩ := hd1
    simp only [Option.some.injEq, Addr.mk.injEq, and_true] at hc2 hd2; obtain ⟨rfl, rfl⟩ := hc2; obtain ⟨rfl, rfl⟩ := hd2
    have e0 := xr_eq (hta 0) (htb 0); have f0 := xr_bd (nth T.1 0) (nth T.2.1 0)
    have e1 := xr_eq (hta 1) (htb 1); have f1 := xr_bd (nth T.1 1) (nth T.2.1 1)
    have e2 := xr_eq (hta 2) (htb 2); have f2 := xr_bd (nth T.1 2) (nth T.2.1 2)
    have ea_ := an_eq f0 f1; rw [htl] at ea_
    generalize nth T.1 0 = a0_ at *; generalize nth T.1 1 = a1_ at *; generalize nth T.1 2 = a2_ at *; generalize nth T.2.1 0 = q0_ at *; generalize nth T.2.1 1 = q1_ at *; generalize nth T.2.1 2 = q2_ at *
    clear f0 f1 f2 htl hta htb ls lt
    go_wp2
    go_quiet (fail)
    have hq_ := below_drewN (Below.refl w14.heap.size w14) nq
    replace hc := hc.below hq_
    replace hu := hu.below hq_
    replace hv := hv.below hq_
    replace X1 := X1.below hq_
    replace su := su.below hq_
    replace sv := sv.below hq_
    have BQ_ := bel_trans Bw14 hq_; clear hq_
    cases hR : R.2.2.2 with
    | false =>
      go_wp2
      go_ret
      exact ⟨by first | rfl | simp, BQ_⟩
    | true =>
      obtain ⟨hV2, hE2, hrs, hl1, hl2, hb1, hb2, hxx, hS2, hp0, hp1⟩ := sb_law HR.out hR
      have HH := Lib.hid (And.intro hrs (And.intro hp0 hp1)); clear hrs hp0 hp1
      have HXX := Lib.hid (And.intro hb1 (And.intro hb2 hxx)); clear hb1 hb2 hxx
      have HRR := Lib.hid hR
      obtain ⟨V, hV⟩ : ∃ zz_, zz_ = valAll x0 x1 gs gn os us vs := ⟨_, rfl⟩; rw [← hV] at hV2 hl1 hl2 HXX; have HV := Lib.hid hV; clear hV
      obtain ⟨E, hE⟩ : ∃ zz_, zz_ = evAll x0 x1 gs gn os us vs := ⟨_, rfl⟩; rw [← hE] at hE2 HH; have HE := Lib.hid hE; clear hE
      obtain ⟨S, hS⟩ : ∃ zz_, zz_ = shAll x0 x1 gs gn os key us vs := ⟨_, rfl⟩; rw [← hS] at hS2 HH; have HS := Lib.hid hS; clear hS
      obtain ⟨M, hM⟩ : ∃ M, M = V.1.length := ⟨_, rfl⟩; rw [← hM] at hl1 hl2 HXX; have HM := Lib.hid hM; clear hM
      have hrl1 := hl1; rw [hl1] at su ⊢; rw [hl2] at sv ⊢; have HL := Lib.hid (And.intro hl1 hl2); clear hl1 hl2 hrl1
      obtain ⟨O, hO⟩ : ∃ O, O = R.2.2.1.length / 3 := ⟨_, rfl⟩; have HO := Lib.hid hO; clear hO hR
      obtain ⟨b0_, b1_, b2_, b3_⟩ := id X1
      go_wp2_with fail
      refine (i_WireValues x0 x1 _ _ _ gs _ _ _ os _ _ _ us _ _ _ vs _ hc hu hv).mono ?_; rintro e w15 ⟨ivr, ivc, rfl, ivm, hbw15⟩
      replace hc := hc.below hbw15
      replace hu := hu.below hbw15
      replace hv := hv.below hbw15
      replace X1 := X1.below hbw15
      replace su := su.below hbw15
      replace sv := sv.below hbw15
      have Bw15 := bel_trans BQ_ hbw15
      clear hbw15
      rw [← HV.out, ← HM.out] at ivm ⊢; rw [hV2]
      clear b0_ b1_ b2_ b3_
      have iv := ivm.ints; clear ivm
      obtain ⟨b0_, b1_, b2_, b3_⟩ := id X1
      go_wp2_with fail
      refine (s_WireValues x0 x1 _ _ _ gs _ _ _ os _ _ _ us _ _ _ vs _ hc hu hv).mono ?_; rintro e w16 ⟨sv2r, sv2c, rfl, sv2m, hbw16⟩
      replace hc := hc.below hbw16
      replace hu := hu.below hbw16
      replace hv := hv.below hbw16
      replace X1 := X1.below hbw16
      replace su := su.below hbw16
      replace sv := sv.below hbw16
      replace iv := iv.below hbw16
      have Bw16 := bel_trans Bw15 hbw16
      clear hbw16
      rw [← HV.out, ← HM.out] at sv2m ⊢; rw [hV2]
      clear b0_ b1_ b2_ b3_
      have sv2 := sv2m.ints; clear sv2m
      obtain ⟨b0_, b1_, b2_, b3_⟩ := id X1
      go_wp2_with fail
      refine (i_RunSharedBits x0 x1 _ _ _ gs _ _ _ os key _ _ _ us _ _ _ vs _ hc hk.fits hu hv).mono ?_; rintro e w17 ⟨ior, ioc, rfl, iom, hbw17⟩
      replace hc := hc.below hbw17
      replace hu := hu.below hbw17
      replace hv := hv.below hbw17
      replace X1 := X1.below hbw17
      replace su := su.below hbw17
      replace sv := sv.below hbw17
      replace iv := iv.below hbw17
      replace sv2 := sv2.below hbw17
      have Bw17 := bel_trans Bw16 hbw17
      clear hbw17
      rw [HH.out.1] at iom ⊢; rw [hE2]
      clear b0_ b1_ b2_ b3_
      have io := iom.ints; clear iom
      obtain ⟨b0_, b1_, b2_, b3_⟩ := id X1
      go_wp2_with fail
      refine (i_EvalCircuit x0 x1 _ _ _ gs _ _ _ os _ _ _ us _ _ _ vs _ hc hu hv).mono ?_; rintro e w18 ⟨ipr, ipc, rfl, ipm, hbw18⟩
      replace hc := hc.below hbw18
      replace hu := hu.below hbw18
      replace hv := hv.below hbw18
      replace X1 := X1.below hbw18
      replace su := su.below hbw18
      replace sv := sv.below hbw18
      replace iv := iv.below hbw18
      replace sv2 := sv2.below hbw18
      replace io := io.below hbw18
      have Bw18 := bel_trans Bw17 hbw18
      clear hbw18
      rw [← HE.out] at ipm ⊢; rw [hE2]
      clear b0_ b1_ b2_ b3_
      have ip := ipm.ints; clear ipm
      obtain ⟨b0_, b1_, b2_, b3_⟩ := id X1
      go_wp2_with fail
      refine (i_OpenedFor x0 x1 _ _ _ gs _ _ _ os key _ _ _ us _ _ _ vs _ hc hk.fits hu hv).mono ?_; rintro e w19 ⟨oir, oic, rfl, oim, hbw19⟩
      replace hc := hc.below hbw19
      replace hu := hu.below hbw19
      replace hv := hv.below hbw19
      replace X1 := X1.below hbw19
      replace su := su.below hbw19
      replace sv := sv.below hbw19
      replace iv := iv.below hbw19
      replace sv2 := sv2.below hbw19
      replace io := io.below hbw19
      replace ip := ip.below hbw19
      have Bw19 := bel_trans Bw18 hbw19
      clear hbw19
      rw [← HR.out] at oim ⊢; rw [← HO.out] at oim ⊢; rw [HRR.out]
      clear b0_ b1_ b2_ b3_
      have oi := oim.recs; clear oim
      obtain ⟨b0_, b1_, b2_, b3_⟩ := id X1
      go_wp2_with fail
      refine (s_OpenedFor x0 x1 _ _ _ gs _ _ _ os key _ _ _ us _ _ _ vs _ hc hk.fits hu hv).mono ?_; rintro e w20 ⟨ojr, ojc, rfl, ojm, hbw20⟩
      replace hc := hc.below hbw20
      replace hu := hu.below hbw20
      replace hv := hv.below hbw20
      replace X1 := X1.below hbw20
      replace su := su.below hbw20
      replace sv := sv.below hbw20
      replace iv := iv.below hbw20
      replace sv2 := sv2.below hbw20
      replace io := io.below hbw20
      replace ip := ip.below hbw20
      replace oi := oi.below hbw20
      have Bw20 := bel_trans Bw19 hbw20
      clear hbw20
      rw [← HR.out] at ojm ⊢; rw [← HO.out] at ojm ⊢; rw [HRR.out]
      clear b0_ b1_ b2_ b3_
      have oj := ojm.recs; clear ojm
      go_wp2_with fail
      refine (l_qInts _ _ _ _ _ V.1 _ iv sv2).mono ?_; rintro e w21 ⟨rfl, hbw21⟩
      replace hc := hc.below hbw21
      replace hu := hu.below hbw21
      replace hv := hv.below hbw21
      replace X1 := X1.below hbw21
      replace su := su.below hbw21
      replace sv := sv.below hbw21
      replace iv := iv.below hbw21
      replace sv2 := sv2.below hbw21
      replace io := io.below hbw21
      replace ip := ip.below hbw21
      replace oi := oi.below hbw21
      replace oj := oj.below hbw21
      have Bw21 := bel_trans Bw20 hbw21
      clear hbw21
      clear iv
      go_wp2_with fail
      refine (l_qInts _ _ _ _ _ E.1 _ io ip).mono ?_; rintro e w22 ⟨rfl, hbw22⟩
      replace hc := hc.below hbw22
      replace hu := hu.below hbw22
      replace hv := hv.below hbw22
      replace X1 := X1.below hbw22
      replace su := su.below hbw22
      replace sv := sv.below hbw22
      replace sv2 := sv2.below hbw22
      replace io := io.below hbw22
      replace ip := ip.below hbw22
      replace oi := oi.below hbw22
      replace oj := oj.below hbw22
      have Bw22 := bel_trans Bw21 hbw22
      clear hbw22
      clear io ip
      go_wp2_with fail
      refine (l_qOpened _ _ _ _ _ R.2.2.1 _ oi oj).mono ?_; rintro e w23 ⟨rfl, hbw23⟩
      replace hc := hc.below hbw23
      replace hu := hu.below hbw23
      replace hv := hv.below hbw23
      replace X1 := X1.below hbw23
      replace su := su.below hbw23
      replace sv := sv.below hbw23
      replace sv2 := sv2.below hbw23
      replace oi := oi.below hbw23
      replace oj := oj.below hbw23
      have Bw23 := bel_trans Bw22 hbw23
      clear hbw23
      clear oj
      go_wp2
      have hMs := su.small
      have HF := Lib.hid (And.intro hc (And.intro hu (And.intro hv (And.intro X1 (And.intro su (And.intro sv (And.intro sv2 (And.intro oi Bw23))))))))
      go_loopw [287] (fun i W => ∃ j : Nat, j ≤ M ∧ i = .int .i64 j ∧ Hid (Below w23.heap.size w23 W)) (fun i _ => M - (intOf i).toNat)
      case atStart => exact ⟨0, by omega, rfl, Below.refl _ _⟩
      case round =>
        clear hc hu hv X1 su sv sv2 oi
        obtain ⟨j, hj, rfl, HB⟩ := hrel
        by_cases hlt : j < M
        · have hlti : (j : Int) < (M : Int) := by omega
          obtain ⟨c1, o1, rfl, hl1, k1⟩ := (HF.out.2.2.2.2.1.below HB.out).at hlt
          obtain ⟨c2, o2, rfl, hl2, k2⟩ := (HF.out.2.2.2.2.2.1.below HB.out).at hlt
          obtain ⟨c3, o3, rfl, hl3, k3⟩ := (HF.out.2.2.2.2.2.2.1.below HB.out).at hlt
          have e1 := xr_eq (HXX.out.1 j) (HXX.out.2.1 j)
          rw [HXX.out.2.2 j hlt] at e1
          generalize nth R.1 j = r1 at k1 e1; generalize nth R.2.1 j = r2 at k2 e1; generalize nth V.1 j = r3 at k3 e1
          go_wp2
          go_quiet (fail)
          go_wp2
          go_roundw
          case rel => exact ⟨j + 1, by omega, by go_num, (show Hid _ from below_drewN HB.out _)⟩
          case measure => simp [intOf]; omega
        · obtain rfl : j = M := by omega
          have hlti : ¬ (j : Int) < (j : Int) := by omega
          have hc := HF.out.1.below HB.out; have hu := HF.out.2.1.below HB.out; have hv := HF.out.2.2.1.below HB.out; have X1 := HF.out.2.2.2.1.below HB.out; have su := HF.out.2.2.2.2.1.below HB.out; have sv := HF.out.2.2.2.2.2.1.below HB.out; have oi := HF.out.2.2.2.2.2.2.2.1.below HB.out; have BV := bel_trans HF.out.2.2.2.2.2.2.2.2 HB.out; clear HF HB HXX
          obtain ⟨b0_, b1_, b2_, b3_⟩ := id X1
          go_wp2_with fail
          refine (i_ShareInputs x0 x1 _ _ _ gs _ _ _ os key _ _ _ us _ _ _ vs _ hc hk.fits hu hv).mono ?_; rintro e w24 ⟨pr, pc_, qr, qc, rfl, pm, qm, pp, hbw24⟩
          replace hc := hc.below hbw24
          replace hu := hu.below hbw24
          replace hv := hv.below hbw24
          replace X1 := X1.below hbw24
          replace su := su.below hbw24
          replace sv := sv.below hbw24
          replace oi := oi.below hbw24
          have Bw24 := bel_trans BV hbw24
          clear hbw24
          rw [← HS.out] at pm qm ⊢; clear pp; rw [hS2]
          clear b0_ b1_ b2_ b3_
          have p_ := pm.ints; clear pm
          have q_ := qm.ints; clear qm
          obtain ⟨b0_, b1_, b2_, b3_⟩ := id X1
          go_wp2_with fail
          refine (i_PartyWires x0 x1 _ _ _ gs _ _ _ os key 0 _ _ _ S.1 _ _ _ R.2.2.1 _ hc hk.fits (by unfold Fits; omega) p_ oi).mono ?_; rintro e w25 ⟨yr, yc, rfl, ym, hbw25⟩
          replace hc := hc.below hbw25
          replace hu := hu.below hbw25
          replace hv := hv.below hbw25
          replace X1 := X1.below hbw25
          replace su := su.below hbw25
          replace sv := sv.below hbw25
          replace oi := oi.below hbw25
          replace p_ := p_.below hbw25
          replace q_ := q_.below hbw25
          have Bw25 := bel_trans Bw24 hbw25
          clear hbw25
          rw [HH.out.2.1] at ym ⊢; dsimp only at ym ⊢; rw [HL.out.1] at ym ⊢
          clear b0_ b1_ b2_ b3_
          have y_ := ym.ints; clear ym
          obtain ⟨b0_, b1_, b2_, b3_⟩ := id X1
          go_wp2_with fail
          refine (i_PartyWires x0 x1 _ _ _ gs _ _ _ os key 1 _ _ _ S.2.1 _ _ _ R.2.2.1 _ hc hk.fits (by unfold Fits; omega) q_ oi).mono ?_; rintro e w26 ⟨zr, zc, rfl, zm, hbw26⟩
          replace hc := hc.below hbw26
          replace hu := hu.below hbw26
          replace hv := hv.below hbw26
          replace X1 := X1.below hbw26
          replace su := su.below hbw26
          replace sv := sv.below hbw26
          replace oi := oi.below hbw26
          replace p_ := p_.below hbw26
          replace q_ := q_.below hbw26
          replace y_ := y_.below hbw26
          have Bw26 := bel_trans Bw25 hbw26
          clear hbw26
          rw [HH.out.2.2] at zm ⊢; dsimp only at zm ⊢; rw [HL.out.2] at zm ⊢
          clear b0_ b1_ b2_ b3_
          have z_ := zm.ints; clear zm
          go_wp2_with fail
          refine (l_qInts _ _ _ _ _ R.1 _ y_ su).mono ?_; rintro e w27 ⟨rfl, hbw27⟩
          replace hc := hc.below hbw27
          replace hu := hu.below hbw27
          replace hv := hv.below hbw27
          replace X1 := X1.below hbw27
          replace su := su.below hbw27
          replace sv := sv.below hbw27
          replace oi := oi.below hbw27
          replace p_ := p_.below hbw27
          replace q_ := q_.below hbw27
          replace y_ := y_.below hbw27
          replace z_ := z_.below hbw27
          have Bw27 := bel_trans Bw26 hbw27
          clear hbw27
          clear y_ su
          go_wp2_with fail
          refine (l_qInts _ _ _ _ _ R.2.1 _ z_ sv).mono ?_; rintro e w28 ⟨rfl, hbw28⟩
          replace hc := hc.below hbw28
          replace hu := hu.below hbw28
          replace hv := hv.below hbw28
          replace X1 := X1.below hbw28
          replace sv := sv.below hbw28
          replace oi := oi.below hbw28
          replace p_ := p_.below hbw28
          replace q_ := q_.below hbw28
          replace z_ := z_.below hbw28
          have Bw28 := bel_trans Bw27 hbw28
          clear hbw28
          go_wp2
          go_ret
          exact ⟨by first | rfl | simp, Bw28⟩
end Go.Proofs.Ytmkcanbaleecfaa
