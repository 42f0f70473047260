/-
  Contract: a circuit is read from a text, the specification's side.
-/
import Derived.Test.YtfichpppjpgahaaGreatDoorFm10
import Derived.Test.YtfichpppjpgahaaGreatDoorFm12
import Derived.Deep.DeepCutAuto
namespace Go.Proofs.YtfichpppjpgahaaGreatDoor
open Go.RowKit
set_option linter.unusedVariables false
set_option linter.unusedSimpArgs false
set_option maxRecDepth 10000

set_option maxHeartbeats 8000000 in
theorem s_ParseArith (l : List UInt8) (w : World) (hl : l.length ≤ 10000) :
    Calls Tryz.prog 11 #[.string (B l)] w fun e w' => ∃ (c : Cand) (ok : Bool) (ga : Option Addr) (gc : Nat) (oa : Option Addr) (oc : Nat), (c, ok) = paOf (candS l (sp 10 [] l).length) l ∧ e = .returned (.tuple #[.agg #[.int .i64 c.p, .int .i64 c.i0, .int .i64 c.i1, .slice ga c.gn gc, .slice oa c.os.length oc], .bool ok]) ∧ Circ w' ga c.gn gc c.gs oa c.os.length oc c.os ∧ Below w.heap.size w w' := by
  obtain ⟨ls, hls⟩ : ∃ ls, sp 10 [] l = ls := ⟨_, rfl⟩
  have hln : ls.length ≤ l.length + 1 := by rw [← hls]; exact sp_le 10 l []
  have hlz : ∀ x ∈ ls, x.length ≤ 10000 := fun x hx => by rw [← hls] at hx; have := sp_size 10 l [] x hx; simp at this; omega
  have A0 := bel_alloc w (.cells #[.int .i64 0, .int .i64 0, .int .i64 0, .slice none 0 0, .slice none 0 0] 26)
  have RC := Lib.hid (B5w.new (w := w) (x0 := .int .i64 0) (x1 := .int .i64 0) (x2 := .int .i64 0) (x3 := .slice none 0 0) (x4 := .slice none 0 0) (t := 26))
  obtain ⟨W1, hW1⟩ : ∃ X, w.alloc (.cells #[.int .i64 0, .int .i64 0, .int .i64 0, .slice none 0 0, .slice none 0 0] 26) = X := ⟨_, rfl⟩
  have hz1 : W1.heap.size = w.heap.size + 1 := by rw [← hW1]; simp
  rw [hW1] at A0 RC
  have HA0 := Lib.hid (AnyA.new (t := 26) (x0 := 0) (x1 := 0) (x2 := 0) (CirO.nil (w := W1) (L := W1.heap.size)) (Nat.le_refl _))
  have A1 := bel_alloc W1 (.cells #[.int .i64 0, .int .i64 0, .int .i64 0, .slice none 0 0, .slice none 0 0] 26)
  have hz2 : (W1.alloc (.cells #[.int .i64 0, .int .i64 0, .int .i64 0, .slice none 0 0, .slice none 0 0] 26)).heap.size = W1.heap.size + 1 := by simp
  have HLS := Lib.hid hls; have HLZ := Lib.hid hlz; clear hls hlz
  go_enter Tryz.func11, Tryz.ntmps11
  go_wp2_with fail
  refine (s_l1Split l 10 10 rfl _ (by omega)).mono ?_
  rw [HLS.out]
  rintro e w2 ⟨la, lc, rfl, hS, hpl, hb2⟩
  rw [hz2] at hpl
  have hsz2 := hb2.size; rw [hz2] at hsz2
  have HP0 := Lib.hid (show PrS w2 W1.heap.size w2.heap.size la ls.length lc ls _ _ Cand.zero from ⟨HA0.out.below hb2, hS, (fun q e => by cases e), Nat.le_refl _, (fun b o e => by have := hpl b o e; omega)⟩)
  rw [hz1] at HP0
  have HB0 := Lib.hid (bel_trans A1 hb2)
  clear hS hpl hb2 A1 HA0 hz2
  obtain ⟨n, hn⟩ : ∃ n, ls.length = n := ⟨_, rfl⟩
  rw [hn] at hln HP0 ⊢
  have HN := Lib.hid hn; clear hn
  go_wp2
  go_loopw [17] (fun i W => ∃ (k : Nat) (v2 v3 : Value) (c : Cand), k ≤ n ∧ i = .int .i64 k ∧ c.gn ≤ 3 * k ∧ c.os.length ≤ 10001 ∧ Hid (PrS W (w.heap.size + 1) w2.heap.size la n lc ls v2 v3 c) ∧ Hid (candS l k = c) ∧ Hid (Below W1.heap.size W1 W)) (fun i _ => n - (intOf i).toNat)
  case atStart => exact ⟨0, _, _, Cand.zero, by omega, rfl, (show (0 : Nat) ≤ 0 from Nat.le_refl _), (show (0 : Nat) ≤ _ by omega), HP0, (show Hid _ from rfl), HB0⟩
  case round =>
    clear HP0 HB0
    obtain ⟨k, v2, v3, c, hk, rfl, hcg, hco, HP, HC, HB⟩ := hrel
    by_cases hlt : k < n
    · have hlti : (k : Int) < (n : Int) := by omega
      obtain ⟨wz, hwz⟩ : ∃ wz : World, wz = wr := ⟨_, rfl⟩
      subst hwz
      obtain ⟨xb, xo, x, rfl, hxl, hxc, hxg⟩ := HP.out.s.at hlt
      have hx6 : x.length ≤ 10000 := HLZ.out x (List.mem_of_getElem? hxg)
      have HXG := Lib.hid (show candS l (k + 1) = stepS c x by rw [candS, HC.out, HLS.out]; simp [hxg])
      clear hxg
      go_wp2_with fail
      refine (s_l1Split x 32 32 rfl _ (by omega)).mono ?_
      obtain ⟨ws, hws⟩ : ∃ ws, sp 32 [] x = ws := ⟨_, rfl⟩
      have hw1 : 1 ≤ ws.length := by rw [← hws]; exact sp_len 32 x []
      have hw2 : ws.length ≤ x.length + 1 := by rw [← hws]; exact sp_le 32 x []
      have hwz : ∀ y ∈ ws, y.length ≤ 10000 := fun y hy => by rw [← hws] at hy; have := sp_size 32 x [] y hy; simp at this; omega
      rw [hws]
      obtain ⟨m, hm⟩ : ∃ m, ws.length = m + 1 := ⟨ws.length - 1, by omega⟩
      rw [hm]
      rintro e w3 ⟨wa, wcp, rfl, hW, hwp, hb3⟩
      have hs3 := hb3.size
      have HP3 := Lib.hid (HP.out.below hb3); have HB3 := Lib.hid (bel_trans HB.out hb3); have HW := Lib.hid hW
      obtain ⟨wb, wo, hd, rfl, hwl, hw0, hwg⟩ := hW.at (i := 0) (by omega)
      have hwb := (hwp wb wo rfl).1
      have hcap := hW.ncap
      have HWS := Lib.hid hws; have HWZ := Lib.hid hwz; have HM := Lib.hid hm
      have hm6 : m ≤ 10000 := by omega
      have HH := Lib.hid (show ws.headD [] = hd by cases ws with | nil => simp at hwg | cons a r => simpa using hwg)
      clear hW hws hwz hm hw1 hw2 hb3 hwg hxc hwp
      rw [Nat.add_zero] at hw0
      have HR := Lib.hid (show ∀ i y, i < m → ws[i + 1]? = some y → w3.cell? ⟨wb, wo + 1 + i, none⟩ = some (.string (B y)) from fun i y hi hy => by
        obtain ⟨b9, o9, y9, e9, _, hc9, hg9⟩ := HW.out.at (i := i + 1) (by omega)
        simp only [Option.some.injEq, Addr.mk.injEq, and_true] at e9
        obtain ⟨rfl, rfl⟩ := e9
        rw [hy, Option.some.injEq] at hg9
        subst hg9
        rw [show wo + 1 + i = wo + (i + 1) by omega]; exact hc9)
      have hcapi : (1 : Int) ≤ ((m + 1 : Nat) : Int) := by omega
      go_upto_region 7 with (fail)
      go_cut [7, 8, 17, 24, 25, 26] (fun s7 s8 s17 s24 s25 s26 W => s7 = .slice (some ⟨wb, wo, none⟩) (m + 1) wcp ∧ s8 = .slice none 0 0 ∧ s17 = .int .i64 k ∧ (∃ wo' wc', s24 = .slice (some ⟨wb, wo', none⟩) m wc' ∧ Hid (∀ i y, i < m → ws[i + 1]? = some y → w3.cell? ⟨wb, wo' + i, none⟩ = some (.string (B y)))) ∧ s25 = .int .i64 m ∧ s26 = .int .i64 0 ∧ W = w3)
      case first =>
        go_wp2_with fail
        all_goals
          go_meet
          first
            | exact ⟨rfl, rfl, rfl, ⟨_, _, rfl, HR⟩, rfl, rfl, rfl⟩
            | exact ⟨by first | rfl | (congr 1; omega) | simp_all, rfl, rfl, ⟨_, _, rfl, (show Hid _ from fun i y hi _ => by omega)⟩, rfl, rfl, rfl⟩
      case rest =>
        obtain ⟨rfl, rfl, rfl, ⟨wo', wc', rfl, HR'⟩, rfl, rfl, rfl⟩ := hcut
        obtain ⟨w3, hw3⟩ : ∃ w3 : World, w3 = wc := ⟨_, rfl⟩
        subst hw3
        clear HR
        have HR := HR'; clear HR'
        obtain ⟨ns, hns⟩ : ∃ ns, ws.tail.map readL = ns := ⟨_, rfl⟩
        have hnl : ns.length = m := by rw [← hns, List.length_map, List.length_tail, HM.out]; omega
        have HNS := Lib.hid hns; clear hns
        have HFT := Lib.hid (show ∀ z ∈ ns, Fits z from fun z hz => by
          rw [← HNS.out] at hz
          obtain ⟨y, _, rfl⟩ := List.mem_map.1 hz
          have := readL_bd y
          unfold Fits; omega)
        have HNL := Lib.hid hnl; clear hnl
        go_wp2_with fail
        go_loopw [8, 26] (fun v i V => ∃ j : Nat, j ≤ m ∧ i = .int .i64 j ∧ Hid (V.ownsRow w3.heap.size 3 1 v j (ivs (ns.take j))) ∧ Hid (Below w3.heap.size w3 V)) (fun _ i _ => m - (intOf i).toNat)
        case atStart => exact ⟨0, by omega, rfl, World.ownsRow_nil _ _ _ _, Below.refl _ _⟩
        case round =>
          obtain ⟨j, hj, rfl, HV, HBV⟩ := hrel
          by_cases hltj : j < m
          · have hltij : (j : Int) < (m : Int) := by omega
            obtain ⟨y, hy⟩ : ∃ y, ws[j + 1]? = some y := ⟨_, List.getElem?_eq_getElem (by rw [HM.out]; omega)⟩
            have hyc := cell_on (HR.out j y hltj hy) HBV.out
            have hy6 : y.length ≤ 10000 := HWZ.out y (List.mem_of_getElem? hy)
            have HTK := Lib.hid (show ns.take (j + 1) = ns.take j ++ [readL y] by
              have hj1 : j < ns.length := by rw [HNL.out]; exact hltj
              rw [List.take_succ_eq_append_getElem hj1]
              congr 2
              have e : ns[j]? = some (readL y) := by rw [← HNS.out, List.getElem?_map, List.getElem?_tail, hy]; rfl
              rw [List.getElem?_eq_getElem hj1, Option.some.injEq] at e
              exact e)
            clear hy
            have hwz := HBV.out.size
            go_wp2_with (first | (go_at_call 40; refine (s_l1Read y _ (by omega)).mono ?_; rintro e w4 ⟨rfl, rfl⟩) | (at_builtin; refine wp_app _ w3.heap.size _ _ _ (_) _ _ rfl _ _ rfl rfl rfl (by first | rfl | simp) HV.out (by first | omega | (simp; omega)) (by omega) ?_; intro v9 w9 hv9 hb9 hg9))
            clear hg9
            go_roundw
            case rel => exact ⟨j + 1, by omega, by go_num, (show Hid _ from by rw [HTK.out]; exact hv9), (show Hid _ from HBV.out.trans hb9)⟩
            case measure => simp [intOf]; omega
          · obtain rfl : m = j := by omega
            have hnlm : ¬ ((m : Int) < (m : Int)) := by omega
            clear hltj
            obtain ⟨wA, hwA⟩ : ∃ wA : World, wA = wr := ⟨_, rfl⟩
            subst hwA
            have w0c := cell_on hw0 HBV.out
            have htk : ns.take m = ns := List.take_of_length_le (by rw [HNL.out]; omega)
            have HVV := HV.out
            rw [htk] at HVV
            obtain ⟨na, nc, rfl, hO⟩ := OwnI.of HVV (by omega) HFT.out
            have HO := Lib.hid hO; clear hO HVV htk HV
            have hsA := HBV.out.size
            have HP4 := Lib.hid (HP3.out.below HBV.out); have HB4 := Lib.hid (bel_trans HB3.out HBV.out)
            have HST := Lib.hid (show candS l (k + 1) = stepN c hd ns by rw [HXG.out]; unfold stepS; rw [HWS.out, HH.out, HNS.out])
            have HVB := Lib.hid (show ∀ q, v2.ownBlock = some q → w.heap.size + 1 ≤ q ∧ q < wz.heap.size from fun q hq => ownLt HP.out.a.r.og q hq)
            have hzw2 := HP.out.zz
            have hgz : w.heap.size + 1 < wz.heap.size := by omega
            clear hw0 HR HW HWZ HP HP3 HB HB3 HXG HWS HH HM hcap hcapi HBV
            obtain ⟨ga, gc, rfl⟩ := own_sl HP4.out.a.r.og
            by_cases hA3 : hd = wordA ∧ m = 3
            · obtain ⟨rfl, rfl⟩ := hA3
              have tl : (B wordA).toList = [97, 114, 105, 116, 104] := B_toList _
              obtain ⟨nb, no, rfl, hnb, k0⟩ := HO.out.ints.at (i := 0) (by omega)
              obtain ⟨b1, o1, e1, _, k1⟩ := HO.out.ints.at (i := 1) (by omega); simp only [Option.some.injEq, Addr.mk.injEq, and_true] at e1; obtain ⟨rfl, rfl⟩ := e1
              obtain ⟨b2, o2, e2, _, k2⟩ := HO.out.ints.at (i := 2) (by omega); simp only [Option.some.injEq, Addr.mk.injEq, and_true] at e2; obtain ⟨rfl, rfl⟩ := e2
              rw [Nat.add_zero] at k0
              have hnp := (World.ownsRow.lt HO.out.own nb rfl).1
              have hne : nb ≠ w.heap.size + 1 := by omega
              obtain ⟨⟨c0, c1, c2, c3, c4⟩, f0, f1, f2, f3, f4⟩ := id HP4.out.a.box
              have HP9 := Lib.hid (HP4.out.set3 (nth ns 0) (nth ns 1) (nth ns 2))
              have HB9 := Lib.hid ((((HB4.out.setCell (p := ⟨w.heap.size + 1, 0, none⟩) (by simp only []; omega) (.int .i64 (nth ns 0))).setCell (p := ⟨w.heap.size + 1, 1, none⟩) (by simp only []; omega) (.int .i64 (nth ns 1))).setCell (p := ⟨w.heap.size + 1, 2, none⟩) (by simp only []; omega) (.int .i64 (nth ns 2))))
              have HC9 := Lib.hid (show candS l (k + 1) = { c with p := nth ns 0, i0 := nth ns 1, i1 := nth ns 2 } by rw [HST.out]; unfold stepN; rw [if_pos ⟨rfl, HNL.out⟩])
              go_wp2
              go_roundw
              case rel => exact ⟨k + 1, _, _, { c with p := nth ns 0, i0 := nth ns 1, i1 := nth ns 2 }, by omega, by go_num, (show c.gn ≤ _ by omega), hco, HP9, HC9, HB9⟩
              case measure => simp [intOf]; omega
            · go_upto_region 12 with (fail)
              go_cut [7, 8, 17, 36] (fun s7 s8 s17 s36 W => s7 = .slice (some ⟨wb, wo, none⟩) (m + 1) wcp ∧ s8 = .slice na m nc ∧ s17 = .int .i64 k ∧ s36 = .bool false ∧ W = wA)
              case first =>
                by_cases hA : hd = wordA
                · have hm3 : ((m : Int) == 3) = false := by simp only [beq_eq_false_iff_ne, ne_eq]; intro q; exact hA3 ⟨hA, by omega⟩
                  subst hA
                  have tl : (B wordA).toList = [97, 114, 105, 116, 104] := B_toList _
                  go_wp2_with fail
                  go_meet
                  exact ⟨rfl, rfl, rfl, rfl, rfl⟩
                · have tl : ((B hd).toList == [97, 114, 105, 116, 104]) = false := B_ne hA
                  go_wp2_with fail
                  go_meet
                  exact ⟨rfl, rfl, rfl, rfl, rfl⟩
              case rest =>
                obtain ⟨rfl, rfl, rfl, rfl, rfl⟩ := hcut
                obtain ⟨wA, hwA⟩ : ∃ wA : World, wA = wc := ⟨_, rfl⟩
                subst hwA
                have hA4 : ¬ (hd = wordA ∧ ns.length = 3) := fun q => hA3 ⟨q.1, by have := HNL.out; omega⟩
                have HA5 := Lib.hid hA4; clear hA4 hA3
                by_cases hO : hd = wordO
                · subst hO
                  have tl : (B wordO).toList = [111, 117, 116, 115] := B_toList _
                  obtain ⟨⟨c0, c1, c2, c3, c4⟩, f0, f1, f2, f3, f4⟩ := id HP4.out.a.box
                  have HP9 := Lib.hid (HP4.out.outs (v9 := .slice na m nc) (os9 := ns) (m := m) (ownsRow_base HO.out.own (by omega)) HNL.out.symm (fun q hq e => by have h1 := HVB.out q hq; have h2 := (World.ownsRow.lt HO.out.own q e).1; omega) (fun e => by have h2 := (World.ownsRow.lt HO.out.own _ e).1; omega) HFT)
                  have HB9 := Lib.hid (HB4.out.setCell (p := ⟨w.heap.size + 1, 4, none⟩) (by simp only []; omega) (.slice na m nc))
                  have HC9 := Lib.hid (show candS l (k + 1) = { c with os := ns } by rw [HST.out]; unfold stepN; rw [if_neg HA5.out, if_pos rfl])
                  go_wp2
                  go_roundw
                  case rel => exact ⟨k + 1, _, _, { c with os := ns }, by omega, by go_num, (show c.gn ≤ _ by omega), (show ns.length ≤ _ by rw [HNL.out]; omega), HP9, HC9, HB9⟩
                  case measure => simp [intOf]; omega
                · have tO : ((B hd).toList == [111, 117, 116, 115]) = false := B_ne hO
                  have HO2 := Lib.hid hO; clear hO
                  by_cases hC1 : hd = wordK 3 ∧ m = 1
                  · obtain ⟨rfl, rfl⟩ := hC1
                    have tl : (B (wordK 3)).toList = [99, 111, 110, 115, 116] := B_toList _
                    obtain ⟨nb, no, rfl, hnb, k0⟩ := HO.out.ints.at (i := 0) (by omega)
                    rw [Nat.add_zero] at k0
                    have hF0 := HFT.out _ (nth_mem (xs := ns) (i := 0) (by rw [HNL.out]; omega))
                    obtain ⟨⟨c0, c1, c2, c3, c4⟩, f0, f1, f2, f3, f4⟩ := id HP4.out.a.box
                    have q3 := cell_on c3 (bel_drew _); have k0d := cell_on k0 (bel_drew _)
                    have HPa := Lib.hid (HP4.out.below (bel_alloc wA (.cells #[.int .i64 3, .int .i64 (nth ns 0), .int .i64 0] 65)))
                    have HPd := Lib.hid (HPa.out.below (bel_drew _))
                    have q3a := HPa.out.a.box.r.c3; have k0a := cell_on k0 (bel_alloc wA (.cells #[.int .i64 3, .int .i64 (nth ns 0), .int .i64 0] 65))
                    go_wp2_with fail
                    go_region_law (refine step_appGX (w.heap.size + 1) c.gn _ c.gs 3 (nth ns 0) 0 _ (by rfl) _ _ (by rfl) (by rfl) (by rfl) (by simp [World.cell?_alloc_at]) (by simp [World.cell?_alloc_at]) (by simp [World.cell?_alloc_at]) HPd.out.a.r.og (by first | omega | (have := HPd.out.a.lt; omega)) (by omega) ?_; intro v9 w9 hv9 hb9 hg9 ho9; obtain ⟨r9, k9, rfl⟩ := own_sl hv9; have hB9 := HPd.out.a.box.grown hg9 (fun e => HPd.out.a.d2 e.symm); have k3 := hB9.r.c3; have kf := hB9.f3)
                    all_goals
                      have HP9 := Lib.hid (HPd.out.gates hv9 hg9 hb9.size ho9 (by unfold Fits; omega) hF0 (by unfold Fits; omega))
                      have HB9 := Lib.hid (((bel_trans HB4.out (bel_trans (bel_alloc wA (.cells #[.int .i64 3, .int .i64 (nth ns 0), .int .i64 0] 65)) (bel_drew _))).trans (hb9.mono (Nat.le_of_eq hz1))).setCell (p := ⟨w.heap.size + 1, 3, none⟩) (by simp only []; omega) (.slice r9 (c.gn + 1) k9))
                      have HC9 := Lib.hid (show candS l (k + 1) = c.add 3 (nth ns 0) 0 by rw [HST.out]; unfold stepN; rw [if_neg HA5.out, if_neg HO2.out, if_pos ⟨rfl, HNL.out⟩])
                      go_wp2
                      go_roundw
                      case rel => exact ⟨k + 1, _, _, (c.add 3 (nth ns 0) 0), by omega, by go_num, (show c.gn + 1 ≤ _ by omega), hco, HP9, HC9, HB9⟩
                      case measure => simp [intOf]; omega
                  · go_upto_region 18 with (fail)
                    go_cut [7, 8, 17, 65] (fun s7 s8 s17 s65 W => s7 = .slice (some ⟨wb, wo, none⟩) (m + 1) wcp ∧ s8 = .slice na m nc ∧ s17 = .int .i64 k ∧ s65 = .bool false ∧ W = wA)
                    case first =>
                      by_cases hA : hd = wordK 3
                      · have hm1 : ((m : Int) == 1) = false := by simp only [beq_eq_false_iff_ne, ne_eq]; intro q; exact hC1 ⟨hA, by omega⟩
                        subst hA
                        have tl : (B (wordK 3)).toList = [99, 111, 110, 115, 116] := B_toList _
                        go_wp2_with fail
                        go_meet
                        exact ⟨rfl, rfl, rfl, rfl, rfl⟩
                      · have tl : ((B hd).toList == [99, 111, 110, 115, 116]) = false := B_ne hA
                        go_wp2_with fail
                        go_meet
                        exact ⟨rfl, rfl, rfl, rfl, rfl⟩
                    case rest =>
                      obtain ⟨rfl, rfl, rfl, rfl, rfl⟩ := hcut
                      obtain ⟨wA, hwA⟩ : ∃ wA : World, wA = wc := ⟨_, rfl⟩
                      subst hwA
                      have hC4 : ¬ (hd = wordK 3 ∧ ns.length = 1) := fun q => hC1 ⟨q.1, by have := HNL.out; omega⟩
                      have HC5 := Lib.hid hC4; clear hC4 hC1
                      by_cases hm2 : m = 2
                      · subst hm2
                        obtain ⟨nb, no, rfl, hnb, k0⟩ := HO.out.ints.at (i := 0) (by omega)
                        obtain ⟨b1, o1, e1, _, k1⟩ := HO.out.ints.at (i := 1) (by omega); simp only [Option.some.injEq, Addr.mk.injEq, and_true] at e1; obtain ⟨rfl, rfl⟩ := e1
                        rw [Nat.add_zero] at k0
                        have hF0 := HFT.out _ (nth_mem (xs := ns) (i := 0) (by rw [HNL.out]; omega)); have hF1 := HFT.out _ (nth_mem (xs := ns) (i := 1) (by rw [HNL.out]; omega))
                        have hnp := World.ownsRow.lt HO.out.own nb rfl
                        have A8 := bel_alloc wA (.cells #[.string ⟨#[97, 100, 100]⟩, .string ⟨#[109, 117, 108]⟩, .string ⟨#[115, 99, 97, 108, 101]⟩] 9)
                        have hs8 : (wA.alloc (.cells #[.string ⟨#[97, 100, 100]⟩, .string ⟨#[109, 117, 108]⟩, .string ⟨#[115, 99, 97, 108, 101]⟩] 9)).heap.size = wA.heap.size + 1 := by simp
                        have HI := Lib.hid (show InS (wA.alloc (.cells #[.string ⟨#[97, 100, 100]⟩, .string ⟨#[109, 117, 108]⟩, .string ⟨#[115, 99, 97, 108, 101]⟩] 9)) (w.heap.size + 1) w2.heap.size _ n lc ls _ v3 c wz.heap.size (wA.heap.size + 1) wb wo nb no wA.heap.size hd (nth ns 0) (nth ns 1) from ⟨HP4.out.below A8, cell_on w0c A8, cell_on k0 A8, cell_on k1 A8, World.cell?_alloc_at _ _ _ _ rfl, World.cell?_alloc_at _ _ _ _ rfl, World.cell?_alloc_at _ _ _ _ rfl, (fun q hq => Or.inl (HVB.out q hq).2), by omega, ⟨⟨hgz, hwb, by omega⟩, ⟨by omega, by omega⟩, by omega, by omega⟩⟩)
                        have HB8 := Lib.hid (bel_trans HB4.out A8); clear A8 hs8 k0 k1
                        go_wp2
                        go_loopw [90] (fun i W => ∃ (j : Nat) (v2 : Value), j ≤ 3 ∧ i = .int .i64 j ∧ (addM hd (nth ns 0) (nth ns 1) c j).gn ≤ c.gn + j ∧ Hid (InS W (w.heap.size + 1) w2.heap.size (some ⟨xb, xo, none⟩) n lc ls v2 v3 (addM hd (nth ns 0) (nth ns 1) c j) wz.heap.size (wA.heap.size + 1) wb wo nb no wA.heap.size hd (nth ns 0) (nth ns 1)) ∧ Hid (Below W1.heap.size W1 W)) (fun i _ => 3 - (intOf i).toNat)
                        case atStart => exact ⟨0, _, by omega, rfl, by show c.gn ≤ _; omega, HI, HB8⟩
                        case round =>
                          clear HI HB8
                          obtain ⟨j, v2, hj, rfl, hjg, HI, HB8⟩ := hrel
                          obtain ⟨⟨i1, i2, _, _, _⟩, i3, i4, i5, i6, i7, i8, _, _, _⟩ := id HI.out
                          obtain ⟨wB, hwB⟩ : ∃ wB : World, wB = wr := ⟨_, rfl⟩
                          subst hwB
                          clear i1 i2
                          rcases (show j = 0 ∨ j = 1 ∨ j = 2 ∨ j = 3 by omega) with rfl | rfl | rfl | rfl
                          · have HAD := Lib.hid (show addM hd (nth ns 0) (nth ns 1) c (0 + 1) = if hd = wordK 0 then (addM hd (nth ns 0) (nth ns 1) c 0).add 0 (nth ns 0) (nth ns 1) else addM hd (nth ns 0) (nth ns 1) c 0 from rfl)
                            generalize addM hd (nth ns 0) (nth ns 1) c 0 = cj at HI HAD hjg
                            obtain ⟨cn, hcn⟩ : ∃ cn, addM hd (nth ns 0) (nth ns 1) c (0 + 1) = cn := ⟨_, rfl⟩
                            rw [hcn] at HAD
                            by_cases hw : hd = wordK 0
                            · have tl : ((B hd).toList == [97, 100, 100]) = true := by rw [B_toList, hw]; rfl
                              have HAE := Lib.hid (show cn = cj.add 0 (nth ns 0) (nth ns 1) by rw [HAD.out, if_pos hw])
                              clear hw
                              obtain ⟨ga, gc, rfl⟩ := own_sl HI.out.pr.a.r.og
                              have q3 := cell_on HI.out.pr.a.box.r.c3 (bel_drew _); have q4 := cell_on i4 (bel_drew _); have q5 := cell_on i5 (bel_drew _)
                              have HIa := Lib.hid (HI.out.below (bel_alloc wB (.cells #[.int .i64 0, .int .i64 (nth ns 0), .int .i64 (nth ns 1)] 65)))
                              have HId := Lib.hid (HIa.out.below (bel_drew _)); have q3a := HIa.out.pr.a.box.r.c3; have q4a := HIa.out.a0; have q5a := HIa.out.a1
                              go_wp2_with fail
                              go_region_law (refine step_appGX (w.heap.size + 1) cj.gn _ cj.gs 0 (nth ns 0) (nth ns 1) _ (by rfl) _ _ (by rfl) (by rfl) (by rfl) (by simp [World.cell?_alloc_at]) (by simp [World.cell?_alloc_at]) (by simp [World.cell?_alloc_at]) HId.out.pr.a.r.og (by first | omega | (have := HId.out.pr.a.lt; omega)) (by omega) ?_; intro v9 w9 hv9 hb9 hg9 ho9; obtain ⟨r9, k9, rfl⟩ := own_sl hv9; have hB9 := HId.out.pr.a.box.grown hg9 (fun e => HId.out.pr.a.d2 e.symm); have k3 := hB9.r.c3; have kf := hB9.f3)
                              all_goals
                                have HI9 := Lib.hid (HId.out.app hv9 hg9 hb9.size ho9 (by unfold Fits; omega) hF0 hF1)
                                have HB9 := Lib.hid (((bel_trans HB8.out (bel_trans (bel_alloc wB (.cells #[.int .i64 0, .int .i64 (nth ns 0), .int .i64 (nth ns 1)] 65)) (bel_drew _))).trans (hb9.mono (Nat.le_of_eq hz1))).setCell (p := ⟨w.heap.size + 1, 3, none⟩) (by simp only []; omega) (.slice r9 (cj.gn + 1) k9))
                                rw [← HAE.out] at HI9
                                go_wp2
                                go_roundw
                                case rel => exact ⟨1, _, by omega, by first | rfl | go_num, by rw [hcn, HAE.out]; show cj.gn + 1 ≤ _; omega, (show Hid _ from by rw [hcn]; exact HI9.out), HB9⟩
                                case measure => simp [intOf]
                            · have tl : ((B hd).toList == [97, 100, 100]) = false := B_ne hw
                              have HAE := Lib.hid (show cn = cj by rw [HAD.out, if_neg hw])
                              go_wp2
                              go_roundw
                              case rel => exact ⟨1, _, by omega, by first | rfl | go_num, by rw [hcn, HAE.out]; omega, (show Hid _ from by rw [hcn, HAE.out]; exact HI.out), HB8⟩
                              case measure => simp [intOf]
                          · have HAD := Lib.hid (show addM hd (nth ns 0) (nth ns 1) c (1 + 1) = if hd = wordK 1 then (addM hd (nth ns 0) (nth ns 1) c 1).add 1 (nth ns 0) (nth ns 1) else addM hd (nth ns 0) (nth ns 1) c 1 from rfl)
                            generalize addM hd (nth ns 0) (nth ns 1) c 1 = cj at HI HAD hjg
                            obtain ⟨cn, hcn⟩ : ∃ cn, addM hd (nth ns 0) (nth ns 1) c (1 + 1) = cn := ⟨_, rfl⟩
                            rw [hcn] at HAD
                            by_cases hw : hd = wordK 1
                            · have tl : ((B hd).toList == [109, 117, 108]) = true := by rw [B_toList, hw]; rfl
                              have HAE := Lib.hid (show cn = cj.add 1 (nth ns 0) (nth ns 1) by rw [HAD.out, if_pos hw])
                              clear hw
                              obtain ⟨ga, gc, rfl⟩ := own_sl HI.out.pr.a.r.og
                              have q3 := cell_on HI.out.pr.a.box.r.c3 (bel_drew _); have q4 := cell_on i4 (bel_drew _); have q5 := cell_on i5 (bel_drew _)
                              have HIa := Lib.hid (HI.out.below (bel_alloc wB (.cells #[.int .i64 1, .int .i64 (nth ns 0), .int .i64 (nth ns 1)] 65)))
                              have HId := Lib.hid (HIa.out.below (bel_drew _)); have q3a := HIa.out.pr.a.box.r.c3; have q4a := HIa.out.a0; have q5a := HIa.out.a1
                              go_wp2_with fail
                              go_region_law (refine step_appGX (w.heap.size + 1) cj.gn _ cj.gs 1 (nth ns 0) (nth ns 1) _ (by rfl) _ _ (by rfl) (by rfl) (by rfl) (by simp [World.cell?_alloc_at]) (by simp [World.cell?_alloc_at]) (by simp [World.cell?_alloc_at]) HId.out.pr.a.r.og (by first | omega | (have := HId.out.pr.a.lt; omega)) (by omega) ?_; intro v9 w9 hv9 hb9 hg9 ho9; obtain ⟨r9, k9, rfl⟩ := own_sl hv9; have hB9 := HId.out.pr.a.box.grown hg9 (fun e => HId.out.pr.a.d2 e.symm); have k3 := hB9.r.c3; have kf := hB9.f3)
                              all_goals
                                have HI9 := Lib.hid (HId.out.app hv9 hg9 hb9.size ho9 (by unfold Fits; omega) hF0 hF1)
                                have HB9 := Lib.hid (((bel_trans HB8.out (bel_trans (bel_alloc wB (.cells #[.int .i64 1, .int .i64 (nth ns 0), .int .i64 (nth ns 1)] 65)) (bel_drew _))).trans (hb9.mono (Nat.le_of_eq hz1))).setCell (p := ⟨w.heap.size + 1, 3, none⟩) (by simp only []; omega) (.slice r9 (cj.gn + 1) k9))
                                rw [← HAE.out] at HI9
                                go_wp2
                                go_roundw
                                case rel => exact ⟨2, _, by omega, by first | rfl | go_num, by rw [hcn, HAE.out]; show cj.gn + 1 ≤ _; omega, (show Hid _ from by rw [hcn]; exact HI9.out), HB9⟩
                                case measure => simp [intOf]
                            · have tl : ((B hd).toList == [109, 117, 108]) = false := B_ne hw
                              have HAE := Lib.hid (show cn = cj by rw [HAD.out, if_neg hw])
                              go_wp2
                              go_roundw
                              case rel => exact ⟨2, _, by omega, by first | rfl | go_num, by rw [hcn, HAE.out]; omega, (show Hid _ from by rw [hcn, HAE.out]; exact HI.out), HB8⟩
                              case measure => simp [intOf]
                          · have HAD := Lib.hid (show addM hd (nth ns 0) (nth ns 1) c (2 + 1) = if hd = wordK 2 then (addM hd (nth ns 0) (nth ns 1) c 2).add 2 (nth ns 0) (nth ns 1) else addM hd (nth ns 0) (nth ns 1) c 2 from rfl)
                            generalize addM hd (nth ns 0) (nth ns 1) c 2 = cj at HI HAD hjg
                            obtain ⟨cn, hcn⟩ : ∃ cn, addM hd (nth ns 0) (nth ns 1) c (2 + 1) = cn := ⟨_, rfl⟩
                            rw [hcn] at HAD
                            by_cases hw : hd = wordK 2
                            · have tl : ((B hd).toList == [115, 99, 97, 108, 101]) = true := by rw [B_toList, hw]; rfl
                              have HAE := Lib.hid (show cn = cj.add 2 (nth ns 0) (nth ns 1) by rw [HAD.out, if_pos hw])
                              clear hw
                              obtain ⟨ga, gc, rfl⟩ := own_sl HI.out.pr.a.r.og
                              have q3 := cell_on HI.out.pr.a.box.r.c3 (bel_drew _); have q4 := cell_on i4 (bel_drew _); have q5 := cell_on i5 (bel_drew _)
                              have HIa := Lib.hid (HI.out.below (bel_alloc wB (.cells #[.int .i64 2, .int .i64 (nth ns 0), .int .i64 (nth ns 1)] 65)))
                              have HId := Lib.hid (HIa.out.below (bel_drew _)); have q3a := HIa.out.pr.a.box.r.c3; have q4a := HIa.out.a0; have q5a := HIa.out.a1
                              go_wp2_with fail
                              go_region_law (refine step_appGX (w.heap.size + 1) cj.gn _ cj.gs 2 (nth ns 0) (nth ns 1) _ (by rfl) _ _ (by rfl) (by rfl) (by rfl) (by simp [World.cell?_alloc_at]) (by simp [World.cell?_alloc_at]) (by simp [World.cell?_alloc_at]) HId.out.pr.a.r.og (by first | omega | (have := HId.out.pr.a.lt; omega)) (by omega) ?_; intro v9 w9 hv9 hb9 hg9 ho9; obtain ⟨r9, k9, rfl⟩ := own_sl hv9; have hB9 := HId.out.pr.a.box.grown hg9 (fun e => HId.out.pr.a.d2 e.symm); have k3 := hB9.r.c3; have kf := hB9.f3)
                              all_goals
                                have HI9 := Lib.hid (HId.out.app hv9 hg9 hb9.size ho9 (by unfold Fits; omega) hF0 hF1)
                                have HB9 := Lib.hid (((bel_trans HB8.out (bel_trans (bel_alloc wB (.cells #[.int .i64 2, .int .i64 (nth ns 0), .int .i64 (nth ns 1)] 65)) (bel_drew _))).trans (hb9.mono (Nat.le_of_eq hz1))).setCell (p := ⟨w.heap.size + 1, 3, none⟩) (by simp only []; omega) (.slice r9 (cj.gn + 1) k9))
                                rw [← HAE.out] at HI9
                                go_wp2
                                go_roundw
                                case rel => exact ⟨3, _, by omega, by first | rfl | go_num, by rw [hcn, HAE.out]; show cj.gn + 1 ≤ _; omega, (show Hid _ from by rw [hcn]; exact HI9.out), HB9⟩
                                case measure => simp [intOf]
                            · have tl : ((B hd).toList == [115, 99, 97, 108, 101]) = false := B_ne hw
                              have HAE := Lib.hid (show cn = cj by rw [HAD.out, if_neg hw])
                              go_wp2
                              go_roundw
                              case rel => exact ⟨3, _, by omega, by first | rfl | go_num, by rw [hcn, HAE.out]; omega, (show Hid _ from by rw [hcn, HAE.out]; exact HI.out), HB8⟩
                              case measure => simp [intOf]
                          · have HC9 := Lib.hid (show candS l (k + 1) = addM hd (nth ns 0) (nth ns 1) c 3 by rw [HST.out]; unfold stepN; rw [if_neg HA5.out, if_neg HO2.out, if_neg HC5.out, if_pos HNL.out])
                            have HP9 := Lib.hid HI.out.pr
                            go_wp2
                            go_roundw
                            case rel => exact ⟨k + 1, _, _, (addM hd (nth ns 0) (nth ns 1) c 3), by omega, by go_num, by omega, (by rw [addM_os]; exact hco), HP9, HC9, HB8⟩
                            case measure => simp [intOf]; omega
                      · have hm2i : ((m : Int) == 2) = false := by simp only [beq_eq_false_iff_ne, ne_eq]; omega
                        have HC9 := Lib.hid (show candS l (k + 1) = c by rw [HST.out]; unfold stepN; rw [if_neg HA5.out, if_neg HO2.out, if_neg HC5.out, if_neg (by rw [HNL.out]; exact hm2)])
                        go_wp2
                        go_roundw
                        case rel => exact ⟨k + 1, _, _, c, by omega, by go_num, by omega, hco, HP4, HC9, HB4⟩
                        case measure => simp [intOf]; omega
    · obtain rfl : n = k := by omega
      have hnl : ¬ ((n : Int) < (n : Int)) := by omega
      clear hlt hk
      obtain ⟨wE, hwE⟩ : ∃ wE : World, wE = wr := ⟨_, rfl⟩
      subst hwE
      obtain ⟨ga, gc, rfl⟩ := own_sl HP.out.a.r.og; obtain ⟨oa, oc, rfl⟩ := own_sl HP.out.a.r.oo
      obtain ⟨p, i0, i1, gs, gn, os⟩ := c
      have hcg : gn ≤ 3 * n := hcg; have hco : os.length ≤ 10001 := hco
      have HA := Lib.hid (show AnyA wE (w.heap.size + 1) (w.heap.size + 1) p i0 i1 (.slice ga gn gc) gn gs (.slice oa os.length oc) os.length os from HP.out.a)
      obtain ⟨on, hon⟩ : ∃ on, os.length = on := ⟨_, rfl⟩
      rw [hon] at HA hco
      have HON := Lib.hid hon; clear hon HP
      obtain ⟨c0, c1, c2, c3, c4⟩ := id HA.out.box.r
      have hM := HA.out.r.circL (by omega) (by omega)
      have HC9 := Lib.hid (show candS l (sp 10 [] l).length = ⟨p, i0, i1, gs, gn, os⟩ by rw [HLS.out, HN.out]; exact HC.out)
      go_wp2_with fail
      refine (s_arGood p i0 i1 ga gn gc gs oa on oc os _ hM).mono ?_; rintro e w5 ⟨rfl, hb5⟩
      have HA5 := Lib.hid (HA.out.below hb5); have HB5 := Lib.hid (bel_trans HB.out hb5); have HM5 := Lib.hid (hM.below hb5)
      clear c0 c1 c2 c3 c4 hM hb5 HA HB
      obtain ⟨c0, c1, c2, c3, c4⟩ := id HA5.out.box.r
      cases hAC : arC p i0 i1 gs gn os with
      | false =>
        have HPA := Lib.hid (show (Cand.zero, false) = paOf (candS l (sp 10 [] l).length) l by rw [HC9.out]; unfold paOf pick2; rw [if_neg (by simp [hAC])])
        clear hAC
        have R5 := RC.out.on HB5.out
        have E5 := Lib.hid (R5.set (.int .i64 0) (.int .i64 0) (.int .i64 0) (.slice none 0 0) (.slice none 0 0))
        obtain ⟨⟨r0, r1, r2, r3, r4⟩, f0, f1, f2, f3, f4⟩ := R5
        go_wp2
        obtain ⟨E0, E1, E2, E3, E4⟩ := id E5.out.r
        exact bodyPost_ret (v := .tuple #[.agg #[.int .i64 0, .int .i64 0, .int .i64 0, .slice none 0 0, .slice none 0 0], .bool false]) (by simp [results, Tryz.results11, go_sem, E0, E1, E2, E3, E4]) rfl ⟨Cand.zero, false, none, 0, none, 0, HPA.out, rfl, (CirO.nil (L := 0)).circL (by omega) (by omega), bel_set5 (bel_trans A0 HB5.out) (Nat.le_refl _) _ _ _ _ _⟩
      | true =>
        obtain ⟨hp, h0, h1, hg, ho, hgn, hos⟩ := arC_ok hAC
        have hos2 : on ≤ 20 := by rw [← HON.out]; exact hos
        have HAC := Lib.hid hAC; clear hAC
        go_wp2_with fail
        refine (s_arText p i0 i1 ga gn gc gs oa on oc os _ HM5.out (by omega) (by omega) (by omega) hg ho (by omega) (by omega)).mono ?_; rintro e w6 ⟨rfl, hb6⟩
        have HA6 := Lib.hid (HA5.out.below hb6); have HB6 := Lib.hid (bel_trans HB5.out hb6); have HM6 := Lib.hid (HM5.out.below hb6)
        clear c0 c1 c2 c3 c4 hb6 HA5 HB5 HM5 hg ho
        obtain ⟨c0, c1, c2, c3, c4⟩ := id HA6.out.box.r
        by_cases hT : textL p i0 i1 gs gn os = l
        · have tl : ((B (textL p i0 i1 gs gn os)).toList == (B l).toList) = true := by rw [hT]; simp
          have HPA := Lib.hid (show ((⟨p, i0, i1, gs, gn, os⟩ : Cand), true) = paOf (candS l (sp 10 [] l).length) l by rw [HC9.out]; unfold paOf pick2; rw [if_pos (by simp [HAC.out, hT])])
          clear hT
          have R5 := RC.out.on HB6.out
          have E5 := Lib.hid (R5.set (.int .i64 p) (.int .i64 i0) (.int .i64 i1) (.slice ga gn gc) (.slice oa on oc))
          obtain ⟨⟨r0, r1, r2, r3, r4⟩, f0, f1, f2, f3, f4⟩ := R5
          have F1 := Lib.hid ((HA6.out.r.bex (Bex.only5 (g := w.heap.size) _ (.int .i64 p) (.int .i64 i0) (.int .i64 i1) (.slice ga gn gc) (.slice oa on oc)) (by omega)).circL (by omega) (by omega))
          have F4 := Lib.hid (bel_set5 (bel_trans A0 HB6.out) (Nat.le_refl _) (.int .i64 p) (.int .i64 i0) (.int .i64 i1) (.slice ga gn gc) (.slice oa on oc))
          go_wp2
          obtain ⟨E0, E1, E2, E3, E4⟩ := id E5.out.r
          exact bodyPost_ret (v := .tuple #[.agg #[.int .i64 p, .int .i64 i0, .int .i64 i1, .slice ga gn gc, .slice oa on oc], .bool true]) (by simp [results, Tryz.results11, go_sem, E0, E1, E2, E3, E4]) rfl ⟨⟨p, i0, i1, gs, gn, os⟩, true, ga, gc, oa, oc, HPA.out, by rw [HON.out], (by rw [HON.out]; exact F1.out), F4.out⟩
        · have tl : ((B (textL p i0 i1 gs gn os)).toList == (B l).toList) = false := by rw [B_toList, B_toList]; simpa using hT
          have HPA := Lib.hid (show (Cand.zero, false) = paOf (candS l (sp 10 [] l).length) l by rw [HC9.out]; unfold paOf pick2; rw [if_neg (by simp [hT])])
          clear hT
          have R5 := RC.out.on HB6.out
          have E5 := Lib.hid (R5.set (.int .i64 0) (.int .i64 0) (.int .i64 0) (.slice none 0 0) (.slice none 0 0))
          obtain ⟨⟨r0, r1, r2, r3, r4⟩, f0, f1, f2, f3, f4⟩ := R5
          go_wp2
          obtain ⟨E0, E1, E2, E3, E4⟩ := id E5.out.r
          exact bodyPost_ret (v := .tuple #[.agg #[.int .i64 0, .int .i64 0, .int .i64 0, .slice none 0 0, .slice none 0 0], .bool false]) (by simp [results, Tryz.results11, go_sem, E0, E1, E2, E3, E4]) rfl ⟨Cand.zero, false, none, 0, none, 0, HPA.out, rfl, (CirO.nil (L := 0)).circL (by omega) (by omega), bel_set5 (bel_trans A0 HB6.out) (Nat.le_refl _) _ _ _ _ _⟩
end Go.Proofs.YtfichpppjpgahaaGreatDoor
