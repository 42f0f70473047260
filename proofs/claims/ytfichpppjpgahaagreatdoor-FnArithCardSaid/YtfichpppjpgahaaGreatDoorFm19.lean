/-
  Contract over the library: which of the four words it is.
  Contract: a circuit is read from a text, the program's side.
-/
import Derived.Test.YtfichpppjpgahaaGreatDoorFm18
import Derived.Test.YtfichpppjpgahaaGreatDoorFm12
import Derived.Test.YtfichpppjpgahaaGreatDoorFm6
import Derived.Deep.DeepCutAuto
namespace Go.Proofs.YtfichpppjpgahaaGreatDoor
open Go.RowKit
set_option linter.unusedVariables false
set_option linter.unusedSimpArgs false
set_option maxRecDepth 10000

/-- Which of the four words. -/
def kindI (h : List UInt8) : Int := if h = wordK 0 then 0 else if h = wordK 1 then 1 else if h = wordK 2 then 2 else if h = wordK 3 then 3 else -1
theorem kindI_bd (h : List UInt8) : -1 ≤ kindI h ∧ kindI h ≤ 3 := by unfold kindI; split <;> (try split) <;> (try split) <;> (try split) <;> omega
theorem B_iff {a b : List UInt8} : B a = B b ↔ a = b := ⟨B_inj, fun e => by rw [e]⟩
theorem idx_four (h : List UInt8) : Lib.idxOfS [B (wordK 0), B (wordK 1), B (wordK 2), B (wordK 3)] (B h) = kindI h := by
  have e : ∀ a, (B a = B h) = (h = a) := fun a => by rw [B_iff]; exact propext ⟨Eq.symm, Eq.symm⟩
  unfold kindI Lib.idxOfS
  simp only [Lib.idxFromS, e]
  split
  · rfl
  · split
    · rfl
    · split
      · rfl
      · split <;> rfl
theorem addW_kind {h : List UInt8} (hk : 0 ≤ kindI h) (a b : Int) (c : Cand) : addW h a b c = c.add (kindI h) a b := by
  unfold kindI at hk ⊢
  unfold addW
  split
  · rfl
  · rename_i h0
    rw [if_neg h0] at hk
    split
    · rfl
    · rename_i h1
      rw [if_neg h1] at hk
      split
      · rfl
      · rename_i h2
        rw [if_neg h2] at hk
        split
        · rfl
        · rename_i h3
          rw [if_neg h3] at hk
          omega
theorem addW_none {h : List UInt8} (hk : ¬ 0 ≤ kindI h) (a b : Int) (c : Cand) : addW h a b c = c := by
  unfold kindI at hk
  unfold addW
  split
  · rename_i h0; rw [if_pos h0] at hk; omega
  · rename_i h0; rw [if_neg h0] at hk
    split
    · rename_i h1; rw [if_pos h1] at hk; omega
    · rename_i h1; rw [if_neg h1] at hk
      split
      · rename_i h2; rw [if_pos h2] at hk; omega
      · rename_i h2; rw [if_neg h2] at hk
        split
        · rename_i h3; rw [if_pos h3] at hk; omega
        · rfl
theorem i_IndexW (h : List UInt8) (w : World) (g : GL w) :
    Calls Tryz.prog 38 #[.slice (some ⟨0, 0, none⟩) 4 4, .string (B h)] w fun e w' => e = .returned (.int .i64 (kindI h)) ∧ w' = w := by
  have k := Tryz.slices_Index_string 0 0 4 4 [B (wordK 0), B (wordK 1), B (wordK 2), B (wordK 3)] (B h) w (by simp) (by omega) (fun j hj => by
    simp only [List.length_cons, List.length_nil] at hj
    rw [Nat.zero_add, g.wd j (by omega)]
    rcases (show j = 0 ∨ j = 1 ∨ j = 2 ∨ j = 3 by omega) with rfl | rfl | rfl | rfl <;> rfl)
  rw [show ([B (wordK 0), B (wordK 1), B (wordK 2), B (wordK 3)] : List ByteArray).take 4 = [B (wordK 0), B (wordK 1), B (wordK 2), B (wordK 3)] from rfl, idx_four] at k
  exact k
end Go.Proofs.YtfichpppjpgahaaGreatDoor
namespace Go.Proofs.YtfichpppjpgahaaGreatDoor
open Go.RowKit
set_option linter.unusedVariables false
set_option linter.unusedSimpArgs false
set_option maxRecDepth 10000

theorem nth_app3 {ns : List Int} {i : Nat} (hi : i < 3) : nth (ns ++ [0, 0, 0]) i = nth ns i := by
  unfold nth
  by_cases h : i < ns.length
  · rw [List.getD_eq_getElem?_getD, List.getD_eq_getElem?_getD, List.getElem?_append_left h]
  · rw [List.getD_eq_getElem?_getD, List.getD_eq_getElem?_getD, List.getElem?_append_right (by omega), List.getElem?_eq_none (by omega : ns.length ≤ i)]
    rcases (show i - ns.length = 0 ∨ i - ns.length = 1 ∨ i - ns.length = 2 by omega) with e | e | e <;> rw [e] <;> rfl
theorem nth_fits0 {ns : List Int} (h : ∀ z ∈ ns, Fits z) (i : Nat) : Fits (nth ns i) := by
  by_cases k : i < ns.length
  · exact h _ (nth_mem k)
  · unfold nth
    rw [List.getD_eq_getElem?_getD, List.getElem?_eq_none (by omega)]
    show Fits 0
    unfold Fits; omega
theorem B_lit (c : List UInt8) : (⟨c.toArray⟩ : ByteArray) = B c := rfl
set_option maxHeartbeats 8000000 in
theorem i_ParseArith0 (l : List UInt8) (w : World) (g : GL w) (hl : l.length ≤ 10000) :
    Calls Tryz.prog 10 #[.string (B l)] w fun e w' => ∃ (c : Cand) (ok : Bool) (ga : Option Addr) (gc : Nat) (oa : Option Addr) (oc : Nat), (c, ok) = paOf ((linesI l).foldl stepI Cand.zero) l ∧ e = .returned (.tuple #[.agg #[.int .i64 c.p, .int .i64 c.i0, .int .i64 c.i1, .slice ga c.gn gc, .slice oa c.os.length oc], .bool ok]) ∧ Circ w' ga c.gn gc c.gs oa c.os.length oc c.os ∧ Below w.heap.size w w' := by
  obtain ⟨ls, hls⟩ : ∃ ls, linesI l = ls := ⟨_, rfl⟩
  have hln : ls.length ≤ 104 := by rw [← hls]; have := (splitK_pos 10 (min 104 (l.length + 1) - 1) l).2; unfold linesI; omega
  have hlz : ∀ x ∈ ls, x.length ≤ 10000 := fun x hx => by rw [← hls] at hx; have := splitK_size 10 _ l x hx; omega
  have A0 := bel_alloc w (.cells #[.int .i64 0, .int .i64 0, .int .i64 0, .slice none 0 0, .slice none 0 0] 26)
  have RC := Lib.hid (B5w.new (w := w) (x0 := .int .i64 0) (x1 := .int .i64 0) (x2 := .int .i64 0) (x3 := .slice none 0 0) (x4 := .slice none 0 0) (t := 26))
  obtain ⟨W1, hW1⟩ : ∃ X, w.alloc (.cells #[.int .i64 0, .int .i64 0, .int .i64 0, .slice none 0 0, .slice none 0 0] 26) = X := ⟨_, rfl⟩
  have hz1 : W1.heap.size = w.heap.size + 1 := by rw [← hW1]; simp
  rw [hW1] at A0 RC
  have HA0 := Lib.hid (AnyA.new (t := 26) (x0 := 0) (x1 := 0) (x2 := 0) (CirO.nil (w := W1) (L := W1.heap.size)) (Nat.le_refl _))
  have A1 := bel_alloc W1 (.cells #[.int .i64 0, .int .i64 0, .int .i64 0, .slice none 0 0, .slice none 0 0] 26)
  have hz2 : (W1.alloc (.cells #[.int .i64 0, .int .i64 0, .int .i64 0, .slice none 0 0, .slice none 0 0] 26)).heap.size = W1.heap.size + 1 := by simp
  have HG0 := Lib.hid (g.below A0); clear g
  have HG1 := Lib.hid (HG0.out.below A1)
  have HLS := Lib.hid hls; have HLZ := Lib.hid hlz; clear hls hlz
  have HSP := Lib.hid (show Calls _ _ #[_, _, .int .i64 104] _ _ from i_SplitN 10 104 l _ HG1.out (by omega) (by omega))
  rw [show Lib.splitK [10] 0 (min 104 (l.length + 1) - 1) l = ls from HLS.out] at HSP
  obtain ⟨⟨c0, c1, c2, c3, c4⟩, f0, f1, f2, f3, f4⟩ := id HA0.out.box
  go_enter Tryz.func10, Tryz.ntmps10
  go_wp2_with fail
  refine HSP.out.mono ?_
  clear c0 c1 c2 c3 c4 f0 f1 f2 f3 f4 HG1 HSP
  rintro e w2 ⟨la, lc, rfl, hS, hpl, hb2⟩
  rw [hz2] at hpl
  have hsz2 := hb2.size; rw [hz2] at hsz2
  have HP0 := Lib.hid (show PrS w2 W1.heap.size w2.heap.size la ls.length lc ls _ _ Cand.zero from ⟨HA0.out.below hb2, hS, (fun q e => by cases e), Nat.le_refl _, (fun b o e => by have := hpl b o e; omega)⟩)
  rw [hz1] at HP0
  have HB0 := Lib.hid (bel_trans A1 hb2)
  clear hS hpl hb2 A1 HA0 hz2
  obtain ⟨n, hn⟩ : ∃ n, ls.length = n := ⟨_, rfl⟩
  rw [hn] at hln HP0 ⊢
  have HN := Lib.hid hn; clear hn
  go_wp2
  go_loopw [17] (fun i W => ∃ (k : Nat) (v2 v3 : Value) (c : Cand), k ≤ n ∧ i = .int .i64 k ∧ c.gn ≤ k ∧ c.os.length ≤ 23 ∧ Hid (PrS W (w.heap.size + 1) w2.heap.size la n lc ls v2 v3 c) ∧ Hid ((ls.take k).foldl stepI Cand.zero = c) ∧ Hid (Below W1.heap.size W1 W)) (fun i _ => n - (intOf i).toNat)
  case atStart => exact ⟨0, _, _, Cand.zero, by omega, rfl, (show (0 : Nat) ≤ 0 from Nat.le_refl _), (show (0 : Nat) ≤ _ by omega), HP0, (show Hid _ from rfl), HB0⟩
  case round =>
    clear HP0 HB0
    obtain ⟨k, v2, v3, c, hk, rfl, hcg, hco, HP, HC, HB⟩ := hrel
    by_cases hlt : k < n
    · have hlti : (k : Int) < (n : Int) := by omega
      obtain ⟨wz, hwz⟩ : ∃ wz : World, wz = wr := ⟨_, rfl⟩
      subst hwz
      obtain ⟨xb, xo, x, rfl, hxl, hxc, hxg⟩ := HP.out.s.at hlt
      have hx6 : x.length ≤ 10000 := HLZ.out x (List.mem_of_getElem? hxg)
      have HXG := Lib.hid (show (ls.take (k + 1)).foldl stepI Cand.zero = stepI c x by
        rw [List.take_add_one, hxg, List.foldl_append, HC.out]; rfl)
      clear hxg
      have HG := Lib.hid (HG0.out.below HB.out)
      obtain ⟨ws, hws⟩ : ∃ ws, wordsI x = ws := ⟨_, rfl⟩
      have HSP := Lib.hid (show Calls _ _ #[_, _, .int .i64 23] _ _ from i_SplitN 32 23 x _ HG.out (by omega) (by omega))
      rw [show Lib.splitK [32] 0 (min 23 (x.length + 1) - 1) x = ws from hws] at HSP
      have hw12 : 1 ≤ ws.length ∧ ws.length ≤ 23 := by rw [← hws]; have := splitK_pos 32 (min 23 (x.length + 1) - 1) x; unfold wordsI; omega
      obtain ⟨hw1, hw2⟩ := hw12
      have hwz : ∀ y ∈ ws, y.length ≤ 10000 := fun y hy => by rw [← hws] at hy; have := splitK_size 32 _ x y hy; omega
      obtain ⟨m, hm⟩ : ∃ m, ws.length = m + 1 := ⟨ws.length - 1, by omega⟩
      rw [hm] at HSP
      have HWS := Lib.hid hws; have HWZ := Lib.hid hwz; have HM := Lib.hid hm
      have hm6 : m ≤ 22 := by omega
      clear hws hwz hm hw1 hw2
      go_wp2_with fail
      refine HSP.out.mono ?_
      clear HSP
      rintro e w3 ⟨wa, wcp, rfl, hW, hwp, hb3⟩
      have hs3 := hb3.size
      have HP3 := Lib.hid (HP.out.below hb3); have HB3 := Lib.hid (bel_trans HB.out hb3); have HW := Lib.hid hW; have HG3 := Lib.hid (HG.out.below hb3)
      obtain ⟨wb, wo, hd, rfl, hwl, hw0, hwg⟩ := hW.at (i := 0) (by omega)
      have hwb := (hwp wb wo rfl).1
      have hcap := hW.ncap
      have HH := Lib.hid (show ws.headD [] = hd by cases ws with | nil => simp at hwg | cons a r => simpa using hwg)
      clear hW hb3 hwg hxc hwp
      rw [Nat.add_zero] at hw0
      have HR := Lib.hid (show ∀ i y, i < m → ws.tail[i]? = some y → ∃ b off, some (⟨wb, wo + 1, none⟩ : Addr) = some ⟨b, off, none⟩ ∧ b < w3.heap.size ∧ w3.cell? ⟨b, off + i, none⟩ = some (.string (B y)) from fun i y hi hy => by
        rw [List.getElem?_tail] at hy
        obtain ⟨b9, o9, y9, e9, _, hc9, hg9⟩ := HW.out.at (i := i + 1) (by omega)
        simp only [Option.some.injEq, Addr.mk.injEq, and_true] at e9
        obtain ⟨rfl, rfl⟩ := e9
        rw [hy, Option.some.injEq] at hg9
        subst hg9
        refine ⟨_, _, rfl, hwl, ?_⟩
        rw [show wo + 1 + i = wo + (i + 1) by omega]; exact hc9)
      have HTL := Lib.hid (show ws.tail.length = m by rw [List.length_tail, HM.out]; omega)
      have HTZ := Lib.hid (show ∀ y ∈ ws.tail, y.length ≤ 1000000 from fun y hy => by have := HWZ.out y (List.mem_of_mem_tail hy); omega)
      obtain ⟨ns, hns⟩ : ∃ ns, ws.tail.map atoiV = ns := ⟨_, rfl⟩
      have HNL := Lib.hid (show ns.length = m by rw [← hns, List.length_map]; exact HTL.out)
      have HFT := Lib.hid (show ∀ z ∈ ns, Fits z from fun z hz => by
        rw [← hns] at hz
        obtain ⟨y, _, rfl⟩ := List.mem_map.1 hz
        exact atoiV_fit y)
      have HNS := Lib.hid hns; clear hns
      have hcapi : (1 : Int) ≤ ((m + 1 : Nat) : Int) := by omega
      go_upto_region 6 with (fail)
      go_cut [7, 8, 17] (fun s7 s8 s17 W => s7 = .slice (some ⟨wb, wo, none⟩) (m + 1) wcp ∧ s17 = .int .i64 k ∧ (∃ na nc, s8 = .slice na m nc ∧ Hid (OwnI 3 W w3.heap.size na m nc ns)) ∧ Hid (Below w3.heap.size w3 W))
      case first =>
        go_wp2_with fail
        all_goals
          skip
          refine (i_numbersIn _ m _ ws.tail w3 HG3.out (by omega) HTL.out HTZ.out (by first | exact HR | (refine Lib.hid fun i y hi _ => absurd hi ?_; omega))).mono ?_
          rintro e w4 ⟨na, nc, rfl, hO4, hb4⟩
          rw [HNS.out] at hO4
          have HO4 := Lib.hid hO4; have HB4 := Lib.hid hb4; clear hO4 hb4
          go_wp2
          go_meet
          exact ⟨by first | rfl | (congr 1; omega) | simp_all, rfl, ⟨_, _, rfl, HO4⟩, HB4⟩
      case rest =>
        obtain ⟨rfl, rfl, ⟨na, nc, rfl, HO⟩, HBV⟩ := hcut
        obtain ⟨wA, hwA⟩ : ∃ wA : World, wA = wc := ⟨_, rfl⟩
        subst hwA
        clear HR HTL HTZ
        have w0c := cell_on hw0 HBV.out
        have hsA := HBV.out.size
        have HP4 := Lib.hid (HP3.out.below HBV.out); have HB4 := Lib.hid (bel_trans HB3.out HBV.out); have HG4 := Lib.hid (HG3.out.below HBV.out)
        have HST := Lib.hid (show (ls.take (k + 1)).foldl stepI Cand.zero = stepT c hd ns by rw [HXG.out]; unfold stepI; rw [HWS.out, HH.out, HNS.out])
        have HVB := Lib.hid (show ∀ q, v2.ownBlock = some q → w.heap.size + 1 ≤ q ∧ q < wz.heap.size from fun q hq => ownLt HP.out.a.r.og q hq)
        have hgz : w.heap.size + 1 < wz.heap.size := by have := HP.out.a.lt; omega
        clear hw0 HW HWZ HP HP3 HB HB3 HXG HWS HH HM hcap hcapi HBV HG HG3 HNS
        obtain ⟨ga, gc, rfl⟩ := own_sl HP4.out.a.r.og
        go_upto_region 7 with (fail)
        go_cut [7, 8, 9, 10, 17] (fun s7 s8 s9 s10 s17 W => s7 = .slice (some ⟨wb, wo, none⟩) (m + 1) wcp ∧ s8 = .slice na m nc ∧ s17 = .int .i64 k ∧ s10 = .int .i64 (kindI hd) ∧ (∃ pa pc, s9 = .slice pa (m + 3) pc ∧ Hid (Ints W pa (m + 3) pc (ns ++ [0, 0, 0]))) ∧ Hid (Below wA.heap.size wA W))
        case first =>
          have HL3 := Lib.hid ((Ints.lit (w := wA) (m := wA.heap.size) [0, 0, 0] #[.int .i64 0, .int .i64 0, .int .i64 0] 3 rfl rfl (by simp) (by intro x hx; simp at hx; unfold Fits; omega)).below (bel_drew _))
          have HE := Lib.hid (bel_trans (bel_alloc wA (.cells #[.int .i64 0, .int .i64 0, .int .i64 0] 3)) (bel_drew _))
          have w0a := cell_on w0c (bel_alloc wA (.cells #[.int .i64 0, .int .i64 0, .int .i64 0] 3))
          have w0b := cell_on w0c (bel_drew _)
          go_wp2_with fail
          go_region_law (first
            | (go_simp; go_at_call 26; refine (i_with na m nc ns _ 3 3 [0, 0, 0] _ (HO.out.ints.below HE.out) HL3.out (by omega) (by omega)).mono ?_; rintro e w5 ⟨pa, pc, rfl, hI5, hb5⟩; have w05 := cell_on w0c (bel_trans HE.out hb5); have HI5 := Lib.hid hI5; have HB5 := Lib.hid (bel_trans HE.out hb5); have HG5 := Lib.hid (HG4.out.below HB5.out))
            | (go_simp; go_at_call 38; refine (i_IndexW hd _ (by first | exact HG5.out | exact HG4.out.below (by first | exact bel_drew _ | exact HE.out | exact bel_alloc _ _))).mono ?_; rintro e w6 ⟨rfl, rfl⟩))
          all_goals
            go_wp2
            go_meet
            exact ⟨rfl, rfl, rfl, rfl, ⟨_, _, rfl, HI5⟩, HB5⟩
        case rest =>
          obtain ⟨rfl, rfl, rfl, rfl, ⟨pa, pc, rfl, HI⟩, HBW⟩ := hcut
          obtain ⟨wB, hwB⟩ : ∃ wB : World, wB = wc := ⟨_, rfl⟩
          subst hwB
          have hsB := HBW.out.size
          have w0c := cell_on w0c HBW.out
          have HP7 := Lib.hid (HP4.out.below HBW.out); have HB7 := Lib.hid (bel_trans HB4.out HBW.out); have HO7 := Lib.hid (HO.out.below HBW.out)
          obtain ⟨pb, po, rfl, hpb, k0⟩ := HI.out.at (i := 0) (by omega)
          obtain ⟨b1, o1, e1, _, k1⟩ := HI.out.at (i := 1) (by omega); simp only [Option.some.injEq, Addr.mk.injEq, and_true] at e1; obtain ⟨rfl, rfl⟩ := e1
          obtain ⟨b2, o2, e2, _, k2⟩ := HI.out.at (i := 2) (by omega); simp only [Option.some.injEq, Addr.mk.injEq, and_true] at e2; obtain ⟨rfl, rfl⟩ := e2
          rw [nth_app3 (by omega)] at k0 k1 k2
          rw [Nat.add_zero] at k0
          have x0 : (0 : Int) < (m : Int) + 3 := by omega
          have x1 : (1 : Int) < (m : Int) + 3 := by omega
          have x2 : (2 : Int) < (m : Int) + 3 := by omega
          clear HP4 HB4 HO HI HBW HG4
          by_cases hA : hd = wordA
          · subst hA
            have tl : (B wordA).toList = [97, 114, 105, 116, 104] := B_toList _
            obtain ⟨⟨c0, c1, c2, c3, c4⟩, f0, f1, f2, f3, f4⟩ := id HP7.out.a.box
            have k0d := cell_on k0 (bel_drew _); have k1d := cell_on k1 (bel_drew _); have k2d := cell_on k2 (bel_drew _)
            have HP9 := Lib.hid ((HP7.out.below (bel_drew _)).set3 (nth ns 0) (nth ns 1) (nth ns 2))
            have HB9 := Lib.hid (((((bel_trans HB7.out (bel_drew _)).setCell (p := ⟨w.heap.size + 1, 0, none⟩) (by simp only []; omega) (.int .i64 (nth ns 0))).setCell (p := ⟨w.heap.size + 1, 1, none⟩) (by simp only []; omega) (.int .i64 (nth ns 1))).setCell (p := ⟨w.heap.size + 1, 2, none⟩) (by simp only []; omega) (.int .i64 (nth ns 2))))
            have HC9 := Lib.hid (show (ls.take (k + 1)).foldl stepI Cand.zero = { c with p := nth ns 0, i0 := nth ns 1, i1 := nth ns 2 } by rw [HST.out]; unfold stepT; rw [if_pos rfl])
            go_wp2_with fail
            go_region_law (fail)
            all_goals
              go_wp2
              go_roundw
              case rel => exact ⟨k + 1, _, _, { c with p := nth ns 0, i0 := nth ns 1, i1 := nth ns 2 }, by omega, by go_num, (show c.gn ≤ _ by omega), hco, HP9, HC9, HB9⟩
              case measure => simp [intOf]; omega
          · have tl : ((B hd).toList == [97, 114, 105, 116, 104]) = false := B_ne hA
            have HA2 := Lib.hid hA; clear hA
            by_cases hO : hd = wordO
            · subst hO
              have t2 : (B wordO).toList = [111, 117, 116, 115] := B_toList _
              obtain ⟨⟨c0, c1, c2, c3, c4⟩, f0, f1, f2, f3, f4⟩ := id HP7.out.a.box
              have HP9 := Lib.hid (HP7.out.outs (v9 := .slice na m nc) (os9 := ns) (m := m) (ownsRow_base HO7.out.own (by omega)) HNL.out.symm (fun q hq e => by have h1 := HVB.out q hq; have h2 := (World.ownsRow.lt HO7.out.own q e).1; omega) (fun e => by have h2 := (World.ownsRow.lt HO7.out.own _ e).1; omega) HFT)
              have HB9 := Lib.hid (HB7.out.setCell (p := ⟨w.heap.size + 1, 4, none⟩) (by simp only []; omega) (.slice na m nc))
              have HC9 := Lib.hid (show (ls.take (k + 1)).foldl stepI Cand.zero = { c with os := ns } by rw [HST.out]; unfold stepT; rw [if_neg HA2.out, if_pos rfl])
              go_wp2
              go_roundw
              case rel => exact ⟨k + 1, _, _, { c with os := ns }, by omega, by go_num, (show c.gn ≤ _ by omega), (show ns.length ≤ _ by rw [HNL.out]; omega), HP9, HC9, HB9⟩
              case measure => simp [intOf]; omega
            · have t2 : ((B hd).toList == [111, 117, 116, 115]) = false := B_ne hO
              have HO2 := Lib.hid hO; clear hO
              have kbd := kindI_bd hd
              by_cases hK : 0 ≤ kindI hd
              · have HC9 := Lib.hid (show (ls.take (k + 1)).foldl stepI Cand.zero = c.add (kindI hd) (nth ns 0) (nth ns 1) by rw [HST.out]; unfold stepT; rw [if_neg HA2.out, if_neg HO2.out]; exact addW_kind hK _ _ _)
                obtain ⟨K, hKK⟩ : ∃ K, kindI hd = K := ⟨_, rfl⟩
                rw [hKK] at hK HC9 kbd ⊢; clear hKK
                obtain ⟨kb0, kb1⟩ := kbd
                have hF0 : Fits (nth ns 0) := nth_fits0 HFT.out 0; have hF1 : Fits (nth ns 1) := nth_fits0 HFT.out 1
                obtain ⟨⟨c0, c1, c2, c3, c4⟩, f0, f1, f2, f3, f4⟩ := id HP7.out.a.box
                have q3 := cell_on c3 (bel_drew _); have k0d := cell_on k0 (bel_drew _); have k1d := cell_on k1 (bel_drew _)
                have HPa := Lib.hid (HP7.out.below (bel_alloc wB (.cells #[.int .i64 K, .int .i64 (nth ns 0), .int .i64 (nth ns 1)] 65)))
                have HPd := Lib.hid (HPa.out.below (bel_drew _))
                have q3a := HPa.out.a.box.r.c3; have k0a := cell_on k0 (bel_alloc wB (.cells #[.int .i64 K, .int .i64 (nth ns 0), .int .i64 (nth ns 1)] 65)); have k1a := cell_on k1 (bel_alloc wB (.cells #[.int .i64 K, .int .i64 (nth ns 0), .int .i64 (nth ns 1)] 65))
                go_wp2_with fail
                go_region_law (refine step_appGX (w.heap.size + 1) c.gn _ c.gs K (nth ns 0) (nth ns 1) _ (by rfl) _ _ (by rfl) (by rfl) (by rfl) (by simp [World.cell?_alloc_at]) (by simp [World.cell?_alloc_at]) (by simp [World.cell?_alloc_at]) HPd.out.a.r.og (by first | omega | (have := HPd.out.a.lt; omega)) (by omega) ?_; intro v9 w9 hv9 hb9 hg9 ho9; obtain ⟨r9, k9, rfl⟩ := own_sl hv9; have hB9 := HPd.out.a.box.grown hg9 (fun e => HPd.out.a.d2 e.symm); have k3 := hB9.r.c3; have kf := hB9.f3)
                all_goals
                  have HP9 := Lib.hid (HPd.out.gates hv9 hg9 hb9.size ho9 (by unfold Fits; omega) hF0 hF1)
                  have HB9 := Lib.hid (((bel_trans HB7.out (bel_trans (bel_alloc wB (.cells #[.int .i64 K, .int .i64 (nth ns 0), .int .i64 (nth ns 1)] 65)) (bel_drew _))).trans (hb9.mono (Nat.le_of_eq hz1))).setCell (p := ⟨w.heap.size + 1, 3, none⟩) (by simp only []; omega) (.slice r9 (c.gn + 1) k9))
                  go_wp2
                  go_roundw
                  case rel => exact ⟨k + 1, _, _, (c.add K (nth ns 0) (nth ns 1)), by omega, by go_num, (show c.gn + 1 ≤ _ by omega), hco, HP9, HC9, HB9⟩
                  case measure => simp [intOf]; omega
              · have HC9 := Lib.hid (show (ls.take (k + 1)).foldl stepI Cand.zero = c by rw [HST.out]; unfold stepT; rw [if_neg HA2.out, if_neg HO2.out]; exact addW_none hK _ _ _)
                obtain ⟨K, hKK⟩ : ∃ K, kindI hd = K := ⟨_, rfl⟩
                rw [hKK] at hK kbd ⊢; clear hKK
                go_wp2
                go_roundw
                case rel => exact ⟨k + 1, _, _, c, by omega, by go_num, by omega, hco, HP7, HC9, HB7⟩
                case measure => simp [intOf]; omega
    · obtain rfl : n = k := by omega
      have hnl : ¬ ((n : Int) < (n : Int)) := by omega
      clear hlt hk
      obtain ⟨wE, hwE⟩ : ∃ wE : World, wE = wr := ⟨_, rfl⟩
      subst hwE
      obtain ⟨ga, gc, rfl⟩ := own_sl HP.out.a.r.og; obtain ⟨oa, oc, rfl⟩ := own_sl HP.out.a.r.oo
      obtain ⟨p, i0, i1, gs, gn, os⟩ := c
      have hcg : gn ≤ n := hcg; have hco : os.length ≤ 23 := hco
      have HA := Lib.hid (show AnyA wE (w.heap.size + 1) (w.heap.size + 1) p i0 i1 (.slice ga gn gc) gn gs (.slice oa os.length oc) os.length os from HP.out.a)
      obtain ⟨on, hon⟩ : ∃ on, os.length = on := ⟨_, rfl⟩
      rw [hon] at HA hco
      have HON := Lib.hid hon; clear hon HP
      obtain ⟨c0, c1, c2, c3, c4⟩ := id HA.out.box.r
      have hM := HA.out.r.circL (by omega) (by omega)
      have HC9 := Lib.hid (show (linesI l).foldl stepI Cand.zero = ⟨p, i0, i1, gs, gn, os⟩ by rw [HLS.out]; have h := HC.out; rw [List.take_of_length_le (by rw [HN.out]; omega)] at h; exact h)
      have HAT := Lib.hid (i_ArithText p i0 i1 ga gn gc gs oa on oc os wE (HG0.out.below HB.out) hM)
      clear HG0
      obtain ⟨t, ht⟩ : ∃ t, (if arC p i0 i1 gs gn os then textL p i0 i1 gs gn os else []) = t := ⟨_, rfl⟩
      obtain ⟨ok, hok⟩ : ∃ ok, arC p i0 i1 gs gn os = ok := ⟨_, rfl⟩
      rw [ht, hok] at HAT
      have HT := Lib.hid ht; have HOK := Lib.hid hok; clear ht hok
      go_wp2_with fail
      refine HAT.out.mono ?_; rintro e w5 ⟨rfl, hb5⟩
      have HA5 := Lib.hid (HA.out.below hb5); have HB5 := Lib.hid (bel_trans HB.out hb5)
      clear c0 c1 c2 c3 c4 hM hb5 HA HB HAT
      obtain ⟨c0, c1, c2, c3, c4⟩ := id HA5.out.box.r
      cases ok with
      | false =>
        have HPA := Lib.hid (show (Cand.zero, false) = paOf ((linesI l).foldl stepI Cand.zero) l by rw [HC9.out]; unfold paOf pick2; rw [if_neg (by simp [HOK.out])])
        have R5 := RC.out.on HB5.out
        have E5 := Lib.hid (R5.set (.int .i64 0) (.int .i64 0) (.int .i64 0) (.slice none 0 0) (.slice none 0 0))
        obtain ⟨⟨r0, r1, r2, r3, r4⟩, f0, f1, f2, f3, f4⟩ := R5
        go_wp2
        obtain ⟨E0, E1, E2, E3, E4⟩ := id E5.out.r
        exact bodyPost_ret (v := .tuple #[.agg #[.int .i64 0, .int .i64 0, .int .i64 0, .slice none 0 0, .slice none 0 0], .bool false]) (by simp [results, Tryz.results10, go_sem, E0, E1, E2, E3, E4]) rfl ⟨Cand.zero, false, none, 0, none, 0, HPA.out, rfl, (CirO.nil (L := 0)).circL (by omega) (by omega), bel_set5 (bel_trans A0 HB5.out) (Nat.le_refl _) _ _ _ _ _⟩
      | true =>
        have HT2 := Lib.hid (show textL p i0 i1 gs gn os = t by rw [← HT.out, if_pos HOK.out]); clear HT
        by_cases hT : t = l
        · have tl : ((B t).toList == (B l).toList) = true := by rw [hT]; simp
          have HPA := Lib.hid (show ((⟨p, i0, i1, gs, gn, os⟩ : Cand), true) = paOf ((linesI l).foldl stepI Cand.zero) l by rw [HC9.out]; unfold paOf pick2; rw [if_pos (by simp [HOK.out, HT2.out, hT])])
          clear hT
          have R5 := RC.out.on HB5.out
          have E5 := Lib.hid (R5.set (.int .i64 p) (.int .i64 i0) (.int .i64 i1) (.slice ga gn gc) (.slice oa on oc))
          obtain ⟨⟨r0, r1, r2, r3, r4⟩, f0, f1, f2, f3, f4⟩ := R5
          have F1 := Lib.hid ((HA5.out.r.bex (Bex.only5 (g := w.heap.size) _ (.int .i64 p) (.int .i64 i0) (.int .i64 i1) (.slice ga gn gc) (.slice oa on oc)) (by omega)).circL (by omega) (by omega))
          have F4 := Lib.hid (bel_set5 (bel_trans A0 HB5.out) (Nat.le_refl _) (.int .i64 p) (.int .i64 i0) (.int .i64 i1) (.slice ga gn gc) (.slice oa on oc))
          go_wp2
          obtain ⟨E0, E1, E2, E3, E4⟩ := id E5.out.r
          exact bodyPost_ret (v := .tuple #[.agg #[.int .i64 p, .int .i64 i0, .int .i64 i1, .slice ga gn gc, .slice oa on oc], .bool true]) (by simp [results, Tryz.results10, go_sem, E0, E1, E2, E3, E4]) rfl ⟨⟨p, i0, i1, gs, gn, os⟩, true, ga, gc, oa, oc, HPA.out, by rw [HON.out], (by rw [HON.out]; exact F1.out), F4.out⟩
        · have tl : ((B t).toList == (B l).toList) = false := by rw [B_toList, B_toList]; simpa using hT
          have HPA := Lib.hid (show (Cand.zero, false) = paOf ((linesI l).foldl stepI Cand.zero) l by rw [HC9.out]; unfold paOf pick2; rw [if_neg (by simp [HOK.out, HT2.out, hT])])
          clear hT
          have R5 := RC.out.on HB5.out
          have E5 := Lib.hid (R5.set (.int .i64 0) (.int .i64 0) (.int .i64 0) (.slice none 0 0) (.slice none 0 0))
          obtain ⟨⟨r0, r1, r2, r3, r4⟩, f0, f1, f2, f3, f4⟩ := R5
          go_wp2
          obtain ⟨E0, E1, E2, E3, E4⟩ := id E5.out.r
          exact bodyPost_ret (v := .tuple #[.agg #[.int .i64 0, .int .i64 0, .int .i64 0, .slice none 0 0, .slice none 0 0], .bool false]) (by simp [results, Tryz.results10, go_sem, E0, E1, E2, E3, E4]) rfl ⟨Cand.zero, false, none, 0, none, 0, HPA.out, rfl, (CirO.nil (L := 0)).circL (by omega) (by omega), bel_set5 (bel_trans A0 HB5.out) (Nat.le_refl _) _ _ _ _ _⟩
theorem i_ParseArith (l : List UInt8) (w : World) (g : GL w) (hl : l.length ≤ 10000) :
    Calls Tryz.prog 10 #[.string (B l)] w fun e w' => ∃ (c : Cand) (ok : Bool) (ga : Option Addr) (gc : Nat) (oa : Option Addr) (oc : Nat), (c, ok) = paOf (candS l (sp 10 [] l).length) l ∧ e = .returned (.tuple #[.agg #[.int .i64 c.p, .int .i64 c.i0, .int .i64 c.i1, .slice ga c.gn gc, .slice oa c.os.length oc], .bool ok]) ∧ Circ w' ga c.gn gc c.gs oa c.os.length oc c.os ∧ Below w.heap.size w w' := by
  rw [pa_eq]
  exact i_ParseArith0 l w g hl
end Go.Proofs.YtfichpppjpgahaaGreatDoor
