/-
  Contracts over the library: a number as text, a line, a number that is read, numbers of words.
  Contract: the text of an arithmetic circuit, the program's side.
  Plain laws: digits are read back.
  Plain laws: the text of a valid circuit is read back, by both readers.
  Plain laws: both readers of texts of circuits answer alike.
  Contract over the library: a text is split into at most n pieces.
-/
import Derived.Test.YtfichpppjpgahaaGreatDoorFm17
import Derived.Test.YtfichpppjpgahaaGreatDoorFm10
import Derived.Lib.AtoiErrMem
import Derived.Lib.AppendIntMem
import Derived.Test.YtfichpppjpgahaaGreatDoorFm5
import Derived.Deep.DeepCutAuto
import Derived.Lib.Split
import Derived.Lib.IndexBytes
namespace Go.Proofs.YtfichpppjpgahaaGreatDoor
open Go.RowKit
set_option linter.unusedVariables false
set_option linter.unusedSimpArgs false
set_option maxRecDepth 10000

theorem bel_grow (w : World) (q : Nat) (os : Array Obj) : Below w.heap.size w (Sort.grow (w.drewN q) os) :=
  ⟨rfl, rfl, rfl, by show w.heap.size ≤ (w.heap ++ os).size; simp, fun k hk => by show (w.heap ++ os)[k]? = _; rw [Array.getElem?_append_left hk]⟩
/-- What the package-level variables hold that the program reads. -/
structure GL (w : World) : Prop where
  ml : ∃ m, w.cell? ⟨1, 0, none⟩ = some (.int .i64 m)
  e1 : ∃ ev, w.cell? ⟨2, 0, none⟩ = some ev ∧ (ev = .nilIface ∨ ∃ te pe, ev = .iface te pe)
  e2 : ∃ ev, w.cell? ⟨3, 0, none⟩ = some ev ∧ (ev = .nilIface ∨ ∃ te pe, ev = .iface te pe)
  tab : Lib.TabIs Tryz.prog w "internal/strconv.uint64pow10" .u64 Lib.pow10Tab
  wd : ∀ i : Nat, i < 4 → w.cell? ⟨0, i, none⟩ = some (.string (B (wordK i)))
theorem GL.below {w w' : World} (h : GL w) (hb : Below w.heap.size w w') : GL w' :=
  ⟨by obtain ⟨m, hm⟩ := h.ml; exact ⟨m, cell_on hm hb⟩, by obtain ⟨ev, h1, h2⟩ := h.e1; exact ⟨ev, cell_on h1 hb, h2⟩, by obtain ⟨ev, h1, h2⟩ := h.e2; exact ⟨ev, cell_on h1 hb, h2⟩, Lib.tabBelow_of_tabIs h.tab w' hb, fun i hi => cell_on (h.wd i hi) hb⟩
theorem i_Itoa (x : Int) (h : 0 ≤ x ∧ x ≤ 1000000) (w : World) (g : GL w) :
    Calls Tryz.prog 73 #[.int .i64 x] w fun e w' => e = .returned (.string (B (dig x))) ∧ Below w.heap.size w w' := by
  refine (Tryz.strconv_Itoa x (by omega) (by omega) w g.tab).mono ?_
  rintro e w' ⟨rfl, k, os, rfl⟩
  refine ⟨?_, bel_grow w k os⟩
  have e : Lib.itoa x = dig x := by unfold Lib.itoa dig; rw [if_neg (by omega)]
  rw [e]; rfl
/-- What the library reads; errors as numbers. -/
def atoiV (l : List UInt8) : Int := match Lib.atoiAll l with
  | .ok v => v
  | .range => Lib.atoiSat l
  | _ => 0
theorem atoiV_fit (l : List UInt8) : Fits (atoiV l) := by
  unfold atoiV
  rcases hc : Lib.atoiAll l with v | _ | _
  · have := Lib.atoiAll_bounds hc; show Fits v; unfold Fits; omega
  · show Fits 0; unfold Fits; omega
  · show Fits (Lib.atoiSat l); unfold Lib.atoiSat Fits; split <;> omega
theorem i_Atoi (l : List UInt8) (hl : l.length ≤ 1000000) (w : World) (g : GL w) :
    Calls Tryz.prog 66 #[.string (B l)] w fun e w' => ∃ ev, e = .returned (.tuple #[.int .i64 (atoiV l), ev]) ∧ Below w.heap.size w w' := by
  have hs : (B l).size ≤ 1000000 := by rw [B_size]; exact hl
  have hd : (B l).data.toList = l := B_data l
  unfold atoiV
  rcases hc : Lib.atoiAll l with v | _ | _
  · refine (Tryz.strconv_Atoi_ok (B l) (by omega) v (by rw [hd]; exact hc) w).mono ?_
    rintro e w' ⟨rfl, rfl | ⟨t, rfl⟩⟩
    · exact ⟨_, rfl, Below.refl _ _⟩
    · exact ⟨_, rfl, Lib.bytesWorld_below _ _ _⟩
  · obtain ⟨ev, h1, h2⟩ := g.e1
    refine (Tryz.strconv_Atoi_syntax (B l) (by omega) (by rw [hd]; exact hc) ev w h1 h2).mono ?_
    rintro e w' ⟨N, rfl, _, _, hb⟩
    exact ⟨_, rfl, hb⟩
  · obtain ⟨ev, h1, h2⟩ := g.e2
    refine (Tryz.strconv_Atoi_range (B l) (by omega) (by rw [hd]; exact hc) ev w h1 h2).mono ?_
    rintro e w' ⟨N, rfl, _, _, hb⟩
    rw [hd]
    exact ⟨_, rfl, hb⟩
set_option maxHeartbeats 4000000 in
theorem i_line (wd : List UInt8) (a : Option Addr) (n cap : Nat) (xs : List Int) (w : World) (g : GL w) (h : Ints w a n cap xs) (hx : okN xs) (hn : n ≤ 10000) (hw : wd.length ≤ 1000) :
    Calls Tryz.prog 49 #[.string (B wd), .slice a n cap] w fun e w' => e = .returned (.string (B (wd ++ (oNums xs n ++ [10])))) ∧ Below w.heap.size w w' := by
  have hlen := h.len.out
  have hs0 : (B wd).size ≤ 1000 := by rw [B_size]; exact hw
  have HX := Lib.hid hx; clear hx
  have HG := Lib.hid g; clear g
  go_enter Tryz.func49, Tryz.ntmps49
  go_wp2
  go_loopw [5, 11] (fun s i W => ∃ (k : Nat) (T : ByteArray), k ≤ n ∧ i = .int .i64 k ∧ s = .string T ∧ T.size ≤ 1000 + 8 * k ∧ Hid (T = B (wd ++ oNums xs k)) ∧ Hid (Below w.heap.size w W)) (fun _ i _ => n - (intOf i).toNat)
  case atStart => exact ⟨0, _, by omega, rfl, rfl, by omega, (show Hid _ from by show _ = _; simp [oNums]), Below.refl _ _⟩
  case round =>
    obtain ⟨k, T, hk, rfl, rfl, hT, HT, HBV⟩ := hrel
    by_cases hlt : k < n
    · have hlti : (k : Int) < (n : Int) := by omega
      obtain ⟨ob, oo, rfl, hol, m0⟩ := (h.below HBV.out).at hlt
      have hx := HX.out _ (nth_mem (xs := xs) (i := k) (by omega))
      have HOL := Lib.hid (show oNums xs (k + 1) = oNums xs k ++ numS (nth xs k) from rfl)
      obtain ⟨X, hX⟩ : ∃ X, nth xs k = X := ⟨_, rfl⟩
      rw [hX] at m0 hx HOL; clear hX
      have dx := dig_le (x := X) (by omega)
      rw [← B_size] at dx
      have kx := Lib.hid (i_Itoa X (by omega) _ (HG.out.below HBV.out))
      obtain ⟨SX, hSX⟩ : ∃ S, S = B (dig X) := ⟨_, rfl⟩
      rw [← hSX] at kx dx
      have HX2 := Lib.hid hSX; clear hSX hx
      have v0 : ¬ 9223372036854775807 < 1 + SX.size := by omega
      have v1 : ¬ 9223372036854775807 < T.size + (1 + SX.size) := by omega
      go_wp2_with fail
      refine kx.out.mono ?_; rintro e w6 ⟨rfl, hb6⟩
      go_wp2
      go_roundw
      case rel =>
        refine ⟨k + 1, _, by omega, by first | go_num | (simp; omega), rfl, ?_, ?_, (show Hid _ from bel_trans HBV.out hb6)⟩
        · rw [ByteArray.size_append, ByteArray.size_append]; have : (⟨#[32]⟩ : ByteArray).size = 1 := rfl; omega
        · show _ = _
          rw [HT.out, HX2.out, HOL.out, show (⟨#[32]⟩ : ByteArray) = B [32] from rfl]
          simp only [B_app]
          congr 1
          simp [numS]
      case measure => simp [intOf]; omega
    · obtain rfl : n = k := by omega
      have hnl2 : ¬ ((n : Int) < (n : Int)) := by omega
      have v0 : ¬ 9223372036854775807 < T.size + 1 := by omega
      have HE := Lib.hid (show T ++ ⟨#[10]⟩ = B (wd ++ (oNums xs n ++ [10])) by
        rw [HT.out, show (⟨#[10]⟩ : ByteArray) = B [10] from rfl, B_app]
        simp)
      go_wp2
      go_ret
      exact ⟨by rw [← HE.out]; first | rfl | simp, HBV.out⟩
set_option maxHeartbeats 4000000 in
theorem i_numbersIn (a : Option Addr) (n cap : Nat) (ws : List (List UInt8)) (w : World) (g : GL w) (hn : n ≤ 10000) (hl : ws.length = n) (hz : ∀ y ∈ ws, y.length ≤ 1000000)
    (hc : Hid (∀ i y, i < n → ws[i]? = some y → ∃ b off, a = some ⟨b, off, none⟩ ∧ b < w.heap.size ∧ w.cell? ⟨b, off + i, none⟩ = some (.string (B y)))) :
    Calls Tryz.prog 37 #[.slice a n cap] w fun e w' => ∃ r c, e = .returned (.slice r n c) ∧ OwnI 3 w' w.heap.size r n c (ws.map atoiV) ∧ Below w.heap.size w w' := by
  have HG := Lib.hid g; clear g
  have HFT := Lib.hid (show ∀ z ∈ ws.map atoiV, Fits z from fun z hz' => by
    obtain ⟨y, _, rfl⟩ := List.mem_map.1 hz'
    exact atoiV_fit y)
  have HL := Lib.hid hl; have HZ := Lib.hid hz; clear hl hz
  go_enter Tryz.func37, Tryz.ntmps37
  go_wp2
  go_loopw [3, 11] (fun v i W => ∃ j : Nat, j ≤ n ∧ i = .int .i64 j ∧ Hid (W.ownsRow w.heap.size 3 1 v j (ivs ((ws.map atoiV).take j))) ∧ Hid (Below w.heap.size w W)) (fun _ i _ => n - (intOf i).toNat)
  case atStart => exact ⟨0, by omega, rfl, (show Hid _ from World.ownsRow_lit w #[] 0 (Nat.le_refl _) (by decide) rfl), (show Hid _ from bel_alloc w _)⟩
  case round =>
    obtain ⟨j, hj, rfl, HV, HBV⟩ := hrel
    by_cases hlt : j < n
    · have hlti : (j : Int) < (n : Int) := by omega
      obtain ⟨y, hy⟩ : ∃ y, ws[j]? = some y := ⟨_, List.getElem?_eq_getElem (by rw [HL.out]; exact hlt)⟩
      obtain ⟨wb, wo, rfl, hwl, hyc⟩ := hc.out j y hlt hy
      have hyc := cell_on hyc HBV.out
      have hy6 : y.length ≤ 1000000 := HZ.out y (List.mem_of_getElem? hy)
      have HTK := Lib.hid (show (ws.map atoiV).take (j + 1) = (ws.map atoiV).take j ++ [atoiV y] by
        have hj1 : j < (ws.map atoiV).length := by rw [List.length_map, HL.out]; exact hlt
        rw [List.take_succ_eq_append_getElem hj1]
        congr 2
        have e : (ws.map atoiV)[j]? = some (atoiV y) := by rw [List.getElem?_map, hy]; rfl
        rw [List.getElem?_eq_getElem hj1, Option.some.injEq] at e
        exact e)
      clear hy
      have HA := Lib.hid (i_Atoi y hy6 _ (HG.out.below HBV.out))
      have hsz := HBV.out.size
      obtain ⟨Y, hY⟩ : ∃ Y, atoiV y = Y := ⟨_, rfl⟩
      rw [hY] at HA HTK; clear hY
      go_wp2_with fail
      refine HA.out.mono ?_; rintro e w4 ⟨ev, rfl, hb4⟩
      have HV4 := Lib.hid (ownsRow_below HV.out hb4)
      have HB4 := Lib.hid (bel_trans HBV.out hb4); have hsz4 := hb4.size
      clear HV HBV hb4
      go_wp2_with (at_builtin; refine wp_app _ w.heap.size _ _ _ (_) _ _ rfl _ _ rfl rfl rfl (by first | rfl | simp) HV4.out (by first | omega | (simp; omega)) (by omega) ?_; intro v9 w9 hv9 hb9 hg9)
      clear hg9
      go_roundw
      case rel => exact ⟨j + 1, by omega, by go_num, (show Hid _ from by rw [HTK.out]; exact hv9), (show Hid _ from HB4.out.trans hb9)⟩
      case measure => simp [intOf]; omega
    · obtain rfl : n = j := by omega
      have hnl : ¬ ((n : Int) < (n : Int)) := by omega
      have htk : (ws.map atoiV).take n = ws.map atoiV := List.take_of_length_le (by rw [List.length_map, HL.out]; omega)
      have HVV := HV.out
      rw [htk] at HVV
      obtain ⟨na, nc, rfl, hO⟩ := OwnI.of HVV (by omega) HFT.out
      have HO := Lib.hid hO; clear hO HVV htk
      go_wp2
      go_ret
      exact ⟨na, nc, rfl, HO.out, HBV.out⟩
end Go.Proofs.YtfichpppjpgahaaGreatDoor
namespace Go.Proofs.YtfichpppjpgahaaGreatDoor
open Go.RowKit
set_option linter.unusedVariables false
set_option linter.unusedSimpArgs false
set_option maxRecDepth 10000

set_option maxHeartbeats 8000000 in
theorem i_ArithText (p i0 i1 : Int) (ga : Option Addr) (gn gc : Nat) (gs : List Int) (oa : Option Addr) (on oc : Nat) (os : List Int) (w : World) (g : GL w) (h : Circ w ga gn gc gs oa on oc os) :
    Calls Tryz.prog 16 #[.agg #[.int .i64 p, .int .i64 i0, .int .i64 i1, .slice ga gn gc, .slice oa on oc]] w fun e w' => e = .returned (.tuple #[.string (B (if arC p i0 i1 gs gn os then textL p i0 i1 gs gn os else [])), .bool (arC p i0 i1 gs gn os)]) ∧ Below w.heap.size w w' := by
  have hlo := h.o.len.out
  have A0 := bel_alloc w (.cells #[.int .i64 p, .int .i64 i0, .int .i64 i1, .slice ga gn gc, .slice oa on oc] 26)
  have G0 := B5.new (w := w) (x0 := .int .i64 p) (x1 := .int .i64 i0) (x2 := .int .i64 i1) (x3 := .slice ga gn gc) (x4 := .slice oa on oc) (t := 26)
  obtain ⟨c0, c1, c2, c3, c4⟩ := id G0
  have HK := Lib.hid (h.below A0)
  have HG := Lib.hid (g.below A0); clear g
  have e0 : (⟨#[]⟩ : ByteArray) = B [] := rfl
  have HIS := Lib.hid (i_IsArith p i0 i1 ga gn gc gs oa on oc os _ HK.out)
  cases hAC : arC p i0 i1 gs gn os with
  | false =>
    rw [hAC] at HIS
    rw [if_neg (by simp)]
    clear hAC
    go_enter Tryz.func16, Tryz.ntmps16
    go_wp2_with fail
    refine (HIS.out).mono ?_; rintro e w1 ⟨rfl, hb1⟩
    have HK1 := Lib.hid (HK.out.below hb1); have HG1 := Lib.hid (HG.out.below hb1); have HB1 := Lib.hid (bel_trans A0 hb1)
    have G1 := G0.on hb1
    clear c0 c1 c2 c3 c4 G0 hb1 A0 HK HG HIS
    obtain ⟨c0, c1, c2, c3, c4⟩ := id G1
    go_wp2
    exact bodyPost_ret (v := .tuple #[.string ⟨#[]⟩, .bool false]) (by simp [results, Tryz.results16, go_sem]) rfl ⟨rfl, HB1.out⟩
  | true =>
    rw [hAC] at HIS
    rw [if_pos rfl]
    obtain ⟨hp, h0, h1, hg, ho, hgn, hos⟩ := arC_ok hAC
    rw [hlo] at hos
    have HO := Lib.hid ho; have HGO := Lib.hid hg; clear ho hg hAC
    go_enter Tryz.func16, Tryz.ntmps16
    go_wp2_with fail
    refine (HIS.out).mono ?_; rintro e w1 ⟨rfl, hb1⟩
    have HK1 := Lib.hid (HK.out.below hb1); have HG1 := Lib.hid (HG.out.below hb1); have HB1 := Lib.hid (bel_trans A0 hb1)
    have G1 := G0.on hb1
    clear c0 c1 c2 c3 c4 G0 hb1 A0 HK HG HIS
    obtain ⟨c0, c1, c2, c3, c4⟩ := id G1
    have hI := Ints.lit [p, i0, i1] #[.int .i64 p, .int .i64 i0, .int .i64 i1] 3 (w := w1) (m := w1.heap.size) rfl rfl (by simp) (by intro x hx; simp at hx; unfold Fits; rcases hx with rfl | rfl | rfl <;> omega)
    have A2 := bel_alloc w1 (.cells #[.int .i64 p, .int .i64 i0, .int .i64 i1] 3)
    have hk3 : okN [p, i0, i1] := by intro x hx; simp at hx; rcases hx with rfl | rfl | rfl <;> omega
    have HL := Lib.hid (i_line wordA _ 3 3 [p, i0, i1] _ (HG1.out.below A2) hI hk3 (by omega) (by decide))
    have hT0 : wordA ++ (oNums [p, i0, i1] 3 ++ [10]) = headL p i0 i1 ++ gLines gs 0 := by simp [headL, gLines, oNums, nth]
    rw [hT0] at HL
    have hs0 : (B (headL p i0 i1 ++ gLines gs 0)).size ≤ 30 := by rw [B_size]; have := headL_le (p := p) (i0 := i0) (i1 := i1) (by omega) (by omega) (by omega); simp only [gLines, List.append_nil]; exact this
    clear hI hk3 hT0 e0
    go_wp2_with fail
    refine HL.out.mono ?_; rintro e w2 ⟨rfl, hb2⟩
    have hb2' := bel_trans A2 hb2
    have HK2 := Lib.hid (HK1.out.below hb2'); have HG2 := Lib.hid (HG1.out.below hb2'); have HB2 := Lib.hid (bel_trans HB1.out hb2')
    have G2 := G1.on hb2'
    clear c0 c1 c2 c3 c4 G1 hb2 hb2' A2 HK1 HG1 HB1 HL
    obtain ⟨c0, c1, c2, c3, c4⟩ := id G2
    go_wp2
    go_loopw [4, 21] (fun s i W => ∃ (k : Nat) (T : ByteArray), k ≤ gn ∧ i = .int .i64 k ∧ s = .string T ∧ T.size ≤ 30 + 22 * k ∧ Hid (T = B (headL p i0 i1 ++ gLines gs k)) ∧ Hid (Below w2.heap.size w2 W)) (fun _ i _ => gn - (intOf i).toNat)
    case atStart => exact ⟨0, _, by omega, rfl, rfl, by omega, rfl, Below.refl _ _⟩
    case round =>
      clear hs0
      obtain ⟨k, T, hk, rfl, rfl, hT, HT, HBW⟩ := hrel
      by_cases hlt : k < gn
      · have hlti : (k : Int) < (gn : Int) := by omega
        obtain ⟨gb, go, rfl, hgl, m0, m1, m2⟩ := (HK2.out.below HBW.out).g.at3 hlt
        obtain ⟨⟨gk0, gk3⟩, ⟨ga0, ga1⟩, gb0, gb1⟩ := HGO.out k hlt
        have HGL := Lib.hid (show gLines gs (k + 1) = gLines gs k ++ lineG (fld 3 gs k 0) (fld 3 gs k 1) (fld 3 gs k 2) from rfl)
        obtain ⟨Q, hQ⟩ : ∃ Q, fld 3 gs k 0 = Q := ⟨_, rfl⟩
        obtain ⟨X, hX⟩ : ∃ X, fld 3 gs k 1 = X := ⟨_, rfl⟩
        obtain ⟨Y, hY⟩ : ∃ Y, fld 3 gs k 2 = Y := ⟨_, rfl⟩
        rw [hQ] at m0 gk0 gk3 HGL; rw [hX] at m1 ga0 ga1 HGL; rw [hY] at m2 gb0 gb1 HGL
        clear hQ hX hY
        obtain ⟨q, rfl⟩ : ∃ q : Nat, Q = q := ⟨Q.toNat, by omega⟩
        have hq4 : q < 4 := by omega
        have hqi : (q : Int) < 4 := by omega
        obtain ⟨wo, hwo⟩ : ∃ wo : World, wo = wr := ⟨_, rfl⟩
        subst hwo
        have AG := bel_alloc wo (.cells #[.int .i64 q, .int .i64 X, .int .i64 Y] 65)
        have G0 := B3.new (w := wo) (x0 := .int .i64 q) (x1 := .int .i64 X) (x2 := .int .i64 Y) (t := 65)
        have hz : (wo.alloc (.cells #[.int .i64 q, .int .i64 X, .int .i64 Y] 65)).heap.size = wo.heap.size + 1 := by simp
        have GLo := (HG2.out.below HBW.out).below AG
        have wq := GLo.wd q hq4
        have hwk := wordK_le q
        obtain ⟨e0, e1, e2⟩ := id G0
        by_cases h3 : q = 3
        · have h3i : ((q : Int) == 3) = true := by rw [h3]; rfl
          have h3e : (q : Int) = 3 := by omega
          clear h3
          have A5 := bel_alloc (wo.alloc (.cells #[.int .i64 q, .int .i64 X, .int .i64 Y] 65)) (.cells #[.int .i64 X] 3)
          have hI := Ints.lit [X] #[.int .i64 X] 3 (w := (wo.alloc (.cells #[.int .i64 q, .int .i64 X, .int .i64 Y] 65))) (m := wo.heap.size + 1) hz.symm rfl (by simp) (by intro x hx; simp at hx; unfold Fits; omega)
          have hk1 : okN [X] := by intro x hx; simp at hx; omega
          have HL := Lib.hid (i_line (wordK q) _ 1 1 [X] _ ((GLo.below A5).below (bel_drew _)) (hI.below (bel_drew _)) hk1 (by omega) (by omega))
          have hE : wordK q ++ (oNums [X] 1 ++ [10]) = lineG q X Y := by simp [lineG, oNums, nth, h3e]
          rw [hE] at HL; clear hE hI hk1 h3e
          have sL : (B (lineG q X Y)).size ≤ 22 := by rw [B_size]; exact lineG_le (by omega) (by omega)
          have u0 : ¬ 9223372036854775807 < T.size + (B (lineG q X Y)).size := by omega
          have HBo := Lib.hid (bel_trans (bel_trans AG A5) (bel_drew _))
          have wq1 := cell_on wq A5; have e0l := cell_on e0 A5; have e1l := cell_on e1 A5; have e2l := cell_on e2 A5
          clear A5
          go_wp2_with fail
          go_region_law (go_simp; go_at_call 49; refine HL.out.mono ?_; rintro e w4 ⟨rfl, hb4⟩; have HB4 := Lib.hid (bel_trans HBo.out hb4))
          all_goals
            clear wq wq1 e0 e1 e2 e0l e1l e2l u0
            go_wp2
            go_roundw
            case rel =>
              refine ⟨k + 1, _, by omega, by first | go_num | (simp; omega), rfl, ?_, ?_, (show Hid _ from HBW.out.trans (HB4.out.mono (by have := HBW.out.size; omega)))⟩
              · rw [ByteArray.size_append]; omega
              · show _ = _; rw [HT.out, B_app, HGL.out, List.append_assoc]
            case measure => simp [intOf]; omega
        · have h3i : ((q : Int) == 3) = false := by simp only [beq_eq_false_iff_ne, ne_eq]; omega
          have h3e : ¬ (q : Int) = 3 := by omega
          have A5 := bel_alloc (wo.alloc (.cells #[.int .i64 q, .int .i64 X, .int .i64 Y] 65)) (.cells #[.int .i64 X, .int .i64 Y] 3)
          have hI := Ints.lit [X, Y] #[.int .i64 X, .int .i64 Y] 3 (w := (wo.alloc (.cells #[.int .i64 q, .int .i64 X, .int .i64 Y] 65))) (m := wo.heap.size + 1) hz.symm rfl (by simp) (by intro x hx; simp at hx; unfold Fits; rcases hx with rfl | rfl <;> omega)
          have hk1 : okN [X, Y] := by intro x hx; simp at hx; rcases hx with rfl | rfl <;> omega
          have HL := Lib.hid (i_line (wordK q) _ 2 2 [X, Y] _ ((GLo.below A5).below (bel_drew _)) (hI.below (bel_drew _)) hk1 (by omega) (by omega))
          have hE : wordK q ++ (oNums [X, Y] 2 ++ [10]) = lineG q X Y := by simp [lineG, oNums, nth, h3e]
          rw [hE] at HL; clear hE hI hk1 h3e
          have sL : (B (lineG q X Y)).size ≤ 22 := by rw [B_size]; exact lineG_le (by omega) (by omega)
          have u0 : ¬ 9223372036854775807 < T.size + (B (lineG q X Y)).size := by omega
          have HBo := Lib.hid (bel_trans (bel_trans AG A5) (bel_drew _))
          have wq1 := cell_on wq A5; have e0l := cell_on e0 A5; have e1l := cell_on e1 A5; have e2l := cell_on e2 A5
          clear A5
          go_wp2_with fail
          go_region_law (go_simp; go_at_call 49; refine HL.out.mono ?_; rintro e w4 ⟨rfl, hb4⟩; have HB4 := Lib.hid (bel_trans HBo.out hb4))
          all_goals
            clear wq wq1 e0 e1 e2 e0l e1l e2l u0
            go_wp2
            go_roundw
            case rel =>
              refine ⟨k + 1, _, by omega, by first | go_num | (simp; omega), rfl, ?_, ?_, (show Hid _ from HBW.out.trans (HB4.out.mono (by have := HBW.out.size; omega)))⟩
              · rw [ByteArray.size_append]; omega
              · show _ = _; rw [HT.out, B_app, HGL.out, List.append_assoc]
            case measure => simp [intOf]; omega
      · obtain rfl : gn = k := by omega
        have hnl : ¬ ((gn : Int) < (gn : Int)) := by omega
        clear hlt
        obtain ⟨wo, hwo⟩ : ∃ wo : World, wo = wr := ⟨_, rfl⟩
        subst hwo
        obtain ⟨b0, b1, b2, b3, b4⟩ := G2.on HBW.out
        have HL := Lib.hid (i_line wordO oa on oc os _ (HG2.out.below HBW.out) (HK2.out.below HBW.out).o HO.out (by omega) (by decide))
        have sL : (B (wordO ++ (oNums os on ++ [10]))).size ≤ 5 + 8 * on := by
          rw [B_size]
          have := oNums_le HO.out (n := on) (by omega)
          simp only [List.length_append, wordO, List.length_cons, List.length_nil]
          omega
        obtain ⟨SO, hSO⟩ : ∃ S, S = B (wordO ++ (oNums os on ++ [10])) := ⟨_, rfl⟩
        rw [← hSO] at HL sL
        have HSO := Lib.hid hSO; clear hSO
        have u0 : ¬ 9223372036854775807 < T.size + SO.size := by omega
        have HE := Lib.hid (show T ++ SO = B (textL p i0 i1 gs gn os) by
          rw [HT.out, HSO.out, B_app]
          simp [textL, hlo])
        go_wp2_with fail
        refine HL.out.mono ?_; rintro e w6 ⟨rfl, hb6⟩
        go_wp2
        exact bodyPost_ret (v := .tuple #[.string (T ++ SO), .bool true]) (by simp [results, Tryz.results16, go_sem]) rfl ⟨by rw [HE.out] <;> rfl, bel_trans (HB2.out.trans (HBW.out.mono HB2.out.size)) hb6⟩
end Go.Proofs.YtfichpppjpgahaaGreatDoor
namespace Go.Proofs.YtfichpppjpgahaaGreatDoor
set_option linter.unusedVariables false
set_option linter.unusedSimpArgs false

theorem dec_small {n : Nat} (h : n < 10) : Lib.decDigits n = [UInt8.ofNat (48 + n)] := Lib.decDigits_one h
theorem dec_big {n : Nat} (h : ¬ n < 10) : Lib.decDigits n = Lib.decDigits (n / 10) ++ [UInt8.ofNat (48 + n % 10)] := by rw [Lib.decDigits, dif_neg h]
theorem dgt {d : Nat} (h : d < 10) : (UInt8.ofNat (48 + d)).toNat = 48 + d := by simp; omega
def digs (l : List UInt8) : Prop := ∀ c ∈ l, 48 ≤ c.toNat ∧ c.toNat ≤ 57
theorem dec_digs : ∀ n, digs (Lib.decDigits n) := by
  intro n
  induction n using Nat.strongRecOn with
  | _ n ih =>
  by_cases h : n < 10
  · rw [dec_small h]
    intro c hc
    simp only [List.mem_singleton] at hc
    subst hc
    rw [dgt h]; omega
  · rw [dec_big h]
    intro c hc
    rcases List.mem_append.1 hc with e | e
    · exact ih (n / 10) (by omega) c e
    · simp only [List.mem_singleton] at e
      subst e
      rw [dgt (by omega)]; omega
theorem dec_pos (n : Nat) : 1 ≤ (Lib.decDigits n).length := by
  by_cases h : n < 10
  · rw [dec_small h]; simp
  · rw [dec_big h]; simp
theorem dec_len : ∀ (k n : Nat), n < 10 ^ (k + 1) → (Lib.decDigits n).length ≤ k + 1
  | 0, n, h => by rw [dec_small (by omega)]; simp
  | k + 1, n, h => by
    by_cases h1 : n < 10
    · rw [dec_small h1]; simp
    · rw [dec_big h1, List.length_append, List.length_singleton]
      have := dec_len k (n / 10) (by rw [Nat.pow_succ] at h; omega)
      omega
theorem dec_head : ∀ n, 1 ≤ n → (Lib.decDigits n).headD 0 ≠ 48 := by
  intro n
  induction n using Nat.strongRecOn with
  | _ n ih =>
  intro hn
  by_cases h : n < 10
  · rw [dec_small h]
    intro e
    have := congrArg UInt8.toNat e
    simp only [List.headD_cons] at this
    rw [dgt h] at this
    have e48 : (48 : UInt8).toNat = 48 := rfl
    omega
  · rw [dec_big h]
    have := ih (n / 10) (by omega) (by omega)
    have hp := dec_pos (n / 10)
    cases hd : Lib.decDigits (n / 10) with
    | nil => rw [hd] at hp; simp at hp
    | cons a r => rw [hd] at this; simpa using this
theorem rdF_snoc : ∀ (l : List UInt8) (c : UInt8) (a : Int), digs l → 48 ≤ c.toNat ∧ c.toNat ≤ 57 → rdF (l ++ [c]) a = 10 * rdF l a + ((c.toNat : Int) - 48)
  | [], c, a, _, hc => by
    show (if c.toNat < 48 ∨ 57 < c.toNat then (-1 : Int) else 10 * a + ((c.toNat : Int) - 48)) = 10 * a + ((c.toNat : Int) - 48)
    rw [if_neg (by omega)]
  | d :: r, c, a, hl, hc => by
    have hd := hl d (by simp)
    rw [List.cons_append, rdF, rdF, if_neg (by omega), if_neg (by omega)]
    exact rdF_snoc r c _ (fun x hx => hl x (by simp [hx])) hc
theorem rdF_dec : ∀ n : Nat, rdF (Lib.decDigits n) 0 = n := by
  intro n
  induction n using Nat.strongRecOn with
  | _ n ih =>
  by_cases h : n < 10
  · rw [dec_small h]
    have hd := dgt h
    have := rdF_snoc [] (UInt8.ofNat (48 + n)) 0 (fun x hx => by cases hx) (by omega)
    rw [List.nil_append] at this
    rw [this, hd]
    show 10 * (0 : Int) + _ = _
    omega
  · rw [dec_big h]
    have hd := dgt (d := n % 10) (by omega)
    rw [rdF_snoc _ _ _ (dec_digs _) (by omega), ih (n / 10) (by omega), hd]
    omega
theorem read_dig {x : Int} (h : 0 ≤ x ∧ x ≤ 1000) : readL (dig x) = x := by
  unfold readL dig
  have h1 := dec_pos x.toNat
  have h2 := dec_len 3 x.toNat (by omega)
  rw [if_pos (by omega), rdF_dec]
  rw [if_neg]
  · omega
  · rintro ⟨e, l⟩
    by_cases hx : x.toNat < 10
    · rw [dec_small hx] at l; simp at l
    · exact dec_head _ (by omega) e
theorem pu_snoc : ∀ (l : List UInt8) (c : UInt8) (a u : Nat), Lib.parseUint10 a l = .ok u → u ≤ 1000000 → 48 ≤ c.toNat ∧ c.toNat ≤ 57 → Lib.parseUint10 a (l ++ [c]) = .ok (u * 10 + (c.toNat - 48))
  | [], c, a, u, h, hu, hc => by
    simp only [Lib.parseUint10] at h
    injection h with h
    subst h
    rw [List.nil_append]
    simp only [Lib.parseUint10]
    rw [if_pos (by omega), if_neg (by omega), if_neg (by omega)]
  | d :: r, c, a, u, h, hu, hc => by
    rw [List.cons_append]
    simp only [Lib.parseUint10] at h ⊢
    split at h
    · rename_i h1
      rw [if_pos h1]
      split at h
      · cases h
      · rename_i h2
        rw [if_neg h2]
        split at h
        · cases h
        · rename_i h3
          rw [if_neg h3]
          exact pu_snoc r c _ u h hu hc
    · cases h
theorem pu_dec : ∀ n : Nat, n ≤ 1000000 → Lib.parseUint10 0 (Lib.decDigits n) = .ok n := by
  intro n
  induction n using Nat.strongRecOn with
  | _ n ih =>
  intro hn
  by_cases h : n < 10
  · rw [dec_small h]
    have hd := dgt h
    have := pu_snoc [] (UInt8.ofNat (48 + n)) 0 0 rfl (by omega) (by omega)
    rw [List.nil_append] at this
    rw [this, hd]
    congr 1; omega
  · rw [dec_big h]
    have hd := dgt (d := n % 10) (by omega)
    rw [pu_snoc _ _ _ (n / 10) (ih (n / 10) (by omega) (by omega)) (by omega) (by omega), hd]
    congr 1; omega
theorem atoi_dig {x : Int} (h : 0 ≤ x ∧ x ≤ 1000) : atoiV (dig x) = x := by
  unfold atoiV dig
  have hp := dec_pos x.toNat
  have hu := pu_dec x.toNat (by omega)
  have hdg := dec_digs x.toNat
  cases hd : Lib.decDigits x.toNat with
  | nil => rw [hd] at hp; simp at hp
  | cons c r =>
    rw [hd] at hu hdg
    have hc := hdg c (by simp)
    have e : Lib.atoiAll (c :: r) = .ok (x.toNat : Int) := by
      unfold Lib.atoiAll
      simp only []
      rw [if_neg (by omega)]
      unfold Lib.parseMag
      rw [if_neg (by simp), hu]
      simp only []
      rw [if_neg (by omega), if_neg (by omega), if_neg (by omega)]
    rw [e]
    show (x.toNat : Int) = x
    omega
end Go.Proofs.YtfichpppjpgahaaGreatDoor
namespace Go.Proofs.YtfichpppjpgahaaGreatDoor
set_option linter.unusedVariables false
set_option linter.unusedSimpArgs false

theorem ib_none {b : UInt8} : ∀ {s : List UInt8}, b ∉ s → Lib.indexByte s b = -1
  | [], _ => rfl
  | c :: r, h => by
    have h1 : ¬ c = b := fun e => h (by simp [e])
    have h2 := ib_none (b := b) (s := r) (fun e => h (List.mem_cons_of_mem _ e))
    unfold Lib.indexByte
    rw [if_neg (by simpa using h1), h2]
    rfl
theorem ib_some {b : UInt8} {r : List UInt8} : ∀ {x : List UInt8}, b ∉ x → Lib.indexByte (x ++ b :: r) b = x.length
  | [], _ => by show Lib.indexByte (b :: r) b = 0; unfold Lib.indexByte; rw [if_pos (by simp)]
  | c :: x, h => by
    have h1 : ¬ c = b := fun e => h (by simp [e])
    have h2 := ib_some (b := b) (r := r) (x := x) (fun e => h (List.mem_cons_of_mem _ e))
    rw [List.cons_append]
    unfold Lib.indexByte
    rw [if_neg (by simpa using h1), h2, if_neg (by simp only [beq_iff_eq]; omega)]
    simp
theorem sp_none {b : UInt8} : ∀ {s cur : List UInt8}, b ∉ s → sp b cur s = [cur ++ s]
  | [], cur, _ => by simp [sp]
  | c :: r, cur, h => by
    have h1 : ¬ c = b := fun e => h (by simp [e])
    rw [sp, if_neg h1, sp_none (fun e => h (List.mem_cons_of_mem _ e))]
    simp
theorem sp_some {b : UInt8} {r : List UInt8} : ∀ {x cur : List UInt8}, b ∉ x → sp b cur (x ++ b :: r) = (cur ++ x) :: sp b [] r
  | [], cur, _ => by rw [List.nil_append, sp, if_pos rfl]; simp
  | c :: x, cur, h => by
    have h1 : ¬ c = b := fun e => h (by simp [e])
    rw [List.cons_append, sp, if_neg h1, sp_some (fun e => h (List.mem_cons_of_mem _ e))]
    simp
theorem first_of {b : UInt8} : ∀ {s : List UInt8}, b ∈ s → ∃ x r, s = x ++ b :: r ∧ b ∉ x
  | [], h => by cases h
  | c :: s, h => by
    by_cases e : c = b
    · subst e; exact ⟨[], s, rfl, by simp⟩
    · have h' : b ∈ s := by rcases List.mem_cons.1 h with q | q; exact absurd q.symm e; exact q
      obtain ⟨x, r, e1, e2⟩ := first_of h'
      exact ⟨c :: x, r, by rw [e1]; rfl, by simp [e2]; exact fun q => e q.symm⟩
theorem splitK_sp (b : UInt8) : ∀ (k : Nat) (s : List UInt8), (sp b [] s).length ≤ k + 1 → Lib.splitK [b] 0 k s = sp b [] s
  | 0, s, h => by
    by_cases hb : b ∈ s
    · obtain ⟨x, r, rfl, hx⟩ := first_of hb
      rw [sp_some hx] at h
      have := sp_len b r []
      simp only [List.length_cons] at h; omega
    · rw [sp_none hb]; rfl
  | k + 1, s, h => by
    by_cases hb : b ∈ s
    · obtain ⟨x, r, rfl, hx⟩ := first_of hb
      rw [sp_some hx] at h ⊢
      rw [Lib.splitK, Lib.index_one, ib_some hx, if_neg (by simp only [beq_iff_eq]; omega)]
      simp only [List.length_cons] at h
      rw [show ((x.length : Int).toNat + 0) = x.length by omega, show ((x.length : Int).toNat + [b].length) = x.length + 1 by simp, List.take_left' rfl, show (x ++ b :: r).drop (x.length + 1) = r by rw [List.drop_append, List.drop_of_length_le (by omega)]; simp, splitK_sp b k r (by omega)]
      simp
    · rw [sp_none hb, Lib.splitK, Lib.index_one, ib_none hb, if_pos (by decide)]
      simp
theorem sp_lines : ∀ (L : List (List UInt8)) (r : List UInt8), (∀ x ∈ L, (10 : UInt8) ∉ x) → sp 10 [] (L.flatMap (fun x => x ++ [10]) ++ r) = L ++ sp 10 [] r
  | [], r, _ => rfl
  | x :: L, r, h => by
    have e : (x :: L).flatMap (fun x => x ++ [10]) ++ r = x ++ 10 :: (L.flatMap (fun x => x ++ [10]) ++ r) := by simp
    rw [e, sp_some (h x (by simp)), sp_lines L r (fun y hy => h y (by simp [hy]))]
    simp
theorem dig_no {b : UInt8} (hb : b.toNat < 48) (x : Int) : b ∉ dig x := fun e => by have := dec_digs x.toNat b e; omega
theorem sp_words : ∀ (xs : List Int) (w : List UInt8), (32 : UInt8) ∉ w → sp 32 [] (w ++ xs.flatMap numS) = w :: xs.map dig
  | [], w, h => by rw [List.flatMap_nil, List.append_nil, sp_none h]; simp
  | a :: xs, w, h => by
    have e : w ++ (a :: xs).flatMap numS = w ++ 32 :: (dig a ++ xs.flatMap numS) := by simp [numS]
    rw [e, sp_some h, sp_words xs (dig a) (dig_no (by decide) a)]
    simp
def gateW (k a b : Int) : List UInt8 := wordK k ++ (if k = 3 then [a] else [a, b]).flatMap numS
def headW (p i0 i1 : Int) : List UInt8 := wordA ++ [p, i0, i1].flatMap numS
def outsW (os : List Int) : List UInt8 := wordO ++ os.flatMap numS
def gWs (gs : List Int) : Nat → List (List UInt8)
  | 0 => []
  | n + 1 => gWs gs n ++ [gateW (fld 3 gs n 0) (fld 3 gs n 1) (fld 3 gs n 2)]
theorem gWs_flat (gs : List Int) : ∀ n, gLines gs n = (gWs gs n).flatMap (fun x => x ++ [10])
  | 0 => rfl
  | n + 1 => by
    rw [gLines, gWs, List.flatMap_append, gWs_flat gs n]
    congr 1
    unfold lineG gateW
    split <;> simp
theorem oNums_take (os : List Int) : ∀ n, n ≤ os.length → oNums os n = (os.take n).flatMap numS
  | 0, _ => rfl
  | n + 1, h => by
    rw [oNums, oNums_take os n (by omega), List.take_succ_eq_append_getElem (by omega), List.flatMap_append, nth_get (by omega)]
    simp
theorem textL_lines (p i0 i1 : Int) (gs : List Int) (gn : Nat) (os : List Int) : textL p i0 i1 gs gn os = (headW p i0 i1 :: (gWs gs gn ++ [outsW os])).flatMap (fun x => x ++ [10]) ++ [] := by
  unfold textL headL headW outsW
  rw [gWs_flat, oNums_take os _ (Nat.le_refl _), List.take_length]
  simp
theorem no10W (k : Int) : (10 : UInt8) ∉ wordK k ∧ (32 : UInt8) ∉ wordK k := by
  unfold wordK
  split
  · decide
  · split
    · decide
    · split <;> decide
theorem no10N (xs : List Int) : (10 : UInt8) ∉ xs.flatMap numS := by
  intro h
  obtain ⟨a, _, ha⟩ := List.mem_flatMap.1 h
  unfold numS at ha
  rcases List.mem_cons.1 ha with e | e
  · exact absurd e (by decide)
  · exact dig_no (by decide) a e
theorem gWs_mem {gs : List Int} : ∀ {n : Nat} {x : List UInt8}, x ∈ gWs gs n → ∃ k a b, x = gateW k a b
  | 0, x, h => by cases h
  | n + 1, x, h => by
    rcases List.mem_append.1 h with e | e
    · exact gWs_mem e
    · simp at e; exact ⟨_, _, _, e⟩
theorem sp_text (p i0 i1 : Int) (gs : List Int) (gn : Nat) (os : List Int) : sp 10 [] (textL p i0 i1 gs gn os) = headW p i0 i1 :: (gWs gs gn ++ [outsW os, []]) := by
  rw [textL_lines, sp_lines]
  · simp [sp]
  · intro x hx
    rcases List.mem_cons.1 hx with e | e
    · subst e
      intro h
      rcases List.mem_append.1 h with q | q
      · exact absurd q (by decide)
      · exact no10N _ q
    · rcases List.mem_append.1 e with q | q
      · obtain ⟨k, a, b, rfl⟩ := gWs_mem q
        intro h
        rcases List.mem_append.1 h with z | z
        · exact (no10W k).1 z
        · exact no10N _ z
      · simp at q
        subst q
        intro h
        rcases List.mem_append.1 h with z | z
        · exact absurd z (by decide)
        · exact no10N _ z
theorem gWs_len (gs : List Int) : ∀ n, (gWs gs n).length = n
  | 0 => rfl
  | n + 1 => by rw [gWs, List.length_append, gWs_len gs n]; rfl
/-- A reader that goes from line to line: what it must do at each kind of line. -/
structure Rdr (f : Cand → List UInt8 → Cand) : Prop where
  h : ∀ c p i0 i1, (0 ≤ p ∧ p ≤ 1000) → (0 ≤ i0 ∧ i0 ≤ 1000) → (0 ≤ i1 ∧ i1 ≤ 1000) → f c (headW p i0 i1) = { c with p := p, i0 := i0, i1 := i1 }
  g : ∀ c k a b, (0 ≤ k ∧ k ≤ 3) → (0 ≤ a ∧ a ≤ 1000) → (0 ≤ b ∧ b ≤ 1000) → (k = 3 → b = 0) → f c (gateW k a b) = c.add k a b
  o : ∀ c os, okN os → os.length ≤ 20 → f c (outsW os) = { c with os := os }
  n : ∀ c, f c [] = c
theorem gs_take {gs : List Int} : ∀ (n : Nat), 3 * n ≤ gs.length → gs.take (3 * (n + 1)) = gs.take (3 * n) ++ (gs.drop (3 * n)).take 3 := fun n h => by
  rw [show 3 * (n + 1) = 3 * n + 3 by omega, List.take_add]
theorem rd_gates {f : Cand → List UInt8 → Cand} (R : Rdr f) {gs : List Int} {p i0 i1 : Int} : ∀ n, 3 * n ≤ gs.length → okG gs n → (∀ i, i < n → fld 3 gs i 0 = 3 → fld 3 gs i 2 = 0) → (gWs gs n).foldl f ⟨p, i0, i1, [], 0, []⟩ = ⟨p, i0, i1, gs.take (3 * n), n, []⟩
  | 0, _, _, _ => rfl
  | n + 1, hl, hg, hb => by
    rw [gWs, List.foldl_append, rd_gates R n (by omega) (fun i hi => hg i (by omega)) (fun i hi => hb i (by omega))]
    obtain ⟨h1, h2, h3⟩ := hg n (by omega)
    show f _ _ = _
    rw [R.g _ _ _ _ h1 h2 h3 (hb n (by omega))]
    unfold Cand.add
    congr 1
    rw [gs_take n (by omega)]
    congr 1
    have e : ∀ j, j < 3 → fld 3 gs n j = gs[3 * n + j]! := fun j hj => by show nth gs (n * 3 + j) = _; rw [Nat.mul_comm n 3, nth_get (by omega), getElem!_pos gs _ (by omega)]
    rw [e 0 (by omega), e 1 (by omega), e 2 (by omega)]
    apply List.ext_getElem
    · simp; omega
    · intro i h1 h2
      simp only [List.length_cons, List.length_nil] at h1
      rw [List.getElem_take, List.getElem_drop]
      rcases (show i = 0 ∨ i = 1 ∨ i = 2 by omega) with rfl | rfl | rfl
      · show gs[3 * n + 0]! = _; rw [getElem!_pos gs _ (by omega)]
      · show gs[3 * n + 1]! = _; rw [getElem!_pos gs _ (by omega)]
      · show gs[3 * n + 2]! = _; rw [getElem!_pos gs _ (by omega)]
theorem rd_text {f : Cand → List UInt8 → Cand} (R : Rdr f) {p i0 i1 : Int} {gs os : List Int} {gn : Nat} (hl : gs.length = 3 * gn) (h : arC p i0 i1 gs gn os = true) :
    (sp 10 [] (textL p i0 i1 gs gn os)).foldl f Cand.zero = ⟨p, i0, i1, gs, gn, os⟩ := by
  obtain ⟨hp, h0, h1, hg, ho, hgn, hos⟩ := arC_ok h
  rw [sp_text, List.foldl_cons, R.h _ _ _ _ (by omega) (by omega) (by omega), List.foldl_append]
  have hb : ∀ i, i < gn → fld 3 gs i 0 = 3 → fld 3 gs i 2 = 0 := fun i hi e => by
    have k := gatesA_at (arC_iff.1 h).2.1 hi
    rw [e, arB_3 (by omega) (by omega), Bool.and_eq_true, Bool.and_eq_true, decide_eq_true_iff, decide_eq_true_iff] at k
    exact k.2.2
  show (([outsW os, []] : List (List UInt8)).foldl f ((gWs gs gn).foldl f ⟨p, i0, i1, [], 0, []⟩)) = _
  rw [rd_gates R gn (by omega) hg hb, List.foldl_cons, List.foldl_cons, List.foldl_nil, R.o _ _ ho hos, R.n]
  rw [← hl, List.take_length]
end Go.Proofs.YtfichpppjpgahaaGreatDoor
namespace Go.Proofs.YtfichpppjpgahaaGreatDoor
set_option linter.unusedVariables false
set_option linter.unusedSimpArgs false

theorem map_read {xs : List Int} (h : okN xs) : (xs.map dig).map readL = xs := by
  rw [List.map_map]
  exact (List.map_congr_left (fun x hx => read_dig (h x hx))).trans (List.map_id xs)
theorem wA_O : ¬ wordA = wordO := by decide
theorem wK_A (k : Int) : ¬ wordK k = wordA := by
  unfold wordK; split
  · decide
  · split
    · decide
    · split <;> decide
theorem wK_O (k : Int) : ¬ wordK k = wordO := by
  unfold wordK; split
  · decide
  · split
    · decide
    · split <;> decide
theorem no32W (k a b : Int) : sp 32 [] (gateW k a b) = wordK k :: (if k = 3 then [a] else [a, b]).map dig := sp_words _ _ (no10W k).2
theorem addM_one {k a b : Int} (hk : 0 ≤ k ∧ k ≤ 2) (c : Cand) : addM (wordK k) a b c 3 = c.add k a b := by
  rcases (show k = 0 ∨ k = 1 ∨ k = 2 by omega) with rfl | rfl | rfl
  · unfold addM; rw [if_neg (by decide)]; unfold addM; rw [if_neg (by decide)]; unfold addM; rw [if_pos (by decide)]; rfl
  · unfold addM; rw [if_neg (by decide)]; unfold addM; rw [if_pos (by decide)]; unfold addM; rw [if_neg (by decide)]; rfl
  · unfold addM; rw [if_pos (by decide)]; unfold addM; rw [if_neg (by decide)]; unfold addM; rw [if_neg (by decide)]; rfl
theorem rdr_S : Rdr stepS where
  h := fun c p i0 i1 hp h0 h1 => by
    have e : sp 32 [] (headW p i0 i1) = wordA :: [p, i0, i1].map dig := sp_words _ _ (by decide)
    unfold stepS
    rw [e]
    have m : ([p, i0, i1].map dig).map readL = [p, i0, i1] := map_read (by intro x hx; simp at hx; rcases hx with rfl | rfl | rfl <;> assumption)
    show stepN c wordA (([p, i0, i1].map dig).map readL) = _
    rw [m]
    unfold stepN
    rw [if_pos ⟨rfl, rfl⟩]
    rfl
  g := fun c k a b hk ha hb h3 => by
    unfold stepS
    rw [no32W]
    show stepN c (wordK k) (((if k = 3 then [a] else [a, b]).map dig).map readL) = _
    by_cases e : k = 3
    · subst e
      rw [if_pos rfl, map_read (by intro x hx; simp at hx; subst hx; exact ha), h3 rfl]
      unfold stepN
      rw [if_neg (fun q => wK_A 3 q.1), if_neg (wK_O 3), if_pos ⟨rfl, rfl⟩]
      rfl
    · rw [if_neg e, map_read (by intro x hx; simp at hx; rcases hx with rfl | rfl <;> assumption)]
      unfold stepN
      rw [if_neg (fun q => wK_A k q.1), if_neg (wK_O k), if_neg (fun q => by have := q.2; simp at this), if_pos (show [a, b].length = 2 from rfl)]
      exact addM_one (by omega) c
  o := fun c os ho hl => by
    have e : sp 32 [] (outsW os) = wordO :: os.map dig := sp_words _ _ (by decide)
    unfold stepS
    rw [e]
    show stepN c wordO ((os.map dig).map readL) = _
    rw [map_read ho]
    unfold stepN
    rw [if_neg (fun q => wA_O q.1.symm), if_pos rfl]
  n := fun c => by
    show stepN c [] [] = c
    unfold stepN
    rw [if_neg (fun q => absurd q.1 (by decide)), if_neg (by decide), if_neg (fun q => absurd q.1 (by decide)), if_neg (by decide)]
theorem candS_take (l : List UInt8) : ∀ k, k ≤ (sp 10 [] l).length → candS l k = ((sp 10 [] l).take k).foldl stepS Cand.zero
  | 0, _ => rfl
  | k + 1, h => by
    rw [candS, candS_take l k (by omega), List.take_succ_eq_append_getElem (by omega), List.foldl_append]
    simp [List.getD_eq_getElem?_getD, List.getElem?_eq_getElem (show k < (sp 10 [] l).length by omega)]
def okC (c : Cand) : Prop := c.gs.length = 3 * c.gn
theorem okC_add {c : Cand} (h : okC c) (k a b : Int) : okC (c.add k a b) := by unfold okC Cand.add at *; simp; omega
theorem okC_addM {c : Cand} (h : okC c) (w : List UInt8) (a b : Int) : ∀ j, okC (addM w a b c j)
  | 0 => h
  | j + 1 => by
    unfold addM
    split
    · exact okC_add (okC_addM h w a b j) _ _ _
    · exact okC_addM h w a b j
theorem okC_S {c : Cand} (h : okC c) (x : List UInt8) : okC (stepS c x) := by
  unfold stepS stepN
  split
  · exact h
  · split
    · exact h
    · split
      · exact okC_add h _ _ _
      · split
        · exact okC_addM h _ _ _ _
        · exact h
theorem okC_fold {f : Cand → List UInt8 → Cand} (hf : ∀ c x, okC c → okC (f c x)) : ∀ (L : List (List UInt8)) (c : Cand), okC c → okC (L.foldl f c)
  | [], _, h => h
  | x :: L, c, h => okC_fold hf L _ (hf c x h)
/-- The gates of the four words. -/
def addW (h : List UInt8) (a b : Int) (c : Cand) : Cand := if h = wordK 0 then c.add 0 a b else if h = wordK 1 then c.add 1 a b else if h = wordK 2 then c.add 2 a b else if h = wordK 3 then c.add 3 a b else c
def stepT (c : Cand) (h : List UInt8) (ns : List Int) : Cand :=
  if h = wordA then { c with p := nth ns 0, i0 := nth ns 1, i1 := nth ns 2 }
  else if h = wordO then { c with os := ns }
  else addW h (nth ns 0) (nth ns 1) c
def wordsI (x : List UInt8) : List (List UInt8) := Lib.splitK [32] 0 (min 23 (x.length + 1) - 1) x
def linesI (x : List UInt8) : List (List UInt8) := Lib.splitK [10] 0 (min 104 (x.length + 1) - 1) x
def stepI (c : Cand) (x : List UInt8) : Cand := stepT c ((wordsI x).headD []) ((wordsI x).tail.map atoiV)
theorem okC_I {c : Cand} (h : okC c) (x : List UInt8) : okC (stepI c x) := by
  unfold stepI stepT addW
  split
  · exact h
  · split
    · exact h
    · split
      · exact okC_add h _ _ _
      · split
        · exact okC_add h _ _ _
        · split
          · exact okC_add h _ _ _
          · split
            · exact okC_add h _ _ _
            · exact h
theorem map_atoi {xs : List Int} (h : okN xs) : (xs.map dig).map atoiV = xs := by
  rw [List.map_map]
  exact (List.map_congr_left (fun x hx => atoi_dig (h x hx))).trans (List.map_id xs)
theorem wordsI_sp {x : List UInt8} (h : (sp 32 [] x).length ≤ 23) : wordsI x = sp 32 [] x := splitK_sp 32 _ _ (by have := sp_le 32 x []; omega)
theorem linesI_sp {x : List UInt8} (h : (sp 10 [] x).length ≤ 104) : linesI x = sp 10 [] x := splitK_sp 10 _ _ (by have := sp_le 10 x []; omega)
theorem addW_one {k a b : Int} (hk : 0 ≤ k ∧ k ≤ 3) (c : Cand) : addW (wordK k) a b c = c.add k a b := by
  rcases (show k = 0 ∨ k = 1 ∨ k = 2 ∨ k = 3 by omega) with rfl | rfl | rfl | rfl
  · unfold addW; rw [if_pos rfl]
  · unfold addW; rw [if_neg (by decide), if_pos rfl]
  · unfold addW; rw [if_neg (by decide), if_neg (by decide), if_pos rfl]
  · unfold addW; rw [if_neg (by decide), if_neg (by decide), if_neg (by decide), if_pos rfl]
theorem rdr_I : Rdr stepI where
  h := fun c p i0 i1 hp h0 h1 => by
    have e : sp 32 [] (headW p i0 i1) = wordA :: [p, i0, i1].map dig := sp_words _ _ (by decide)
    unfold stepI
    rw [wordsI_sp (by rw [e]; simp), e]
    have m : ([p, i0, i1].map dig).map atoiV = [p, i0, i1] := map_atoi (by intro x hx; simp at hx; rcases hx with rfl | rfl | rfl <;> assumption)
    show stepT c wordA (([p, i0, i1].map dig).map atoiV) = _
    rw [m]
    unfold stepT
    rw [if_pos rfl]
    rfl
  g := fun c k a b hk ha hb h3 => by
    unfold stepI
    rw [wordsI_sp (by rw [no32W]; split <;> simp), no32W]
    show stepT c (wordK k) (((if k = 3 then [a] else [a, b]).map dig).map atoiV) = _
    by_cases e : k = 3
    · subst e
      rw [if_pos rfl, map_atoi (by intro x hx; simp at hx; subst hx; exact ha), h3 rfl]
      unfold stepT
      rw [if_neg (wK_A 3), if_neg (wK_O 3)]
      exact addW_one hk c
    · rw [if_neg e, map_atoi (by intro x hx; simp at hx; rcases hx with rfl | rfl <;> assumption)]
      unfold stepT
      rw [if_neg (wK_A k), if_neg (wK_O k)]
      exact addW_one hk c
  o := fun c os ho hl => by
    have e : sp 32 [] (outsW os) = wordO :: os.map dig := sp_words _ _ (by decide)
    unfold stepI
    rw [wordsI_sp (by rw [e]; simp; omega), e]
    show stepT c wordO ((os.map dig).map atoiV) = _
    rw [map_atoi ho]
    unfold stepT
    rw [if_neg (fun q => wA_O q.symm), if_pos rfl]
  n := fun c => by
    unfold stepI
    rw [wordsI_sp (by simp [sp])]
    show stepT c [] [] = c
    unfold stepT addW
    rw [if_neg (by decide), if_neg (by decide), if_neg (by decide), if_neg (by decide), if_neg (by decide), if_neg (by decide)]
theorem pick_iff {c : Cand} {l : List UInt8} : pick2 c l = true ↔ arC c.p c.i0 c.i1 c.gs c.gn c.os = true ∧ textL c.p c.i0 c.i1 c.gs c.gn c.os = l := by
  unfold pick2; rw [Bool.and_eq_true, decide_eq_true_iff]
/-- Both readers answer alike. -/
theorem pa_eq (l : List UInt8) : paOf (candS l (sp 10 [] l).length) l = paOf ((linesI l).foldl stepI Cand.zero) l := by
  have eS : candS l (sp 10 [] l).length = (sp 10 [] l).foldl stepS Cand.zero := by rw [candS_take l _ (Nat.le_refl _), List.take_length]
  have oS : okC (candS l (sp 10 [] l).length) := by rw [eS]; exact okC_fold (fun c x h => okC_S h x) _ _ rfl
  have oI : okC ((linesI l).foldl stepI Cand.zero) := okC_fold (fun c x h => okC_I h x) _ _ rfl
  have key : ∀ c : Cand, okC c → pick2 c l = true → candS l (sp 10 [] l).length = c ∧ (linesI l).foldl stepI Cand.zero = c := by
    intro c hc h
    obtain ⟨h1, h2⟩ := pick_iff.1 h
    have a := rd_text rdr_S hc h1
    have b := rd_text rdr_I hc h1
    rw [h2] at a b
    have hl : (sp 10 [] l).length ≤ 104 := by
      rw [← h2, sp_text]
      obtain ⟨_, _, _, _, _, hgn, _⟩ := arC_ok h1
      simp [gWs_len]; omega
    exact ⟨eS.trans a, by rw [linesI_sp hl]; exact b⟩
  by_cases hs : pick2 (candS l (sp 10 [] l).length) l = true
  · rw [(key _ oS hs).2]
  · by_cases hi : pick2 ((linesI l).foldl stepI Cand.zero) l = true
    · rw [(key _ oI hi).1]
    · unfold paOf
      rw [if_neg hs, if_neg hi]
end Go.Proofs.YtfichpppjpgahaaGreatDoor
namespace Go.Proofs.YtfichpppjpgahaaGreatDoor
open Go.RowKit
set_option linter.unusedVariables false
set_option linter.unusedSimpArgs false
set_option maxRecDepth 10000

theorem splitB_B (b : UInt8) (k : Nat) (l : List UInt8) : Lib.splitB ⟨#[b]⟩ 0 k (B l) = (Lib.splitK [b] 0 k l).map B := by
  have h := Lib.splitB_data ⟨#[b]⟩ 0 k (B l)
  rw [B_data] at h
  rw [← h, List.map_map]
  exact (List.map_id _).symm.trans (List.map_congr_left (fun x _ => B_of x))
theorem splitK_size (b : UInt8) : ∀ (k : Nat) (l : List UInt8), ∀ x ∈ Lib.splitK [b] 0 k l, x.length ≤ l.length
  | 0, l, x, h => by simp [Lib.splitK] at h; subst h; exact Nat.le_refl _
  | k + 1, l, x, h => by
    unfold Lib.splitK at h
    split at h
    · simp at h; subst h; exact Nat.le_refl _
    · rcases List.mem_cons.1 h with e | e
      · subst e; rw [List.length_take]; omega
      · have := splitK_size b k _ x e
        rw [List.length_drop] at this; omega
theorem splitK_pos (b : UInt8) : ∀ (k : Nat) (l : List UInt8), 1 ≤ (Lib.splitK [b] 0 k l).length ∧ (Lib.splitK [b] 0 k l).length ≤ k + 1
  | 0, l => by simp [Lib.splitK]
  | k + 1, l => by
    unfold Lib.splitK
    split
    · simp
    · have := splitK_pos b k (l.drop ((Lib.index l [b]).toNat + [b].length)); simp only [List.length_cons] at this ⊢; simp at this ⊢; omega
theorem i_SplitN (b : UInt8) (n : Nat) (l : List UInt8) (w : World) (g : GL w) (hl : l.length ≤ 1000000) (hn : 1 ≤ n ∧ n ≤ 1000) :
    Calls Tryz.prog 36 #[.string (B l), .string ⟨#[b]⟩, .int .i64 n] w fun e w' => ∃ r c, e = .returned (.slice r (Lib.splitK [b] 0 (min n (l.length + 1) - 1) l).length c) ∧ Strs w' r (Lib.splitK [b] 0 (min n (l.length + 1) - 1) l).length c (Lib.splitK [b] 0 (min n (l.length + 1) - 1) l) ∧ (∀ q o, r = some ⟨q, o, none⟩ → w.heap.size ≤ q ∧ q < w'.heap.size) ∧ Below w.heap.size w w' := by
  obtain ⟨m, hm⟩ := g.ml
  have hs : (B l).size = l.length := B_size l
  refine (Tryz.strings_SplitN (B l) ⟨#[b]⟩ n m w (by omega) hm (Nat.le_refl 1) hn.1 (by omega)).mono ?_
  rintro e w' ⟨rfl, rfl⟩
  rw [hs, splitB_B, List.length_map]
  obtain ⟨xs, hxs⟩ : ∃ xs, Lib.splitK [b] 0 (min n (l.length + 1) - 1) l = xs := ⟨_, rfl⟩
  have hp := splitK_pos b (min n (l.length + 1) - 1) l
  rw [hxs] at hp ⊢
  refine ⟨_, _, rfl, ⟨rfl, by omega, by omega, fun i hi => ⟨w.heap.size, 0, rfl, by simp, ?_⟩⟩, fun q o e => ?_, bel_alloc w _⟩
  · rw [Nat.zero_add]
    rw [World.cell?_alloc_at _ _ _ _ rfl]
    unfold Lib.cellsOf
    rw [List.getElem?_toArray, List.getElem?_append_left (by simpa using hi)]
    simp [hi]
  · simp only [Option.some.injEq, Addr.mk.injEq] at e
    obtain ⟨rfl, _⟩ := e
    simp
end Go.Proofs.YtfichpppjpgahaaGreatDoor
