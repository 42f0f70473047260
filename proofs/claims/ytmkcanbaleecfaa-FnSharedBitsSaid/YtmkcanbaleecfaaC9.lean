/-
  Contracts: the run of a shared circuit, both sides.
-/
import Derived.Test.YtmkcanbaleecfaaTr
import Derived.BigQuiet
import Derived.Deep.RegionHeld3
namespace Go.Proofs.Ytmkcanbaleecfaa
open Go.RowKit
set_option linter.unusedVariables false
set_option linter.unusedSimpArgs false
set_option maxRecDepth 10000

theorem shU_bit {key : Int} {us vs : List Int} (h : bitsB us = true) : bit1 (shU key us vs) := by
  intro x hx
  unfold shU at hx
  rcases List.mem_append.1 hx with k | k
  · simp only [xrL, List.mem_map] at k; obtain ⟨i, _, rfl⟩ := k; exact xr_bd _ _
  · simp only [bitsL, List.mem_map] at k; obtain ⟨i, _, rfl⟩ := k; exact bitAt_bd _ _
theorem shV_bit {key : Int} {us vs : List Int} (h : bitsB vs = true) : bit1 (shV key us vs) := by
  intro x hx
  unfold shV at hx
  rcases List.mem_append.1 hx with k | k
  · simp only [bitsL, List.mem_map] at k; obtain ⟨i, _, rfl⟩ := k; exact bitAt_bd _ _
  · simp only [xrL, List.mem_map] at k; obtain ⟨i, _, rfl⟩ := k; exact xr_bd _ _
theorem runStep_and (key : Int) (k q q' c : Nat) (u v o : List Int) (lo : o.length = c * 3) (d e : Int) (hd : d = xr (xr (xr (nth u q) (nth v q)) (bt key c 2)) (xr (bt key c 2) (bt key c 0))) (he : e = xr (xr (xr (nth u q') (nth v q')) (bt key c 3)) (xr (bt key c 3) (bt key c 1))) :
    runStep key k 1 q q' (u, v, o) = (u ++ [andS 0 (bt key c 2) (bt key c 3) (bt key c 4) d e], v ++ [andS 1 (xr (bt key c 2) (bt key c 0)) (xr (bt key c 3) (bt key c 1)) (xr (bt key c 4) (bt key c 0 * bt key c 1)) d e], o ++ [(k : Int), d, e]) := by
  unfold runStep
  rw [if_pos rfl]
  have hc : o.length / 3 = c := by omega
  subst hd he
  simp [hc, btA, btB, nth]
theorem runStep_loc (key : Int) (k : Nat) {K A B : Int} (hK : K ≠ 1) (u v o : List Int) : runStep key k K A B (u, v, o) = (u ++ [locS 0 K A B u], v ++ [locS 1 K A B v], o) := by
  unfold runStep
  rw [if_neg hK]
/-- What a run returns. -/
def RunEnd (m gn : Nat) (R : List Int × List Int × List Int) (w : World) (e : Ending) (w' : World) : Prop := ∃ v1 v2 v3 c, e = .returned (.tuple #[v1, v2, v3]) ∧ RunOk m gn c R.1 R.2.1 R.2.2 ∧ Trio w' w.heap.size v1 (m + gn) R.1 v2 (m + gn) R.2.1 v3 c R.2.2 ∧ Below w.heap.size w w'
def runR (key : Int) (gs us vs : List Int) (n : Nat) : List Int × List Int × List Int := runS key gs (shU key us vs) (shV key us vs) n

set_option maxHeartbeats 8000000 in
theorem s_sbRun (i0 i1 : Int) (ga : Option Addr) (gn gc : Nat) (gs : List Int) (oa : Option Addr) (on oc : Nat) (os : List Int) (key : Int) (aa : Option Addr) (an ac : Nat) (us : List Int) (ba : Option Addr) (bn bc : Nat) (vs : List Int) (w : World) (h : Circ w ga gn gc gs oa on oc os) (hk : 0 ≤ key ∧ key ≤ 1000000000) (ha : Ints w aa an ac us) (hb : Ints w ba bn bc vs) (hA : askB i0 i1 gs gn os us vs = true) :
    Calls Try.prog 59 #[.agg #[.int .i64 i0, .int .i64 i1, .slice ga gn gc, .slice oa on oc], .int .i64 key, .slice aa an ac, .slice ba bn bc] w fun e w' => RunEnd (an + bn) gn (runR key gs us vs gn) w e w' := by
  have hla := ha.len.out; have hlb := hb.len.out
  obtain ⟨hcc, hu, hv, e0, e1⟩ := askB_iff.1 hA; have hl2 := askB_len hA; rw [hla] at e0 hl2; rw [hlb] at e1 hl2
  obtain ⟨_, _, hgn, _⟩ := circB_in hcc
  have HG : Hid (gatesB (((an + bn : Nat)) : Int) gs gn = true) := by have := (circB_iff.1 hcc).2.1; rw [← e0, ← e1] at this; show _ = _; rw [show (((an + bn : Nat)) : Int) = (an : Int) + (bn : Int) by omega]; exact this
  have HU : Hid (bit1 (shU key us vs) ∧ bit1 (shV key us vs) ∧ (shU key us vs).length = an + bn ∧ (shV key us vs).length = an + bn) := ⟨shU_bit hu, shV_bit hv, by rw [shU_len, hla, hlb], by rw [shV_len, hla, hlb]⟩
  subst e0 e1
  have A0 := bel_alloc w (.cells #[.int .i64 an, .int .i64 bn, .slice ga gn gc, .slice oa on oc] 31)
  have g0 := B4.new (w := w) (x0 := .int .i64 an) (x1 := .int .i64 bn) (x2 := .slice ga gn gc) (x3 := .slice oa on oc) (t := 31)
  obtain ⟨c0, c1, c2, c3⟩ := g0
  have hg := h.g
  clear hcc hA hla hlb h
  go_enter Try.func59, Try.ntmps59
  go_wp2_with fail
  refine (s_sbInputs _ _ _ _ _ gs _ _ _ os key _ _ _ us _ _ _ vs _ (ha.below A0) (hb.below A0) hk rfl rfl hl2.1 hl2.2 hu hv).mono ?_; rintro e w5 ⟨v1, v2, rfl, hD, hb5⟩
  have HB := Lib.hid (bel_trans A0 hb5); have zz := A0.size
  replace c2 := cell_on c2 hb5
  have HT := Lib.hid (Trio.of (hD.rebase zz))
  clear hD hb5 c0 c1 c3 A0 zz hu hv ha hb
  go_wp2
  go_loopw [11, 12, 13, 31] (fun r1 r2 r3 i W => ∃ (k : Nat) (u v o : List Int) (c : Nat), k ≤ gn ∧ i = .int .i64 k ∧ Hid (runR key gs us vs k = (u, v, o) ∧ RunOk (an + bn) k c u v o) ∧ Hid (Trio W w.heap.size r1 (an + bn + k) u r2 (an + bn + k) v r3 c o) ∧ Hid (Below w.heap.size w W)) (fun _ _ _ i _ => gn - (intOf i).toNat)
  case atStart => exact ⟨0, _, _, _, 0, by omega, rfl, (show Hid _ from ⟨rfl, ⟨HU.out.2.2.1, HU.out.2.2.2, HU.out.1, HU.out.2.1, rfl, Nat.le_refl _, by simp⟩⟩), HT, HB⟩
  case round =>
    clear HT HB c2
    obtain ⟨k, u, v, o, c, hk9, rfl, HR, HT, HB⟩ := hrel
    by_cases hlt : k < gn
    · have hlti : (k : Int) < (gn : Int) := by omega
      obtain ⟨gb, go, rfl, gl, g0, g1, g2⟩ := (hg.below HB.out).at3 hlt
      have hgt : gateB (fld 3 gs k 0) (fld 3 gs k 1) (fld 3 gs k 2) (((an + bn + k : Nat)) : Int) = true := by have := gatesB_at HG.out hlt; rw [show (((an + bn + k : Nat)) : Int) = (((an + bn : Nat)) : Int) + (k : Int) by omega]; exact this
      have HS : Hid (runR key gs us vs (k + 1) = runStep key k (fld 3 gs k 0) (fld 3 gs k 1) (fld 3 gs k 2) (u, v, o)) := by show _ = _; rw [← HR.out.1]; rfl
      generalize fld 3 gs k 0 = K at hgt HS g0
      generalize fld 3 gs k 1 = A at hgt HS g1
      generalize fld 3 gs k 2 = B at hgt HS g2
      have hck := HR.out.2.ck
      have OK := Lib.hid HR.out.2; clear HR
      have HF := Lib.hid (And.intro OK.out.bu.fit OK.out.bv.fit)
      obtain ⟨a1, k1, rfl, m1⟩ := Mine.of HT.out.duo.own1 (by omega) HF.out.1
      obtain ⟨a2, k2, rfl, m2⟩ := Mine.of HT.out.duo.own2 (by omega) HF.out.2
      obtain ⟨a3, k3, rfl, m3⟩ := MineK.of HT.out.own3 (by omega) (by omega) (fun x hx => by have := OK.out.fo x hx; unfold Fits; omega)
      have L := Lib.hid (And.intro HT.out.lt1 (And.intro HT.out.lt2 HT.out.lt3))
      have A1 := bel_alloc wr (.cells #[.int .i64 K, .int .i64 A, .int .i64 B] 83)
      have GB := B3.new (w := wr) (x0 := .int .i64 K) (x1 := .int .i64 A) (x2 := .int .i64 B) (t := 83)
      have zA := A1.size
      have x1 : Hid (bitsL0 u (an + bn + k)) := OK.out.bu.nth OK.out.lu
      have x2 : Hid (bitsL0 v (an + bn + k)) := OK.out.bv.nth OK.out.lv
      have HT1 := Lib.hid (HT.out.below A1); have HB1 := Lib.hid (bel_trans HB.out A1)
      by_cases hK : K = 1
      · subst hK
        rw [gateB_01 (Or.inr rfl)] at hgt
        obtain ⟨ga1, gb1⟩ := Bool.and_eq_true_iff.1 hgt
        obtain ⟨q, q', rfl, rfl, hq, hq', b1, o1, rfl, _, hc, hd⟩ := m1.ints.wires ga1 gb1
        obtain ⟨p, p', ep, ep', hp, hp', b2, o2, rfl, _, hc2, hd2⟩ := m2.ints.wires ga1 gb1
        obtain rfl : p = q := by omega
        obtain rfl : p' = q' := by omega
        have y1 := x1.out p hp; have y2 := x1.out p' hp'; have z1 := x2.out p hp; have z2 := x2.out p' hp'
        obtain ⟨d, hdd⟩ : ∃ d, d = xr (xr (xr (nth u p) (nth v p)) (bt key c 2)) (xr (bt key c 2) (bt key c 0)) := ⟨_, rfl⟩
        obtain ⟨e, hee⟩ : ∃ e, e = xr (xr (xr (nth u p') (nth v p')) (bt key c 3)) (xr (bt key c 3) (bt key c 1)) := ⟨_, rfl⟩
        have hd01 : 0 ≤ d ∧ d ≤ 1 := by rw [hdd]; exact xr_bd _ _
        have he01 : 0 ≤ e ∧ e ≤ 1 := by rw [hee]; exact xr_bd _ _
        have HX : Hid (bits .xor .i64 (bits .xor .i64 (bits .xor .i64 (nth u p) (nth v p)) (bt key c 2)) (xr (bt key c 2) (bt key c 0)) = d ∧ bits .xor .i64 (bits .xor .i64 (bits .xor .i64 (nth u p') (nth v p')) (bt key c 3)) (xr (bt key c 3) (bt key c 1)) = e) := ⟨by rw [xr_eq y1 z1, xr_eq (xr_bd _ _) (bt_bd _ _ _), xr_eq (xr_bd _ _) (xr_bd _ _), hdd], by rw [xr_eq y2 z2, xr_eq (xr_bd _ _) (bt_bd _ _ _), xr_eq (xr_bd _ _) (xr_bd _ _), hee]⟩
        have HN : Hid (runR key gs us vs (k + 1) = (u ++ [andS 0 (bt key c 2) (bt key c 3) (bt key c 4) d e], v ++ [andS 1 (xr (bt key c 2) (bt key c 0)) (xr (bt key c 3) (bt key c 1)) (xr (bt key c 4) (bt key c 0 * bt key c 1)) d e], o ++ [(k : Int), d, e])) := by show _ = _; rw [HS.out]; exact runStep_and key k p p' c u v o OK.out.lo d e hdd hee
        clear HS hdd hee hgt ga1 gb1 ep ep' hp hp' y1 y2 z1 z2 m1 m2 m3 x1 x2 HT
        replace hc := cell_on hc A1; replace hd := cell_on hd A1; replace hc2 := cell_on hc2 A1; replace hd2 := cell_on hd2 A1
        have hqi : (p : Int) < ((an + bn + k : Nat) : Int) := by omega
        have hqi' : (p' : Int) < ((an + bn + k : Nat) : Int) := by omega
        obtain ⟨b0, b1_, b2_⟩ := id GB
        clear A1
        go_wp2_with fail
        refine (s_sbTriple key c _ hk ⟨by omega, by omega⟩).mono ?_; rintro e9 wt ⟨r1, t1, r2, t2, m0, rfl, mA, mB, _, hm0, hbt⟩
        replace hc := cell_on hc hbt; replace hd := cell_on hd hbt; replace hc2 := cell_on hc2 hbt; replace hd2 := cell_on hd2 hbt; replace b0 := cell_on b0 hbt; replace b1_ := cell_on b1_ hbt; replace b2_ := cell_on b2_ hbt
        have MA := Lib.hid (show Mine wt wr.heap.size r1 3 t1 [bt key c 2, bt key c 3, bt key c 4] from mA.base zA); have MB := Lib.hid (show Mine wt wr.heap.size r2 3 t2 [xr (bt key c 2) (bt key c 0), xr (bt key c 3) (bt key c 1), xr (bt key c 4) (bt key c 0 * bt key c 1)] from mB.base (by omega))
        obtain ⟨_, sb, so, rfl, s0, s1, s2⟩ := MA.out.ints.three; obtain ⟨_, tb, to, rfl, t0, t1_, t2_⟩ := MB.out.ints.three
        have HTt := Lib.hid (HT1.out.below hbt); have HBt := Lib.hid (bel_trans HB1.out hbt)
        clear hbt mA mB HT1 HB1 GB
        have bA := bt_bd key c 2; have bB := bt_bd key c 3; have bC := bt_bd key c 4
        have HV := Lib.hid (And.intro bA (And.intro bB bC)); clear bA bB bC
        go_wp2_with fail
        go_quiet (fail)
        rw [HX.out.1]
        go_wp2_with fail
        go_quiet (fail)
        rw [HX.out.2]
        go_wp2_with (at_builtin; refine wp_trio3 _ (.slice a3 c k3) w.heap.size (an + bn + k) u _ (an + bn + k) v _ c o k d e wr.heap.size _ _ rfl _ _ rfl rfl rfl (by first | rfl | simp) (HTt.out.below (bel_drewN wt _)) (by omega) L.out.2.2 ?_; intro v7 w7 d7 hb7 f7; replace f7 := (Fr.of (b := wr.heap.size) (bel_drewN wt _)).trans f7; replace hb7 := ((bel_drewN wt _).mono (show w.heap.size ≤ wt.heap.size by have := HBt.out.size; omega)).trans hb7; have HT7 := Lib.hid d7; have MA7 := Lib.hid (f7.mine MA.out); have MB7 := Lib.hid (f7.mine MB.out); have HB7 := Lib.hid (HBt.out.trans hb7); clear d7 hb7 f7 HTt HBt MA MB hc hd hc2 hd2 b0 b1_ b2_ s0 s1 s2 t0 t1_ t2_)
        refine (s_sbAnd 0 _ _ (bt key c 2) (bt key c 3) (bt key c 4) d e w7 MA7.out.ints (Or.inl rfl) HV.out.1 HV.out.2.1 HV.out.2.2 hd01 he01).mono ?_; rintro e9 w8 ⟨rfl, hb8⟩
        have HT8 := Lib.hid (HT7.out.below hb8); have MB8 := Lib.hid (MB7.out.below hb8); have HB8 := Lib.hid (bel_trans HB7.out hb8); clear hb8 HT7 MB7 HB7 MA7
        generalize hu0 : andS 0 (bt key c 2) (bt key c 3) (bt key c 4) d e = un at *
        replace hu0 := Lib.hid hu0
        go_wp2_with (at_builtin; refine wp_trio w8 (.slice (some ⟨b1, o1, none⟩) (an + bn + k) k1) w.heap.size (an + bn + k) u _ (an + bn + k) v _ (c + 1) (o ++ [(k : Int), d, e]) un wr.heap.size _ _ rfl _ _ rfl rfl rfl (by first | rfl | simp) HT8.out (by omega) L.out.1 ?_; intro v9 w9 d9 hb9 f9; have HT9 := Lib.hid d9; have MB9 := Lib.hid (f9.mine MB8.out); have HB9 := Lib.hid (HB8.out.trans hb9); clear d9 hb9 f9 HT8 HB8 MB8)
        refine (s_sbAnd 1 _ _ (xr (bt key c 2) (bt key c 0)) (xr (bt key c 3) (bt key c 1)) (xr (bt key c 4) (bt key c 0 * bt key c 1)) d e w9 MB9.out.ints (Or.inr rfl) (xr_bd _ _) (xr_bd _ _) (xr_bd _ _) hd01 he01).mono ?_; rintro e9 wa ⟨rfl, hba⟩
        have HTa := Lib.hid (HT9.out.below hba); have HBa := Lib.hid (bel_trans HB9.out hba); clear hba HT9 MB9 HB9
        generalize hv0 : andS 1 (xr (bt key c 2) (bt key c 0)) (xr (bt key c 3) (bt key c 1)) (xr (bt key c 4) (bt key c 0 * bt key c 1)) d e = vn at *
        replace hv0 := Lib.hid hv0
        go_wp2_with (at_builtin; refine wp_trio2 wa (.slice (some ⟨b2, o2, none⟩) (an + bn + k) k2) w.heap.size (an + bn + k + 1) (u ++ [un]) _ (an + bn + k) v _ (c + 1) (o ++ [(k : Int), d, e]) vn wr.heap.size _ _ rfl _ _ rfl rfl rfl (by first | rfl | simp) HTa.out (by omega) L.out.2.1 ?_; intro vb wb db hbb fb; have HTb := Lib.hid db; have HBb := Lib.hid (HBa.out.trans hbb); clear db hbb fb HTa HBa)
        go_roundw
        case rel => exact ⟨k + 1, u ++ [un], v ++ [vn], o ++ [(k : Int), d, e], c + 1, by omega, by go_num, (show Hid _ from ⟨by rw [HN.out], by have := OK.out.and (by omega) hd01 he01 (x1 := bt key c 2) (x2 := bt key c 3) (x3 := bt key c 4) (y1 := xr (bt key c 2) (bt key c 0)) (y2 := xr (bt key c 3) (bt key c 1)) (y3 := xr (bt key c 4) (bt key c 0 * bt key c 1)); rw [hu0.out, hv0.out] at this; exact this⟩), HTb, HBb⟩
        case measure => simp [intOf]; omega
      · have hKb : (K == 1) = false := by simpa using hK
        have HN : Hid (runR key gs us vs (k + 1) = (u ++ [locS 0 K A B u], v ++ [locS 1 K A B v], o)) := by show _ = _; rw [HS.out]; exact runStep_loc key k hK u v o
        have OK2 := Lib.hid (OK.out.local (K := K) (A := A) (B := B))
        clear HS m1 m2 m3 HT
        obtain ⟨b0, b1_, b2_⟩ := id GB
        have I1 := ints_of_own HT1.out.duo.own1 (by omega) HF.out.1
        have I2 := ints_of_own HT1.out.duo.own2 (by omega) HF.out.2
        have J1 := Lib.hid I1; have J2 := Lib.hid I2; clear I1 I2 A1
        obtain ⟨un, hun⟩ : ∃ x, x = locS 0 K A B u := ⟨_, rfl⟩; obtain ⟨vn, hvn⟩ : ∃ x, x = locS 1 K A B v := ⟨_, rfl⟩
        rw [← hun, ← hvn] at HN OK2; replace hun := Lib.hid hun; replace hvn := Lib.hid hvn
        have tokA : True := trivial
        go_wp2_with fail
        refine (s_sbLocal 0 K A B _ _ _ u _ J1.out ⟨by omega, by omega⟩ hgt hK x1).mono ?_; rintro e9 w2 ⟨rfl, hb2⟩; rw [← hun.out]
        have HT2 := Lib.hid (HT1.out.below hb2); have HB2 := Lib.hid (bel_trans HB1.out hb2); have GB2 := Lib.hid (GB.on hb2); clear hb2 HT1 HB1 GB b0 b1_ b2_ J1 J2
        go_wp2_with (at_builtin; refine wp_trio w2 (.slice a1 (an + bn + k) k1) w.heap.size (an + bn + k) u _ (an + bn + k) v _ c o un wr.heap.size _ _ rfl _ _ rfl rfl rfl (by first | rfl | simp) HT2.out (by omega) L.out.1 ?_; intro v9 w9 d9 hb9 f9; have GB9 := Fr.b3 f9 GB2.out (Nat.le_refl _); obtain ⟨b0, b1_, b2_⟩ := id GB9; have J2 := Lib.hid (ints_of_own d9.duo.own2 (by omega) HF.out.2); have HT9 := Lib.hid d9; have HB9 := Lib.hid (HB2.out.trans hb9); clear d9 hb9 f9 HT2 HB2 GB2 GB9)
        refine (s_sbLocal 1 K A B _ _ _ v _ J2.out ⟨by omega, by omega⟩ hgt hK x2).mono ?_; rintro e9 wa ⟨rfl, hba⟩; rw [← hvn.out]
        have HTa := Lib.hid (HT9.out.below hba); have HBa := Lib.hid (bel_trans HB9.out hba); clear hba HT9 HB9 J2 b0 b1_ b2_
        go_wp2_with (at_builtin; refine wp_trio2 wa (.slice a2 (an + bn + k) k2) w.heap.size (an + bn + k + 1) (u ++ [un]) _ (an + bn + k) v _ c o vn wr.heap.size _ _ rfl _ _ rfl rfl rfl (by first | rfl | simp) HTa.out (by omega) L.out.2.1 ?_; intro vb wb db hbb fb; have HTb := Lib.hid db; have HBb := Lib.hid (HBa.out.trans hbb); clear db hbb fb HTa HBa)
        go_roundw
        case rel => exact ⟨k + 1, u ++ [un], v ++ [vn], o, c, by omega, by go_num, (show Hid _ from ⟨HN.out, OK2.out⟩), HTb, HBb⟩
        case measure => simp [intOf]; omega
    · obtain rfl : k = gn := by omega
      have hlti : ¬ (k : Int) < (k : Int) := by omega
      go_wp2
      go_ret3
      refine ⟨_, _, _, c, rfl, ?_, ?_, HB.out⟩
      · rw [HR.out.1]; exact HR.out.2
      · rw [HR.out.1]; exact HT.out
end Go.Proofs.Ytmkcanbaleecfaa
