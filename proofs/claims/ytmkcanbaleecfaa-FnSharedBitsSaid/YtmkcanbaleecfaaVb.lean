/-
  The draw of a party's wires.
-/
import Derived.Test.YtmkcanbaleecfaaVa
namespace Go.Proofs.Ytmkcanbaleecfaa
open Go.RowKit
set_option linter.unusedVariables false
set_option linter.unusedSimpArgs false
set_option maxRecDepth 10000

/-- What DrawPartyWires hands back. -/
def PwRet (w : World) (e : Ending) (w' : World) : Prop :=
  ∃ (x0 x1 : Int) (ga : Option Addr) (gn gc : Nat) (gs : List Int) (oa : Option Addr) (on oc : Nat) (os : List Int) (key : Int) (P : Nat) (ua : Option Addr) (un uc : Nat) (us : List Int) (za : Option Addr) (zn zc : Nat) (zs : List Int),
    e = .returned (.tuple #[.agg #[.int .i64 x0, .int .i64 x1, .slice ga gn gc, .slice oa on oc], .int .i64 key, .int .i64 P, .slice ua un uc, .slice za zn zc]) ∧ CircM w' w.heap.size ga gn gc gs oa on oc os ∧ Dw key ∧ P ≤ 2 ∧ Mine w' w.heap.size ua un uc us ∧ MineK 3 w' w.heap.size za zn zc zs ∧ Below w.heap.size w w'
/-- A record is written. -/
theorem rec_put {w : World} {B q n c j : Nat} {zs : List Int} (x y z : Int) (h : w.ownsRow B 86 3 (.slice (some ⟨q, 0, none⟩) n c) n (ivs zs)) :
    (((w.setCell ⟨q, j, none⟩ (.int .i64 x)).setCell ⟨q, j + 1, none⟩ (.int .i64 y)).setCell ⟨q, j + 2, none⟩ (.int .i64 z)).ownsRow B 86 3 (.slice (some ⟨q, 0, none⟩) n c) n (ivs (((zs.set j x).set (j + 1) y).set (j + 2) z)) := by
  have h1 := (World.ownsRow.stored h j (.int .i64 x)).1
  rw [ivs_set] at h1
  have h2 := (World.ownsRow.stored h1 (j + 1) (.int .i64 y)).1
  rw [ivs_set] at h2
  have h3 := (World.ownsRow.stored h2 (j + 2) (.int .i64 z)).1
  rw [ivs_set] at h3
  exact h3
theorem rec_cell {w : World} {B q n c j : Nat} {zs : List Int} (h : w.ownsRow B 86 3 (.slice (some ⟨q, 0, none⟩) n c) n (ivs zs)) (hj : j < n * 3) : (∃ u, w.cell? ⟨q, j, none⟩ = some (.int .i64 u)) ∧ w.frozen? ⟨q, j, none⟩ = false := by
  refine ⟨?_, World.ownsRow.frozenAt h j⟩
  have hl := h.1
  rw [World.ownsRow.cellAt h j hj]
  simp only [ivs, List.length_map] at hl
  exact ⟨zs[j]'(by omega), by simp only [ivs, List.getElem?_map]; rw [List.getElem?_eq_getElem (by omega)]; rfl⟩
theorem set_fit {l : List Int} (h : ∀ x ∈ l, Fits x) {u : Int} (hu : Fits u) (j : Nat) : ∀ x ∈ l.set j u, Fits x := fun x hx => by rcases List.mem_or_eq_of_mem_set hx with e | e; exact h x e; rw [e]; exact hu
theorem B4.bex {b g : Nat} {w w' : World} {x0 x1 x2 x3 : Value} (h : B4 w g x0 x1 x2 x3) (k : Bex b w w') (hg : g ≠ b) : B4 w' g x0 x1 x2 x3 := ⟨k.cell h.c0 hg, k.cell h.c1 hg, k.cell h.c2 hg, k.cell h.c3 hg⟩
/-- What stands while a party's wires are drawn. -/
structure PwS (w W : World) (g : Nat) (x0 x1 : Int) (ga : Option Addr) (gn gc : Nat) (gs : List Int) (oa : Option Addr) (on oc : Nat) (os : List Int) (ua : Option Addr) (un uc : Nat) (us : List Int) : Prop where
  G : B4 W g (.int .i64 x0) (.int .i64 x1) (.slice ga gn gc) (.slice oa on oc)
  R : B4w W w.heap.size (.int .i64 0) (.int .i64 0) (.slice none 0 0) (.slice none 0 0)
  B : Below w.heap.size w W
  M : CircM W (w.heap.size + 2) ga gn gc gs oa on oc os
  U : Mine W (w.heap.size + 2) ua un uc us
  gl : w.heap.size + 2 ≤ g
section
variable {w W W' : World} {g : Nat} {x0 x1 : Int} {ga : Option Addr} {gn gc : Nat} {gs : List Int} {oa : Option Addr} {on oc : Nat} {os : List Int} {ua : Option Addr} {un uc : Nat} {us : List Int}
theorem PwS.below (h : PwS w W g x0 x1 ga gn gc gs oa on oc os ua un uc us) (k : Below W.heap.size W W') : PwS w W' g x0 x1 ga gn gc gs oa on oc os ua un uc us :=
  ⟨h.G.on k, h.R.on k, bel_trans h.B k, h.M.below k, h.U.below k, h.gl⟩
theorem PwS.bex (h : PwS w W g x0 x1 ga gn gc gs oa on oc os ua un uc us) (k : Bex (w.heap.size + 1) W W') : PwS w W' g x0 x1 ga gn gc gs oa on oc os ua un uc us := by
  have hg := h.G.lt
  have gl := h.gl
  exact ⟨h.G.bex k (by omega), h.R.bex k (by omega), Below.bex h.B k (by omega) (by omega), h.M.bex k (by omega), h.U.bex k (by omega), gl⟩
theorem PwS.fin (h : PwS w W g x0 x1 ga gn gc gs oa on oc os ua un uc us) {key : Int} {P : Nat} {za : Option Addr} {zn zc : Nat} {zs : List Int} (hk : Dw key) (hP : P ≤ 2) {Z : Nat} (hz : W.ownsRow Z 86 3 (.slice za zn zc) zn (ivs zs)) (hZ : w.heap.size + 2 ≤ Z) (hzn : zn ≤ 1000) (hf : ∀ x ∈ zs, Fits x) {e : Ending}
    (he : e = .returned (.tuple #[.agg #[.int .i64 x0, .int .i64 x1, .slice ga gn gc, .slice oa on oc], .int .i64 key, .int .i64 P, .slice ua un uc, .slice za zn zc])) :
    PwRet w e ((((W.setCell ⟨w.heap.size, 0, none⟩ (.int .i64 x0)).setCell ⟨w.heap.size, 1, none⟩ (.int .i64 x1)).setCell ⟨w.heap.size, 2, none⟩ (.slice ga gn gc)).setCell ⟨w.heap.size, 3, none⟩ (.slice oa on oc)) := by
  have kx := Bex.only4 (g := w.heap.size) W (.int .i64 x0) (.int .i64 x1) (.slice ga gn gc) (.slice oa on oc)
  obtain ⟨a1, c1, e1, m1⟩ := MineK.of (ownsRow_bex hz kx (by omega)) (by omega) (by omega) hf
  simp only [Value.slice.injEq] at e1; obtain ⟨rfl, -, rfl⟩ := e1
  exact ⟨x0, x1, ga, gn, gc, gs, oa, on, oc, os, key, P, ua, un, uc, us, za, zn, zc, zs, he, (h.M.bex kx (by omega)).base (by omega), hk, hP, (h.U.bex kx (by omega)).base (by omega), m1.base (by omega), bel_set4 h.B (Nat.le_refl _) _ _ _ _⟩
end
set_option maxHeartbeats 16000000 in
theorem s_DrawPartyWires (a : Option Addr) (n cap : Nat) (w : World) (hB : Byts w a n cap) :
    Calls Try.prog 36 #[.slice a n cap] w (PwRet w) := by
  have A0 := bel_alloc w (.cells #[.int .i64 0, .int .i64 0, .slice none 0 0, .slice none 0 0] 31)
  have r0 := B4w.new (w := w) (x0 := .int .i64 0) (x1 := .int .i64 0) (x2 := .slice none 0 0) (x3 := .slice none 0 0) (t := 31)
  have hB1 := hB.below A0
  have h0 := Cur.new (t := 98) hB1 hB.und (by simp)
  have hs0 : (w.alloc (.cells #[.int .i64 0, .int .i64 0, .slice none 0 0, .slice none 0 0] 31)).heap.size = w.heap.size + 1 := by simp
  rw [hs0] at h0
  have A1 := bel_alloc (w.alloc (.cells #[.int .i64 0, .int .i64 0, .slice none 0 0, .slice none 0 0] 31)) (.cells #[.slice a n cap, .int .i64 0, .int .u64 0] 98)
  have r1 := r0.on A1
  have B1 := bel_trans A0 A1
  have hB2 := hB1.below A1
  have z1 : ((w.alloc (.cells #[.int .i64 0, .int .i64 0, .slice none 0 0, .slice none 0 0] 31)).alloc (.cells #[.slice a n cap, .int .i64 0, .int .u64 0] 98)).heap.size = w.heap.size + 2 := by simp
  go_enter Try.func36, Try.ntmps36
  go_wp2_with fail
  refine (s_DrawRunHalved a n cap _ hB2).mono ?_; rintro e w1 ⟨x0, x1, ga, gn, gc, gs, oa, on, oc, os, key, aa, an, ac, us, ba, bn, bc, vs, rfl, hM, hk, hU, hV, hb1⟩
  have z2 := hb1.size
  rw [z1] at hM hU hV z2
  have hC1 := h0.below hb1
  have rr := r1.on hb1
  have B2 := bel_trans B1 hb1
  clear A0 r0 hB1 h0 hs0 A1 r1 B1 hB2 z1 hb1
  have A2 := bel_alloc w1 (.cells #[.int .i64 x0, .int .i64 x1, .slice ga gn gc, .slice oa on oc] 31)
  have gg := B4.new (w := w1) (x0 := .int .i64 x0) (x1 := .int .i64 x1) (x2 := .slice ga gn gc) (x3 := .slice oa on oc) (t := 31)
  have hC2 := hC1.below A2
  have rr2 := rr.on A2
  have B3 := bel_trans B2 A2
  have hM2 := hM.below A2; have hU2 := hU.below A2; have hV2 := hV.below A2
  have z3 := A2.size
  have z3' : (w1.alloc (.cells #[.int .i64 x0, .int .i64 x1, .slice ga gn gc, .slice oa on oc] 31)).heap.size = w1.heap.size + 1 := by simp
  clear rr hC1 B2 A2 hM hU hV
  go_wp2_with fail
  refine (s_pick (w.heap.size + 1) w.heap.size _ 2 _ hC2 (by omega) (by omega)).mono ?_; rintro e w2 ⟨p, rfl, hp, hp', hC3, hX3⟩
  go_wp2_with fail
  refine (s_pick (w.heap.size + 1) w.heap.size _ 20 _ hC3 (by omega) (by omega)).mono ?_; rintro e w3 ⟨r, rfl, hr, hr', hC4, hX4⟩
  have hX := hX3.trans hX4
  have hne : w1.heap.size ≠ w.heap.size + 1 := by omega
  obtain ⟨P, hP⟩ : ∃ P : Nat, P = p + r / 19 := ⟨_, rfl⟩
  have hP2 : P ≤ 2 := by omega
  have ed : (r : Int).tdiv 19 = (r : Int) / 19 := Int.tdiv_eq_ediv_of_nonneg (by omega)
  have ew : IntKind.i64.wrap ((r : Int) / 19) = (r : Int) / 19 := IntWalk.i64_in _ (by omega)
  have ep : IntKind.i64.wrap ((p : Int) + (r : Int) / 19) = (P : Int) := by rw [IntWalk.i64_in _ (by omega)]; omega
  have z4 := hX.size
  have GG := Lib.hid (show B4 w3 w1.heap.size _ _ _ _ from ⟨hX.cell gg.c0 hne, hX.cell gg.c1 hne, hX.cell gg.c2 hne, hX.cell gg.c3 hne⟩)
  have RR := Lib.hid (rr2.bex hX (by omega))
  have BB := Lib.hid (Below.bex B3 hX (by omega) (by omega))
  have CC := Lib.hid hC4
  have MM := Lib.hid (hM2.bex hX (by omega))
  have UU := Lib.hid (hU2.bex hX (by omega)); have VV := Lib.hid (hV2.bex hX (by omega))
  clear gg hC2 rr2 B3 hM2 hU2 hV2 hX3 hX4 hC3 hC4 hX hP
  obtain ⟨d0, d1, d2, d3⟩ := id GG.out
  go_wp2_with fail
  refine (s_sbAsked _ _ _ _ _ gs _ _ _ os _ _ _ _ us _ _ _ vs _ MM.out.circ UU.out.ints VV.out.ints).mono ?_; rintro e w4 ⟨rfl, hb4⟩
  have hzz : w.heap.size + 2 ≤ w3.heap.size := by omega
  replace GG := Lib.hid (GG.out.on hb4); replace RR := Lib.hid (RR.out.on hb4); replace BB := Lib.hid (bel_trans BB.out hb4); replace CC := Lib.hid (CC.out.below hb4); replace MM := Lib.hid (MM.out.below hb4); replace UU := Lib.hid (UU.out.below hb4); replace VV := Lib.hid (VV.out.below hb4)
  have z5 := hb4.size
  clear d0 d1 d2 d3 hb4
  cases hAK : (askB x0 x1 gs gn os us vs && keyB key) with
  | false =>
    have E4 := RR.out.set (.int .i64 x0) (.int .i64 x1) (.slice ga gn gc) (.slice oa on oc)
    obtain ⟨E0, E1, E2, E3⟩ := id E4.r
    obtain ⟨d0, d1, d2, d3⟩ := id GG.out
    obtain ⟨⟨e0, e1, e2, e3⟩, s0, s1, s2, s3⟩ := id RR.out
    have F1 := Lib.hid ((MM.out.bex (Bex.only4 (g := w.heap.size) _ (.int .i64 x0) (.int .i64 x1) (.slice ga gn gc) (.slice oa on oc)) (by omega)).base (B' := w.heap.size) (by omega))
    have F4 := Lib.hid (bel_set4 BB.out (Nat.le_refl _) (.int .i64 x0) (.int .i64 x1) (.slice ga gn gc) (.slice oa on oc))
    clear GG RR BB CC MM UU VV hAK
    go_wp2
    exact bodyPost_ret (v := .tuple #[.agg #[.int .i64 x0, .int .i64 x1, .slice ga gn gc, .slice oa on oc], .int .i64 key, .int .i64 P, .slice none 0 0, .slice none 0 0]) (by simp [results, Try.results36, go_sem, E0, E1, E2, E3]) rfl ⟨x0, x1, ga, gn, gc, gs, oa, on, oc, os, key, P, none, 0, 0, [], none, 0, 0, [], rfl, F1.out, hk, hP2, Mine.nil, MineK.nil, F4.out⟩
  | true =>
    obtain ⟨hA, hK⟩ := Bool.and_eq_true_iff.1 hAK
    obtain ⟨hcc, hu, hv, e0, e1⟩ := askB_iff.1 hA
    obtain ⟨⟨q1, q2⟩, ⟨q3, q4⟩, hgn, hos⟩ := circB_in hcc
    have hkk := keyB_iff.1 hK
    have hla := UU.out.ints.len.out; have hlb := VV.out.ints.len.out
    have H01 := Lib.hid (show x0 = (an : Int) ∧ x1 = (bn : Int) by omega)
    obtain ⟨d0, d1, d2, d3⟩ := id GG.out
    have HU := Lib.hid (And.intro hu hv)
    have ha20 : an ≤ 20 := by omega
    have hb20 : bn ≤ 20 := by omega
    have HA := Lib.hid hA
    clear e0 e1 hla hlb hu hv hcc hA hK hAK
    go_wp2_with fail
    refine (s_sbInputs x0 x1 _ _ _ gs _ _ _ os key _ _ _ us _ _ _ vs _ UU.out.ints VV.out.ints hkk H01.out.1 H01.out.2 ha20 hb20 HU.out.1 HU.out.2).mono ?_; rintro e w5 ⟨v1, v2, rfl, hD, hb5⟩
    replace GG := Lib.hid (GG.out.on hb5); replace RR := Lib.hid (RR.out.on hb5); replace BB := Lib.hid (bel_trans BB.out hb5); replace CC := Lib.hid (CC.out.below hb5); replace MM := Lib.hid (MM.out.below hb5); replace UU := Lib.hid (UU.out.below hb5); replace VV := Lib.hid (VV.out.below hb5)
    have z6 := hb5.size
    obtain ⟨u1, k1, rfl, hm1⟩ := Mine.of hD.own1 (by omega) (shU_fit key us vs)
    obtain ⟨u2, k2, rfl, hm2⟩ := Mine.of hD.own2 (by omega) (shV_fit key us vs)
    have HM1 := Lib.hid hm1; have HM2 := Lib.hid hm2
    clear d0 d1 d2 d3 hb5 hD hm1 hm2 H01 HU

    by_cases hP1 : P = 1
    · subst hP1
      obtain ⟨d0, d1, d2, d3⟩ := id GG.out
      go_wp2_with fail
      refine (s_sbRun _ _ _ _ _ gs _ _ _ os key _ _ _ us _ _ _ vs _ MM.out.circ hkk UU.out.ints VV.out.ints HA.out).mono ?_; rintro e w7 ⟨v1, v2, v3, c, rfl, OK, T, hb7⟩
      have S5 := Lib.hid (show PwS w w5 w1.heap.size x0 x1 ga gn gc gs oa on oc os u2 (an + bn) k2 (shV key us vs) from ⟨GG.out, RR.out, BB.out, MM.out, HM2.out.base (by omega), by omega⟩)
      have X7 := Lib.hid (Bex.of (b := w.heap.size + 1) hb7)
      have S7 := Lib.hid (S5.out.bex X7.out)
      have C7 := Lib.hid (CC.out.below hb7)
      have FZ := Lib.hid (show ∀ x ∈ (runR key gs us vs gn).2.2, Fits x from fun x hx => by have := OK.fo x hx; unfold Fits; omega)
      have hck := OK.ck
      have O3 := T.own3
      obtain ⟨za, zc, rfl⟩ := own_sl O3
      have O7 := Lib.hid O3
      generalize (runR key gs us vs gn).2.2 = zs at FZ O7
      clear d0 d1 d2 d3 GG RR BB CC MM UU VV HM1 HM2 HA OK O3 T hb7
      by_cases hc : 0 < c
      · have hci : (0 : Int) < (c : Int) := by omega
        go_wp2_with fail
        refine (s_one _ _ _ 4 _ C7.out (by omega) (by omega)).mono ?_; rintro e w8 ⟨q, rfl, hC8, hX8⟩
        have X8 := Lib.hid (X7.out.trans hX8); have S8 := Lib.hid (S7.out.bex hX8); have O8 := Lib.hid (ownsRow_bex O7.out hX8 (by omega)); have C8 := Lib.hid hC8
        clear X7 S7 C7 O7 hC8 hX8
        cases q with
        | false =>
          obtain ⟨E0, E1, E2, E3⟩ := (S8.out.R.set (.int .i64 x0) (.int .i64 x1) (.slice ga gn gc) (.slice oa on oc)).r
          obtain ⟨d0, d1, d2, d3⟩ := id S8.out.G
          obtain ⟨⟨e0, e1, e2, e3⟩, s0, s1, s2, s3⟩ := id S8.out.R
          go_wp2
          exact bodyPost_ret (v := .tuple #[.agg #[.int .i64 x0, .int .i64 x1, .slice ga gn gc, .slice oa on oc], .int .i64 key, .int .i64 1, .slice u2 (an + bn) k2, .slice za c zc]) (by simp [results, Try.results36, go_sem, E0, E1, E2, E3]) rfl (S8.out.fin (P := 1) hk (by omega) O8.out (by omega) (by omega) FZ.out rfl)
        | true =>
          obtain ⟨q, qc, hq, hq1, hq2⟩ := World.ownsRow.form O8.out hc
          simp only [Value.slice.injEq, true_and] at hq; obtain ⟨rfl, rfl⟩ := hq
          go_wp2_with fail
          refine (s_pick _ _ _ c _ C8.out (by omega) (by omega)).mono ?_; rintro e w9 ⟨i, rfl, hi, hi', hC9, hX9⟩
          have X9 := Lib.hid (X8.out.trans hX9); have O9 := Lib.hid (ownsRow_bex O8.out hX9 (by omega)); have C9 := Lib.hid hC9
          clear S8 X8 C8 O8 hC9 hX9
          go_wp2_with fail
          refine (s_pick _ _ _ 3 _ C9.out (by omega) (by omega)).mono ?_; rintro e w10 ⟨y0, rfl, hy0, hy0', hC10, hX10⟩
          have X10 := Lib.hid (X9.out.trans hX10); have O10 := Lib.hid (ownsRow_bex O9.out hX10 (by omega)); have C10 := Lib.hid hC10
          clear X9 C9 O9 hC10 hX10
          go_wp2_with fail
          refine (s_pick _ _ _ 3 _ C10.out (by omega) (by omega)).mono ?_; rintro e w11 ⟨y1, rfl, hy1, hy1', hC11, hX11⟩
          have X11 := Lib.hid (X10.out.trans hX11); have O11 := Lib.hid (ownsRow_bex O10.out hX11 (by omega)); have C11 := Lib.hid hC11
          clear X10 C10 O10 hC11 hX11
          go_wp2_with fail
          refine (s_pick _ _ _ 2 _ C11.out (by omega) (by omega)).mono ?_; rintro e w12 ⟨y2, rfl, hy2, hy2', hC12, hX12⟩
          have X12 := Lib.hid (X11.out.trans hX12); have O12 := Lib.hid (ownsRow_bex O11.out hX12 (by omega)); have C12 := Lib.hid hC12
          clear X11 C11 O11 hC12 hX12
          have hic : i < c := by omega
          have hici : (i : Int) < (c : Int) := by omega
          obtain ⟨⟨t0, a0⟩, b0⟩ := rec_cell O12.out (j := i * 3) (by omega)
          obtain ⟨⟨t1, a1⟩, b1⟩ := rec_cell O12.out (j := i * 3 + 1) (by omega)
          obtain ⟨⟨t2, a2⟩, b2⟩ := rec_cell O12.out (j := i * 3 + 2) (by omega)
          obtain ⟨W, hW⟩ : ∃ X, ((w12.setCell ⟨q, i * 3, none⟩ (.int .i64 y0)).setCell ⟨q, i * 3 + 1, none⟩ (.int .i64 y1)).setCell ⟨q, i * 3 + 2, none⟩ (.int .i64 y2) = X := ⟨_, rfl⟩
          have hq7 : w1.heap.size < q := by omega
          have O13 := rec_put (j := i * 3) (y0 : Int) (y1 : Int) (y2 : Int) O12.out
          have S13 := Lib.hid (S5.out.bex (((X12.out.store1 (p := ⟨q, i * 3, none⟩) (u := .int .i64 y0) (by simp only []; omega)).store1 (p := ⟨q, i * 3 + 1, none⟩) (u := .int .i64 y1) (by simp only []; omega)).store1 (p := ⟨q, i * 3 + 2, none⟩) (u := .int .i64 y2) (by simp only []; omega)))
          rw [hW] at O13 S13
          have FZ3 := Lib.hid (set_fit (set_fit (set_fit FZ.out (u := (y0 : Int)) (by unfold Fits; omega) (i * 3)) (u := (y1 : Int)) (by unfold Fits; omega) (i * 3 + 1)) (u := (y2 : Int)) (by unfold Fits; omega) (i * 3 + 2))
          have O14 := Lib.hid O13
          clear O13 O12 X12 C12
          obtain ⟨E0, E1, E2, E3⟩ := (S13.out.R.set (.int .i64 x0) (.int .i64 x1) (.slice ga gn gc) (.slice oa on oc)).r
          obtain ⟨d0, d1, d2, d3⟩ := id S13.out.G
          obtain ⟨⟨e0, e1, e2, e3⟩, s0, s1, s2, s3⟩ := id S13.out.R
          go_wp2
          exact bodyPost_ret (v := .tuple #[.agg #[.int .i64 x0, .int .i64 x1, .slice ga gn gc, .slice oa on oc], .int .i64 key, .int .i64 1, .slice u2 (an + bn) k2, .slice (some ⟨q, 0, none⟩) c zc]) (by simp [results, Try.results36, go_sem, E0, E1, E2, E3]) rfl (S13.out.fin (P := 1) hk (by omega) O14.out (by omega) (by omega) FZ3.out rfl)
      · obtain rfl : c = 0 := by omega
        have hci : ¬ (0 : Int) < ((0 : Nat) : Int) := by omega
        obtain ⟨E0, E1, E2, E3⟩ := (S7.out.R.set (.int .i64 x0) (.int .i64 x1) (.slice ga gn gc) (.slice oa on oc)).r
        obtain ⟨d0, d1, d2, d3⟩ := id S7.out.G
        obtain ⟨⟨e0, e1, e2, e3⟩, s0, s1, s2, s3⟩ := id S7.out.R
        go_wp2
        exact bodyPost_ret (v := .tuple #[.agg #[.int .i64 x0, .int .i64 x1, .slice ga gn gc, .slice oa on oc], .int .i64 key, .int .i64 1, .slice u2 (an + bn) k2, .slice za 0 zc]) (by simp [results, Try.results36, go_sem, E0, E1, E2, E3]) rfl (S7.out.fin (P := 1) hk (by omega) O7.out (by omega) (by omega) FZ.out rfl)
    · have hP1b : ((P : Int) == 1) = false := by simp only [beq_eq_false_iff_ne, ne_eq]; omega
      obtain ⟨d0, d1, d2, d3⟩ := id GG.out
      go_wp2_with fail
      refine (s_sbRun _ _ _ _ _ gs _ _ _ os key _ _ _ us _ _ _ vs _ MM.out.circ hkk UU.out.ints VV.out.ints HA.out).mono ?_; rintro e w7 ⟨v1, v2, v3, c, rfl, OK, T, hb7⟩
      have S5 := Lib.hid (show PwS w w5 w1.heap.size x0 x1 ga gn gc gs oa on oc os u1 (an + bn) k1 (shU key us vs) from ⟨GG.out, RR.out, BB.out, MM.out, HM1.out.base (by omega), by omega⟩)
      have X7 := Lib.hid (Bex.of (b := w.heap.size + 1) hb7)
      have S7 := Lib.hid (S5.out.bex X7.out)
      have C7 := Lib.hid (CC.out.below hb7)
      have FZ := Lib.hid (show ∀ x ∈ (runR key gs us vs gn).2.2, Fits x from fun x hx => by have := OK.fo x hx; unfold Fits; omega)
      have hck := OK.ck
      have O3 := T.own3
      obtain ⟨za, zc, rfl⟩ := own_sl O3
      have O7 := Lib.hid O3
      generalize (runR key gs us vs gn).2.2 = zs at FZ O7
      clear d0 d1 d2 d3 GG RR BB CC MM UU VV HM1 HM2 HA OK O3 T hb7
      by_cases hc : 0 < c
      · have hci : (0 : Int) < (c : Int) := by omega
        go_wp2_with fail
        refine (s_one _ _ _ 4 _ C7.out (by omega) (by omega)).mono ?_; rintro e w8 ⟨q, rfl, hC8, hX8⟩
        have X8 := Lib.hid (X7.out.trans hX8); have S8 := Lib.hid (S7.out.bex hX8); have O8 := Lib.hid (ownsRow_bex O7.out hX8 (by omega)); have C8 := Lib.hid hC8
        clear X7 S7 C7 O7 hC8 hX8
        cases q with
        | false =>
          obtain ⟨E0, E1, E2, E3⟩ := (S8.out.R.set (.int .i64 x0) (.int .i64 x1) (.slice ga gn gc) (.slice oa on oc)).r
          obtain ⟨d0, d1, d2, d3⟩ := id S8.out.G
          obtain ⟨⟨e0, e1, e2, e3⟩, s0, s1, s2, s3⟩ := id S8.out.R
          go_wp2
          exact bodyPost_ret (v := .tuple #[.agg #[.int .i64 x0, .int .i64 x1, .slice ga gn gc, .slice oa on oc], .int .i64 key, .int .i64 P, .slice u1 (an + bn) k1, .slice za c zc]) (by simp [results, Try.results36, go_sem, E0, E1, E2, E3]) rfl (S8.out.fin (P := P) hk (by omega) O8.out (by omega) (by omega) FZ.out rfl)
        | true =>
          obtain ⟨q, qc, hq, hq1, hq2⟩ := World.ownsRow.form O8.out hc
          simp only [Value.slice.injEq, true_and] at hq; obtain ⟨rfl, rfl⟩ := hq
          go_wp2_with fail
          refine (s_pick _ _ _ c _ C8.out (by omega) (by omega)).mono ?_; rintro e w9 ⟨i, rfl, hi, hi', hC9, hX9⟩
          have X9 := Lib.hid (X8.out.trans hX9); have O9 := Lib.hid (ownsRow_bex O8.out hX9 (by omega)); have C9 := Lib.hid hC9
          clear S8 X8 C8 O8 hC9 hX9
          go_wp2_with fail
          refine (s_pick _ _ _ 3 _ C9.out (by omega) (by omega)).mono ?_; rintro e w10 ⟨y0, rfl, hy0, hy0', hC10, hX10⟩
          have X10 := Lib.hid (X9.out.trans hX10); have O10 := Lib.hid (ownsRow_bex O9.out hX10 (by omega)); have C10 := Lib.hid hC10
          clear X9 C9 O9 hC10 hX10
          go_wp2_with fail
          refine (s_pick _ _ _ 3 _ C10.out (by omega) (by omega)).mono ?_; rintro e w11 ⟨y1, rfl, hy1, hy1', hC11, hX11⟩
          have X11 := Lib.hid (X10.out.trans hX11); have O11 := Lib.hid (ownsRow_bex O10.out hX11 (by omega)); have C11 := Lib.hid hC11
          clear X10 C10 O10 hC11 hX11
          go_wp2_with fail
          refine (s_pick _ _ _ 2 _ C11.out (by omega) (by omega)).mono ?_; rintro e w12 ⟨y2, rfl, hy2, hy2', hC12, hX12⟩
          have X12 := Lib.hid (X11.out.trans hX12); have O12 := Lib.hid (ownsRow_bex O11.out hX12 (by omega)); have C12 := Lib.hid hC12
          clear X11 C11 O11 hC12 hX12
          have hic : i < c := by omega
          have hici : (i : Int) < (c : Int) := by omega
          obtain ⟨⟨t0, a0⟩, b0⟩ := rec_cell O12.out (j := i * 3) (by omega)
          obtain ⟨⟨t1, a1⟩, b1⟩ := rec_cell O12.out (j := i * 3 + 1) (by omega)
          obtain ⟨⟨t2, a2⟩, b2⟩ := rec_cell O12.out (j := i * 3 + 2) (by omega)
          obtain ⟨W, hW⟩ : ∃ X, ((w12.setCell ⟨q, i * 3, none⟩ (.int .i64 y0)).setCell ⟨q, i * 3 + 1, none⟩ (.int .i64 y1)).setCell ⟨q, i * 3 + 2, none⟩ (.int .i64 y2) = X := ⟨_, rfl⟩
          have hq7 : w1.heap.size < q := by omega
          have O13 := rec_put (j := i * 3) (y0 : Int) (y1 : Int) (y2 : Int) O12.out
          have S13 := Lib.hid (S5.out.bex (((X12.out.store1 (p := ⟨q, i * 3, none⟩) (u := .int .i64 y0) (by simp only []; omega)).store1 (p := ⟨q, i * 3 + 1, none⟩) (u := .int .i64 y1) (by simp only []; omega)).store1 (p := ⟨q, i * 3 + 2, none⟩) (u := .int .i64 y2) (by simp only []; omega)))
          rw [hW] at O13 S13
          have FZ3 := Lib.hid (set_fit (set_fit (set_fit FZ.out (u := (y0 : Int)) (by unfold Fits; omega) (i * 3)) (u := (y1 : Int)) (by unfold Fits; omega) (i * 3 + 1)) (u := (y2 : Int)) (by unfold Fits; omega) (i * 3 + 2))
          have O14 := Lib.hid O13
          clear O13 O12 X12 C12
          obtain ⟨E0, E1, E2, E3⟩ := (S13.out.R.set (.int .i64 x0) (.int .i64 x1) (.slice ga gn gc) (.slice oa on oc)).r
          obtain ⟨d0, d1, d2, d3⟩ := id S13.out.G
          obtain ⟨⟨e0, e1, e2, e3⟩, s0, s1, s2, s3⟩ := id S13.out.R
          go_wp2
          exact bodyPost_ret (v := .tuple #[.agg #[.int .i64 x0, .int .i64 x1, .slice ga gn gc, .slice oa on oc], .int .i64 key, .int .i64 P, .slice u1 (an + bn) k1, .slice (some ⟨q, 0, none⟩) c zc]) (by simp [results, Try.results36, go_sem, E0, E1, E2, E3]) rfl (S13.out.fin (P := P) hk (by omega) O14.out (by omega) (by omega) FZ3.out rfl)
      · obtain rfl : c = 0 := by omega
        have hci : ¬ (0 : Int) < ((0 : Nat) : Int) := by omega
        obtain ⟨E0, E1, E2, E3⟩ := (S7.out.R.set (.int .i64 x0) (.int .i64 x1) (.slice ga gn gc) (.slice oa on oc)).r
        obtain ⟨d0, d1, d2, d3⟩ := id S7.out.G
        obtain ⟨⟨e0, e1, e2, e3⟩, s0, s1, s2, s3⟩ := id S7.out.R
        go_wp2
        exact bodyPost_ret (v := .tuple #[.agg #[.int .i64 x0, .int .i64 x1, .slice ga gn gc, .slice oa on oc], .int .i64 key, .int .i64 P, .slice u1 (an + bn) k1, .slice za 0 zc]) (by simp [results, Try.results36, go_sem, E0, E1, E2, E3]) rfl (S7.out.fin (P := P) hk (by omega) O7.out (by omega) (by omega) FZ.out rfl)
end Go.Proofs.Ytmkcanbaleecfaa
