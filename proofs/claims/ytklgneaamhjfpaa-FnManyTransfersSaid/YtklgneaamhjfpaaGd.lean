/-
  The draws of views and of many transfers.
-/
import Derived.Test.YtklgneaamhjfpaaGc
import Derived.Test.YtklgneaamhjfpaaRH
import Derived.Test.YtklgneaamhjfpaaAp
namespace Go.Proofs.Ytklgneaamhjfpaa
open Go.RowKit
set_option linter.unusedVariables false
set_option linter.unusedSimpArgs false

theorem bexR (b : Nat) (w : World) (x y z : Value) : Bex b w (((w.setCell ⟨b, 0, none⟩ x).setCell ⟨b, 1, none⟩ y).setCell ⟨b, 2, none⟩ z) :=
  ((Bex.set w x).trans (Bex.set _ y)).trans (Bex.set _ z)
theorem litMine (xs : List Int) {w : World} {B : Nat} (t : TypeId) (hf : ∀ x ∈ xs, Fits x) (hl : xs.length ≤ 1000) (hB : B ≤ w.heap.size) : Mine (w.alloc (.cells (xs.map (Value.int .i64)).toArray t)) B (some ⟨w.heap.size, 0, none⟩) xs.length xs.length xs :=
  ⟨Ints.lit xs _ t rfl rfl hl hf, fun _ b off e => by
    simp only [Option.some.injEq, Addr.mk.injEq] at e
    obtain ⟨rfl, _, _⟩ := e
    exact ⟨hB, by simp⟩, fun i hi b off e => by
    simp only [Option.some.injEq, Addr.mk.injEq] at e
    obtain ⟨rfl, rfl, _⟩ := e
    exact World.frozen?_alloc_at _ _ _ _ rfl⟩
theorem RDuo.litG {b : Nat} {w : World} {B n1 n2 : Nat} {v1 v2 : Value} {xs ys : List (List Int)} (h : RDuo w B v1 n1 xs v2 n2 ys) (hb : b < B) (zs : List Int) (t : TypeId) (hf : ∀ x ∈ zs, Fits x) (hl : zs.length ≤ 1000) :
    Hid (RDuo (w.alloc (.cells (zs.map (Value.int .i64)).toArray t)) B v1 n1 xs v2 n2 ys) ∧ Hid (Ints (w.alloc (.cells (zs.map (Value.int .i64)).toArray t)) (some ⟨w.heap.size, 0, none⟩) zs.length zs.length zs) ∧
    (0 < zs.length → ∀ g o, (some ⟨w.heap.size, 0, none⟩ : Option Addr) = some ⟨g, o, none⟩ → B ≤ g ∧ some g ≠ v1.ownBlock ∧ some g ≠ v2.ownBlock) :=
  ⟨h.bex (Bex.of (bel_alloc _ _)) hb, (litMine zs t hf hl (Nat.le_refl _)).ints, h.fresh (litMine zs t hf hl (Nat.le_refl _))⟩
theorem RG.put {w : World} {B k g cap i : Nat} {xss : List (List Int)} {v2 : Value} {r : Option Addr} {m c : Nat} {x : List Int} (h : RG w B (.slice (some ⟨g, 0, none⟩) k cap) k xss v2) (hi : i < k) (hm : Ints w r m c x)
    (hr : 0 < m → ∀ g' o, r = some ⟨g', o, none⟩ → B ≤ g' ∧ some g' ≠ (Value.slice (some ⟨g, 0, none⟩) k cap).ownBlock ∧ some g' ≠ v2.ownBlock) :
    RG (w.setCell ⟨g, i, none⟩ (.slice r m c)) B (.slice (some ⟨g, 0, none⟩) k cap) k (xss.set i x) v2 := by
  obtain ⟨hs, h1, h2, h3⟩ := h
  have hlen : hs.length = k := by have := h1.1; omega
  have away : ∀ (r1 : Option Addr) (m1 c1 : Nat) (x1 : List Int), Ints w r1 m1 c1 x1 → (0 < m1 → ∀ g' o, r1 = some ⟨g', o, none⟩ → B ≤ g' ∧ some g' ≠ (Value.slice (some ⟨g, 0, none⟩) k cap).ownBlock ∧ some g' ≠ v2.ownBlock) → Ints (w.setCell ⟨g, i, none⟩ (.slice r m c)) r1 m1 c1 x1 := by
    intro r1 m1 c1 x1 q p
    refine q.bex (Bex.set (b := g) w _) (fun h0 g' o e => ?_)
    have := (p h0 g' o e).2.1
    intro e'
    subst e'
    exact this rfl
  refine ⟨hs.set i (.slice r m c), (World.ownsRow.stored h1 i (.slice r m c)).1, by simpa using h2, fun j hj => ?_⟩
  by_cases e : j = i
  · subst e
    refine ⟨r, m, c, by simp [hlen, hj], ?_, hr⟩
    rw [rowN_set (by rw [h2]; exact hj), if_pos rfl]
    exact away _ _ _ _ hm hr
  · obtain ⟨r1, m1, c1, e1, q1, p1⟩ := h3 j hj
    refine ⟨r1, m1, c1, ?_, ?_, p1⟩
    · rw [List.getElem?_set_ne (Ne.symm e)]; exact e1
    · rw [rowN_set (by rw [h2]; exact hi), if_neg e]; exact away _ _ _ _ q1 p1

theorem RG.shape {w : World} {B k c : Nat} {a : Option Addr} {xss : List (List Int)} {v2 : Value} (h : RG w B (.slice a k c) k xss v2) (hk : 0 < k) : ∃ g, a = some ⟨g, 0, none⟩ ∧ B ≤ g ∧ g < w.heap.size := by
  obtain ⟨hs, h1, h2, h3⟩ := h
  obtain ⟨_, h5⟩ := h1
  rcases h5 with ⟨e, e2⟩ | ⟨g, cap, cur, e, hg, hh, _⟩
  · simp only [Value.slice.injEq] at e; omega
  · simp only [Value.slice.injEq] at e
    refine ⟨g, e.1, hg, ?_⟩
    rcases Nat.lt_or_ge g w.heap.size with q | q
    · exact q
    · rw [Array.getElem?_eq_none q] at hh; cases hh
theorem RG.cell0 {w : World} {B k c g : Nat} {xss : List (List Int)} {v2 : Value} (h : RG w B (.slice (some ⟨g, 0, none⟩) k c) k xss v2) (hk : 0 < k) : True ∧ ∃ u, w.cell? ⟨g, 0, none⟩ = some u ∧ w.frozen? ⟨g, 0, none⟩ = false := by
  obtain ⟨hs, h1, h2, h3⟩ := h
  obtain ⟨r, m, c', e, _, _⟩ := h3 0 hk
  exact ⟨trivial, _, (World.ownsRow.cellAt h1 0 (by omega)).trans e, World.ownsRow.frozenAt h1 0⟩

set_option maxHeartbeats 8000000 in
theorem s_DrawTransferViews (a : Option Addr) (n cap : Nat) (w : World) (hB : Byts w a n cap) :
    Calls Try.prog 51 #[.slice a n cap] w fun e w' => ∃ (P Q G k : Int) (cr : Option Addr) (cn cc : Nat) (cx : List Int), e = .returned (.tuple #[.agg #[.int .i64 P, .int .i64 Q, .int .i64 G], .int .i64 k, .slice cr cn cc]) ∧ Gd P Q G ∧ Dv k ∧ Mine w' w.heap.size cr cn cc cx ∧ Below w.heap.size w w' := by
  have A0 := bel_alloc w (.cells #[.int .i64 0, .int .i64 0, .int .i64 0] 24)
  have r0 := Gw.new (w := w) (P := 0) (Q := 0) (G := 0) (t := 24)
  have hB1 := hB.below A0
  have h0 := Cur.new (t := 67) hB1 hB.und (by simp)
  have hs0 : (w.alloc (.cells #[.int .i64 0, .int .i64 0, .int .i64 0] 24)).heap.size = w.heap.size + 1 := by simp
  rw [hs0] at h0
  have A1 := bel_alloc (w.alloc (.cells #[.int .i64 0, .int .i64 0, .int .i64 0] 24)) (.cells #[.slice a n cap, .int .i64 0, .int .u64 0] 67)
  have r1 := r0.on A1
  have B1 := bel_trans A0 A1
  have z1 : ((w.alloc (.cells #[.int .i64 0, .int .i64 0, .int .i64 0] 24)).alloc (.cells #[.slice a n cap, .int .i64 0, .int .u64 0] 67)).heap.size = w.heap.size + 2 := by simp
  go_enter Try.func51, Try.ntmps51
  go_wp2_with fail
  refine (s_secrets (w.heap.size + 1) w.heap.size 0 _ h0 (by omega)).mono ?_; rintro e w1 ⟨P, Q, G, x, y, rfl, hgd, ⟨dx1, dx2⟩, ⟨dy1, dy2⟩, hC1, hX1⟩
  have rr := r1.bex hX1 (by omega)
  have B2 := hX1.belo B1 (by omega)
  have z2 := hX1.size
  rw [z1] at z2
  clear A0 A1 r0 r1 h0 B1 hX1 z1 hs0 hB1
  have A2 := bel_alloc w1 (.cells #[.int .i64 P, .int .i64 Q, .int .i64 G] 24)
  have gg := (Gw.new (w := w1) (P := P) (Q := Q) (G := G) (t := 24)).gx
  obtain ⟨i0, i1, i2⟩ := gg
  have hC2 := hC1.below A2
  have rr2 := rr.on A2
  have B3 := bel_trans B2 A2
  have z3 : (w1.alloc (.cells #[.int .i64 P, .int .i64 Q, .int .i64 G] 24)).heap.size = w1.heap.size + 1 := by simp
  have hne : w1.heap.size ≠ w.heap.size + 1 := by omega
  have hnr : w1.heap.size ≠ w.heap.size := by omega
  have GD := Lib.hid hgd
  clear rr hC1 B2 A2
  have tk0 : True := trivial; have tk1 : True := trivial; have tk2 : True := trivial
  go_wp2
  go_region_held3 (fun W => W.cell? ⟨w1.heap.size, 0, none⟩ = some (.int .i64 P) ∧ W.cell? ⟨w1.heap.size, 1, none⟩ = some (.int .i64 Q) ∧ W.cell? ⟨w1.heap.size, 2, none⟩ = some (.int .i64 G)) (first | exact ⟨i0, i1, i2⟩ | exact ⟨far3 i0 hnr, far3 i1 hnr, far3 i2 hnr⟩ | exact ⟨cell_on i0 (bel_alloc _ _), cell_on i1 (bel_alloc _ _), cell_on i2 (bel_alloc _ _)⟩) (first | (go_at_call 60; have t_ := tk0; clear tk0; refine (s_pick _ _ _ 60000 _ (hC2.below (bel_drew _)) (by omega) (by omega)).mono ?_; rintro e w10 ⟨r, rfl, hr1, hr2, hC10, hX10⟩; have i0 := hX10.cell i0 hne; have i1 := hX10.cell i1 hne; have i2 := hX10.cell i2 hne; have rr2 := (rr2.on (bel_drew _)).bex hX10 (by omega); have rq := rr2; obtain ⟨c0, c1, c2, f0, f1, f2⟩ := rq) | (go_at_call 59; have t_ := tk1; clear tk1; obtain ⟨hCa, hIa, hOa, hXa⟩ := among_lit (w := w10) (t := 3) [(r : Int), 0, 1000000000, 1000000001, -1] hC10 rfl rfl (by simp) (by intro x hx; simp at hx; unfold Fits; omega); refine (s_among _ _ _ _ 5 5 [(r : Int), 0, 1000000000, 1000000001, -1] _ hCa (by omega) hIa (by omega) (by omega) hOa).mono ?_; rintro e w11 ⟨k, rfl, hk, hC11, hX_⟩; have hX11 := hXa.trans hX_; have i0 := hX11.cell i0 hne; have i1 := hX11.cell i1 hne; have i2 := hX11.cell i2 hne; have rr2 := rr2.bex hX11 (by omega); have rq := rr2; obtain ⟨c0, c1, c2, f0, f1, f2⟩ := rq) | (go_at_call 101; have t_ := tk2; clear tk2; refine (s_choices _ _ _ _ hC11 (by omega)).mono ?_; rintro e w12 ⟨cr, cn, cc, cx, rfl, hM, hcn, hC12, hX12⟩; have i0 := hX12.cell i0 hne; have i1 := hX12.cell i1 hne; have i2 := hX12.cell i2 hne; have rr2 := rr2.bex hX12 (by omega); have rq := rr2; obtain ⟨c0, c1, c2, f0, f1, f2⟩ := rq))
  have rf := rr2
  have XX := (hX10.trans hX11).trans hX12
  have BF := XX.belo (bel_trans B3 (bel_drew _)) (by omega)
  have z12 : w1.heap.size + 1 ≤ w11.heap.size := by have h5 := (hX10.trans hX11).size; have : (w1.alloc (.cells #[.int .i64 P, .int .i64 Q, .int .i64 G] 24)).drew.heap.size = (w1.alloc (.cells #[.int .i64 P, .int .i64 Q, .int .i64 G] 24)).heap.size := rfl; omega
  have E := rf.set P Q G
  have E0 := E.c0; have E1 := E.c1; have E2 := E.c2
  have MF := (hM.bex (bexR w.heap.size w12 (.int .i64 P) (.int .i64 Q) (.int .i64 G)) (by omega)).base (B' := w.heap.size) (by omega)
  have HMF := Lib.hid MF; clear MF hM
  go_wp2
  exact bodyPost_ret (v := .tuple #[.agg #[.int .i64 P, .int .i64 Q, .int .i64 G], .int .i64 k, .slice cr cn cc]) (by simp [results, Try.results51, go_sem, E0, E1, E2]) rfl
    ⟨P, Q, G, k, cr, cn, cc, cx, rfl, GD.out, by simp at hk; unfold Dv; omega, HMF.out, bel_set3 BF (Nat.le_refl _) _ _ _⟩
set_option maxHeartbeats 8000000 in
theorem s_DrawTransferAll (a : Option Addr) (n cap : Nat) (w : World) (hB : Byts w a n cap) :
    Calls Try.prog 48 #[.slice a n cap] w fun e w' => ∃ (P Q G k : Int) (pr : Option Addr) (pn pc : Nat) (ps : List (List Int)) (cr : Option Addr) (cn cc : Nat) (cx : List Int), e = .returned (.tuple #[.agg #[.int .i64 P, .int .i64 Q, .int .i64 G], .int .i64 k, .slice pr pn pc, .slice cr cn cc]) ∧ Gd P Q G ∧ Dv k ∧ Rws w' pr pn pc ps ∧ Mine w' w.heap.size cr cn cc cx ∧ Below w.heap.size w w' := by
  have A0 := bel_alloc w (.cells #[.int .i64 0, .int .i64 0, .int .i64 0] 24)
  have r0 := Gw.new (w := w) (P := 0) (Q := 0) (G := 0) (t := 24)
  have hB1 := hB.below A0
  have h0 := Cur.new (t := 67) hB1 hB.und (by simp)
  have hs0 : (w.alloc (.cells #[.int .i64 0, .int .i64 0, .int .i64 0] 24)).heap.size = w.heap.size + 1 := by simp
  rw [hs0] at h0
  have A1 := bel_alloc (w.alloc (.cells #[.int .i64 0, .int .i64 0, .int .i64 0] 24)) (.cells #[.slice a n cap, .int .i64 0, .int .u64 0] 67)
  have r1 := r0.on A1
  have B1 := bel_trans A0 A1
  have z1 : ((w.alloc (.cells #[.int .i64 0, .int .i64 0, .int .i64 0] 24)).alloc (.cells #[.slice a n cap, .int .i64 0, .int .u64 0] 67)).heap.size = w.heap.size + 2 := by simp
  go_enter Try.func48, Try.ntmps48
  go_wp2_with fail
  refine (s_secrets (w.heap.size + 1) w.heap.size 0 _ h0 (by omega)).mono ?_; rintro e w1 ⟨P, Q, G, x, y, rfl, hgd, ⟨dx1, dx2⟩, ⟨dy1, dy2⟩, hC1, hX1⟩
  have rr := r1.bex hX1 (by omega)
  have B2 := hX1.belo B1 (by omega)
  have z2 := hX1.size
  rw [z1] at z2
  clear A0 A1 r0 r1 h0 B1 hX1 z1 hs0 hB1
  have A2 := bel_alloc w1 (.cells #[.int .i64 P, .int .i64 Q, .int .i64 G] 24)
  have gg := (Gw.new (w := w1) (P := P) (Q := Q) (G := G) (t := 24)).gx
  obtain ⟨i0, i1, i2⟩ := gg
  have hC2 := hC1.below A2
  have rr2 := rr.on A2
  have B3 := bel_trans B2 A2
  have z3 : (w1.alloc (.cells #[.int .i64 P, .int .i64 Q, .int .i64 G] 24)).heap.size = w1.heap.size + 1 := by simp
  have hne : w1.heap.size ≠ w.heap.size + 1 := by omega
  have hnr : w1.heap.size ≠ w.heap.size := by omega
  have GD := Lib.hid hgd
  clear rr hC1 B2 A2
  go_wp2_with fail
  refine (s_choices _ _ _ _ hC2 (by omega)).mono ?_; rintro e W0 ⟨cr, cn, cc, cx, rfl, hM, hcn, hC3, hX3⟩
  replace i0 := hX3.cell i0 hne; replace i1 := hX3.cell i1 hne; replace i2 := hX3.cell i2 hne
  have rr3 := rr2.bex hX3 (by omega)
  have B4 := hX3.belo B3 (by omega)
  have z4 := hX3.size
  rw [z3] at z4
  rw [z3] at hM
  have HM := Lib.hid hM; have HR := Lib.hid rr3; have HB4 := Lib.hid B4
  have HI := Lib.hid (And.intro i0 (And.intro i1 i2))
  have HC := Lib.hid (hC3.more (K' := 1000) (by omega)); have HX : Hid (Bex (w.heap.size + 1) W0 W0) := Bex.refl _ _
  have hbb : w.heap.size + 1 < W0.heap.size := by omega
  clear hM rr2 rr3 B3 B4 hX3 hC2 hC3 i0 i1 i2 z3
  go_wp2
  go_loopw [11, 25] (fun v i W => ∃ j : Nat, j ≤ cn ∧ i = .int .i64 j ∧ Hid (∃ ps, RDuo W W0.heap.size v j ps (.slice none 0 0) 0 []) ∧ Hid (Cur W (w.heap.size + 1) w.heap.size (1000 + 4 * j)) ∧ Hid (Bex (w.heap.size + 1) W0 W)) (fun _ i _ => cn - (intOf i).toNat)
  case atStart => exact ⟨0, by omega, rfl, ⟨[], RDuo.nil (Nat.le_refl _)⟩, HC, HX⟩
  case round =>
    clear HC HX
    obtain ⟨j, hj, rfl, HD, HC, HX⟩ := hrel
    obtain ⟨ps, hd⟩ := HD.out
    clear HD
    by_cases hlt : j < cn
    · have hlti : (j : Int) < (cn : Int) := by omega
      go_wp2_with fail
      refine (s_pick _ _ _ 60000 _ HC.out (by omega) (by omega)).mono ?_; rintro e w3 ⟨r, rfl, hr1, hr2, hC3, hX3⟩
      replace hd := hd.bex hX3 hbb; have HX3 := Lib.hid (HX.out.trans hX3); clear HX HC hX3
      go_wp2_with fail
      refine (s_pick _ _ _ 60000 _ hC3 (by omega) (by omega)).mono ?_; rintro e w4 ⟨s, rfl, hs1, hs2, hC4, hX4⟩
      replace hd := hd.bex hX4 hbb; have HX4 := Lib.hid (HX3.out.trans hX4); clear HX3 hX4 hC3
      obtain ⟨HD5, LM, fr⟩ := hd.litG hbb [(r : Int), (s : Int)] 3 (by intro x hx; simp at hx; unfold Fits; omega) (by simp)
      have A5 := bel_alloc w4 (.cells (([(r : Int), (s : Int)] : List Int).map (Value.int .i64)).toArray 3)
      have HC5 := Lib.hid (hC4.below A5); have HX5 := Lib.hid (HX4.out.trans (Bex.of A5)); clear hd hC4 HX4 A5
      go_wp2_with (at_builtin; refine wp_rduo (w4.alloc (.cells #[.int .i64 r, .int .i64 s] 3)) W0.heap.size j _ ps _ 0 [] _ 2 2 [(r : Int), (s : Int)] _ _ rfl _ _ rfl rfl rfl (by first | rfl | simp) HD5.out LM.out fr (by omega) (by omega) ?_; intro v6 w6 hd6 hb6; have HC6 := Lib.hid (HC5.out.onC hb6 hbb); have HX6 := Lib.hid (HX5.out.thenC hb6); have HD6 := Lib.hid hd6; clear hd6 hb6)
      go_roundw
      case rel => exact ⟨j + 1, by omega, by first | go_num | (simp; omega), ⟨_, HD6.out⟩, (show Hid _ from HC6.out.more (by omega)), HX6⟩
      case measure => simp [intOf]; omega
    · obtain rfl : j = cn := by omega
      obtain ⟨b3, d3, rfl⟩ := hd.one.val
      by_cases hn0 : 0 < j
      rotate_left
      · have hn0i : ¬ (0 : Int) < (j : Int) := by omega
        have rrw := HR.out.bex HX.out (by omega)
        have mmw := HM.out.bex HX.out (by omega)
        have bbw := HX.out.belo HB4.out (by omega)
        have i0 := HX.out.cell HI.out.1 hne; have i1 := HX.out.cell HI.out.2.1 hne; have i2 := HX.out.cell HI.out.2.2 hne
        have HRG := Lib.hid hd.one; have HMM := Lib.hid mmw; clear mmw
        have rr2 := rrw; clear rrw
        go_wp2
        go_region_held3 (fun W => W.cell? ⟨w1.heap.size, 0, none⟩ = some (.int .i64 P) ∧ W.cell? ⟨w1.heap.size, 1, none⟩ = some (.int .i64 Q) ∧ W.cell? ⟨w1.heap.size, 2, none⟩ = some (.int .i64 G)) (first | exact ⟨i0, i1, i2⟩ | exact ⟨far3 i0 hnr, far3 i1 hnr, far3 i2 hnr⟩ | exact ⟨cell_on i0 (bel_alloc _ _), cell_on i1 (bel_alloc _ _), cell_on i2 (bel_alloc _ _)⟩) (first | (go_at_call 60; refine (s_pick _ _ _ 60000 _ (HC.out.below (bel_drew _)) (by omega) (by omega)).mono ?_; rintro e w10 ⟨key, rfl, hy1, hy2, hC10, hX10⟩; have i0 := hX10.cell i0 hne; have i1 := hX10.cell i1 hne; have i2 := hX10.cell i2 hne; have rr2 := (rr2.on (bel_drew _)).bex hX10 (by omega); have rq := rr2; obtain ⟨c0, c1, c2, f0, f1, f2⟩ := rq))
        have rf := rr2
        have BF := hX10.belo (bel_trans bbw (bel_drew _)) (by omega)
        have E := rf.set P Q G
        have E0 := E.c0; have E1 := E.c1; have E2 := E.c2
        have XR := bexR w.heap.size w10 (.int .i64 P) (.int .i64 Q) (.int .i64 G)
        have MF := (((HMM.out.below (bel_drew _)).bex hX10 (by omega)).bex XR (by omega)).base (B' := w.heap.size) (by omega)
        have GF := ((HRG.out.bex (Bex.of (b := w.heap.size + 1) (bel_drew _)) (by omega)).bex hX10 (by omega)).bex XR (by omega)
        obtain ⟨pr, pc, e9, RF⟩ := GF.rws (by omega)
        obtain ⟨rfl, -, rfl⟩ := Value.slice.inj e9
        have HMF := Lib.hid MF; have HRF := Lib.hid RF; clear MF RF GF HRG HMM
        go_wp2
        exact bodyPost_ret (v := .tuple #[.agg #[.int .i64 P, .int .i64 Q, .int .i64 G], .int .i64 key, .slice b3 j d3, .slice cr j cc]) (by simp [results, Try.results48, go_sem, E0, E1, E2]) rfl
          ⟨P, Q, G, key, b3, j, d3, _, cr, j, cc, cx, rfl, GD.out, ⟨by omega, by omega⟩, HRF.out, HMF.out, bel_set3 BF (Nat.le_refl _) _ _ _⟩
      · have hn0i : (0 : Int) < (j : Int) := by omega
        go_wp2_with fail
        refine (s_one _ _ _ 10 _ HC.out (by omega) (by omega)).mono ?_; rintro e w7 ⟨q, rfl, hC7, hX7⟩
        replace hd := hd.bex hX7 hbb; have HX7 := Lib.hid (HX.out.trans hX7); have HC7 := Lib.hid hC7; clear HX HC hX7 hC7
        cases q with
        | false =>
          have rrw := HR.out.bex HX7.out (by omega)
          have mmw := HM.out.bex HX7.out (by omega)
          have bbw := HX7.out.belo HB4.out (by omega)
          have i0 := HX7.out.cell HI.out.1 hne; have i1 := HX7.out.cell HI.out.2.1 hne; have i2 := HX7.out.cell HI.out.2.2 hne
          have HRG := Lib.hid hd.one; have HMM := Lib.hid mmw; clear mmw
          have rr2 := rrw; clear rrw
          go_wp2
          go_region_held3 (fun W => W.cell? ⟨w1.heap.size, 0, none⟩ = some (.int .i64 P) ∧ W.cell? ⟨w1.heap.size, 1, none⟩ = some (.int .i64 Q) ∧ W.cell? ⟨w1.heap.size, 2, none⟩ = some (.int .i64 G)) (first | exact ⟨i0, i1, i2⟩ | exact ⟨far3 i0 hnr, far3 i1 hnr, far3 i2 hnr⟩ | exact ⟨cell_on i0 (bel_alloc _ _), cell_on i1 (bel_alloc _ _), cell_on i2 (bel_alloc _ _)⟩) (first | (go_at_call 60; refine (s_pick _ _ _ 60000 _ (HC7.out.below (bel_drew _)) (by omega) (by omega)).mono ?_; rintro e w10 ⟨key, rfl, hy1, hy2, hC10, hX10⟩; have i0 := hX10.cell i0 hne; have i1 := hX10.cell i1 hne; have i2 := hX10.cell i2 hne; have rr2 := (rr2.on (bel_drew _)).bex hX10 (by omega); have rq := rr2; obtain ⟨c0, c1, c2, f0, f1, f2⟩ := rq))
          have rf := rr2
          have BF := hX10.belo (bel_trans bbw (bel_drew _)) (by omega)
          have E := rf.set P Q G
          have E0 := E.c0; have E1 := E.c1; have E2 := E.c2
          have XR := bexR w.heap.size w10 (.int .i64 P) (.int .i64 Q) (.int .i64 G)
          have MF := (((HMM.out.below (bel_drew _)).bex hX10 (by omega)).bex XR (by omega)).base (B' := w.heap.size) (by omega)
          have GF := ((HRG.out.bex (Bex.of (b := w.heap.size + 1) (bel_drew _)) (by omega)).bex hX10 (by omega)).bex XR (by omega)
          obtain ⟨pr, pc, e9, RF⟩ := GF.rws (by omega)
          obtain ⟨rfl, -, rfl⟩ := Value.slice.inj e9
          have HMF := Lib.hid MF; have HRF := Lib.hid RF; clear MF RF GF HRG HMM
          go_wp2
          exact bodyPost_ret (v := .tuple #[.agg #[.int .i64 P, .int .i64 Q, .int .i64 G], .int .i64 key, .slice b3 j d3, .slice cr j cc]) (by simp [results, Try.results48, go_sem, E0, E1, E2]) rfl
            ⟨P, Q, G, key, b3, j, d3, _, cr, j, cc, cx, rfl, GD.out, ⟨by omega, by omega⟩, HRF.out, HMF.out, bel_set3 BF (Nat.le_refl _) _ _ _⟩
        | true =>
          obtain ⟨g, eg, hg1, hg2⟩ := hd.one.shape hn0
          subst eg
          have s1 : (w7.alloc (.cells (([1] : List Int).map (Value.int .i64)).toArray 3)).heap.size = w7.heap.size + 1 := by simp
          have s2 : ((w7.alloc (.cells (([1] : List Int).map (Value.int .i64)).toArray 3)).alloc (.cells (([0, 65536] : List Int).map (Value.int .i64)).toArray 3)).heap.size = w7.heap.size + 1 + 1 := by simp
          have s3 : (((w7.alloc (.cells (([1] : List Int).map (Value.int .i64)).toArray 3)).alloc (.cells (([0, 65536] : List Int).map (Value.int .i64)).toArray 3)).alloc (.cells (([65535, 0] : List Int).map (Value.int .i64)).toArray 3)).heap.size = w7.heap.size + 1 + 1 + 1 := by simp
          obtain ⟨HD1, LM1, fr1⟩ := hd.litG hbb [1] 3 (by intro x hx; simp at hx; unfold Fits; omega) (by simp)
          obtain ⟨HD2, LM2, fr2⟩ := HD1.out.litG hbb [0, 65536] 3 (by intro x hx; simp at hx; unfold Fits; omega) (by simp)
          obtain ⟨HD3, LM3, fr3⟩ := HD2.out.litG hbb [65535, 0] 3 (by intro x hx; simp at hx; unfold Fits; omega) (by simp)
          have A1 := bel_alloc w7 (.cells (([1] : List Int).map (Value.int .i64)).toArray 3)
          have A2 := bel_alloc (w7.alloc (.cells (([1] : List Int).map (Value.int .i64)).toArray 3)) (.cells (([0, 65536] : List Int).map (Value.int .i64)).toArray 3)
          have A3 := bel_alloc ((w7.alloc (.cells (([1] : List Int).map (Value.int .i64)).toArray 3)).alloc (.cells (([0, 65536] : List Int).map (Value.int .i64)).toArray 3)) (.cells (([65535, 0] : List Int).map (Value.int .i64)).toArray 3)
          obtain ⟨U3, hU3⟩ : ∃ X, X = ((w7.alloc (.cells (([1] : List Int).map (Value.int .i64)).toArray 3)).alloc (.cells (([0, 65536] : List Int).map (Value.int .i64)).toArray 3)).alloc (.cells (([65535, 0] : List Int).map (Value.int .i64)).toArray 3) := ⟨_, rfl⟩
          have L1 := (LM1.out.below A2).below A3; have L2 := LM2.out.below A3; have L3 := LM3.out; have D3 := HD3.out
          have B3_ := bel_trans (bel_trans A1 A2) A3
          rw [s1] at L2 fr2; rw [s2] at L3 fr3; rw [← hU3] at L1 L2 L3 D3 s3 B3_
          clear HD1 HD2 HD3 LM1 LM2 LM3 A1 A2 A3 s1 s2
          have A4 := bel_alloc U3 (.cells #[.slice (some ⟨w7.heap.size, 0, none⟩) 1 1, .slice (some ⟨w7.heap.size + 1, 0, none⟩) 2 2, .slice (some ⟨w7.heap.size + 1 + 1, 0, none⟩) 2 2] 32)
          have q0 : (U3.alloc (.cells #[.slice (some ⟨w7.heap.size, 0, none⟩) 1 1, .slice (some ⟨w7.heap.size + 1, 0, none⟩) 2 2, .slice (some ⟨w7.heap.size + 1 + 1, 0, none⟩) 2 2] 32)).cell? ⟨U3.heap.size, 0, none⟩ = some (.slice (some ⟨w7.heap.size, 0, none⟩) 1 1) := World.cell?_alloc_at _ _ _ _ rfl
          have q1 : (U3.alloc (.cells #[.slice (some ⟨w7.heap.size, 0, none⟩) 1 1, .slice (some ⟨w7.heap.size + 1, 0, none⟩) 2 2, .slice (some ⟨w7.heap.size + 1 + 1, 0, none⟩) 2 2] 32)).cell? ⟨U3.heap.size, 1, none⟩ = some (.slice (some ⟨w7.heap.size + 1, 0, none⟩) 2 2) := World.cell?_alloc_at _ _ _ _ rfl
          have q2 : (U3.alloc (.cells #[.slice (some ⟨w7.heap.size, 0, none⟩) 1 1, .slice (some ⟨w7.heap.size + 1, 0, none⟩) 2 2, .slice (some ⟨w7.heap.size + 1 + 1, 0, none⟩) 2 2] 32)).cell? ⟨U3.heap.size, 2, none⟩ = some (.slice (some ⟨w7.heap.size + 1 + 1, 0, none⟩) 2 2) := World.cell?_alloc_at _ _ _ _ rfl
          rw [s3] at q0 q1 q2
          have D4 := D3.bex (Bex.of (b := w.heap.size + 1) A4) hbb
          replace L1 := L1.below A4; replace L2 := L2.below A4; replace L3 := L3.below A4
          have HC4_ := Lib.hid ((HC7.out.below B3_).below A4); have HX4_ := Lib.hid ((HX7.out.trans (Bex.of B3_)).trans (Bex.of A4))
          have z77 := HX7.out.size
          have hU4 : U3.alloc (.cells #[.slice (some ⟨w7.heap.size, 0, none⟩) 1 1, .slice (some ⟨w7.heap.size + 1, 0, none⟩) 2 2, .slice (some ⟨w7.heap.size + 1 + 1, 0, none⟩) 2 2] 32) = ((((w7.alloc (.cells #[.int .i64 1] 3)).alloc (.cells #[.int .i64 0, .int .i64 65536] 3)).alloc (.cells #[.int .i64 65535, .int .i64 0] 3)).alloc (.cells #[.slice (some ⟨w7.heap.size, 0, none⟩) 1 1, .slice (some ⟨w7.heap.size + 1, 0, none⟩) 2 2, .slice (some ⟨w7.heap.size + 1 + 1, 0, none⟩) 2 2] 32)) := by rw [hU3]; rfl
          obtain ⟨U4, hU4_⟩ : ∃ X, X = U3.alloc (.cells #[.slice (some ⟨w7.heap.size, 0, none⟩) 1 1, .slice (some ⟨w7.heap.size + 1, 0, none⟩) 2 2, .slice (some ⟨w7.heap.size + 1 + 1, 0, none⟩) 2 2] 32) := ⟨_, rfl⟩
          rw [← hU4_] at q0 q1 q2 D4 L1 L2 L3 HC4_ HX4_ hU4
          replace hU4 := Lib.hid hU4
          clear D3 A4 hU3 hU4_ B3_ HC7 HX7 hd s3
          go_wp2_with fail
          rw [← hU4.out]; clear hU4
          refine (s_pick _ _ _ 3 _ HC4_.out (by omega) (by omega)).mono ?_; rintro e w8 ⟨r, rfl, hr1, hr2, hC8, hX8⟩
          have hd8 := D4.bex hX8 hbb
          have M1 := L1.bex hX8 (fun h g o e => by have := (fr1 (by simp) g o e).1; omega)
          have M2 := L2.bex hX8 (fun h g o e => by have := (fr2 (by simp) g o e).1; omega)
          have M3 := L3.bex hX8 (fun h g o e => by have := (fr3 (by simp) g o e).1; omega)
          have n3 : w7.heap.size + 1 + 1 + 1 ≠ w.heap.size + 1 := by omega
          replace q0 := hX8.cell q0 n3; replace q1 := hX8.cell q1 n3; replace q2 := hX8.cell q2 n3
          have HC8 := Lib.hid hC8; have HX8 := Lib.hid (HX4_.out.trans hX8)
          clear L1 L2 L3 D4 hX8 hC8 HC4_ HX4_
          obtain ⟨_, g_, gc1, gf1⟩ := hd8.one.cell0 hn0
          have RGA := Lib.hid hd8.one
          clear hd8
          have hr3 : r = 0 ∨ r = 1 ∨ r = 2 := by omega
          rcases hr3 with rfl | rfl | rfl
          · have RGp := RGA.out.put (i := 0) (r := some ⟨w7.heap.size, 0, none⟩) (m := 1) (c := 1) (x := [1]) hn0 M1 (fun h g o e => by have h3 := fr1 (by simp) g o e; exact ⟨h3.1, h3.2.1, h3.2.2⟩)
            have HCp := Lib.hid (HC8.out.store (p := ⟨g, 0, none⟩) (u := .slice (some ⟨w7.heap.size, 0, none⟩) 1 1) (by dsimp only; omega) (by dsimp only; omega))
            have HXp := Lib.hid (HX8.out.store (p := ⟨g, 0, none⟩) (by dsimp only; omega) (.slice (some ⟨w7.heap.size, 0, none⟩) 1 1))
            have HRGp := Lib.hid RGp; clear RGp M1 M2 M3 HC8 HX8
            have rrw := HR.out.bex HXp.out (by omega)
            have mmw := HM.out.bex HXp.out (by omega)
            have bbw := HXp.out.belo HB4.out (by omega)
            have i0 := HXp.out.cell HI.out.1 hne; have i1 := HXp.out.cell HI.out.2.1 hne; have i2 := HXp.out.cell HI.out.2.2 hne
            have HRG := Lib.hid HRGp.out; have HMM := Lib.hid mmw; clear mmw
            have rr2 := rrw; clear rrw
            go_wp2
            go_region_held3 (fun W => W.cell? ⟨w1.heap.size, 0, none⟩ = some (.int .i64 P) ∧ W.cell? ⟨w1.heap.size, 1, none⟩ = some (.int .i64 Q) ∧ W.cell? ⟨w1.heap.size, 2, none⟩ = some (.int .i64 G)) (first | exact ⟨i0, i1, i2⟩ | exact ⟨far3 i0 hnr, far3 i1 hnr, far3 i2 hnr⟩ | exact ⟨cell_on i0 (bel_alloc _ _), cell_on i1 (bel_alloc _ _), cell_on i2 (bel_alloc _ _)⟩) (first | (go_at_call 60; refine (s_pick _ _ _ 60000 _ (HCp.out.below (bel_drew _)) (by omega) (by omega)).mono ?_; rintro e w10 ⟨key, rfl, hy1, hy2, hC10, hX10⟩; have i0 := hX10.cell i0 hne; have i1 := hX10.cell i1 hne; have i2 := hX10.cell i2 hne; have rr2 := (rr2.on (bel_drew _)).bex hX10 (by omega); have rq := rr2; obtain ⟨c0, c1, c2, f0, f1, f2⟩ := rq))
            have rf := rr2
            have BF := hX10.belo (bel_trans bbw (bel_drew _)) (by omega)
            have E := rf.set P Q G
            have E0 := E.c0; have E1 := E.c1; have E2 := E.c2
            have XR := bexR w.heap.size w10 (.int .i64 P) (.int .i64 Q) (.int .i64 G)
            have MF := (((HMM.out.below (bel_drew _)).bex hX10 (by omega)).bex XR (by omega)).base (B' := w.heap.size) (by omega)
            have GF := ((HRG.out.bex (Bex.of (b := w.heap.size + 1) (bel_drew _)) (by omega)).bex hX10 (by omega)).bex XR (by omega)
            obtain ⟨pr, pc, e9, RF⟩ := GF.rws (by omega)
            obtain ⟨rfl, -, rfl⟩ := Value.slice.inj e9
            have HMF := Lib.hid MF; have HRF := Lib.hid RF; clear MF RF GF HRG HMM
            go_wp2
            exact bodyPost_ret (v := .tuple #[.agg #[.int .i64 P, .int .i64 Q, .int .i64 G], .int .i64 key, .slice (some ⟨g, 0, none⟩) j d3, .slice cr j cc]) (by simp [results, Try.results48, go_sem, E0, E1, E2]) rfl
              ⟨P, Q, G, key, (some ⟨g, 0, none⟩), j, d3, _, cr, j, cc, cx, rfl, GD.out, ⟨by omega, by omega⟩, HRF.out, HMF.out, bel_set3 BF (Nat.le_refl _) _ _ _⟩
          · have RGp := RGA.out.put (i := 0) (r := some ⟨w7.heap.size + 1, 0, none⟩) (m := 2) (c := 2) (x := [0, 65536]) hn0 M2 (fun h g o e => by have h3 := fr2 (by simp) g o e; exact ⟨h3.1, h3.2.1, h3.2.2⟩)
            have HCp := Lib.hid (HC8.out.store (p := ⟨g, 0, none⟩) (u := .slice (some ⟨w7.heap.size + 1, 0, none⟩) 2 2) (by dsimp only; omega) (by dsimp only; omega))
            have HXp := Lib.hid (HX8.out.store (p := ⟨g, 0, none⟩) (by dsimp only; omega) (.slice (some ⟨w7.heap.size + 1, 0, none⟩) 2 2))
            have HRGp := Lib.hid RGp; clear RGp M1 M2 M3 HC8 HX8
            have rrw := HR.out.bex HXp.out (by omega)
            have mmw := HM.out.bex HXp.out (by omega)
            have bbw := HXp.out.belo HB4.out (by omega)
            have i0 := HXp.out.cell HI.out.1 hne; have i1 := HXp.out.cell HI.out.2.1 hne; have i2 := HXp.out.cell HI.out.2.2 hne
            have HRG := Lib.hid HRGp.out; have HMM := Lib.hid mmw; clear mmw
            have rr2 := rrw; clear rrw
            go_wp2
            go_region_held3 (fun W => W.cell? ⟨w1.heap.size, 0, none⟩ = some (.int .i64 P) ∧ W.cell? ⟨w1.heap.size, 1, none⟩ = some (.int .i64 Q) ∧ W.cell? ⟨w1.heap.size, 2, none⟩ = some (.int .i64 G)) (first | exact ⟨i0, i1, i2⟩ | exact ⟨far3 i0 hnr, far3 i1 hnr, far3 i2 hnr⟩ | exact ⟨cell_on i0 (bel_alloc _ _), cell_on i1 (bel_alloc _ _), cell_on i2 (bel_alloc _ _)⟩) (first | (go_at_call 60; refine (s_pick _ _ _ 60000 _ (HCp.out.below (bel_drew _)) (by omega) (by omega)).mono ?_; rintro e w10 ⟨key, rfl, hy1, hy2, hC10, hX10⟩; have i0 := hX10.cell i0 hne; have i1 := hX10.cell i1 hne; have i2 := hX10.cell i2 hne; have rr2 := (rr2.on (bel_drew _)).bex hX10 (by omega); have rq := rr2; obtain ⟨c0, c1, c2, f0, f1, f2⟩ := rq))
            have rf := rr2
            have BF := hX10.belo (bel_trans bbw (bel_drew _)) (by omega)
            have E := rf.set P Q G
            have E0 := E.c0; have E1 := E.c1; have E2 := E.c2
            have XR := bexR w.heap.size w10 (.int .i64 P) (.int .i64 Q) (.int .i64 G)
            have MF := (((HMM.out.below (bel_drew _)).bex hX10 (by omega)).bex XR (by omega)).base (B' := w.heap.size) (by omega)
            have GF := ((HRG.out.bex (Bex.of (b := w.heap.size + 1) (bel_drew _)) (by omega)).bex hX10 (by omega)).bex XR (by omega)
            obtain ⟨pr, pc, e9, RF⟩ := GF.rws (by omega)
            obtain ⟨rfl, -, rfl⟩ := Value.slice.inj e9
            have HMF := Lib.hid MF; have HRF := Lib.hid RF; clear MF RF GF HRG HMM
            go_wp2
            exact bodyPost_ret (v := .tuple #[.agg #[.int .i64 P, .int .i64 Q, .int .i64 G], .int .i64 key, .slice (some ⟨g, 0, none⟩) j d3, .slice cr j cc]) (by simp [results, Try.results48, go_sem, E0, E1, E2]) rfl
              ⟨P, Q, G, key, (some ⟨g, 0, none⟩), j, d3, _, cr, j, cc, cx, rfl, GD.out, ⟨by omega, by omega⟩, HRF.out, HMF.out, bel_set3 BF (Nat.le_refl _) _ _ _⟩
          · have RGp := RGA.out.put (i := 0) (r := some ⟨w7.heap.size + 1 + 1, 0, none⟩) (m := 2) (c := 2) (x := [65535, 0]) hn0 M3 (fun h g o e => by have h3 := fr3 (by simp) g o e; exact ⟨h3.1, h3.2.1, h3.2.2⟩)
            have HCp := Lib.hid (HC8.out.store (p := ⟨g, 0, none⟩) (u := .slice (some ⟨w7.heap.size + 1 + 1, 0, none⟩) 2 2) (by dsimp only; omega) (by dsimp only; omega))
            have HXp := Lib.hid (HX8.out.store (p := ⟨g, 0, none⟩) (by dsimp only; omega) (.slice (some ⟨w7.heap.size + 1 + 1, 0, none⟩) 2 2))
            have HRGp := Lib.hid RGp; clear RGp M1 M2 M3 HC8 HX8
            have rrw := HR.out.bex HXp.out (by omega)
            have mmw := HM.out.bex HXp.out (by omega)
            have bbw := HXp.out.belo HB4.out (by omega)
            have i0 := HXp.out.cell HI.out.1 hne; have i1 := HXp.out.cell HI.out.2.1 hne; have i2 := HXp.out.cell HI.out.2.2 hne
            have HRG := Lib.hid HRGp.out; have HMM := Lib.hid mmw; clear mmw
            have rr2 := rrw; clear rrw
            go_wp2
            go_region_held3 (fun W => W.cell? ⟨w1.heap.size, 0, none⟩ = some (.int .i64 P) ∧ W.cell? ⟨w1.heap.size, 1, none⟩ = some (.int .i64 Q) ∧ W.cell? ⟨w1.heap.size, 2, none⟩ = some (.int .i64 G)) (first | exact ⟨i0, i1, i2⟩ | exact ⟨far3 i0 hnr, far3 i1 hnr, far3 i2 hnr⟩ | exact ⟨cell_on i0 (bel_alloc _ _), cell_on i1 (bel_alloc _ _), cell_on i2 (bel_alloc _ _)⟩) (first | (go_at_call 60; refine (s_pick _ _ _ 60000 _ (HCp.out.below (bel_drew _)) (by omega) (by omega)).mono ?_; rintro e w10 ⟨key, rfl, hy1, hy2, hC10, hX10⟩; have i0 := hX10.cell i0 hne; have i1 := hX10.cell i1 hne; have i2 := hX10.cell i2 hne; have rr2 := (rr2.on (bel_drew _)).bex hX10 (by omega); have rq := rr2; obtain ⟨c0, c1, c2, f0, f1, f2⟩ := rq))
            have rf := rr2
            have BF := hX10.belo (bel_trans bbw (bel_drew _)) (by omega)
            have E := rf.set P Q G
            have E0 := E.c0; have E1 := E.c1; have E2 := E.c2
            have XR := bexR w.heap.size w10 (.int .i64 P) (.int .i64 Q) (.int .i64 G)
            have MF := (((HMM.out.below (bel_drew _)).bex hX10 (by omega)).bex XR (by omega)).base (B' := w.heap.size) (by omega)
            have GF := ((HRG.out.bex (Bex.of (b := w.heap.size + 1) (bel_drew _)) (by omega)).bex hX10 (by omega)).bex XR (by omega)
            obtain ⟨pr, pc, e9, RF⟩ := GF.rws (by omega)
            obtain ⟨rfl, -, rfl⟩ := Value.slice.inj e9
            have HMF := Lib.hid MF; have HRF := Lib.hid RF; clear MF RF GF HRG HMM
            go_wp2
            exact bodyPost_ret (v := .tuple #[.agg #[.int .i64 P, .int .i64 Q, .int .i64 G], .int .i64 key, .slice (some ⟨g, 0, none⟩) j d3, .slice cr j cc]) (by simp [results, Try.results48, go_sem, E0, E1, E2]) rfl
              ⟨P, Q, G, key, (some ⟨g, 0, none⟩), j, d3, _, cr, j, cc, cx, rfl, GD.out, ⟨by omega, by omega⟩, HRF.out, HMF.out, bel_set3 BF (Nat.le_refl _) _ _ _⟩
end Go.Proofs.Ytklgneaamhjfpaa
