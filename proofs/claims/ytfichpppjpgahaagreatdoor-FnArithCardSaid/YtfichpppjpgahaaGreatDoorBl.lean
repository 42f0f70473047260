/-
  The draw of an arithmetic circuit.
-/
import Derived.Test.YtfichpppjpgahaaGreatDoorFm5
import Derived.Test.YtfichpppjpgahaaGreatDoorFm8
import Derived.Test.YtfichpppjpgahaaGreatDoorFm2
namespace Go.Proofs.YtfichpppjpgahaaGreatDoor
open Go.RowKit
set_option linter.unusedVariables false
set_option linter.unusedSimpArgs false
set_option maxRecDepth 10000

theorem Bex.store1A {b : Nat} {p : Addr} {w w' : World} {u : Value} (h : Bex b w w') (hg : w.heap.size ≤ p.block) : Bex b w (w'.setCell p u) :=
  ⟨h.os, h.tape, h.output, by simpa [World.setCell] using h.size, fun k hk hne => (Below.heap_setCell _ _ _ _ (by first | omega | (simp only []; omega))).trans (h.block k hk hne)⟩
theorem Bex.set5 {b g : Nat} {w w' : World} (h : Bex b w w') (hg : w.heap.size ≤ g) (x y z u v : Value) : Bex b w (((((w'.setCell ⟨g, 0, none⟩ x).setCell ⟨g, 1, none⟩ y).setCell ⟨g, 2, none⟩ z).setCell ⟨g, 3, none⟩ u).setCell ⟨g, 4, none⟩ v) :=
  ((((h.store1A (p := ⟨g, 0, none⟩) hg).store1A (p := ⟨g, 1, none⟩) hg).store1A (p := ⟨g, 2, none⟩) hg).store1A (p := ⟨g, 3, none⟩) hg).store1A (p := ⟨g, 4, none⟩) hg
theorem Bex.only5 {g : Nat} (w : World) (x y z u v : Value) : Bex g w (((((w.setCell ⟨g, 0, none⟩ x).setCell ⟨g, 1, none⟩ y).setCell ⟨g, 2, none⟩ z).setCell ⟨g, 3, none⟩ u).setCell ⟨g, 4, none⟩ v) :=
  ((((Bex.set w x).trans (Bex.set _ y)).trans (Bex.set _ z)).trans (Bex.set _ u)).trans (Bex.set _ v)
theorem Cur.set5 {w : World} {b B K g : Nat} {x y z u v : Value} (h : Cur w b B K) (hp : g ≠ b) (hq : B ≤ g) : Cur (((((w.setCell ⟨g, 0, none⟩ x).setCell ⟨g, 1, none⟩ y).setCell ⟨g, 2, none⟩ z).setCell ⟨g, 3, none⟩ u).setCell ⟨g, 4, none⟩ v) b B K :=
  ((((h.store (p := ⟨g, 0, none⟩) hp hq).store (p := ⟨g, 1, none⟩) hp hq).store (p := ⟨g, 2, none⟩) hp hq).store (p := ⟨g, 3, none⟩) hp hq).store (p := ⟨g, 4, none⟩) hp hq
theorem B5w.set {w : World} {b : Nat} {x0 x1 x2 x3 x4 : Value} (h : B5w w b x0 x1 x2 x3 x4) (y0 y1 y2 y3 y4 : Value) : B5w (((((w.setCell ⟨b, 0, none⟩ y0).setCell ⟨b, 1, none⟩ y1).setCell ⟨b, 2, none⟩ y2).setCell ⟨b, 3, none⟩ y3).setCell ⟨b, 4, none⟩ y4) b y0 y1 y2 y3 y4 :=
  ((((h.s0 y0).s1 y1).s2 y2).s3 y3).s4 y4
/-- A box of three cells that may be written. -/
structure B3w (w : World) (b : Nat) (x0 x1 x2 : Value) : Prop where
  r : B3 w b x0 x1 x2
  f0 : w.frozen? ⟨b, 0, none⟩ = false
  f1 : w.frozen? ⟨b, 1, none⟩ = false
  f2 : w.frozen? ⟨b, 2, none⟩ = false
theorem B3w.new {w : World} {x0 x1 x2 : Value} {t : TypeId} : B3w (w.alloc (.cells #[x0, x1, x2] t)) w.heap.size x0 x1 x2 :=
  ⟨B3.new, World.frozen?_alloc_at _ _ _ _ rfl, World.frozen?_alloc_at _ _ _ _ rfl, World.frozen?_alloc_at _ _ _ _ rfl⟩
theorem B3w.lt {w : World} {b : Nat} {x0 x1 x2 : Value} (h : B3w w b x0 x1 x2) : b < w.heap.size := World.block_lt_of_cell? _ _ h.r.c0
theorem B3w.bex {b g : Nat} {w w' : World} {x0 x1 x2 : Value} (h : B3w w g x0 x1 x2) (k : Bex b w w') (hg : g ≠ b) : B3w w' g x0 x1 x2 :=
  ⟨⟨k.cell h.r.c0 hg, k.cell h.r.c1 hg, k.cell h.r.c2 hg⟩, (k.frozen h.lt hg).trans h.f0, (k.frozen h.lt hg).trans h.f1, (k.frozen h.lt hg).trans h.f2⟩
theorem B3w.s0 {w : World} {b : Nat} {x0 x1 x2 : Value} (h : B3w w b x0 x1 x2) (u : Value) : B3w (w.setCell ⟨b, 0, none⟩ u) b u x1 x2 :=
  ⟨⟨World.cell?_setCell_same _ _ _ h.r.c0, (World.cell?_setCell_other _ _ _ _ (by simp)).trans h.r.c1, (World.cell?_setCell_other _ _ _ _ (by simp)).trans h.r.c2⟩, by simpa using h.f0, by simpa using h.f1, by simpa using h.f2⟩
theorem B3w.s1 {w : World} {b : Nat} {x0 x1 x2 : Value} (h : B3w w b x0 x1 x2) (u : Value) : B3w (w.setCell ⟨b, 1, none⟩ u) b x0 u x2 :=
  ⟨⟨(World.cell?_setCell_other _ _ _ _ (by simp)).trans h.r.c0, World.cell?_setCell_same _ _ _ h.r.c1, (World.cell?_setCell_other _ _ _ _ (by simp)).trans h.r.c2⟩, by simpa using h.f0, by simpa using h.f1, by simpa using h.f2⟩
theorem B3w.s2 {w : World} {b : Nat} {x0 x1 x2 : Value} (h : B3w w b x0 x1 x2) (u : Value) : B3w (w.setCell ⟨b, 2, none⟩ u) b x0 x1 u :=
  ⟨⟨(World.cell?_setCell_other _ _ _ _ (by simp)).trans h.r.c0, (World.cell?_setCell_other _ _ _ _ (by simp)).trans h.r.c1, World.cell?_setCell_same _ _ _ h.r.c2⟩, by simpa using h.f0, by simpa using h.f1, by simpa using h.f2⟩
theorem CirO.nil {w : World} {L : Nat} : CirO w L (.slice none 0 0) 0 [] (.slice none 0 0) 0 [] :=
  ⟨World.ownsRow_nil _ _ _ _, World.ownsRow_nil _ _ _ _, (fun q e => by simp [Value.ownBlock] at e), (fun x hx => by cases hx), (fun x hx => by cases hx)⟩
theorem AnyA.else {W : World} {L g : Nat} {x0 x1 x2 : Int} {v2 v3 : Value} {n m : Nat} {gs os : List Int} {G j : Nat} (h : AnyA W L g x0 x1 x2 v2 n gs v3 m os) (hg : g < G) (h2 : ∀ q, v2.ownBlock = some q → q < G) (h3 : ∀ q, v3.ownBlock = some q → q < G) (u : Value) : AnyA (W.setCell ⟨G, j, none⟩ u) L g x0 x1 x2 v2 n gs v3 m os :=
  ⟨h.box.other (p := ⟨G, j, none⟩) (by simp only []; omega) u, h.r.kept (grow_set W G j u) (fun q hq e => by simp only [Option.some.injEq] at e; have := h2 q hq; omega) (fun q hq e => by simp only [Option.some.injEq] at e; have := h3 q hq; omega), h.d2, h.d3, h.Lg⟩
/-- Numbers that a text can hold. -/
def okGz (gs : List Int) (n : Nat) : Prop := ∀ i, i < n → (0 ≤ fld 3 gs i 0 ∧ fld 3 gs i 0 ≤ 3) ∧ (0 ≤ fld 3 gs i 1 ∧ fld 3 gs i 1 ≤ 1000) ∧ (0 ≤ fld 3 gs i 2 ∧ fld 3 gs i 2 ≤ 1000)
def okNz (os : List Int) : Prop := ∀ x ∈ os, 0 ≤ x ∧ x ≤ 1000
theorem okGz.snoc {gs : List Int} {n : Nat} {a b c : Int} (h : okGz gs n) (hl : (ivs gs).length = n * 3) (ha : 0 ≤ a ∧ a ≤ 3) (hb : 0 ≤ b ∧ b ≤ 1000) (hc : 0 ≤ c ∧ c ≤ 1000) : okGz (gs ++ [a, b, c]) (n + 1) := by
  have hl' : gs.length = n * 3 := by simpa [ivs] using hl
  intro i hi
  by_cases e : i < n
  · have k := h i e
    have f : ∀ j, j < 3 → fld 3 (gs ++ [a, b, c]) i j = fld 3 gs i j := fun j hj => by
      unfold fld nth; rw [List.getD_eq_getElem?_getD, List.getD_eq_getElem?_getD, List.getElem?_append_left (by omega)]
    rw [f 0 (by omega), f 1 (by omega), f 2 (by omega)]; exact k
  · obtain rfl : i = n := by omega
    have f : ∀ j, fld 3 (gs ++ [a, b, c]) i j = nth [a, b, c] j := fun j => by
      unfold fld nth; rw [List.getD_eq_getElem?_getD, List.getD_eq_getElem?_getD, List.getElem?_append_right (by omega)]; congr 2; omega
    rw [f 0, f 1, f 2]; exact ⟨ha, hb, hc⟩
/-- What 'arith' hands back. -/
def ArRet (b B K : Nat) (w : World) (e : Ending) (w' : World) : Prop :=
  ∃ (p i0 i1 : Int) (v2 : Value) (gn : Nat) (gs : List Int) (v3 : Value) (on : Nat) (os : List Int), e = .returned (.agg #[.int .i64 p, .int .i64 i0, .int .i64 i1, v2, v3]) ∧ (2 ≤ p ∧ p ≤ 251) ∧ (0 ≤ i0 ∧ i0 ≤ 2) ∧ (0 ≤ i1 ∧ i1 ≤ 2) ∧ CirO w' w.heap.size v2 gn gs v3 on os ∧ gn ≤ 7 ∧ on ≤ 3 ∧ Cur w' b B (K + 200) ∧ Bex b w w' ∧ okGz gs gn ∧ okNz os
def arPs : List Int := [2, 3, 5, 7, 11, 101, 251]
set_option maxHeartbeats 8000000 in
theorem s_arith (b B K : Nat) (w : World) (h : Cur w b B K) (hK : K ≤ 100000) :
    Calls Tryz.prog 33 #[.pointer (some ⟨b, 0, none⟩)] w (ArRet b B K w) := by
  have hbl := h.lt
  have hbs := h.base
  go_enter Tryz.func33, Tryz.ntmps33
  have hC0 := h.below (bel_alloc w (.cells #[.int .i64 0, .int .i64 0, .int .i64 0, .slice none 0 0, .slice none 0 0] 26))
  have RC := Lib.hid (B5w.new (w := w) (x0 := .int .i64 0) (x1 := .int .i64 0) (x2 := .int .i64 0) (x3 := .slice none 0 0) (x4 := .slice none 0 0) (t := 26))
  have hzw : (w.alloc (.cells #[.int .i64 0, .int .i64 0, .int .i64 0, .slice none 0 0, .slice none 0 0] 26)).heap.size = w.heap.size + 1 := by simp
  obtain ⟨hCa, hIa, hOa, hXa⟩ := among_lit (t := 3) (m := w.heap.size + 1) arPs hC0 (by simp) rfl (by decide) (by unfold Fits; decide)
  have HXa := Lib.hid hXa; clear hXa
  go_wp2_with fail
  refine (s_among b B _ _ 7 7 arPs _ hCa (by omega) hIa (by omega) (by omega) hOa).mono ?_; rintro e w1 ⟨p, rfl, hp, hC1, hX1⟩
  obtain ⟨hp1, hp2⟩ : 2 ≤ p ∧ p ≤ 251 := (show ∀ x ∈ arPs, 2 ≤ x ∧ x ≤ 251 by decide) p hp
  have HX1 := Lib.hid (HXa.out.trans hX1); clear hp hCa hIa hOa hX1 hC0 h HXa
  go_wp2_with fail
  refine (s_pick b B _ 3 _ hC1 (by omega) (by omega)).mono ?_; rintro e w2 ⟨i0, rfl, hi0, hi0', hC2, hX2⟩
  go_wp2_with fail
  refine (s_pick b B _ 3 _ hC2 (by omega) (by omega)).mono ?_; rintro e w3 ⟨i1, rfl, hi1, hi1', hC3, hX3⟩
  have hX := (HX1.out.trans hX2).trans hX3
  have hz3 := hX.size
  rw [hzw] at hz3
  have hA := AnyA.new (t := 26) (x0 := p) (x1 := i0) (x2 := i1) (CirO.nil (w := w3) (L := w.heap.size + 1)) hz3
  have A1 := bel_alloc w3 (.cells #[.int .i64 p, .int .i64 i0, .int .i64 i1, .slice none 0 0, .slice none 0 0] 26)
  have hC4 := hC3.below A1
  have hX4 := hX.trans (Bex.of A1)
  have hbg : b < w.heap.size + 1 := by omega
  have HA := Lib.hid hA; have HX := Lib.hid hX4
  clear HX1 hC1 hC2 hX2 hC3 hX3 hX A1 hA hX4
  go_wp2_with fail
  refine (s_pick b B _ 8 _ hC4 (by omega) (by omega)).mono ?_; rintro e w5 ⟨k0, rfl, hk0, hk0', hC5, hX5⟩
  have HA0 := Lib.hid (HA.out.bex hX5 hbg); have HX0 := Lib.hid (HX.out.trans hX5); have HC0 := Lib.hid hC5
  clear hC4 hC5 hX5 HA HX
  go_wp2_with fail
  go_loopw [4] (fun i W => ∃ (n : Nat) (v2 : Value) (gs : List Int), n ≤ k0 ∧ i = .int .i64 ((k0 : Int) - n) ∧ Hid (AnyA W (w.heap.size + 1) w3.heap.size p i0 i1 v2 n gs (.slice none 0 0) 0 []) ∧ Hid (Cur W b B (K + 8 + 10 * n)) ∧ Hid (Bex b (w.alloc (.cells #[.int .i64 0, .int .i64 0, .int .i64 0, .slice none 0 0, .slice none 0 0] 26)) W) ∧ Hid (okGz gs n)) (fun i _ => (intOf i).toNat)
  case atStart => exact ⟨0, _, [], by omega, by simp, HA0, (show Hid _ from HC0.out.more (by omega)), HX0, (show Hid (okGz [] 0) from fun i hi => absurd hi (Nat.not_lt_zero _))⟩
  case round =>
    obtain ⟨n, v2, gs, hj, rfl, HA, HC, HX, HK⟩ := hrel
    clear HA0 HX0 HC0
    obtain ⟨N, hN⟩ : ∃ N : Int, (i0 : Int) + i1 + n = N := ⟨_, rfl⟩
    have hN9 : 0 ≤ N ∧ N ≤ 1000 := by omega
    obtain ⟨hN0, hN9⟩ := hN9
    obtain ⟨ga, gc, rfl⟩ := own_sl HA.out.r.og
    obtain ⟨c0, c1, c2, c3, c4⟩ := id HA.out.box.r
    by_cases hlt : n < k0
    · have hpos : (0 : Int) < (k0 : Int) - n := by omega
      have e1 : IntKind.i64.wrap ((k0 : Int) - n - 1) = (k0 : Int) - n - 1 := IntWalk.i64_in _ (by omega)
      go_wp2_with fail
      refine (s_arWires p i0 i1 ga n gc none 0 0 _ (by omega) (by omega) (by omega)).mono ?_; rintro e w5 ⟨he, hb5⟩; rw [hN] at he; subst he
      have HA5 := Lib.hid (HA.out.below hb5); have HC5 := Lib.hid (HC.out.below hb5); have HX5 := Lib.hid (HX.out.trans (Bex.of hb5)); have HN := Lib.hid hN
      clear c0 c1 c2 c3 c4 hb5 HA HC HX hN
      obtain ⟨M, hM⟩ : ∃ M : Int, max 1 N = M := ⟨_, rfl⟩
      have hM9 : 1 ≤ M ∧ M ≤ 1000 := by omega
      obtain ⟨hM1, hM9⟩ := hM9; have HM := Lib.hid hM; clear hM
      go_wp2_with fail
      refine (s_pick b B _ 4 _ HC5.out (by omega) (by omega)).mono ?_; rintro e w6 ⟨kd, rfl, hkd, hkd', hC6, hX6⟩
      have HA6 := Lib.hid (HA5.out.bex hX6 hbg); have HC6 := Lib.hid hC6; have HX6 := Lib.hid (HX5.out.trans hX6); clear hC6 hX6 HA5 HC5 HX5
      generalize hkz : (kd : Int) = kz at hkd ⊢
      have hkz0 : 0 ≤ kz ∧ kz ≤ 65535 := by omega
      have hkz3 : kz ≤ 3 := by omega
      obtain ⟨hkz0, hkz1⟩ := hkz0; clear hkz
      go_wp2_with fail
      refine (s_l1MostA 1 N _).mono ?_; rintro e wl ⟨he, rfl⟩; rw [HM.out] at he; subst he
      go_wp2_with fail
      refine (s_pick b B _ M _ HC6.out (by omega) (by omega)).mono ?_; rintro e w7 ⟨x, rfl, hx, hx', hC7, hX7⟩
      have HA7 := Lib.hid (HA6.out.bex hX7 hbg); have HC7 := Lib.hid hC7; have HX7 := Lib.hid (HX6.out.trans hX7); clear hC7 hX7 HA6 HC6 HX6
      go_wp2_with fail
      refine (s_l1MostA 1 N _).mono ?_; rintro e wl ⟨he, rfl⟩; rw [HM.out] at he; subst he
      go_wp2_with fail
      refine (s_pick b B _ M _ HC7.out (by omega) (by omega)).mono ?_; rintro e w8 ⟨y, rfl, hy, hy', hC8, hX8⟩
      have HA8 := Lib.hid (HA7.out.bex hX8 hbg); have HC8 := Lib.hid hC8; have HX8 := Lib.hid (HX7.out.trans hX8); clear hC8 hX8 HA7 HC7 HX7
      have hgG := HA8.out.lt
      have hL2 := fun q hq => (ownLt HA8.out.r.og q hq).2; have hL3 := fun q hq => (ownLt HA8.out.r.oo q hq).2
      have hL2 := Lib.hid hL2; have hL3 := Lib.hid hL3
      have A9 := bel_alloc w8 (.cells #[.int .i64 kz, .int .i64 x, .int .i64 y] 65)
      have G9 := B3w.new (w := w8) (x0 := .int .i64 kz) (x1 := .int .i64 x) (x2 := .int .i64 y) (t := 65)
      obtain ⟨W9, hW9⟩ : ∃ X, w8.alloc (.cells #[.int .i64 kz, .int .i64 x, .int .i64 y] 65) = X := ⟨_, rfl⟩
      rw [hW9] at A9 G9
      have HA9 := Lib.hid (HA8.out.below A9); have HC9 := Lib.hid (HC8.out.below A9); have HX9 := Lib.hid (HX8.out.trans (Bex.of A9)); have HG9 := Lib.hid G9
      have hGb : w8.heap.size ≠ b := by have := HA8.out.Lg; omega
      have hGw : w.heap.size + 1 ≤ w8.heap.size := by have := HA8.out.Lg; omega
      have hBG : B ≤ w8.heap.size := by omega
      clear A9 G9 HA8 HC8 HX8
      by_cases z0 : N = 0
      · have z0b : (N == 0) = true := by simpa using z0
        obtain ⟨c0, c1, c2, c3, c4⟩ := id HA9.out.box.r; obtain ⟨b0, b1, b2⟩ := id HG9.out.r
        go_wp2_with fail
        refine (s_pick b B _ p _ HC9.out (by omega) (by omega)).mono ?_; rintro e w10 ⟨u, rfl, hu, hu', hC10, hX10⟩
        have HA10 := Lib.hid (HA9.out.bex hX10 hbg); have HC10 := Lib.hid hC10; have HX10 := Lib.hid (HX9.out.trans hX10); have HG10 := Lib.hid (HG9.out.bex hX10 hGb); clear hC10 hX10 HA9 HC9 HX9 HG9 c0 c1 c2 c3 c4 b0 b1 b2
        have HA11 := Lib.hid (AnyA.else (AnyA.else (AnyA.else HA10.out (G := w8.heap.size) (j := 0) hgG hL2.out hL3.out (.int .i64 3)) (G := w8.heap.size) (j := 1) hgG hL2.out hL3.out (.int .i64 u)) (G := w8.heap.size) (j := 2) hgG hL2.out hL3.out (.int .i64 0))
        have HC11 := Lib.hid (Cur.store (Cur.store (Cur.store HC10.out (p := ⟨w8.heap.size, 0, none⟩) (u := .int .i64 3) hGb hBG) (p := ⟨w8.heap.size, 1, none⟩) (u := .int .i64 u) hGb hBG) (p := ⟨w8.heap.size, 2, none⟩) (u := .int .i64 0) hGb hBG)
        have HX11 := Lib.hid (Bex.store1A (Bex.store1A (Bex.store1A HX10.out (p := ⟨w8.heap.size, 0, none⟩) (u := .int .i64 3) (by simp only []; omega)) (p := ⟨w8.heap.size, 1, none⟩) (u := .int .i64 u) (by simp only []; omega)) (p := ⟨w8.heap.size, 2, none⟩) (u := .int .i64 0) (by simp only []; omega))
        have HG11 := Lib.hid (B3w.s2 (B3w.s1 (B3w.s0 HG10.out (.int .i64 3)) (.int .i64 u)) (.int .i64 0))
        obtain ⟨f0, f1, f2⟩ : _ ∧ _ ∧ _ := ⟨HG10.out.f0, HG10.out.f1, HG10.out.f2⟩
        obtain ⟨d0, d1, d2⟩ := id HG10.out.r
        obtain ⟨W11, hW11⟩ : ∃ X, (((w10.setCell ⟨w8.heap.size, 0, none⟩ (.int .i64 3)).setCell ⟨w8.heap.size, 1, none⟩ (.int .i64 u)).setCell ⟨w8.heap.size, 2, none⟩ (.int .i64 0)) = X := ⟨_, rfl⟩
        rw [hW11] at HA11 HC11 HX11 HG11
        clear HA10 HC10 HX10 HG10
        obtain ⟨b0, b1, b2⟩ := id HG11.out.r
        obtain ⟨c0, c1, c2, c3, c4⟩ := id HA11.out.box.r
        have hg9 := HA11.out.lt; have hl9 := HA11.out.Lg; have hG9 := HG11.out.lt
        go_wp2_with (at_builtin; refine wp_appGX W11 (w.heap.size + 1) n _ gs 3 u 0 _ _ rfl _ _ rfl rfl rfl (by first | rfl | simp) HA11.out.r.og (by omega) (by omega) ?_; intro v12 w12 hv hb hg ho; obtain ⟨g8, q8, rfl⟩ := own_sl hv; have HB := (HA11.out.below (bel_alloc W11 (.cells #[.int .i64 3, .int .i64 u, .int .i64 0] 65))).box.grown hg (fun e => HA11.out.d2 e.symm); have k3 := HB.r.c3; have kf := HB.f3)
        have HA12 := Lib.hid ((HA11.out.below (bel_alloc W11 (.cells #[.int .i64 3, .int .i64 u, .int .i64 0] 65))).gates hv hg ho (fun x hx => by rcases List.mem_append.1 hx with e | e; exact HA11.out.r.fg.out x e; simp at e; rcases e with rfl | rfl | rfl <;> (unfold Fits; omega)))
        have HC12 := Lib.hid ((HC11.out.onB hb hbg).store (p := ⟨w3.heap.size, 3, none⟩) (u := .slice g8 (n + 1) q8) (by simp only []; omega) (by simp only []; omega))
        have HX12 := Lib.hid ((HX11.out.thenB (hb.mono (Nat.le_of_eq hzw))).store1A (p := ⟨w3.heap.size, 3, none⟩) (u := .slice g8 (n + 1) q8) (by simp only []; omega))
        have HK12 := Lib.hid (HK.out.snoc HA11.out.r.og.1 (a := 3) (b := u) (c := 0) ⟨by omega, by omega⟩ ⟨by omega, by omega⟩ ⟨by omega, by omega⟩)
        go_roundw
        case rel => exact ⟨n + 1, _, _, by omega, by first | go_num | (simp; omega), HA12, (show Hid _ from HC12.out.more (by omega)), HX12, HK12⟩
        case measure => simp [intOf]; omega
      · have z0b : (N == 0) = false := by simpa using z0
        by_cases k3 : kz = 3
        · subst k3
          obtain ⟨c0, c1, c2, c3, c4⟩ := id HA9.out.box.r; obtain ⟨b0, b1, b2⟩ := id HG9.out.r
          go_wp2_with fail
          refine (s_pick b B _ p _ HC9.out (by omega) (by omega)).mono ?_; rintro e w10 ⟨u, rfl, hu, hu', hC10, hX10⟩
          have HA10 := Lib.hid (HA9.out.bex hX10 hbg); have HC10 := Lib.hid hC10; have HX10 := Lib.hid (HX9.out.trans hX10); have HG10 := Lib.hid (HG9.out.bex hX10 hGb); clear hC10 hX10 HA9 HC9 HX9 HG9 c0 c1 c2 c3 c4 b0 b1 b2
          have HA11 := Lib.hid (AnyA.else (AnyA.else (AnyA.else HA10.out (G := w8.heap.size) (j := 0) hgG hL2.out hL3.out (.int .i64 3)) (G := w8.heap.size) (j := 1) hgG hL2.out hL3.out (.int .i64 u)) (G := w8.heap.size) (j := 2) hgG hL2.out hL3.out (.int .i64 0))
          have HC11 := Lib.hid (Cur.store (Cur.store (Cur.store HC10.out (p := ⟨w8.heap.size, 0, none⟩) (u := .int .i64 3) hGb hBG) (p := ⟨w8.heap.size, 1, none⟩) (u := .int .i64 u) hGb hBG) (p := ⟨w8.heap.size, 2, none⟩) (u := .int .i64 0) hGb hBG)
          have HX11 := Lib.hid (Bex.store1A (Bex.store1A (Bex.store1A HX10.out (p := ⟨w8.heap.size, 0, none⟩) (u := .int .i64 3) (by simp only []; omega)) (p := ⟨w8.heap.size, 1, none⟩) (u := .int .i64 u) (by simp only []; omega)) (p := ⟨w8.heap.size, 2, none⟩) (u := .int .i64 0) (by simp only []; omega))
          have HG11 := Lib.hid (B3w.s2 (B3w.s1 (B3w.s0 HG10.out (.int .i64 3)) (.int .i64 u)) (.int .i64 0))
          obtain ⟨f0, f1, f2⟩ : _ ∧ _ ∧ _ := ⟨HG10.out.f0, HG10.out.f1, HG10.out.f2⟩
          obtain ⟨d0, d1, d2⟩ := id HG10.out.r
          obtain ⟨W11, hW11⟩ : ∃ X, (((w10.setCell ⟨w8.heap.size, 0, none⟩ (.int .i64 3)).setCell ⟨w8.heap.size, 1, none⟩ (.int .i64 u)).setCell ⟨w8.heap.size, 2, none⟩ (.int .i64 0)) = X := ⟨_, rfl⟩
          rw [hW11] at HA11 HC11 HX11 HG11
          clear HA10 HC10 HX10 HG10
          obtain ⟨b0, b1, b2⟩ := id HG11.out.r
          obtain ⟨c0, c1, c2, c3, c4⟩ := id HA11.out.box.r
          have hg9 := HA11.out.lt; have hl9 := HA11.out.Lg; have hG9 := HG11.out.lt
          go_wp2_with (at_builtin; refine wp_appGX W11 (w.heap.size + 1) n _ gs 3 u 0 _ _ rfl _ _ rfl rfl rfl (by first | rfl | simp) HA11.out.r.og (by omega) (by omega) ?_; intro v12 w12 hv hb hg ho; obtain ⟨g8, q8, rfl⟩ := own_sl hv; have HB := (HA11.out.below (bel_alloc W11 (.cells #[.int .i64 3, .int .i64 u, .int .i64 0] 65))).box.grown hg (fun e => HA11.out.d2 e.symm); have k3 := HB.r.c3; have kf := HB.f3)
          have HA12 := Lib.hid ((HA11.out.below (bel_alloc W11 (.cells #[.int .i64 3, .int .i64 u, .int .i64 0] 65))).gates hv hg ho (fun x hx => by rcases List.mem_append.1 hx with e | e; exact HA11.out.r.fg.out x e; simp at e; rcases e with rfl | rfl | rfl <;> (unfold Fits; omega)))
          have HC12 := Lib.hid ((HC11.out.onB hb hbg).store (p := ⟨w3.heap.size, 3, none⟩) (u := .slice g8 (n + 1) q8) (by simp only []; omega) (by simp only []; omega))
          have HX12 := Lib.hid ((HX11.out.thenB (hb.mono (Nat.le_of_eq hzw))).store1A (p := ⟨w3.heap.size, 3, none⟩) (u := .slice g8 (n + 1) q8) (by simp only []; omega))
          have HK12 := Lib.hid (HK.out.snoc HA11.out.r.og.1 (a := 3) (b := u) (c := 0) ⟨by omega, by omega⟩ ⟨by omega, by omega⟩ ⟨by omega, by omega⟩)
          go_roundw
          case rel => exact ⟨n + 1, _, _, by omega, by first | go_num | (simp; omega), HA12, (show Hid _ from HC12.out.more (by omega)), HX12, HK12⟩
          case measure => simp [intOf]; omega
        · have k3b : (kz == 3) = false := by simp only [beq_eq_false_iff_ne, ne_eq]; omega
          by_cases k2 : kz = 2
          · subst k2
            obtain ⟨c0, c1, c2, c3, c4⟩ := id HA9.out.box.r; obtain ⟨b0, b1, b2⟩ := id HG9.out.r
            go_wp2_with fail
            refine (s_pick b B _ p _ HC9.out (by omega) (by omega)).mono ?_; rintro e w10 ⟨u, rfl, hu, hu', hC10, hX10⟩
            have HA10 := Lib.hid (HA9.out.bex hX10 hbg); have HC10 := Lib.hid hC10; have HX10 := Lib.hid (HX9.out.trans hX10); have HG10 := Lib.hid (HG9.out.bex hX10 hGb); clear hC10 hX10 HA9 HC9 HX9 HG9 c0 c1 c2 c3 c4 b0 b1 b2
            have HA11 := Lib.hid (AnyA.else HA10.out (G := w8.heap.size) (j := 2) hgG hL2.out hL3.out (.int .i64 u))
            have HC11 := Lib.hid (Cur.store HC10.out (p := ⟨w8.heap.size, 2, none⟩) (u := .int .i64 u) hGb hBG)
            have HX11 := Lib.hid (Bex.store1A HX10.out (p := ⟨w8.heap.size, 2, none⟩) (u := .int .i64 u) (by simp only []; omega))
            have HG11 := Lib.hid (B3w.s2 HG10.out (.int .i64 u))
            obtain ⟨f0, f1, f2⟩ : _ ∧ _ ∧ _ := ⟨HG10.out.f0, HG10.out.f1, HG10.out.f2⟩
            obtain ⟨d0, d1, d2⟩ := id HG10.out.r
            obtain ⟨W11, hW11⟩ : ∃ X, (w10.setCell ⟨w8.heap.size, 2, none⟩ (.int .i64 u)) = X := ⟨_, rfl⟩
            rw [hW11] at HA11 HC11 HX11 HG11
            clear HA10 HC10 HX10 HG10
            obtain ⟨b0, b1, b2⟩ := id HG11.out.r
            obtain ⟨c0, c1, c2, c3, c4⟩ := id HA11.out.box.r
            have hg9 := HA11.out.lt; have hl9 := HA11.out.Lg; have hG9 := HG11.out.lt
            go_wp2_with (at_builtin; refine wp_appGX W11 (w.heap.size + 1) n _ gs 2 x u _ _ rfl _ _ rfl rfl rfl (by first | rfl | simp) HA11.out.r.og (by omega) (by omega) ?_; intro v12 w12 hv hb hg ho; obtain ⟨g8, q8, rfl⟩ := own_sl hv; have HB := (HA11.out.below (bel_alloc W11 (.cells #[.int .i64 2, .int .i64 x, .int .i64 u] 65))).box.grown hg (fun e => HA11.out.d2 e.symm); have k3 := HB.r.c3; have kf := HB.f3)
            have HA12 := Lib.hid ((HA11.out.below (bel_alloc W11 (.cells #[.int .i64 2, .int .i64 x, .int .i64 u] 65))).gates hv hg ho (fun x hx => by rcases List.mem_append.1 hx with e | e; exact HA11.out.r.fg.out x e; simp at e; rcases e with rfl | rfl | rfl <;> (unfold Fits; omega)))
            have HC12 := Lib.hid ((HC11.out.onB hb hbg).store (p := ⟨w3.heap.size, 3, none⟩) (u := .slice g8 (n + 1) q8) (by simp only []; omega) (by simp only []; omega))
            have HX12 := Lib.hid ((HX11.out.thenB (hb.mono (Nat.le_of_eq hzw))).store1A (p := ⟨w3.heap.size, 3, none⟩) (u := .slice g8 (n + 1) q8) (by simp only []; omega))
            have HK12 := Lib.hid (HK.out.snoc HA11.out.r.og.1 (a := 2) (b := x) (c := u) ⟨by omega, by omega⟩ ⟨by omega, by omega⟩ ⟨by omega, by omega⟩)
            go_roundw
            case rel => exact ⟨n + 1, _, _, by omega, by first | go_num | (simp; omega), HA12, (show Hid _ from HC12.out.more (by omega)), HX12, HK12⟩
            case measure => simp [intOf]; omega
          · have k2b : (kz == 2) = false := by simp only [beq_eq_false_iff_ne, ne_eq]; omega
            obtain ⟨b0, b1, b2⟩ := id HG9.out.r
            obtain ⟨c0, c1, c2, c3, c4⟩ := id HA9.out.box.r
            have hg9 := HA9.out.lt; have hl9 := HA9.out.Lg; have hG9 := HG9.out.lt
            go_wp2_with (at_builtin; refine wp_appGX W9 (w.heap.size + 1) n _ gs kz x y _ _ rfl _ _ rfl rfl rfl (by first | rfl | simp) HA9.out.r.og (by omega) (by omega) ?_; intro v12 w12 hv hb hg ho; obtain ⟨g8, q8, rfl⟩ := own_sl hv; have HB := (HA9.out.below (bel_alloc W9 (.cells #[.int .i64 kz, .int .i64 x, .int .i64 y] 65))).box.grown hg (fun e => HA9.out.d2 e.symm); have k3 := HB.r.c3; have kf := HB.f3)
            have HA12 := Lib.hid ((HA9.out.below (bel_alloc W9 (.cells #[.int .i64 kz, .int .i64 x, .int .i64 y] 65))).gates hv hg ho (fun x hx => by rcases List.mem_append.1 hx with e | e; exact HA9.out.r.fg.out x e; simp at e; rcases e with rfl | rfl | rfl <;> (unfold Fits; omega)))
            have HC12 := Lib.hid ((HC9.out.onB hb hbg).store (p := ⟨w3.heap.size, 3, none⟩) (u := .slice g8 (n + 1) q8) (by simp only []; omega) (by simp only []; omega))
            have HX12 := Lib.hid ((HX9.out.thenB (hb.mono (Nat.le_of_eq hzw))).store1A (p := ⟨w3.heap.size, 3, none⟩) (u := .slice g8 (n + 1) q8) (by simp only []; omega))
            have HK12 := Lib.hid (HK.out.snoc HA9.out.r.og.1 (a := kz) (b := x) (c := y) ⟨by omega, by omega⟩ ⟨by omega, by omega⟩ ⟨by omega, by omega⟩)
            go_roundw
            case rel => exact ⟨n + 1, _, _, by omega, by first | go_num | (simp; omega), HA12, (show Hid _ from HC12.out.more (by omega)), HX12, HK12⟩
            case measure => simp [intOf]; omega
    · obtain rfl : n = k0 := by omega
      have hpos : ¬ (0 : Int) < (n : Int) - n := by omega
      go_wp2_with fail
      refine (s_arWires p i0 i1 ga n gc none 0 0 _ (by omega) (by omega) (by omega)).mono ?_; rintro e w5 ⟨he, hb5⟩; rw [hN] at he; subst he
      have HA5 := Lib.hid (HA.out.below hb5); have HC5 := Lib.hid (HC.out.below hb5); have HX5 := Lib.hid (HX.out.trans (Bex.of hb5)); have HN := Lib.hid hN
      clear c0 c1 c2 c3 c4 hb5 HA HC HX hN
      by_cases hz : 0 < N
      · have en1 : IntKind.i64.wrap (N - 1) = N - 1 := IntWalk.i64_in _ (by omega)
        go_wp2_with fail
        refine (s_pick b B _ 3 _ HC5.out (by omega) (by omega)).mono ?_; rintro e w6 ⟨t, rfl, ht, ht', hC6, hX6⟩
        have HA6 := Lib.hid (HA5.out.bex hX6 hbg); have HC6 := Lib.hid hC6; have HX6 := Lib.hid (HX5.out.trans hX6); clear hC6 hX6 HA5 HC5 HX5
        have et : IntKind.i64.wrap (1 + (t : Int)) = (t : Int) + 1 := by rw [IntWalk.i64_in _ (by omega)]; omega
        go_wp2_with fail
        go_loopw [8] (fun i V => ∃ (m : Nat) (v3 : Value) (os : List Int), m ≤ t + 1 ∧ i = .int .i64 ((t : Int) + 1 - m) ∧ Hid (AnyA V (w.heap.size + 1) w3.heap.size p i0 i1 (.slice ga n gc) n gs v3 m os) ∧ Hid (Cur V b B (K + 8 + 10 * n + 2 + 2 * m)) ∧ Hid (Bex b (w.alloc (.cells #[.int .i64 0, .int .i64 0, .int .i64 0, .slice none 0 0, .slice none 0 0] 26)) V) ∧ Hid (okNz os)) (fun i _ => (intOf i).toNat)
        case atStart => exact ⟨0, _, [], by omega, by simp, HA6, HC6, HX6, (show Hid (okNz []) from fun x hx => absurd hx List.not_mem_nil)⟩
        case round =>
          clear HA6 HC6 HX6
          obtain ⟨m, v3, os, hq, rfl, HA, HC, HX, HO⟩ := hrel
          obtain ⟨oa, oc, rfl⟩ := own_sl HA.out.r.oo
          by_cases hql : m < t + 1
          · have hpos2 : (0 : Int) < (t : Int) + 1 - m := by omega
            have e2 : IntKind.i64.wrap ((t : Int) + 1 - m - 1) = (t : Int) + 1 - m - 1 := IntWalk.i64_in _ (by omega)
            have c4 := cell_on HA.out.box.r.c4 (bel_drew _)
            go_wp2_with fail
            go_region_law (first
              | (refine step_appX (w.heap.size + 1) m _ os (N - 1 - (r7 : Int)) _ (by rfl) _ _ (by rfl) (by rfl) (by rfl) (by simp [World.cell?_alloc_at]) HA7a.out.r.oo (by have := HA7a.out.lt; have := HA7a.out.Lg; omega) (by omega) ?_; intro v9 w9 hv9 hb9 hg9 ho9; obtain ⟨r9, k9, rfl⟩ := own_sl hv9; have hB9 := HA7a.out.box.grown hg9 (fun e => HA7a.out.d3 e.symm); have k4 := hB9.r.c4; have kf := hB9.f4)
              | (go_simp; go_at_call 64; refine (s_l1LeastA N 3 _).mono ?_; rintro e wl ⟨he, rfl⟩; obtain ⟨r6, hr6, hr61⟩ : ∃ r6 : Int, min N 3 = r6 ∧ r6 ≤ N := ⟨_, rfl, by omega⟩; rw [hr6] at he; subst he; have hr62 : 1 ≤ r6 ∧ r6 ≤ 3 := (by omega); have Hr6 := Lib.hid hr6; clear hr6)
              | (go_simp; go_at_call 55; refine (s_pick b B _ r6 _ (HC.out.below (bel_drew _)) (by omega) (by omega)).mono ?_; rintro e w7 ⟨r7, rfl, hr7, hr7', hC7, hX7⟩; have HA7 := Lib.hid ((HA.out.below (bel_drew _)).bex hX7 hbg); have HA7a := Lib.hid (HA7.out.below (bel_alloc w7 (.cells #[.int .i64 (N - 1 - (r7 : Int))] 3))); have c4 := HA7.out.box.r.c4; have e7 := IntWalk.i64_in (N - 1 - (r7 : Int)) (by omega); have c4a := HA7a.out.box.r.c4))
            all_goals
              have HA9 := Lib.hid (HA7a.out.outs hv9 hg9 ho9 (fun x hx => by rcases List.mem_append.1 hx with e | e; exact HA7a.out.r.fo.out x e; simp at e; subst e; unfold Fits; omega))
              have hlt7 := HA7.out.lt; have hlg7 := HA7.out.Lg
              have HC9 := Lib.hid (((hC7.below (bel_alloc w7 (.cells #[.int .i64 (N - 1 - (r7 : Int))] 3))).onB hb9 hbg).store (p := ⟨w3.heap.size, 4, none⟩) (u := .slice r9 (m + 1) k9) (by simp only []; omega) (by simp only []; omega))
              have HX9 := Lib.hid ((((HX.out.trans ((Bex.of (bel_drew _)).trans hX7)).trans (Bex.of (bel_alloc w7 (.cells #[.int .i64 (N - 1 - (r7 : Int))] 3)))).thenB (hb9.mono (Nat.le_of_eq hzw))).store1A (p := ⟨w3.heap.size, 4, none⟩) (u := .slice r9 (m + 1) k9) (by simp only []; omega))
              have HO9 := Lib.hid (show okNz (os ++ [N - 1 - (r7 : Int)]) from fun x hx => by rcases List.mem_append.1 hx with e | e; exact HO.out x e; simp at e; subst e; omega)
              clear hC7 hX7 HA HC HX c4 HO
              go_wp2
              go_roundw
              case rel => exact ⟨m + 1, _, _, by omega, by first | go_num | (simp; omega), HA9, (show Hid _ from HC9.out.more (by omega)), HX9, HO9⟩
              case measure => simp [intOf]; omega
          · obtain rfl : m = t + 1 := by omega
            have hpos2 : ¬ (0 : Int) < (t : Int) + 1 - ((t + 1 : Nat) : Int) := by omega
            obtain ⟨c0, c1, c2, c3, c4⟩ := id HA.out.box.r
            have R5 := RC.out.bex HX.out (by omega)
            have E5 := R5.set (.int .i64 p) (.int .i64 i0) (.int .i64 i1) (.slice ga n gc) (.slice oa (t + 1) oc)
            obtain ⟨E0, E1, E2, E3, E4⟩ := id E5.r
            obtain ⟨⟨r0, r1, r2, r3, r4⟩, f0, f1, f2, f3, f4⟩ := R5
            go_wp2
            exact bodyPost_ret (v := .agg #[.int .i64 p, .int .i64 i0, .int .i64 i1, .slice ga n gc, .slice oa (t + 1) oc]) (by simp [results, Tryz.results33, go_sem, E0, E1, E2, E3, E4]) rfl ⟨p, i0, i1, _, n, gs, _, (t + 1), _, rfl, ⟨by omega, by omega⟩, ⟨by omega, by omega⟩, ⟨by omega, by omega⟩, (HA.out.r.bex (Bex.only5 _ _ _ _ _ _) (by omega)).base (by omega), by omega, by omega, (HC.out.set5 (by omega) (by omega)).more (by omega), (((Bex.of (bel_alloc w _)).trans HX.out).set5 (Nat.le_refl _) _ _ _ _ _), HK.out, HO.out⟩
      · skip
        obtain ⟨c0, c1, c2, c3, c4⟩ := id HA5.out.box.r
        have R5 := RC.out.bex HX5.out (by omega)
        have E5 := R5.set (.int .i64 p) (.int .i64 i0) (.int .i64 i1) (.slice ga n gc) (.slice none 0 0)
        obtain ⟨E0, E1, E2, E3, E4⟩ := id E5.r
        obtain ⟨⟨r0, r1, r2, r3, r4⟩, f0, f1, f2, f3, f4⟩ := R5
        go_wp2
        exact bodyPost_ret (v := .agg #[.int .i64 p, .int .i64 i0, .int .i64 i1, .slice ga n gc, .slice none 0 0]) (by simp [results, Tryz.results33, go_sem, E0, E1, E2, E3, E4]) rfl ⟨p, i0, i1, _, n, gs, _, 0, _, rfl, ⟨by omega, by omega⟩, ⟨by omega, by omega⟩, ⟨by omega, by omega⟩, (HA5.out.r.bex (Bex.only5 _ _ _ _ _ _) (by omega)).base (by omega), by omega, by omega, (HC5.out.set5 (by omega) (by omega)).more (by omega), (((Bex.of (bel_alloc w _)).trans HX5.out).set5 (Nat.le_refl _) _ _ _ _ _), HK.out, (fun x hx => absurd hx List.not_mem_nil)⟩
end Go.Proofs.YtfichpppjpgahaaGreatDoor
