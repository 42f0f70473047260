/-
  The draw of a circuit.
-/
import Derived.Test.YtmkcanbaleecfaaSr
import Derived.Test.YtmkcanbaleecfaaCv
import Derived.Deep.RegionLaw
import Derived.BigRegion
namespace Go.Proofs.Ytmkcanbaleecfaa
open Go.RowKit
set_option linter.unusedVariables false
set_option linter.unusedSimpArgs false
set_option maxRecDepth 10000

theorem B4w.bex {b g : Nat} {w w' : World} {x0 x1 x2 x3 : Value} (h : B4w w g x0 x1 x2 x3) (k : Bex b w w') (hg : g ≠ b) : B4w w' g x0 x1 x2 x3 :=
  ⟨⟨k.cell h.r.c0 hg, k.cell h.r.c1 hg, k.cell h.r.c2 hg, k.cell h.r.c3 hg⟩, (k.frozen h.r.lt hg).trans h.f0, (k.frozen h.r.lt hg).trans h.f1, (k.frozen h.r.lt hg).trans h.f2, (k.frozen h.r.lt hg).trans h.f3⟩
theorem Bex.set4 {b g : Nat} {w w' : World} (h : Bex b w w') (hg : w.heap.size ≤ g) (x y z u : Value) : Bex b w ((((w'.setCell ⟨g, 0, none⟩ x).setCell ⟨g, 1, none⟩ y).setCell ⟨g, 2, none⟩ z).setCell ⟨g, 3, none⟩ u) :=
  ⟨h.os, h.tape, h.output, by simpa [World.setCell] using h.size, fun k hk hne => (Below.heap_setCell _ _ _ _ (by simp only []; omega)).trans ((Below.heap_setCell _ _ _ _ (by simp only []; omega)).trans ((Below.heap_setCell _ _ _ _ (by simp only []; omega)).trans ((Below.heap_setCell _ _ _ _ (by simp only []; omega)).trans (h.block k hk hne))))⟩
theorem Bex.store1 {b : Nat} {p : Addr} {w w' : World} {u : Value} (h : Bex b w w') (hg : w.heap.size ≤ p.block) : Bex b w (w'.setCell p u) :=
  ⟨h.os, h.tape, h.output, by simpa [World.setCell] using h.size, fun k hk hne => (Below.heap_setCell _ _ _ _ (by first | omega | (simp only []; omega))).trans (h.block k hk hne)⟩
theorem Bex.only4 {g : Nat} (w : World) (x y z u : Value) : Bex g w ((((w.setCell ⟨g, 0, none⟩ x).setCell ⟨g, 1, none⟩ y).setCell ⟨g, 2, none⟩ z).setCell ⟨g, 3, none⟩ u) :=
  (((Bex.set w x).trans (Bex.set _ y)).trans (Bex.set _ z)).trans (Bex.set _ u)
theorem Cur.set4 {w : World} {b B K g : Nat} {x y z u : Value} (h : Cur w b B K) (hp : g ≠ b) (hq : B ≤ g) : Cur ((((w.setCell ⟨g, 0, none⟩ x).setCell ⟨g, 1, none⟩ y).setCell ⟨g, 2, none⟩ z).setCell ⟨g, 3, none⟩ u) b B K :=
  (((h.store (p := ⟨g, 0, none⟩) hp hq).store (p := ⟨g, 1, none⟩) hp hq).store (p := ⟨g, 2, none⟩) hp hq).store (p := ⟨g, 3, none⟩) hp hq
theorem own_sl {E : TypeId} {w : World} {B s n : Nat} {v : Value} {xs : List Value} (h : w.ownsRow B E s v n xs) : ∃ a c, v = .slice a n c := by
  rcases h.2 with ⟨h1, h2⟩ | ⟨q, cap, cur, hv, _⟩
  · exact ⟨none, 0, by first | rw [h1, h2] | simp_all⟩
  · exact ⟨_, _, hv⟩
/-- What an append to the outs leaves of the box. -/
theorem MkO.after {g X : Nat} {W W1 W9 : World} {i0 i1 : Int} {ga : Option Addr} {n gc : Nat} {gs : List Int} {v3 : Value} {m : Nat} {os : List Int} (h : MkO W g X i0 i1 ga n gc gs v3 m os) (hb1 : Below W.heap.size W W1) (hb : Below X W1 W9) (hg : W1.grownBy W9 v3.ownBlock) :
    W9.cell? ⟨g, 3, none⟩ = some v3 ∧ W9.frozen? ⟨g, 3, none⟩ = false := by
  have hl : g < W.heap.size := World.block_lt_of_cell? _ _ h.box.1
  exact ⟨(hb.cell (p := ⟨g, 3, none⟩) h.gX).trans (cell_on h.box.c3 hb1), (hb.frozen (p := ⟨g, 3, none⟩) h.gX).trans ((hb1.frozen (p := ⟨g, 3, none⟩) hl).trans h.f3)⟩
/-- Two rows of the call's own: gates and outs. -/
structure CirO (w : World) (L : Nat) (v2 : Value) (n : Nat) (gs : List Int) (v3 : Value) (m : Nat) (os : List Int) : Prop where
  og : w.ownsRow L 83 3 v2 n (ivs gs)
  oo : w.ownsRow L 3 1 v3 m (ivs os)
  dj : ∀ q, v2.ownBlock = some q → v3.ownBlock ≠ some q
  fg : Hid (∀ x ∈ gs, Fits x)
  fo : Hid (∀ x ∈ os, Fits x)
theorem MkO.cirO {g X L : Nat} {W : World} {i0 i1 : Int} {ga : Option Addr} {n gc : Nat} {gs : List Int} {v3 : Value} {m : Nat} {os : List Int} (h : MkO W g X i0 i1 ga n gc gs v3 m os) (hL : L ≤ g) (fg : Hid (∀ x ∈ gs, Fits x)) (fo : Hid (∀ x ∈ os, Fits x)) : CirO W L (.slice ga n gc) n gs v3 m os := by
  have gx := h.gX
  exact ⟨ownsRow_base h.og (by omega), ownsRow_base h.oo (by omega), fun q h1 h2 => by have := h.lt q h1; have := (ownLt h.oo q h2).1; omega, fg, fo⟩
theorem CirO.bex {b L : Nat} {w w' : World} {v2 v3 : Value} {n m : Nat} {gs os : List Int} (h : CirO w L v2 n gs v3 m os) (k : Bex b w w') (hb : b < L) : CirO w' L v2 n gs v3 m os := ⟨ownsRow_bex h.og k hb, ownsRow_bex h.oo k hb, h.dj, h.fg, h.fo⟩
theorem CirO.base {L L' : Nat} {w : World} {v2 v3 : Value} {n m : Nat} {gs os : List Int} (h : CirO w L v2 n gs v3 m os) (hb : L' ≤ L) : CirO w L' v2 n gs v3 m os := ⟨ownsRow_base h.og hb, ownsRow_base h.oo hb, h.dj, h.fg, h.fo⟩
/-- What 'circuit' hands back. -/
def CirRet (b B K : Nat) (w : World) (e : Ending) (w' : World) : Prop :=
  ∃ (i0 i1 : Int) (v2 : Value) (gn : Nat) (gs : List Int) (v3 : Value) (on : Nat) (os : List Int), e = .returned (.agg #[.int .i64 i0, .int .i64 i1, v2, v3]) ∧ (0 ≤ i0 ∧ i0 ≤ 3) ∧ (0 ≤ i1 ∧ i1 ≤ 3) ∧ CirO w' w.heap.size v2 gn gs v3 on os ∧ gn ≤ 8 ∧ on ≤ 3 ∧ Cur w' b B (K + 200) ∧ Bex b w w'
set_option maxHeartbeats 8000000 in
theorem s_circuit (b B K : Nat) (w : World) (h : Cur w b B K) (hK : K ≤ 100000) :
    Calls Try.prog 111 #[.pointer (some ⟨b, 0, none⟩)] w (CirRet b B K w) := by
  have hbl := h.lt
  go_enter Try.func111, Try.ntmps111
  have hC0 := h.below (bel_alloc w (.cells #[.int .i64 0, .int .i64 0, .slice none 0 0, .slice none 0 0] 31))
  have RC := Lib.hid (B4w.new (w := w) (x0 := .int .i64 0) (x1 := .int .i64 0) (x2 := .slice none 0 0) (x3 := .slice none 0 0) (t := 31))
  have hzw : (w.alloc (.cells #[.int .i64 0, .int .i64 0, .slice none 0 0, .slice none 0 0] 31)).heap.size = w.heap.size + 1 := by simp
  have hbs := h.base
  go_wp2_with fail
  refine (s_pick b B K 4 _ hC0 (by omega) (by omega)).mono ?_; rintro e w1 ⟨i0, rfl, hi0, hi0', hC1, hX1⟩
  go_wp2_with fail
  refine (s_pick b B _ 4 _ hC1 (by omega) (by omega)).mono ?_; rintro e w2 ⟨i1, rfl, hi1, hi1', hC2, hX2⟩
  go_wp2_with fail
  refine (s_ciNew i0 i1 _).mono ?_; rintro e w3 ⟨rfl, rfl⟩
  have hM := MkG.new (w := w2) (i0 := i0) (i1 := i1)
  have hA := bel_alloc w2 (.cells #[.int .i64 i0, .int .i64 i1, .slice none 0 0, .slice none 0 0] 120)
  have hC3 := hC2.below hA
  have hX3 := (hX1.trans hX2).trans (Bex.of hA)
  go_wp2_with fail
  refine (s_pick b B _ 9 _ hC3 (by omega) (by omega)).mono ?_; rintro e w4 ⟨k0, rfl, hk0, hk0', hC4, hX4⟩
  have hgb : b < w2.heap.size := hC2.lt
  have hwz0 : (w.alloc (.cells #[.int .i64 0, .int .i64 0, .slice none 0 0, .slice none 0 0] 31)).heap.size ≤ w2.heap.size := (hX1.trans hX2).size
  have HM := Lib.hid (hM.bex hX4 hgb); have HX := Lib.hid (hX3.trans hX4); have HC := Lib.hid hC4
  clear hC0 hC1 hX1 hC2 hX2 hM hA hC3 hX3 hC4 hX4 h
  go_wp2_with fail
  go_loopw [4, 5, 6] (fun i _ _ W => ∃ (j n : Nat) (v2 : Value) (gs : List Int), j ≤ k0 ∧ n ≤ j ∧ i = .int .i64 ((k0 : Int) - j) ∧ Hid (MkG W w2.heap.size i0 i1 v2 n gs) ∧ Hid (∀ x ∈ gs, Fits x) ∧ Hid (Cur W b B (K + 8 + 10 * j)) ∧ Hid (Bex b (w.alloc (.cells #[.int .i64 0, .int .i64 0, .slice none 0 0, .slice none 0 0] 31)) W)) (fun i _ _ _ => (intOf i).toNat)
  case atStart => exact ⟨0, 0, _, [], by omega, by omega, by simp, HM, (show Hid _ from fun x hx => by cases hx), (show Hid _ from HC.out.more (by omega)), HX⟩
  case round =>
    obtain ⟨j, n, v2, gs, hj, hn, rfl, HM, HF, HC, HX⟩ := hrel
    by_cases hlt : j < k0
    · have hpos : (0 : Int) < (k0 : Int) - j := by omega
      have e1 : IntKind.i64.wrap ((k0 : Int) - j - 1) = (k0 : Int) - j - 1 := IntWalk.i64_in _ (by omega)
      obtain ⟨ga, gc, rfl⟩ := HM.out.sl
      obtain ⟨⟨b0, b1, b2, b3⟩, p2, p3, og⟩ := id HM.out
      go_wp2_with fail
      refine (s_ciWires i0 i1 ga n gc none 0 0 _ (by omega) (by omega) (by omega)).mono ?_; rintro e w5 ⟨rfl, hb5⟩
      have HM5 := Lib.hid (HM.out.bex (b := b) (Bex.of hb5) hgb); have HC5 := Lib.hid (HC.out.below hb5); have HX5 := Lib.hid (HX.out.trans (Bex.of hb5))
      clear b0 b1 b2 b3 p2 p3 og hb5 HM HC HX
      go_wp2_with fail
      refine (s_pick b B _ 4 _ HC5.out (by omega) (by omega)).mono ?_; rintro e w6 ⟨kd, rfl, hkd, hkd', hC6, hX6⟩
      have HM6 := Lib.hid (HM5.out.bex hX6 hgb); have HC6 := Lib.hid hC6; have HX6 := Lib.hid (HX5.out.trans hX6); clear hC6 hX6 HM5 HC5 HX5
      -- the switch
      have hwz : (w.alloc (.cells #[.int .i64 0, .int .i64 0, .slice none 0 0, .slice none 0 0] 31)).heap.size ≤ w2.heap.size := hwz0
      by_cases z0 : ((i0 : Int) + i1 + n) = 0
      · have z0b : (((i0 : Int) + i1 + n) == 0) = true := by simpa using z0
        go_wp2_with fail
        have hgl := HM6.out.lt
        refine (s_mk_one w2.heap.size i0 i1 _ n gs _ HM6.out (by omega) (by omega) (by omega) (by omega)).mono ?_; rintro e w9 ⟨x9, v9, rfl, hM9, hb9⟩
        have HM9 := Lib.hid hM9; have HC9 := Lib.hid (HC6.out.onB hb9 hgb); have HX9 := Lib.hid (HX6.out.thenB (hb9.mono hwz)); clear hM9 hb9 HM6 HC6 HX6
        go_wp2
        go_roundw
        case rel => exact ⟨j + 1, n + 1, v9, _, by omega, by omega, by first | go_num | (simp; omega), HM9, (show Hid _ from fun x hx => by rcases List.mem_append.1 hx with e | e; exact HF.out x e; simp at e; rcases e with rfl | rfl | rfl <;> (unfold Fits; omega)), (show Hid _ from HC9.out.more (by omega)), HX9⟩
        case measure => simp [intOf]; omega
      · have z0b : (((i0 : Int) + i1 + n) == 0) = false := by simpa using z0
        by_cases k3 : kd = 3
        · subst k3
          go_wp2_with fail
          refine (s_one b B _ 2 _ HC6.out (by omega) (by omega)).mono ?_; rintro e w7 ⟨q7, rfl, hC7, hX7⟩
          have HM7 := Lib.hid (HM6.out.bex hX7 hgb); have HC7 := Lib.hid hC7; have HX7 := Lib.hid (HX6.out.trans hX7); clear hC7 hX7 HM6 HC6 HX6
          cases q7 with
          | true =>
            go_wp2_with fail
            have hgl := HM7.out.lt
            refine (s_mk_one w2.heap.size i0 i1 _ n gs _ HM7.out (by omega) (by omega) (by omega) (by omega)).mono ?_; rintro e w9 ⟨x9, v9, rfl, hM9, hb9⟩
            have HM9 := Lib.hid hM9; have HC9 := Lib.hid (HC7.out.onB hb9 hgb); have HX9 := Lib.hid (HX7.out.thenB (hb9.mono hwz)); clear hM9 hb9 HM7 HC7 HX7
            go_wp2
            go_roundw
            case rel => exact ⟨j + 1, n + 1, v9, _, by omega, by omega, by first | go_num | (simp; omega), HM9, (show Hid _ from fun x hx => by rcases List.mem_append.1 hx with e | e; exact HF.out x e; simp at e; rcases e with rfl | rfl | rfl <;> (unfold Fits; omega)), (show Hid _ from HC9.out.more (by omega)), HX9⟩
            case measure => simp [intOf]; omega
          | false =>
            go_wp2_with fail
            refine (s_pick b B _ _ _ HC7.out (by omega) (by omega)).mono ?_; rintro e w8 ⟨x, rfl, hx, hx', hC8, hX8⟩
            have HM8 := Lib.hid (HM7.out.bex hX8 hgb); have HC8 := Lib.hid hC8; have HX8 := Lib.hid (HX7.out.trans hX8); clear hC8 hX8 HM7 HC7 HX7
            go_wp2_with fail
            refine (s_pick b B _ _ _ HC8.out (by omega) (by omega)).mono ?_; rintro e w10 ⟨y, rfl, hy, hy', hC10, hX10⟩
            have HM10 := Lib.hid (HM8.out.bex hX10 hgb); have HC10 := Lib.hid hC10; have HX10 := Lib.hid (HX8.out.trans hX10); clear hC10 hX10 HM8 HC8 HX8
            go_wp2_with fail
            have hgl := HM10.out.lt
            refine (s_mk_and w2.heap.size i0 i1 _ n gs x y _ HM10.out (by omega) (by omega) (by omega) (by omega)).mono ?_; rintro e w9 ⟨x9, v9, rfl, hM9, hb9⟩
            have HM9 := Lib.hid hM9; have HC9 := Lib.hid (HC10.out.onB hb9 hgb); have HX9 := Lib.hid (HX10.out.thenB (hb9.mono hwz)); clear hM9 hb9 HM10 HC10 HX10
            go_wp2
            go_roundw
            case rel => exact ⟨j + 1, n + 1, v9, _, by omega, by omega, by first | go_num | (simp; omega), HM9, (show Hid _ from fun x hx => by rcases List.mem_append.1 hx with e | e; exact HF.out x e; simp at e; rcases e with rfl | rfl | rfl <;> (unfold Fits; omega)), (show Hid _ from HC9.out.more (by omega)), HX9⟩
            case measure => simp [intOf]; omega
        · by_cases k2 : kd = 2
          · subst k2
            go_wp2_with fail
            refine (s_pick b B _ _ _ HC6.out (by omega) (by omega)).mono ?_; rintro e w7 ⟨x, rfl, hx, hx', hC7, hX7⟩
            have HM7 := Lib.hid (HM6.out.bex hX7 hgb); have HC7 := Lib.hid hC7; have HX7 := Lib.hid (HX6.out.trans hX7); clear hC7 hX7 HM6 HC6 HX6
            go_wp2_with fail
            have hgl := HM7.out.lt
            refine (s_mk_not w2.heap.size i0 i1 _ n gs x _ HM7.out (by omega) (by omega) (by omega) (by omega)).mono ?_; rintro e w9 ⟨x9, v9, rfl, hM9, hb9⟩
            have HM9 := Lib.hid hM9; have HC9 := Lib.hid (HC7.out.onB hb9 hgb); have HX9 := Lib.hid (HX7.out.thenB (hb9.mono hwz)); clear hM9 hb9 HM7 HC7 HX7
            go_wp2
            go_roundw
            case rel => exact ⟨j + 1, n + 1, v9, _, by omega, by omega, by first | go_num | (simp; omega), HM9, (show Hid _ from fun x hx => by rcases List.mem_append.1 hx with e | e; exact HF.out x e; simp at e; rcases e with rfl | rfl | rfl <;> (unfold Fits; omega)), (show Hid _ from HC9.out.more (by omega)), HX9⟩
            case measure => simp [intOf]; omega
          · by_cases k0 : kd = 0
            · subst k0
              go_wp2_with fail
              refine (s_pick b B _ _ _ HC6.out (by omega) (by omega)).mono ?_; rintro e w7 ⟨x, rfl, hx, hx', hC7, hX7⟩
              have HM7 := Lib.hid (HM6.out.bex hX7 hgb); have HC7 := Lib.hid hC7; have HX7 := Lib.hid (HX6.out.trans hX7); clear hC7 hX7 HM6 HC6 HX6
              go_wp2_with fail
              refine (s_pick b B _ _ _ HC7.out (by omega) (by omega)).mono ?_; rintro e w8 ⟨y, rfl, hy, hy', hC8, hX8⟩
              have HM8 := Lib.hid (HM7.out.bex hX8 hgb); have HC8 := Lib.hid hC8; have HX8 := Lib.hid (HX7.out.trans hX8); clear hC8 hX8 HM7 HC7 HX7
              go_wp2_with fail
              have hgl := HM8.out.lt
              refine (s_mk_xor w2.heap.size i0 i1 _ n gs x y _ HM8.out (by omega) (by omega) (by omega) (by omega)).mono ?_; rintro e w9 ⟨x9, v9, rfl, hM9, hb9⟩
              have HM9 := Lib.hid hM9; have HC9 := Lib.hid (HC8.out.onB hb9 hgb); have HX9 := Lib.hid (HX8.out.thenB (hb9.mono hwz)); clear hM9 hb9 HM8 HC8 HX8
              go_wp2
              go_roundw
              case rel => exact ⟨j + 1, n + 1, v9, _, by omega, by omega, by first | go_num | (simp; omega), HM9, (show Hid _ from fun x hx => by rcases List.mem_append.1 hx with e | e; exact HF.out x e; simp at e; rcases e with rfl | rfl | rfl <;> (unfold Fits; omega)), (show Hid _ from HC9.out.more (by omega)), HX9⟩
              case measure => simp [intOf]; omega
            · obtain rfl : kd = 1 := by omega
              go_wp2_with fail
              refine (s_pick b B _ _ _ HC6.out (by omega) (by omega)).mono ?_; rintro e w7 ⟨x, rfl, hx, hx', hC7, hX7⟩
              have HM7 := Lib.hid (HM6.out.bex hX7 hgb); have HC7 := Lib.hid hC7; have HX7 := Lib.hid (HX6.out.trans hX7); clear hC7 hX7 HM6 HC6 HX6
              go_wp2_with fail
              refine (s_pick b B _ _ _ HC7.out (by omega) (by omega)).mono ?_; rintro e w8 ⟨y, rfl, hy, hy', hC8, hX8⟩
              have HM8 := Lib.hid (HM7.out.bex hX8 hgb); have HC8 := Lib.hid hC8; have HX8 := Lib.hid (HX7.out.trans hX8); clear hC8 hX8 HM7 HC7 HX7
              go_wp2_with fail
              have hgl := HM8.out.lt
              refine (s_mk_and w2.heap.size i0 i1 _ n gs x y _ HM8.out (by omega) (by omega) (by omega) (by omega)).mono ?_; rintro e w9 ⟨x9, v9, rfl, hM9, hb9⟩
              have HM9 := Lib.hid hM9; have HC9 := Lib.hid (HC8.out.onB hb9 hgb); have HX9 := Lib.hid (HX8.out.thenB (hb9.mono hwz)); clear hM9 hb9 HM8 HC8 HX8
              go_wp2
              go_roundw
              case rel => exact ⟨j + 1, n + 1, v9, _, by omega, by omega, by first | go_num | (simp; omega), HM9, (show Hid _ from fun x hx => by rcases List.mem_append.1 hx with e | e; exact HF.out x e; simp at e; rcases e with rfl | rfl | rfl <;> (unfold Fits; omega)), (show Hid _ from HC9.out.more (by omega)), HX9⟩
              case measure => simp [intOf]; omega
    · obtain rfl : j = k0 := by omega
      have hpos : ¬ (0 : Int) < (j : Int) - j := by omega
      obtain ⟨ga, gc, rfl⟩ := HM.out.sl
      obtain ⟨X, HO0⟩ : ∃ X, Hid (MkO _ w2.heap.size X i0 i1 ga n gc gs (.slice none 0 0) 0 []) := ⟨_, HM.out.outs⟩
      obtain ⟨⟨b0, b1, b2, b3⟩, p2, p3, og⟩ := id HM.out
      obtain ⟨N, hN⟩ : ∃ N : Int, (i0 : Int) + i1 + n = N := ⟨_, rfl⟩
      go_wp2_with fail
      refine (s_ciWires i0 i1 ga n gc none 0 0 _ (by omega) (by omega) (by omega)).mono ?_; rintro e w5 ⟨he, hb5⟩; rw [hN] at he; subst he
      have HO5 := Lib.hid (HO0.out.bex (b := b) (Bex.of hb5) hgb); have HC5 := Lib.hid (HC.out.below hb5); have HX5 := Lib.hid (HX.out.trans (Bex.of hb5))
      have HN := Lib.hid hN
      have hN0 : 0 ≤ N := by omega
      have hN9 : N ≤ 1000 := by omega
      clear b0 b1 b2 b3 p2 p3 og hb5 HM HC HX HO0 hN
      by_cases hz : 0 < N
      · have en1 : IntKind.i64.wrap (N - 1) = N - 1 := IntWalk.i64_in _ (by omega)
        go_wp2_with fail
        refine (s_pick b B _ 3 _ HC5.out (by omega) (by omega)).mono ?_; rintro e w6 ⟨t, rfl, ht, ht', hC6, hX6⟩
        have et : IntKind.i64.wrap (1 + (t : Int)) = (t : Int) + 1 := by rw [IntWalk.i64_in _ (by omega)]; omega
        have HO6 := Lib.hid (HO5.out.bex hX6 hgb); have HC6 := Lib.hid hC6; have HX6 := Lib.hid (HX5.out.trans hX6); clear hC6 hX6 HO5 HC5 HX5
        go_wp2_with fail
        go_loopw [8] (fun i V => ∃ (q m : Nat) (v3 : Value) (os : List Int), q ≤ t + 1 ∧ m = q ∧ i = .int .i64 ((t : Int) + 1 - q) ∧ Hid (MkO V w2.heap.size X i0 i1 ga n gc gs v3 m os) ∧ Hid (∀ x ∈ os, Fits x) ∧ Hid (Cur V b B (K + 8 + 10 * j + 2 + 2 * q)) ∧ Hid (Bex b (w.alloc (.cells #[.int .i64 0, .int .i64 0, .slice none 0 0, .slice none 0 0] 31)) V)) (fun i _ => (intOf i).toNat)
        case atStart => exact ⟨0, 0, _, [], by omega, rfl, by simp, HO6, (show Hid _ from fun x hx => by cases hx), HC6, HX6⟩
        case round =>
          clear HO6 HC6 HX6
          obtain ⟨q, m, v3, os, hq, rfl, rfl, HO, HFo, HC, HX⟩ := hrel
          by_cases hql : m < t + 1
          · have hpos2 : (0 : Int) < (t : Int) + 1 - m := by omega
            have e2 : IntKind.i64.wrap ((t : Int) + 1 - m - 1) = (t : Int) + 1 - m - 1 := IntWalk.i64_in _ (by omega)
            have b3 := HO.out.box.c3; have p3 := HO.out.f3
            have c3 := cell_on b3 (bel_drew _)
            go_wp2_with fail
            go_region_law (first
              | (refine step_app w7 X m _ os (N - 1 - (r7 : Int)) _ (by rfl) _ _ (by rfl) (by rfl) (by rfl) (by simp [World.cell?_alloc_at]) HO7.out.oo (by (repeat (first | exact Below.refl _ _ | assumption | refine bel_trans ?_ (bel_alloc _ _) | refine bel_set ?_ (by first | (dsimp only; omega) | (simp; omega) | simp) _ | refine bel_trans ?_ (bel_drewN _ _) | refine bel_trans ?_ (bel_drew _) | refine bel_trans ?_ (by assumption)))) HO7.out.XW (by omega) ?_; intro v9 w9 hv9 hb9 hg9; obtain ⟨r9, k9, rfl⟩ := own_sl hv9; obtain ⟨k3, kf⟩ := HO7.out.after (bel_alloc w7 (.cells #[.int .i64 (N - 1 - (r7 : Int))] 3)) hb9 hg9)
              | (go_simp; go_at_call 113; refine (s_l1Least N 4 _).mono ?_; rintro e wl ⟨r6, rfl, ha1, ha2, ha3, rfl⟩)
              | (go_simp; go_at_call 83; refine (s_pick b B _ r6 _ (HC.out.below (bel_drew _)) (by omega) (by omega)).mono ?_; rintro e w7 ⟨r7, rfl, hr7, hr7', hC7, hX7⟩; have HO7 := Lib.hid (HO.out.bex ((Bex.of (bel_drew _)).trans hX7) hgb); have c3 := hX7.cell c3 (show w2.heap.size ≠ b by omega); have e7 := IntWalk.i64_in (N - 1 - (r7 : Int)) (by omega); have c3a := cell_on c3 (bel_alloc w7 (.cells #[.int .i64 (N - 1 - (r7 : Int))] 3))))
            all_goals
              have HO9 := Lib.hid (HO7.out.grow (bel_alloc w7 (.cells #[.int .i64 (N - 1 - (r7 : Int))] 3)) hv9 hb9 hg9)
              have HC9 := Lib.hid (((hC7.below (bel_alloc w7 (.cells #[.int .i64 (N - 1 - (r7 : Int))] 3))).onB hb9 (Nat.lt_trans hgb HO7.out.gX)).store (p := ⟨w2.heap.size, 3, none⟩) (u := .slice r9 (m + 1) k9) (by simp only []; omega) (by simp only []; omega))
              have hgX := HO7.out.gX
              have HX9 := Lib.hid ((((HX.out.trans ((Bex.of (bel_drew _)).trans hX7)).trans (Bex.of (bel_alloc w7 (.cells #[.int .i64 (N - 1 - (r7 : Int))] 3)))).thenB (hb9.mono (by omega))).store1 (p := ⟨w2.heap.size, 3, none⟩) (u := .slice r9 (m + 1) k9) (by simp only []; omega))
              clear hC7 hX7 HO HC HX c3 b3 p3
              go_wp2
              go_roundw
              case rel => exact ⟨m + 1, m + 1, _, _, by omega, rfl, by go_num, HO9, (show Hid _ from fun x hx => by rcases List.mem_append.1 hx with e | e; exact HFo.out x e; simp at e; subst e; unfold Fits; omega), (show Hid _ from HC9.out.more (by omega)), HX9⟩
              case measure => simp [intOf]; omega
          · obtain rfl : m = t + 1 := by omega
            have hpos2 : ¬ (0 : Int) < (t : Int) + 1 - ((t + 1 : Nat) : Int) := by omega
            obtain ⟨oa, oc, rfl⟩ := own_sl HO.out.oo
            obtain ⟨b0, b1, b2, b3⟩ := id HO.out.box
            have R4 := RC.out.bex HX.out (by omega)
            have E4 := R4.set (.int .i64 i0) (.int .i64 i1) (.slice ga n gc) (.slice oa (t + 1) oc)
            obtain ⟨E0, E1, E2, E3⟩ := id E4.r
            obtain ⟨⟨r0, r1, r2, r3⟩, f0, f1, f2, f3⟩ := R4
            go_wp2
            exact bodyPost_ret (v := .agg #[.int .i64 i0, .int .i64 i1, .slice ga n gc, .slice oa (t + 1) oc]) (by simp [results, Try.results111, go_sem, E0, E1, E2, E3]) rfl ⟨i0, i1, _, n, gs, _, _, os, rfl, ⟨by omega, by omega⟩, ⟨by omega, by omega⟩, ((HO.out.cirO (L := w.heap.size + 1) (by omega) HF HFo).bex (Bex.only4 _ _ _ _ _) (by omega)).base (by omega), by omega, by omega, (HC.out.set4 (by omega) (by omega)).more (by omega), (((Bex.of (bel_alloc w _)).trans HX.out).set4 (Nat.le_refl _) _ _ _ _)⟩
      · obtain ⟨oa, oc, hoa⟩ : ∃ (oa : Option Addr) (oc : Nat), Value.slice none 0 0 = .slice oa 0 oc := ⟨none, 0, rfl⟩
        obtain ⟨b0, b1, b2, b3⟩ := id HO5.out.box
        have R4 := RC.out.bex HX5.out (by omega)
        have E4 := R4.set (.int .i64 i0) (.int .i64 i1) (.slice ga n gc) (.slice none 0 0)
        obtain ⟨E0, E1, E2, E3⟩ := id E4.r
        obtain ⟨⟨r0, r1, r2, r3⟩, f0, f1, f2, f3⟩ := R4
        go_wp2
        exact bodyPost_ret (v := .agg #[.int .i64 i0, .int .i64 i1, .slice ga n gc, .slice none 0 0]) (by simp [results, Try.results111, go_sem, E0, E1, E2, E3]) rfl ⟨i0, i1, _, n, gs, _, _, [], rfl, ⟨by omega, by omega⟩, ⟨by omega, by omega⟩, ((HO5.out.cirO (L := w.heap.size + 1) (by omega) HF (show Hid _ from fun x hx => by cases hx)).bex (Bex.only4 _ _ _ _ _) (by omega)).base (by omega), by omega, by omega, (HC5.out.set4 (by omega) (by omega)).more (by omega), (((Bex.of (bel_alloc w _)).trans HX5.out).set4 (Nat.le_refl _) _ _ _ _)⟩
end Go.Proofs.Ytmkcanbaleecfaa
