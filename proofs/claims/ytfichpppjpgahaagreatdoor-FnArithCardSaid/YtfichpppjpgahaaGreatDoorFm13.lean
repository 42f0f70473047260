/-
  Contracts: equal circuits, sums; how many gates of each kind, both sides.
  Contracts: picks of wires, DegreesOf, both sides.
  Contracts: ProductDepth, both sides.
  Contracts: EvalArith where all is given well, both sides.
-/
import Derived.Test.YtfichpppjpgahaaGreatDoorFm12
import Derived.Test.YtfichpppjpgahaaGreatDoorFm5
import Derived.Test.YtfichpppjpgahaaGreatDoorFm8
import Derived.Test.YtfichpppjpgahaaGreatDoorFm7
import Derived.Test.YtfichpppjpgahaaGreatDoorFm1
import Derived.Test.YtfichpppjpgahaaGreatDoorFm6
namespace Go.Proofs.YtfichpppjpgahaaGreatDoor
open Go.RowKit
set_option linter.unusedVariables false
set_option linter.unusedSimpArgs false
set_option maxRecDepth 10000

set_option maxHeartbeats 1000000 in
theorem l_qGates (a a' : Option Addr) (n cap cap' : Nat) (xs : List Int) (w : World) (h : Recs 3 w a n cap xs) (h' : Recs 3 w a' n cap' xs) :
    Calls Tryz.prog 42 #[.slice a n cap, .slice a' n cap'] w fun e w' => e = .returned (.bool true) ∧ Below w.heap.size w w' := by
  have hs := h.small
  go_enter Tryz.func42, Tryz.ntmps42
  go_wp2
  go_loopw [13] (fun i wr => ∃ k : Nat, k ≤ n ∧ i = .int .i64 k ∧ Hid (Below w.heap.size w wr)) (fun i _ => n - (intOf i).toNat)
  case atStart => exact ⟨0, by omega, rfl, Below.refl _ _⟩
  case round =>
    obtain ⟨k, hk, rfl, BW⟩ := hrel
    by_cases hlt : k < n
    · obtain ⟨b, off, rfl, hbl, c0, c1, c2⟩ := (h.below BW.out).at3 hlt
      obtain ⟨b', off', rfl, hbl', d0, d1, d2⟩ := (h'.below BW.out).at3 hlt
      have hlti : (k : Int) < (n : Int) := by omega
      go_wp2
      go_quiet (fail)
      go_wp2
      go_roundw
      case rel => exact ⟨k + 1, by omega, by go_num, (show Hid _ from below_drewN BW.out _)⟩
      case measure => simp [intOf]; omega
    · obtain rfl : k = n := by omega
      go_wp2
      go_ret
      exact ⟨rfl, BW.out⟩
set_option maxHeartbeats 2000000 in
theorem l_qArith (p i0 i1 : Int) (ga : Option Addr) (gn gc : Nat) (gs : List Int) (oa : Option Addr) (on oc : Nat) (os : List Int) (ga' : Option Addr) (gc' : Nat) (oa' : Option Addr) (oc' : Nat) (w : World) (h : Circ w ga gn gc gs oa on oc os) (h' : Circ w ga' gn gc' gs oa' on oc' os) :
    Calls Tryz.prog 13 #[.agg #[.int .i64 p, .int .i64 i0, .int .i64 i1, .slice ga gn gc, .slice oa on oc], .agg #[.int .i64 p, .int .i64 i0, .int .i64 i1, .slice ga' gn gc', .slice oa' on oc']] w fun e w' => e = .returned (.bool true) ∧ Below w.heap.size w w' := by
  have A0 := bel_alloc w (.cells #[.int .i64 p, .int .i64 i0, .int .i64 i1, .slice ga gn gc, .slice oa on oc] 26)
  have g0 := B5.new (w := w) (x0 := .int .i64 p) (x1 := .int .i64 i0) (x2 := .int .i64 i1) (x3 := .slice ga gn gc) (x4 := .slice oa on oc) (t := 26)
  obtain ⟨W1, hW1⟩ : ∃ X, w.alloc (.cells #[.int .i64 p, .int .i64 i0, .int .i64 i1, .slice ga gn gc, .slice oa on oc] 26) = X := ⟨_, rfl⟩
  rw [hW1] at A0 g0
  have hz1 : W1.heap.size = w.heap.size + 1 := by rw [← hW1]; simp
  have A1 := bel_alloc W1 (.cells #[.int .i64 p, .int .i64 i0, .int .i64 i1, .slice ga' gn gc', .slice oa' on oc'] 26)
  have g1 := B5.new (w := W1) (x0 := .int .i64 p) (x1 := .int .i64 i0) (x2 := .int .i64 i1) (x3 := .slice ga' gn gc') (x4 := .slice oa' on oc') (t := 26)
  have g0' := g0.on A1
  rw [hz1] at g1
  obtain ⟨c0, c1, c2, c3, c4⟩ := id g0'
  obtain ⟨d0, d1, d2, d3, d4⟩ := id g1
  have B1 := bel_trans A0 A1
  have hG := Lib.hid (l_qGates ga ga' gn gc gc' gs _ (h.below B1).g (h'.below B1).g)
  go_enter Tryz.func13, Tryz.ntmps13
  go_wp2_with fail
  refine hG.out.mono ?_; rintro e w3 ⟨rfl, hb3⟩
  have g3 := g0'.on hb3; have g4 := g1.on hb3
  clear c0 c1 c2 c3 c4 d0 d1 d2 d3 d4
  obtain ⟨c0, c1, c2, c3, c4⟩ := id g3
  obtain ⟨d0, d1, d2, d3, d4⟩ := id g4
  have B3 := bel_trans B1 hb3
  go_wp2_with fail
  refine (l_qInts oa oa' on oc oc' os _ (h.below B3).o (h'.below B3).o).mono ?_; rintro e w4 ⟨rfl, hb4⟩
  go_wp2
  go_ret
  exact ⟨rfl, bel_trans B3 hb4⟩
set_option maxHeartbeats 1000000 in
theorem s_IsArith (p i0 i1 : Int) (ga : Option Addr) (gn gc : Nat) (gs : List Int) (oa : Option Addr) (on oc : Nat) (os : List Int) (w : World) (h : Circ w ga gn gc gs oa on oc os) :
    Calls Tryz.prog 15 #[.agg #[.int .i64 p, .int .i64 i0, .int .i64 i1, .slice ga gn gc, .slice oa on oc]] w fun e w' => e = .returned (.bool (arC p i0 i1 gs gn os)) ∧ Below w.heap.size w w' := by
  have A0 := bel_alloc w (.cells #[.int .i64 p, .int .i64 i0, .int .i64 i1, .slice ga gn gc, .slice oa on oc] 26)
  have g0 := B5.new (w := w) (x0 := .int .i64 p) (x1 := .int .i64 i0) (x2 := .int .i64 i1) (x3 := .slice ga gn gc) (x4 := .slice oa on oc) (t := 26)
  obtain ⟨c0, c1, c2, c3, c4⟩ := g0
  have HA := Lib.hid (s_arGood p i0 i1 ga gn gc gs oa on oc os _ (h.below A0))
  generalize arC p i0 i1 gs gn os = q at HA
  go_enter Tryz.func15, Tryz.ntmps15
  go_wp2_with fail
  refine HA.out.mono ?_; rintro e w1 ⟨rfl, hb1⟩
  go_wp2
  go_ret
  exact ⟨rfl, bel_trans A0 hb1⟩
def sumI : List Int → Nat → Int
  | _, 0 => 0
  | xs, k + 1 => sumI xs k + nth xs k
set_option maxHeartbeats 1000000 in
theorem l_qSumI (a : Option Addr) (n cap : Nat) (xs : List Int) (w : World) (h : Ints w a n cap xs) (hx : Hid (∀ k, k ≤ n → 0 ≤ sumI xs k ∧ sumI xs k ≤ 1000000)) :
    Calls Tryz.prog 19 #[.slice a n cap] w fun e w' => e = .returned (.int .i64 (sumI xs n)) ∧ w' = w := by
  have hs := h.small
  go_enter Tryz.func19, Tryz.ntmps19
  go_wp2
  go_loopw [8, 3] (fun i s wr => ∃ k : Nat, k ≤ n ∧ i = .int .i64 k ∧ s = .int .i64 (sumI xs k) ∧ wr = w) (fun i _ _ => n - (intOf i).toNat)
  case atStart => exact ⟨0, by omega, rfl, rfl, rfl⟩
  case round =>
    obtain ⟨k, hk, rfl, rfl, rfl⟩ := hrel
    by_cases hlt : k < n
    · obtain ⟨b, off, rfl, hbl, c0⟩ := h.at hlt
      have hlti : (k : Int) < (n : Int) := by omega
      have HS := Lib.hid (show sumI xs (k + 1) = sumI xs k + nth xs k from rfl)
      have h1 := hx.out (k + 1) (by omega)
      rw [HS.out] at h1
      have e1 : IntKind.i64.wrap (sumI xs k + nth xs k) = sumI xs k + nth xs k := IntWalk.i64_in _ (by omega)
      go_wp2
      go_roundw
      case rel => exact ⟨k + 1, by omega, by first | rfl | go_num, by rw [HS.out], by first | trivial | rfl⟩
      case measure => simp [intOf]; omega
    · obtain rfl : k = n := by omega
      go_wp2
      go_ret
      exact ⟨rfl, rfl⟩
theorem arB_kind {p k a b own : Int} (h : arB p k a b own = true) : k = 0 ∨ k = 1 ∨ k = 2 ∨ k = 3 := by
  by_cases h0 : k = 0 ∨ k = 1
  · omega
  · by_cases h2 : k = 2
    · omega
    · rw [arB_3 h0 h2, Bool.and_eq_true, decide_eq_true_iff] at h; omega
theorem kindsOkA {p i0 i1 : Int} {gs os : List Int} {gn : Nat} (h : arC p i0 i1 gs gn os = true) : kindsOk gs gn := fun i hi => arB_kind (gatesA_at (arC_iff.1 h).2.1 hi)
/-- What is told of the kinds. -/
def cntA (p i0 i1 : Int) (gs : List Int) (gn : Nat) (os : List Int) : List Int := if arC p i0 i1 gs gn os then kinds gs gn else []
def cntN (q : Bool) : Nat := if q then 4 else 0
set_option maxHeartbeats 2000000 in
theorem i_CountArith (p i0 i1 : Int) (ga : Option Addr) (gn gc : Nat) (gs : List Int) (oa : Option Addr) (on oc : Nat) (os : List Int) (w : World) (h : Circ w ga gn gc gs oa on oc os) (hAC : arC p i0 i1 gs gn os = true) :
    Calls Tryz.prog 17 #[.agg #[.int .i64 p, .int .i64 i0, .int .i64 i1, .slice ga gn gc, .slice oa on oc]] w fun e w' => ∃ r c, e = .returned (.tuple #[.slice r 4 c, .bool true]) ∧ Ints w' r 4 c (kinds gs gn) ∧ Below w.heap.size w w' := by
  have A0 := bel_alloc w (.cells #[.int .i64 p, .int .i64 i0, .int .i64 i1, .slice ga gn gc, .slice oa on oc] 26)
  have g0 := B5.new (w := w) (x0 := .int .i64 p) (x1 := .int .i64 i0) (x2 := .int .i64 i1) (x3 := .slice ga gn gc) (x4 := .slice oa on oc) (t := 26)
  obtain ⟨c0, c1, c2, c3, c4⟩ := id g0
  have HA := Lib.hid (i_IsArith p i0 i1 ga gn gc gs oa on oc os _ (h.below A0))
  rw [hAC] at HA
  have hn := (arS_iff.1 (arC_iff.1 hAC).1).2.2.2.1
  have HK := Lib.hid (kindsOkA hAC); clear hAC
  go_enter Tryz.func17, Tryz.ntmps17
  go_wp2_with fail
  refine HA.out.mono ?_; rintro e w1 ⟨rfl, hb1⟩
  have g1 := g0.on hb1
  clear c0 c1 c2 c3 c4
  obtain ⟨c0, c1, c2, c3, c4⟩ := id g1
  have B1 := bel_trans A0 hb1
  go_wp2_with fail
  refine (i_countKinds ga gn gc gs _ (h.below B1).g HK.out (by omega)).mono ?_; rintro e w2 ⟨r, c, rfl, hO, hb2⟩
  have HO := Lib.hid hO.ints; clear hO
  go_wp2
  go_ret2
  exact ⟨_, _, rfl, HO.out, bel_trans B1 hb2⟩
set_option maxHeartbeats 4000000 in
theorem s_CountArith (p i0 i1 : Int) (ga : Option Addr) (gn gc : Nat) (gs : List Int) (oa : Option Addr) (on oc : Nat) (os : List Int) (w : World) (h' : Circ w ga gn gc gs oa on oc os) (hAC : arC p i0 i1 gs gn os = true) :
    Calls Tryz.prog 18 #[.agg #[.int .i64 p, .int .i64 i0, .int .i64 i1, .slice ga gn gc, .slice oa on oc]] w fun e w' => ∃ r c, e = .returned (.tuple #[.slice r 4 c, .bool true]) ∧ Ints w' r 4 c (kinds gs gn) ∧ Below w.heap.size w w' := by
  have A0 := bel_alloc w (.cells #[.int .i64 p, .int .i64 i0, .int .i64 i1, .slice ga gn gc, .slice oa on oc] 26)
  have g0 := B5.new (w := w) (x0 := .int .i64 p) (x1 := .int .i64 i0) (x2 := .int .i64 i1) (x3 := .slice ga gn gc) (x4 := .slice oa on oc) (t := 26)
  obtain ⟨c0, c1, c2, c3, c4⟩ := id g0
  have HA := Lib.hid (s_arGood p i0 i1 ga gn gc gs oa on oc os _ (h'.below A0))
  rw [hAC] at HA
  have hn := (arS_iff.1 (arC_iff.1 hAC).1).2.2.2.1
  have HK := Lib.hid (kindsOkA hAC); clear hAC
  have h := h'.g
  go_enter Tryz.func18, Tryz.ntmps18
  go_wp2_with fail
  refine HA.out.mono ?_; rintro e W0 ⟨rfl, hb0⟩
  have g0 := g0.on hb0
  clear c0 c1 c2 c3 c4
  obtain ⟨c0, c1, c2, c3, c4⟩ := id g0
  have A9 := bel_trans A0 hb0
  clear HA hb0
  clear A0
  have hs0 := A9.size
  obtain ⟨ii, hi, hz0, hz1, hz2⟩ := info_parts info_int
  go_wp2_with (at_make; refine wpList_make_full _ rfl _ _ 24 rfl W0.heap.size 3 ii (.int .i64 0) 1 Tryz.underlying24 hi hz0 hz1 _ _ _ _ 4 rfl rfl rfl rfl ?b1 ?b2 ?b3 ?_)
  case b1 => rw [hz2]; omega
  case b2 => unfold maxLen; omega
  case b3 => exact Nat.le_refl _
  intro w1 hown hgrow
  have hb1 : Below W0.heap.size W0 w1 := (Below.refl _ _).grown hgrow (Nat.le_refl _) (fun k hk => by cases hk)
  try simp only [Nat.mul_one, Value.cells] at hown
  rw [made_ivs] at hown
  obtain ⟨a', cap', hv, ho⟩ := OwnI.of hown (by omega) (fun x hx => by rw [List.eq_of_mem_replicate hx]; unfold Fits; omega)
  simp only [Value.slice.injEq] at hv
  obtain ⟨rfl, _, rfl⟩ := hv
  have ho2 : OwnI 3 w1 W0.heap.size (some ⟨W0.heap.size, 0, none⟩) 4 4 (kinds gs 0) := ho
  clear hown hgrow hi hz0 hz1 hz2 ho
  have HO := Lib.hid ho2; have HB := Lib.hid hb1; clear ho2
  have g1 := g0.on hb1
  clear c0 c1 c2 c3 c4
  obtain ⟨c0, c1, c2, c3, c4⟩ := id g1
  clear g0
  clear hb1
  go_wp2
  go_loopw [14] (fun i W => ∃ k : Nat, k ≤ gn ∧ i = .int .i64 k ∧ Hid (OwnI 3 W W0.heap.size (some ⟨W0.heap.size, 0, none⟩) 4 4 (kinds gs k)) ∧ Hid (Below W0.heap.size W0 W)) (fun i _ => gn - (intOf i).toNat)
  case atStart => exact ⟨0, by omega, rfl, HO, HB⟩
  case round =>
    clear HO HB
    obtain ⟨k, hk, rfl, HO, HB⟩ := hrel
    by_cases hlt : k < gn
    · have hlti : (k : Int) < (gn : Int) := by omega
      obtain ⟨gb, go, rfl, gl, g0, g1, g2⟩ := (h.below (bel_trans A9 HB.out)).at3 hlt
      have hkk := HK.out k hlt
      have bd0 := cntK_bd gs 0 k
      have bd1 := cntK_bd gs 1 k
      have bd2 := cntK_bd gs 2 k
      have bd3 := cntK_bd gs 3 k
      obtain ⟨b00, b01⟩ := bd0
      obtain ⟨b10, b11⟩ := bd1
      obtain ⟨b20, b21⟩ := bd2
      obtain ⟨b30, b31⟩ := bd3
      have hgl := HB.out.size
      have A1 := bel_alloc wr (.cells #[.int .i64 (fld 3 gs k 0), .int .i64 (fld 3 gs k 1), .int .i64 (fld 3 gs k 2)] 65)
      have HO1 := HO.out.below A1
      have HS : ∀ q : Int, cntK gs q (k + 1) = cntK gs q k + (if fld 3 gs k 0 = q then 1 else 0) := fun q => rfl
      have HSS := Lib.hid HS; clear HS
      rcases hkk with hx | hx | hx | hx
      · obtain ⟨_, e9, _, l9, m9, f9⟩ := HO1.at (i := 0) (by omega)
        simp only [Option.some.injEq, Addr.mk.injEq] at e9
        obtain ⟨rfl, _, _⟩ := e9
        have m8 : (wr.alloc (.cells #[.int .i64 (fld 3 gs k 0), .int .i64 (fld 3 gs k 1), .int .i64 (fld 3 gs k 2)] 65)).cell? ⟨W0.heap.size, 0, none⟩ = some (.int .i64 (cntK gs 0 k)) := m9
        have e1 : IntKind.i64.wrap (cntK gs 0 k + 1) = cntK gs 0 k + 1 := IntWalk.i64_in _ (by omega)
        have HN := HO1.set (i := 0) (by omega) (cntK gs 0 k + 1) (by unfold Fits; omega)
        have HN2 : kinds gs (k + 1) = (kinds gs k).set 0 (cntK gs 0 k + 1) := by unfold kinds; rw [HSS.out, HSS.out, HSS.out, HSS.out, hx]; simp
        have HNN := Lib.hid HN; have HNE := Lib.hid HN2; clear HN HN2 HO1 m9 HO
        rw [hx] at m8 f9 A1 HNN g0
        go_wp2
        go_roundw
        case rel => exact ⟨k + 1, by omega, by go_num, (show Hid _ from by show OwnI _ _ _ _ _ _ _; rw [HNE.out]; exact HNN.out), (show Hid _ from (bel_trans HB.out A1).setCell (by dsimp only; omega) _)⟩
        case measure => simp [intOf]; omega
      · obtain ⟨_, e9, _, l9, m9, f9⟩ := HO1.at (i := 1) (by omega)
        simp only [Option.some.injEq, Addr.mk.injEq] at e9
        obtain ⟨rfl, _, _⟩ := e9
        have m8 : (wr.alloc (.cells #[.int .i64 (fld 3 gs k 0), .int .i64 (fld 3 gs k 1), .int .i64 (fld 3 gs k 2)] 65)).cell? ⟨W0.heap.size, 1, none⟩ = some (.int .i64 (cntK gs 1 k)) := m9
        have e1 : IntKind.i64.wrap (cntK gs 1 k + 1) = cntK gs 1 k + 1 := IntWalk.i64_in _ (by omega)
        have HN := HO1.set (i := 1) (by omega) (cntK gs 1 k + 1) (by unfold Fits; omega)
        have HN2 : kinds gs (k + 1) = (kinds gs k).set 1 (cntK gs 1 k + 1) := by unfold kinds; rw [HSS.out, HSS.out, HSS.out, HSS.out, hx]; simp
        have HNN := Lib.hid HN; have HNE := Lib.hid HN2; clear HN HN2 HO1 m9 HO
        rw [hx] at m8 f9 A1 HNN g0
        go_wp2
        go_roundw
        case rel => exact ⟨k + 1, by omega, by go_num, (show Hid _ from by show OwnI _ _ _ _ _ _ _; rw [HNE.out]; exact HNN.out), (show Hid _ from (bel_trans HB.out A1).setCell (by dsimp only; omega) _)⟩
        case measure => simp [intOf]; omega
      · obtain ⟨_, e9, _, l9, m9, f9⟩ := HO1.at (i := 2) (by omega)
        simp only [Option.some.injEq, Addr.mk.injEq] at e9
        obtain ⟨rfl, _, _⟩ := e9
        have m8 : (wr.alloc (.cells #[.int .i64 (fld 3 gs k 0), .int .i64 (fld 3 gs k 1), .int .i64 (fld 3 gs k 2)] 65)).cell? ⟨W0.heap.size, 2, none⟩ = some (.int .i64 (cntK gs 2 k)) := m9
        have e1 : IntKind.i64.wrap (cntK gs 2 k + 1) = cntK gs 2 k + 1 := IntWalk.i64_in _ (by omega)
        have HN := HO1.set (i := 2) (by omega) (cntK gs 2 k + 1) (by unfold Fits; omega)
        have HN2 : kinds gs (k + 1) = (kinds gs k).set 2 (cntK gs 2 k + 1) := by unfold kinds; rw [HSS.out, HSS.out, HSS.out, HSS.out, hx]; simp
        have HNN := Lib.hid HN; have HNE := Lib.hid HN2; clear HN HN2 HO1 m9 HO
        rw [hx] at m8 f9 A1 HNN g0
        go_wp2
        go_roundw
        case rel => exact ⟨k + 1, by omega, by go_num, (show Hid _ from by show OwnI _ _ _ _ _ _ _; rw [HNE.out]; exact HNN.out), (show Hid _ from (bel_trans HB.out A1).setCell (by dsimp only; omega) _)⟩
        case measure => simp [intOf]; omega
      · obtain ⟨_, e9, _, l9, m9, f9⟩ := HO1.at (i := 3) (by omega)
        simp only [Option.some.injEq, Addr.mk.injEq] at e9
        obtain ⟨rfl, _, _⟩ := e9
        have m8 : (wr.alloc (.cells #[.int .i64 (fld 3 gs k 0), .int .i64 (fld 3 gs k 1), .int .i64 (fld 3 gs k 2)] 65)).cell? ⟨W0.heap.size, 3, none⟩ = some (.int .i64 (cntK gs 3 k)) := m9
        have e1 : IntKind.i64.wrap (cntK gs 3 k + 1) = cntK gs 3 k + 1 := IntWalk.i64_in _ (by omega)
        have HN := HO1.set (i := 3) (by omega) (cntK gs 3 k + 1) (by unfold Fits; omega)
        have HN2 : kinds gs (k + 1) = (kinds gs k).set 3 (cntK gs 3 k + 1) := by unfold kinds; rw [HSS.out, HSS.out, HSS.out, HSS.out, hx]; simp
        have HNN := Lib.hid HN; have HNE := Lib.hid HN2; clear HN HN2 HO1 m9 HO
        rw [hx] at m8 f9 A1 HNN g0
        go_wp2
        go_roundw
        case rel => exact ⟨k + 1, by omega, by go_num, (show Hid _ from by show OwnI _ _ _ _ _ _ _; rw [HNE.out]; exact HNN.out), (show Hid _ from (bel_trans HB.out A1).setCell (by dsimp only; omega) _)⟩
        case measure => simp [intOf]; omega
    · obtain rfl : k = gn := by omega
      have hlti : ¬ (k : Int) < (k : Int) := by omega
      have HF := Lib.hid (HO.out.base (B' := w.heap.size) (by have := A9.size; omega)); have HBF := Lib.hid (bel_trans A9 HB.out)
      go_wp2
      go_ret2
      exact ⟨_, _, rfl, HF.out.ints, HBF.out⟩
end Go.Proofs.YtfichpppjpgahaaGreatDoor
namespace Go.Proofs.YtfichpppjpgahaaGreatDoor
open Go.RowKit
set_option linter.unusedVariables false
set_option linter.unusedSimpArgs false
set_option maxRecDepth 10000

def pkL (l os : List Int) (n : Nat) : List Int := (List.range n).map (fun k => nth l (nth os k).toNat)
theorem pkL_succ (l os : List Int) (n : Nat) : pkL l os (n + 1) = pkL l os n ++ [nth l (nth os n).toNat] := by simp [pkL, List.range_succ]
theorem pkL_len (l os : List Int) (n : Nat) : (pkL l os n).length = n := by simp [pkL]
theorem nth_pkL {l os : List Int} {n i : Nat} (hi : i < n) : nth (pkL l os n) i = nth l (nth os i).toNat := by simp [nth, pkL, hi]
theorem nth_fit {l : List Int} (h : ∀ x ∈ l, Fits x) (i : Nat) : Fits (nth l i) := by
  by_cases hi : i < l.length
  · exact h _ (nth_mem hi)
  · have : nth l i = 0 := by simp [nth]; rw [List.getElem?_eq_none (by omega)]; rfl
    rw [this]; unfold Fits; omega
theorem pkL_fit {l : List Int} (h : ∀ x ∈ l, Fits x) (os : List Int) (n : Nat) : ∀ x ∈ pkL l os n, Fits x := by
  intro x hx
  simp only [pkL, List.mem_map] at hx
  obtain ⟨i, _, rfl⟩ := hx
  exact nth_fit h _
set_option maxHeartbeats 2000000 in
theorem s_ciPick (a b : Option Addr) (n cap m bc : Nat) (xs os : List Int) (w : World) (h : Ints w a n cap xs) (h' : Ints w b m bc os) (hs : m ≤ 100000) (hx : Hid (∀ i, i < m → 0 ≤ nth os i ∧ nth os i < n)) :
    Calls Tryz.prog 31 #[.slice a n cap, .slice b m bc] w fun e w' => ∃ r c, e = .returned (.slice r m c) ∧ Mine w' w.heap.size r m c (pkL xs os m) ∧ Below w.heap.size w w' := by
  have HFT := Lib.hid (pkL_fit h.wf os m)
  go_enter Tryz.func31, Tryz.ntmps31
  go_wp2
  go_loopw [5, 7, 10] (fun v q_ i wr => ∃ k : Nat, k ≤ m ∧ i = .int .i64 k ∧ Hid (wr.ownsRow w.heap.size 3 1 v k (ivs (pkL xs os k))) ∧ Hid (Below w.heap.size w wr)) (fun _ _ i _ => m - (intOf i).toNat)
  case atStart => exact ⟨0, by omega, rfl, World.ownsRow_nil _ _ _ _, Below.refl _ _⟩
  case round =>
    obtain ⟨k, hk, rfl, HO, HB⟩ := hrel
    by_cases hlt : k < m
    · obtain ⟨b, off, rfl, hbl, hc⟩ := (h'.below HB.out).at hlt
      obtain ⟨q, hq⟩ : ∃ q : Nat, nth os k = q := ⟨(nth os k).toNat, by have := hx.out k hlt; omega⟩
      have hqn : q < n := by have := hx.out k hlt; omega
      have HS : Hid (pkL xs os (k + 1) = pkL xs os k ++ [nth xs q]) := by show _ = _; rw [pkL_succ, hq]; rfl
      rw [hq] at hc; clear hq
      obtain ⟨b', off', rfl, hbl', hc'⟩ := (h.below HB.out).at (i := q) hqn
      have hlti : (k : Int) < (m : Int) := by omega
      have hlt0 : (q : Int) < (n : Int) := by omega
      have hz := HB.out.size
      go_wp2_with (at_builtin; refine wp_app wr w.heap.size _ _ _ (nth xs q) _ _ rfl _ _ rfl rfl rfl rfl HO.out hz (by omega) ?_; intro v9 w9 hv9 hb9 hg9)
      clear hg9
      go_roundw
      case rel => exact ⟨k + 1, by omega, by go_num, by rw [HS.out]; exact hv9, HB.out.trans hb9⟩
      case measure => simp [intOf]; omega
    · obtain rfl : k = m := by omega
      go_wp2
      obtain ⟨r, c, hv, hm⟩ := OwnI.of HO.out (by omega) HFT.out
      subst hv
      go_ret
      exact ⟨_, _, rfl, hm.mine, HB.out⟩
set_option maxHeartbeats 2000000 in
theorem i_at (a b : Option Addr) (n cap m bc : Nat) (xs os : List Int) (w : World) (h : Ints w a n cap xs) (h' : Ints w b m bc os) (hs : m ≤ 100000) (hx : Hid (∀ i, i < m → 0 ≤ nth os i ∧ nth os i < n)) :
    Calls Tryz.prog 30 #[.slice a n cap, .slice b m bc] w fun e w' => ∃ r c, e = .returned (.slice r m c) ∧ Mine w' w.heap.size r m c (pkL xs os m) ∧ Below w.heap.size w w' := by
  have HFT := Lib.hid (pkL_fit h.wf os m)
  go_enter Tryz.func30, Tryz.ntmps30
  go_wp2
  go_loopw [5, 7, 11] (fun v q_ i wr => ∃ k : Nat, k ≤ m ∧ i = .int .i64 k ∧ Hid (wr.ownsRow w.heap.size 3 1 v k (ivs (pkL xs os k))) ∧ Hid (Below w.heap.size w wr)) (fun _ _ i _ => m - (intOf i).toNat)
  case atStart => exact ⟨0, by omega, rfl, (show Hid _ from World.ownsRow_lit w #[] 0 (Nat.le_refl _) (by decide) rfl), (show Hid _ from bel_alloc w _)⟩
  case round =>
    obtain ⟨k, hk, rfl, HO, HB⟩ := hrel
    by_cases hlt : k < m
    · obtain ⟨b, off, rfl, hbl, hc⟩ := (h'.below HB.out).at hlt
      obtain ⟨q, hq⟩ : ∃ q : Nat, nth os k = q := ⟨(nth os k).toNat, by have := hx.out k hlt; omega⟩
      have hqn : q < n := by have := hx.out k hlt; omega
      have HS : Hid (pkL xs os (k + 1) = pkL xs os k ++ [nth xs q]) := by show _ = _; rw [pkL_succ, hq]; rfl
      rw [hq] at hc; clear hq
      obtain ⟨b', off', rfl, hbl', hc'⟩ := (h.below HB.out).at (i := q) hqn
      have hlti : (k : Int) < (m : Int) := by omega
      have hlt0 : (q : Int) < (n : Int) := by omega
      have hz := HB.out.size
      go_wp2_with (at_builtin; refine wp_app wr w.heap.size _ _ _ (nth xs q) _ _ rfl _ _ rfl rfl rfl rfl HO.out hz (by omega) ?_; intro v9 w9 hv9 hb9 hg9)
      clear hg9
      go_roundw
      case rel => exact ⟨k + 1, by omega, by go_num, by rw [HS.out]; exact hv9, HB.out.trans hb9⟩
      case measure => simp [intOf]; omega
    · obtain rfl : k = m := by omega
      go_wp2
      obtain ⟨r, c, hv, hm⟩ := OwnI.of HO.out (by omega) HFT.out
      subst hv
      go_ret
      exact ⟨_, _, rfl, hm.mine, HB.out⟩
theorem arOuts {p i0 i1 : Int} {gs os : List Int} {gn n : Nat} (h : arC p i0 i1 gs gn os = true) (hn : (n : Int) = i0 + i1 + gn) : Hid (∀ i, i < os.length → 0 ≤ nth os i ∧ nth os i < n) := by
  intro i hi
  have := (arC_iff.1 h).2.2
  have := inB_iff.1 (allIn_iff.1 this i hi)
  omega
/-- DegreesOf. -/
def dgAll (p i0 i1 : Int) (gs : List Int) (gn : Nat) (os : List Int) : List Int × Bool :=
  if arC p i0 i1 gs gn os && allIn (ads 2000000 gs (i0 + i1).toNat gn) 0 1000000 then (pkL (ads 2000000 gs (i0 + i1).toNat gn) os os.length, true) else ([], false)
theorem ads_has {gs : List Int} {n m : Nat} : (1000001 ∈ ads 1000001 gs n m) ↔ allIn (ads 2000000 gs n m) 0 1000000 = false := by
  have hl1 := ads_len 1000001 gs n m
  have hl2 := ads_len 2000000 gs n m
  have hm := ads_min (c := 1000001) (C := 2000000) (by omega) (by omega) gs n m
  have hb := ads_bd (C := 2000000) (by omega) gs n m
  constructor
  · intro h
    obtain ⟨i, hi, e⟩ := mem_nth h
    cases hq : allIn (ads 2000000 gs n m) 0 1000000 with
    | false => rfl
    | true =>
      have h1 := inB_iff.1 (allIn_iff.1 hq i (by omega))
      have := hm i
      omega
  · intro h
    apply Classical.byContradiction
    intro hn
    have : allIn (ads 2000000 gs n m) 0 1000000 = true := allIn_iff.2 (fun i hi => inB_iff.2 (by
      have h1 := hm i
      have h2 := hb i
      refine ⟨h2.1, ?_⟩
      rcases Int.lt_or_le 1000000 (nth (ads 2000000 gs n m) i) with q | q
      · exact absurd (show 1000001 ∈ ads 1000001 gs n m by
          have h3 : nth (ads 1000001 gs n m) i = 1000001 := by omega
          have h4 : nth (ads 1000001 gs n m) i ∈ ads 1000001 gs n m := nth_mem (by omega)
          rwa [h3] at h4) hn
      · exact q))
    rw [this] at h; cases h
theorem ads_same {gs os : List Int} {n m k : Nat} (h : allIn (ads 2000000 gs n m) 0 1000000 = true) : pkL (ads 1000001 gs n m) os k = pkL (ads 2000000 gs n m) os k := by
  have hl2 := ads_len 2000000 gs n m
  have hm := ads_min (c := 1000001) (C := 2000000) (by omega) (by omega) gs n m
  unfold pkL
  apply List.map_congr_left
  intro i _
  rw [hm]
  by_cases q : (nth os i).toNat < (ads 2000000 gs n m).length
  · have := inB_iff.1 (allIn_iff.1 h _ q); omega
  · rw [nth_out (by omega)]; omega
end Go.Proofs.YtfichpppjpgahaaGreatDoor
namespace Go.Proofs.YtfichpppjpgahaaGreatDoor
open Go.RowKit
set_option linter.unusedVariables false
set_option linter.unusedSimpArgs false
set_option maxRecDepth 20000

def pVal (K A B : Int) (o : List Int) : Int := if K = 0 then max (nth o A.toNat) (nth o B.toNat) else if K = 1 then max (nth o A.toNat) (nth o B.toNat) + 1 else if K = 2 then nth o A.toNat else 0
/-- The numbers of products on the ways to all wires. -/
def pds (gs : List Int) (n : Nat) : Nat → List Int
  | 0 => List.replicate n 0
  | m + 1 => pds gs n m ++ [pVal (fld 3 gs m 0) (fld 3 gs m 1) (fld 3 gs m 2) (pds gs n m)]
theorem pds_len (gs : List Int) (n : Nat) : ∀ m, (pds gs n m).length = n + m
  | 0 => by simp [pds]
  | m + 1 => by rw [pds, List.length_append, pds_len gs n m]; rfl
theorem pds_bd (gs : List Int) (n : Nat) : ∀ m i, 0 ≤ nth (pds gs n m) i ∧ nth (pds gs n m) i ≤ m
  | 0, i => by rw [pds, nth_rep]; omega
  | m + 1, i => by
    rw [pds, nth_snoc]
    have h1 := pds_bd gs n m (fld 3 gs m 1).toNat
    have h2 := pds_bd gs n m (fld 3 gs m 2).toNat
    have h3 := pds_bd gs n m i
    split
    · unfold pVal
      split
      · omega
      · split
        · omega
        · split <;> omega
    · omega
theorem pds_all (gs : List Int) (n m : Nat) : ∀ x ∈ pds gs n m, 0 ≤ x ∧ x ≤ m := by
  intro x hx
  obtain ⟨i, _, rfl⟩ := mem_nth hx
  exact pds_bd gs n m i
/-- The greatest of the outs. -/
def mst (l os : List Int) : Nat → Int
  | 0 => 0
  | j + 1 => max (mst l os j) (nth l (nth os j).toNat)
theorem mst_bd {l os : List Int} {C : Int} (hC : 0 ≤ C) (h : ∀ i, 0 ≤ nth l i ∧ nth l i ≤ C) : ∀ j, 0 ≤ mst l os j ∧ mst l os j ≤ C
  | 0 => by unfold mst; omega
  | j + 1 => by have := mst_bd hC h (os := os) j; have := h (nth os j).toNat; unfold mst; omega
def pdAll (p i0 i1 : Int) (gs : List Int) (gn : Nat) (os : List Int) : Int × Bool := if arC p i0 i1 gs gn os then (mst (pds gs (i0 + i1).toNat gn) os os.length, true) else (0, false)
end Go.Proofs.YtfichpppjpgahaaGreatDoor
namespace Go.Proofs.YtfichpppjpgahaaGreatDoor
open Go.RowKit
set_option linter.unusedVariables false
set_option linter.unusedSimpArgs false
set_option maxRecDepth 10000

theorem els_join {p : Int} {us vs : List Int} (h : elsB p us = true) (k : elsB p vs = true) : Hid (∀ x ∈ us ++ vs, 0 ≤ x ∧ x < p) := by
  unfold elsB at h k
  rw [Bool.and_eq_true] at h k
  intro x hx
  rcases List.mem_append.1 hx with q | q
  · obtain ⟨i, hi, rfl⟩ := mem_nth q
    have := inB_iff.1 (allIn_iff.1 h.2 i hi); omega
  · obtain ⟨i, hi, rfl⟩ := mem_nth q
    have := inB_iff.1 (allIn_iff.1 k.2 i hi); omega
theorem fits_appA {xs ys : List Int} (hx : ∀ x ∈ xs, Fits x) (hy : ∀ x ∈ ys, Fits x) : ∀ x ∈ xs ++ ys, Fits x := fun x h => (List.mem_append.1 h).elim (hx x) (hy x)
set_option maxHeartbeats 1000000 in
theorem s_ciJoinA (aa : Option Addr) (an ac : Nat) (us : List Int) (ba : Option Addr) (bn bc : Nat) (vs : List Int) (w : World) (ha : Ints w aa an ac us) (hb : Ints w ba bn bc vs) (hn : an + bn ≤ 1000000) :
    Calls Tryz.prog 29 #[.slice aa an ac, .slice ba bn bc] w fun e w' => ∃ r c, e = .returned (.slice r (an + bn) c) ∧ OwnI 3 w' w.heap.size r (an + bn) c (us ++ vs) ∧ Below w.heap.size w w' := by
  have hwa := ha.wf; have hwb := hb.wf
  go_enter Tryz.func29, Tryz.ntmps29
  go_wp2_with fail
  refine (s_l1Own _ _ _ us _ ha (by omega)).mono ?_; rintro e w1 ⟨r, c, rfl, hI, hb1⟩
  have hb' := hb.below hb1
  have hz := hb1.size
  go_wp2_with (at_builtin; refine wp_apps w1 w.heap.size an _ us vs _ _ _ rfl _ _ rfl rfl rfl hb' hI.own hz (by omega) ?_; intro v9 w9 hv9 hb9 hg9)
  clear hg9
  obtain ⟨r9, c9, rfl, hM⟩ := OwnI.of hv9 (by omega) (fits_appA hwa.out hwb.out)
  have HM := Lib.hid hM; clear hM hv9
  go_wp2
  go_ret
  exact ⟨_, _, rfl, HM.out, hb1.trans hb9⟩
set_option maxHeartbeats 8000000 in
theorem s_arAskedG (p : Int) (ga : Option Addr) (gn gc : Nat) (gs : List Int) (oa : Option Addr) (on oc : Nat) (os : List Int) (aa : Option Addr) (an ac : Nat) (us : List Int) (ba : Option Addr) (bn bc : Nat) (vs : List Int) (w : World) (h : Circ w ga gn gc gs oa on oc os) (ha : Ints w aa an ac us) (hb : Ints w ba bn bc vs) (hAK : arC p an bn gs gn os = true) (hua : elsB p us = true) (hub : elsB p vs = true) :
    Calls Tryz.prog 27 #[.agg #[.int .i64 p, .int .i64 an, .int .i64 bn, .slice ga gn gc, .slice oa on oc], .slice aa an ac, .slice ba bn bc] w fun e w' => e = .returned (.bool true) ∧ Below w.heap.size w w' := by
  have hlo := h.o.len.out
  have A0 := bel_alloc w (.cells #[.int .i64 p, .int .i64 an, .int .i64 bn, .slice ga gn gc, .slice oa on oc] 26)
  have g0 := B5.new (w := w) (x0 := .int .i64 p) (x1 := .int .i64 an) (x2 := .int .i64 bn) (x3 := .slice ga gn gc) (x4 := .slice oa on oc) (t := 26)
  obtain ⟨c0, c1, c2, c3, c4⟩ := g0
  have zz := A0.size
  have HH := Lib.hid (h.below A0); have HA := Lib.hid (ha.below A0); have HB := Lib.hid (hb.below A0); clear h ha hb
  obtain ⟨hS, hGG, hOO⟩ := arC_iff.1 hAK
  obtain ⟨hpp, ⟨h01, h02⟩, ⟨h11, h12⟩, hn, hon⟩ := arS_iff.1 hS
  obtain ⟨hp1, hp2⟩ := prB_lo hpp
  have HOU := arOuts (n := an + bn + gn) hAK (by omega)
  rw [hlo] at HOU hon
  have HGT : Hid (gatesA p ((an + bn : Nat) : Int) gs gn = true) := by show _ = _; rw [show ((an + bn : Nat) : Int) = (an : Int) + bn by omega]; exact hGG
  have HU := els_join hua hub
  clear hS hGG hOO hpp
  go_enter Tryz.func27, Tryz.ntmps27
  go_wp2_with fail
  refine (s_arGood _ _ _ _ _ _ gs _ _ _ os _ HH.out).mono ?_; rintro e w1 ⟨rfl, hb1⟩; rw [hAK]
  replace c0 := cell_on c0 hb1; replace c1 := cell_on c1 hb1; replace c2 := cell_on c2 hb1; replace c3 := cell_on c3 hb1; replace c4 := cell_on c4 hb1
  have ha1 := HA.out.below hb1; have hb1' := HB.out.below hb1
  go_wp2_with fail
  refine (s_fpIn _ _ _ _ us _ ha1).mono ?_; rintro e w2 ⟨rfl, rfl⟩; rw [hua]
  go_wp2_with fail
  refine (s_fpIn _ _ _ _ vs _ hb1').mono ?_; rintro e w2 ⟨rfl, rfl⟩; rw [hub]
  go_wp2
  go_ret
  exact ⟨rfl, bel_trans A0 hb1⟩
set_option maxHeartbeats 8000000 in
theorem s_EvalArithG (p : Int) (ga : Option Addr) (gn gc : Nat) (gs : List Int) (oa : Option Addr) (on oc : Nat) (os : List Int) (aa : Option Addr) (an ac : Nat) (us : List Int) (ba : Option Addr) (bn bc : Nat) (vs : List Int) (w : World) (h : Circ w ga gn gc gs oa on oc os) (ha : Ints w aa an ac us) (hb : Ints w ba bn bc vs) (hAK : arC p an bn gs gn os = true) (hua : elsB p us = true) (hub : elsB p vs = true) :
    Calls Tryz.prog 8 #[.agg #[.int .i64 p, .int .i64 an, .int .i64 bn, .slice ga gn gc, .slice oa on oc], .slice aa an ac, .slice ba bn bc] w fun e w' => ∃ r c, e = .returned (.tuple #[.slice r on c, .bool true]) ∧ Mine w' w.heap.size r on c (pkL (avs p gs (us ++ vs) gn) os on) ∧ Below w.heap.size w w' := by
  have hlo := h.o.len.out
  have A0 := bel_alloc w (.cells #[.int .i64 p, .int .i64 an, .int .i64 bn, .slice ga gn gc, .slice oa on oc] 26)
  have g0 := B5.new (w := w) (x0 := .int .i64 p) (x1 := .int .i64 an) (x2 := .int .i64 bn) (x3 := .slice ga gn gc) (x4 := .slice oa on oc) (t := 26)
  obtain ⟨c0, c1, c2, c3, c4⟩ := g0
  have zz := A0.size
  have HH := Lib.hid (h.below A0); have HA := Lib.hid (ha.below A0); have HB := Lib.hid (hb.below A0); clear h ha hb
  obtain ⟨hS, hGG, hOO⟩ := arC_iff.1 hAK
  obtain ⟨hpp, ⟨h01, h02⟩, ⟨h11, h12⟩, hn, hon⟩ := arS_iff.1 hS
  obtain ⟨hp1, hp2⟩ := prB_lo hpp
  have HOU := arOuts (n := an + bn + gn) hAK (by omega)
  rw [hlo] at HOU hon
  have HGT : Hid (gatesA p ((an + bn : Nat) : Int) gs gn = true) := by show _ = _; rw [show ((an + bn : Nat) : Int) = (an : Int) + bn by omega]; exact hGG
  have HU := els_join hua hub
  clear hS hGG hOO hpp
  go_enter Tryz.func8, Tryz.ntmps8
  go_wp2_with fail
  refine (s_arAskedG _ _ _ _ gs _ _ _ os _ _ _ us _ _ _ vs _ HH.out HA.out HB.out hAK hua hub).mono ?_; rintro e w1 ⟨rfl, hb1⟩
  replace c0 := cell_on c0 hb1; replace c1 := cell_on c1 hb1; replace c2 := cell_on c2 hb1; replace c3 := cell_on c3 hb1; replace c4 := cell_on c4 hb1
  have HH1 := Lib.hid (HH.out.below hb1); have HA1 := Lib.hid (HA.out.below hb1); have HB1 := Lib.hid (HB.out.below hb1)
  go_wp2
  go_region_held3 (fun W => W.cell? ⟨w.heap.size, 0, none⟩ = some (.int .i64 p) ∧ W.cell? ⟨w.heap.size, 1, none⟩ = some (.int .i64 an) ∧ W.cell? ⟨w.heap.size, 2, none⟩ = some (.int .i64 bn) ∧ W.cell? ⟨w.heap.size, 3, none⟩ = some (.slice ga gn gc) ∧ W.cell? ⟨w.heap.size, 4, none⟩ = some (.slice oa on oc)) (exact ⟨c0, c1, c2, c3, c4⟩) (first | (go_at_call 29; refine (s_ciJoinA _ _ _ us _ _ _ vs _ (HA1.out.below (bel_drew _)) (HB1.out.below (bel_drew _)) (by omega)).mono ?_; rintro e w2 ⟨r2, k2, rfl, m2, hb2⟩; have hb3 := bel_trans (bel_drew _) hb2; have c0 := cell_on c0 hb3; have c1 := cell_on c1 hb3; have c2 := cell_on c2 hb3; have c3 := cell_on c3 hb3; have c4 := cell_on c4 hb3) | (go_at_call 28; refine (s_arValues _ _ _ _ _ _ gs _ _ _ os _ _ _ _ _ (HH1.out.below hb3) m2.ints HGT HU ⟨hp1, hp2⟩ (by omega)).mono ?_; rintro e w4 ⟨r4, k4, rfl, m4, hb4⟩; have hb5 := bel_trans hb3 hb4; have c0 := cell_on c0 hb4; have c1 := cell_on c1 hb4; have c2 := cell_on c2 hb4; have c3 := cell_on c3 hb4; have c4 := cell_on c4 hb4) | (go_at_call 31; refine (s_ciPick _ _ _ _ _ _ _ os _ m4.ints (HH1.out.o.below hb5) (by omega) HOU).mono ?_; rintro e w6 ⟨r6, k6, rfl, m6, hb6⟩; have hb7 := bel_trans hb5 hb6; have c0 := cell_on c0 hb6; have c1 := cell_on c1 hb6; have c2 := cell_on c2 hb6; have c3 := cell_on c3 hb6; have c4 := cell_on c4 hb6))
  have zy := (bel_trans hb1 hb5).size
  have HM := Lib.hid (m6.base (B' := w.heap.size) (by omega))
  clear m6 m4 m2
  go_wp2
  go_ret2
  exact ⟨_, _, rfl, HM.out, bel_trans (bel_trans A0 hb1) hb7⟩
set_option maxHeartbeats 8000000 in
theorem i_ArithValuesG (p : Int) (ga : Option Addr) (gn gc : Nat) (gs : List Int) (oa : Option Addr) (on oc : Nat) (os : List Int) (aa : Option Addr) (an ac : Nat) (us : List Int) (ba : Option Addr) (bn bc : Nat) (vs : List Int) (w : World) (h : Circ w ga gn gc gs oa on oc os) (ha : Ints w aa an ac us) (hb : Ints w ba bn bc vs) (hAK : arC p an bn gs gn os = true) (hua : elsB p us = true) (hub : elsB p vs = true) :
    Calls Tryz.prog 5 #[.agg #[.int .i64 p, .int .i64 an, .int .i64 bn, .slice ga gn gc, .slice oa on oc], .slice aa an ac, .slice ba bn bc] w fun e w' => ∃ r c, e = .returned (.tuple #[.slice r (an + bn + gn) c, .bool true]) ∧ Mine w' w.heap.size r (an + bn + gn) c (avs p gs (us ++ vs) gn) ∧ Below w.heap.size w w' := by
  have hlo := h.o.len.out
  have A0 := bel_alloc w (.cells #[.int .i64 p, .int .i64 an, .int .i64 bn, .slice ga gn gc, .slice oa on oc] 26)
  have g0 := B5.new (w := w) (x0 := .int .i64 p) (x1 := .int .i64 an) (x2 := .int .i64 bn) (x3 := .slice ga gn gc) (x4 := .slice oa on oc) (t := 26)
  obtain ⟨c0, c1, c2, c3, c4⟩ := g0
  have zz := A0.size
  have HH := Lib.hid (h.below A0); have HA := Lib.hid (ha.below A0); have HB := Lib.hid (hb.below A0); clear h ha hb
  obtain ⟨hS, hGG, hOO⟩ := arC_iff.1 hAK
  obtain ⟨hpp, ⟨h01, h02⟩, ⟨h11, h12⟩, hn, hon⟩ := arS_iff.1 hS
  obtain ⟨hp1, hp2⟩ := prB_lo hpp
  have HOU := arOuts (n := an + bn + gn) hAK (by omega)
  rw [hlo] at HOU hon
  have HGT : Hid (gatesA p ((an + bn : Nat) : Int) gs gn = true) := by show _ = _; rw [show ((an + bn : Nat) : Int) = (an : Int) + bn by omega]; exact hGG
  have HU := els_join hua hub
  clear hS hGG hOO hpp
  go_enter Tryz.func5, Tryz.ntmps5
  go_wp2_with fail
  refine (i_IsArith _ _ _ _ _ _ gs _ _ _ os _ HH.out).mono ?_; rintro e w1 ⟨rfl, hb1⟩; rw [hAK]
  replace c0 := cell_on c0 hb1; replace c1 := cell_on c1 hb1; replace c2 := cell_on c2 hb1; replace c3 := cell_on c3 hb1; replace c4 := cell_on c4 hb1
  have ha1 := HA.out.below hb1; have hb1' := HB.out.below hb1
  go_wp2_with fail
  refine (i_areElements _ _ _ _ us _ ha1).mono ?_; rintro e w2 ⟨rfl, hb2⟩; rw [hua]
  replace c0 := cell_on c0 hb2; replace c1 := cell_on c1 hb2; replace c2 := cell_on c2 hb2; replace c3 := cell_on c3 hb2; replace c4 := cell_on c4 hb2
  go_wp2_with fail
  refine (i_areElements _ _ _ _ vs _ (hb1'.below hb2)).mono ?_; rintro e w3 ⟨rfl, hb3⟩; rw [hub]
  replace c0 := cell_on c0 hb3; replace c1 := cell_on c1 hb3; replace c2 := cell_on c2 hb3; replace c3 := cell_on c3 hb3; replace c4 := cell_on c4 hb3
  have hb0 := bel_trans (bel_trans hb1 hb2) hb3
  have HH1 := Lib.hid (HH.out.below hb0); have HA1 := Lib.hid (HA.out.below hb0); have HB1 := Lib.hid (HB.out.below hb0)
  clear ha1 hb1'
  go_wp2
  go_region_held3 (fun W => W.cell? ⟨w.heap.size, 0, none⟩ = some (.int .i64 p) ∧ W.cell? ⟨w.heap.size, 1, none⟩ = some (.int .i64 an) ∧ W.cell? ⟨w.heap.size, 2, none⟩ = some (.int .i64 bn) ∧ W.cell? ⟨w.heap.size, 3, none⟩ = some (.slice ga gn gc) ∧ W.cell? ⟨w.heap.size, 4, none⟩ = some (.slice oa on oc)) (exact ⟨c0, c1, c2, c3, c4⟩) (first | (go_at_call 26; refine (i_with _ _ _ us _ _ _ vs _ (HA1.out.below (bel_drew _)) (HB1.out.below (bel_drew _)) (by omega) (by omega)).mono ?_; rintro e w4 ⟨r4, k4, rfl, m4, hb4⟩; have hb5 := bel_trans (bel_drew _) hb4; have c0 := cell_on c0 hb5; have c1 := cell_on c1 hb5; have c2 := cell_on c2 hb5; have c3 := cell_on c3 hb5; have c4 := cell_on c4 hb5) | (go_at_call 25; refine (i_arValues _ _ _ _ _ _ gs _ _ _ os _ _ _ _ _ (HH1.out.below hb5) m4 HGT HU ⟨hp1, hp2⟩ (by omega)).mono ?_; rintro e w6 ⟨r6, k6, rfl, m6, hb6⟩; have hb7 := bel_trans hb5 hb6; have c0 := cell_on c0 hb6; have c1 := cell_on c1 hb6; have c2 := cell_on c2 hb6; have c3 := cell_on c3 hb6; have c4 := cell_on c4 hb6))
  have zy := (bel_trans hb0 hb5).size
  have HM := Lib.hid (m6.base (B' := w.heap.size) (by omega))
  clear m6 m4
  go_wp2
  go_ret2
  exact ⟨_, _, rfl, HM.out, bel_trans (bel_trans A0 hb0) hb7⟩
set_option maxHeartbeats 8000000 in
theorem i_EvalArithG (p : Int) (ga : Option Addr) (gn gc : Nat) (gs : List Int) (oa : Option Addr) (on oc : Nat) (os : List Int) (aa : Option Addr) (an ac : Nat) (us : List Int) (ba : Option Addr) (bn bc : Nat) (vs : List Int) (w : World) (h : Circ w ga gn gc gs oa on oc os) (ha : Ints w aa an ac us) (hb : Ints w ba bn bc vs) (hAK : arC p an bn gs gn os = true) (hua : elsB p us = true) (hub : elsB p vs = true) :
    Calls Tryz.prog 7 #[.agg #[.int .i64 p, .int .i64 an, .int .i64 bn, .slice ga gn gc, .slice oa on oc], .slice aa an ac, .slice ba bn bc] w fun e w' => ∃ r c, e = .returned (.tuple #[.slice r on c, .bool true]) ∧ Mine w' w.heap.size r on c (pkL (avs p gs (us ++ vs) gn) os on) ∧ Below w.heap.size w w' := by
  have hlo := h.o.len.out
  have A0 := bel_alloc w (.cells #[.int .i64 p, .int .i64 an, .int .i64 bn, .slice ga gn gc, .slice oa on oc] 26)
  have g0 := B5.new (w := w) (x0 := .int .i64 p) (x1 := .int .i64 an) (x2 := .int .i64 bn) (x3 := .slice ga gn gc) (x4 := .slice oa on oc) (t := 26)
  obtain ⟨c0, c1, c2, c3, c4⟩ := g0
  have zz := A0.size
  have HH := Lib.hid (h.below A0); have HA := Lib.hid (ha.below A0); have HB := Lib.hid (hb.below A0); clear h ha hb
  obtain ⟨hS, hGG, hOO⟩ := arC_iff.1 hAK
  obtain ⟨hpp, ⟨h01, h02⟩, ⟨h11, h12⟩, hn, hon⟩ := arS_iff.1 hS
  obtain ⟨hp1, hp2⟩ := prB_lo hpp
  have HOU := arOuts (n := an + bn + gn) hAK (by omega)
  rw [hlo] at HOU hon
  have HGT : Hid (gatesA p ((an + bn : Nat) : Int) gs gn = true) := by show _ = _; rw [show ((an + bn : Nat) : Int) = (an : Int) + bn by omega]; exact hGG
  have HU := els_join hua hub
  clear hS hGG hOO hpp
  go_enter Tryz.func7, Tryz.ntmps7
  go_wp2_with fail
  refine (i_ArithValuesG _ _ _ _ gs _ _ _ os _ _ _ us _ _ _ vs _ HH.out HA.out HB.out hAK hua hub).mono ?_; rintro e w1 ⟨r1, k1, rfl, m1, hb1⟩
  replace c0 := cell_on c0 hb1; replace c1 := cell_on c1 hb1; replace c2 := cell_on c2 hb1; replace c3 := cell_on c3 hb1; replace c4 := cell_on c4 hb1
  have HH1 := Lib.hid (HH.out.below hb1)
  go_wp2_with fail
  refine (i_at _ _ _ _ _ _ _ os _ m1.ints HH1.out.o (by omega) HOU).mono ?_; rintro e w6 ⟨r6, k6, rfl, m6, hb6⟩
  have zy := hb1.size
  have HM := Lib.hid (m6.base (B' := w.heap.size) (by omega))
  clear m6 m1
  go_wp2
  go_ret2
  exact ⟨_, _, rfl, HM.out, bel_trans (bel_trans A0 hb1) hb6⟩
end Go.Proofs.YtfichpppjpgahaaGreatDoor
