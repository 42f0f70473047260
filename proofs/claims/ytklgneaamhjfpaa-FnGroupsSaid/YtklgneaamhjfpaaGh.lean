/-
  Contracts: powers, inverses, products, orders in a group, the element of a number, both sides.
-/
import Derived.Test.YtklgneaamhjfpaaGq
namespace Go.Proofs.Ytklgneaamhjfpaa
open Go.RowKit
set_option linter.unusedVariables false
set_option linter.unusedSimpArgs false

/-- What the functions return. -/
def powIn (P Q G a n : Int) : Int × Bool := if (grB P Q G && hasB P Q a) && inB n (-1000000) 1000000 then (gpw P Q a n, true) else (0, false)
def invIn (P Q G a : Int) : Int × Bool := if grB P Q G && hasB P Q a then (gpw P Q a (-1), true) else (0, false)
def prodIn (P Q G a b : Int) : Int × Bool := if (grB P Q G && hasB P Q a) && hasB P Q b then (a * b % P, true) else (0, false)
def ordIn (P Q G a : Int) : Int × Bool := if grB P Q G && hasB P Q a then (if a = 1 then 1 else Q, true) else (0, false)
def elFor (P Q G n : Int) : Int × Bool := if grB P Q G && inB n 0 1000000000 then (gpw P Q G n, true) else (0, false)
theorem asked1 {P Q G a : Int} : (grB P Q G && (hasB P Q a && hasB P Q 1)) = (grB P Q G && hasB P Q a) := by
  cases h : grB P Q G with
  | false => rfl
  | true =>
    obtain ⟨hP, hQ, hG⟩ := grB_lo h
    rw [has_one (by omega), Bool.and_true]
theorem asked_l {P Q G a b : Int} : (grB P Q G && (hasB P Q a && hasB P Q b)) = ((grB P Q G && hasB P Q a) && hasB P Q b) := by rw [Bool.and_assoc]

set_option maxHeartbeats 2000000 in
theorem i_PowerIn (P Q G a n : Int) (w : World) (hn : Fits n) :
    Calls Try.prog 40 #[.agg #[.int .i64 P, .int .i64 Q, .int .i64 G], .int .i64 a, .int .i64 n] w fun e w' => e = .returned (.tuple #[.int .i64 (powIn P Q G a n).1, .bool (powIn P Q G a n).2]) ∧ Below w.heap.size w w' := by
  have A0 := bel_alloc w (.cells #[.int .i64 P, .int .i64 Q, .int .i64 G] 24)
  have g0 := Gx.new (w := w) (P := P) (Q := Q) (G := G) (t := 24)
  obtain ⟨k0, k1, k2⟩ := g0
  unfold powIn
  cases h1 : (grB P Q G && hasB P Q a) with
  | false =>
    go_enter Try.func40, Try.ntmps40
    go_wp2_with fail
    refine (i_inGroup _ _ _ _ _).mono ?_; rintro e ww ⟨rfl, hb1⟩; rw [h1]
    replace k0 := cell_on k0 hb1; replace k1 := cell_on k1 hb1; replace k2 := cell_on k2 hb1
    go_wp2
    go_ret2
    exact ⟨rfl, bel_trans A0 hb1⟩
  | true =>
    obtain ⟨hg, ha⟩ := Bool.and_eq_true_iff.1 h1
    obtain ⟨hP, hQ, hG⟩ := grB_lo hg; obtain ⟨a1, a2⟩ := hasB_lo ha
    cases h2 : inB n (-1000000) 1000000 with
    | false =>
      go_enter Try.func40, Try.ntmps40
      go_wp2_with fail
      refine (i_inGroup _ _ _ _ _).mono ?_; rintro e ww ⟨rfl, hb1⟩; rw [h1]
      replace k0 := cell_on k0 hb1; replace k1 := cell_on k1 hb1; replace k2 := cell_on k2 hb1
      go_wp2_with fail
      refine (i_within _ (-1000000) 1000000 _).mono ?_; rintro e ww ⟨rfl, rfl⟩; rw [h2]
      go_wp2
      go_ret2
      exact ⟨rfl, bel_trans A0 hb1⟩
    | true =>
      obtain ⟨n1, n2⟩ := inB_iff.1 h2
      go_enter Try.func40, Try.ntmps40
      go_wp2_with fail
      refine (i_inGroup _ _ _ _ _).mono ?_; rintro e ww ⟨rfl, hb1⟩; rw [h1]
      replace k0 := cell_on k0 hb1; replace k1 := cell_on k1 hb1; replace k2 := cell_on k2 hb1
      go_wp2_with fail
      refine (i_within _ (-1000000) 1000000 _).mono ?_; rintro e ww ⟨rfl, rfl⟩; rw [h2]
      go_wp2_with fail
      refine (i_gpower _ _ _ _ _ _ hP hQ (by omega) (by omega)).mono ?_; rintro e ww ⟨rfl, hb2⟩
      go_wp2
      go_ret2
      exact ⟨rfl, bel_trans (bel_trans A0 hb1) hb2⟩
set_option maxHeartbeats 2000000 in
theorem i_InverseIn (P Q G a : Int) (w : World) :
    Calls Try.prog 14 #[.agg #[.int .i64 P, .int .i64 Q, .int .i64 G], .int .i64 a] w fun e w' => e = .returned (.tuple #[.int .i64 (invIn P Q G a).1, .bool (invIn P Q G a).2]) ∧ Below w.heap.size w w' := by
  have A0 := bel_alloc w (.cells #[.int .i64 P, .int .i64 Q, .int .i64 G] 24)
  have g0 := Gx.new (w := w) (P := P) (Q := Q) (G := G) (t := 24)
  obtain ⟨k0, k1, k2⟩ := g0
  unfold invIn
  cases h1 : (grB P Q G && hasB P Q a) with
  | false =>
    go_enter Try.func14, Try.ntmps14
    go_wp2_with fail
    refine (i_inGroup _ _ _ _ _).mono ?_; rintro e ww ⟨rfl, hb1⟩; rw [h1]
    replace k0 := cell_on k0 hb1; replace k1 := cell_on k1 hb1; replace k2 := cell_on k2 hb1
    go_wp2
    go_ret2
    exact ⟨rfl, bel_trans A0 hb1⟩
  | true =>
    obtain ⟨hg, ha⟩ := Bool.and_eq_true_iff.1 h1
    obtain ⟨hP, hQ, hG⟩ := grB_lo hg; obtain ⟨a1, a2⟩ := hasB_lo ha
    go_enter Try.func14, Try.ntmps14
    go_wp2_with fail
    refine (i_inGroup _ _ _ _ _).mono ?_; rintro e ww ⟨rfl, hb1⟩; rw [h1]
    replace k0 := cell_on k0 hb1; replace k1 := cell_on k1 hb1; replace k2 := cell_on k2 hb1
    go_wp2_with fail
    refine (i_ginverse _ _ _ _ _ hP hQ (by omega)).mono ?_; rintro e ww ⟨rfl, hb2⟩
    go_wp2
    go_ret2
    exact ⟨rfl, bel_trans (bel_trans A0 hb1) hb2⟩
set_option maxHeartbeats 2000000 in
theorem i_OrderOf (P Q G a : Int) (w : World) :
    Calls Try.prog 46 #[.agg #[.int .i64 P, .int .i64 Q, .int .i64 G], .int .i64 a] w fun e w' => e = .returned (.tuple #[.int .i64 (ordIn P Q G a).1, .bool (ordIn P Q G a).2]) ∧ Below w.heap.size w w' := by
  have A0 := bel_alloc w (.cells #[.int .i64 P, .int .i64 Q, .int .i64 G] 24)
  have g0 := Gx.new (w := w) (P := P) (Q := Q) (G := G) (t := 24)
  obtain ⟨k0, k1, k2⟩ := g0
  unfold ordIn
  cases h1 : (grB P Q G && hasB P Q a) with
  | false =>
    go_enter Try.func46, Try.ntmps46
    go_wp2_with fail
    refine (i_inGroup _ _ _ _ _).mono ?_; rintro e ww ⟨rfl, hb1⟩; rw [h1]
    replace k0 := cell_on k0 hb1; replace k1 := cell_on k1 hb1; replace k2 := cell_on k2 hb1
    go_wp2
    go_ret2
    exact ⟨rfl, bel_trans A0 hb1⟩
  | true =>
    by_cases ha : a = 1
    · subst ha
      go_enter Try.func46, Try.ntmps46
      go_wp2_with fail
      refine (i_inGroup _ _ _ _ _).mono ?_; rintro e ww ⟨rfl, hb1⟩; rw [h1]
      replace k0 := cell_on k0 hb1; replace k1 := cell_on k1 hb1; replace k2 := cell_on k2 hb1
      go_wp2
      go_ret2
      exact ⟨rfl, bel_trans A0 hb1⟩
    · have hab : (a == 1) = false := by simpa using ha
      rw [if_neg ha]
      go_enter Try.func46, Try.ntmps46
      go_wp2_with fail
      refine (i_inGroup _ _ _ _ _).mono ?_; rintro e ww ⟨rfl, hb1⟩; rw [h1]
      replace k0 := cell_on k0 hb1; replace k1 := cell_on k1 hb1; replace k2 := cell_on k2 hb1
      go_wp2
      go_ret2
      exact ⟨rfl, bel_trans A0 hb1⟩
set_option maxHeartbeats 2000000 in
theorem i_ProductIn (P Q G a b : Int) (w : World) :
    Calls Try.prog 16 #[.agg #[.int .i64 P, .int .i64 Q, .int .i64 G], .int .i64 a, .int .i64 b] w fun e w' => e = .returned (.tuple #[.int .i64 (prodIn P Q G a b).1, .bool (prodIn P Q G a b).2]) ∧ Below w.heap.size w w' := by
  have A0 := bel_alloc w (.cells #[.int .i64 P, .int .i64 Q, .int .i64 G] 24)
  have g0 := Gx.new (w := w) (P := P) (Q := Q) (G := G) (t := 24)
  obtain ⟨k0, k1, k2⟩ := g0
  unfold prodIn
  cases h1 : (grB P Q G && hasB P Q a) with
  | false =>
    go_enter Try.func16, Try.ntmps16
    go_wp2_with fail
    refine (i_inGroup _ _ _ _ _).mono ?_; rintro e ww ⟨rfl, hb1⟩; rw [h1]
    replace k0 := cell_on k0 hb1; replace k1 := cell_on k1 hb1; replace k2 := cell_on k2 hb1
    go_wp2
    go_ret2
    exact ⟨rfl, bel_trans A0 hb1⟩
  | true =>
    obtain ⟨hg, ha⟩ := Bool.and_eq_true_iff.1 h1
    obtain ⟨hP, hQ, hG⟩ := grB_lo hg; obtain ⟨a1, a2⟩ := hasB_lo ha
    cases h2 : hasB P Q b with
    | false =>
      go_enter Try.func16, Try.ntmps16
      go_wp2_with fail
      refine (i_inGroup _ _ _ _ _).mono ?_; rintro e ww ⟨rfl, hb1⟩; rw [h1]
      replace k0 := cell_on k0 hb1; replace k1 := cell_on k1 hb1; replace k2 := cell_on k2 hb1
      go_wp2_with fail
      refine (i_inGroup _ _ _ _ _).mono ?_; rintro e ww ⟨rfl, hb2⟩; rw [hg, h2]
      replace k0 := cell_on k0 hb2; replace k1 := cell_on k1 hb2; replace k2 := cell_on k2 hb2
      go_wp2
      go_ret2
      exact ⟨rfl, bel_trans (bel_trans A0 hb1) hb2⟩
    | true =>
      obtain ⟨b1, b2⟩ := hasB_lo h2
      obtain ⟨m1, m2⟩ := mul_bd (a := a) (b := b) 2003 2003 (by omega) (by omega) (by omega) (by omega)
      have hP0 : ¬ P = 0 := by omega
      go_enter Try.func16, Try.ntmps16
      go_wp2_with fail
      refine (i_inGroup _ _ _ _ _).mono ?_; rintro e ww ⟨rfl, hb1⟩; rw [h1]
      replace k0 := cell_on k0 hb1; replace k1 := cell_on k1 hb1; replace k2 := cell_on k2 hb1
      go_wp2_with fail
      refine (i_inGroup _ _ _ _ _).mono ?_; rintro e ww ⟨rfl, hb2⟩; rw [hg, h2]
      replace k0 := cell_on k0 hb2; replace k1 := cell_on k1 hb2; replace k2 := cell_on k2 hb2
      go_wp2
      go_ret2
      exact ⟨rfl, bel_trans (bel_trans A0 hb1) hb2⟩
set_option maxHeartbeats 2000000 in
theorem i_ElementFor (P Q G n : Int) (w : World) (hn : Fits n) :
    Calls Try.prog 8 #[.agg #[.int .i64 P, .int .i64 Q, .int .i64 G], .int .i64 n] w fun e w' => e = .returned (.tuple #[.int .i64 (elFor P Q G n).1, .bool (elFor P Q G n).2]) ∧ Below w.heap.size w w' := by
  have A0 := bel_alloc w (.cells #[.int .i64 P, .int .i64 Q, .int .i64 G] 24)
  have g0 := Gx.new (w := w) (P := P) (Q := Q) (G := G) (t := 24)
  obtain ⟨k0, k1, k2⟩ := g0
  unfold elFor
  cases h1 : grB P Q G with
  | false =>
    go_enter Try.func8, Try.ntmps8
    go_wp2_with fail
    refine (i_IsGroup _ _ _ _).mono ?_; rintro e ww ⟨rfl, hb1⟩; rw [h1]
    go_wp2
    go_ret2
    exact ⟨rfl, bel_trans A0 hb1⟩
  | true =>
    obtain ⟨hP, hQ, hG⟩ := grB_lo h1
    cases h2 : inB n 0 1000000000 with
    | false =>
      go_enter Try.func8, Try.ntmps8
      go_wp2_with fail
      refine (i_IsGroup _ _ _ _).mono ?_; rintro e ww ⟨rfl, hb1⟩; rw [h1]
      replace k0 := cell_on k0 hb1; replace k1 := cell_on k1 hb1; replace k2 := cell_on k2 hb1
      go_wp2_with fail
      refine (i_within _ 0 1000000000 _).mono ?_; rintro e ww ⟨rfl, rfl⟩; rw [h2]
      go_wp2
      go_ret2
      exact ⟨rfl, bel_trans A0 hb1⟩
    | true =>
      obtain ⟨n1, n2⟩ := inB_iff.1 h2
      go_enter Try.func8, Try.ntmps8
      go_wp2_with fail
      refine (i_IsGroup _ _ _ _).mono ?_; rintro e ww ⟨rfl, hb1⟩; rw [h1]
      replace k0 := cell_on k0 hb1; replace k1 := cell_on k1 hb1; replace k2 := cell_on k2 hb1
      go_wp2_with fail
      refine (i_within _ 0 1000000000 _).mono ?_; rintro e ww ⟨rfl, rfl⟩; rw [h2]
      go_wp2_with fail
      refine (i_gpower _ _ _ _ _ _ hP hQ (by omega) (by omega)).mono ?_; rintro e ww ⟨rfl, hb2⟩
      go_wp2
      go_ret2
      exact ⟨rfl, bel_trans (bel_trans A0 hb1) hb2⟩
set_option maxHeartbeats 2000000 in
theorem s_PowerIn (P Q G a n : Int) (w : World) (hn : Fits n) :
    Calls Try.prog 41 #[.agg #[.int .i64 P, .int .i64 Q, .int .i64 G], .int .i64 a, .int .i64 n] w fun e w' => e = .returned (.tuple #[.int .i64 (powIn P Q G a n).1, .bool (powIn P Q G a n).2]) ∧ Below w.heap.size w w' := by
  have A0 := bel_alloc w (.cells #[.int .i64 P, .int .i64 Q, .int .i64 G] 24)
  have g0 := Gx.new (w := w) (P := P) (Q := Q) (G := G) (t := 24)
  obtain ⟨k0, k1, k2⟩ := g0
  unfold powIn
  cases h1 : (grB P Q G && hasB P Q a) with
  | false =>
    go_enter Try.func41, Try.ntmps41
    go_wp2_with fail
    refine (s_grAsked _ _ _ _ _ _).mono ?_; rintro e ww ⟨rfl, hb1⟩; rw [asked1, h1]
    replace k0 := cell_on k0 hb1; replace k1 := cell_on k1 hb1; replace k2 := cell_on k2 hb1
    go_wp2
    go_ret2
    exact ⟨rfl, bel_trans A0 hb1⟩
  | true =>
    obtain ⟨hg, ha⟩ := Bool.and_eq_true_iff.1 h1
    obtain ⟨hP, hQ, hG⟩ := grB_lo hg; obtain ⟨a1, a2⟩ := hasB_lo ha
    cases h2 : inB n (-1000000) 1000000 with
    | false =>
      go_enter Try.func41, Try.ntmps41
      go_wp2_with fail
      refine (s_grAsked _ _ _ _ _ _).mono ?_; rintro e ww ⟨rfl, hb1⟩; rw [asked1, h1]
      replace k0 := cell_on k0 hb1; replace k1 := cell_on k1 hb1; replace k2 := cell_on k2 hb1
      go_wp2_with fail
      refine (s_l1In _ (-1000000) 1000000 _).mono ?_; rintro e ww ⟨rfl, rfl⟩; rw [h2]
      go_wp2
      go_ret2
      exact ⟨rfl, bel_trans A0 hb1⟩
    | true =>
      obtain ⟨n1, n2⟩ := inB_iff.1 h2
      go_enter Try.func41, Try.ntmps41
      go_wp2_with fail
      refine (s_grAsked _ _ _ _ _ _).mono ?_; rintro e ww ⟨rfl, hb1⟩; rw [asked1, h1]
      replace k0 := cell_on k0 hb1; replace k1 := cell_on k1 hb1; replace k2 := cell_on k2 hb1
      go_wp2_with fail
      refine (s_l1In _ (-1000000) 1000000 _).mono ?_; rintro e ww ⟨rfl, rfl⟩; rw [h2]
      go_wp2_with fail
      refine (s_grTo _ _ _ _ _ _ hP hQ (by omega) (by omega)).mono ?_; rintro e ww ⟨rfl, hb2⟩
      go_wp2
      go_ret2
      exact ⟨rfl, bel_trans (bel_trans A0 hb1) hb2⟩
set_option maxHeartbeats 2000000 in
theorem s_InverseIn (P Q G a : Int) (w : World) :
    Calls Try.prog 15 #[.agg #[.int .i64 P, .int .i64 Q, .int .i64 G], .int .i64 a] w fun e w' => e = .returned (.tuple #[.int .i64 (invIn P Q G a).1, .bool (invIn P Q G a).2]) ∧ Below w.heap.size w w' := by
  have A0 := bel_alloc w (.cells #[.int .i64 P, .int .i64 Q, .int .i64 G] 24)
  have g0 := Gx.new (w := w) (P := P) (Q := Q) (G := G) (t := 24)
  obtain ⟨k0, k1, k2⟩ := g0
  unfold invIn
  cases h1 : (grB P Q G && hasB P Q a) with
  | false =>
    go_enter Try.func15, Try.ntmps15
    go_wp2_with fail
    refine (s_grAsked _ _ _ _ _ _).mono ?_; rintro e ww ⟨rfl, hb1⟩; rw [asked1, h1]
    replace k0 := cell_on k0 hb1; replace k1 := cell_on k1 hb1; replace k2 := cell_on k2 hb1
    go_wp2
    go_ret2
    exact ⟨rfl, bel_trans A0 hb1⟩
  | true =>
    obtain ⟨hg, ha⟩ := Bool.and_eq_true_iff.1 h1
    obtain ⟨hP, hQ, hG⟩ := grB_lo hg; obtain ⟨a1, a2⟩ := hasB_lo ha
    go_enter Try.func15, Try.ntmps15
    go_wp2_with fail
    refine (s_grAsked _ _ _ _ _ _).mono ?_; rintro e ww ⟨rfl, hb1⟩; rw [asked1, h1]
    replace k0 := cell_on k0 hb1; replace k1 := cell_on k1 hb1; replace k2 := cell_on k2 hb1
    go_wp2_with fail
    refine (s_grTo _ _ _ _ _ _ hP hQ (by omega) (by omega)).mono ?_; rintro e ww ⟨rfl, hb2⟩
    go_wp2
    go_ret2
    exact ⟨rfl, bel_trans (bel_trans A0 hb1) hb2⟩
set_option maxHeartbeats 2000000 in
theorem s_ProductIn (P Q G a b : Int) (w : World) :
    Calls Try.prog 47 #[.agg #[.int .i64 P, .int .i64 Q, .int .i64 G], .int .i64 a, .int .i64 b] w fun e w' => e = .returned (.tuple #[.int .i64 (prodIn P Q G a b).1, .bool (prodIn P Q G a b).2]) ∧ Below w.heap.size w w' := by
  have A0 := bel_alloc w (.cells #[.int .i64 P, .int .i64 Q, .int .i64 G] 24)
  have g0 := Gx.new (w := w) (P := P) (Q := Q) (G := G) (t := 24)
  obtain ⟨k0, k1, k2⟩ := g0
  unfold prodIn
  cases h1 : (grB P Q G && hasB P Q a) with
  | false =>
    go_enter Try.func47, Try.ntmps47
    go_wp2_with fail
    refine (s_grAsked _ _ _ _ _ _).mono ?_; rintro e ww ⟨rfl, hb1⟩; rw [asked_l, h1]
    replace k0 := cell_on k0 hb1; replace k1 := cell_on k1 hb1; replace k2 := cell_on k2 hb1
    rw [Bool.false_and]
    go_wp2
    go_ret2
    exact ⟨rfl, bel_trans A0 hb1⟩
  | true =>
    obtain ⟨hg, ha⟩ := Bool.and_eq_true_iff.1 h1
    obtain ⟨hP, hQ, hG⟩ := grB_lo hg; obtain ⟨a1, a2⟩ := hasB_lo ha
    cases h2 : hasB P Q b with
    | false =>
      go_enter Try.func47, Try.ntmps47
      go_wp2_with fail
      refine (s_grAsked _ _ _ _ _ _).mono ?_; rintro e ww ⟨rfl, hb1⟩; rw [asked_l, h1, h2]
      replace k0 := cell_on k0 hb1; replace k1 := cell_on k1 hb1; replace k2 := cell_on k2 hb1
      go_wp2
      go_ret2
      exact ⟨rfl, bel_trans A0 hb1⟩
    | true =>
      obtain ⟨b1, b2⟩ := hasB_lo h2
      obtain ⟨m1, m2⟩ := mul_bd (a := a) (b := b) 2003 2003 (by omega) (by omega) (by omega) (by omega)
      have hP0 : ¬ P = 0 := by omega
      go_enter Try.func47, Try.ntmps47
      go_wp2_with fail
      refine (s_grAsked _ _ _ _ _ _).mono ?_; rintro e ww ⟨rfl, hb1⟩; rw [asked_l, h1, h2]
      replace k0 := cell_on k0 hb1; replace k1 := cell_on k1 hb1; replace k2 := cell_on k2 hb1
      go_wp2
      go_ret2
      exact ⟨rfl, bel_trans A0 hb1⟩
set_option maxHeartbeats 2000000 in
theorem s_ElementFor (P Q G n : Int) (w : World) (hn : Fits n) :
    Calls Try.prog 9 #[.agg #[.int .i64 P, .int .i64 Q, .int .i64 G], .int .i64 n] w fun e w' => e = .returned (.tuple #[.int .i64 (elFor P Q G n).1, .bool (elFor P Q G n).2]) ∧ Below w.heap.size w w' := by
  have A0 := bel_alloc w (.cells #[.int .i64 P, .int .i64 Q, .int .i64 G] 24)
  have g0 := Gx.new (w := w) (P := P) (Q := Q) (G := G) (t := 24)
  obtain ⟨k0, k1, k2⟩ := g0
  unfold elFor
  cases h1 : grB P Q G with
  | false =>
    go_enter Try.func9, Try.ntmps9
    go_wp2_with fail
    refine (s_grGood _ _ _ _).mono ?_; rintro e ww ⟨rfl, hb1⟩; rw [h1]
    go_wp2
    go_ret2
    exact ⟨rfl, bel_trans A0 hb1⟩
  | true =>
    obtain ⟨hP, hQ, hG⟩ := grB_lo h1
    cases h2 : inB n 0 1000000000 with
    | false =>
      go_enter Try.func9, Try.ntmps9
      go_wp2_with fail
      refine (s_grGood _ _ _ _).mono ?_; rintro e ww ⟨rfl, hb1⟩; rw [h1]
      replace k0 := cell_on k0 hb1; replace k1 := cell_on k1 hb1; replace k2 := cell_on k2 hb1
      go_wp2_with fail
      refine (s_l1In _ 0 1000000000 _).mono ?_; rintro e ww ⟨rfl, rfl⟩; rw [h2]
      go_wp2
      go_ret2
      exact ⟨rfl, bel_trans A0 hb1⟩
    | true =>
      obtain ⟨n1, n2⟩ := inB_iff.1 h2
      go_enter Try.func9, Try.ntmps9
      go_wp2_with fail
      refine (s_grGood _ _ _ _).mono ?_; rintro e ww ⟨rfl, hb1⟩; rw [h1]
      replace k0 := cell_on k0 hb1; replace k1 := cell_on k1 hb1; replace k2 := cell_on k2 hb1
      go_wp2_with fail
      refine (s_l1In _ 0 1000000000 _).mono ?_; rintro e ww ⟨rfl, rfl⟩; rw [h2]
      go_wp2_with fail
      refine (s_grTo _ _ _ _ _ _ hP hQ (by omega) (by omega)).mono ?_; rintro e ww ⟨rfl, hb2⟩
      go_wp2
      go_ret2
      exact ⟨rfl, bel_trans (bel_trans A0 hb1) hb2⟩
set_option maxHeartbeats 1000000 in
theorem s_IsGroup (P Q G : Int) (w : World) :
    Calls Try.prog 43 #[.agg #[.int .i64 P, .int .i64 Q, .int .i64 G]] w fun e w' => e = .returned (.bool (grB P Q G)) ∧ Below w.heap.size w w' := by
  have A0 := bel_alloc w (.cells #[.int .i64 P, .int .i64 Q, .int .i64 G] 24)
  have g0 := Gx.new (w := w) (P := P) (Q := Q) (G := G) (t := 24)
  obtain ⟨k0, k1, k2⟩ := g0
  go_enter Try.func43, Try.ntmps43
  go_wp2_with fail
  refine (s_grGood _ _ _ _).mono ?_; rintro e ww ⟨rfl, hb1⟩
  go_wp2
  go_ret
  exact ⟨rfl, bel_trans A0 hb1⟩
end Go.Proofs.Ytklgneaamhjfpaa
