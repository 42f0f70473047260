/-
  Contracts: the share of a single gate, both sides.
-/
import Derived.Test.YtmkcanbaleecfaaC7
import Derived.BigQuiet
namespace Go.Proofs.Ytmkcanbaleecfaa
open Go.RowKit
set_option linter.unusedVariables false
set_option linter.unusedSimpArgs false
set_option maxRecDepth 10000

/-- The share of a party of a gate of another kind than And. -/
def locS (p k a b : Int) (l : List Int) : Int := if k = 0 then xr (nth l a.toNat) (nth l b.toNat) else if k = 2 then xr (nth l a.toNat) (1 - p) else 1 - p
/-- The share of a party of a gate And. -/
def andS (p s0 s1 s2 d e : Int) : Int := if p = 0 then xr (xr (xr s2 (d * s1)) (e * s0)) (d * e) else xr (xr s2 (d * s1)) (e * s0)
def bitsL0 (l : List Int) (n : Nat) : Prop := ∀ i, i < n → 0 ≤ nth l i ∧ nth l i ≤ 1
theorem mul_bit {a b : Int} (ha : 0 ≤ a ∧ a ≤ 1) (hb : 0 ≤ b ∧ b ≤ 1) : 0 ≤ a * b ∧ a * b ≤ 1 := by
  rcases (show a = 0 ∨ a = 1 by omega) with rfl | rfl <;> omega
theorem an_eq {a b : Int} (ha : 0 ≤ a ∧ a ≤ 1) (hb : 0 ≤ b ∧ b ≤ 1) : bits .and .i64 a b = a * b := by
  rcases (show a = 0 ∨ a = 1 by omega) with rfl | rfl <;> rcases (show b = 0 ∨ b = 1 by omega) with rfl | rfl <;> decide
theorem locS_bd {p k a b : Int} {l : List Int} (hp : p = 0 ∨ p = 1) : 0 ≤ locS p k a b l ∧ locS p k a b l ≤ 1 := by
  unfold locS
  split
  · exact xr_bd _ _
  · split
    · exact xr_bd _ _
    · omega
theorem andS_bd {p s0 s1 s2 d e : Int} : 0 ≤ andS p s0 s1 s2 d e ∧ andS p s0 s1 s2 d e ≤ 1 := by
  unfold andS
  split <;> exact xr_bd _ _
theorem Ints.wire {w : World} {v : Option Addr} {n cap : Nat} {l : List Int} (h : Ints w v n cap l) {a : Int} (ha : inB a 0 ((n : Int) - 1) = true) : ∃ q : Nat, a = q ∧ q < n ∧ ∃ b off, v = some ⟨b, off, none⟩ ∧ b < w.heap.size ∧ w.cell? ⟨b, off + q, none⟩ = some (.int .i64 (nth l q)) := by
  obtain ⟨h0, h1⟩ := inB_iff.1 ha
  refine ⟨a.toNat, by omega, by omega, ?_⟩
  exact h.at (by omega)
theorem Ints.wires {w : World} {v : Option Addr} {n cap : Nat} {l : List Int} (h : Ints w v n cap l) {a a' : Int} (ha : inB a 0 ((n : Int) - 1) = true) (ha' : inB a' 0 ((n : Int) - 1) = true) :
    ∃ q q' : Nat, a = q ∧ a' = q' ∧ q < n ∧ q' < n ∧ ∃ b off, v = some ⟨b, off, none⟩ ∧ b < w.heap.size ∧ w.cell? ⟨b, off + q, none⟩ = some (.int .i64 (nth l q)) ∧ w.cell? ⟨b, off + q', none⟩ = some (.int .i64 (nth l q')) := by
  obtain ⟨q, e, hq, b, off, ev, hb, hc⟩ := h.wire ha
  obtain ⟨q', e', hq', b', off', ev', hb', hc'⟩ := h.wire ha'
  rw [ev] at ev'
  simp only [Option.some.injEq, Addr.mk.injEq] at ev'
  obtain ⟨rfl, rfl, _⟩ := ev'
  exact ⟨q, q', e, e', hq, hq', b, off, ev, hb, hc, hc'⟩
set_option maxHeartbeats 4000000 in
theorem s_sbLocal (p k a b : Int) (v : Option Addr) (n cap : Nat) (l : List Int) (w : World) (h : Ints w v n cap l) (hp : 0 ≤ p ∧ p ≤ 1) (hg : gateB k a b n = true) (hk : k ≠ 1) (hx : Hid (bitsL0 l n)) :
    Calls Try.prog 70 #[.int .i64 p, .agg #[.int .i64 k, .int .i64 a, .int .i64 b], .slice v n cap] w fun e w' => e = .returned (.int .i64 (locS p k a b l)) ∧ Below w.heap.size w w' := by
  obtain ⟨hp1, hp2⟩ := hp
  have e1 : IntKind.i64.wrap (1 - p) = 1 - p := IntWalk.i64_in _ (by omega)
  have A0 := bel_alloc w (.cells #[.int .i64 k, .int .i64 a, .int .i64 b] 83)
  have g0 := B3.new (w := w) (x0 := .int .i64 k) (x1 := .int .i64 a) (x2 := .int .i64 b) (t := 83)
  obtain ⟨c0, c1, c2⟩ := g0
  by_cases h0 : k = 0
  · subst h0
    rw [gateB_01 (Or.inl rfl)] at hg
    obtain ⟨ga, gb⟩ := Bool.and_eq_true_iff.1 hg
    obtain ⟨q, q', rfl, rfl, hq, hq', bb, off, rfl, hbb, hc, hc'⟩ := h.wires ga gb
    have HR : Hid (locS p 0 q q' l = xr (nth l q) (nth l q')) := by show locS _ _ _ _ _ = _; unfold locS; rw [if_pos rfl]; simp
    have hxe := xr_eq (hx.out q hq) (hx.out q' hq')
    have hqi : (q : Int) < (n : Int) := by omega
    have hqi' : (q' : Int) < (n : Int) := by omega
    replace hc := cell_on hc A0; replace hc' := cell_on hc' A0
    clear hg ga gb h hk
    go_enter Try.func70, Try.ntmps70
    go_wp2_with fail
    go_quiet (fail)
    go_wp2
    go_ret
    rw [HR.out]
    exact ⟨by first | rfl | rw [hxe] | simp [hxe], by (repeat (first | exact Below.refl _ _ | assumption | refine bel_trans ?_ (bel_alloc _ _) | refine bel_set ?_ (by first | (dsimp only; omega) | (simp; omega) | simp) _ | refine bel_trans ?_ (bel_drewN _ _) | refine bel_trans ?_ (bel_drew _) | refine bel_trans ?_ (by assumption)))⟩
  · by_cases h2 : k = 2
    · subst h2
      rw [gateB_2] at hg
      obtain ⟨ga, gb⟩ := Bool.and_eq_true_iff.1 hg
      obtain ⟨q, rfl, hq, bb, off, rfl, hbb, hc⟩ := h.wire ga
      have HR : Hid (locS p 2 q b l = xr (nth l q) (1 - p)) := by show locS _ _ _ _ _ = _; unfold locS; rw [if_neg (by omega), if_pos rfl]; simp
      have hxe := xr_eq (hx.out q hq) (show 0 ≤ 1 - p ∧ 1 - p ≤ 1 by omega)
      have hqi : (q : Int) < (n : Int) := by omega
      replace hc := cell_on hc A0
      clear hg ga gb h hk h0
      go_enter Try.func70, Try.ntmps70
      go_wp2
      go_ret
      rw [HR.out]
      exact ⟨by first | rfl | rw [hxe] | simp [hxe], by (repeat (first | exact Below.refl _ _ | assumption | refine bel_trans ?_ (bel_alloc _ _) | refine bel_set ?_ (by first | (dsimp only; omega) | (simp; omega) | simp) _ | refine bel_trans ?_ (bel_drewN _ _) | refine bel_trans ?_ (bel_drew _) | refine bel_trans ?_ (by assumption)))⟩
    · have HR : Hid (locS p k a b l = 1 - p) := by show locS _ _ _ _ _ = _; unfold locS; rw [if_neg h0, if_neg h2]
      have h0b : (k == 0) = false := by simpa using h0
      have h2b : (k == 2) = false := by simpa using h2
      clear hg h
      go_enter Try.func70, Try.ntmps70
      go_wp2
      go_ret
      rw [HR.out]
      exact ⟨by first | rfl | rw [e1] | simp [e1], by (repeat (first | exact Below.refl _ _ | assumption | refine bel_trans ?_ (bel_alloc _ _) | refine bel_set ?_ (by first | (dsimp only; omega) | (simp; omega) | simp) _ | refine bel_trans ?_ (bel_drewN _ _) | refine bel_trans ?_ (bel_drew _) | refine bel_trans ?_ (by assumption)))⟩
set_option maxHeartbeats 4000000 in
theorem i_shareOf (p k a b : Int) (v : Option Addr) (n cap : Nat) (l : List Int) (w : World) (h : Ints w v n cap l) (hp : 0 ≤ p ∧ p ≤ 1) (hg : gateB k a b n = true) (hk : k ≠ 1) (hx : Hid (bitsL0 l n)) :
    Calls Try.prog 78 #[.agg #[.int .i64 k, .int .i64 a, .int .i64 b], .int .i64 p, .slice v n cap] w fun e w' => e = .returned (.int .i64 (locS p k a b l)) ∧ Below w.heap.size w w' := by
  obtain ⟨hp1, hp2⟩ := hp
  have e1 : IntKind.i64.wrap (1 - p) = 1 - p := IntWalk.i64_in _ (by omega)
  have A0 := bel_alloc w (.cells #[.int .i64 k, .int .i64 a, .int .i64 b] 83)
  have g0 := B3.new (w := w) (x0 := .int .i64 k) (x1 := .int .i64 a) (x2 := .int .i64 b) (t := 83)
  obtain ⟨c0, c1, c2⟩ := g0
  by_cases h0 : k = 0
  · subst h0
    rw [gateB_01 (Or.inl rfl)] at hg
    obtain ⟨ga, gb⟩ := Bool.and_eq_true_iff.1 hg
    obtain ⟨q, q', rfl, rfl, hq, hq', bb, off, rfl, hbb, hc, hc'⟩ := h.wires ga gb
    have HR : Hid (locS p 0 q q' l = xr (nth l q) (nth l q')) := by show locS _ _ _ _ _ = _; unfold locS; rw [if_pos rfl]; simp
    have hxe := xr_eq (hx.out q hq) (hx.out q' hq')
    have hqi : (q : Int) < (n : Int) := by omega
    have hqi' : (q' : Int) < (n : Int) := by omega
    replace hc := cell_on hc A0; replace hc' := cell_on hc' A0
    clear hg ga gb h hk
    go_enter Try.func78, Try.ntmps78
    go_wp2_with fail
    go_quiet (fail)
    go_wp2
    go_ret
    rw [HR.out]
    exact ⟨by first | rfl | rw [hxe] | simp [hxe], by (repeat (first | exact Below.refl _ _ | assumption | refine bel_trans ?_ (bel_alloc _ _) | refine bel_set ?_ (by first | (dsimp only; omega) | (simp; omega) | simp) _ | refine bel_trans ?_ (bel_drewN _ _) | refine bel_trans ?_ (bel_drew _) | refine bel_trans ?_ (by assumption)))⟩
  · by_cases h2 : k = 2
    · subst h2
      rw [gateB_2] at hg
      obtain ⟨ga, gb⟩ := Bool.and_eq_true_iff.1 hg
      obtain ⟨q, rfl, hq, bb, off, rfl, hbb, hc⟩ := h.wire ga
      have HR : Hid (locS p 2 q b l = xr (nth l q) (1 - p)) := by show locS _ _ _ _ _ = _; unfold locS; rw [if_neg (by omega), if_pos rfl]; simp
      have hxe := xr_eq (hx.out q hq) (show 0 ≤ 1 - p ∧ 1 - p ≤ 1 by omega)
      have hqi : (q : Int) < (n : Int) := by omega
      replace hc := cell_on hc A0
      clear hg ga gb h hk h0
      go_enter Try.func78, Try.ntmps78
      go_wp2
      go_ret
      rw [HR.out]
      exact ⟨by first | rfl | rw [hxe] | simp [hxe], by (repeat (first | exact Below.refl _ _ | assumption | refine bel_trans ?_ (bel_alloc _ _) | refine bel_set ?_ (by first | (dsimp only; omega) | (simp; omega) | simp) _ | refine bel_trans ?_ (bel_drewN _ _) | refine bel_trans ?_ (bel_drew _) | refine bel_trans ?_ (by assumption)))⟩
    · have HR : Hid (locS p k a b l = 1 - p) := by show locS _ _ _ _ _ = _; unfold locS; rw [if_neg h0, if_neg h2]
      have h0b : (k == 0) = false := by simpa using h0
      have h2b : (k == 2) = false := by simpa using h2
      clear hg h
      go_enter Try.func78, Try.ntmps78
      go_wp2
      go_ret
      rw [HR.out]
      exact ⟨by first | rfl | rw [e1] | simp [e1], by (repeat (first | exact Below.refl _ _ | assumption | refine bel_trans ?_ (bel_alloc _ _) | refine bel_set ?_ (by first | (dsimp only; omega) | (simp; omega) | simp) _ | refine bel_trans ?_ (bel_drewN _ _) | refine bel_trans ?_ (bel_drew _) | refine bel_trans ?_ (by assumption)))⟩
set_option maxHeartbeats 4000000 in
theorem s_sbAnd (p : Int) (v : Option Addr) (cap : Nat) (s0 s1 s2 d e : Int) (w : World) (h : Ints w v 3 cap [s0, s1, s2]) (hp : p = 0 ∨ p = 1) (h0 : 0 ≤ s0 ∧ s0 ≤ 1) (h1 : 0 ≤ s1 ∧ s1 ≤ 1) (h2 : 0 ≤ s2 ∧ s2 ≤ 1) (hd : 0 ≤ d ∧ d ≤ 1) (he : 0 ≤ e ∧ e ≤ 1) :
    Calls Try.prog 72 #[.int .i64 p, .slice v 3 cap, .int .i64 d, .int .i64 e] w fun e' w' => e' = .returned (.int .i64 (andS p s0 s1 s2 d e)) ∧ Below w.heap.size w w' := by
  obtain ⟨_, bb, off, rfl, c0, c1, c2⟩ := h.three
  have x1 := an_eq hd h1; have x2 := an_eq he h0; have x3 := an_eq hd he
  have x4 := xr_eq h2 (mul_bit hd h1)
  have x5 := xr_eq (xr_bd s2 (d * s1)) (mul_bit he h0)
  have x6 := xr_eq (xr_bd (xr s2 (d * s1)) (e * s0)) (mul_bit hd he)
  have x7 := an_eq (mul_bit hd he) (show (0 : Int) ≤ 1 ∧ (1 : Int) ≤ 1 by omega)
  have x8 := an_eq (mul_bit hd he) (show (0 : Int) ≤ 0 ∧ (0 : Int) ≤ 1 by omega)
  have x9 := xr_eq (xr_bd (xr s2 (d * s1)) (e * s0)) (show (0 : Int) ≤ 0 ∧ (0 : Int) ≤ 1 by omega)
  have xz : xr (xr (xr s2 (d * s1)) (e * s0)) 0 = xr (xr s2 (d * s1)) (e * s0) := by have := xr_bd (xr s2 (d * s1)) (e * s0); generalize xr (xr s2 (d * s1)) (e * s0) = z at *; unfold xr; omega
  rw [Int.mul_one] at x7; rw [Int.mul_zero] at x8
  have HX := Lib.hid (And.intro x1 (And.intro x2 (And.intro x3 (And.intro x4 (And.intro x5 (And.intro x6 (And.intro x7 (And.intro x8 (And.intro x9 xz)))))))))
  clear x1 x2 x3 x4 x5 x6 x7 x8 x9 xz h
  rcases hp with rfl | rfl
  · have HR : Hid (andS 0 s0 s1 s2 d e = xr (xr (xr s2 (d * s1)) (e * s0)) (d * e)) := by show andS _ _ _ _ _ _ = _; unfold andS; rw [if_pos rfl]
    go_enter Try.func72, Try.ntmps72
    go_wp2_with fail
    go_quiet (fail)
    go_wp2
    go_ret
    obtain ⟨x1, x2, x3, x4, x5, x6, x7, x8, x9, xz⟩ := HX.out
    rw [HR.out]
    exact ⟨by simp only [x1, x2, x3, x4, x5, x6, x7, x8, x9, xz]; try rfl, by (repeat (first | exact Below.refl _ _ | assumption | refine bel_trans ?_ (bel_alloc _ _) | refine bel_set ?_ (by first | (dsimp only; omega) | (simp; omega) | simp) _ | refine bel_trans ?_ (bel_drewN _ _) | refine bel_trans ?_ (bel_drew _) | refine bel_trans ?_ (by assumption)))⟩
  · have HR : Hid (andS 1 s0 s1 s2 d e = xr (xr s2 (d * s1)) (e * s0)) := by show andS _ _ _ _ _ _ = _; unfold andS; rw [if_neg (by omega)]
    go_enter Try.func72, Try.ntmps72
    go_wp2_with fail
    go_quiet (fail)
    go_wp2
    go_ret
    obtain ⟨x1, x2, x3, x4, x5, x6, x7, x8, x9, xz⟩ := HX.out
    rw [HR.out]
    exact ⟨by simp only [x1, x2, x3, x4, x5, x6, x7, x8, x9, xz]; try rfl, by (repeat (first | exact Below.refl _ _ | assumption | refine bel_trans ?_ (bel_alloc _ _) | refine bel_set ?_ (by first | (dsimp only; omega) | (simp; omega) | simp) _ | refine bel_trans ?_ (bel_drewN _ _) | refine bel_trans ?_ (bel_drew _) | refine bel_trans ?_ (by assumption)))⟩
set_option maxHeartbeats 4000000 in
theorem i_andShare (p : Int) (v : Option Addr) (cap : Nat) (s0 s1 s2 d e : Int) (w : World) (h : Ints w v 3 cap [s0, s1, s2]) (hp : p = 0 ∨ p = 1) (h0 : 0 ≤ s0 ∧ s0 ≤ 1) (h1 : 0 ≤ s1 ∧ s1 ≤ 1) (h2 : 0 ≤ s2 ∧ s2 ≤ 1) (hd : 0 ≤ d ∧ d ≤ 1) (he : 0 ≤ e ∧ e ≤ 1) :
    Calls Try.prog 80 #[.int .i64 p, .slice v 3 cap, .int .i64 d, .int .i64 e] w fun e' w' => e' = .returned (.int .i64 (andS p s0 s1 s2 d e)) ∧ Below w.heap.size w w' := by
  obtain ⟨_, bb, off, rfl, c0, c1, c2⟩ := h.three
  have x1 := an_eq hd h1; have x2 := an_eq he h0; have x3 := an_eq hd he
  have x4 := xr_eq h2 (mul_bit hd h1)
  have x5 := xr_eq (xr_bd s2 (d * s1)) (mul_bit he h0)
  have x6 := xr_eq (xr_bd (xr s2 (d * s1)) (e * s0)) (mul_bit hd he)
  have x7 := an_eq (mul_bit hd he) (show (0 : Int) ≤ 1 ∧ (1 : Int) ≤ 1 by omega)
  have x8 := an_eq (mul_bit hd he) (show (0 : Int) ≤ 0 ∧ (0 : Int) ≤ 1 by omega)
  have x9 := xr_eq (xr_bd (xr s2 (d * s1)) (e * s0)) (show (0 : Int) ≤ 0 ∧ (0 : Int) ≤ 1 by omega)
  have xz : xr (xr (xr s2 (d * s1)) (e * s0)) 0 = xr (xr s2 (d * s1)) (e * s0) := by have := xr_bd (xr s2 (d * s1)) (e * s0); generalize xr (xr s2 (d * s1)) (e * s0) = z at *; unfold xr; omega
  rw [Int.mul_one] at x7; rw [Int.mul_zero] at x8
  have HX := Lib.hid (And.intro x1 (And.intro x2 (And.intro x3 (And.intro x4 (And.intro x5 (And.intro x6 (And.intro x7 (And.intro x8 (And.intro x9 xz)))))))))
  clear x1 x2 x3 x4 x5 x6 x7 x8 x9 xz h
  rcases hp with rfl | rfl
  · have HR : Hid (andS 0 s0 s1 s2 d e = xr (xr (xr s2 (d * s1)) (e * s0)) (d * e)) := by show andS _ _ _ _ _ _ = _; unfold andS; rw [if_pos rfl]
    go_enter Try.func80, Try.ntmps80
    go_wp2_with fail
    go_quiet (fail)
    go_wp2
    go_ret
    obtain ⟨x1, x2, x3, x4, x5, x6, x7, x8, x9, xz⟩ := HX.out
    rw [HR.out]
    exact ⟨by simp only [x1, x2, x3, x4, x5, x6, x7, x8, x9, xz]; try rfl, by (repeat (first | exact Below.refl _ _ | assumption | refine bel_trans ?_ (bel_alloc _ _) | refine bel_set ?_ (by first | (dsimp only; omega) | (simp; omega) | simp) _ | refine bel_trans ?_ (bel_drewN _ _) | refine bel_trans ?_ (bel_drew _) | refine bel_trans ?_ (by assumption)))⟩
  · have HR : Hid (andS 1 s0 s1 s2 d e = xr (xr s2 (d * s1)) (e * s0)) := by show andS _ _ _ _ _ _ = _; unfold andS; rw [if_neg (by omega)]
    go_enter Try.func80, Try.ntmps80
    go_wp2_with fail
    go_quiet (fail)
    go_wp2
    go_ret
    obtain ⟨x1, x2, x3, x4, x5, x6, x7, x8, x9, xz⟩ := HX.out
    rw [HR.out]
    exact ⟨by simp only [x1, x2, x3, x4, x5, x6, x7, x8, x9, xz]; try rfl, by (repeat (first | exact Below.refl _ _ | assumption | refine bel_trans ?_ (bel_alloc _ _) | refine bel_set ?_ (by first | (dsimp only; omega) | (simp; omega) | simp) _ | refine bel_trans ?_ (bel_drewN _ _) | refine bel_trans ?_ (bel_drew _) | refine bel_trans ?_ (by assumption)))⟩
end Go.Proofs.Ytmkcanbaleecfaa
