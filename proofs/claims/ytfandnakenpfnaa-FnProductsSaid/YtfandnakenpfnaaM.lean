/-
  Contracts of the functions on triples of numbers.
-/
import Derived.Test.YtfandnakenpfnaaU
import Derived.Deep.RegionHeld3
namespace Go.Proofs.Ytfandnakenpfnaa
open Go.RowKit
set_option linter.unusedVariables false
set_option linter.unusedSimpArgs false

/-- A quiet call in a region that draws, behind draws (the caller's world on the left). -/
theorem quiet_left {P : Program} {f : FuncId} {args : Array Value} {w : World} {n : Nat} {v : Value}
    (h : Calls P f args (w.drewN n) fun e w' => e = .returned v ∧ w.drewN n = w') : Calls P f args (w.drewN n) fun e w'' => e = .returned v ∧ ∃ m, w'' = w.drewN m :=
  h.mono fun _ _ ⟨he, hm⟩ => ⟨he, n, hm.symm⟩
theorem quiet_add_left {P : Program} {f : FuncId} {args : Array Value} {w : World} {a n : Nat} {v : Value}
    (h : Calls P f args (w.drewN (a + n)) fun e w' => e = .returned v ∧ w.drewN (a + n) = w') :
    Calls P f args (w.drewN (a + n)) fun e w'' => e = .returned v ∧ ∃ m, w'' = w.drewN (a + m) :=
  h.mono fun _ _ ⟨he, hm⟩ => ⟨he, n, hm.symm⟩

/-- Elements of the field, so many. -/
def lnB (p : Int) (s : List Int) (k : Nat) : Bool := elsB p s && decide (s.length = k)
theorem lnB_iff {p : Int} {s : List Int} {k : Nat} : lnB p s k = true ↔ elsB p s = true ∧ s.length = k := by
  unfold lnB; rw [Bool.and_eq_true, decide_eq_true_iff]
theorem len3 {s : List Int} (h : s.length = 3) : ∃ x0 x1 x2, s = [x0, x1, x2] := by
  match s, h with
  | [x0, x1, x2], _ => exact ⟨_, _, _, rfl⟩
theorem len2 {s : List Int} (h : s.length = 2) : ∃ x0 x1, s = [x0, x1] := by
  match s, h with
  | [x0, x1], _ => exact ⟨_, _, rfl⟩
theorem len6 {s : List Int} (h : s.length = 6) : ∃ x0 x1 x2 x3 x4 x5, s = [x0, x1, x2, x3, x4, x5] := by
  match s, h with
  | [x0, x1, x2, x3, x4, x5], _ => exact ⟨_, _, _, _, _, _, rfl⟩
/-- Three elements of a field, opened. -/
theorem ln3 {p : Int} {s : List Int} (h : lnB p s 3 = true) : ∃ x0 x1 x2, s = [x0, x1, x2] ∧ (0 ≤ x0 ∧ x0 ≤ p - 1) ∧ (0 ≤ x1 ∧ x1 ≤ p - 1) ∧ (0 ≤ x2 ∧ x2 ≤ p - 1) := by
  obtain ⟨h1, h2⟩ := lnB_iff.1 h
  obtain ⟨x0, x1, x2, rfl⟩ := len3 h2
  exact ⟨x0, x1, x2, rfl, elsB_nth h1 (i := 0) (by simp), elsB_nth h1 (i := 1) (by simp), elsB_nth h1 (i := 2) (by simp)⟩
theorem ln2 {p : Int} {s : List Int} (h : lnB p s 2 = true) : ∃ x0 x1, s = [x0, x1] ∧ (0 ≤ x0 ∧ x0 ≤ p - 1) ∧ (0 ≤ x1 ∧ x1 ≤ p - 1) := by
  obtain ⟨h1, h2⟩ := lnB_iff.1 h
  obtain ⟨x0, x1, rfl⟩ := len2 h2
  exact ⟨x0, x1, rfl, elsB_nth h1 (i := 0) (by simp), elsB_nth h1 (i := 1) (by simp)⟩
theorem ln6 {p : Int} {s : List Int} (h : lnB p s 6 = true) : ∃ x0 x1 x2 x3 x4 x5, s = [x0, x1, x2, x3, x4, x5] ∧ (0 ≤ x0 ∧ x0 ≤ p - 1) ∧ (0 ≤ x1 ∧ x1 ≤ p - 1) ∧ (0 ≤ x2 ∧ x2 ≤ p - 1) ∧ (0 ≤ x3 ∧ x3 ≤ p - 1) ∧ (0 ≤ x4 ∧ x4 ≤ p - 1) ∧ (0 ≤ x5 ∧ x5 ≤ p - 1) := by
  obtain ⟨h1, h2⟩ := lnB_iff.1 h
  obtain ⟨x0, x1, x2, x3, x4, x5, rfl⟩ := len6 h2
  exact ⟨x0, x1, x2, x3, x4, x5, rfl, elsB_nth h1 (i := 0) (by simp), elsB_nth h1 (i := 1) (by simp), elsB_nth h1 (i := 2) (by simp), elsB_nth h1 (i := 3) (by simp), elsB_nth h1 (i := 4) (by simp), elsB_nth h1 (i := 5) (by simp)⟩
theorem lnB_p {p : Int} {s : List Int} {k : Nat} (h : lnB p s k = true) : 2 ≤ p ∧ p ≤ 251 := elsB_p (lnB_iff.1 h).1

/-- The cells of short slices. -/
theorem Ints.three {w : World} {a : Option Addr} {n cap : Nat} {x0 x1 x2 : Int} (h : Ints w a n cap [x0, x1, x2]) : n = 3 ∧ ∃ b off, a = some ⟨b, off, none⟩ ∧ w.cell? ⟨b, off, none⟩ = some (.int .i64 x0) ∧ w.cell? ⟨b, off + 1, none⟩ = some (.int .i64 x1) ∧ w.cell? ⟨b, off + 2, none⟩ = some (.int .i64 x2) := by
  obtain rfl : n = 3 := by have := h.len.out; simpa using this.symm
  obtain ⟨b, off, e, _, h0⟩ := h.at (i := 0) (by omega)
  obtain ⟨b1, off1, e1, _, h1⟩ := h.at (i := 1) (by omega)
  obtain ⟨b2, off2, e2, _, h2⟩ := h.at (i := 2) (by omega)
  rw [e] at e1 e2
  simp only [Option.some.injEq, Addr.mk.injEq] at e1 e2
  obtain ⟨rfl, rfl, _⟩ := e1; obtain ⟨rfl, rfl, _⟩ := e2
  exact ⟨rfl, b, off, e, h0, h1, h2⟩
theorem Ints.two {w : World} {a : Option Addr} {n cap : Nat} {x0 x1 : Int} (h : Ints w a n cap [x0, x1]) : n = 2 ∧ ∃ b off, a = some ⟨b, off, none⟩ ∧ w.cell? ⟨b, off, none⟩ = some (.int .i64 x0) ∧ w.cell? ⟨b, off + 1, none⟩ = some (.int .i64 x1) := by
  obtain rfl : n = 2 := by have := h.len.out; simpa using this.symm
  obtain ⟨b, off, e, _, h0⟩ := h.at (i := 0) (by omega)
  obtain ⟨b1, off1, e1, _, h1⟩ := h.at (i := 1) (by omega)
  rw [e] at e1
  simp only [Option.some.injEq, Addr.mk.injEq] at e1
  obtain ⟨rfl, rfl, _⟩ := e1
  exact ⟨rfl, b, off, e, h0, h1⟩
theorem Ints.six {w : World} {a : Option Addr} {n cap : Nat} {x0 x1 x2 x3 x4 x5 : Int} (h : Ints w a n cap [x0, x1, x2, x3, x4, x5]) : n = 6 ∧ ∃ b off, a = some ⟨b, off, none⟩ ∧ w.cell? ⟨b, off, none⟩ = some (.int .i64 x0) ∧ w.cell? ⟨b, off + 1, none⟩ = some (.int .i64 x1) ∧ w.cell? ⟨b, off + 2, none⟩ = some (.int .i64 x2) ∧
    w.cell? ⟨b, off + 3, none⟩ = some (.int .i64 x3) ∧ w.cell? ⟨b, off + 4, none⟩ = some (.int .i64 x4) ∧ w.cell? ⟨b, off + 5, none⟩ = some (.int .i64 x5) := by
  obtain rfl : n = 6 := by have := h.len.out; simpa using this.symm
  obtain ⟨b, off, e, _, h0⟩ := h.at (i := 0) (by omega)
  have k : ∀ i, i < 6 → w.cell? ⟨b, off + i, none⟩ = some (.int .i64 (nth [x0, x1, x2, x3, x4, x5] i)) := fun i hi => by
    obtain ⟨b1, off1, e1, _, h1⟩ := h.at hi
    rw [e] at e1
    simp only [Option.some.injEq, Addr.mk.injEq] at e1
    obtain ⟨rfl, rfl, _⟩ := e1
    exact h1
  exact ⟨rfl, b, off, e, h0, k 1 (by omega), k 2 (by omega), k 3 (by omega), k 4 (by omega), k 5 (by omega)⟩

set_option maxHeartbeats 400000 in
theorem i_isTripleShares (p : Int) (a : Option Addr) (n cap : Nat) (xs : List Int) (w : World) (h : Ints w a n cap xs) :
    Calls Try.prog 47 #[.int .i64 p, .slice a n cap] w fun e w' => e = .returned (.bool (lnB p xs 3)) ∧ Below w.heap.size w w' := by
  have hl := h.len
  have HE : Hid (((n : Int) == 3) = decide (xs.length = 3)) := by show _ = _; rw [hl.out, Bool.eq_iff_iff]; simp; omega
  unfold lnB
  cases h1 : elsB p xs with
  | true =>
    go_enter Try.func47, Try.ntmps47
    go_wp2_with (go_at_call 57; refine (i_areElements _ _ _ _ _ _ h).mono ?_; rintro e w' ⟨rfl, hb⟩)
    go_ret
    exact ⟨by rw [← HE.out]; rfl, hb⟩
  | false =>
    go_enter Try.func47, Try.ntmps47
    go_wp2_with (go_at_call 57; refine (i_areElements _ _ _ _ _ _ h).mono ?_; rintro e w' ⟨rfl, hb⟩)
    go_ret
    exact ⟨rfl, hb⟩
set_option maxHeartbeats 400000 in
theorem i_isPair (p : Int) (a : Option Addr) (n cap : Nat) (xs : List Int) (w : World) (h : Ints w a n cap xs) :
    Calls Try.prog 68 #[.int .i64 p, .slice a n cap] w fun e w' => e = .returned (.bool (lnB p xs 2)) ∧ Below w.heap.size w w' := by
  have hl := h.len
  have HE : Hid (((n : Int) == 2) = decide (xs.length = 2)) := by show _ = _; rw [hl.out, Bool.eq_iff_iff]; simp; omega
  unfold lnB
  cases h1 : elsB p xs with
  | true =>
    go_enter Try.func68, Try.ntmps68
    go_wp2_with (go_at_call 57; refine (i_areElements _ _ _ _ _ _ h).mono ?_; rintro e w' ⟨rfl, hb⟩)
    go_ret
    exact ⟨by rw [← HE.out]; rfl, hb⟩
  | false =>
    go_enter Try.func68, Try.ntmps68
    go_wp2_with (go_at_call 57; refine (i_areElements _ _ _ _ _ _ h).mono ?_; rintro e w' ⟨rfl, hb⟩)
    go_ret
    exact ⟨rfl, hb⟩
set_option maxHeartbeats 400000 in
theorem s_trShares (p : Int) (a : Option Addr) (n cap : Nat) (xs : List Int) (w : World) (h : Ints w a n cap xs) :
    Calls Try.prog 55 #[.int .i64 p, .slice a n cap] w fun e w' => e = .returned (.bool (lnB p xs 3)) ∧ w = w' := by
  have hl := h.len
  have HE : Hid (((n : Int) == 3) = decide (xs.length = 3)) := by show _ = _; rw [hl.out, Bool.eq_iff_iff]; simp; omega
  unfold lnB
  cases h1 : elsB p xs with
  | true =>
    go_enter Try.func55, Try.ntmps55
    go_wp2_with (go_at_call 58; refine (s_fpIn _ _ _ _ _ _ h).mono ?_; rintro e w' ⟨rfl, rfl⟩)
    go_ret
    exact ⟨by rw [← HE.out]; rfl, rfl⟩
  | false =>
    go_enter Try.func55, Try.ntmps55
    go_wp2_with (go_at_call 58; refine (s_fpIn _ _ _ _ _ _ h).mono ?_; rintro e w' ⟨rfl, rfl⟩)
    go_ret
    exact ⟨rfl, rfl⟩
set_option maxHeartbeats 400000 in
theorem s_trPair (p : Int) (a : Option Addr) (n cap : Nat) (xs : List Int) (w : World) (h : Ints w a n cap xs) :
    Calls Try.prog 70 #[.int .i64 p, .slice a n cap] w fun e w' => e = .returned (.bool (lnB p xs 2)) ∧ w = w' := by
  have hl := h.len
  have HE : Hid (((n : Int) == 2) = decide (xs.length = 2)) := by show _ = _; rw [hl.out, Bool.eq_iff_iff]; simp; omega
  unfold lnB
  cases h1 : elsB p xs with
  | true =>
    go_enter Try.func70, Try.ntmps70
    go_wp2_with (go_at_call 58; refine (s_fpIn _ _ _ _ _ _ h).mono ?_; rintro e w' ⟨rfl, rfl⟩)
    go_ret
    exact ⟨by rw [← HE.out]; rfl, rfl⟩
  | false =>
    go_enter Try.func70, Try.ntmps70
    go_wp2_with (go_at_call 58; refine (s_fpIn _ _ _ _ _ _ h).mono ?_; rintro e w' ⟨rfl, rfl⟩)
    go_ret
    exact ⟨rfl, rfl⟩
set_option maxHeartbeats 400000 in
theorem i_sums (a a' : Option Addr) (n n' cap cap' : Nat) (x0 x1 x2 y0 y1 y2 : Int) (w : World) (h : Ints w a n cap [x0, x1, x2]) (h' : Ints w a' n' cap' [y0, y1, y2])
    (hx : (0 ≤ x0 ∧ x0 ≤ 250) ∧ (0 ≤ x1 ∧ x1 ≤ 250) ∧ (0 ≤ x2 ∧ x2 ≤ 250)) (hy : (0 ≤ y0 ∧ y0 ≤ 250) ∧ (0 ≤ y1 ∧ y1 ≤ 250) ∧ (0 ≤ y2 ∧ y2 ≤ 250)) :
    Calls Try.prog 53 #[.slice a n cap, .slice a' n' cap'] w fun e w' => e = .returned (.tuple #[.int .i64 (x0 + y0), .int .i64 (x1 + y1), .int .i64 (x2 + y2)]) ∧ Below w.heap.size w w' := by
  obtain ⟨rfl, b, off, rfl, c0, c1, c2⟩ := h.three
  obtain ⟨rfl, b', off', rfl, d0, d1, d2⟩ := h'.three
  obtain ⟨⟨p0, q0⟩, ⟨p1, q1⟩, ⟨p2, q2⟩⟩ := hx
  obtain ⟨⟨r0, s0⟩, ⟨r1, s1⟩, ⟨r2, s2⟩⟩ := hy
  have e0 : IntKind.i64.wrap (x0 + y0) = x0 + y0 := IntWalk.i64_in _ (by omega)
  have e1 : IntKind.i64.wrap (x1 + y1) = x1 + y1 := IntWalk.i64_in _ (by omega)
  have e2 : IntKind.i64.wrap (x2 + y2) = x2 + y2 := IntWalk.i64_in _ (by omega)
  clear h h'
  go_enter Try.func53, Try.ntmps53
  go_wp2
  go_quiet (fail)
  go_wp2
  go_ret3
  exact ⟨rfl, bel_drewN _ _⟩

/-! ### TripleFits -/