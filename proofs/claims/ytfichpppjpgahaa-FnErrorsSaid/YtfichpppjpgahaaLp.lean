/-
  Values of polynomials: EvalPoly and InterpolateAt.
-/
import Derived.Test.YtfichpppjpgahaaLo
namespace Go.Proofs.Ytfichpppjpgahaa
open Go.RowKit
set_option linter.unusedVariables false
set_option linter.unusedSimpArgs false
set_option maxRecDepth 20000

theorem elsB_one {p x : Int} : elsB p [x] = elB p x := by rw [elsB_cons, elsB_nil, elB_and]
set_option maxHeartbeats 2000000 in
theorem s_EvalPoly (p x : Int) (a : Option Addr) (n cap : Nat) (l : List Int) (w : World) (h : Ints w a n cap l) (hxf : Fits x) :
    Calls Try.prog 19 #[.int .i64 p, .slice a n cap, .int .i64 x] w fun e w' => e = .returned (.tuple #[.int .i64 (evalPoly p l x).1, .bool (evalPoly p l x).2]) ∧ Below w.heap.size w w' := by
  unfold evalPoly
  have hlx := h.len.out
  rw [hlx]
  have hA := bel_alloc w (.cells #[.int .i64 x] 3)
  have HX := Lib.hid (h.below hA); clear hlx h
  have HL1 := Lib.hid (s_fpIn p _ _ _ [x] _ (Ints.lit1 (w := w) (m := w.heap.size) (t := 3) (a := x) rfl hxf))
  rw [elsB_one] at HL1
  have HL2 := Lib.hid (s_l1All a n cap l 0 (p - 1) _ HX.out)
  cases h1 : elB p x with
  | false =>
    rw [h1] at HL1
    go_enter Try.func19, Try.ntmps19
    go_wp2_with (go_at_call 69; refine HL1.out.mono ?_; rintro e w1 ⟨rfl, rfl⟩)
    go_ret2
    exact ⟨rfl, hA⟩
  | true =>
    rw [h1] at HL1
    obtain ⟨hpr, hx1, hx2⟩ := elB_iff.1 h1
    have hp := prB_lo hpr
    have hE : elsB p l = allIn l 0 (p - 1) := by unfold elsB; rw [hpr, Bool.true_and]
    cases h2 : elsB p l with
    | false =>
      rw [← hE, h2] at HL2
      clear hE
      go_enter Try.func19, Try.ntmps19
      go_wp2_with (first | (go_at_call 69; refine HL1.out.mono ?_; rintro e w1 ⟨rfl, rfl⟩) | (go_at_call 70; refine HL2.out.mono ?_; rintro e w1 ⟨rfl, rfl⟩))
      go_ret2
      exact ⟨rfl, hA⟩
    | true =>
      rw [← hE, h2] at HL2
      clear hE
      obtain ⟨hpp, hxx, hll⟩ := evB_nth h1 h2
      have hlen := HX.out.len.out
      rw [hlen] at hll
      have HLL := Lib.hid hll; clear hll hlen
      by_cases h12 : n ≤ 12
      · rw [decide_eq_true h12]
        have h12i : ¬ (12 : Int) < (n : Int) := by omega
        have HE := Lib.hid (s_fpEval p x a n cap l _ HX.out hpp (by omega) (fun i hi => by have := HLL.out i hi; omega) (by omega))
        go_enter Try.func19, Try.ntmps19
        go_wp2_with (first | (go_at_call 69; refine HL1.out.mono ?_; rintro e w1 ⟨rfl, rfl⟩) | (go_at_call 70; refine HL2.out.mono ?_; rintro e w1 ⟨rfl, rfl⟩) | (go_at_call 71; refine HE.out.mono ?_; rintro e w2 ⟨rfl, hb2⟩))
        go_ret2
        exact ⟨rfl, bel_trans hA hb2⟩
      · rw [decide_eq_false h12]
        have h12i : (12 : Int) < (n : Int) := by omega
        go_enter Try.func19, Try.ntmps19
        go_wp2_with (first | (go_at_call 69; refine HL1.out.mono ?_; rintro e w1 ⟨rfl, rfl⟩) | (go_at_call 70; refine HL2.out.mono ?_; rintro e w1 ⟨rfl, rfl⟩))
        go_ret2
        exact ⟨rfl, hA⟩
def interpolateAt (p : Int) (xs ys : List Int) (x : Int) : Int × Bool := if ptsB p xs ys && inB x 0 (p - 1) then (atS p xs ys x xs.length xs.length, true) else (0, false)
set_option maxHeartbeats 2000000 in
theorem i_InterpolateAt (p x : Int) (a : Option Addr) (n cap : Nat) (xs : List Int) (a' : Option Addr) (n' cap' : Nat) (ys : List Int) (w : World) (h : Ints w a n cap xs) (h' : Ints w a' n' cap' ys) :
    Calls Try.prog 12 #[.int .i64 p, .slice a n cap, .slice a' n' cap', .int .i64 x] w fun e w' => e = .returned (.tuple #[.int .i64 (interpolateAt p xs ys x).1, .bool (interpolateAt p xs ys x).2]) ∧ Below w.heap.size w w' := by
  unfold interpolateAt
  have hlx := h.len.out; have hly := h'.len.out
  rw [hlx]
  have HX := Lib.hid h; have HY := Lib.hid h'
  cases hP : ptsB p xs ys with
  | false =>
    go_enter Try.func12, Try.ntmps12
    go_wp2_with (go_at_call 47; refine (i_arePoints p a a' n cap n' cap' xs ys _ h h').mono ?_; rintro e w1 ⟨rfl, hb1⟩; rw [hP])
    go_ret2
    exact ⟨rfl, hb1⟩
  | true =>
    obtain ⟨hpr, hPt, h12⟩ := ptsB_iff.1 hP
    obtain ⟨hp1, hp2⟩ := prB_lo hpr
    rw [hlx] at hPt h12
    obtain rfl : n' = n := by rw [← hly]; exact hPt.ly
    have hx : Hid (∀ i, i < n' → 0 ≤ nth xs i ∧ nth xs i ≤ p - 1) := fun i hi => by have := hPt.rx.at (i := i) (by rw [hPt.lx]; exact hi); omega
    have hy : Hid (∀ i, i < n' → 0 ≤ nth ys i ∧ nth ys i ≤ p - 1) := fun i hi => by have := hPt.ry.at (i := i) (by rw [hPt.ly]; exact hi); omega
    have HPL : Hid ((polyI p xs ys n' n').length = n') := polyI_len _ _ _ _ _ (Nat.le_refl _)
    have HRS := Lib.hid (polyI_res hp1 xs ys n' n' (Nat.le_refl _))
    have HAE := Lib.hid (at_eq hp1 xs ys x n')
    have hE : elB p x = inB x 0 (p - 1) := by unfold elB; rw [hpr, Bool.true_and]
    clear hlx hly h h' hPt
    cases hI : inB x 0 (p - 1) with
    | false =>
      rw [hI] at hE
      go_enter Try.func12, Try.ntmps12
      go_wp2_with (first | (go_at_call 47; refine (i_arePoints p a a' n' cap n' cap' xs ys _ HX.out HY.out).mono ?_; rintro e w1 ⟨rfl, hb1⟩; rw [hP]) | (go_at_call 53; refine (i_isElement _ _ _).mono ?_; rintro e w2 ⟨rfl, rfl⟩; rw [hE]))
      go_ret2
      exact ⟨rfl, hb1⟩
    | true =>
      rw [hI] at hE
      obtain ⟨hx1, hx2⟩ := inB_iff.1 hI
      go_enter Try.func12, Try.ntmps12
      go_wp2_with (first | (go_at_call 47; refine (i_arePoints p a a' n' cap n' cap' xs ys _ HX.out HY.out).mono ?_; rintro e w1 ⟨rfl, hb1⟩; rw [hP]) | (go_at_call 53; refine (i_isElement _ _ _).mono ?_; rintro e w2 ⟨rfl, rfl⟩; rw [hE]) | (go_at_call 48; refine (i_polyThrough p a n' cap xs a' cap' ys _ (HX.out.below hb1) (HY.out.below hb1) ⟨hp1, hp2⟩ hx hy (by omega)).mono ?_; rintro e w2 ⟨r, c, rfl, ho, hb2⟩) | (go_at_call 55; refine (i_evalPoly p x r n' c _ _ ho.ints ⟨hp1, hp2⟩ (by omega) (fun i hi => by have := HRS.out.at (i := i) (by rw [HPL.out]; exact hi); omega) (by omega)).mono ?_; rintro e w3 ⟨rfl, hb3⟩; rw [HAE.out]))
      go_ret2
      exact ⟨rfl, bel_trans (bel_trans hb1 hb2) hb3⟩
set_option maxHeartbeats 2000000 in
theorem s_InterpolateAt (p x : Int) (a : Option Addr) (n cap : Nat) (xs : List Int) (a' : Option Addr) (n' cap' : Nat) (ys : List Int) (w : World) (h : Ints w a n cap xs) (h' : Ints w a' n' cap' ys) (hn : n ≤ 1000) :
    Calls Try.prog 14 #[.int .i64 p, .slice a n cap, .slice a' n' cap', .int .i64 x] w fun e w' => e = .returned (.tuple #[.int .i64 (interpolateAt p xs ys x).1, .bool (interpolateAt p xs ys x).2]) ∧ Below w.heap.size w w' := by
  unfold interpolateAt
  have hlx := h.len.out; have hly := h'.len.out
  rw [hlx]
  have HX := Lib.hid h; have HY := Lib.hid h'
  cases hP : ptsB p xs ys with
  | false =>
    go_enter Try.func14, Try.ntmps14
    go_wp2_with (go_at_call 49; refine (s_fpPoints p a a' n cap n' cap' xs ys _ h h' hn).mono ?_; rintro e w1 ⟨rfl, hb1⟩; rw [hP])
    go_ret2
    exact ⟨rfl, hb1⟩
  | true =>
    obtain ⟨hpr, hPt, h12⟩ := ptsB_iff.1 hP
    obtain ⟨hp1, hp2⟩ := prB_lo hpr
    rw [hlx] at hPt h12
    obtain rfl : n' = n := by rw [← hly]; exact hPt.ly
    have hx : Hid (∀ i, i < n' → 0 ≤ nth xs i ∧ nth xs i ≤ p - 1) := fun i hi => by have := hPt.rx.at (i := i) (by rw [hPt.lx]; exact hi); omega
    have hy : Hid (∀ i, i < n' → 0 ≤ nth ys i ∧ nth ys i ≤ p - 1) := fun i hi => by have := hPt.ry.at (i := i) (by rw [hPt.ly]; exact hi); omega
    clear hlx hly h h' hPt
    have HI := Lib.hid (fun W => s_l1In x 0 (p - 1) W)
    cases hI : inB x 0 (p - 1) with
    | false =>
      rw [hI] at HI
      go_enter Try.func14, Try.ntmps14
      go_wp2_with (first | (go_at_call 49; refine (s_fpPoints p a a' n' cap n' cap' xs ys _ HX.out HY.out hn).mono ?_; rintro e w1 ⟨rfl, hb1⟩; rw [hP]) | (go_at_call 57; refine (HI.out _).mono ?_; rintro e w2 ⟨rfl, rfl⟩))
      go_ret2
      exact ⟨rfl, hb1⟩
    | true =>
      rw [hI] at HI
      obtain ⟨hx1, hx2⟩ := inB_iff.1 hI
      go_enter Try.func14, Try.ntmps14
      go_wp2_with (first | (go_at_call 49; refine (s_fpPoints p a a' n' cap n' cap' xs ys _ HX.out HY.out hn).mono ?_; rintro e w1 ⟨rfl, hb1⟩; rw [hP]) | (go_at_call 57; refine (HI.out _).mono ?_; rintro e w2 ⟨rfl, rfl⟩) | (go_at_call 58; refine (s_fpAt p x a n' cap xs a' cap' ys _ (HX.out.below hb1) (HY.out.below hb1) ⟨hp1, hp2⟩ hx hy (by omega) (by omega)).mono ?_; rintro e w3 ⟨rfl, hb3⟩))
      go_ret2
      exact ⟨rfl, bel_trans hb1 hb3⟩
end Go.Proofs.Ytfichpppjpgahaa
