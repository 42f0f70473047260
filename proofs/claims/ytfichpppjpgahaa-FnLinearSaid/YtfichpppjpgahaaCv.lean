/-
  The cursor of a draw: picks, one of a list, primes, elements.
-/
import Derived.Test.YtfichpppjpgahaaCu
namespace Go.Proofs.Ytfichpppjpgahaa
open Go.RowKit
set_option linter.unusedVariables false
set_option linter.unusedSimpArgs false

theorem emod_le {x n : Int} (hx : 0 ≤ x) (hn : 0 < n) : x % n ≤ x := by
  have h := Int.emod_lt_of_pos x hn
  rcases Int.lt_or_le x n with k | k
  · rw [Int.emod_eq_of_lt hx k]; exact Int.le_refl _
  · omega
set_option maxHeartbeats 2000000 in
theorem s_pick (b B K : Nat) (n : Int) (w : World) (h : Cur w b B K) (hK : K ≤ 100000000000) (hn : n ≤ 1000000000000) :
    Calls Try.prog 59 #[.pointer (some ⟨b, 0, none⟩), .int .i64 n] w fun e w' => ∃ r : Nat, e = .returned (.int .i64 r) ∧ ((r : Int) < n ∨ r = 0) ∧ r ≤ 65535 ∧ Cur w' b B (K + 2) ∧ Bex b w w' := by
  by_cases h1 : n ≤ 1
  · go_enter Try.func59, Try.ntmps59
    go_wp2
    go_ret
    exact ⟨0, rfl, Or.inr rfl, by omega, h.more (by omega), Bex.refl _ _⟩
  · by_cases h2 : n ≤ 200
    · go_enter Try.func59, Try.ntmps59
      go_wp2_with (go_at_call 118; refine (s_next b B K _ h (by omega)).mono ?_; rintro e w1 ⟨r, rfl, hr, hC, hX⟩)
      go_ret
      have hm := Int.emod_lt_of_pos (r : Int) (show 0 < n by omega)
      have hm0 := Int.emod_nonneg (r : Int) (show n ≠ 0 by omega)
      have hml : (r : Int) % n ≤ r := emod_le (by omega) (by omega)
      exact ⟨((r : Int) % n).toNat, by simp; omega, Or.inl (by omega), by omega, hC.more (by omega), hX⟩
    · go_enter Try.func59, Try.ntmps59
      go_wp2_with fail
      refine (s_next b B K _ h (by omega)).mono ?_; rintro e w1 ⟨r, rfl, hr, hC, hX⟩
      go_wp2_with fail
      refine (s_next b B (K + 1) _ hC (by omega)).mono ?_; rintro e w2 ⟨r2, rfl, hr2, hC2, hX2⟩
      go_wp2
      go_ret
      obtain ⟨x, hx⟩ : ∃ x : Int, x = (r : Int) * 256 + r2 := ⟨_, rfl⟩
      have hm := Int.emod_lt_of_pos x (show 0 < n by omega)
      have hm0 := Int.emod_nonneg x (show n ≠ 0 by omega)
      have hml : x % n ≤ x := emod_le (by omega) (by omega)
      exact ⟨(x % n).toNat, by simp; rw [← hx]; omega, Or.inl (by omega), by omega, hC2, hX.trans hX2⟩
set_option maxHeartbeats 1000000 in
theorem s_one (b B K : Nat) (n : Int) (w : World) (h : Cur w b B K) (hK : K ≤ 100000000000) (hn : n ≤ 1000000000000) :
    Calls Try.prog 60 #[.pointer (some ⟨b, 0, none⟩), .int .i64 n] w fun e w' => ∃ q : Bool, e = .returned (.bool q) ∧ Cur w' b B (K + 2) ∧ Bex b w w' := by
  go_enter Try.func60, Try.ntmps60
  go_wp2_with (go_at_call 59; refine (s_pick b B K n _ h hK hn).mono ?_; rintro e w1 ⟨r, rfl, hr, hr2, hC, hX⟩)
  go_ret
  exact ⟨_, rfl, hC, hX⟩
set_option maxHeartbeats 1000000 in
theorem s_among (b B K : Nat) (a : Option Addr) (n cap : Nat) (xs : List Int) (w : World) (h : Cur w b B K) (hK : K ≤ 100000000000) (hI : Ints w a n cap xs) (hn : 1 ≤ n) (hn2 : n ≤ 1000000) (ho : Off b a n) :
    Calls Try.prog 61 #[.pointer (some ⟨b, 0, none⟩), .slice a n cap] w fun e w' => ∃ x : Int, e = .returned (.int .i64 x) ∧ x ∈ xs ∧ Cur w' b B (K + 2) ∧ Bex b w w' := by
  have hlen := hI.len
  obtain ⟨g, off, rfl, hgl, _⟩ := hI.at (i := 0) (by omega)
  go_enter Try.func61, Try.ntmps61
  go_wp2_with fail
  refine (s_pick b B K n _ h hK (by omega)).mono ?_; rintro e w1 ⟨r, rfl, hr, hr2, hC, hX⟩
  have hrn : r < n := by rcases hr with q | q <;> omega
  obtain ⟨g', off', e', hgl', hc⟩ := (hI.bex hX ho).at hrn
  simp only [Option.some.injEq, Addr.mk.injEq] at e'
  obtain ⟨rfl, rfl, _⟩ := e'
  have hrni : (r : Int) < (n : Int) := by omega
  go_wp2
  go_ret
  exact ⟨_, rfl, nth_mem (by rw [hlen.out]; exact hrn), hC, hX⟩
/-- A list made for the call. -/
theorem among_lit {w : World} {b B K m : Nat} (xs : List Int) {vs : Array Value} {t : TypeId} (h : Cur w b B K) (hm : m = w.heap.size) (hv : vs = (xs.map (Value.int .i64)).toArray) (hl : xs.length ≤ 1000) (hf : ∀ x ∈ xs, Fits x) :
    Cur (w.alloc (.cells vs t)) b B K ∧ Ints (w.alloc (.cells vs t)) (some ⟨m, 0, none⟩) xs.length xs.length xs ∧ Off b (some ⟨m, 0, none⟩) xs.length ∧ Bex b w (w.alloc (.cells vs t)) := by
  refine ⟨h.below (bel_alloc _ _), Ints.lit xs vs t hm hv hl hf, fun _ g o e => ?_, Bex.of (bel_alloc _ _)⟩
  simp only [Option.some.injEq, Addr.mk.injEq] at e
  have := h.lt
  omega
set_option maxHeartbeats 400000 in
theorem s_l1Most (x y : Int) (w : World) : Calls Try.prog 97 #[.int .i64 x, .int .i64 y] w fun e w' => e = .returned (.int .i64 (if y < x then x else y)) ∧ w = w' := by
  by_cases h : y < x
  · rw [if_pos h]
    go_enter Try.func97, Try.ntmps97
    go_wp2
    go_ret
    exact ⟨rfl, rfl⟩
  · rw [if_neg h]
    go_enter Try.func97, Try.ntmps97
    go_wp2
    go_ret
    exact ⟨rfl, rfl⟩
def primesL : List Int := [2, 3, 5, 7, 7, 11, 13, 13, 17, 31, 97, 251]
set_option maxHeartbeats 1000000 in
theorem s_prime (b B K : Nat) (w : World) (h : Cur w b B K) (hK : K ≤ 100000000000) :
    Calls Try.prog 107 #[.pointer (some ⟨b, 0, none⟩)] w fun e w' => ∃ x : Int, e = .returned (.int .i64 x) ∧ x ∈ primesL ∧ Cur w' b B (K + 2) ∧ Bex b w w' := by
  obtain ⟨hC, hI, hO, hX⟩ := among_lit (t := 3) primesL h rfl rfl (by decide) (by unfold Fits; decide)
  go_enter Try.func107, Try.ntmps107
  go_wp2_with (go_at_call 61; refine (s_among b B K _ 12 12 primesL _ hC hK hI (by omega) (by omega) hO).mono ?_; rintro e w1 ⟨x, rfl, hx, hC1, hX1⟩)
  go_ret
  exact ⟨_, rfl, hx, hC1, hX.trans hX1⟩
def notPrimesL : List Int := [0, 1, 4, 9, 49, 249, 257, -7]
set_option maxHeartbeats 1000000 in
theorem s_anyPrime (b B K : Nat) (w : World) (h : Cur w b B K) (hK : K ≤ 10000000000) :
    Calls Try.prog 45 #[.pointer (some ⟨b, 0, none⟩)] w fun e w' => ∃ x : Int, e = .returned (.int .i64 x) ∧ -7 ≤ x ∧ x ≤ 257 ∧ Cur w' b B (K + 4) ∧ Bex b w w' := by
  go_enter Try.func45, Try.ntmps45
  go_wp2_with fail
  refine (s_one b B K 16 _ h (by omega) (by omega)).mono ?_; rintro e w1 ⟨q, rfl, hC, hX⟩
  cases q with
  | true =>
    obtain ⟨hC1, hI1, hO1, hX1⟩ := among_lit (t := 3) notPrimesL hC rfl rfl (by decide) (by unfold Fits; decide)
    go_wp2_with (go_at_call 61; refine (s_among b B (K + 2) _ 8 8 notPrimesL _ hC1 (by omega) hI1 (by omega) (by omega) hO1).mono ?_; rintro e w2 ⟨x, rfl, hx, hC2, hX2⟩)
    go_ret
    have hb : ∀ x ∈ notPrimesL, -7 ≤ x ∧ x ≤ 257 := by decide
    exact ⟨_, rfl, (hb x hx).1, (hb x hx).2, hC2, (hX.trans hX1).trans hX2⟩
  | false =>
    go_wp2_with (go_at_call 107; refine (s_prime b B (K + 2) _ hC (by omega)).mono ?_; rintro e w2 ⟨x, rfl, hx, hC2, hX2⟩)
    go_ret
    have hb : ∀ x ∈ primesL, -7 ≤ x ∧ x ≤ 257 := by decide
    exact ⟨_, rfl, (hb x hx).1, (hb x hx).2, hC2, hX.trans hX2⟩
/-- A number that was drawn. -/
def Dr (x : Int) : Prop := -1000000 ≤ x ∧ x ≤ 1000000
theorem Dr.fits {x : Int} (h : Dr x) : Fits x := by unfold Dr at h; unfold Fits; omega
set_option maxHeartbeats 1000000 in
theorem s_element (b B K : Nat) (p : Int) (w : World) (h : Cur w b B K) (hK : K ≤ 10000000000) (hp : Dr p) :
    Calls Try.prog 56 #[.pointer (some ⟨b, 0, none⟩), .int .i64 p] w fun e w' => ∃ x : Int, e = .returned (.int .i64 x) ∧ Dr x ∧ Cur w' b B (K + 4) ∧ Bex b w w' := by
  obtain ⟨hp1, hp2⟩ := hp
  go_enter Try.func56, Try.ntmps56
  go_wp2_with fail
  refine (s_one b B K 30 _ h (by omega) (by omega)).mono ?_; rintro e w1 ⟨q, rfl, hC, hX⟩
  cases q with
  | true =>
    obtain ⟨hC1, hI1, hO1, hX1⟩ := among_lit (t := 3) [-1, p] hC rfl rfl (by simp) (by intro x hx; simp at hx; unfold Fits; rcases hx with rfl | rfl <;> omega)
    go_wp2_with (go_at_call 61; refine (s_among b B (K + 2) _ 2 2 [-1, p] _ hC1 (by omega) hI1 (by omega) (by omega) hO1).mono ?_; rintro e w2 ⟨x, rfl, hx, hC2, hX2⟩)
    go_ret
    exact ⟨_, rfl, by simp at hx; unfold Dr; rcases hx with rfl | rfl <;> omega, hC2, (hX.trans hX1).trans hX2⟩
  | false =>
    by_cases h1p : 1 < p
    · go_wp2_with fail
      refine (s_l1Most _ _ _).mono ?_; rintro e w2 ⟨rfl, rfl⟩; rw [if_pos h1p]
      go_wp2_with fail
      refine (s_pick b B (K + 2) p _ hC (by omega) (by omega)).mono ?_; rintro e w2 ⟨r, rfl, hr, hr2, hC2, hX2⟩
      go_wp2
      go_ret
      exact ⟨_, rfl, by unfold Dr; omega, hC2, hX.trans hX2⟩
    · go_wp2_with fail
      refine (s_l1Most _ _ _).mono ?_; rintro e w2 ⟨rfl, rfl⟩; rw [if_neg (by omega)]
      go_wp2_with fail
      refine (s_pick b B (K + 2) 1 _ hC (by omega) (by omega)).mono ?_; rintro e w2 ⟨r, rfl, hr, hr2, hC2, hX2⟩
      go_wp2
      go_ret
      exact ⟨_, rfl, by unfold Dr; omega, hC2, hX.trans hX2⟩
theorem Cur.new {w : World} {a : Option Addr} {n cap B : Nat} {t : TypeId} (hB : Byts w a n cap) (hu : Und B a n) (hb : B ≤ w.heap.size) : Cur (w.alloc (.cells #[.slice a n cap, .int .i64 0, .int .u64 0] t)) w.heap.size B 0 :=
  ⟨by simp, hb, a, n, cap, 0, 0, World.cell?_alloc_at _ _ _ _ rfl, World.cell?_alloc_at _ _ _ _ rfl, World.cell?_alloc_at _ _ _ _ rfl, World.frozen?_alloc_at _ _ _ _ rfl, World.frozen?_alloc_at _ _ _ _ rfl, by omega, by omega, hB.below (bel_alloc _ _), hu⟩
theorem Byts.und {w : World} {a : Option Addr} {n cap : Nat} (hB : Byts w a n cap) : Und w.heap.size a n := by
  intro hn g o e
  obtain ⟨g', o', y, e', hl, _⟩ := hB.cell.out 0 hn
  rw [e'] at e
  simp only [Option.some.injEq, Addr.mk.injEq] at e
  omega
theorem bel_new {w W : World} {o : Obj} (k : Bex w.heap.size (w.alloc o) W) : Below w.heap.size w W := Below.bex (bel_alloc w o) k (Nat.le_refl _) (by simp)
end Go.Proofs.Ytfichpppjpgahaa
