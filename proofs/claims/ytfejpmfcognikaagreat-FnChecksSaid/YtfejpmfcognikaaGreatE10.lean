/-
  Digests of rows; HideMessages, both sides.
-/
import Derived.Test.YtfejpmfcognikaaGreatE3
import Derived.Test.YtfejpmfcognikaaGreatSt2
import Derived.Test.YtfejpmfcognikaaGreatE4
namespace Go.Proofs.YtfejpmfcognikaaGreat
open Go.RowKit
set_option linter.unusedVariables false
set_option linter.unusedSimpArgs false

theorem xor_fits (a b : Int) : Fits (bits .xor .i64 a b) := by
  show Fits (IntKind.i64.wrap ((BitVec.ofInt 64 a ^^^ BitVec.ofInt 64 b).toNat : Nat))
  rw [IntKind.wrap_i64]
  unfold Fits; omega
def dgR (j : Int) (row : List Int) : Int := dgMix ([j, 33] ++ row)
theorem dgR_small {j : Int} {row : List Int} (hj : 0 ≤ j ∧ j ≤ 1000000) (hb : bitsB row = true) : ∀ x ∈ [j, 33] ++ row, Small x := by
  intro x hx
  rcases List.mem_append.1 hx with h | h
  · simp at h; unfold Small; rcases h with rfl | rfl <;> omega
  · obtain ⟨i, hi, rfl⟩ := mem_nth h
    have := bitsB_nth hb hi
    unfold Small; omega
def hidR (secret zero one : List Int) (q : List (List Int)) (j : Nat) : List Int := [bits .xor .i64 (nth zero j) (dgR j (rowN q j)), bits .xor .i64 (nth one j) (dgR j (xrL (rowN q j) secret (rowN q j).length))]
def hidN (secret zero one : List Int) (q : List (List Int)) (t : Nat) : List (List Int) := (List.range t).map (hidR secret zero one q)
theorem hidN_succ (secret zero one : List Int) (q : List (List Int)) (t : Nat) : hidN secret zero one q (t + 1) = hidN secret zero one q t ++ [hidR secret zero one q t] := by simp [hidN, List.range_succ]
theorem hidN_len (secret zero one : List Int) (q : List (List Int)) (t : Nat) : (hidN secret zero one q t).length = t := by simp [hidN]
theorem rowN_hidN {secret zero one : List Int} {q : List (List Int)} {t i : Nat} (hi : i < t) : rowN (hidN secret zero one q t) i = hidR secret zero one q i := by simp [rowN, hidN, hi]
def hdB (secret : List Int) (q : List (List Int)) (zero one : List Int) : Bool := secB secret && (rowsB q q.length secret.length && (decide (zero.length = q.length) && (decide (one.length = q.length) && (labB zero && labB one))))
theorem hdB_iff {secret : List Int} {q : List (List Int)} {zero one : List Int} : hdB secret q zero one = true ↔ secB secret = true ∧ rowsB q q.length secret.length = true ∧ zero.length = q.length ∧ one.length = q.length ∧ labB zero = true ∧ labB one = true := by
  unfold hdB; simp only [Bool.and_eq_true, decide_eq_true_iff]
def hideMessages (secret : List Int) (q : List (List Int)) (zero one : List Int) : List (List Int) × Bool := if hdB secret q zero one then (hidN secret zero one q q.length, true) else ([], false)
theorem hd_t {secret : List Int} {q : List (List Int)} {zero one : List Int} (h : hdB secret q zero one = true) : hideMessages secret q zero one = (hidN secret zero one q q.length, true) := by unfold hideMessages; rw [if_pos h]
theorem hd_f {secret : List Int} {q : List (List Int)} {zero one : List Int} (h : ¬ hdB secret q zero one = true) : hideMessages secret q zero one = ([], false) := by unfold hideMessages; rw [if_neg h]
theorem hideMessages_len (secret : List Int) (q : List (List Int)) (zero one : List Int) : (hideMessages secret q zero one).1.length ≤ 1000 ∧ pre (hideMessages secret q zero one).1 (hideMessages secret q zero one).1.length ≤ 100000 := by
  by_cases h : hdB secret q zero one = true
  · rw [hd_t h]
    have h2 := (rowsB_iff.1 (hdB_iff.1 h).2.1).1
    show (hidN secret zero one q q.length).length ≤ 1000 ∧ pre (hidN secret zero one q q.length) (hidN secret zero one q q.length).length ≤ 100000
    rw [hidN_len]
    have := pre_le (hidN secret zero one q q.length) q.length 2 (fun i hi => by rw [rowN_hidN hi]; simp [hidR])
    omega
  · rw [hd_f h]; simp [pre]
theorem lit2M {w : World} {x y : Int} (t : TypeId) (hx : Fits x) (hy : Fits y) : Mine (w.alloc (.cells #[.int .i64 x, .int .i64 y] t)) w.heap.size (some ⟨w.heap.size, 0, none⟩) 2 2 [x, y] := by
  refine ⟨Ints.lit2 rfl hx hy, fun _ b off e => ?_, fun i hi b off e => ?_⟩
  · simp only [Option.some.injEq, Addr.mk.injEq] at e
    obtain ⟨rfl, _, _⟩ := e
    exact ⟨Nat.le_refl _, by simp⟩
  · simp only [Option.some.injEq, Addr.mk.injEq] at e
    obtain ⟨rfl, rfl, _⟩ := e
    exact World.frozen?_alloc_at _ _ _ _ rfl

set_option maxHeartbeats 1000000 in
theorem i_rowDigest (j : Int) (a : Option Addr) (n cap : Nat) (xs : List Int) (w : World) (hj : 0 ≤ j ∧ j ≤ 1000000) (h : Ints w a n cap xs) (hn : n ≤ 100) (hb : bitsB xs = true) :
    Calls Tryz.prog 77 #[.int .i64 j, .slice a n cap] w fun e w' => e = .returned (.int .i64 (dgR j xs)) ∧ Below w.heap.size w w' := by
  have HSM := Lib.hid (dgR_small hj hb)
  have HF : Hid (∀ x ∈ [j, 33] ++ xs, Fits x) := fun x hx => (HSM.out x hx).fits
  have HH := Lib.hid h; clear h hb
  go_enter Tryz.func77, Tryz.ntmps77
  go_wp2_with (at_builtin; refine wp_apps (w.alloc (.cells #[.int .i64 j, .int .i64 33] 3)) w.heap.size 2 _ [j, 33] xs _ _ _ rfl _ _ rfl rfl rfl (HH.out.alloc _) (World.ownsRow_lit w #[.int .i64 j, .int .i64 33] 2 (Nat.le_refl _) (by decide) rfl) (by simp) (by omega) ?_; intro v9 w9 hv9 hb9 hg9)
  obtain ⟨r, c, hr, ho⟩ := OwnI.of hv9 (by omega) HF.out
  subst hr
  have HO := Lib.hid ho; have HB9 := Lib.hid ((bel_alloc w (.cells #[.int .i64 j, .int .i64 33] 3)).trans hb9); clear ho hv9 hb9 hg9
  go_wp2_with fail
  refine (i_digest _ _ _ _ _ HO.out.ints (by omega) HSM.out).mono ?_; rintro e w2 ⟨rfl, hb2⟩
  go_wp2
  go_ret
  exact ⟨rfl, bel_trans HB9.out hb2⟩
set_option maxHeartbeats 1000000 in
theorem s_oxMask (j : Int) (a : Option Addr) (n cap : Nat) (xs : List Int) (w : World) (hj : 0 ≤ j ∧ j ≤ 1000000) (h : Ints w a n cap xs) (hn : n ≤ 100) (hb : bitsB xs = true) :
    Calls Tryz.prog 79 #[.int .i64 j, .slice a n cap] w fun e w' => e = .returned (.int .i64 (dgR j xs)) ∧ Below w.heap.size w w' := by
  have HSM := Lib.hid (dgR_small hj hb)
  have HF : Hid (∀ x ∈ [j, 33] ++ xs, Fits x) := fun x hx => (HSM.out x hx).fits
  have HH := Lib.hid h; clear h hb
  go_enter Tryz.func79, Tryz.ntmps79
  go_wp2_with (at_builtin; refine wp_apps (w.alloc (.cells #[.int .i64 j, .int .i64 33] 3)) w.heap.size 2 _ [j, 33] xs _ _ _ rfl _ _ rfl rfl rfl (HH.out.alloc _) (World.ownsRow_lit w #[.int .i64 j, .int .i64 33] 2 (Nat.le_refl _) (by decide) rfl) (by simp) (by omega) ?_; intro v9 w9 hv9 hb9 hg9)
  obtain ⟨r, c, hr, ho⟩ := OwnI.of hv9 (by omega) HF.out
  subst hr
  have HO := Lib.hid ho; have HB9 := Lib.hid ((bel_alloc w (.cells #[.int .i64 j, .int .i64 33] 3)).trans hb9); clear ho hv9 hb9 hg9
  go_wp2_with fail
  refine (s_digest _ _ _ _ _ HO.out.ints (by omega) HSM.out).mono ?_; rintro e w2 ⟨rfl, hb2⟩
  go_wp2
  go_ret
  exact ⟨rfl, bel_trans HB9.out hb2⟩