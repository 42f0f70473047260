/-
  Valid rows, columns, weights, labels; equal lists.
-/
import Derived.Test.YtfichpppjpgahaaE2
namespace Go.Proofs.Ytfichpppjpgahaa
open Go.RowKit
set_option linter.unusedVariables false
set_option linter.unusedSimpArgs false

def rowsB (l : List (List Int)) (m k : Int) : Bool := inB m 0 24 && (inB k 1 8 && (decide ((l.length : Int) = m) && listsB l k))
def colsB (l : List (List Int)) : Bool := inB l.length 1 8 && (inB (rowN l 0).length 0 24 && listsB l (rowN l 0).length)
def wtB (l : List (List Int)) (m : Int) : Bool := decide (l.length ≤ 8) && listsB l m
def badR (L : Int) (x : List Int) : Bool := !(decide ((x.length : Int) = L) && bitsB x)
def labB (xs : List Int) : Bool := allIn xs 0 65535
theorem rowsB_iff {l : List (List Int)} {m k : Int} : rowsB l m k = true ↔ (0 ≤ m ∧ m ≤ 24) ∧ (1 ≤ k ∧ k ≤ 8) ∧ (l.length : Int) = m ∧ listsB l k = true := by
  unfold rowsB; simp only [Bool.and_eq_true, decide_eq_true_iff, inB_iff]
theorem colsB_iff {l : List (List Int)} : colsB l = true ↔ (1 ≤ (l.length : Int) ∧ (l.length : Int) ≤ 8) ∧ (0 ≤ ((rowN l 0).length : Int) ∧ ((rowN l 0).length : Int) ≤ 24) ∧ listsB l (rowN l 0).length = true := by
  unfold colsB; simp only [Bool.and_eq_true, inB_iff]
theorem wtB_iff {l : List (List Int)} {m : Int} : wtB l m = true ↔ l.length ≤ 8 ∧ listsB l m = true := by
  unfold wtB; simp only [Bool.and_eq_true, decide_eq_true_iff]
theorem secB_iff {xs : List Int} : secB xs = true ↔ (1 ≤ (xs.length : Int) ∧ (xs.length : Int) ≤ 8) ∧ bitsB xs = true := by
  unfold secB; simp only [Bool.and_eq_true, inB_iff]
theorem chosB_iff {xs : List Int} : chosB xs = true ↔ (0 ≤ (xs.length : Int) ∧ (xs.length : Int) ≤ 24) ∧ bitsB xs = true := by
  unfold chosB; simp only [Bool.and_eq_true, inB_iff]

set_option maxHeartbeats 1000000 in
theorem g_Equal (a a' : Option Addr) (n n' cap cap' : Nat) (xs ys : List Int) (w : World) (h : Ints w a n cap xs) (h' : Ints w a' n' cap' ys) :
    Calls Try.prog 98 #[.slice a n cap, .slice a' n' cap'] w fun e w' => e = .returned (.bool (decide (xs = ys))) ∧ Below w.heap.size w w' := by
  have hs := h.small
  have hl := h.len; have hl' := h'.len
  by_cases h0 : n = n'
  rotate_left
  · have HR : Hid (decide (xs = ys) = false) := decide_eq_false fun q => h0 (by rw [← hl.out, ← hl'.out, q])
    have h0b : ((n : Int) != (n' : Int)) = true := by simp; omega
    have h0c : ((n : Int) == (n' : Int)) = false := by simp; omega
    go_enter Try.func98, Try.ntmps98
    go_wp2
    all_goals
      go_ret
      exact ⟨by rw [HR.out]; try rfl, Below.refl _ _⟩
  subst h0
  go_enter Try.func98, Try.ntmps98
  go_wp2
  go_loopw [13] (fun i wr => ∃ k : Nat, k ≤ n ∧ i = .int .i64 k ∧ Hid (∀ j, j < k → nth xs j = nth ys j) ∧ Hid (Below w.heap.size w wr)) (fun i _ => n - (intOf i).toNat)
  case atStart => exact ⟨0, by omega, rfl, fun j hj => by omega, Below.refl _ _⟩
  case round =>
    obtain ⟨k, hk, rfl, HJ, BW⟩ := hrel
    by_cases hlt : k < n
    · obtain ⟨b, off, rfl, hbl, hc⟩ := (h.below BW.out).at hlt
      obtain ⟨b', off', rfl, hbl', hc'⟩ := (h'.below BW.out).at hlt
      have hlti : (k : Int) < (n : Int) := by omega
      by_cases he : nth xs k = nth ys k
      · have HJ2 : Hid (∀ j, j < k + 1 → nth xs j = nth ys j) := fun j hj => by
          rcases Nat.lt_or_ge j k with g | g
          · exact HJ.out j g
          · obtain rfl : j = k := by omega
            exact he
        rw [he] at hc
        clear he
        go_wp2
        go_quiet (fail)
        go_wp2
        go_roundw
        case rel => exact ⟨k + 1, by omega, by go_num, HJ2.out, (show Hid _ from below_drewN BW.out _)⟩
        case measure => simp [intOf]; omega
      · have HR : Hid (decide (xs = ys) = false) := decide_eq_false fun q => he (by rw [q])
        have heb : (nth xs k != nth ys k) = true := by simp [he]
        have hec : (nth xs k == nth ys k) = false := by simp [he]
        go_wp2
        go_quiet (fail)
        go_wp2
        go_ret
        exact ⟨by rw [HR.out]; try rfl, below_drewN BW.out _⟩
    · obtain rfl : k = n := by omega
      have HR : Hid (decide (xs = ys) = true) := decide_eq_true (eq_of_nth (by rw [hl.out, hl'.out]) (fun i hi => HJ.out i (by rw [← hl.out]; exact hi)))
      go_wp2
      go_ret
      exact ⟨by rw [HR.out]; try rfl, BW.out⟩
set_option maxHeartbeats 1000000 in
theorem s_l1Same (a a' : Option Addr) (n n' cap cap' : Nat) (xs ys : List Int) (w : World) (h : Ints w a n cap xs) (h' : Ints w a' n' cap' ys) :
    Calls Try.prog 100 #[.slice a n cap, .slice a' n' cap'] w fun e w' => e = .returned (.bool (decide (xs = ys))) ∧ Below w.heap.size w w' := by
  have hs := h.small
  have hl := h.len; have hl' := h'.len
  by_cases h0 : n = n'
  rotate_left
  · have HR : Hid (decide (xs = ys) = false) := decide_eq_false fun q => h0 (by rw [← hl.out, ← hl'.out, q])
    have h0b : ((n : Int) != (n' : Int)) = true := by simp; omega
    have h0c : ((n : Int) == (n' : Int)) = false := by simp; omega
    go_enter Try.func100, Try.ntmps100
    go_wp2
    all_goals
      go_ret
      exact ⟨by rw [HR.out]; try rfl, Below.refl _ _⟩
  subst h0
  go_enter Try.func100, Try.ntmps100
  go_wp2
  go_loopw [13] (fun i wr => ∃ k : Nat, k ≤ n ∧ i = .int .i64 k ∧ Hid (∀ j, j < k → nth xs j = nth ys j) ∧ Hid (Below w.heap.size w wr)) (fun i _ => n - (intOf i).toNat)
  case atStart => exact ⟨0, by omega, rfl, fun j hj => by omega, Below.refl _ _⟩
  case round =>
    obtain ⟨k, hk, rfl, HJ, BW⟩ := hrel
    by_cases hlt : k < n
    · obtain ⟨b, off, rfl, hbl, hc⟩ := (h.below BW.out).at hlt
      obtain ⟨b', off', rfl, hbl', hc'⟩ := (h'.below BW.out).at hlt
      have hlti : (k : Int) < (n : Int) := by omega
      by_cases he : nth xs k = nth ys k
      · have HJ2 : Hid (∀ j, j < k + 1 → nth xs j = nth ys j) := fun j hj => by
          rcases Nat.lt_or_ge j k with g | g
          · exact HJ.out j g
          · obtain rfl : j = k := by omega
            exact he
        rw [he] at hc
        clear he
        go_wp2
        go_quiet (fail)
        go_wp2
        go_roundw
        case rel => exact ⟨k + 1, by omega, by go_num, HJ2.out, (show Hid _ from below_drewN BW.out _)⟩
        case measure => simp [intOf]; omega
      · have HR : Hid (decide (xs = ys) = false) := decide_eq_false fun q => he (by rw [q])
        have heb : (nth xs k != nth ys k) = true := by simp [he]
        have hec : (nth xs k == nth ys k) = false := by simp [he]
        go_wp2
        go_quiet (fail)
        go_wp2
        go_ret
        exact ⟨by rw [HR.out]; try rfl, below_drewN BW.out _⟩
    · obtain rfl : k = n := by omega
      have HR : Hid (decide (xs = ys) = true) := decide_eq_true (eq_of_nth (by rw [hl.out, hl'.out]) (fun i hi => HJ.out i (by rw [← hl.out]; exact hi)))
      go_wp2
      go_ret
      exact ⟨by rw [HR.out]; try rfl, BW.out⟩
end Go.Proofs.Ytfichpppjpgahaa
