/-
  IndexFunc and ContainsFunc over slices of slices of ints.
-/
import Derived.Test.YtfichpppjpgahaaRU
namespace Go.Proofs.Ytfichpppjpgahaa
open Go.RowKit
set_option linter.unusedVariables false
set_option linter.unusedSimpArgs false

theorem anyR_no {xss : List (List Int)} {p : List Int → Bool} (h : ∀ i, i < xss.length → p (rowN xss i) = false) : xss.any p = false := by
  rw [List.any_eq_false]
  intro x hx
  obtain ⟨i, hi, rfl⟩ := mem_rowN hx
  rw [h i hi]; decide
theorem anyR_yes {xss : List (List Int)} {p : List Int → Bool} {i : Nat} (hi : i < xss.length) (h : p (rowN xss i) = true) : xss.any p = true := List.any_eq_true.2 ⟨_, rowN_mem hi, h⟩
theorem allR_iff {xss : List (List Int)} {p : List Int → Bool} : xss.all p = true ↔ ∀ i, i < xss.length → p (rowN xss i) = true := by
  rw [List.all_eq_true]
  refine ⟨fun h i hi => h _ (rowN_mem hi), fun h x hx => ?_⟩
  obtain ⟨i, hi, rfl⟩ := mem_rowN hx
  exact h i hi
theorem allR_no {xss : List (List Int)} {p : List Int → Bool} {i : Nat} (hi : i < xss.length) (h : p (rowN xss i) = false) : xss.all p = false := by
  cases k : xss.all p with
  | false => rfl
  | true => rw [allR_iff.1 k i hi] at h; cases h
set_option maxHeartbeats 1000000 in
theorem g_IndexFuncR (a : Option Addr) (n cap : Nat) (xss : List (List Int)) (p : List Int → Bool) (g : Nat) (lb : Array Value) (eg : ∀ args w, (callFunc g args).run Try.prog w = .ok (.enter g args) w) (w : World) (h : Rws w a n cap xss)
    (hp : Hid (∀ (W : World) (r : Option Addr) (m c : Nat) (x : List Int), Below w.heap.size w W → Ints W r m c x → Calls Try.prog g (#[.slice r m c] ++ lb) W fun e w' => e = .returned (.bool (p x)) ∧ Below w.heap.size w w')) :
    Calls Try.prog 119 #[.slice a n cap, .func (.func g) #[] lb] w fun e w' => (∃ r : Int, e = .returned (.int .i64 r) ∧ xss.any p = decide (0 ≤ r)) ∧ Below w.heap.size w w' := by
  have hs := h.small
  have HH := Lib.hid h; clear h
  go_enter Try.func119, Try.ntmps119
  go_wp2
  go_loopw [8] (fun i wr => ∃ k : Nat, k ≤ n ∧ i = .int .i64 k ∧ Hid (∀ j, j < k → p (rowN xss j) = false) ∧ Hid (Below w.heap.size w wr)) (fun i _ => n - (intOf i).toNat)
  case atStart => exact ⟨0, by omega, rfl, fun j hj => by omega, Below.refl _ _⟩
  case round =>
    obtain ⟨k, hk, rfl, H, BW⟩ := hrel
    by_cases hlt : k < n
    · obtain ⟨b, off, r, m, c, rfl, hbl, hc, hri⟩ := (HH.out.below BW.out).at hlt
      have hcall := hp.out wr r m c (rowN xss k) BW.out hri
      clear hri
      cases hin : p (rowN xss k) with
      | false =>
        rw [hin] at hcall
        have HC := Lib.hid hcall; clear hcall
        go_wp2_with (go_at_fn g; refine HC.out.mono ?_; rintro e w' ⟨rfl, hb'⟩)
        go_roundw
        case rel => exact ⟨k + 1, by omega, by go_num, (show Hid _ from fun j hj => by
            rcases Nat.lt_or_ge j k with g | g
            · exact H.out j g
            · obtain rfl : j = k := by omega
              exact hin), hb'⟩
        case measure => simp [intOf]; omega
      | true =>
        rw [hin] at hcall
        have HC := Lib.hid hcall; clear hcall
        have hr : xss.any p = true := anyR_yes (i := k) (by rw [HH.out.len.out]; exact hlt) hin
        go_wp2_with (go_at_fn g; refine HC.out.mono ?_; rintro e w' ⟨rfl, hb'⟩)
        go_ret
        exact ⟨⟨_, rfl, by rw [hr]; simp⟩, hb'⟩
    · obtain rfl : k = n := by omega
      have hr : xss.any p = false := anyR_no (by rw [HH.out.len.out]; exact H.out)
      go_wp2
      go_ret
      exact ⟨⟨_, rfl, by rw [hr]; simp⟩, BW.out⟩
set_option maxHeartbeats 1000000 in
theorem g_ContainsFuncR (a : Option Addr) (n cap : Nat) (xss : List (List Int)) (p : List Int → Bool) (g : Nat) (lb : Array Value) (eg : ∀ args w, (callFunc g args).run Try.prog w = .ok (.enter g args) w) (w : World) (h : Rws w a n cap xss)
    (hp : Hid (∀ (W : World) (r : Option Addr) (m c : Nat) (x : List Int), Below w.heap.size w W → Ints W r m c x → Calls Try.prog g (#[.slice r m c] ++ lb) W fun e w' => e = .returned (.bool (p x)) ∧ Below w.heap.size w w')) :
    Calls Try.prog 65 #[.slice a n cap, .func (.func g) #[] lb] w fun e w' => e = .returned (.bool (xss.any p)) ∧ Below w.heap.size w w' := by
  go_enter Try.func65, Try.ntmps65
  go_wp2_with (go_at_call 119; refine (g_IndexFuncR _ _ _ _ p g lb eg _ h hp).mono ?_; rintro e w' ⟨⟨r, rfl, hr⟩, hb'⟩)
  go_ret
  exact ⟨ret_bool hr.symm, hb'⟩
end Go.Proofs.Ytfichpppjpgahaa
