/-
  Many transfers: choices, secrets (both sides).
-/
import Derived.Test.YtklgneaamhjfpaaG4
namespace Go.Proofs.Ytklgneaamhjfpaa
open Go.RowKit
set_option linter.unusedVariables false
set_option linter.unusedSimpArgs false

def keyG (key : Int) : Bool := inB key 0 1000000000
def chsB (P Q G key : Int) (xs : List Int) : Bool := grB P Q G && (keyG key && (allIn xs 0 1 && decide (xs.length ≤ 40)))
theorem chsB_iff {P Q G key : Int} {xs : List Int} : chsB P Q G key xs = true ↔ grB P Q G = true ∧ keyG key = true ∧ allIn xs 0 1 = true ∧ xs.length ≤ 40 := by
  unfold chsB; simp only [Bool.and_eq_true, decide_eq_true_iff]
theorem chsB_no {P Q G key : Int} {xs : List Int} (h : ¬ (grB P Q G = true ∧ keyG key = true ∧ allIn xs 0 1 = true ∧ xs.length ≤ 40)) : chsB P Q G key xs = false := by
  cases k : chsB P Q G key xs with
  | false => rfl
  | true => exact absurd (chsB_iff.1 k) h
def secA (Q key i : Int) : Int := 1 + numFrom [key, i, 4] (Q - 1)
def secB2 (Q key i : Int) : Int := numFrom [key, i, 5] Q
theorem i_isKeyG (x : Int) (w : World) : Calls Try.prog 121 #[.int .i64 x] w fun e w' => e = .returned (.bool (keyG x)) ∧ w = w' := by
  go_enter Try.func121, Try.ntmps121
  go_wp2_with (go_at_call 61; refine (i_within _ _ _ _).mono ?_; rintro e w' ⟨rfl, rfl⟩)
  go_ret
  exact ⟨rfl, rfl⟩
theorem s_otKeyG (x : Int) (w : World) : Calls Try.prog 125 #[.int .i64 x] w fun e w' => e = .returned (.bool (keyG x)) ∧ w = w' := by
  go_enter Try.func125, Try.ntmps125
  go_wp2_with (go_at_call 64; refine (s_l1In _ _ _ _).mono ?_; rintro e w' ⟨rfl, rfl⟩)
  go_ret
  exact ⟨rfl, rfl⟩
set_option maxHeartbeats 2000000 in
theorem i_areChoices (P Q G key : Int) (a : Option Addr) (n cap : Nat) (xs : List Int) (w : World) (h : Ints w a n cap xs) :
    Calls Try.prog 102 #[.agg #[.int .i64 P, .int .i64 Q, .int .i64 G], .int .i64 key, .slice a n cap] w fun e w' => e = .returned (.bool (chsB P Q G key xs)) ∧ Below w.heap.size w w' := by
  have hl := h.len; have hs := h.small
  have HA : Hid (∀ W, Ints W a n cap xs → Calls Try.prog 122 #[.slice a n cap, .func (.func 79) #[] #[]] W fun e w' => e = .returned (.bool (allIn xs 0 1)) ∧ Below W.heap.size W w') := fun W hW =>
    i_areAll a n cap xs (fun x => inB x 0 1) 79 #[] (enters_of Try.func79 (by kernel_rfl) rfl) W hW (fun W x _ _ => i_bitB x W)
  cases g1 : grB P Q G with
  | false =>
    have HE := Lib.hid (chsB_no (P := P) (Q := Q) (G := G) (key := key) (xs := xs) (fun q => by rw [g1] at q; cases q.1))
    go_enter Try.func102, Try.ntmps102
    go_wp2_with (first | (go_at_call 42; refine (i_IsGroup _ _ _ _).mono ?_; rintro e w' ⟨rfl, hb⟩; (first | (have H := gbox1 hb) | (have H := Gx.on gb0 hb; clear gb0 k0 k1 k2)); have gb0 := H; have kk := H; clear H; obtain ⟨k0, k1, k2⟩ := kk))
    all_goals
      go_ret
      exact ⟨by rw [HE.out]; try rfl, by (repeat (first | exact Below.refl _ _ | assumption | refine bel_trans ?_ (bel_alloc _ _) | refine bel_set ?_ (by first | (dsimp only; omega) | (simp; omega) | simp) _ | refine bel_trans ?_ (bel_drewN _ _) | refine bel_trans ?_ (bel_drew _) | refine bel_trans ?_ (by assumption)))⟩
  | true =>
    cases g2 : keyG key with
    | false =>
      have HE := Lib.hid (chsB_no (P := P) (Q := Q) (G := G) (key := key) (xs := xs) (fun q => by rw [g2] at q; cases q.2.1))
      go_enter Try.func102, Try.ntmps102
      go_wp2_with (first | (go_at_call 42; refine (i_IsGroup _ _ _ _).mono ?_; rintro e w' ⟨rfl, hb⟩; (first | (have H := gbox1 hb) | (have H := Gx.on gb0 hb; clear gb0 k0 k1 k2)); have gb0 := H; have kk := H; clear H; obtain ⟨k0, k1, k2⟩ := kk) | (go_at_call 121; refine (i_isKeyG _ _).mono ?_; rintro e w' ⟨rfl, rfl⟩))
      all_goals
        go_ret
        exact ⟨by rw [HE.out]; try rfl, by (repeat (first | exact Below.refl _ _ | assumption | refine bel_trans ?_ (bel_alloc _ _) | refine bel_set ?_ (by first | (dsimp only; omega) | (simp; omega) | simp) _ | refine bel_trans ?_ (bel_drewN _ _) | refine bel_trans ?_ (bel_drew _) | refine bel_trans ?_ (by assumption)))⟩
    | true =>
      cases g3 : allIn xs 0 1 with
      | false =>
        have HE := Lib.hid (chsB_no (P := P) (Q := Q) (G := G) (key := key) (xs := xs) (fun q => by rw [g3] at q; cases q.2.2.1))
        go_enter Try.func102, Try.ntmps102
        go_wp2_with (first | (go_at_call 42; refine (i_IsGroup _ _ _ _).mono ?_; rintro e w' ⟨rfl, hb⟩; (first | (have H := gbox1 hb) | (have H := Gx.on gb0 hb; clear gb0 k0 k1 k2)); have gb0 := H; have kk := H; clear H; obtain ⟨k0, k1, k2⟩ := kk) | (go_at_call 121; refine (i_isKeyG _ _).mono ?_; rintro e w' ⟨rfl, rfl⟩) | (go_at_call 122; refine (HA.out _ (h.below (by (repeat (first | exact Below.refl _ _ | assumption | refine bel_trans ?_ (bel_alloc _ _) | refine bel_set ?_ (by first | (dsimp only; omega) | (simp; omega) | simp) _ | refine bel_trans ?_ (bel_drewN _ _) | refine bel_trans ?_ (bel_drew _) | refine bel_trans ?_ (by assumption)))))).mono ?_; rintro e w2 ⟨rfl, hb2⟩; rw [g3]))
        all_goals
          go_ret
          exact ⟨by rw [HE.out]; try rfl, by (repeat (first | exact Below.refl _ _ | assumption | refine bel_trans ?_ (bel_alloc _ _) | refine bel_set ?_ (by first | (dsimp only; omega) | (simp; omega) | simp) _ | refine bel_trans ?_ (bel_drewN _ _) | refine bel_trans ?_ (bel_drew _) | refine bel_trans ?_ (by assumption)))⟩
      | true =>
        have HE : Hid (chsB P Q G key xs = decide (n ≤ 40)) := by show _ = _; unfold chsB; rw [g1, g2, g3, hl.out]; simp
        go_enter Try.func102, Try.ntmps102
        go_wp2_with (first | (go_at_call 42; refine (i_IsGroup _ _ _ _).mono ?_; rintro e w' ⟨rfl, hb⟩; (first | (have H := gbox1 hb) | (have H := Gx.on gb0 hb; clear gb0 k0 k1 k2)); have gb0 := H; have kk := H; clear H; obtain ⟨k0, k1, k2⟩ := kk) | (go_at_call 121; refine (i_isKeyG _ _).mono ?_; rintro e w' ⟨rfl, rfl⟩) | (go_at_call 122; refine (HA.out _ (h.below (by (repeat (first | exact Below.refl _ _ | assumption | refine bel_trans ?_ (bel_alloc _ _) | refine bel_set ?_ (by first | (dsimp only; omega) | (simp; omega) | simp) _ | refine bel_trans ?_ (bel_drewN _ _) | refine bel_trans ?_ (bel_drew _) | refine bel_trans ?_ (by assumption)))))).mono ?_; rintro e w2 ⟨rfl, hb2⟩; rw [g3]))
        all_goals
          go_ret
          exact ⟨by rw [HE.out]; first | rfl | (congr 2; simp; done) | (simp; omega), by (repeat (first | exact Below.refl _ _ | assumption | refine bel_trans ?_ (bel_alloc _ _) | refine bel_set ?_ (by first | (dsimp only; omega) | (simp; omega) | simp) _ | refine bel_trans ?_ (bel_drewN _ _) | refine bel_trans ?_ (bel_drew _) | refine bel_trans ?_ (by assumption)))⟩
set_option maxHeartbeats 2000000 in
theorem s_otChoices (P Q G key : Int) (a : Option Addr) (n cap : Nat) (xs : List Int) (w : World) (h : Ints w a n cap xs) :
    Calls Try.prog 107 #[.agg #[.int .i64 P, .int .i64 Q, .int .i64 G], .int .i64 key, .slice a n cap] w fun e w' => e = .returned (.bool (chsB P Q G key xs)) ∧ Below w.heap.size w w' := by
  have hl := h.len; have hs := h.small
  cases g1 : grB P Q G with
  | false =>
    have HE := Lib.hid (chsB_no (P := P) (Q := Q) (G := G) (key := key) (xs := xs) (fun q => by rw [g1] at q; cases q.1))
    go_enter Try.func107, Try.ntmps107
    go_wp2_with (first | (go_at_call 63; refine (s_grGood _ _ _ _).mono ?_; rintro e w' ⟨rfl, hb⟩; (first | (have H := gbox1 hb) | (have H := Gx.on gb0 hb; clear gb0 k0 k1 k2)); have gb0 := H; have kk := H; clear H; obtain ⟨k0, k1, k2⟩ := kk))
    all_goals
      go_ret
      exact ⟨by rw [HE.out]; try rfl, by (repeat (first | exact Below.refl _ _ | assumption | refine bel_trans ?_ (bel_alloc _ _) | refine bel_set ?_ (by first | (dsimp only; omega) | (simp; omega) | simp) _ | refine bel_trans ?_ (bel_drewN _ _) | refine bel_trans ?_ (bel_drew _) | refine bel_trans ?_ (by assumption)))⟩
  | true =>
    cases g2 : keyG key with
    | false =>
      have HE := Lib.hid (chsB_no (P := P) (Q := Q) (G := G) (key := key) (xs := xs) (fun q => by rw [g2] at q; cases q.2.1))
      go_enter Try.func107, Try.ntmps107
      go_wp2_with (first | (go_at_call 63; refine (s_grGood _ _ _ _).mono ?_; rintro e w' ⟨rfl, hb⟩; (first | (have H := gbox1 hb) | (have H := Gx.on gb0 hb; clear gb0 k0 k1 k2)); have gb0 := H; have kk := H; clear H; obtain ⟨k0, k1, k2⟩ := kk) | (go_at_call 125; refine (s_otKeyG _ _).mono ?_; rintro e w' ⟨rfl, rfl⟩))
      all_goals
        go_ret
        exact ⟨by rw [HE.out]; try rfl, by (repeat (first | exact Below.refl _ _ | assumption | refine bel_trans ?_ (bel_alloc _ _) | refine bel_set ?_ (by first | (dsimp only; omega) | (simp; omega) | simp) _ | refine bel_trans ?_ (bel_drewN _ _) | refine bel_trans ?_ (bel_drew _) | refine bel_trans ?_ (by assumption)))⟩
    | true =>
      by_cases h40 : n ≤ 40
      · have HE : Hid (chsB P Q G key xs = allIn xs 0 1) := by show _ = _; unfold chsB; rw [g1, g2, hl.out]; simp [h40]
        have h40i : (n : Int) ≤ 40 := by omega
        go_enter Try.func107, Try.ntmps107
        go_wp2_with (first | (go_at_call 63; refine (s_grGood _ _ _ _).mono ?_; rintro e w' ⟨rfl, hb⟩; (first | (have H := gbox1 hb) | (have H := Gx.on gb0 hb; clear gb0 k0 k1 k2)); have gb0 := H; have kk := H; clear H; obtain ⟨k0, k1, k2⟩ := kk) | (go_at_call 125; refine (s_otKeyG _ _).mono ?_; rintro e w' ⟨rfl, rfl⟩) | (go_at_call 108; refine (s_l1All _ _ _ xs _ _ _ (h.below (by (repeat (first | exact Below.refl _ _ | assumption | refine bel_trans ?_ (bel_alloc _ _) | refine bel_set ?_ (by first | (dsimp only; omega) | (simp; omega) | simp) _ | refine bel_trans ?_ (bel_drewN _ _) | refine bel_trans ?_ (bel_drew _) | refine bel_trans ?_ (by assumption)))))).mono ?_; rintro e w' ⟨rfl, rfl⟩))
        all_goals
          go_ret
          exact ⟨by rw [HE.out]; try rfl, by (repeat (first | exact Below.refl _ _ | assumption | refine bel_trans ?_ (bel_alloc _ _) | refine bel_set ?_ (by first | (dsimp only; omega) | (simp; omega) | simp) _ | refine bel_trans ?_ (bel_drewN _ _) | refine bel_trans ?_ (bel_drew _) | refine bel_trans ?_ (by assumption)))⟩
      · have HE := Lib.hid (chsB_no (P := P) (Q := Q) (G := G) (key := key) (xs := xs) (fun q => by rw [hl.out] at q; omega))
        have h40i : ¬ (n : Int) ≤ 40 := by omega
        go_enter Try.func107, Try.ntmps107
        go_wp2_with (first | (go_at_call 63; refine (s_grGood _ _ _ _).mono ?_; rintro e w' ⟨rfl, hb⟩; (first | (have H := gbox1 hb) | (have H := Gx.on gb0 hb; clear gb0 k0 k1 k2)); have gb0 := H; have kk := H; clear H; obtain ⟨k0, k1, k2⟩ := kk) | (go_at_call 125; refine (s_otKeyG _ _).mono ?_; rintro e w' ⟨rfl, rfl⟩))
        all_goals
          go_ret
          exact ⟨by rw [HE.out]; try rfl, by (repeat (first | exact Below.refl _ _ | assumption | refine bel_trans ?_ (bel_alloc _ _) | refine bel_set ?_ (by first | (dsimp only; omega) | (simp; omega) | simp) _ | refine bel_trans ?_ (bel_drewN _ _) | refine bel_trans ?_ (bel_drew _) | refine bel_trans ?_ (by assumption)))⟩
theorem lit3_drew {w : World} {m : Nat} {t : TypeId} {a b c : Int} (hm : m = w.heap.size) (ha : Fits a) (hb : Fits b) (hc : Fits c) :
    Ints (w.alloc (.cells #[.int .i64 a, .int .i64 b, .int .i64 c] t)).drew (some ⟨m, 0, none⟩) 3 3 [a, b, c] :=
  (Ints.lit3 hm ha hb hc).below (bel_drew _)
theorem small3k {key i k : Int} (hk : 0 ≤ key ∧ key ≤ 1000000000) (hi : 0 ≤ i ∧ i ≤ 100000) (h : 0 ≤ k ∧ k ≤ 100) : ∀ x ∈ [key, i, k], Small x := by
  intro x hx; simp at hx; unfold Small
  rcases hx with rfl | rfl | rfl <;> omega
end Go.Proofs.Ytklgneaamhjfpaa
