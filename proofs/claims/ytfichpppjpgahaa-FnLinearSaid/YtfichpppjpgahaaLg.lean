/-
  Contracts: parts of slices, a number in a list, sorted lists that grow, lists of different numbers.
-/
import Derived.Test.YtfichpppjpgahaaD
import Derived.Test.YtfichpppjpgahaaA
namespace Go.Proofs.Ytfichpppjpgahaa
open Go.RowKit
set_option linter.unusedVariables false
set_option linter.unusedSimpArgs false

theorem Ints.take {w : World} {a : Option Addr} {n cap : Nat} {xs : List Int} (h : Ints w a n cap xs) {k : Nat} (hk : k ≤ n) : Ints w a k cap (xs.take k) :=
  ⟨by show _ = _; rw [List.length_take, h.len.out]; omega, Nat.le_trans hk h.ncap, Nat.le_trans hk h.small, h.capm, fun i hi => by
    obtain ⟨b, off, e, hl, hc⟩ := h.cell.out i (by omega)
    refine ⟨b, off, e, hl, ?_⟩
    have : nth (xs.take k) i = nth xs i := by unfold nth; rw [List.getD_eq_getElem?_getD, List.getD_eq_getElem?_getD, List.getElem?_take_of_lt hi]
    rw [this]; exact hc, fun x hx => h.wf.out x (List.mem_of_mem_take hx), h.nilc⟩
theorem Ints.drop {w : World} {b off n cap : Nat} {xs : List Int} (h : Ints w (some ⟨b, off, none⟩) n cap xs) {k : Nat} (hk : k ≤ n) : Ints w (some ⟨b, off + k, none⟩) (n - k) (cap - k) (xs.drop k) :=
  ⟨by show _ = _; rw [List.length_drop, h.len.out], Nat.sub_le_sub_right h.ncap k, Nat.le_trans (Nat.sub_le _ _) h.small, Nat.le_trans (Nat.sub_le _ _) h.capm, fun i hi => by
    obtain ⟨b', off', e, hl, hc⟩ := h.cell.out (k + i) (by omega)
    simp only [Option.some.injEq, Addr.mk.injEq] at e
    obtain ⟨rfl, rfl, _⟩ := e
    refine ⟨_, _, rfl, hl, ?_⟩
    have : nth (xs.drop k) i = nth xs (k + i) := by unfold nth; rw [List.getD_eq_getElem?_getD, List.getD_eq_getElem?_getD, List.getElem?_drop]
    rw [this, Nat.add_assoc]; exact hc, fun x hx => h.wf.out x (List.mem_of_mem_drop hx), fun e => by cases e⟩
/-- A part of a nil slice. -/
theorem Ints.empty {w : World} {b off cap : Nat} (h : cap ≤ 9223372036854775807) : Ints w (some ⟨b, off, none⟩) 0 cap [] :=
  ⟨rfl, Nat.zero_le _, Nat.zero_le _, h, fun i hi => by omega, fun x hx => (by cases hx), fun e => by cases e⟩
theorem Ints.nil_n {w : World} {n cap : Nat} {xs : List Int} (h : Ints w none n cap xs) : n = 0 ∧ cap = 0 ∧ xs = [] := by
  have hc := h.nilc.out rfl
  have hnc := h.ncap
  have hlen := h.len.out
  refine ⟨by omega, hc, List.length_eq_zero_iff.1 (by omega)⟩

theorem put_pure {l : List Int} {x : Int} {k : Nat} (hs : l.Pairwise (· < ·)) (hk : k ≤ l.length) (h1 : ∀ i, i < k → nth l i < x) (h2 : k < l.length → x < nth l k) :
    (l.take k ++ [x] ++ l.drop k).Pairwise (· < ·) ∧ x ∉ l ∧ ∀ y, y ∈ l.take k ++ [x] ++ l.drop k ↔ y ∈ l ∨ y = x := by
  have ht : ∀ y ∈ l.take k, y < x := fun y hy => by
    obtain ⟨i, hi, rfl⟩ := List.mem_iff_getElem.1 hy
    rw [List.length_take] at hi
    rw [List.getElem_take]
    have := h1 i (by omega)
    rwa [nth_get (by omega)] at this
  have hd : ∀ y ∈ l.drop k, x < y := fun y hy => by
    obtain ⟨i, hi, rfl⟩ := List.mem_iff_getElem.1 hy
    rw [List.length_drop] at hi
    rw [List.getElem_drop]
    have h3 := h2 (by omega)
    rw [nth_get (by omega)] at h3
    rcases Nat.eq_zero_or_pos i with rfl | hp
    · exact h3
    · have := List.pairwise_iff_getElem.1 hs k (k + i) (by omega) (by omega) (by omega)
      omega
  have hs' := hs
  rw [← List.take_append_drop k l, List.pairwise_append] at hs'
  obtain ⟨s1, s2, s3⟩ := hs'
  refine ⟨?_, ?_, fun y => ?_⟩
  · rw [List.pairwise_append, List.pairwise_append]
    refine ⟨⟨s1, by simp, fun a ha b hb => by simp at hb; subst hb; exact ht a ha⟩, s2, fun a ha b hb => ?_⟩
    rw [List.mem_append] at ha
    rcases ha with ha | ha
    · exact s3 a ha b hb
    · simp at ha; subst ha; exact hd b hb
  · intro hm
    rw [← List.take_append_drop k l, List.mem_append] at hm
    rcases hm with hm | hm
    · have := ht x hm; omega
    · have := hd x hm; omega
  · conv => rhs; rw [← List.take_append_drop k l]
    simp only [List.mem_append, List.mem_singleton]
    constructor
    · rintro ((h | h) | h)
      · exact .inl (.inl h)
      · exact .inr h
      · exact .inl (.inr h)
    · rintro ((h | h) | h)
      · exact .inl (.inl h)
      · exact .inr h
      · exact .inl (.inr h)
theorem nth_take {l : List Int} {k j : Nat} (h : j < k) : nth (l.take k) j = nth l j := by
  unfold nth; rw [List.getD_eq_getElem?_getD, List.getD_eq_getElem?_getD, List.getElem?_take_of_lt h]
set_option maxHeartbeats 1000000 in
theorem g_Index (a : Option Addr) (n cap : Nat) (xs : List Int) (x : Int) (w : World) (h : Ints w a n cap xs) (hx : Fits x) :
    Calls Try.prog 136 #[.slice a n cap, .int .i64 x] w fun e w' => (∃ r : Int, e = .returned (.int .i64 r) ∧ decide (x ∈ xs) = decide (0 ≤ r)) ∧ Below w.heap.size w w' := by
  have hs := h.small
  have hlen := Lib.hid h.len.out
  go_enter Try.func136, Try.ntmps136
  go_wp2
  go_loopw [8] (fun i wr => ∃ k : Nat, k ≤ n ∧ i = .int .i64 k ∧ Hid (∀ j, j < k → nth xs j ≠ x) ∧ Hid (Below w.heap.size w wr)) (fun i _ => n - (intOf i).toNat)
  case atStart => exact ⟨0, by omega, rfl, fun j hj => by omega, Below.refl _ _⟩
  case round =>
    obtain ⟨k, hk, rfl, H, BW⟩ := hrel
    by_cases hlt : k < n
    · obtain ⟨b, off, rfl, hbl, hc⟩ := (h.below BW.out).at hlt
      by_cases hin : x = nth xs k
      · have hr : decide (x ∈ xs) = true := by
          rw [decide_eq_true_iff, hin]; exact nth_mem (by rw [hlen.out]; exact hlt)
        have hin2 : (x == nth xs k) = true := by rw [beq_iff_eq]; exact hin
        go_wp2
        go_ret
        exact ⟨⟨_, rfl, by rw [hr]; simp⟩, BW.out⟩
      · have hin2 : (x == nth xs k) = false := by rw [beq_eq_false_iff_ne]; exact hin
        go_wp2
        go_roundw
        case rel => exact ⟨k + 1, by omega, by go_num, (show Hid _ from fun j hj => by
            rcases Nat.lt_or_ge j k with g | g
            · exact H.out j g
            · obtain rfl : j = k := by omega
              exact fun e => hin e.symm), BW.out⟩
        case measure => simp [intOf]; omega
    · obtain rfl : k = n := by omega
      have hr : decide (x ∈ xs) = false := by
        rw [decide_eq_false_iff_not]
        intro hm
        obtain ⟨i, hi, e⟩ := mem_nth hm
        exact H.out i (by rw [hlen.out] at hi; exact hi) e
      go_wp2
      go_ret
      exact ⟨⟨_, rfl, by rw [hr]; simp⟩, BW.out⟩
set_option maxHeartbeats 1000000 in
theorem g_Contains (a : Option Addr) (n cap : Nat) (xs : List Int) (x : Int) (w : World) (h : Ints w a n cap xs) (hx : Fits x) :
    Calls Try.prog 102 #[.slice a n cap, .int .i64 x] w fun e w' => e = .returned (.bool (decide (x ∈ xs))) ∧ Below w.heap.size w w' := by
  go_enter Try.func102, Try.ntmps102
  go_wp2_with (go_at_call 136; refine (g_Index _ _ _ _ x _ h hx).mono ?_; rintro e w' ⟨⟨r, rfl, hr⟩, hb'⟩)
  go_ret
  exact ⟨ret_bool hr.symm, hb'⟩
set_option maxHeartbeats 1000000 in
theorem s_l1Has (a : Option Addr) (n cap : Nat) (xs : List Int) (x : Int) (w : World) (h : Ints w a n cap xs) (hx : Fits x) :
    Calls Try.prog 108 #[.slice a n cap, .int .i64 x] w fun e w' => e = .returned (.bool (decide (x ∈ xs))) ∧ Below w.heap.size w w' := by
  have hs := h.small
  have hlen := Lib.hid h.len.out
  go_enter Try.func108, Try.ntmps108
  go_wp2
  go_loopw [9] (fun i wr => ∃ k : Nat, k ≤ n ∧ i = .int .i64 k ∧ Hid (∀ j, j < k → nth xs j ≠ x) ∧ Hid (Below w.heap.size w wr)) (fun i _ => n - (intOf i).toNat)
  case atStart => exact ⟨0, by omega, rfl, fun j hj => by omega, Below.refl _ _⟩
  case round =>
    obtain ⟨k, hk, rfl, H, BW⟩ := hrel
    by_cases hlt : k < n
    · obtain ⟨b, off, rfl, hbl, hc⟩ := (h.below BW.out).at hlt
      by_cases hin : nth xs k = x
      · have hr : decide (x ∈ xs) = true := by
          rw [decide_eq_true_iff, ← hin]; exact nth_mem (by rw [hlen.out]; exact hlt)
        have hin2 : (nth xs k == x) = true := by rw [beq_iff_eq]; exact hin
        have HR := Lib.hid hr; clear hr
        go_wp2
        go_ret
        exact ⟨by rw [HR.out]; rfl, BW.out⟩
      · have hin2 : (nth xs k == x) = false := by rw [beq_eq_false_iff_ne]; exact hin
        go_wp2
        go_roundw
        case rel => exact ⟨k + 1, by omega, by go_num, (show Hid _ from fun j hj => by
            rcases Nat.lt_or_ge j k with g | g
            · exact H.out j g
            · obtain rfl : j = k := by omega
              exact hin), BW.out⟩
        case measure => simp [intOf]; omega
    · obtain rfl : k = n := by omega
      have hr : decide (x ∈ xs) = false := by
        rw [decide_eq_false_iff_not]
        intro hm
        obtain ⟨i, hi, e⟩ := mem_nth hm
        exact H.out i (by rw [hlen.out] at hi; exact hi) e
      have HR := Lib.hid hr; clear hr
      go_wp2
      go_ret
      exact ⟨by rw [HR.out]; rfl, BW.out⟩
def PutE (l : List Int) (x : Int) (w : World) (e : Ending) (w' : World) : Prop :=
  ∃ r n' c' l', e = .returned (.slice r n' c') ∧ Ints w' r n' c' l' ∧ Below w.heap.size w w' ∧ l'.Pairwise (· < ·) ∧ (∀ y, y ∈ l' ↔ y ∈ l ∨ y = x) ∧ (∀ ad, r = some ad → ∃ b off, ad = ⟨b, off, none⟩) ∧ n' = if x ∈ l then l.length else l.length + 1
set_option maxHeartbeats 2000000 in
theorem s_l1Put (a : Option Addr) (n cap : Nat) (l : List Int) (x : Int) (w : World) (h : Ints w a n cap l) (hs : Hid (l.Pairwise (· < ·))) (hn : n ≤ 1000) (hx : Fits x) (hpl : ∀ ad, a = some ad → ∃ b off, ad = ⟨b, off, none⟩) :
    Calls Try.prog 111 #[.slice a n cap, .int .i64 x] w (PutE l x w) := by
  have hlen := Lib.hid h.len.out
  have hcap := h.ncap
  have hcm := h.capm
  go_enter Try.func111, Try.ntmps111
  go_wp2
  go_loopw [5] (fun i wr => ∃ k : Nat, k ≤ n ∧ i = .int .i64 k ∧ Hid (∀ j, j < k → nth l j < x) ∧ Hid (Below w.heap.size w wr)) (fun i _ => n - (intOf i).toNat)
  case atStart => exact ⟨0, by omega, rfl, fun j hj => by omega, Below.refl _ _⟩
  case round =>
    obtain ⟨k, hk, rfl, H, BW⟩ := hrel
    by_cases hlt : k < n
    · obtain ⟨b, off, rfl, hbl, hc⟩ := (h.below BW.out).at hlt
      by_cases hgo : nth l k < x
      · go_wp2
        go_roundw
        case rel => exact ⟨k + 1, by omega, by go_num, (show Hid _ from fun j hj => by
            rcases Nat.lt_or_ge j k with g | g
            · exact H.out j g
            · obtain rfl : j = k := by omega
              exact hgo), BW.out⟩
        case measure => simp [intOf]; omega
      · by_cases heq : nth l k = x
        · have hm : x ∈ l := by rw [← heq]; exact nth_mem (by rw [hlen.out]; exact hlt)
          have HM := Lib.hid hm; clear hm
          go_wp2
          go_ret
          exact ⟨_, _, _, l, rfl, h.below BW.out, BW.out, hs.out, fun y => ⟨.inl, fun hy => by rcases hy with hy | rfl; exact hy; exact HM.out⟩, hpl, by rw [if_pos HM.out, hlen.out]⟩
        · have hgt : x < nth l k := by omega
          obtain ⟨p1, p2, p3⟩ := put_pure hs.out (k := k) (x := x) (by rw [hlen.out]; omega) H.out (fun _ => hgt)
          have hT := Lib.hid ((h.below BW.out).take hk); have hD := Lib.hid ((h.below BW.out).drop hk)
          have HP := Lib.hid (⟨p1, p2, p3⟩ : _ ∧ _ ∧ _); clear p1 p2 p3
          have HF : Hid (∀ y ∈ l, Fits y) := h.wf.out
          have hz := BW.out.size
          have tok1 : True := trivial
          have tok2 : True := trivial
          go_wp2_with (at_builtin; first
            | (have t0 := tok1; clear t0 tok1; refine wp_apps _ wr.heap.size 0 _ [] (l.take k) _ _ _ rfl _ _ rfl rfl rfl (hT.out.alloc _) (World.ownsRow_lit wr #[] 0 (Nat.le_refl _) (by decide) rfl) (by simp) (by omega) ?_; intro v6 w6 hv6 hb6 hg6; rw [Nat.zero_add, List.nil_append] at hv6; have hz6 : wr.heap.size ≤ w6.heap.size := Nat.le_trans (by simp) hb6.size; have hbb6 := (bel_alloc wr (.cells #[] 3)).trans hb6; clear hg6)
            | (have t0 := tok2; clear t0 tok2; refine wp_app w6 wr.heap.size _ _ _ x _ _ rfl _ _ rfl rfl rfl (by first | rfl | simp) hv6 hz6 (by omega) ?_; intro v7 w7 hv7 hb7 hg7; have hz7 : wr.heap.size ≤ w7.heap.size := Nat.le_trans hz6 hb7.size; have hbb7 := hbb6.trans hb7; have hD7 := Lib.hid (hD.out.below hbb7); clear hg7)
            | (refine wp_apps w7 wr.heap.size _ _ _ (l.drop k) _ _ _ rfl _ _ rfl rfl rfl hD7.out hv7 hz7 (by omega) ?_; intro v8 w8 hv8 hb8 hg8; have hbb8 := hbb7.trans hb8; clear hg8))
          obtain ⟨r8, c8, rfl, ho8⟩ := OwnI.of hv8 (by omega) (fun y hy => by
            rcases (HP.out.2.2 y).1 hy with k' | k'
            · exact HF.out y k'
            · rw [k']; exact hx)
          go_ret
          exact ⟨r8, _, c8, _, rfl, ho8.ints, BW.out.trans (hbb8.mono hz), HP.out.1, HP.out.2.2, (fun ad e => by obtain ⟨b8, o8, e8, _⟩ := ho8.ints.at (i := 0) (by omega); rw [e8] at e; cases e; exact ⟨_, _, rfl⟩), by rw [if_neg HP.out.2.1, hlen.out]; first | done | omega⟩
    · obtain rfl : k = n := by omega
      obtain ⟨p1, p2, p3⟩ := put_pure hs.out (k := k) (x := x) (by rw [hlen.out]; omega) H.out (fun g => by rw [hlen.out] at g; omega)
      cases a with
      | some ad =>
        obtain ⟨b, off, rfl⟩ : ∃ b off, ad = ⟨b, off, none⟩ := hpl ad rfl
        have hdr : Hid (l.drop k = []) := by show _ = _; rw [List.drop_eq_nil_iff, hlen.out]; exact Nat.le_refl _
        have hT := Lib.hid ((h.below BW.out).take hk); have hD := Lib.hid ((h.below BW.out).drop hk)
        by_cases hck : cap = k
        · obtain rfl : k = cap := hck.symm
          have HP := Lib.hid (⟨p1, p2, p3⟩ : _ ∧ _ ∧ _); clear p1 p2 p3
          have HF : Hid (∀ y ∈ l, Fits y) := h.wf.out
          have hz := BW.out.size
          have tok1 : True := trivial
          have tok2 : True := trivial
          go_wp2_with (at_builtin; first
            | (have t0 := tok1; clear t0 tok1; refine wp_apps _ wr.heap.size 0 _ [] (l.take k) _ _ _ rfl _ _ rfl rfl rfl (hT.out.alloc _) (World.ownsRow_lit wr #[] 0 (Nat.le_refl _) (by decide) rfl) (by simp) (by omega) ?_; intro v6 w6 hv6 hb6 hg6; rw [Nat.zero_add, List.nil_append] at hv6; have hz6 : wr.heap.size ≤ w6.heap.size := Nat.le_trans (by simp) hb6.size; have hbb6 := (bel_alloc wr (.cells #[] 3)).trans hb6; clear hg6)
            | (have t0 := tok2; clear t0 tok2; refine wp_app w6 wr.heap.size _ _ _ x _ _ rfl _ _ rfl rfl rfl (by first | rfl | simp) hv6 hz6 (by omega) ?_; intro v7 w7 hv7 hb7 hg7; have hz7 : wr.heap.size ≤ w7.heap.size := Nat.le_trans hz6 hb7.size; have hbb7 := hbb6.trans hb7; clear hg7)
            | (refine wp_apps w7 wr.heap.size _ _ _ (l.drop k) _ 0 _ rfl _ _ rfl rfl rfl (by rw [hdr.out]; exact Ints.empty (by omega)) hv7 hz7 (by omega) ?_; intro v8 w8 hv8 hb8 hg8; have hbb8 := hbb7.trans hb8; clear hg8))
          obtain ⟨r8, c8, rfl, ho8⟩ := OwnI.of hv8 (by omega) (fun y hy => by
            rcases (HP.out.2.2 y).1 hy with k' | k'
            · exact HF.out y k'
            · rw [k']; exact hx)
          go_ret
          exact ⟨r8, _, c8, _, rfl, ho8.ints, BW.out.trans (hbb8.mono hz), HP.out.1, HP.out.2.2, (fun ad e => by obtain ⟨b8, o8, e8, _⟩ := ho8.ints.at (i := 0) (by omega); rw [e8] at e; cases e; exact ⟨_, _, rfl⟩), by rw [if_neg HP.out.2.1, hlen.out]; first | done | omega⟩
        · have HP := Lib.hid (⟨p1, p2, p3⟩ : _ ∧ _ ∧ _); clear p1 p2 p3
          have HF : Hid (∀ y ∈ l, Fits y) := h.wf.out
          have hz := BW.out.size
          have tok1 : True := trivial
          have tok2 : True := trivial
          go_wp2_with (at_builtin; first
            | (have t0 := tok1; clear t0 tok1; refine wp_apps _ wr.heap.size 0 _ [] (l.take k) _ _ _ rfl _ _ rfl rfl rfl (hT.out.alloc _) (World.ownsRow_lit wr #[] 0 (Nat.le_refl _) (by decide) rfl) (by simp) (by omega) ?_; intro v6 w6 hv6 hb6 hg6; rw [Nat.zero_add, List.nil_append] at hv6; have hz6 : wr.heap.size ≤ w6.heap.size := Nat.le_trans (by simp) hb6.size; have hbb6 := (bel_alloc wr (.cells #[] 3)).trans hb6; clear hg6)
            | (have t0 := tok2; clear t0 tok2; refine wp_app w6 wr.heap.size _ _ _ x _ _ rfl _ _ rfl rfl rfl (by first | rfl | simp) hv6 hz6 (by omega) ?_; intro v7 w7 hv7 hb7 hg7; have hz7 : wr.heap.size ≤ w7.heap.size := Nat.le_trans hz6 hb7.size; have hbb7 := hbb6.trans hb7; clear hg7)
            | (refine wp_apps w7 wr.heap.size _ _ _ (l.drop k) _ 0 _ rfl _ _ rfl rfl rfl (by rw [hdr.out]; exact Ints.empty (by omega)) hv7 hz7 (by omega) ?_; intro v8 w8 hv8 hb8 hg8; have hbb8 := hbb7.trans hb8; clear hg8))
          obtain ⟨r8, c8, rfl, ho8⟩ := OwnI.of hv8 (by omega) (fun y hy => by
            rcases (HP.out.2.2 y).1 hy with k' | k'
            · exact HF.out y k'
            · rw [k']; exact hx)
          go_ret
          exact ⟨r8, _, c8, _, rfl, ho8.ints, BW.out.trans (hbb8.mono hz), HP.out.1, HP.out.2.2, (fun ad e => by obtain ⟨b8, o8, e8, _⟩ := ho8.ints.at (i := 0) (by omega); rw [e8] at e; cases e; exact ⟨_, _, rfl⟩), by rw [if_neg HP.out.2.1, hlen.out]; first | done | omega⟩
      | none =>
        obtain ⟨rfl, rfl, rfl⟩ := h.nil_n
        have hT : Hid (Ints wr none 0 0 (([] : List Int).take 0)) := h.below BW.out
        have hD : Hid (Ints wr none 0 0 (([] : List Int).drop 0)) := h.below BW.out
        have HP := Lib.hid (⟨p1, p2, p3⟩ : _ ∧ _ ∧ _); clear p1 p2 p3
        have HF : Hid (∀ y ∈ ([] : List Int), Fits y) := h.wf.out
        have hz := BW.out.size
        have tok1 : True := trivial
        have tok2 : True := trivial
        go_wp2_with (at_builtin; first
          | (have t0 := tok1; clear t0 tok1; refine wp_apps _ wr.heap.size 0 _ [] (([] : List Int).take 0) _ _ _ rfl _ _ rfl rfl rfl (hT.out.alloc _) (World.ownsRow_lit wr #[] 0 (Nat.le_refl _) (by decide) rfl) (by simp) (by omega) ?_; intro v6 w6 hv6 hb6 hg6; rw [Nat.zero_add, List.nil_append] at hv6; have hz6 : wr.heap.size ≤ w6.heap.size := Nat.le_trans (by simp) hb6.size; have hbb6 := (bel_alloc wr (.cells #[] 3)).trans hb6; clear hg6)
          | (have t0 := tok2; clear t0 tok2; refine wp_app w6 wr.heap.size _ _ _ x _ _ rfl _ _ rfl rfl rfl (by first | rfl | simp) hv6 hz6 (by omega) ?_; intro v7 w7 hv7 hb7 hg7; have hz7 : wr.heap.size ≤ w7.heap.size := Nat.le_trans hz6 hb7.size; have hbb7 := hbb6.trans hb7; have hD7 := Lib.hid (hD.out.below hbb7); clear hg7)
          | (refine wp_apps w7 wr.heap.size _ _ _ (([] : List Int).drop 0) _ _ _ rfl _ _ rfl rfl rfl hD7.out hv7 hz7 (by omega) ?_; intro v8 w8 hv8 hb8 hg8; have hbb8 := hbb7.trans hb8; clear hg8))
        obtain ⟨r8, c8, rfl, ho8⟩ := OwnI.of hv8 (by omega) (fun y hy => by
          rcases (HP.out.2.2 y).1 hy with k' | k'
          · exact HF.out y k'
          · rw [k']; exact hx)
        go_ret
        exact ⟨r8, _, c8, _, rfl, ho8.ints, BW.out.trans (hbb8.mono hz), HP.out.1, HP.out.2.2, (fun ad e => by obtain ⟨b8, o8, e8, _⟩ := ho8.ints.at (i := 0) (by omega); rw [e8] at e; cases e; exact ⟨_, _, rfl⟩), by rw [if_neg HP.out.2.1, hlen.out]; first | done | omega⟩
end Go.Proofs.Ytfichpppjpgahaa
