/-
  Valid rows, columns, weights, labels; equal lists.
-/
import Derived.Test.YtfejpmfcognikaaE2
namespace Go.Proofs.Ytfejpmfcognikaa
open Go.RowKit
set_option linter.unusedVariables false
set_option linter.unusedSimpArgs false

def rowsB (l : List (List Int)) (m k : Int) : Bool := inB m 0 24 && (inB k 1 8 && (decide ((l.length : Int) = m) && listsB l k))
def colsB (l : List (List Int)) : Bool := inB l.length 1 8 && (inB (rowN l 0).length 0 24 && listsB l (rowN l 0).length)
def wtB (l : List (List Int)) (m : Int) : Bool := decide (l.length ≤ 8) && listsB l m
def badR (L : Int) (x : List Int) : Bool := !(decide ((x.length : Int) = L) && bitsB x)
def labB (xs : List Int) : Bool := allIn xs 0 65535
theorem rowsB_iff {l : List (List Int)} {m k : Int} : rowsB l m k = true ↔ (0 ≤ m ∧ m ≤ 24) ∧ (1 ≤ k ∧ k ≤ 8) ∧ (l.length : Int) = m ∧ listsB l k = true := by
  unfold rowsB; simp only [Bool.and_eq_true, decide_eq_true_iff, inB_iff]
theorem colsB_iff {l : List (List Int)} : colsB l = true ↔ (1 ≤ (l.length : Int) ∧ (l.length : Int) ≤ 8) ∧ (0 ≤ ((rowN l 0).length : Int) ∧ ((rowN l 0).length : Int) ≤ 24) ∧ listsB l (rowN l 0).length = true := by
  unfold colsB; simp only [Bool.and_eq_true, inB_iff]
theorem wtB_iff {l : List (List Int)} {m : Int} : wtB l m = true ↔ l.length ≤ 8 ∧ listsB l m = true := by
  unfold wtB; simp only [Bool.and_eq_true, decide_eq_true_iff]
theorem secB_iff {xs : List Int} : secB xs = true ↔ (1 ≤ (xs.length : Int) ∧ (xs.length : Int) ≤ 8) ∧ bitsB xs = true := by
  unfold secB; simp only [Bool.and_eq_true, inB_iff]
theorem chosB_iff {xs : List Int} : chosB xs = true ↔ (0 ≤ (xs.length : Int) ∧ (xs.length : Int) ≤ 24) ∧ bitsB xs = true := by
  unfold chosB; simp only [Bool.and_eq_true, inB_iff]

set_option maxHeartbeats 1000000 in
theorem i_areBitLists1 (r : Option Addr) (m c : Nat) (x : List Int) (L : Int) (b : Nat) (w : World) (hc : w.cell? ⟨b, 0, none⟩ = some (.int .i64 L)) (h : Ints w r m c x) :
    Calls Try.prog 131 #[.slice r m c, .pointer (some ⟨b, 0, none⟩)] w fun e w' => e = .returned (.bool (!(decide ((x.length : Int) = L) && bitsB x))) ∧ Below w.heap.size w w' := by
  have hs := h.small
  rw [h.len.out]
  by_cases h1 : (m : Int) = L
  · subst h1
    rw [show (!(decide ((m : Int) = (m : Int)) && bitsB x)) = !bitsB x by simp]
    go_enter Try.func131, Try.ntmps131
    go_wp2_with (go_at_call 109; refine (i_allBits _ _ _ _ _ h).mono ?_; rintro e w' ⟨rfl, hb⟩)
    go_ret
    exact ⟨rfl, hb⟩
  · have h1b : ((m : Int) != L) = true := by simp [h1]
    have h1c : ((m : Int) == L) = false := by simp [h1]
    rw [show (!(decide ((m : Int) = L) && bitsB x)) = true by simp [h1]]
    go_enter Try.func131, Try.ntmps131
    go_wp2
    go_ret
    exact ⟨rfl, Below.refl _ _⟩
set_option maxHeartbeats 1000000 in
theorem i_areBitLists (a : Option Addr) (n cap : Nat) (xss : List (List Int)) (L : Int) (w : World) (h : Rws w a n cap xss) :
    Calls Try.prog 111 #[.slice a n cap, .int .i64 L] w fun e w' => e = .returned (.bool (listsB xss L)) ∧ Below w.heap.size w w' := by
  have eA : ∀ args w, (callFunc 131 args).run Try.prog w = .ok (.enter 131 args) w := enters_of Try.func131 (by kernel_rfl) rfl
  have hg := g_ContainsFuncR a n cap xss (badR L) 131 #[.pointer (some ⟨w.heap.size, 0, none⟩)] eA (w.alloc (.cells #[.int .i64 L] 3)) (h.alloc _) (fun W r m c x hW hx => by
    have hc : W.cell? ⟨w.heap.size, 0, none⟩ = some (.int .i64 L) := by
      rw [hW.cell (p := ⟨w.heap.size, 0, none⟩) (by simp)]
      exact World.cell?_alloc_at _ _ _ _ rfl
    exact (i_areBitLists1 r m c x L w.heap.size W hc hx).mono fun e w' ⟨he, hw⟩ => ⟨he, bel_trans hW hw⟩)
  have HG := Lib.hid hg; clear hg
  have hall : Hid ((!xss.any (badR L)) = listsB xss L) := by show _ = _; unfold listsB badR; rw [List.all_eq_not_any_not]
  go_enter Try.func111, Try.ntmps111
  go_wp2_with (go_at_call 62; refine HG.out.mono ?_; rintro e w' ⟨rfl, hb'⟩)
  go_ret
  exact ⟨by first | exact ret_bool hall.out | (rw [← hall.out]; rfl), ((Below.refl _ _).alloc (Nat.le_refl _) _).trans (hb'.mono (by simp))⟩
set_option maxHeartbeats 1000000 in
theorem i_areRows (a : Option Addr) (n cap : Nat) (xss : List (List Int)) (m k : Int) (w : World) (h : Rws w a n cap xss) :
    Calls Try.prog 57 #[.slice a n cap, .int .i64 m, .int .i64 k] w fun e w' => e = .returned (.bool (rowsB xss m k)) ∧ Below w.heap.size w w' := by
  have hs := h.small
  unfold rowsB
  rw [h.len.out]
  cases h1 : inB m 0 24 with
  | false =>
    go_enter Try.func57, Try.ntmps57
    go_wp2_with (first | (go_at_call 54; refine (i_isTransfers _ _).mono ?_; rintro e w' ⟨rfl, rfl⟩))
    all_goals
      go_ret
      exact ⟨rfl, Below.refl _ _⟩
  | true =>
    cases h2 : inB k 1 8 with
    | false =>
      go_enter Try.func57, Try.ntmps57
      go_wp2_with (first | (go_at_call 54; refine (i_isTransfers _ _).mono ?_; rintro e w' ⟨rfl, rfl⟩) | (go_at_call 45; refine (i_isColumns _ _).mono ?_; rintro e w' ⟨rfl, rfl⟩))
      all_goals
        go_ret
        exact ⟨rfl, Below.refl _ _⟩
    | true =>
      by_cases h3 : (n : Int) = m
      · subst h3
        rw [show decide ((n : Int) = (n : Int)) = true by simp]
        go_enter Try.func57, Try.ntmps57
        go_wp2_with (first | (go_at_call 54; refine (i_isTransfers _ _).mono ?_; rintro e w' ⟨rfl, rfl⟩) | (go_at_call 45; refine (i_isColumns _ _).mono ?_; rintro e w' ⟨rfl, rfl⟩) | (go_at_call 111; refine (i_areBitLists _ _ _ xss _ _ h).mono ?_; rintro e w' ⟨rfl, hb⟩))
        all_goals
          go_ret
          exact ⟨rfl, hb⟩
      · have h3b : ((n : Int) == m) = false := by simp [h3]
        rw [show decide ((n : Int) = m) = false by simp [h3]]
        go_enter Try.func57, Try.ntmps57
        go_wp2_with (first | (go_at_call 54; refine (i_isTransfers _ _).mono ?_; rintro e w' ⟨rfl, rfl⟩) | (go_at_call 45; refine (i_isColumns _ _).mono ?_; rintro e w' ⟨rfl, rfl⟩))
        all_goals
          go_ret
          exact ⟨rfl, Below.refl _ _⟩
set_option maxHeartbeats 1000000 in
theorem i_areColumns (a : Option Addr) (n cap : Nat) (xss : List (List Int)) (w : World) (h : Rws w a n cap xss) :
    Calls Try.prog 51 #[.slice a n cap] w fun e w' => ∃ q : Int, e = .returned (.tuple #[.int .i64 q, .bool (colsB xss)]) ∧ (colsB xss = true → q = ((rowN xss 0).length : Int)) ∧ Below w.heap.size w w' := by
  have hs := h.small
  unfold colsB
  rw [h.len.out]
  cases h1 : inB (n : Int) 1 8 with
  | false =>
    go_enter Try.func51, Try.ntmps51
    go_wp2_with (first | (go_at_call 45; refine (i_isColumns _ _).mono ?_; rintro e w' ⟨rfl, rfl⟩))
    all_goals
      go_ret2
      exact ⟨_, rfl, (fun q => by simp at q), Below.refl _ _⟩
  | true =>
    obtain ⟨n1, n2⟩ := inB_iff.1 h1
    obtain ⟨b, off, r, m, c, rfl, hbl, hc, hri⟩ := h.at (i := 0) (by omega)
    rw [Nat.add_zero] at hc
    have hml := hri.len.out
    have hms := hri.small
    rw [hml]
    have HML := Lib.hid hml
    clear hml hri
    have h0 : (0 : Int) < (n : Int) := by omega
    cases h2 : inB (m : Int) 0 24 with
    | false =>
      go_enter Try.func51, Try.ntmps51
      go_wp2_with (first | (go_at_call 45; refine (i_isColumns _ _).mono ?_; rintro e w' ⟨rfl, rfl⟩) | (go_at_call 54; refine (i_isTransfers _ _).mono ?_; rintro e w' ⟨rfl, rfl⟩))
      all_goals
        go_ret2
        exact ⟨_, rfl, (fun q => by simp at q), Below.refl _ _⟩
    | true =>
      go_enter Try.func51, Try.ntmps51
      go_wp2_with (first | (go_at_call 45; refine (i_isColumns _ _).mono ?_; rintro e w' ⟨rfl, rfl⟩) | (go_at_call 54; refine (i_isTransfers _ _).mono ?_; rintro e w' ⟨rfl, rfl⟩) | (go_at_call 111; refine (i_areBitLists _ _ _ xss _ _ h).mono ?_; rintro e w' ⟨rfl, hb⟩))
      all_goals
        go_ret2
        exact ⟨_, rfl, (fun q => rfl), hb⟩
set_option maxHeartbeats 400000 in
theorem i_lab1 (x : Int) (w : World) : Calls Try.prog 64 #[.int .i64 x] w fun e w' => e = .returned (.bool (inB x 0 65535)) ∧ w = w' := by
  go_enter Try.func64, Try.ntmps64
  go_wp2_with (go_at_call 49; refine (i_within _ _ _ _).mono ?_; rintro e w' ⟨rfl, rfl⟩)
  go_ret
  exact ⟨rfl, rfl⟩
set_option maxHeartbeats 400000 in
theorem i_areLabels (a : Option Addr) (n cap : Nat) (xs : List Int) (w : World) (h : Ints w a n cap xs) :
    Calls Try.prog 58 #[.slice a n cap] w fun e w' => e = .returned (.bool (labB xs)) ∧ Below w.heap.size w w' := by
  have HG := Lib.hid (i_areAll a n cap xs (fun x => inB x 0 65535) 64 #[] (enters_of Try.func64 (by kernel_rfl) rfl) w h (fun W x _ _ => i_lab1 x W))
  go_enter Try.func58, Try.ntmps58
  go_wp2_with (go_at_call 109; refine HG.out.mono ?_; rintro e w' ⟨rfl, hb⟩)
  go_ret
  exact ⟨rfl, hb⟩
set_option maxHeartbeats 400000 in
theorem s_lbAll (a : Option Addr) (n cap : Nat) (xs : List Int) (w : World) (h : Ints w a n cap xs) (hn : n ≤ 400) :
    Calls Try.prog 94 #[.slice a n cap] w fun e w' => e = .returned (.bool (labB xs)) ∧ w = w' := by
  go_enter Try.func94, Try.ntmps94
  go_wp2_with (go_at_call 124; refine (s_l1All _ _ _ xs _ _ _ h).mono ?_; rintro e w' ⟨rfl, rfl⟩)
  go_ret
  exact ⟨rfl, rfl⟩

set_option maxHeartbeats 2000000 in
theorem s_oxRows (a : Option Addr) (n cap : Nat) (xss : List (List Int)) (m k : Int) (w : World) (h : Rws w a n cap xss) (hk : 1 ≤ k ∧ k ≤ 8) :
    Calls Try.prog 93 #[.int .i64 m, .int .i64 k, .slice a n cap] w fun e w' => e = .returned (.bool (rowsB xss m k)) ∧ w = w' := by
  have hs := h.small
  have hl := h.len
  obtain ⟨hk1, hk2⟩ := hk
  go_enter Try.func93, Try.ntmps93
  go_wp2
  go_loop [11] (fun i => ∃ t : Nat, t ≤ n ∧ i = .int .i64 t ∧ Hid (∀ j, j < t → ((rowN xss j).length : Int) = k ∧ bitsB (rowN xss j) = true)) (fun i => n - (intOf i).toNat)
  case atStart => exact ⟨0, by omega, rfl, fun j hj => by omega⟩
  case round =>
    obtain ⟨t, ht, rfl, HJ⟩ := hrel
    by_cases hlt : t < n
    · obtain ⟨b, off, r, q, c, rfl, hbl, hc, hri⟩ := h.at hlt
      have hq := hri.len.out
      have hqs := hri.small
      by_cases h1 : (q : Int) = k
      · have HG := Lib.hid (s_btGood r q c (rowN xss t) 8 w hri)
        have h8 : decide (((rowN xss t).length : Int) ≤ 8) = true := by rw [hq]; simp; omega
        rw [h8, Bool.true_and] at HG
        have HQ := Lib.hid hq; clear hq hri h8
        cases h2 : bitsB (rowN xss t) with
        | true =>
          rw [h2] at HG
          subst h1
          go_wp2_with (go_at_call 104; refine HG.out.mono ?_; rintro e w' ⟨rfl, rfl⟩)
          go_round
          case rel => exact ⟨t + 1, by omega, by go_num, (show Hid _ from fun j hj => by
            rcases Nat.lt_or_ge j t with g | g
            · exact HJ.out j g
            · obtain rfl : j = t := by omega
              exact ⟨by rw [HQ.out], h2⟩)⟩
          case measure => simp [intOf]; omega
        | false =>
          rw [h2] at HG
          have HR : Hid (rowsB xss m k = false) := by
            show _ = _
            unfold rowsB
            rw [listsB_no (i := t) (by rw [hl.out]; exact hlt) (fun q => by rw [h2] at q; cases q.2)]
            simp
          subst h1
          go_wp2_with (go_at_call 104; refine HG.out.mono ?_; rintro e w' ⟨rfl, rfl⟩)
          go_ret
          exact ⟨by rw [HR.out]; try rfl, rfl⟩
      · have HR : Hid (rowsB xss m k = false) := by
          show _ = _
          unfold rowsB
          rw [listsB_no (i := t) (by rw [hl.out]; exact hlt) (fun q' => h1 (by rw [← hq]; exact q'.1))]
          simp
        have h1b : ((q : Int) != k) = true := by simp [h1]
        have h1c : ((q : Int) == k) = false := by simp [h1]
        clear hq hri
        go_wp2
        all_goals
          go_ret
          exact ⟨by rw [HR.out]; try rfl, rfl⟩
    · obtain rfl : t = n := by omega
      have HLS := Lib.hid (listsB_mk (l := xss) (m := k) (by rw [hl.out]; exact HJ.out))
      by_cases h1 : (t : Int) = m
      · have HR : Hid (rowsB xss m k = inB m 0 24) := by
          show _ = _
          unfold rowsB
          rw [HLS.out, hl.out, inB_iff.2 ⟨hk1, hk2⟩]
          simp [h1]
        subst h1
        go_wp2_with (go_at_call 87; refine (s_l1In _ _ _ _).mono ?_; rintro e w' ⟨rfl, rfl⟩)
        all_goals
          go_ret
          exact ⟨by rw [HR.out]; try rfl, rfl⟩
      · have HR : Hid (rowsB xss m k = false) := by
          show _ = _
          unfold rowsB
          rw [hl.out]
          simp [h1]
        have h1b : ((t : Int) == m) = false := by simp [h1]
        go_wp2
        all_goals
          go_ret
          exact ⟨by rw [HR.out]; try rfl, rfl⟩
set_option maxHeartbeats 2000000 in
theorem s_oxColumns (a : Option Addr) (n cap : Nat) (xss : List (List Int)) (k : Int) (w : World) (h : Rws w a n cap xss) :
    Calls Try.prog 84 #[.int .i64 k, .slice a n cap] w fun e w' => e = .returned (.bool (decide ((xss.length : Int) = k) && colsB xss)) ∧ w = w' := by
  have hs := h.small
  have hl := h.len
  by_cases h0 : (n : Int) = k
  rotate_left
  · have HR : Hid ((decide ((xss.length : Int) = k) && colsB xss) = false) := by show _ = _; rw [hl.out]; simp [h0]
    have h0b : ((n : Int) != k) = true := by simp [h0]
    have h0c : ((n : Int) == k) = false := by simp [h0]
    go_enter Try.func84, Try.ntmps84
    go_wp2
    all_goals
      go_ret
      exact ⟨by rw [HR.out]; try rfl, rfl⟩
  have HE : Hid ((decide ((xss.length : Int) = k) && colsB xss) = colsB xss) := by show _ = _; rw [hl.out]; simp [h0]
  subst h0
  cases h1 : inB (n : Int) 1 8 with
  | false =>
    have HR : Hid (colsB xss = false) := by show _ = _; unfold colsB; rw [hl.out, h1]; rfl
    go_enter Try.func84, Try.ntmps84
    go_wp2_with (first | (go_at_call 87; refine (s_l1In _ _ _ _).mono ?_; rintro e w' ⟨rfl, rfl⟩))
    all_goals
      go_ret
      exact ⟨by rw [HE.out, HR.out]; try rfl, rfl⟩
  | true =>
    obtain ⟨n1, n2⟩ := inB_iff.1 h1
    obtain ⟨b0, off0, r0, q0, c0, e0, hb0, hc0, hr0⟩ := h.at (i := 0) (by omega)
    rw [Nat.add_zero] at hc0
    have HQ0 := hr0.len
    have hq0s := hr0.small
    clear hr0
    have hn0 : (0 : Int) < (n : Int) := by omega
    have HH := Lib.hid h; clear h
    subst e0
    go_enter Try.func84, Try.ntmps84
    go_wp2_with (first | (go_at_call 87; refine (s_l1In _ _ _ _).mono ?_; rintro e w' ⟨rfl, rfl⟩))
    go_loop [18] (fun i => ∃ t : Nat, t ≤ n ∧ i = .int .i64 t ∧ Hid (∀ j, j < t → (rowN xss j).length = q0 ∧ chosB (rowN xss j) = true)) (fun i => n - (intOf i).toNat)
    case atStart => exact ⟨0, by omega, rfl, fun j hj => by omega⟩
    case round =>
      obtain ⟨t, ht, rfl, HJ⟩ := hrel
      by_cases hlt : t < n
      · obtain ⟨b, off, r, q, c, e, hbl, hc, hri⟩ := HH.out.at hlt
        simp only [Option.some.injEq, Addr.mk.injEq] at e
        obtain ⟨rfl, rfl, _⟩ := e
        have hq := hri.len.out
        have hqs := hri.small
        by_cases h3 : q = q0
        · have HG := Lib.hid (s_oxChoices r q c (rowN xss t) w hri)
          have HQ := Lib.hid hq; clear hq hri
          subst h3
          cases h2 : chosB (rowN xss t) with
          | true =>
            rw [h2] at HG
            go_wp2_with (go_at_call 77; refine HG.out.mono ?_; rintro e w' ⟨rfl, rfl⟩)
            go_round
            case rel => exact ⟨t + 1, by omega, by go_num, (show Hid _ from fun j hj => by
              rcases Nat.lt_or_ge j t with g | g
              · exact HJ.out j g
              · obtain rfl : j = t := by omega
                exact ⟨by rw [HQ.out], h2⟩)⟩
            case measure => simp [intOf]; omega
          | false =>
            rw [h2] at HG
            have HR : Hid (colsB xss = false) := by
              show _ = _
              cases hcb : colsB xss with
              | false => rfl
              | true =>
                have hh := colsB_iff.1 hcb
                have := listsB_at hh.2.2 (i := t) (by rw [hl.out]; exact hlt)
                rw [show chosB (rowN xss t) = true from chosB_iff.2 ⟨by omega, this.2⟩] at h2
                cases h2
            go_wp2_with (go_at_call 77; refine HG.out.mono ?_; rintro e w' ⟨rfl, rfl⟩)
            go_ret
            exact ⟨by rw [HE.out, HR.out]; try rfl, rfl⟩
        · have HR : Hid (colsB xss = false) := by
            show _ = _
            cases hcb : colsB xss with
            | false => rfl
            | true =>
              have hh := colsB_iff.1 hcb
              have := listsB_at hh.2.2 (i := t) (by rw [hl.out]; exact hlt)
              rw [hq, HQ0.out] at this
              omega
          have h1b : ((q : Int) != (q0 : Int)) = true := by simp; omega
          have h1c : ((q : Int) == (q0 : Int)) = false := by simp; omega
          clear hq hri
          go_wp2
          all_goals
            go_ret
            exact ⟨by rw [HE.out, HR.out]; try rfl, rfl⟩
      · obtain rfl : t = n := by omega
        have HR : Hid (colsB xss = true) := by
          show _ = _
          have h00 := HJ.out 0 (by omega)
          have hcc := chosB_iff.1 h00.2
          refine colsB_iff.2 ⟨by rw [hl.out]; omega, hcc.1, listsB_mk fun i hi => ?_⟩
          rw [hl.out] at hi
          have hji := HJ.out i hi
          exact ⟨by rw [hji.1, h00.1], (chosB_iff.1 hji.2).2⟩
        go_wp2
        go_ret
        exact ⟨by rw [HE.out, HR.out]; try rfl, rfl⟩

set_option maxHeartbeats 1000000 in
theorem g_Equal (a a' : Option Addr) (n n' cap cap' : Nat) (xs ys : List Int) (w : World) (h : Ints w a n cap xs) (h' : Ints w a' n' cap' ys) :
    Calls Try.prog 80 #[.slice a n cap, .slice a' n' cap'] w fun e w' => e = .returned (.bool (decide (xs = ys))) ∧ Below w.heap.size w w' := by
  have hs := h.small
  have hl := h.len; have hl' := h'.len
  by_cases h0 : n = n'
  rotate_left
  · have HR : Hid (decide (xs = ys) = false) := decide_eq_false fun q => h0 (by rw [← hl.out, ← hl'.out, q])
    have h0b : ((n : Int) != (n' : Int)) = true := by simp; omega
    have h0c : ((n : Int) == (n' : Int)) = false := by simp; omega
    go_enter Try.func80, Try.ntmps80
    go_wp2
    all_goals
      go_ret
      exact ⟨by rw [HR.out]; try rfl, Below.refl _ _⟩
  subst h0
  go_enter Try.func80, Try.ntmps80
  go_wp2
  go_loopw [13] (fun i wr => ∃ k : Nat, k ≤ n ∧ i = .int .i64 k ∧ Hid (∀ j, j < k → nth xs j = nth ys j) ∧ Hid (Below w.heap.size w wr)) (fun i _ => n - (intOf i).toNat)
  case atStart => exact ⟨0, by omega, rfl, fun j hj => by omega, Below.refl _ _⟩
  case round =>
    obtain ⟨k, hk, rfl, HJ, BW⟩ := hrel
    by_cases hlt : k < n
    · obtain ⟨b, off, rfl, hbl, hc⟩ := (h.below BW.out).at hlt
      obtain ⟨b', off', rfl, hbl', hc'⟩ := (h'.below BW.out).at hlt
      have hlti : (k : Int) < (n : Int) := by omega
      by_cases he : nth xs k = nth ys k
      · have HJ2 : Hid (∀ j, j < k + 1 → nth xs j = nth ys j) := fun j hj => by
          rcases Nat.lt_or_ge j k with g | g
          · exact HJ.out j g
          · obtain rfl : j = k := by omega
            exact he
        rw [he] at hc
        clear he
        go_wp2
        go_quiet (fail)
        go_wp2
        go_roundw
        case rel => exact ⟨k + 1, by omega, by go_num, HJ2.out, (show Hid _ from below_drewN BW.out _)⟩
        case measure => simp [intOf]; omega
      · have HR : Hid (decide (xs = ys) = false) := decide_eq_false fun q => he (by rw [q])
        have heb : (nth xs k != nth ys k) = true := by simp [he]
        have hec : (nth xs k == nth ys k) = false := by simp [he]
        go_wp2
        go_quiet (fail)
        go_wp2
        go_ret
        exact ⟨by rw [HR.out]; try rfl, below_drewN BW.out _⟩
    · obtain rfl : k = n := by omega
      have HR : Hid (decide (xs = ys) = true) := decide_eq_true (eq_of_nth (by rw [hl.out, hl'.out]) (fun i hi => HJ.out i (by rw [← hl.out]; exact hi)))
      go_wp2
      go_ret
      exact ⟨by rw [HR.out]; try rfl, BW.out⟩