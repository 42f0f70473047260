/-
  Bits: lists of them, seed columns, rows of columns.
-/
import Derived.Test.YtfejpmfcognikaaD10
import Derived.Test.YtfejpmfcognikaaRF
import Derived.Test.YtfejpmfcognikaaSt
namespace Go.Proofs.Ytfejpmfcognikaa
open Go.RowKit
set_option linter.unusedVariables false
set_option linter.unusedSimpArgs false

def bitsB (xs : List Int) : Bool := allIn xs 0 1
theorem bitsB_nth {xs : List Int} (h : bitsB xs = true) {i : Nat} (hi : i < xs.length) : 0 ≤ nth xs i ∧ nth xs i ≤ 1 := inB_iff.1 (allIn_iff.1 h i hi)
theorem bitsB_mk {xs : List Int} (h : ∀ i, i < xs.length → 0 ≤ nth xs i ∧ nth xs i ≤ 1) : bitsB xs = true := allIn_iff.2 fun i hi => inB_iff.2 (h i hi)
theorem bitsL_len (l : List Int) (n : Nat) : (bitsL l n).length = n := by simp [bitsL]
theorem nth_bitsL {l : List Int} {n i : Nat} (hi : i < n) : nth (bitsL l n) i = bitAt l i := by simp [nth, bitsL, hi]
theorem bitsL_bits (l : List Int) (n : Nat) : bitsB (bitsL l n) = true := bitsB_mk fun i hi => by rw [bitsL_len] at hi; rw [nth_bitsL hi]; exact bitAt_bd l i
theorem xrL_len (xs ys : List Int) (n : Nat) : (xrL xs ys n).length = n := by simp [xrL]
theorem nth_xrL {xs ys : List Int} {n i : Nat} (hi : i < n) : nth (xrL xs ys n) i = xr (nth xs i) (nth ys i) := by simp [nth, xrL, hi]
theorem xrL_bits (xs ys : List Int) (n : Nat) : bitsB (xrL xs ys n) = true := bitsB_mk fun i hi => by rw [xrL_len] at hi; rw [nth_xrL hi]; exact xr_bd _ _
/-- Lists of bits of one length. -/
def listsB (l : List (List Int)) (m : Int) : Bool := l.all fun x => decide ((x.length : Int) = m) && bitsB x
theorem listsB_at {l : List (List Int)} {m : Int} (h : listsB l m = true) {i : Nat} (hi : i < l.length) : ((rowN l i).length : Int) = m ∧ bitsB (rowN l i) = true := by
  have := allR_iff.1 h i hi
  simp only [Bool.and_eq_true, decide_eq_true_iff] at this
  exact this
theorem listsB_mk {l : List (List Int)} {m : Int} (h : ∀ i, i < l.length → ((rowN l i).length : Int) = m ∧ bitsB (rowN l i) = true) : listsB l m = true := by
  refine allR_iff.2 fun i hi => ?_
  simp only [Bool.and_eq_true, decide_eq_true_iff]
  exact h i hi
theorem listsB_no {l : List (List Int)} {m : Int} {i : Nat} (hi : i < l.length) (h : ¬ (((rowN l i).length : Int) = m ∧ bitsB (rowN l i) = true)) : listsB l m = false := by
  refine allR_no hi ?_
  cases k : (decide (((rowN l i).length : Int) = m) && bitsB (rowN l i)) with
  | false => rfl
  | true => simp only [Bool.and_eq_true, decide_eq_true_iff] at k; exact absurd k h
/-- Seed columns. -/
def seedC (key i side : Int) (m : Nat) : List Int := bitsL [key, i, side, 31] m
def seedCs (key side : Int) (m k : Nat) : List (List Int) := (List.range k).map fun (i : Nat) => seedC key i side m
theorem seedCs_succ (key side : Int) (m k : Nat) : seedCs key side m (k + 1) = seedCs key side m k ++ [seedC key k side m] := by simp [seedCs, List.range_succ]
theorem seedCs_len (key side : Int) (m k : Nat) : (seedCs key side m k).length = k := by simp [seedCs]
theorem rowN_seedCs {key side : Int} {m k i : Nat} (hi : i < k) : rowN (seedCs key side m k) i = seedC key i side m := by simp [rowN, seedCs, hi]
theorem seedC_len (key i side : Int) (m : Nat) : (seedC key i side m).length = m := bitsL_len _ _
theorem seedC_bits (key i side : Int) (m : Nat) : bitsB (seedC key i side m) = true := bitsL_bits _ _
/-- Rows of columns. -/
def colAt (cs : List (List Int)) (j t : Nat) : List Int := (List.range t).map fun i => nth (rowN cs i) j
theorem colAt_succ (cs : List (List Int)) (j t : Nat) : colAt cs j (t + 1) = colAt cs j t ++ [nth (rowN cs t) j] := by simp [colAt, List.range_succ]
theorem colAt_len (cs : List (List Int)) (j t : Nat) : (colAt cs j t).length = t := by simp [colAt]
theorem nth_colAt {cs : List (List Int)} {j t i : Nat} (hi : i < t) : nth (colAt cs j t) i = nth (rowN cs i) j := by simp [nth, colAt, hi]
def turnL (cs : List (List Int)) (k m : Nat) : List (List Int) := (List.range m).map fun j => colAt cs j k
theorem turnL_succ (cs : List (List Int)) (k m : Nat) : turnL cs k (m + 1) = turnL cs k m ++ [colAt cs m k] := by simp [turnL, List.range_succ]
theorem turnL_len (cs : List (List Int)) (k m : Nat) : (turnL cs k m).length = m := by simp [turnL]
theorem rowN_turnL {cs : List (List Int)} {k m j : Nat} (hj : j < m) : rowN (turnL cs k m) j = colAt cs j k := by simp [rowN, turnL, hj]
theorem pre_le (xss : List (List Int)) (n q : Nat) (h : ∀ i, i < n → (rowN xss i).length ≤ q) : pre xss n ≤ n * q := by
  induction n with
  | zero => simp [pre]
  | succ n ih => have h1 := ih (fun i hi => h i (by omega)); have h2 := h n (by omega); rw [pre, Nat.add_mul]; omega
theorem small4' {a b c d : Int} (ha : 0 ≤ a ∧ a ≤ 1000000000) (hb : 0 ≤ b ∧ b ≤ 1000000) (hc : 0 ≤ c ∧ c ≤ 1000000) (hd : 0 ≤ d ∧ d ≤ 1000000) : ∀ x ∈ [a, b, c, d], Small x := by
  intro x hx; simp at hx; unfold Small
  rcases hx with rfl | rfl | rfl | rfl <;> omega

def keyE (key : Int) : Bool := inB key 0 1000000000
set_option maxHeartbeats 400000 in
theorem i_isKeyE (x : Int) (w : World) : Calls Try.prog 41 #[.int .i64 x] w fun e w' => e = .returned (.bool (keyE x)) ∧ w = w' := by
  go_enter Try.func41, Try.ntmps41
  go_wp2_with (go_at_call 49; refine (i_within _ _ _ _).mono ?_; rintro e w' ⟨rfl, rfl⟩)
  go_ret
  exact ⟨rfl, rfl⟩
set_option maxHeartbeats 400000 in
theorem s_shKey (x : Int) (w : World) : Calls Try.prog 82 #[.int .i64 x] w fun e w' => e = .returned (.bool (keyE x)) ∧ w = w' := by
  go_enter Try.func82, Try.ntmps82
  go_wp2_with (go_at_call 87; refine (s_l1In _ _ _ _).mono ?_; rintro e w' ⟨rfl, rfl⟩)
  go_ret
  exact ⟨rfl, rfl⟩
set_option maxHeartbeats 400000 in
theorem i_isColumns (x : Int) (w : World) : Calls Try.prog 45 #[.int .i64 x] w fun e w' => e = .returned (.bool (inB x 1 8)) ∧ w = w' := by
  go_enter Try.func45, Try.ntmps45
  go_wp2_with (go_at_call 49; refine (i_within _ _ _ _).mono ?_; rintro e w' ⟨rfl, rfl⟩)
  go_ret
  exact ⟨rfl, rfl⟩
set_option maxHeartbeats 400000 in
theorem i_isTransfers (x : Int) (w : World) : Calls Try.prog 54 #[.int .i64 x] w fun e w' => e = .returned (.bool (inB x 0 24)) ∧ w = w' := by
  go_enter Try.func54, Try.ntmps54
  go_wp2_with (go_at_call 49; refine (i_within _ _ _ _).mono ?_; rintro e w' ⟨rfl, rfl⟩)
  go_ret
  exact ⟨rfl, rfl⟩
set_option maxHeartbeats 400000 in
theorem i_bit01 (x : Int) (w : World) : Calls Try.prog 66 #[.int .i64 x] w fun e w' => e = .returned (.bool (inB x 0 1)) ∧ w = w' := by
  by_cases h0 : x = 0
  · subst h0
    go_enter Try.func66, Try.ntmps66
    go_wp2
    go_ret
    exact ⟨rfl, rfl⟩
  · by_cases h1 : x = 1
    · subst h1
      go_enter Try.func66, Try.ntmps66
      go_wp2
      go_ret
      exact ⟨rfl, rfl⟩
    · rw [show inB x 0 1 = false from inB_no.2 (by omega)]
      have h0b : (x == 0) = false := by simp [h0]
      have h1b : (x == 1) = false := by simp [h1]
      go_enter Try.func66, Try.ntmps66
      go_wp2
      go_ret
      exact ⟨rfl, rfl⟩
theorem i_allBits (a : Option Addr) (n cap : Nat) (xs : List Int) (w : World) (h : Ints w a n cap xs) :
    Calls Try.prog 109 #[.slice a n cap, .func (.func 66) #[] #[]] w fun e w' => e = .returned (.bool (bitsB xs)) ∧ Below w.heap.size w w' :=
  i_areAll a n cap xs (fun x => inB x 0 1) 66 #[] (enters_of Try.func66 (by kernel_rfl) rfl) w h (fun W x _ _ => i_bit01 x W)
set_option maxHeartbeats 400000 in
theorem s_btGood (a : Option Addr) (n cap : Nat) (xs : List Int) (most : Int) (w : World) (h : Ints w a n cap xs) :
    Calls Try.prog 104 #[.slice a n cap, .int .i64 most] w fun e w' => e = .returned (.bool (decide ((xs.length : Int) ≤ most) && bitsB xs)) ∧ w = w' := by
  have hl := h.len.out
  have hs := h.small
  rw [hl]
  have HL := Lib.hid hl; clear hl
  by_cases h1 : (n : Int) ≤ most
  · have h1b : decide ((n : Int) ≤ most) = true := decide_eq_true h1
    rw [h1b]
    go_enter Try.func104, Try.ntmps104
    go_wp2_with (go_at_call 124; refine (s_l1All _ _ _ xs _ _ _ h).mono ?_; rintro e w' ⟨rfl, rfl⟩)
    go_ret
    exact ⟨rfl, rfl⟩
  · have h1b : decide ((n : Int) ≤ most) = false := decide_eq_false h1
    rw [h1b]
    go_enter Try.func104, Try.ntmps104
    go_wp2
    go_ret
    exact ⟨rfl, rfl⟩
def secB (xs : List Int) : Bool := inB xs.length 1 8 && bitsB xs
def chosB (xs : List Int) : Bool := inB xs.length 0 24 && bitsB xs
set_option maxHeartbeats 400000 in
theorem i_isSecretOf (a : Option Addr) (n cap : Nat) (xs : List Int) (w : World) (h : Ints w a n cap xs) :
    Calls Try.prog 52 #[.slice a n cap] w fun e w' => e = .returned (.bool (secB xs)) ∧ Below w.heap.size w w' := by
  have hs := h.small
  unfold secB
  rw [h.len.out]
  cases h1 : inB (n : Int) 1 8 with
  | false =>
    go_enter Try.func52, Try.ntmps52
    go_wp2_with (go_at_call 45; refine (i_isColumns _ _).mono ?_; rintro e w' ⟨rfl, rfl⟩)
    go_ret
    exact ⟨rfl, Below.refl _ _⟩
  | true =>
    go_enter Try.func52, Try.ntmps52
    go_wp2_with (first | (go_at_call 45; refine (i_isColumns _ _).mono ?_; rintro e w' ⟨rfl, rfl⟩) | (go_at_call 109; refine (i_allBits _ _ _ _ _ h).mono ?_; rintro e w' ⟨rfl, hb⟩))
    go_ret
    exact ⟨rfl, hb⟩
set_option maxHeartbeats 400000 in
theorem i_areChosen (a : Option Addr) (n cap : Nat) (xs : List Int) (w : World) (h : Ints w a n cap xs) :
    Calls Try.prog 46 #[.slice a n cap] w fun e w' => e = .returned (.bool (chosB xs)) ∧ Below w.heap.size w w' := by
  have hs := h.small
  unfold chosB
  rw [h.len.out]
  cases h1 : inB (n : Int) 0 24 with
  | false =>
    go_enter Try.func46, Try.ntmps46
    go_wp2_with (go_at_call 54; refine (i_isTransfers _ _).mono ?_; rintro e w' ⟨rfl, rfl⟩)
    go_ret
    exact ⟨rfl, Below.refl _ _⟩
  | true =>
    go_enter Try.func46, Try.ntmps46
    go_wp2_with (first | (go_at_call 54; refine (i_isTransfers _ _).mono ?_; rintro e w' ⟨rfl, rfl⟩) | (go_at_call 109; refine (i_allBits _ _ _ _ _ h).mono ?_; rintro e w' ⟨rfl, hb⟩))
    go_ret
    exact ⟨rfl, hb⟩
set_option maxHeartbeats 400000 in
theorem s_oxChoices (a : Option Addr) (n cap : Nat) (xs : List Int) (w : World) (h : Ints w a n cap xs) :
    Calls Try.prog 77 #[.slice a n cap] w fun e w' => e = .returned (.bool (chosB xs)) ∧ w = w' := by
  have HE : Hid ((decide ((xs.length : Int) ≤ 24) && bitsB xs) = chosB xs) := by
    show _ = _
    unfold chosB
    congr 1
    unfold inB; congr 1; simp
  go_enter Try.func77, Try.ntmps77
  go_wp2_with (go_at_call 104; refine (s_btGood _ _ _ xs _ _ h).mono ?_; rintro e w' ⟨rfl, rfl⟩)
  go_ret
  exact ⟨by first | exact ret_bool HE.out | (rw [← HE.out]; rfl), rfl⟩
set_option maxHeartbeats 400000 in
theorem s_oxSecret (a : Option Addr) (n cap : Nat) (xs : List Int) (w : World) (h : Ints w a n cap xs) :
    Calls Try.prog 83 #[.slice a n cap] w fun e w' => e = .returned (.bool (secB xs)) ∧ w = w' := by
  have hl := h.len
  have hs := h.small
  have HG := Lib.hid (s_btGood a n cap xs 8 w h)
  cases h1 : (decide ((xs.length : Int) ≤ 8) && bitsB xs) with
  | false =>
    rw [h1] at HG
    have HE : Hid (secB xs = false) := by
      show _ = _
      unfold secB inB
      cases hb : bitsB xs with
      | false => simp
      | true => rw [hb] at h1; simp at h1 ⊢; omega
    clear h1 h
    go_enter Try.func83, Try.ntmps83
    go_wp2_with (go_at_call 104; refine HG.out.mono ?_; rintro e w' ⟨rfl, rfl⟩)
    go_ret
    exact ⟨by rw [HE.out]; try rfl, rfl⟩
  | true =>
    rw [h1] at HG
    simp only [Bool.and_eq_true, decide_eq_true_iff] at h1
    obtain ⟨h2, h3⟩ := h1
    rw [hl.out] at h2
    by_cases h0 : 0 < n
    · have HE : Hid (secB xs = true) := by
        show _ = _
        unfold secB
        rw [h3, hl.out, inB_iff.2 (show 1 ≤ (n : Int) ∧ (n : Int) ≤ 8 by omega)]; rfl
      clear h3 h
      have h0i : (0 : Int) < (n : Int) := by omega
      go_enter Try.func83, Try.ntmps83
      go_wp2_with (go_at_call 104; refine HG.out.mono ?_; rintro e w' ⟨rfl, rfl⟩)
      go_ret
      exact ⟨by rw [HE.out]; try rfl, rfl⟩
    · obtain rfl : n = 0 := by omega
      have HE : Hid (secB xs = false) := by
        show _ = _
        unfold secB
        rw [hl.out]; rfl
      clear h3 h
      go_enter Try.func83, Try.ntmps83
      go_wp2_with (go_at_call 104; refine HG.out.mono ?_; rintro e w' ⟨rfl, rfl⟩)
      go_ret
      exact ⟨by rw [HE.out]; try rfl, rfl⟩
set_option maxHeartbeats 2000000 in
theorem i_xored (a a' : Option Addr) (n n' cap cap' : Nat) (xs ys : List Int) (w : World) (h : Ints w a n cap xs) (h' : Ints w a' n' cap' ys) (hn : n ≤ n') (hs : n ≤ 100000)
    (hx : Hid (∀ i, i < n → (0 ≤ nth xs i ∧ nth xs i ≤ 1) ∧ (0 ≤ nth ys i ∧ nth ys i ≤ 1))) :
    Calls Try.prog 60 #[.slice a n cap, .slice a' n' cap'] w fun e w' => ∃ r c, e = .returned (.slice r n c) ∧ Mine w' w.heap.size r n c (xrL xs ys n) ∧ Below w.heap.size w w' := by
  have HFT := Lib.hid (xrL_fit xs ys n)
  go_enter Try.func60, Try.ntmps60
  go_wp2
  go_loopw [5, 10] (fun v i wr => ∃ k : Nat, k ≤ n ∧ i = .int .i64 k ∧ Hid (wr.ownsRow w.heap.size 3 1 v k (ivs (xrL xs ys k))) ∧ Hid (Below w.heap.size w wr)) (fun _ i _ => n - (intOf i).toNat)
  case atStart => exact ⟨0, by omega, rfl, (show Hid _ from World.ownsRow_lit w #[] 0 (Nat.le_refl _) (by decide) rfl), (show Hid _ from bel_alloc w _)⟩
  case round =>
    obtain ⟨k, hk, rfl, HO, HB⟩ := hrel
    obtain ⟨wo, rfl⟩ : ∃ wo : World, wo = wr := ⟨_, rfl⟩
    by_cases hlt : k < n
    · obtain ⟨b, off, rfl, hbl, hc⟩ := h.at hlt
      obtain ⟨b', off', rfl, hbl', hc'⟩ := h'.at (i := k) (by omega)
      replace hc := cell_on hc HB.out
      replace hc' := cell_on hc' HB.out
      have hlti : (k : Int) < (n' : Int) := by omega
      have hlt0 : (k : Int) < (n : Int) := by omega
      have hxe := xr_eq (hx.out k hlt).1 (hx.out k hlt).2
      have hz := HB.out.size
      have HS : Hid (xrL xs ys (k + 1) = xrL xs ys k ++ [xr (nth xs k) (nth ys k)]) := xrL_succ xs ys k
      go_wp2_with fail
      go_region_held3 (fun W => W.cell? ⟨b, off + k, none⟩ = some (.int .i64 (nth xs k)) ∧ W.cell? ⟨b', off' + k, none⟩ = some (.int .i64 (nth ys k))) (first | exact ⟨(hb9.cell (p := ⟨b, off + k, none⟩) hbl).trans (cell_on hc (by (repeat (first | exact Below.refl _ _ | assumption | refine bel_trans ?_ (bel_alloc _ _) | refine bel_set ?_ (by first | (dsimp only; omega) | (simp; omega) | simp) _ | refine bel_trans ?_ (bel_drewN _ _) | refine bel_trans ?_ (bel_drew _) | refine bel_trans ?_ (by assumption))))), (hb9.cell (p := ⟨b', off' + k, none⟩) hbl').trans (cell_on hc' (by (repeat (first | exact Below.refl _ _ | assumption | refine bel_trans ?_ (bel_alloc _ _) | refine bel_set ?_ (by first | (dsimp only; omega) | (simp; omega) | simp) _ | refine bel_trans ?_ (bel_drewN _ _) | refine bel_trans ?_ (bel_drew _) | refine bel_trans ?_ (by assumption)))))⟩ | exact ⟨cell_on hc (by (repeat (first | exact Below.refl _ _ | assumption | refine bel_trans ?_ (bel_alloc _ _) | refine bel_set ?_ (by first | (dsimp only; omega) | (simp; omega) | simp) _ | refine bel_trans ?_ (bel_drewN _ _) | refine bel_trans ?_ (bel_drew _) | refine bel_trans ?_ (by assumption)))), cell_on hc' (by (repeat (first | exact Below.refl _ _ | assumption | refine bel_trans ?_ (bel_alloc _ _) | refine bel_set ?_ (by first | (dsimp only; omega) | (simp; omega) | simp) _ | refine bel_trans ?_ (bel_drewN _ _) | refine bel_trans ?_ (bel_drew _) | refine bel_trans ?_ (by assumption))))⟩) ((refine step_app wo w.heap.size k _ (xrL xs ys k) (xr (nth xs k) (nth ys k)) _ (by rfl) _ _ (by rfl) (by rfl) (by rfl) (by rw [← hxe]; simp [World.cell?_alloc_at]) HO.out (by (repeat (first | exact Below.refl _ _ | assumption | refine bel_trans ?_ (bel_alloc _ _) | refine bel_set ?_ (by first | (dsimp only; omega) | (simp; omega) | simp) _ | refine bel_trans ?_ (bel_drewN _ _) | refine bel_trans ?_ (bel_drew _) | refine bel_trans ?_ (by assumption)))) hz (by omega) ?_; intro v9 w9 hv9 hb9 hg9))
      clear hg9
      go_wp2
      go_roundw
      case rel => exact ⟨k + 1, by omega, by go_num, by rw [HS.out]; exact hv9, HB.out.trans (((by (repeat (first | exact Below.refl _ _ | assumption | refine bel_trans ?_ (bel_alloc _ _) | refine bel_set ?_ (by first | (dsimp only; omega) | (simp; omega) | simp) _ | refine bel_trans ?_ (bel_drewN _ _) | refine bel_trans ?_ (bel_drew _) | refine bel_trans ?_ (by assumption))) : Below wo.heap.size wo _).mono hz).trans hb9)⟩
      case measure => simp [intOf]; omega
    · obtain rfl : k = n := by omega
      go_wp2
      obtain ⟨r, c, hv, hm⟩ := Mine.of HO.out (by omega) HFT.out
      subst hv
      go_ret
      exact ⟨_, _, rfl, hm, HB.out⟩

end Go.Proofs.Ytfejpmfcognikaa
