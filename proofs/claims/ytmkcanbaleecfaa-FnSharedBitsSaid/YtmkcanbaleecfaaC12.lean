/-
  Contracts: PartyWires, both sides.
-/
import Derived.Test.YtmkcanbaleecfaaC11
namespace Go.Proofs.Ytmkcanbaleecfaa
open Go.RowKit
set_option linter.unusedVariables false
set_option linter.unusedSimpArgs false
set_option maxRecDepth 10000

def pT (key p : Int) (n : Nat) : List Int := if p = 1 then btB key n else btA key n
theorem pT_one (key : Int) (n : Nat) : pT key 1 n = btB key n := by unfold pT; rw [if_pos rfl]
theorem pT_no {p : Int} (h : p ≠ 1) (key : Int) (n : Nat) : pT key p n = btA key n := by unfold pT; rw [if_neg h]
def pwStep (key p : Int) (k : Nat) (K A B : Int) (zs : List Int) (s : List Int × Nat × Bool) : List Int × Nat × Bool :=
  if s.2.2 = false then ([], 0, false)
  else if K = 1 then
    if decide (fld 3 zs s.2.1 0 = k) && (inB (fld 3 zs s.2.1 1) 0 1 && inB (fld 3 zs s.2.1 2) 0 1) then (s.1 ++ [andS p (nth (pT key p s.2.1) 0) (nth (pT key p s.2.1) 1) (nth (pT key p s.2.1) 2) (fld 3 zs s.2.1 1) (fld 3 zs s.2.1 2)], s.2.1 + 1, true)
    else ([], 0, false)
  else (s.1 ++ [locS p K A B s.1], s.2.1, true)
def pwRun (key p : Int) (gs us zs : List Int) : Nat → List Int × Nat × Bool
  | 0 => (us, 0, true)
  | k + 1 => pwStep key p k (fld 3 gs k 0) (fld 3 gs k 1) (fld 3 gs k 2) zs (pwRun key p gs us zs k)
theorem pwRun_stick {key p : Int} {gs us zs : List Int} {k : Nat} (h : (pwRun key p gs us zs k).2.2 = false) : ∀ n, k ≤ n → (pwRun key p gs us zs n).2.2 = false
  | 0, hn => by obtain rfl : k = 0 := by omega
                exact h
  | n + 1, hn => by
    by_cases e : k = n + 1
    · subst e; exact h
    · have := pwRun_stick h n (by omega)
      show (pwStep key p n _ _ _ zs (pwRun key p gs us zs n)).2.2 = false
      unfold pwStep
      rw [if_pos this]
def pwCond (i0 i1 : Int) (gs : List Int) (gn : Nat) (os : List Int) (key p : Int) (us zs : List Int) : Bool :=
  circB i0 i1 gs gn os && (keyB key && (inB p 0 1 && (bitsB us && (decide ((us.length : Int) = i0 + i1) && decide (((zs.length / 3 : Nat) : Int) = cntK gs 1 gn)))))
theorem pwCond_iff {i0 i1 : Int} {gs : List Int} {gn : Nat} {os : List Int} {key p : Int} {us zs : List Int} : pwCond i0 i1 gs gn os key p us zs = true ↔ circB i0 i1 gs gn os = true ∧ keyB key = true ∧ inB p 0 1 = true ∧ bitsB us = true ∧ (us.length : Int) = i0 + i1 ∧ ((zs.length / 3 : Nat) : Int) = cntK gs 1 gn := by
  unfold pwCond; simp only [Bool.and_eq_true, decide_eq_true_iff]
def pwAll (i0 i1 : Int) (gs : List Int) (gn : Nat) (os : List Int) (key p : Int) (us zs : List Int) : List Int × Bool :=
  if pwCond i0 i1 gs gn os key p us zs && (pwRun key p gs us zs gn).2.2 then ((pwRun key p gs us zs gn).1, true) else ([], false)
theorem pwAll_no {i0 i1 : Int} {gs : List Int} {gn : Nat} {os : List Int} {key p : Int} {us zs : List Int} (h : ¬ (circB i0 i1 gs gn os = true ∧ keyB key = true ∧ inB p 0 1 = true ∧ bitsB us = true ∧ (us.length : Int) = i0 + i1 ∧ ((zs.length / 3 : Nat) : Int) = cntK gs 1 gn)) : pwAll i0 i1 gs gn os key p us zs = ([], false) := by
  unfold pwAll
  cases hc : pwCond i0 i1 gs gn os key p us zs with
  | true => exact absurd (pwCond_iff.1 hc) h
  | false => rw [Bool.false_and]; rfl
theorem pwAll_run {i0 i1 : Int} {gs : List Int} {gn : Nat} {os : List Int} {key p : Int} {us zs : List Int} {k : Nat} (hk : k ≤ gn) (h : (pwRun key p gs us zs k).2.2 = false) : pwAll i0 i1 gs gn os key p us zs = ([], false) := by
  unfold pwAll
  rw [pwRun_stick h gn hk, Bool.and_false]; rfl
theorem pwAll_yes {i0 i1 : Int} {gs : List Int} {gn : Nat} {os : List Int} {key p : Int} {us zs u : List Int} {n : Nat} (h : circB i0 i1 gs gn os = true ∧ keyB key = true ∧ inB p 0 1 = true ∧ bitsB us = true ∧ (us.length : Int) = i0 + i1 ∧ ((zs.length / 3 : Nat) : Int) = cntK gs 1 gn) (hr : pwRun key p gs us zs gn = (u, n, true)) : pwAll i0 i1 gs gn os key p us zs = (u, true) := by
  unfold pwAll
  rw [pwCond_iff.2 h, hr]; rfl
theorem cntK_mono (gs : List Int) (q : Int) {k : Nat} : ∀ n, k ≤ n → cntK gs q k ≤ cntK gs q n
  | 0, h => by obtain rfl : k = 0 := by omega
               exact Int.le_refl _
  | n + 1, h => by
    by_cases e : k = n + 1
    · subst e; exact Int.le_refl _
    · have := cntK_mono gs q (k := k) n (by omega)
      rw [cntK]; split <;> omega
theorem cntK_step (gs : List Int) (q : Int) (k : Nat) : cntK gs q (k + 1) = cntK gs q k + (if fld 3 gs k 0 = q then 1 else 0) := rfl
/-- After k gates. -/
structure PwOk (m0 k n : Nat) (gs u : List Int) : Prop where
  len : u.length = m0 + k
  bit : bit1 u
  nk : n ≤ k
  cnt : (n : Int) = cntK gs 1 k
theorem pwRun_ok (key p : Int) (hp : p = 0 ∨ p = 1) {gs us zs : List Int} (bu : bit1 us) : ∀ k, (pwRun key p gs us zs k).2.2 = true → PwOk us.length k (pwRun key p gs us zs k).2.1 gs (pwRun key p gs us zs k).1
  | 0, _ => ⟨rfl, bu, Nat.le_refl _, rfl⟩
  | k + 1, h => by
    have h0 : (pwRun key p gs us zs k).2.2 = true := by
      cases e : (pwRun key p gs us zs k).2.2 with
      | true => rfl
      | false => rw [pwRun_stick e (k + 1) (by omega)] at h; cases h
    have ih := pwRun_ok key p hp bu k h0
    revert h
    show (pwStep key p k _ _ _ zs (pwRun key p gs us zs k)).2.2 = true → PwOk us.length (k + 1) (pwStep key p k (fld 3 gs k 0) (fld 3 gs k 1) (fld 3 gs k 2) zs (pwRun key p gs us zs k)).2.1 gs (pwStep key p k (fld 3 gs k 0) (fld 3 gs k 1) (fld 3 gs k 2) zs (pwRun key p gs us zs k)).1
    unfold pwStep
    rw [if_neg (by rw [h0]; simp)]
    split
    · rename_i hK
      split
      · intro _
        have h3 := ih.cnt; have h4 := ih.nk
        exact ⟨by simp [ih.len]; omega, ih.bit.snoc andS_bd, by simp only []; omega, by simp only []; rw [cntK_step, if_pos hK]; omega⟩
      · intro h; cases h
    · rename_i hK
      intro _
      have h3 := ih.cnt; have h4 := ih.nk
      exact ⟨by simp [ih.len]; omega, ih.bit.snoc (locS_bd hp), by simp only []; omega, by simp only []; rw [cntK_step, if_neg hK]; omega⟩
theorem pwAll_len (i0 i1 : Int) (gs : List Int) (gn : Nat) (os : List Int) (key p : Int) (us zs : List Int) : (pwAll i0 i1 gs gn os key p us zs).1.length ≤ 340 := by
  unfold pwAll
  split
  · rename_i h
    obtain ⟨h1, h2⟩ := Bool.and_eq_true_iff.1 h
    obtain ⟨hc, _, hp, hu, hl, _⟩ := pwCond_iff.1 h1
    have hp' : p = 0 ∨ p = 1 := by have := inB_iff.1 hp; omega
    have := (pwRun_ok key p hp' (fun x hx => by obtain ⟨i, hi, rfl⟩ := List.mem_iff_getElem.1 hx; rw [← nth_get hi]; exact bitsB_nthc hu hi) gn h2).len
    have := circB_in hc
    simp only []
    omega
  · simp
theorem bit1.of {us : List Int} (hu : bitsB us = true) : bit1 us := fun x hx => by obtain ⟨i, hi, rfl⟩ := List.mem_iff_getElem.1 hx; rw [← nth_get hi]; exact bitsB_nthc hu hi
/-- What PartyWires returns. -/
def PwEnd (R : List Int × Bool) (w : World) (e : Ending) (w' : World) : Prop := ∃ r c, e = .returned (.tuple #[.slice r R.1.length c, .bool R.2]) ∧ Mine w' w.heap.size r R.1.length c R.1 ∧ Below w.heap.size w w'
theorem PwEnd.no {R : List Int × Bool} {w w' : World} (hR : R = ([], false)) (hb : Below w.heap.size w w') : PwEnd R w (.returned (.tuple #[.slice none 0 0, .bool false])) w' := by
  subst hR; exact ⟨none, 0, rfl, Mine.nil, hb⟩
theorem PwEnd.yes {R : List Int × Bool} {w w' : World} {u : List Int} {r : Option Addr} {n c : Nat} (hR : R = (u, true)) (hl : u.length = n) (m : Mine w' w.heap.size r n c u) (hb : Below w.heap.size w w') : PwEnd R w (.returned (.tuple #[.slice r n c, .bool true])) w' := by
  subst hR hl; exact ⟨r, c, rfl, m, hb⟩

set_option maxHeartbeats 8000000 in
theorem s_PartyWires (i0 i1 : Int) (ga : Option Addr) (gn gc : Nat) (gs : List Int) (oa : Option Addr) (on oc : Nat) (os : List Int) (key p : Int) (aa : Option Addr) (an ac : Nat) (us : List Int) (ba : Option Addr) (m bc : Nat) (zs : List Int) (w : World) (h : Circ w ga gn gc gs oa on oc os) (hk : Fits key) (hp : Fits p) (ha : Ints w aa an ac us) (hb : Recs 3 w ba m bc zs) :
    Calls Try.prog 27 #[.agg #[.int .i64 i0, .int .i64 i1, .slice ga gn gc, .slice oa on oc], .int .i64 key, .int .i64 p, .slice aa an ac, .slice ba m bc] w fun e w' => PwEnd (pwAll i0 i1 gs gn os key p us zs) w e w' := by
  have hla := ha.len.out; have hlz := hb.len
  have hlm : zs.length / 3 = m := by omega
  have A0 := bel_alloc w (.cells #[.int .i64 i0, .int .i64 i1, .slice ga gn gc, .slice oa on oc] 31)
  have g0 := B4.new (w := w) (x0 := .int .i64 i0) (x1 := .int .i64 i1) (x2 := .slice ga gn gc) (x3 := .slice oa on oc) (t := 31)
  obtain ⟨c0, c1, c2, c3⟩ := g0
  have HH : Hid (Recs 3 w ga gn gc gs ∧ Recs 3 w ba m bc zs) := ⟨h.g, hb⟩
  replace h := h.below A0
  cases hc : circB i0 i1 gs gn os with
  | false =>
    have HR := Lib.hid (pwAll_no (i0 := i0) (i1 := i1) (gs := gs) (gn := gn) (os := os) (key := key) (p := p) (us := us) (zs := zs) (fun q => by rw [q.1] at hc; cases hc)); clear hla hlz hlm
    go_enter Try.func27, Try.ntmps27
    go_wp2_with fail
    refine (s_ciGood _ _ _ _ _ gs _ _ _ os _ h).mono ?_; rintro e w1 ⟨rfl, hb1⟩; rw [hc]
    replace c0 := cell_on c0 hb1; replace c1 := cell_on c1 hb1; replace c2 := cell_on c2 hb1; replace c3 := cell_on c3 hb1
    go_wp2
    go_ret2
    exact PwEnd.no HR.out (bel_trans A0 hb1)
  | true =>
    obtain ⟨hi0, hi1, hgn, hon⟩ := circB_in hc
    cases hK : keyB key with
    | false =>
      have HR := Lib.hid (pwAll_no (i0 := i0) (i1 := i1) (gs := gs) (gn := gn) (os := os) (key := key) (p := p) (us := us) (zs := zs) (fun q => by rw [q.2.1] at hK; cases hK)); clear hla hlz hlm
      go_enter Try.func27, Try.ntmps27
      go_wp2_with fail
      refine (s_ciGood _ _ _ _ _ gs _ _ _ os _ h).mono ?_; rintro e w1 ⟨rfl, hb1⟩; rw [hc]
      replace c0 := cell_on c0 hb1; replace c1 := cell_on c1 hb1; replace c2 := cell_on c2 hb1; replace c3 := cell_on c3 hb1
      go_wp2_with fail
      refine (s_otKey _ _).mono ?_; rintro e w2 ⟨rfl, rfl⟩; rw [hK]
      go_wp2
      go_ret2
      exact PwEnd.no HR.out (bel_trans A0 hb1)
    | true =>
      cases hP : inB p 0 1 with
      | false =>
        have HR := Lib.hid (pwAll_no (i0 := i0) (i1 := i1) (gs := gs) (gn := gn) (os := os) (key := key) (p := p) (us := us) (zs := zs) (fun q => by rw [q.2.2.1] at hP; cases hP)); clear hla hlz hlm
        go_enter Try.func27, Try.ntmps27
        go_wp2_with fail
        refine (s_ciGood _ _ _ _ _ gs _ _ _ os _ h).mono ?_; rintro e w1 ⟨rfl, hb1⟩; rw [hc]
        replace c0 := cell_on c0 hb1; replace c1 := cell_on c1 hb1; replace c2 := cell_on c2 hb1; replace c3 := cell_on c3 hb1
        go_wp2_with fail
        refine (s_otKey _ _).mono ?_; rintro e w2 ⟨rfl, rfl⟩; rw [hK]
        go_wp2_with fail
        refine (s_l1In _ _ _ _).mono ?_; rintro e w3 ⟨rfl, rfl⟩; rw [hP]
        go_wp2
        go_ret2
        exact PwEnd.no HR.out (bel_trans A0 hb1)
      | true =>
        by_cases hN : (an : Int) = i0 + i1
        rotate_left
        · have hNb : ((an : Int) == i0 + i1) = false := by simpa using hN
          have hNc : ((an : Int) != i0 + i1) = true := by simpa using hN
          have HR := Lib.hid (pwAll_no (i0 := i0) (i1 := i1) (gs := gs) (gn := gn) (os := os) (key := key) (p := p) (us := us) (zs := zs) (fun q => by have := q.2.2.2.2.1; rw [hla] at this; exact hN this)); clear hla hlz hlm
          go_enter Try.func27, Try.ntmps27
          go_wp2_with fail
          refine (s_ciGood _ _ _ _ _ gs _ _ _ os _ h).mono ?_; rintro e w1 ⟨rfl, hb1⟩; rw [hc]
          replace c0 := cell_on c0 hb1; replace c1 := cell_on c1 hb1; replace c2 := cell_on c2 hb1; replace c3 := cell_on c3 hb1
          go_wp2_with fail
          refine (s_otKey _ _).mono ?_; rintro e w2 ⟨rfl, rfl⟩; rw [hK]
          go_wp2_with fail
          refine (s_l1In _ _ _ _).mono ?_; rintro e w3 ⟨rfl, rfl⟩; rw [hP]
          go_wp2_with fail
          refine (s_ciInputs _ _ _ _ _ _ _ _ _ hi0 hi1).mono ?_; rintro e w4 ⟨rfl, hb4⟩
          replace c0 := cell_on c0 hb4; replace c1 := cell_on c1 hb4; replace c2 := cell_on c2 hb4; replace c3 := cell_on c3 hb4
          go_wp2
          go_ret2
          exact PwEnd.no HR.out (bel_trans (bel_trans A0 hb1) hb4)
        have hNb : ((an : Int) == i0 + i1) = true := by simpa using hN
        have hNc : ((an : Int) != i0 + i1) = false := by simpa using hN
        cases hU : bitsB us with
        | false =>
          have HR := Lib.hid (pwAll_no (i0 := i0) (i1 := i1) (gs := gs) (gn := gn) (os := os) (key := key) (p := p) (us := us) (zs := zs) (fun q => by rw [q.2.2.2.1] at hU; cases hU)); clear hla hlz hlm
          go_enter Try.func27, Try.ntmps27
          go_wp2_with fail
          refine (s_ciGood _ _ _ _ _ gs _ _ _ os _ h).mono ?_; rintro e w1 ⟨rfl, hb1⟩; rw [hc]
          replace c0 := cell_on c0 hb1; replace c1 := cell_on c1 hb1; replace c2 := cell_on c2 hb1; replace c3 := cell_on c3 hb1
          go_wp2_with fail
          refine (s_otKey _ _).mono ?_; rintro e w2 ⟨rfl, rfl⟩; rw [hK]
          go_wp2_with fail
          refine (s_l1In _ _ _ _).mono ?_; rintro e w3 ⟨rfl, rfl⟩; rw [hP]
          go_wp2_with fail
          refine (s_ciInputs _ _ _ _ _ _ _ _ _ hi0 hi1).mono ?_; rintro e w4 ⟨rfl, hb4⟩
          replace c0 := cell_on c0 hb4; replace c1 := cell_on c1 hb4; replace c2 := cell_on c2 hb4; replace c3 := cell_on c3 hb4
          go_wp2_with fail
          refine (s_l1All _ _ _ us 0 1 _ (((ha.below A0).below hb1).below hb4)).mono ?_; rintro e w5 ⟨rfl, rfl⟩; rw [show allIn us 0 1 = false from hU]
          go_wp2
          go_ret2
          exact PwEnd.no HR.out (bel_trans (bel_trans A0 hb1) hb4)
        | true =>
          by_cases hM : (m : Int) = cntK gs 1 gn
          rotate_left
          · have hMb : ((m : Int) == cntK gs 1 gn) = false := by simpa using hM
            have hMc : ((m : Int) != cntK gs 1 gn) = true := by simpa using hM
            have HR := Lib.hid (pwAll_no (i0 := i0) (i1 := i1) (gs := gs) (gn := gn) (os := os) (key := key) (p := p) (us := us) (zs := zs) (fun q => by have := q.2.2.2.2.2; rw [hlm] at this; exact hM this)); clear hla hlz hlm
            go_enter Try.func27, Try.ntmps27
            go_wp2_with fail
            refine (s_ciGood _ _ _ _ _ gs _ _ _ os _ h).mono ?_; rintro e w1 ⟨rfl, hb1⟩; rw [hc]
            replace c0 := cell_on c0 hb1; replace c1 := cell_on c1 hb1; replace c2 := cell_on c2 hb1; replace c3 := cell_on c3 hb1
            go_wp2_with fail
            refine (s_otKey _ _).mono ?_; rintro e w2 ⟨rfl, rfl⟩; rw [hK]
            go_wp2_with fail
            refine (s_l1In _ _ _ _).mono ?_; rintro e w3 ⟨rfl, rfl⟩; rw [hP]
            go_wp2_with fail
            refine (s_ciInputs _ _ _ _ _ _ _ _ _ hi0 hi1).mono ?_; rintro e w4 ⟨rfl, hb4⟩
            replace c0 := cell_on c0 hb4; replace c1 := cell_on c1 hb4; replace c2 := cell_on c2 hb4; replace c3 := cell_on c3 hb4
            go_wp2_with fail
            refine (s_l1All _ _ _ us 0 1 _ (((ha.below A0).below hb1).below hb4)).mono ?_; rintro e w5 ⟨rfl, rfl⟩; rw [show allIn us 0 1 = true from hU]
            go_wp2_with fail
            refine (s_ciCounts _ _ _ _ _ gs _ _ _ _ (((h.g).below hb1).below hb4) (kindsOk.of (circB_iff.1 hc).2.1) (circB_in hc).2.2.1).mono ?_; rintro e w6 ⟨r6, c6, rfl, hI, hb6⟩
            replace c0 := cell_on c0 hb6; replace c1 := cell_on c1 hb6; replace c2 := cell_on c2 hb6; replace c3 := cell_on c3 hb6
            obtain ⟨g6, rfl, _, gl6, gc61, _⟩ := hI.at (i := 1) (by omega)
            have gc6 : w6.cell? ⟨g6, 1, none⟩ = some (.int .i64 (cntK gs 1 gn)) := gc61
            clear gc61 hI
            go_wp2
            go_ret2
            exact PwEnd.no HR.out (bel_trans (bel_trans (bel_trans A0 hb1) hb4) hb6)
          have hNb : ((an : Int) == i0 + i1) = true := by simpa using hN
          have hNc : ((an : Int) != i0 + i1) = false := by simpa using hN
          have hMb : ((m : Int) == cntK gs 1 gn) = true := by simpa using hM
          have hMc : ((m : Int) != cntK gs 1 gn) = false := by simpa using hM
          have hab : an ≤ 1000 := by omega
          have HC : Hid (circB i0 i1 gs gn os = true ∧ keyB key = true ∧ inB p 0 1 = true ∧ bitsB us = true ∧ (us.length : Int) = i0 + i1) := ⟨hc, hK, hP, hU, by rw [hla]; exact hN⟩
          have HM : Hid (((zs.length / 3 : Nat) : Int) = cntK gs 1 gn) := by show _ = _; rw [hlm]; exact hM
          have HLM : Hid (zs.length / 3 = m) := hlm
          have HLA : Hid (us.length = an) := hla
          have HG : Hid (gatesB ((an : Nat) : Int) gs gn = true) := by have := (circB_iff.1 hc).2.1; rw [← hN] at this; exact this
          have hpb := inB_iff.1 hP; have hkk := keyB_iff.1 hK
          have HP1 : Hid (p = 0 ∨ p = 1) := by show _ ∨ _; omega
          clear hla hlm hlz
          go_enter Try.func27, Try.ntmps27
          go_wp2_with fail
          refine (s_ciGood _ _ _ _ _ gs _ _ _ os _ h).mono ?_; rintro e w1 ⟨rfl, hb1⟩; rw [hc]
          replace c0 := cell_on c0 hb1; replace c1 := cell_on c1 hb1; replace c2 := cell_on c2 hb1; replace c3 := cell_on c3 hb1
          go_wp2_with fail
          refine (s_otKey _ _).mono ?_; rintro e w2 ⟨rfl, rfl⟩; rw [hK]
          go_wp2_with fail
          refine (s_l1In _ _ _ _).mono ?_; rintro e w3 ⟨rfl, rfl⟩; rw [hP]
          go_wp2_with fail
          refine (s_ciInputs _ _ _ _ _ _ _ _ _ hi0 hi1).mono ?_; rintro e w4 ⟨rfl, hb4⟩
          replace c0 := cell_on c0 hb4; replace c1 := cell_on c1 hb4; replace c2 := cell_on c2 hb4; replace c3 := cell_on c3 hb4
          go_wp2_with fail
          refine (s_l1All _ _ _ us 0 1 _ (((ha.below A0).below hb1).below hb4)).mono ?_; rintro e w5 ⟨rfl, rfl⟩; rw [show allIn us 0 1 = true from hU]
          go_wp2_with fail
          refine (s_ciCounts _ _ _ _ _ gs _ _ _ _ (((h.g).below hb1).below hb4) (kindsOk.of (circB_iff.1 hc).2.1) (circB_in hc).2.2.1).mono ?_; rintro e w6 ⟨r6, c6, rfl, hI, hb6⟩
          replace c0 := cell_on c0 hb6; replace c1 := cell_on c1 hb6; replace c2 := cell_on c2 hb6; replace c3 := cell_on c3 hb6
          obtain ⟨g6, rfl, _, gl6, gc61, _⟩ := hI.at (i := 1) (by omega)
          have gc6 : w6.cell? ⟨g6, 1, none⟩ = some (.int .i64 (cntK gs 1 gn)) := gc61
          clear gc61 hI
          have B6 := Lib.hid (bel_trans (bel_trans (bel_trans A0 hb1) hb4) hb6)
          have ha6 := ha.below B6.out
          clear hb1 hb4 hb6 A0 ha hb h hN hc hU hM
          go_wp2_with fail
          refine (s_l1Own _ _ _ us _ ha6 (by omega)).mono ?_; rintro e w7 ⟨r7, k7, rfl, ho7, hb7⟩
          have zz := B6.out.size
          have HO := Lib.hid (ownsRow_base ho7.own zz)
          have HB := Lib.hid (bel_trans B6.out hb7)
          replace c2 := cell_on c2 hb7
          clear ho7 hb7 c0 c1 c3 B6 ha6 zz
          have HBU := Lib.hid (bit1.of HC.out.2.2.2.1)
          go_wp2
          go_loopw [12, 13, 58] (fun r q i W => ∃ (k n : Nat) (u : List Int), k ≤ gn ∧ n ≤ m ∧ q = .int .i64 n ∧ i = .int .i64 k ∧ Hid (pwRun key p gs us zs k = (u, n, true) ∧ PwOk an k n gs u) ∧ Hid (W.ownsRow w.heap.size 3 1 r (an + k) (ivs u)) ∧ Hid (Below w.heap.size w W)) (fun _ _ i _ => gn - (intOf i).toNat)
          case atStart => exact ⟨0, 0, us, by omega, by omega, rfl, rfl, (show Hid _ from ⟨rfl, ⟨HLA.out, HBU.out, Nat.le_refl _, rfl⟩⟩), HO, HB⟩
          case round =>
            clear HO HB c2
            obtain ⟨k, n, u, hk9, hnm9, rfl, rfl, HR, HO, HB⟩ := hrel
            have HGZ := Lib.hid (And.intro (HH.out.1.below HB.out) (HH.out.2.below HB.out))
            have hnk := HR.out.2.nk
            by_cases hlt : k < gn
            · have hlti : (k : Int) < (gn : Int) := by omega
              obtain ⟨gb, go, rfl, gl, g0, g1, g2⟩ := HGZ.out.1.at3 hlt
              have hgt : gateB (fld 3 gs k 0) (fld 3 gs k 1) (fld 3 gs k 2) (((an + k : Nat)) : Int) = true := by have := gatesB_at HG.out hlt; rw [show (((an + k : Nat)) : Int) = ((an : Nat) : Int) + (k : Int) by omega]; exact this
              have HS : Hid (pwRun key p gs us zs (k + 1) = pwStep key p k (fld 3 gs k 0) (fld 3 gs k 1) (fld 3 gs k 2) zs (u, n, true)) := by show _ = _; rw [← HR.out.1]; rfl
              have HCK : Hid (cntK gs 1 (k + 1) = cntK gs 1 k + (if fld 3 gs k 0 = 1 then 1 else 0)) := cntK_step gs 1 k
              generalize fld 3 gs k 0 = K at hgt HS g0 HCK
              generalize fld 3 gs k 1 = A at hgt HS g1
              generalize fld 3 gs k 2 = B at hgt HS g2
              have OK := Lib.hid HR.out.2; clear HR
              have x1 : Hid (bitsL0 u (an + k)) := OK.out.bit.nth OK.out.len
              obtain ⟨a1, k1, rfl, m1⟩ := Mine.of HO.out (by omega) OK.out.bit.fit
              have A1 := bel_alloc wr (.cells #[.int .i64 K, .int .i64 A, .int .i64 B] 83)
              have GB := B3.new (w := wr) (x0 := .int .i64 K) (x1 := .int .i64 A) (x2 := .int .i64 B) (t := 83)
              obtain ⟨b0, b1_, b2_⟩ := GB
              have HO1 := Lib.hid (ownsRow_below HO.out A1); have HB1 := Lib.hid (bel_trans HB.out A1); have HZ1 := Lib.hid (And.intro (HGZ.out.1.below A1) (HGZ.out.2.below A1))
              have I1 := Lib.hid (m1.ints.below A1); clear m1 HO HB HGZ A1
              by_cases hK1 : K = 1
              rotate_left
              · have hKb : (K == 1) = false := by simpa using hK1
                have hKc : (K != 1) = true := by simpa using hK1
                have HN : Hid (pwRun key p gs us zs (k + 1) = (u ++ [locS p K A B u], n, true)) := by show _ = _; rw [HS.out]; unfold pwStep; rw [if_neg (by simp), if_neg hK1]
                have OK2 : Hid (PwOk an (k + 1) n gs (u ++ [locS p K A B u])) := ⟨by simp [OK.out.len]; omega, OK.out.bit.snoc (locS_bd HP1.out), by omega, by rw [HCK.out, if_neg hK1, Int.add_zero]; exact OK.out.cnt⟩
                obtain ⟨un, hun⟩ : ∃ x, x = locS p K A B u := ⟨_, rfl⟩
                rw [← hun] at HN OK2; replace hun := Lib.hid hun
                clear HS HCK
                go_wp2_with fail
                refine (s_sbLocal p K A B _ _ _ u _ I1.out hpb hgt hK1 x1).mono ?_; rintro e9 w2 ⟨rfl, hb2⟩; rw [← hun.out]
                have HO2 := Lib.hid (ownsRow_below HO1.out hb2); have HB2 := Lib.hid (bel_trans HB1.out hb2); have HZ2 := Lib.hid (And.intro (HZ1.out.1.below hb2) (HZ1.out.2.below hb2)); clear hb2 HO1 HB1 HZ1 I1 b0 b1_ b2_
                have hz2 := HB2.out.size
                go_wp2_with (at_builtin; refine wp_app w2 w.heap.size (an + k) _ u un _ _ rfl _ _ rfl rfl rfl (by first | rfl | simp) HO2.out hz2 (by omega) ?_; intro v9 w9 hv9 hb9 hg9; have HO9 := Lib.hid hv9; have HB9 := Lib.hid (HB2.out.trans hb9); clear hv9 hb9 hg9 HO2 HB2 HZ2)
                go_roundw
                case rel => exact ⟨k + 1, n, u ++ [un], by omega, by omega, rfl, by go_num, (show Hid _ from ⟨HN.out, OK2.out⟩), HO9, HB9⟩
                case measure => simp [intOf]; omega
              · subst hK1
                rw [gateB_01 (Or.inr rfl)] at hgt
                rw [if_pos rfl] at HCK
                have hnm : n < m := by have h1 := cntK_mono gs 1 (k := k + 1) gn (by omega); have h2 := OK.out.cnt; have h3 := HM.out; have h4 := HCK.out; have h5 := HLM.out; omega
                have hnmi : (n : Int) < (m : Int) := by omega
                obtain ⟨zb, zo, rfl, zl, z0, z1, z2⟩ := HZ1.out.2.at3 hnm
                have zlw : zb < w.heap.size := by obtain ⟨zb2, zo2, e2, zl2, _⟩ := HH.out.2.at3 hnm; injection e2 with e2; injection e2 with e2; rw [e2]; exact zl2
                generalize hGF : fld 3 zs n 0 = G at z0; generalize hDF : fld 3 zs n 1 = D at z1; generalize hEF : fld 3 zs n 2 = E at z2
                have hGF := Lib.hid hGF; have hDF := Lib.hid hDF; have hEF := Lib.hid hEF
                by_cases hG : G = (k : Int)
                rotate_left
                · have hGb : (G == (k : Int)) = false := by simpa using hG
                  have hGc : (G != (k : Int)) = true := by simpa using hG
                  have HR2 := Lib.hid (pwAll_run (i0 := i0) (i1 := i1) (gs := gs) (gn := gn) (os := os) (key := key) (p := p) (us := us) (zs := zs) (k := k + 1) (by omega) (by rw [HS.out]; unfold pwStep; rw [if_neg (by simp), if_pos rfl, if_neg (by simp only [hGF.out, hDF.out, hEF.out]; simp [hG])]))
                  go_wp2
                  go_ret2
                  exact PwEnd.no HR2.out (bel_trans HB1.out (bel_alloc _ _))
                have hGb : (G == (k : Int)) = true := by simpa using hG
                have hGc : (G != (k : Int)) = false := by simpa using hG
                cases hD : inB D 0 1 with
                | false =>
                  have HR2 := Lib.hid (pwAll_run (i0 := i0) (i1 := i1) (gs := gs) (gn := gn) (os := os) (key := key) (p := p) (us := us) (zs := zs) (k := k + 1) (by omega) (by rw [HS.out]; unfold pwStep; rw [if_neg (by simp), if_pos rfl, if_neg (by simp only [hGF.out, hDF.out, hEF.out]; simp [hD])]))
                  go_wp2_with fail
                  refine (s_l1In _ _ _ _).mono ?_; rintro e ww ⟨rfl, rfl⟩; rw [hD]
                  go_wp2
                  go_ret2
                  exact PwEnd.no HR2.out (bel_trans HB1.out (bel_alloc _ _))
                | true =>
                  cases hE : inB E 0 1 with
                  | false =>
                    have HR2 := Lib.hid (pwAll_run (i0 := i0) (i1 := i1) (gs := gs) (gn := gn) (os := os) (key := key) (p := p) (us := us) (zs := zs) (k := k + 1) (by omega) (by rw [HS.out]; unfold pwStep; rw [if_neg (by simp), if_pos rfl, if_neg (by simp only [hGF.out, hDF.out, hEF.out]; simp [hD, hE])]))
                    go_wp2_with fail
                    refine (s_l1In _ _ _ _).mono ?_; rintro e ww ⟨rfl, rfl⟩; rw [hD]
                    go_wp2_with fail
                    refine (s_l1In _ _ _ _).mono ?_; rintro e ww ⟨rfl, rfl⟩; rw [hE]
                    go_wp2
                    go_ret2
                    exact PwEnd.no HR2.out (bel_trans HB1.out (bel_alloc _ _))
                  | true =>
                    have hDb := inB_iff.1 hD; have hEb := inB_iff.1 hE
                    have HN : Hid (pwRun key p gs us zs (k + 1) = (u ++ [andS p (nth (pT key p n) 0) (nth (pT key p n) 1) (nth (pT key p n) 2) D E], n + 1, true)) := by show _ = _; rw [HS.out]; unfold pwStep; rw [if_neg (by simp), if_pos rfl, if_pos (by simp only [hGF.out, hDF.out, hEF.out]; simp [hG, hD, hE])]; simp only [hDF.out, hEF.out]
                    clear HS hG
                    have OK2 : ∀ x y z : Int, PwOk an (k + 1) (n + 1) gs (u ++ [andS p x y z D E]) := fun x y z => ⟨by simp [OK.out.len]; omega, OK.out.bit.snoc andS_bd, by omega, by rw [HCK.out]; have := OK.out.cnt; omega⟩
                    replace OK2 := Lib.hid OK2
                    go_wp2_with fail
                    refine (s_l1In _ _ _ _).mono ?_; rintro e ww ⟨rfl, rfl⟩; rw [hD]
                    go_wp2_with fail
                    refine (s_l1In _ _ _ _).mono ?_; rintro e ww ⟨rfl, rfl⟩; rw [hE]
                    have A2 := bel_alloc (wr.alloc (.cells #[.int .i64 1, .int .i64 A, .int .i64 B] 83)) (.cells #[.int .i64 G, .int .i64 D, .int .i64 E] 86)
                    obtain ⟨y0, y1, y2⟩ := B3.new (w := wr.alloc (.cells #[.int .i64 1, .int .i64 A, .int .i64 B] 83)) (x0 := .int .i64 G) (x1 := .int .i64 D) (x2 := .int .i64 E) (t := 86)
                    have ez : (wr.alloc (.cells #[.int .i64 1, .int .i64 A, .int .i64 B] 83)).heap.size = wr.heap.size + 1 := by simp
                    rw [ez] at y0 y1 y2
                    have HO2 := Lib.hid (ownsRow_below HO1.out A2); have HB2 := Lib.hid (bel_trans HB1.out A2); clear A2 HO1 HB1 ez
                    go_wp2_with fail
                    refine (s_sbTriple key n _ hkk ⟨by omega, by omega⟩).mono ?_; rintro e9 wt ⟨r1, t1, r2, t2, m0, rfl, mA, mB, _, hm0, hbt⟩
                    replace y1 := cell_on y1 hbt; replace y2 := cell_on y2 hbt
                    have HO3 := Lib.hid (ownsRow_below HO2.out hbt); have HB3 := Lib.hid (bel_trans HB2.out hbt); clear HO2 HB2
                    have MA := Lib.hid mA.ints; have MB := Lib.hid mB.ints; clear mA mB hbt b0 b1_ b2_ z0 I1 HZ1
                    by_cases hp1 : p = 1
                    · subst hp1
                      rw [pT_one] at HN
                      obtain ⟨un, hun⟩ : ∃ x, x = andS 1 (xr (bt key n 2) (bt key n 0)) (xr (bt key n 3) (bt key n 1)) (xr (bt key n 4) (bt key n 0 * bt key n 1)) D E := ⟨_, rfl⟩
                      have HN2 : Hid (pwRun key 1 gs us zs (k + 1) = (u ++ [un], n + 1, true)) := by show _ = _; rw [hun]; exact HN.out
                      have OK3 : Hid (PwOk an (k + 1) (n + 1) gs (u ++ [un])) := by show PwOk _ _ _ _ _; rw [hun]; exact OK2.out _ _ _
                      clear HN OK2; replace hun := Lib.hid hun
                      go_wp2_with fail
                      refine (s_sbAnd 1 _ _ (xr (bt key n 2) (bt key n 0)) (xr (bt key n 3) (bt key n 1)) (xr (bt key n 4) (bt key n 0 * bt key n 1)) D E _ MB.out (Or.inr rfl) (xr_bd _ _) (xr_bd _ _) (xr_bd _ _) hDb hEb).mono ?_; rintro e9 wa ⟨rfl, hba⟩; rw [← hun.out]
                      have HOa := Lib.hid (ownsRow_below HO3.out hba); have HBa := Lib.hid (bel_trans HB3.out hba); clear hba HO3 HB3 y1 y2 MA MB
                      have hza := HBa.out.size
                      go_wp2_with (at_builtin; refine wp_app wa w.heap.size (an + k) _ u un _ _ rfl _ _ rfl rfl rfl (by first | rfl | simp) HOa.out hza (by omega) ?_; intro v9 w9 hv9 hb9 hg9; have HO9 := Lib.hid hv9; have HB9 := Lib.hid (HBa.out.trans hb9); clear hv9 hb9 hg9 HOa HBa)
                      go_roundw
                      case rel => exact ⟨k + 1, n + 1, u ++ [un], by omega, by omega, by go_num, by go_num, (show Hid _ from ⟨HN2.out, OK3.out⟩), HO9, HB9⟩
                      case measure => simp [intOf]; omega
                    · have hpb1 : (p == 1) = false := by simpa using hp1
                      rw [pT_no hp1] at HN
                      obtain ⟨un, hun⟩ : ∃ x, x = andS p (bt key n 2) (bt key n 3) (bt key n 4) D E := ⟨_, rfl⟩
                      have HN2 : Hid (pwRun key p gs us zs (k + 1) = (u ++ [un], n + 1, true)) := by show _ = _; rw [hun]; exact HN.out
                      have OK3 : Hid (PwOk an (k + 1) (n + 1) gs (u ++ [un])) := by show PwOk _ _ _ _ _; rw [hun]; exact OK2.out _ _ _
                      clear HN OK2; replace hun := Lib.hid hun
                      go_wp2_with fail
                      refine (s_sbAnd p _ _ (bt key n 2) (bt key n 3) (bt key n 4) D E _ MA.out HP1.out (bt_bd _ _ _) (bt_bd _ _ _) (bt_bd _ _ _) hDb hEb).mono ?_; rintro e9 wa ⟨rfl, hba⟩; rw [← hun.out]
                      have HOa := Lib.hid (ownsRow_below HO3.out hba); have HBa := Lib.hid (bel_trans HB3.out hba); clear hba HO3 HB3 y1 y2 MA MB
                      have hza := HBa.out.size
                      go_wp2_with (at_builtin; refine wp_app wa w.heap.size (an + k) _ u un _ _ rfl _ _ rfl rfl rfl (by first | rfl | simp) HOa.out hza (by omega) ?_; intro v9 w9 hv9 hb9 hg9; have HO9 := Lib.hid hv9; have HB9 := Lib.hid (HBa.out.trans hb9); clear hv9 hb9 hg9 HOa HBa)
                      go_roundw
                      case rel => exact ⟨k + 1, n + 1, u ++ [un], by omega, by omega, by go_num, by go_num, (show Hid _ from ⟨HN2.out, OK3.out⟩), HO9, HB9⟩
                      case measure => simp [intOf]; omega
            · obtain rfl : k = gn := by omega
              have hlti : ¬ (k : Int) < (k : Int) := by omega
              have OK := Lib.hid HR.out.2
              have HR2 := Lib.hid (pwAll_yes ⟨HC.out.1, HC.out.2.1, HC.out.2.2.1, HC.out.2.2.2.1, HC.out.2.2.2.2, HM.out⟩ HR.out.1)
              obtain ⟨a1, k1, rfl, m1⟩ := Mine.of HO.out (by omega) OK.out.bit.fit
              go_wp2
              go_ret2
              exact PwEnd.yes HR2.out OK.out.len m1 HB.out
set_option maxHeartbeats 8000000 in
theorem i_PartyWires (i0 i1 : Int) (ga : Option Addr) (gn gc : Nat) (gs : List Int) (oa : Option Addr) (on oc : Nat) (os : List Int) (key p : Int) (aa : Option Addr) (an ac : Nat) (us : List Int) (ba : Option Addr) (m bc : Nat) (zs : List Int) (w : World) (h : Circ w ga gn gc gs oa on oc os) (hk : Fits key) (hp : Fits p) (ha : Ints w aa an ac us) (hb : Recs 3 w ba m bc zs) :
    Calls Try.prog 29 #[.agg #[.int .i64 i0, .int .i64 i1, .slice ga gn gc, .slice oa on oc], .int .i64 key, .int .i64 p, .slice aa an ac, .slice ba m bc] w fun e w' => PwEnd (pwAll i0 i1 gs gn os key p us zs) w e w' := by
  have hla := ha.len.out; have hlz := hb.len
  have hlm : zs.length / 3 = m := by omega
  have A0 := bel_alloc w (.cells #[.int .i64 i0, .int .i64 i1, .slice ga gn gc, .slice oa on oc] 31)
  have g0 := B4.new (w := w) (x0 := .int .i64 i0) (x1 := .int .i64 i1) (x2 := .slice ga gn gc) (x3 := .slice oa on oc) (t := 31)
  obtain ⟨c0, c1, c2, c3⟩ := g0
  have HH : Hid (Recs 3 w ga gn gc gs ∧ Recs 3 w ba m bc zs) := ⟨h.g, hb⟩
  replace h := h.below A0
  cases hc : circB i0 i1 gs gn os with
  | false =>
    have HR := Lib.hid (pwAll_no (i0 := i0) (i1 := i1) (gs := gs) (gn := gn) (os := os) (key := key) (p := p) (us := us) (zs := zs) (fun q => by rw [q.1] at hc; cases hc)); clear hla hlz hlm
    go_enter Try.func29, Try.ntmps29
    go_wp2_with fail
    refine (i_IsCircuit _ _ _ _ _ gs _ _ _ os _ h).mono ?_; rintro e w1 ⟨rfl, hb1⟩; rw [hc]
    replace c0 := cell_on c0 hb1; replace c1 := cell_on c1 hb1; replace c2 := cell_on c2 hb1; replace c3 := cell_on c3 hb1
    go_wp2
    go_ret2
    exact PwEnd.no HR.out (bel_trans A0 hb1)
  | true =>
    obtain ⟨hi0, hi1, hgn, hon⟩ := circB_in hc
    cases hK : keyB key with
    | false =>
      have HR := Lib.hid (pwAll_no (i0 := i0) (i1 := i1) (gs := gs) (gn := gn) (os := os) (key := key) (p := p) (us := us) (zs := zs) (fun q => by rw [q.2.1] at hK; cases hK)); clear hla hlz hlm
      go_enter Try.func29, Try.ntmps29
      go_wp2_with fail
      refine (i_IsCircuit _ _ _ _ _ gs _ _ _ os _ h).mono ?_; rintro e w1 ⟨rfl, hb1⟩; rw [hc]
      replace c0 := cell_on c0 hb1; replace c1 := cell_on c1 hb1; replace c2 := cell_on c2 hb1; replace c3 := cell_on c3 hb1
      go_wp2_with fail
      refine (i_isKey _ _).mono ?_; rintro e w2 ⟨rfl, rfl⟩; rw [hK]
      go_wp2
      go_ret2
      exact PwEnd.no HR.out (bel_trans A0 hb1)
    | true =>
      cases hP : inB p 0 1 with
      | false =>
        have HR := Lib.hid (pwAll_no (i0 := i0) (i1 := i1) (gs := gs) (gn := gn) (os := os) (key := key) (p := p) (us := us) (zs := zs) (fun q => by rw [q.2.2.1] at hP; cases hP)); clear hla hlz hlm
        go_enter Try.func29, Try.ntmps29
        go_wp2_with fail
        refine (i_IsCircuit _ _ _ _ _ gs _ _ _ os _ h).mono ?_; rintro e w1 ⟨rfl, hb1⟩; rw [hc]
        replace c0 := cell_on c0 hb1; replace c1 := cell_on c1 hb1; replace c2 := cell_on c2 hb1; replace c3 := cell_on c3 hb1
        go_wp2_with fail
        refine (i_isKey _ _).mono ?_; rintro e w2 ⟨rfl, rfl⟩; rw [hK]
        go_wp2_with fail
        refine (i_bit01 _ _).mono ?_; rintro e w3 ⟨rfl, rfl⟩; rw [hP]
        go_wp2
        go_ret2
        exact PwEnd.no HR.out (bel_trans A0 hb1)
      | true =>
        cases hU : bitsB us with
        | false =>
          have HR := Lib.hid (pwAll_no (i0 := i0) (i1 := i1) (gs := gs) (gn := gn) (os := os) (key := key) (p := p) (us := us) (zs := zs) (fun q => by rw [q.2.2.2.1] at hU; cases hU)); clear hla hlz hlm
          go_enter Try.func29, Try.ntmps29
          go_wp2_with fail
          refine (i_IsCircuit _ _ _ _ _ gs _ _ _ os _ h).mono ?_; rintro e w1 ⟨rfl, hb1⟩; rw [hc]
          replace c0 := cell_on c0 hb1; replace c1 := cell_on c1 hb1; replace c2 := cell_on c2 hb1; replace c3 := cell_on c3 hb1
          go_wp2_with fail
          refine (i_isKey _ _).mono ?_; rintro e w2 ⟨rfl, rfl⟩; rw [hK]
          go_wp2_with fail
          refine (i_bit01 _ _).mono ?_; rintro e w3 ⟨rfl, rfl⟩; rw [hP]
          go_wp2_with fail
          refine (i_allBits _ _ _ us _ ((ha.below A0).below hb1)).mono ?_; rintro e w4 ⟨rfl, hb4⟩; rw [hU]
          replace c0 := cell_on c0 hb4; replace c1 := cell_on c1 hb4; replace c2 := cell_on c2 hb4; replace c3 := cell_on c3 hb4
          go_wp2
          go_ret2
          exact PwEnd.no HR.out (bel_trans (bel_trans A0 hb1) hb4)
        | true =>
          by_cases hN : (an : Int) = i0 + i1
          rotate_left
          · have hNb : ((an : Int) == i0 + i1) = false := by simpa using hN
            have hNc : ((an : Int) != i0 + i1) = true := by simpa using hN
            have HR := Lib.hid (pwAll_no (i0 := i0) (i1 := i1) (gs := gs) (gn := gn) (os := os) (key := key) (p := p) (us := us) (zs := zs) (fun q => by have := q.2.2.2.2.1; rw [hla] at this; exact hN this)); clear hla hlz hlm
            go_enter Try.func29, Try.ntmps29
            go_wp2_with fail
            refine (i_IsCircuit _ _ _ _ _ gs _ _ _ os _ h).mono ?_; rintro e w1 ⟨rfl, hb1⟩; rw [hc]
            replace c0 := cell_on c0 hb1; replace c1 := cell_on c1 hb1; replace c2 := cell_on c2 hb1; replace c3 := cell_on c3 hb1
            go_wp2_with fail
            refine (i_isKey _ _).mono ?_; rintro e w2 ⟨rfl, rfl⟩; rw [hK]
            go_wp2_with fail
            refine (i_bit01 _ _).mono ?_; rintro e w3 ⟨rfl, rfl⟩; rw [hP]
            go_wp2_with fail
            refine (i_allBits _ _ _ us _ ((ha.below A0).below hb1)).mono ?_; rintro e w4 ⟨rfl, hb4⟩; rw [hU]
            replace c0 := cell_on c0 hb4; replace c1 := cell_on c1 hb4; replace c2 := cell_on c2 hb4; replace c3 := cell_on c3 hb4
            go_wp2_with fail
            refine (i_inputs _ _ _ _ _ _ _ _ _ hi0 hi1).mono ?_; rintro e w5 ⟨rfl, hb5⟩
            replace c0 := cell_on c0 hb5; replace c1 := cell_on c1 hb5; replace c2 := cell_on c2 hb5; replace c3 := cell_on c3 hb5
            go_wp2
            go_ret2
            exact PwEnd.no HR.out (bel_trans (bel_trans (bel_trans A0 hb1) hb4) hb5)
          have hNb : ((an : Int) == i0 + i1) = true := by simpa using hN
          have hNc : ((an : Int) != i0 + i1) = false := by simpa using hN
          have hab : an ≤ 1000 := by omega
          have HC : Hid (circB i0 i1 gs gn os = true ∧ keyB key = true ∧ inB p 0 1 = true ∧ bitsB us = true ∧ (us.length : Int) = i0 + i1) := ⟨hc, hK, hP, hU, by rw [hla]; exact hN⟩
          have HLM : Hid (zs.length / 3 = m) := hlm
          have HLA : Hid (us.length = an) := hla
          have HG : Hid (gatesB ((an : Nat) : Int) gs gn = true) := by have := (circB_iff.1 hc).2.1; rw [← hN] at this; exact this
          have hpb := inB_iff.1 hP; have hkk := keyB_iff.1 hK
          have HP1 : Hid (p = 0 ∨ p = 1) := by show _ ∨ _; omega
          clear hla hlm hlz
          go_enter Try.func29, Try.ntmps29
          go_wp2_with fail
          refine (i_IsCircuit _ _ _ _ _ gs _ _ _ os _ h).mono ?_; rintro e w1 ⟨rfl, hb1⟩; rw [hc]
          replace c0 := cell_on c0 hb1; replace c1 := cell_on c1 hb1; replace c2 := cell_on c2 hb1; replace c3 := cell_on c3 hb1
          go_wp2_with fail
          refine (i_isKey _ _).mono ?_; rintro e w2 ⟨rfl, rfl⟩; rw [hK]
          go_wp2_with fail
          refine (i_bit01 _ _).mono ?_; rintro e w3 ⟨rfl, rfl⟩; rw [hP]
          go_wp2_with fail
          refine (i_allBits _ _ _ us _ ((ha.below A0).below hb1)).mono ?_; rintro e w4 ⟨rfl, hb4⟩; rw [hU]
          replace c0 := cell_on c0 hb4; replace c1 := cell_on c1 hb4; replace c2 := cell_on c2 hb4; replace c3 := cell_on c3 hb4
          go_wp2_with fail
          refine (i_inputs _ _ _ _ _ _ _ _ _ hi0 hi1).mono ?_; rintro e w5 ⟨rfl, hb5⟩
          replace c0 := cell_on c0 hb5; replace c1 := cell_on c1 hb5; replace c2 := cell_on c2 hb5; replace c3 := cell_on c3 hb5
          have B6 := Lib.hid (bel_trans (bel_trans (bel_trans A0 hb1) hb4) hb5)
          have ha6 := ha.below B6.out
          clear hb1 hb4 hb5 A0 ha hb h hN hc hU
          go_wp2_with fail
          refine (g_Clone _ _ _ us _ ha6 (by omega)).mono ?_; rintro e w7 ⟨r7, k7, rfl, ho7, hb7⟩
          have zz := B6.out.size
          have HO := Lib.hid (ownsRow_base ho7.own zz)
          have HB := Lib.hid (bel_trans B6.out hb7)
          replace c2 := cell_on c2 hb7
          clear ho7 hb7 c0 c1 c3 B6 ha6 zz
          have HBU := Lib.hid (bit1.of HC.out.2.2.2.1)
          go_wp2
          go_loopw [12, 13, 49] (fun r q i W => ∃ (k n : Nat) (u : List Int), k ≤ gn ∧ n ≤ m ∧ q = .int .i64 n ∧ i = .int .i64 k ∧ Hid (pwRun key p gs us zs k = (u, n, true) ∧ PwOk an k n gs u) ∧ Hid (W.ownsRow w.heap.size 3 1 r (an + k) (ivs u)) ∧ Hid (Below w.heap.size w W)) (fun _ _ i _ => gn - (intOf i).toNat)
          case atStart => exact ⟨0, 0, us, by omega, by omega, rfl, rfl, (show Hid _ from ⟨rfl, ⟨HLA.out, HBU.out, Nat.le_refl _, rfl⟩⟩), HO, HB⟩
          case round =>
            clear HO HB c2
            obtain ⟨k, n, u, hk9, hnm9, rfl, rfl, HR, HO, HB⟩ := hrel
            have HGZ := Lib.hid (And.intro (HH.out.1.below HB.out) (HH.out.2.below HB.out))
            have hnk := HR.out.2.nk
            by_cases hlt : k < gn
            · have hlti : (k : Int) < (gn : Int) := by omega
              obtain ⟨gb, go, rfl, gl, g0, g1, g2⟩ := HGZ.out.1.at3 hlt
              have hgt : gateB (fld 3 gs k 0) (fld 3 gs k 1) (fld 3 gs k 2) (((an + k : Nat)) : Int) = true := by have := gatesB_at HG.out hlt; rw [show (((an + k : Nat)) : Int) = ((an : Nat) : Int) + (k : Int) by omega]; exact this
              have HS : Hid (pwRun key p gs us zs (k + 1) = pwStep key p k (fld 3 gs k 0) (fld 3 gs k 1) (fld 3 gs k 2) zs (u, n, true)) := by show _ = _; rw [← HR.out.1]; rfl
              have HCK : Hid (cntK gs 1 (k + 1) = cntK gs 1 k + (if fld 3 gs k 0 = 1 then 1 else 0)) := cntK_step gs 1 k
              generalize fld 3 gs k 0 = K at hgt HS g0 HCK
              generalize fld 3 gs k 1 = A at hgt HS g1
              generalize fld 3 gs k 2 = B at hgt HS g2
              have OK := Lib.hid HR.out.2; clear HR
              have x1 : Hid (bitsL0 u (an + k)) := OK.out.bit.nth OK.out.len
              obtain ⟨a1, k1, rfl, m1⟩ := Mine.of HO.out (by omega) OK.out.bit.fit
              have A1 := bel_alloc wr (.cells #[.int .i64 K, .int .i64 A, .int .i64 B] 83)
              have GB := B3.new (w := wr) (x0 := .int .i64 K) (x1 := .int .i64 A) (x2 := .int .i64 B) (t := 83)
              obtain ⟨b0, b1_, b2_⟩ := GB
              have HO1 := Lib.hid (ownsRow_below HO.out A1); have HB1 := Lib.hid (bel_trans HB.out A1); have HZ1 := Lib.hid (And.intro (HGZ.out.1.below A1) (HGZ.out.2.below A1))
              have I1 := Lib.hid (m1.ints.below A1); clear m1 HO HB HGZ A1
              by_cases hK1 : K = 1
              rotate_left
              · have hKb : (K == 1) = false := by simpa using hK1
                have hKc : (K != 1) = true := by simpa using hK1
                have HN : Hid (pwRun key p gs us zs (k + 1) = (u ++ [locS p K A B u], n, true)) := by show _ = _; rw [HS.out]; unfold pwStep; rw [if_neg (by simp), if_neg hK1]
                have OK2 : Hid (PwOk an (k + 1) n gs (u ++ [locS p K A B u])) := ⟨by simp [OK.out.len]; omega, OK.out.bit.snoc (locS_bd HP1.out), by omega, by rw [HCK.out, if_neg hK1, Int.add_zero]; exact OK.out.cnt⟩
                obtain ⟨un, hun⟩ : ∃ x, x = locS p K A B u := ⟨_, rfl⟩
                rw [← hun] at HN OK2; replace hun := Lib.hid hun
                clear HS HCK
                go_wp2_with fail
                refine (i_shareOf p K A B _ _ _ u _ I1.out hpb hgt hK1 x1).mono ?_; rintro e9 w2 ⟨rfl, hb2⟩; rw [← hun.out]
                have HO2 := Lib.hid (ownsRow_below HO1.out hb2); have HB2 := Lib.hid (bel_trans HB1.out hb2); have HZ2 := Lib.hid (And.intro (HZ1.out.1.below hb2) (HZ1.out.2.below hb2)); clear hb2 HO1 HB1 HZ1 I1 b0 b1_ b2_
                have hz2 := HB2.out.size
                go_wp2_with (at_builtin; refine wp_app w2 w.heap.size (an + k) _ u un _ _ rfl _ _ rfl rfl rfl (by first | rfl | simp) HO2.out hz2 (by omega) ?_; intro v9 w9 hv9 hb9 hg9; have HO9 := Lib.hid hv9; have HB9 := Lib.hid (HB2.out.trans hb9); clear hv9 hb9 hg9 HO2 HB2 HZ2)
                go_roundw
                case rel => exact ⟨k + 1, n, u ++ [un], by omega, by omega, rfl, by go_num, (show Hid _ from ⟨HN.out, OK2.out⟩), HO9, HB9⟩
                case measure => simp [intOf]; omega
              · subst hK1
                rw [gateB_01 (Or.inr rfl)] at hgt
                rw [if_pos rfl] at HCK
                by_cases hnm : n < m
                rotate_left
                · have HR2 := Lib.hid (pwAll_no (i0 := i0) (i1 := i1) (gs := gs) (gn := gn) (os := os) (key := key) (p := p) (us := us) (zs := zs) (fun q => by have h1 := cntK_mono gs 1 (k := k + 1) gn (by omega); have h2 := OK.out.cnt; have h3 := q.2.2.2.2.2; have h4 := HCK.out; have h5 := HLM.out; omega))
                  obtain rfl : n = m := by omega
                  go_wp2
                  go_ret2
                  exact PwEnd.no HR2.out HB1.out
                have hnmb : ((n : Int) == (m : Int)) = false := by simp; omega
                have hnmi : (n : Int) < (m : Int) := by omega
                obtain ⟨zb, zo, rfl, zl, z0, z1, z2⟩ := HZ1.out.2.at3 hnm
                have zlw : zb < w.heap.size := by obtain ⟨zb2, zo2, e2, zl2, _⟩ := HH.out.2.at3 hnm; injection e2 with e2; injection e2 with e2; rw [e2]; exact zl2
                generalize hGF : fld 3 zs n 0 = G at z0; generalize hDF : fld 3 zs n 1 = D at z1; generalize hEF : fld 3 zs n 2 = E at z2
                have hGF := Lib.hid hGF; have hDF := Lib.hid hDF; have hEF := Lib.hid hEF
                by_cases hG : G = (k : Int)
                rotate_left
                · have hGb : (G == (k : Int)) = false := by simpa using hG
                  have hGc : (G != (k : Int)) = true := by simpa using hG
                  have HR2 := Lib.hid (pwAll_run (i0 := i0) (i1 := i1) (gs := gs) (gn := gn) (os := os) (key := key) (p := p) (us := us) (zs := zs) (k := k + 1) (by omega) (by rw [HS.out]; unfold pwStep; rw [if_neg (by simp), if_pos rfl, if_neg (by simp only [hGF.out, hDF.out, hEF.out]; simp [hG])]))
                  go_wp2
                  go_ret2
                  exact PwEnd.no HR2.out HB1.out
                have hGb : (G == (k : Int)) = true := by simpa using hG
                have hGc : (G != (k : Int)) = false := by simpa using hG
                cases hD : inB D 0 1 with
                | false =>
                  have HR2 := Lib.hid (pwAll_run (i0 := i0) (i1 := i1) (gs := gs) (gn := gn) (os := os) (key := key) (p := p) (us := us) (zs := zs) (k := k + 1) (by omega) (by rw [HS.out]; unfold pwStep; rw [if_neg (by simp), if_pos rfl, if_neg (by simp only [hGF.out, hDF.out, hEF.out]; simp [hD])]))
                  go_wp2_with fail
                  refine (i_bit01 _ _).mono ?_; rintro e ww ⟨rfl, rfl⟩; rw [hD]
                  go_wp2
                  go_ret2
                  exact PwEnd.no HR2.out HB1.out
                | true =>
                  cases hE : inB E 0 1 with
                  | false =>
                    have HR2 := Lib.hid (pwAll_run (i0 := i0) (i1 := i1) (gs := gs) (gn := gn) (os := os) (key := key) (p := p) (us := us) (zs := zs) (k := k + 1) (by omega) (by rw [HS.out]; unfold pwStep; rw [if_neg (by simp), if_pos rfl, if_neg (by simp only [hGF.out, hDF.out, hEF.out]; simp [hD, hE])]))
                    go_wp2_with fail
                    refine (i_bit01 _ _).mono ?_; rintro e ww ⟨rfl, rfl⟩; rw [hD]
                    go_wp2_with fail
                    refine (i_bit01 _ _).mono ?_; rintro e ww ⟨rfl, rfl⟩; rw [hE]
                    go_wp2
                    go_ret2
                    exact PwEnd.no HR2.out HB1.out
                  | true =>
                    have hDb := inB_iff.1 hD; have hEb := inB_iff.1 hE
                    have HN : Hid (pwRun key p gs us zs (k + 1) = (u ++ [andS p (nth (pT key p n) 0) (nth (pT key p n) 1) (nth (pT key p n) 2) D E], n + 1, true)) := by show _ = _; rw [HS.out]; unfold pwStep; rw [if_neg (by simp), if_pos rfl, if_pos (by simp only [hGF.out, hDF.out, hEF.out]; simp [hG, hD, hE])]; simp only [hDF.out, hEF.out]
                    clear HS hG
                    have OK2 : ∀ x y z : Int, PwOk an (k + 1) (n + 1) gs (u ++ [andS p x y z D E]) := fun x y z => ⟨by simp [OK.out.len]; omega, OK.out.bit.snoc andS_bd, by omega, by rw [HCK.out]; have := OK.out.cnt; omega⟩
                    replace OK2 := Lib.hid OK2
                    go_wp2_with fail
                    refine (i_bit01 _ _).mono ?_; rintro e ww ⟨rfl, rfl⟩; rw [hD]
                    go_wp2_with fail
                    refine (i_bit01 _ _).mono ?_; rintro e ww ⟨rfl, rfl⟩; rw [hE]
                    have HO2 := HO1; have HB2 := HB1; have y1 := z1; have y2 := z2; clear HO1 HB1 z1 z2
                    go_wp2_with fail
                    refine (i_bitTriple key n _ hkk ⟨by omega, by omega⟩).mono ?_; rintro e9 wt ⟨r1, t1, r2, t2, rfl, mA, mB, _, hbt⟩
                    replace y1 := cell_on y1 hbt; replace y2 := cell_on y2 hbt
                    have HO3 := Lib.hid (ownsRow_below HO2.out hbt); have HB3 := Lib.hid (bel_trans HB2.out hbt); clear HO2 HB2
                    have MA := Lib.hid mA.ints; have MB := Lib.hid mB.ints; clear mA mB hbt b0 b1_ b2_ z0 I1 HZ1
                    by_cases hp1 : p = 1
                    · subst hp1
                      rw [pT_one] at HN
                      obtain ⟨un, hun⟩ : ∃ x, x = andS 1 (xr (bt key n 2) (bt key n 0)) (xr (bt key n 3) (bt key n 1)) (xr (bt key n 4) (bt key n 0 * bt key n 1)) D E := ⟨_, rfl⟩
                      have HN2 : Hid (pwRun key 1 gs us zs (k + 1) = (u ++ [un], n + 1, true)) := by show _ = _; rw [hun]; exact HN.out
                      have OK3 : Hid (PwOk an (k + 1) (n + 1) gs (u ++ [un])) := by show PwOk _ _ _ _ _; rw [hun]; exact OK2.out _ _ _
                      clear HN OK2; replace hun := Lib.hid hun
                      go_wp2_with fail
                      have hz3 := HB3.out.size
                      have tokA : True := trivial
                      go_region_held3 (fun W => W.cell? ⟨zb, zo + n * 3 + 1, none⟩ = some (.int .i64 D) ∧ W.cell? ⟨zb, zo + n * 3 + 2, none⟩ = some (.int .i64 E)) (first | exact ⟨(hb9.cell (p := ⟨zb, zo + n * 3 + 1, none⟩) zlw).trans (cell_on y1 (by (repeat (first | exact Below.refl _ _ | assumption | refine bel_trans ?_ (bel_alloc _ _) | refine bel_set ?_ (by first | (dsimp only; omega) | (simp; omega) | simp) _ | refine bel_trans ?_ (bel_drewN _ _) | refine bel_trans ?_ (bel_drew _) | refine bel_trans ?_ (by assumption))))), (hb9.cell (p := ⟨zb, zo + n * 3 + 2, none⟩) zlw).trans (cell_on y2 (by (repeat (first | exact Below.refl _ _ | assumption | refine bel_trans ?_ (bel_alloc _ _) | refine bel_set ?_ (by first | (dsimp only; omega) | (simp; omega) | simp) _ | refine bel_trans ?_ (bel_drewN _ _) | refine bel_trans ?_ (bel_drew _) | refine bel_trans ?_ (by assumption)))))⟩ | exact ⟨cell_on y1 (by (repeat (first | exact Below.refl _ _ | assumption | refine bel_trans ?_ (bel_alloc _ _) | refine bel_set ?_ (by first | (dsimp only; omega) | (simp; omega) | simp) _ | refine bel_trans ?_ (bel_drewN _ _) | refine bel_trans ?_ (bel_drew _) | refine bel_trans ?_ (by assumption)))), cell_on y2 (by (repeat (first | exact Below.refl _ _ | assumption | refine bel_trans ?_ (bel_alloc _ _) | refine bel_set ?_ (by first | (dsimp only; omega) | (simp; omega) | simp) _ | refine bel_trans ?_ (bel_drewN _ _) | refine bel_trans ?_ (bel_drew _) | refine bel_trans ?_ (by assumption))))⟩) (first | (go_at_call 80; refine (i_andShare 1 _ _ (xr (bt key n 2) (bt key n 0)) (xr (bt key n 3) (bt key n 1)) (xr (bt key n 4) (bt key n 0 * bt key n 1)) D E _ (MB.out.below (bel_drew _)) (Or.inr rfl) (xr_bd _ _) (xr_bd _ _) (xr_bd _ _) hDb hEb).mono ?_; rintro e9 wa ⟨rfl, hba⟩; rw [← hun.out]; have hb3 := bel_trans (bel_drew _) hba; have HO3 := Lib.hid (ownsRow_below HO3.out hb3); have HB3 := Lib.hid (bel_trans HB3.out hb3); have y1 := cell_on y1 hb3; have y2 := cell_on y2 hb3; have hz3 := HB3.out.size; clear hba hb3 MA MB tokA) | (refine step_app _ w.heap.size (an + k) _ u un _ (by rfl) _ _ (by rfl) (by rfl) (by rfl) (by first | exact World.cell?_alloc_at _ _ _ _ rfl | (simp [World.cell?_alloc_at]; done) | (simp [World.cell?_alloc_at]; rfl)) HO3.out (by (repeat (first | exact Below.refl _ _ | assumption | refine bel_trans ?_ (bel_alloc _ _) | refine bel_set ?_ (by first | (dsimp only; omega) | (simp; omega) | simp) _ | refine bel_trans ?_ (bel_drewN _ _) | refine bel_trans ?_ (bel_drew _) | refine bel_trans ?_ (by assumption)))) hz3 (by omega) ?_; intro v9 w9 hv9 hb9 hg9; have HO9 := Lib.hid hv9; have HB9 := Lib.hid (HB3.out.trans (((by (repeat (first | exact Below.refl _ _ | assumption | refine bel_trans ?_ (bel_alloc _ _) | refine bel_set ?_ (by first | (dsimp only; omega) | (simp; omega) | simp) _ | refine bel_trans ?_ (bel_drewN _ _) | refine bel_trans ?_ (bel_drew _) | refine bel_trans ?_ (by assumption))) : Below _ _ _).mono hz3).trans hb9))))
                      go_wp2
                      go_roundw
                      case rel => exact ⟨k + 1, n + 1, u ++ [un], by omega, by omega, by go_num, by go_num, (show Hid _ from ⟨HN2.out, OK3.out⟩), HO9, HB9⟩
                      case measure => simp [intOf]; omega
                    · have hpb1 : (p == 1) = false := by simpa using hp1
                      rw [pT_no hp1] at HN
                      obtain ⟨un, hun⟩ : ∃ x, x = andS p (bt key n 2) (bt key n 3) (bt key n 4) D E := ⟨_, rfl⟩
                      have HN2 : Hid (pwRun key p gs us zs (k + 1) = (u ++ [un], n + 1, true)) := by show _ = _; rw [hun]; exact HN.out
                      have OK3 : Hid (PwOk an (k + 1) (n + 1) gs (u ++ [un])) := by show PwOk _ _ _ _ _; rw [hun]; exact OK2.out _ _ _
                      clear HN OK2; replace hun := Lib.hid hun
                      go_wp2_with fail
                      have hz3 := HB3.out.size
                      have tokA : True := trivial
                      go_region_held3 (fun W => W.cell? ⟨zb, zo + n * 3 + 1, none⟩ = some (.int .i64 D) ∧ W.cell? ⟨zb, zo + n * 3 + 2, none⟩ = some (.int .i64 E)) (first | exact ⟨(hb9.cell (p := ⟨zb, zo + n * 3 + 1, none⟩) zlw).trans (cell_on y1 (by (repeat (first | exact Below.refl _ _ | assumption | refine bel_trans ?_ (bel_alloc _ _) | refine bel_set ?_ (by first | (dsimp only; omega) | (simp; omega) | simp) _ | refine bel_trans ?_ (bel_drewN _ _) | refine bel_trans ?_ (bel_drew _) | refine bel_trans ?_ (by assumption))))), (hb9.cell (p := ⟨zb, zo + n * 3 + 2, none⟩) zlw).trans (cell_on y2 (by (repeat (first | exact Below.refl _ _ | assumption | refine bel_trans ?_ (bel_alloc _ _) | refine bel_set ?_ (by first | (dsimp only; omega) | (simp; omega) | simp) _ | refine bel_trans ?_ (bel_drewN _ _) | refine bel_trans ?_ (bel_drew _) | refine bel_trans ?_ (by assumption)))))⟩ | exact ⟨cell_on y1 (by (repeat (first | exact Below.refl _ _ | assumption | refine bel_trans ?_ (bel_alloc _ _) | refine bel_set ?_ (by first | (dsimp only; omega) | (simp; omega) | simp) _ | refine bel_trans ?_ (bel_drewN _ _) | refine bel_trans ?_ (bel_drew _) | refine bel_trans ?_ (by assumption)))), cell_on y2 (by (repeat (first | exact Below.refl _ _ | assumption | refine bel_trans ?_ (bel_alloc _ _) | refine bel_set ?_ (by first | (dsimp only; omega) | (simp; omega) | simp) _ | refine bel_trans ?_ (bel_drewN _ _) | refine bel_trans ?_ (bel_drew _) | refine bel_trans ?_ (by assumption))))⟩) (first | (go_at_call 80; refine (i_andShare p _ _ (bt key n 2) (bt key n 3) (bt key n 4) D E _ (MA.out.below (bel_drew _)) HP1.out (bt_bd _ _ _) (bt_bd _ _ _) (bt_bd _ _ _) hDb hEb).mono ?_; rintro e9 wa ⟨rfl, hba⟩; rw [← hun.out]; have hb3 := bel_trans (bel_drew _) hba; have HO3 := Lib.hid (ownsRow_below HO3.out hb3); have HB3 := Lib.hid (bel_trans HB3.out hb3); have y1 := cell_on y1 hb3; have y2 := cell_on y2 hb3; have hz3 := HB3.out.size; clear hba hb3 MA MB tokA) | (refine step_app _ w.heap.size (an + k) _ u un _ (by rfl) _ _ (by rfl) (by rfl) (by rfl) (by first | exact World.cell?_alloc_at _ _ _ _ rfl | (simp [World.cell?_alloc_at]; done) | (simp [World.cell?_alloc_at]; rfl)) HO3.out (by (repeat (first | exact Below.refl _ _ | assumption | refine bel_trans ?_ (bel_alloc _ _) | refine bel_set ?_ (by first | (dsimp only; omega) | (simp; omega) | simp) _ | refine bel_trans ?_ (bel_drewN _ _) | refine bel_trans ?_ (bel_drew _) | refine bel_trans ?_ (by assumption)))) hz3 (by omega) ?_; intro v9 w9 hv9 hb9 hg9; have HO9 := Lib.hid hv9; have HB9 := Lib.hid (HB3.out.trans (((by (repeat (first | exact Below.refl _ _ | assumption | refine bel_trans ?_ (bel_alloc _ _) | refine bel_set ?_ (by first | (dsimp only; omega) | (simp; omega) | simp) _ | refine bel_trans ?_ (bel_drewN _ _) | refine bel_trans ?_ (bel_drew _) | refine bel_trans ?_ (by assumption))) : Below _ _ _).mono hz3).trans hb9))))
                      go_wp2
                      go_roundw
                      case rel => exact ⟨k + 1, n + 1, u ++ [un], by omega, by omega, by go_num, by go_num, (show Hid _ from ⟨HN2.out, OK3.out⟩), HO9, HB9⟩
                      case measure => simp [intOf]; omega
            · obtain rfl : k = gn := by omega
              have hlti : ¬ (k : Int) < (k : Int) := by omega
              have OK := Lib.hid HR.out.2
              by_cases hnm : (n : Int) = (m : Int)
              rotate_left
              · have hnb : ((n : Int) == (m : Int)) = false := by simpa using hnm
                have hnc : ((n : Int) != (m : Int)) = true := by simpa using hnm
                have HR2 := Lib.hid (pwAll_no (i0 := i0) (i1 := i1) (gs := gs) (gn := k) (os := os) (key := key) (p := p) (us := us) (zs := zs) (fun q => by have h2 := OK.out.cnt; have h3 := q.2.2.2.2.2; have h5 := HLM.out; omega))
                go_wp2
                go_ret2
                exact PwEnd.no HR2.out HB.out
              have hnb : ((n : Int) == (m : Int)) = true := by simpa using hnm
              have hnc : ((n : Int) != (m : Int)) = false := by simpa using hnm
              have HM : Hid (((zs.length / 3 : Nat) : Int) = cntK gs 1 k) := by show _ = _; have h2 := OK.out.cnt; have h5 := HLM.out; omega
              have HR2 := Lib.hid (pwAll_yes ⟨HC.out.1, HC.out.2.1, HC.out.2.2.1, HC.out.2.2.2.1, HC.out.2.2.2.2, HM.out⟩ HR.out.1)
              obtain ⟨a1, k1, rfl, m1⟩ := Mine.of HO.out (by omega) OK.out.bit.fit
              clear hnm
              go_wp2
              go_ret2
              exact PwEnd.yes HR2.out OK.out.len m1 HB.out
end Go.Proofs.Ytmkcanbaleecfaa
