/-
  Digests of rows; HideMessages, both sides.
-/
import Derived.Test.YtfejpmfcognikaaE3
import Derived.Test.YtfejpmfcognikaaSt2
import Derived.Test.YtfejpmfcognikaaE4
namespace Go.Proofs.Ytfejpmfcognikaa
open Go.RowKit
set_option linter.unusedVariables false
set_option linter.unusedSimpArgs false

theorem xor_fits (a b : Int) : Fits (bits .xor .i64 a b) := by
  show Fits (IntKind.i64.wrap ((BitVec.ofInt 64 a ^^^ BitVec.ofInt 64 b).toNat : Nat))
  rw [IntKind.wrap_i64]
  unfold Fits; omega
def dgR (j : Int) (row : List Int) : Int := dgMix ([j, 33] ++ row)
theorem dgR_small {j : Int} {row : List Int} (hj : 0 ≤ j ∧ j ≤ 1000000) (hb : bitsB row = true) : ∀ x ∈ [j, 33] ++ row, Small x := by
  intro x hx
  rcases List.mem_append.1 hx with h | h
  · simp at h; unfold Small; rcases h with rfl | rfl <;> omega
  · obtain ⟨i, hi, rfl⟩ := mem_nth h
    have := bitsB_nth hb hi
    unfold Small; omega
def hidR (secret zero one : List Int) (q : List (List Int)) (j : Nat) : List Int := [bits .xor .i64 (nth zero j) (dgR j (rowN q j)), bits .xor .i64 (nth one j) (dgR j (xrL (rowN q j) secret (rowN q j).length))]
def hidN (secret zero one : List Int) (q : List (List Int)) (t : Nat) : List (List Int) := (List.range t).map (hidR secret zero one q)
theorem hidN_succ (secret zero one : List Int) (q : List (List Int)) (t : Nat) : hidN secret zero one q (t + 1) = hidN secret zero one q t ++ [hidR secret zero one q t] := by simp [hidN, List.range_succ]
theorem hidN_len (secret zero one : List Int) (q : List (List Int)) (t : Nat) : (hidN secret zero one q t).length = t := by simp [hidN]
theorem rowN_hidN {secret zero one : List Int} {q : List (List Int)} {t i : Nat} (hi : i < t) : rowN (hidN secret zero one q t) i = hidR secret zero one q i := by simp [rowN, hidN, hi]
def hdB (secret : List Int) (q : List (List Int)) (zero one : List Int) : Bool := secB secret && (rowsB q q.length secret.length && (decide (zero.length = q.length) && (decide (one.length = q.length) && (labB zero && labB one))))
theorem hdB_iff {secret : List Int} {q : List (List Int)} {zero one : List Int} : hdB secret q zero one = true ↔ secB secret = true ∧ rowsB q q.length secret.length = true ∧ zero.length = q.length ∧ one.length = q.length ∧ labB zero = true ∧ labB one = true := by
  unfold hdB; simp only [Bool.and_eq_true, decide_eq_true_iff]
def hideMessages (secret : List Int) (q : List (List Int)) (zero one : List Int) : List (List Int) × Bool := if hdB secret q zero one then (hidN secret zero one q q.length, true) else ([], false)
theorem hd_t {secret : List Int} {q : List (List Int)} {zero one : List Int} (h : hdB secret q zero one = true) : hideMessages secret q zero one = (hidN secret zero one q q.length, true) := by unfold hideMessages; rw [if_pos h]
theorem hd_f {secret : List Int} {q : List (List Int)} {zero one : List Int} (h : ¬ hdB secret q zero one = true) : hideMessages secret q zero one = ([], false) := by unfold hideMessages; rw [if_neg h]
theorem hideMessages_len (secret : List Int) (q : List (List Int)) (zero one : List Int) : (hideMessages secret q zero one).1.length ≤ 1000 ∧ pre (hideMessages secret q zero one).1 (hideMessages secret q zero one).1.length ≤ 100000 := by
  by_cases h : hdB secret q zero one = true
  · rw [hd_t h]
    have h2 := (rowsB_iff.1 (hdB_iff.1 h).2.1).1
    show (hidN secret zero one q q.length).length ≤ 1000 ∧ pre (hidN secret zero one q q.length) (hidN secret zero one q q.length).length ≤ 100000
    rw [hidN_len]
    have := pre_le (hidN secret zero one q q.length) q.length 2 (fun i hi => by rw [rowN_hidN hi]; simp [hidR])
    omega
  · rw [hd_f h]; simp [pre]
theorem lit2M {w : World} {x y : Int} (t : TypeId) (hx : Fits x) (hy : Fits y) : Mine (w.alloc (.cells #[.int .i64 x, .int .i64 y] t)) w.heap.size (some ⟨w.heap.size, 0, none⟩) 2 2 [x, y] := by
  refine ⟨Ints.lit2 rfl hx hy, fun _ b off e => ?_, fun i hi b off e => ?_⟩
  · simp only [Option.some.injEq, Addr.mk.injEq] at e
    obtain ⟨rfl, _, _⟩ := e
    exact ⟨Nat.le_refl _, by simp⟩
  · simp only [Option.some.injEq, Addr.mk.injEq] at e
    obtain ⟨rfl, rfl, _⟩ := e
    exact World.frozen?_alloc_at _ _ _ _ rfl

set_option maxHeartbeats 1000000 in
theorem i_rowDigest (j : Int) (a : Option Addr) (n cap : Nat) (xs : List Int) (w : World) (hj : 0 ≤ j ∧ j ≤ 1000000) (h : Ints w a n cap xs) (hn : n ≤ 100) (hb : bitsB xs = true) :
    Calls Try.prog 59 #[.int .i64 j, .slice a n cap] w fun e w' => e = .returned (.int .i64 (dgR j xs)) ∧ Below w.heap.size w w' := by
  have HSM := Lib.hid (dgR_small hj hb)
  have HF : Hid (∀ x ∈ [j, 33] ++ xs, Fits x) := fun x hx => (HSM.out x hx).fits
  have HH := Lib.hid h; clear h hb
  go_enter Try.func59, Try.ntmps59
  go_wp2_with (at_builtin; refine wp_apps (w.alloc (.cells #[.int .i64 j, .int .i64 33] 3)) w.heap.size 2 _ [j, 33] xs _ _ _ rfl _ _ rfl rfl rfl (HH.out.alloc _) (World.ownsRow_lit w #[.int .i64 j, .int .i64 33] 2 (Nat.le_refl _) (by decide) rfl) (by simp) (by omega) ?_; intro v9 w9 hv9 hb9 hg9)
  obtain ⟨r, c, hr, ho⟩ := OwnI.of hv9 (by omega) HF.out
  subst hr
  have HO := Lib.hid ho; have HB9 := Lib.hid ((bel_alloc w (.cells #[.int .i64 j, .int .i64 33] 3)).trans hb9); clear ho hv9 hb9 hg9
  go_wp2_with fail
  refine (i_digest _ _ _ _ _ HO.out.ints (by omega) HSM.out).mono ?_; rintro e w2 ⟨rfl, hb2⟩
  go_wp2
  go_ret
  exact ⟨rfl, bel_trans HB9.out hb2⟩
set_option maxHeartbeats 1000000 in
theorem s_oxMask (j : Int) (a : Option Addr) (n cap : Nat) (xs : List Int) (w : World) (hj : 0 ≤ j ∧ j ≤ 1000000) (h : Ints w a n cap xs) (hn : n ≤ 100) (hb : bitsB xs = true) :
    Calls Try.prog 95 #[.int .i64 j, .slice a n cap] w fun e w' => e = .returned (.int .i64 (dgR j xs)) ∧ Below w.heap.size w w' := by
  have HSM := Lib.hid (dgR_small hj hb)
  have HF : Hid (∀ x ∈ [j, 33] ++ xs, Fits x) := fun x hx => (HSM.out x hx).fits
  have HH := Lib.hid h; clear h hb
  go_enter Try.func95, Try.ntmps95
  go_wp2_with (at_builtin; refine wp_apps (w.alloc (.cells #[.int .i64 j, .int .i64 33] 3)) w.heap.size 2 _ [j, 33] xs _ _ _ rfl _ _ rfl rfl rfl (HH.out.alloc _) (World.ownsRow_lit w #[.int .i64 j, .int .i64 33] 2 (Nat.le_refl _) (by decide) rfl) (by simp) (by omega) ?_; intro v9 w9 hv9 hb9 hg9)
  obtain ⟨r, c, hr, ho⟩ := OwnI.of hv9 (by omega) HF.out
  subst hr
  have HO := Lib.hid ho; have HB9 := Lib.hid ((bel_alloc w (.cells #[.int .i64 j, .int .i64 33] 3)).trans hb9); clear ho hv9 hb9 hg9
  go_wp2_with fail
  refine (s_digest _ _ _ _ _ HO.out.ints (by omega) HSM.out).mono ?_; rintro e w2 ⟨rfl, hb2⟩
  go_wp2
  go_ret
  exact ⟨rfl, bel_trans HB9.out hb2⟩
set_option maxRecDepth 100000 in
set_option maxHeartbeats 8000000 in
theorem i_HideMessages (a : Option Addr) (n cap : Nat) (xs : List Int) (a1 : Option Addr) (n1 cap1 : Nat) (qs : List (List Int)) (a2 : Option Addr) (n2 cap2 : Nat) (zs : List Int) (a3 : Option Addr) (n3 cap3 : Nat) (os : List Int) (w : World) (h : Ints w a n cap xs) (h1 : Rws w a1 n1 cap1 qs) (h2 : Ints w a2 n2 cap2 zs) (h3 : Ints w a3 n3 cap3 os) :
    Calls Try.prog 15 #[.slice a n cap, .slice a1 n1 cap1, .slice a2 n2 cap2, .slice a3 n3 cap3] w fun e w' => RowsRetB (hideMessages xs qs zs os) w e w' := by
  have hl := h.len; have hl1 := h1.len; have hl2 := h2.len; have hl3 := h3.len
  have hs := h.small; have hs1 := h1.small; have hs2 := h2.small; have hs3 := h3.small
  cases g1 : secB xs with
  | false =>
    have HR := Lib.hid (hd_f (secret := xs) (q := qs) (zero := zs) (one := os) (fun q => by have := hdB_iff.1 q; rw [g1] at this; cases this.1))
    go_enter Try.func15, Try.ntmps15
    go_wp2_with fail
    refine (i_isSecretOf _ _ _ xs _ h).mono ?_; rintro e w1 ⟨rfl, hb1⟩
    go_wp2
    all_goals
      go_ret2
      rw [HR.out]
      exact RowsRetB.no (hb1)
  | true =>
    obtain ⟨⟨k1, k2⟩, kb⟩ := secB_iff.1 g1
    rw [hl.out] at k1 k2
    cases g2 : rowsB qs n1 n with
    | false =>
      have HR := Lib.hid (hd_f (secret := xs) (q := qs) (zero := zs) (one := os) (fun q => by have := hdB_iff.1 q; rw [hl.out, hl1.out, g2] at this; cases this.2.1))
      go_enter Try.func15, Try.ntmps15
      go_wp2_with fail
      refine (i_isSecretOf _ _ _ xs _ h).mono ?_; rintro e w1 ⟨rfl, hb1⟩
      go_wp2_with fail
      refine (i_areRows _ _ _ qs _ _ _ (h1.below hb1)).mono ?_; rintro e w2 ⟨rfl, hb2⟩; have B2 := bel_trans hb1 hb2; clear hb2
      go_wp2
      all_goals
        go_ret2
        rw [HR.out]
        exact RowsRetB.no (B2)
    | true =>
      obtain ⟨⟨m1, m2⟩, _, q1, q2⟩ := rowsB_iff.1 g2
      by_cases el2 : n1 = n2
      rotate_left
      · have hxb : ((n2 : Int) != (n1 : Int)) = true := by simp; omega
        have hxc : ((n2 : Int) == (n1 : Int)) = false := by simp; omega
        have HR := Lib.hid (hd_f (secret := xs) (q := qs) (zero := zs) (one := os) (fun q => by have := hdB_iff.1 q; rw [hl2.out, hl1.out] at this; omega))
        go_enter Try.func15, Try.ntmps15
        go_wp2_with fail
        refine (i_isSecretOf _ _ _ xs _ h).mono ?_; rintro e w1 ⟨rfl, hb1⟩
        go_wp2_with fail
        refine (i_areRows _ _ _ qs _ _ _ (h1.below hb1)).mono ?_; rintro e w2 ⟨rfl, hb2⟩; have B2 := bel_trans hb1 hb2; clear hb2
        go_wp2
        all_goals
          go_ret2
          rw [HR.out]
          exact RowsRetB.no (B2)
      subst el2
      by_cases el3 : n1 = n3
      rotate_left
      · have hxb : ((n3 : Int) != (n1 : Int)) = true := by simp; omega
        have hxc : ((n3 : Int) == (n1 : Int)) = false := by simp; omega
        have HR := Lib.hid (hd_f (secret := xs) (q := qs) (zero := zs) (one := os) (fun q => by have := hdB_iff.1 q; rw [hl3.out, hl1.out] at this; omega))
        go_enter Try.func15, Try.ntmps15
        go_wp2_with fail
        refine (i_isSecretOf _ _ _ xs _ h).mono ?_; rintro e w1 ⟨rfl, hb1⟩
        go_wp2_with fail
        refine (i_areRows _ _ _ qs _ _ _ (h1.below hb1)).mono ?_; rintro e w2 ⟨rfl, hb2⟩; have B2 := bel_trans hb1 hb2; clear hb2
        go_wp2
        all_goals
          go_ret2
          rw [HR.out]
          exact RowsRetB.no (B2)
      subst el3
      cases g3 : labB zs with
      | false =>
        have HR := Lib.hid (hd_f (secret := xs) (q := qs) (zero := zs) (one := os) (fun q => by have := hdB_iff.1 q; rw [g3] at this; cases this.2.2.2.2.1))
        go_enter Try.func15, Try.ntmps15
        go_wp2_with fail
        refine (i_isSecretOf _ _ _ xs _ h).mono ?_; rintro e w1 ⟨rfl, hb1⟩
        go_wp2_with fail
        refine (i_areRows _ _ _ qs _ _ _ (h1.below hb1)).mono ?_; rintro e w2 ⟨rfl, hb2⟩; have B2 := bel_trans hb1 hb2; clear hb2
        go_wp2_with fail
        refine (i_areLabels _ _ _ zs _ (h2.below B2)).mono ?_; rintro e w3 ⟨rfl, hb3⟩; have B3 := bel_trans B2 hb3; clear hb3
        go_wp2
        all_goals
          go_ret2
          rw [HR.out]
          exact RowsRetB.no (B3)
      | true =>
        cases g4 : labB os with
        | false =>
          have HR := Lib.hid (hd_f (secret := xs) (q := qs) (zero := zs) (one := os) (fun q => by have := hdB_iff.1 q; rw [g4] at this; cases this.2.2.2.2.2))
          go_enter Try.func15, Try.ntmps15
          go_wp2_with fail
          refine (i_isSecretOf _ _ _ xs _ h).mono ?_; rintro e w1 ⟨rfl, hb1⟩
          go_wp2_with fail
          refine (i_areRows _ _ _ qs _ _ _ (h1.below hb1)).mono ?_; rintro e w2 ⟨rfl, hb2⟩; have B2 := bel_trans hb1 hb2; clear hb2
          go_wp2_with fail
          refine (i_areLabels _ _ _ zs _ (h2.below B2)).mono ?_; rintro e w3 ⟨rfl, hb3⟩; have B3 := bel_trans B2 hb3; clear hb3
          go_wp2_with fail
          refine (i_areLabels _ _ _ os _ (h3.below B3)).mono ?_; rintro e w4 ⟨rfl, hb4⟩; have B4 := bel_trans B3 hb4; clear hb4
          go_wp2
          all_goals
            go_ret2
            rw [HR.out]
            exact RowsRetB.no (B4)
        | true =>
          have HR := Lib.hid (hd_t (secret := xs) (q := qs) (zero := zs) (one := os) (hdB_iff.2 ⟨g1, by rw [hl.out, hl1.out]; exact g2, by rw [hl2.out, hl1.out], by rw [hl3.out, hl1.out], g3, g4⟩))
          have HQ : Hid (∀ j, j < qs.length → (rowN qs j).length = n ∧ bitsB (rowN qs j) = true) := fun j hj => by have := listsB_at q2 hj; exact ⟨by omega, this.2⟩
          have HX : Hid (hidN xs zs os qs qs.length = hidN xs zs os qs n1) := by show _ = _; rw [hl1.out]
          go_enter Try.func15, Try.ntmps15
          go_wp2_with fail
          refine (i_isSecretOf _ _ _ xs _ h).mono ?_; rintro e w1 ⟨rfl, hb1⟩
          go_wp2_with fail
          refine (i_areRows _ _ _ qs _ _ _ (h1.below hb1)).mono ?_; rintro e w2 ⟨rfl, hb2⟩; have B2 := bel_trans hb1 hb2; clear hb2
          go_wp2_with fail
          refine (i_areLabels _ _ _ zs _ (h2.below B2)).mono ?_; rintro e w3 ⟨rfl, hb3⟩; have B3 := bel_trans B2 hb3; clear hb3
          go_wp2_with fail
          refine (i_areLabels _ _ _ os _ (h3.below B3)).mono ?_; rintro e w4 ⟨rfl, hb4⟩; have B4 := bel_trans B3 hb4; clear hb4
          have HB0 : Hid (Below w.heap.size w w4) := B4
          clear hb1 B2 B3 B4
          have HH := Lib.hid h; have HH1 := Lib.hid h1; have HH2 := Lib.hid h2; have HH3 := Lib.hid h3; clear h h1 h2 h3
          go_wp2
          go_loopw [11, 52] (fun v i wr => ∃ j : Nat, j ≤ n1 ∧ i = .int .i64 j ∧ Hid (OwnR 23 wr w.heap.size v j (hidN xs zs os qs j)) ∧ Hid (Below w.heap.size w wr)) (fun _ i _ => n1 - (intOf i).toNat)
          case atStart => exact ⟨0, by omega, rfl, (show Hid _ from OwnR.lit HB0.out.size rfl), (show Hid _ from bel_trans HB0.out (bel_alloc _ _))⟩
          case round =>
            obtain ⟨j, hj, rfl, HO, HB⟩ := hrel
            obtain ⟨wo, rfl⟩ : ∃ wo : World, wo = wr := ⟨_, rfl⟩
            clear HB0
            have hz := HB.out.size
            by_cases hlt : j < n1
            · obtain ⟨b, off, r, q, c, rfl, hbl, hc, hri⟩ := (HH1.out.below HB.out).at hlt
              obtain ⟨b2, off2, rfl, hbl2, hc2⟩ := HH2.out.at hlt
              obtain ⟨b3, off3, rfl, hbl3, hc3⟩ := HH3.out.at hlt
              replace hc2 := cell_on hc2 HB.out
              replace hc3 := cell_on hc3 HB.out
              have hlti : (j : Int) < (n1 : Int) := by omega
              have f := HQ.out j (by rw [hl1.out]; exact hlt)
              have eq : q = n := by rw [← hri.len.out]; exact f.1
              subst eq
              have R := Lib.hid hri; have HF := Lib.hid f; clear hri f
              have HL := Lib.hid (hidN_succ xs zs os qs j)
              have HD : Hid (hidR xs zs os qs j = [bits .xor .i64 (nth zs j) (dgR j (rowN qs j)), bits .xor .i64 (nth os j) (dgR j (xrL (rowN qs j) xs q))]) := by show _ = _; unfold hidR; rw [HF.out.1]
              obtain ⟨x1, hx1⟩ : ∃ x, x = bits .xor .i64 (nth zs j) (dgR j (rowN qs j)) := ⟨_, rfl⟩
              obtain ⟨x2, hx2⟩ : ∃ x, x = bits .xor .i64 (nth os j) (dgR j (xrL (rowN qs j) xs q)) := ⟨_, rfl⟩
              have hf1 : Fits x1 := by rw [hx1]; exact xor_fits _ _
              have hf2 : Fits x2 := by rw [hx2]; exact xor_fits _ _
              rw [← hx1, ← hx2] at HD
              have e1 := hx1.symm; have e2 := hx2.symm; clear hx1 hx2
              go_wp2_with fail
              go_region_held3 (fun W => W.cell? ⟨b2, off2 + j, none⟩ = some (.int .i64 (nth zs j)) ∧ W.cell? ⟨b3, off3 + j, none⟩ = some (.int .i64 (nth os j))) (first | exact ⟨(hb9.cell (p := ⟨b2, off2 + j, none⟩) hbl2).trans (cell_on hc2 (by (repeat (first | exact Below.refl _ _ | assumption | refine bel_trans ?_ (bel_alloc _ _) | refine bel_set ?_ (by first | (dsimp only; omega) | (simp; omega) | simp) _ | refine bel_trans ?_ (bel_drewN _ _) | refine bel_trans ?_ (bel_drew _) | refine bel_trans ?_ (by assumption))))), (hb9.cell (p := ⟨b3, off3 + j, none⟩) hbl3).trans (cell_on hc3 (by (repeat (first | exact Below.refl _ _ | assumption | refine bel_trans ?_ (bel_alloc _ _) | refine bel_set ?_ (by first | (dsimp only; omega) | (simp; omega) | simp) _ | refine bel_trans ?_ (bel_drewN _ _) | refine bel_trans ?_ (bel_drew _) | refine bel_trans ?_ (by assumption)))))⟩ | exact ⟨cell_on hc2 (by (repeat (first | exact Below.refl _ _ | assumption | refine bel_trans ?_ (bel_alloc _ _) | refine bel_set ?_ (by first | (dsimp only; omega) | (simp; omega) | simp) _ | refine bel_trans ?_ (bel_drewN _ _) | refine bel_trans ?_ (bel_drew _) | refine bel_trans ?_ (by assumption)))), cell_on hc3 (by (repeat (first | exact Below.refl _ _ | assumption | refine bel_trans ?_ (bel_alloc _ _) | refine bel_set ?_ (by first | (dsimp only; omega) | (simp; omega) | simp) _ | refine bel_trans ?_ (bel_drewN _ _) | refine bel_trans ?_ (bel_drew _) | refine bel_trans ?_ (by assumption))))⟩) (first | (go_at_call_of 59 r; refine (i_rowDigest _ _ _ _ (rowN qs j) _ (by omega) (R.out.below (by (repeat (first | exact Below.refl _ _ | assumption | refine bel_trans ?_ (bel_alloc _ _) | refine bel_set ?_ (by first | (dsimp only; omega) | (simp; omega) | simp) _ | refine bel_trans ?_ (bel_drewN _ _) | refine bel_trans ?_ (bel_drew _) | refine bel_trans ?_ (by assumption))))) (by omega) HF.out.2).mono ?_; rintro e w5 ⟨rfl, hb5⟩) | (go_at_call 60; refine (i_xored _ _ _ _ _ _ (rowN qs j) xs _ (R.out.below (by (repeat (first | exact Below.refl _ _ | assumption | refine bel_trans ?_ (bel_alloc _ _) | refine bel_set ?_ (by first | (dsimp only; omega) | (simp; omega) | simp) _ | refine bel_trans ?_ (bel_drewN _ _) | refine bel_trans ?_ (bel_drew _) | refine bel_trans ?_ (by assumption))))) (HH.out.below (bel_trans HB.out (by (repeat (first | exact Below.refl _ _ | assumption | refine bel_trans ?_ (bel_alloc _ _) | refine bel_set ?_ (by first | (dsimp only; omega) | (simp; omega) | simp) _ | refine bel_trans ?_ (bel_drewN _ _) | refine bel_trans ?_ (bel_drew _) | refine bel_trans ?_ (by assumption)))))) (Nat.le_refl _) (by omega) (bits2 HF.out.2 kb (by rw [HF.out.1]; exact Nat.le_refl _) (by rw [hl.out]; exact Nat.le_refl _))).mono ?_; rintro e w6 ⟨r6, c6, rfl, hm6, hb6⟩) | (go_at_call 59; refine (i_rowDigest _ _ _ _ (xrL (rowN qs j) xs q) _ (by omega) (hm6.ints.below (by (repeat (first | exact Below.refl _ _ | assumption | refine bel_trans ?_ (bel_alloc _ _) | refine bel_set ?_ (by first | (dsimp only; omega) | (simp; omega) | simp) _ | refine bel_trans ?_ (bel_drewN _ _) | refine bel_trans ?_ (bel_drew _) | refine bel_trans ?_ (by assumption))))) (by omega) (xrL_bits _ _ _)).mono ?_; rintro e w7 ⟨rfl, hb7⟩) | (refine step_appR wo w.heap.size j _ (hidN xs zs os qs j) _ 2 2 [x1, x2] _ (by rfl) _ _ (by rfl) (by rfl) (by rfl) (by first | exact World.cell?_alloc_at _ _ _ _ rfl | (simp [World.cell?_alloc_at]; done) | (simp [World.cell?_alloc_at]; rfl)) HO.out (by (repeat (first | exact Below.refl _ _ | assumption | refine bel_trans ?_ (bel_alloc _ _) | refine bel_set ?_ (by first | (dsimp only; omega) | (simp; omega) | simp) _ | refine bel_trans ?_ (bel_drewN _ _) | refine bel_trans ?_ (bel_drew _) | refine bel_trans ?_ (by assumption)))) (Mine.base (Mine.below (lit2M _ hf1 hf2) (by (repeat (first | exact Below.refl _ _ | assumption | refine bel_trans ?_ (bel_alloc _ _) | refine bel_set ?_ (by first | (dsimp only; omega) | (simp; omega) | simp) _ | refine bel_trans ?_ (bel_drewN _ _) | refine bel_trans ?_ (bel_drew _) | refine bel_trans ?_ (by assumption))))) (Below.size (by (repeat (first | exact Below.refl _ _ | assumption | refine bel_trans ?_ (bel_alloc _ _) | refine bel_set ?_ (by first | (dsimp only; omega) | (simp; omega) | simp) _ | refine bel_trans ?_ (bel_drewN _ _) | refine bel_trans ?_ (bel_drew _) | refine bel_trans ?_ (by assumption)))))) hz (by omega) ?_; intro v9 w9 hv9 hb9 hg9))
              all_goals
                clear hg9
                have HV := Lib.hid hv9
                have HW : Hid (Below w.heap.size w w9) := HB.out.trans (((by (repeat (first | exact Below.refl _ _ | assumption | refine bel_trans ?_ (bel_alloc _ _) | refine bel_set ?_ (by first | (dsimp only; omega) | (simp; omega) | simp) _ | refine bel_trans ?_ (bel_drewN _ _) | refine bel_trans ?_ (bel_drew _) | refine bel_trans ?_ (by assumption))) : Below wo.heap.size wo _).mono hz).trans hb9)
                clear hv9 hb9 e1 e2
                go_wp2
                go_roundw
                case rel => exact ⟨j + 1, by omega, by go_num, (by rw [HL.out, HD.out]; exact HV.out), HW.out⟩
                case measure => simp [intOf]; omega
            · obtain rfl : j = n1 := by omega
              obtain ⟨a9, c9, hv, hm9⟩ := HO.out.mine (by omega) HB.out.size
              subst hv
              have HM := Lib.hid hm9; clear hm9 HO
              have HLN := Lib.hid (hidN_len xs zs os qs j)
              go_wp2
              go_ret2
              rw [HR.out, HX.out]
              unfold RowsRetB
              rw [HLN.out]
              exact ⟨_, _, rfl, HM.out, HB.out⟩
set_option maxRecDepth 100000 in
set_option maxHeartbeats 8000000 in
theorem s_HideMessages (a : Option Addr) (n cap : Nat) (xs : List Int) (a1 : Option Addr) (n1 cap1 : Nat) (qs : List (List Int)) (a2 : Option Addr) (n2 cap2 : Nat) (zs : List Int) (a3 : Option Addr) (n3 cap3 : Nat) (os : List Int) (w : World) (h : Ints w a n cap xs) (h1 : Rws w a1 n1 cap1 qs) (h2 : Ints w a2 n2 cap2 zs) (h3 : Ints w a3 n3 cap3 os) :
    Calls Try.prog 33 #[.slice a n cap, .slice a1 n1 cap1, .slice a2 n2 cap2, .slice a3 n3 cap3] w fun e w' => RowsRetB (hideMessages xs qs zs os) w e w' := by
  have hl := h.len; have hl1 := h1.len; have hl2 := h2.len; have hl3 := h3.len
  have hs := h.small; have hs1 := h1.small; have hs2 := h2.small; have hs3 := h3.small
  cases g1 : secB xs with
  | false =>
    have HR := Lib.hid (hd_f (secret := xs) (q := qs) (zero := zs) (one := os) (fun q => by have := hdB_iff.1 q; rw [g1] at this; cases this.1))
    go_enter Try.func33, Try.ntmps33
    go_wp2_with fail
    refine (s_oxSecret _ _ _ xs _ h).mono ?_; rintro e w1 ⟨rfl, rfl⟩
    go_wp2
    all_goals
      go_ret2
      rw [HR.out]
      exact RowsRetB.no (Below.refl _ _)
  | true =>
    obtain ⟨⟨k1, k2⟩, kb⟩ := secB_iff.1 g1
    rw [hl.out] at k1 k2
    cases g2 : rowsB qs n2 n with
    | false =>
      have HR := Lib.hid (hd_f (secret := xs) (q := qs) (zero := zs) (one := os) (fun q => by have := hdB_iff.1 q; have e := this.2.2.1; rw [hl1.out, hl2.out] at e; subst e; rw [hl.out, hl1.out, g2] at this; cases this.2.1))
      go_enter Try.func33, Try.ntmps33
      go_wp2_with fail
      refine (s_oxSecret _ _ _ xs _ h).mono ?_; rintro e w1 ⟨rfl, rfl⟩
      go_wp2_with fail
      refine (s_oxRows _ _ _ qs _ _ _ h1 (by omega)).mono ?_; rintro e w1 ⟨rfl, rfl⟩
      go_wp2
      all_goals
        go_ret2
        rw [HR.out]
        exact RowsRetB.no (Below.refl _ _)
    | true =>
      obtain ⟨⟨m1, m2⟩, _, q1, q2⟩ := rowsB_iff.1 g2
      rw [hl1.out] at q1
      have q1n : n1 = n2 := by omega
      subst q1n
      by_cases el3 : n1 = n3
      rotate_left
      · have hxb : ((n3 : Int) != (n1 : Int)) = true := by simp; omega
        have hxc : ((n3 : Int) == (n1 : Int)) = false := by simp; omega
        have HR := Lib.hid (hd_f (secret := xs) (q := qs) (zero := zs) (one := os) (fun q => by have := hdB_iff.1 q; rw [hl3.out, hl1.out] at this; omega))
        go_enter Try.func33, Try.ntmps33
        go_wp2_with fail
        refine (s_oxSecret _ _ _ xs _ h).mono ?_; rintro e w1 ⟨rfl, rfl⟩
        go_wp2_with fail
        refine (s_oxRows _ _ _ qs _ _ _ h1 (by omega)).mono ?_; rintro e w1 ⟨rfl, rfl⟩
        go_wp2
        all_goals
          go_ret2
          rw [HR.out]
          exact RowsRetB.no (Below.refl _ _)
      subst el3
      cases g3 : labB zs with
      | false =>
        have HR := Lib.hid (hd_f (secret := xs) (q := qs) (zero := zs) (one := os) (fun q => by have := hdB_iff.1 q; rw [g3] at this; cases this.2.2.2.2.1))
        go_enter Try.func33, Try.ntmps33
        go_wp2_with fail
        refine (s_oxSecret _ _ _ xs _ h).mono ?_; rintro e w1 ⟨rfl, rfl⟩
        go_wp2_with fail
        refine (s_oxRows _ _ _ qs _ _ _ h1 (by omega)).mono ?_; rintro e w1 ⟨rfl, rfl⟩
        go_wp2_with fail
        refine (s_lbAll _ _ _ zs _ h2 (by omega)).mono ?_; rintro e w1 ⟨rfl, rfl⟩
        go_wp2
        all_goals
          go_ret2
          rw [HR.out]
          exact RowsRetB.no (Below.refl _ _)
      | true =>
        cases g4 : labB os with
        | false =>
          have HR := Lib.hid (hd_f (secret := xs) (q := qs) (zero := zs) (one := os) (fun q => by have := hdB_iff.1 q; rw [g4] at this; cases this.2.2.2.2.2))
          go_enter Try.func33, Try.ntmps33
          go_wp2_with fail
          refine (s_oxSecret _ _ _ xs _ h).mono ?_; rintro e w1 ⟨rfl, rfl⟩
          go_wp2_with fail
          refine (s_oxRows _ _ _ qs _ _ _ h1 (by omega)).mono ?_; rintro e w1 ⟨rfl, rfl⟩
          go_wp2_with fail
          refine (s_lbAll _ _ _ zs _ h2 (by omega)).mono ?_; rintro e w1 ⟨rfl, rfl⟩
          go_wp2_with fail
          refine (s_lbAll _ _ _ os _ h3 (by omega)).mono ?_; rintro e w1 ⟨rfl, rfl⟩
          go_wp2
          all_goals
            go_ret2
            rw [HR.out]
            exact RowsRetB.no (Below.refl _ _)
        | true =>
          have HR := Lib.hid (hd_t (secret := xs) (q := qs) (zero := zs) (one := os) (hdB_iff.2 ⟨g1, by rw [hl.out, hl1.out]; exact g2, by rw [hl2.out, hl1.out], by rw [hl3.out, hl1.out], g3, g4⟩))
          have HQ : Hid (∀ j, j < qs.length → (rowN qs j).length = n ∧ bitsB (rowN qs j) = true) := fun j hj => by have := listsB_at q2 hj; exact ⟨by omega, this.2⟩
          have HX : Hid (hidN xs zs os qs qs.length = hidN xs zs os qs n1) := by show _ = _; rw [hl1.out]
          go_enter Try.func33, Try.ntmps33
          go_wp2_with fail
          refine (s_oxSecret _ _ _ xs _ h).mono ?_; rintro e w1 ⟨rfl, rfl⟩
          go_wp2_with fail
          refine (s_oxRows _ _ _ qs _ _ _ h1 (by omega)).mono ?_; rintro e w1 ⟨rfl, rfl⟩
          go_wp2_with fail
          refine (s_lbAll _ _ _ zs _ h2 (by omega)).mono ?_; rintro e w1 ⟨rfl, rfl⟩
          go_wp2_with fail
          refine (s_lbAll _ _ _ os _ h3 (by omega)).mono ?_; rintro e w1 ⟨rfl, rfl⟩
          have HB0 : Hid (Below w.heap.size w w) := Below.refl _ _
          have HH := Lib.hid h; have HH1 := Lib.hid h1; have HH2 := Lib.hid h2; have HH3 := Lib.hid h3; clear h h1 h2 h3
          go_wp2
          go_loopw [10, 44] (fun v i wr => ∃ j : Nat, j ≤ n1 ∧ i = .int .i64 j ∧ Hid (OwnR 23 wr w.heap.size v j (hidN xs zs os qs j)) ∧ Hid (Below w.heap.size w wr)) (fun _ i _ => n1 - (intOf i).toNat)
          case atStart => exact ⟨0, by omega, rfl, (show Hid _ from OwnR.nil), HB0.out⟩
          case round =>
            obtain ⟨j, hj, rfl, HO, HB⟩ := hrel
            obtain ⟨wo, rfl⟩ : ∃ wo : World, wo = wr := ⟨_, rfl⟩
            clear HB0
            have hz := HB.out.size
            by_cases hlt : j < n1
            · obtain ⟨b, off, r, q, c, rfl, hbl, hc, hri⟩ := (HH1.out.below HB.out).at hlt
              obtain ⟨b2, off2, rfl, hbl2, hc2⟩ := HH2.out.at hlt
              obtain ⟨b3, off3, rfl, hbl3, hc3⟩ := HH3.out.at hlt
              replace hc2 := cell_on hc2 HB.out
              replace hc3 := cell_on hc3 HB.out
              have hlti : (j : Int) < (n1 : Int) := by omega
              have f := HQ.out j (by rw [hl1.out]; exact hlt)
              have eq : q = n := by rw [← hri.len.out]; exact f.1
              subst eq
              have R := Lib.hid hri; have HF := Lib.hid f; clear hri f
              have HL := Lib.hid (hidN_succ xs zs os qs j)
              have HD : Hid (hidR xs zs os qs j = [bits .xor .i64 (nth zs j) (dgR j (rowN qs j)), bits .xor .i64 (nth os j) (dgR j (xrL (rowN qs j) xs q))]) := by show _ = _; unfold hidR; rw [HF.out.1]
              obtain ⟨x1, hx1⟩ : ∃ x, x = bits .xor .i64 (nth zs j) (dgR j (rowN qs j)) := ⟨_, rfl⟩
              obtain ⟨x2, hx2⟩ : ∃ x, x = bits .xor .i64 (nth os j) (dgR j (xrL (rowN qs j) xs q)) := ⟨_, rfl⟩
              have hf1 : Fits x1 := by rw [hx1]; exact xor_fits _ _
              have hf2 : Fits x2 := by rw [hx2]; exact xor_fits _ _
              rw [← hx1, ← hx2] at HD
              have e1 := hx1.symm; have e2 := hx2.symm; clear hx1 hx2
              go_wp2_with fail
              go_region_held3 (fun W => W.cell? ⟨b2, off2 + j, none⟩ = some (.int .i64 (nth zs j)) ∧ W.cell? ⟨b3, off3 + j, none⟩ = some (.int .i64 (nth os j))) (first | exact ⟨(hb9.cell (p := ⟨b2, off2 + j, none⟩) hbl2).trans (cell_on hc2 (by (repeat (first | exact Below.refl _ _ | assumption | refine bel_trans ?_ (bel_alloc _ _) | refine bel_set ?_ (by first | (dsimp only; omega) | (simp; omega) | simp) _ | refine bel_trans ?_ (bel_drewN _ _) | refine bel_trans ?_ (bel_drew _) | refine bel_trans ?_ (by assumption))))), (hb9.cell (p := ⟨b3, off3 + j, none⟩) hbl3).trans (cell_on hc3 (by (repeat (first | exact Below.refl _ _ | assumption | refine bel_trans ?_ (bel_alloc _ _) | refine bel_set ?_ (by first | (dsimp only; omega) | (simp; omega) | simp) _ | refine bel_trans ?_ (bel_drewN _ _) | refine bel_trans ?_ (bel_drew _) | refine bel_trans ?_ (by assumption)))))⟩ | exact ⟨cell_on hc2 (by (repeat (first | exact Below.refl _ _ | assumption | refine bel_trans ?_ (bel_alloc _ _) | refine bel_set ?_ (by first | (dsimp only; omega) | (simp; omega) | simp) _ | refine bel_trans ?_ (bel_drewN _ _) | refine bel_trans ?_ (bel_drew _) | refine bel_trans ?_ (by assumption)))), cell_on hc3 (by (repeat (first | exact Below.refl _ _ | assumption | refine bel_trans ?_ (bel_alloc _ _) | refine bel_set ?_ (by first | (dsimp only; omega) | (simp; omega) | simp) _ | refine bel_trans ?_ (bel_drewN _ _) | refine bel_trans ?_ (bel_drew _) | refine bel_trans ?_ (by assumption))))⟩) (first | (go_at_call_of 95 r; refine (s_oxMask _ _ _ _ (rowN qs j) _ (by omega) (R.out.below (by (repeat (first | exact Below.refl _ _ | assumption | refine bel_trans ?_ (bel_alloc _ _) | refine bel_set ?_ (by first | (dsimp only; omega) | (simp; omega) | simp) _ | refine bel_trans ?_ (bel_drewN _ _) | refine bel_trans ?_ (bel_drew _) | refine bel_trans ?_ (by assumption))))) (by omega) HF.out.2).mono ?_; rintro e w5 ⟨rfl, hb5⟩) | (go_at_call 96; refine (s_btXor _ _ _ _ _ _ (rowN qs j) xs _ (R.out.below (by (repeat (first | exact Below.refl _ _ | assumption | refine bel_trans ?_ (bel_alloc _ _) | refine bel_set ?_ (by first | (dsimp only; omega) | (simp; omega) | simp) _ | refine bel_trans ?_ (bel_drewN _ _) | refine bel_trans ?_ (bel_drew _) | refine bel_trans ?_ (by assumption))))) (HH.out.below (bel_trans HB.out (by (repeat (first | exact Below.refl _ _ | assumption | refine bel_trans ?_ (bel_alloc _ _) | refine bel_set ?_ (by first | (dsimp only; omega) | (simp; omega) | simp) _ | refine bel_trans ?_ (bel_drewN _ _) | refine bel_trans ?_ (bel_drew _) | refine bel_trans ?_ (by assumption)))))) (Nat.le_refl _) (by omega) (bits2 HF.out.2 kb (by rw [HF.out.1]; exact Nat.le_refl _) (by rw [hl.out]; exact Nat.le_refl _))).mono ?_; rintro e w6 ⟨r6, c6, rfl, hm6, hb6⟩) | (go_at_call 95; refine (s_oxMask _ _ _ _ (xrL (rowN qs j) xs q) _ (by omega) (hm6.ints.below (by (repeat (first | exact Below.refl _ _ | assumption | refine bel_trans ?_ (bel_alloc _ _) | refine bel_set ?_ (by first | (dsimp only; omega) | (simp; omega) | simp) _ | refine bel_trans ?_ (bel_drewN _ _) | refine bel_trans ?_ (bel_drew _) | refine bel_trans ?_ (by assumption))))) (by omega) (xrL_bits _ _ _)).mono ?_; rintro e w7 ⟨rfl, hb7⟩) | (refine step_appR wo w.heap.size j _ (hidN xs zs os qs j) _ 2 2 [x1, x2] _ (by rfl) _ _ (by rfl) (by rfl) (by rfl) (by first | exact World.cell?_alloc_at _ _ _ _ rfl | (simp [World.cell?_alloc_at]; done) | (simp [World.cell?_alloc_at]; rfl)) HO.out (by (repeat (first | exact Below.refl _ _ | assumption | refine bel_trans ?_ (bel_alloc _ _) | refine bel_set ?_ (by first | (dsimp only; omega) | (simp; omega) | simp) _ | refine bel_trans ?_ (bel_drewN _ _) | refine bel_trans ?_ (bel_drew _) | refine bel_trans ?_ (by assumption)))) (Mine.base (Mine.below (lit2M _ hf1 hf2) (by (repeat (first | exact Below.refl _ _ | assumption | refine bel_trans ?_ (bel_alloc _ _) | refine bel_set ?_ (by first | (dsimp only; omega) | (simp; omega) | simp) _ | refine bel_trans ?_ (bel_drewN _ _) | refine bel_trans ?_ (bel_drew _) | refine bel_trans ?_ (by assumption))))) (Below.size (by (repeat (first | exact Below.refl _ _ | assumption | refine bel_trans ?_ (bel_alloc _ _) | refine bel_set ?_ (by first | (dsimp only; omega) | (simp; omega) | simp) _ | refine bel_trans ?_ (bel_drewN _ _) | refine bel_trans ?_ (bel_drew _) | refine bel_trans ?_ (by assumption)))))) hz (by omega) ?_; intro v9 w9 hv9 hb9 hg9))
              all_goals
                clear hg9
                have HV := Lib.hid hv9
                have HW : Hid (Below w.heap.size w w9) := HB.out.trans (((by (repeat (first | exact Below.refl _ _ | assumption | refine bel_trans ?_ (bel_alloc _ _) | refine bel_set ?_ (by first | (dsimp only; omega) | (simp; omega) | simp) _ | refine bel_trans ?_ (bel_drewN _ _) | refine bel_trans ?_ (bel_drew _) | refine bel_trans ?_ (by assumption))) : Below wo.heap.size wo _).mono hz).trans hb9)
                clear hv9 hb9 e1 e2
                go_wp2
                go_roundw
                case rel => exact ⟨j + 1, by omega, by go_num, (by rw [HL.out, HD.out]; exact HV.out), HW.out⟩
                case measure => simp [intOf]; omega
            · obtain rfl : j = n1 := by omega
              obtain ⟨a9, c9, hv, hm9⟩ := HO.out.mine (by omega) HB.out.size
              subst hv
              have HM := Lib.hid hm9; clear hm9 HO
              have HLN := Lib.hid (hidN_len xs zs os qs j)
              go_wp2
              go_ret2
              rw [HR.out, HX.out]
              unfold RowsRetB
              rw [HLN.out]
              exact ⟨_, _, rfl, HM.out, HB.out⟩
end Go.Proofs.Ytfejpmfcognikaa
