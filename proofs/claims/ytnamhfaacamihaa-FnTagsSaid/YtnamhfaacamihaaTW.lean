/-
  Lists of tagged values: which are valid (both sides).
-/
import Derived.Test.YtnamhfaacamihaaTP
import Derived.Test.YtnamhfaacamihaaK
namespace Go.Proofs.Ytnamhfaacamihaa
open Go.RowKit
set_option linter.unusedVariables false
set_option linter.unusedSimpArgs false

def tgOkAt (p : Int) (zs : List Int) (i : Nat) : Bool := elB p (fld 2 zs i 0) && elB p (fld 2 zs i 1)
def anyT (zs : List Int) (n : Nat) (f : Int → Int → Bool) : Bool := (List.range n).any fun i => f (fld 2 zs i 0) (fld 2 zs i 1)
theorem anyT_no {zs : List Int} {n : Nat} {f : Int → Int → Bool} (h : ∀ j, j < n → f (fld 2 zs j 0) (fld 2 zs j 1) = false) : anyT zs n f = false := by
  unfold anyT
  rw [List.any_eq_false]
  intro x hx
  rw [h x (List.mem_range.1 hx)]; decide
theorem anyT_yes {zs : List Int} {n i : Nat} {f : Int → Int → Bool} (hi : i < n) (h : f (fld 2 zs i 0) (fld 2 zs i 1) = true) : anyT zs n f = true :=
  List.any_eq_true.2 ⟨i, List.mem_range.2 hi, h⟩
def allTg (p : Int) (zs : List Int) (n : Nat) : Bool := !anyT zs n fun v t => !(elB p v && elB p t)
theorem allTg_yes {p : Int} {zs : List Int} {n : Nat} (h : ∀ j, j < n → tgOkAt p zs j = true) : allTg p zs n = true := by
  unfold allTg
  rw [anyT_no fun j hj => ?_]; rfl
  have := h j hj
  unfold tgOkAt at this
  rw [this]; rfl
theorem allTg_no {p : Int} {zs : List Int} {n i : Nat} (hi : i < n) (h : tgOkAt p zs i = false) : allTg p zs n = false := by
  unfold allTg
  rw [anyT_yes (i := i) hi]; rfl
  unfold tgOkAt at h
  rw [h]; rfl
theorem allTg_at {p : Int} {zs : List Int} {n i : Nat} (h : allTg p zs n = true) (hi : i < n) : tgOkAt p zs i = true := by
  cases k : tgOkAt p zs i with
  | true => rfl
  | false => rw [allTg_no hi k] at h; cases h
def tgsB (p d : Int) (ks zs : List Int) (n : Nat) : Bool := elB p d && (elsB p ks && (decide (ks.length = n) && (decide (n ≤ 20) && allTg p zs n)))
theorem tgsB_iff {p d : Int} {ks zs : List Int} {n : Nat} : tgsB p d ks zs n = true ↔ elB p d = true ∧ elsB p ks = true ∧ ks.length = n ∧ n ≤ 20 ∧ allTg p zs n = true := by
  unfold tgsB; simp only [Bool.and_eq_true, decide_eq_true_iff]
theorem tgsB_no {p d : Int} {ks zs : List Int} {n : Nat} (h : ¬ (elB p d = true ∧ elsB p ks = true ∧ ks.length = n ∧ n ≤ 20 ∧ allTg p zs n = true)) : tgsB p d ks zs n = false := by
  cases k : tgsB p d ks zs n with
  | false => rfl
  | true => exact absurd (tgsB_iff.1 k) h

set_option maxHeartbeats 1000000 in
theorem g_IndexT (a : Option Addr) (n cap : Nat) (zs : List Int) (p : Int → Int → Bool) (g : Nat) (lb : Array Value) (eg : ∀ args w, (callFunc g args).run Try.prog w = .ok (.enter g args) w) (w : World) (h : Recs 2 w a n cap zs)
    (hp : Hid (∀ (W : World) (x y : Int), Below w.heap.size w W → Fits x → Fits y → Calls Try.prog g (#[.agg #[.int .i64 x, .int .i64 y]] ++ lb) W fun e w' => e = .returned (.bool (p x y)) ∧ Below w.heap.size w w')) :
    Calls Try.prog 85 #[.slice a n cap, .func (.func g) #[] lb] w fun e w' => (∃ r : Int, e = .returned (.int .i64 r) ∧ anyT zs n p = decide (0 ≤ r)) ∧ Below w.heap.size w w' := by
  have hs := h.small
  go_enter Try.func85, Try.ntmps85
  go_wp2
  go_loopw [8] (fun i wr => ∃ k : Nat, k ≤ n ∧ i = .int .i64 k ∧ Hid (∀ j, j < k → p (fld 2 zs j 0) (fld 2 zs j 1) = false) ∧ Hid (Below w.heap.size w wr)) (fun i _ => n - (intOf i).toNat)
  case atStart => exact ⟨0, by omega, rfl, fun j hj => by omega, Below.refl _ _⟩
  case round =>
    obtain ⟨k, hk, rfl, H, BW⟩ := hrel
    by_cases hlt : k < n
    · obtain ⟨b, off, rfl, hbl, hc, hc1⟩ := (h.below BW.out).at2 hlt
      have hcall := hp.out wr (fld 2 zs k 0) (fld 2 zs k 1) BW.out (h.fit hlt (by omega)) (h.fit hlt (by omega))
      cases hin : p (fld 2 zs k 0) (fld 2 zs k 1) with
      | false =>
        rw [hin] at hcall
        have HC := Lib.hid hcall; clear hcall
        go_wp2_with (go_at_fn g; refine HC.out.mono ?_; rintro e w' ⟨rfl, hb'⟩)
        go_roundw
        case rel => exact ⟨k + 1, by omega, by go_num, (show Hid _ from fun j hj => by
            rcases Nat.lt_or_ge j k with g | g
            · exact H.out j g
            · obtain rfl : j = k := by omega
              exact hin), hb'⟩
        case measure => simp [intOf]; omega
      | true =>
        rw [hin] at hcall
        have HC := Lib.hid hcall; clear hcall
        have hr : anyT zs n p = true := anyT_yes hlt hin
        go_wp2_with (go_at_fn g; refine HC.out.mono ?_; rintro e w' ⟨rfl, hb'⟩)
        go_ret
        exact ⟨⟨_, rfl, by rw [hr]; simp⟩, hb'⟩
    · obtain rfl : k = n := by omega
      have hr : anyT zs k p = false := anyT_no H.out
      go_wp2
      go_ret
      exact ⟨⟨_, rfl, by rw [hr]; simp⟩, BW.out⟩
set_option maxHeartbeats 1000000 in
theorem g_ContainsT (a : Option Addr) (n cap : Nat) (zs : List Int) (p : Int → Int → Bool) (g : Nat) (lb : Array Value) (eg : ∀ args w, (callFunc g args).run Try.prog w = .ok (.enter g args) w) (w : World) (h : Recs 2 w a n cap zs)
    (hp : Hid (∀ (W : World) (x y : Int), Below w.heap.size w W → Fits x → Fits y → Calls Try.prog g (#[.agg #[.int .i64 x, .int .i64 y]] ++ lb) W fun e w' => e = .returned (.bool (p x y)) ∧ Below w.heap.size w w')) :
    Calls Try.prog 78 #[.slice a n cap, .func (.func g) #[] lb] w fun e w' => e = .returned (.bool (anyT zs n p)) ∧ Below w.heap.size w w' := by
  go_enter Try.func78, Try.ntmps78
  go_wp2_with (go_at_call 85; refine (g_IndexT _ _ _ _ p g lb eg _ h hp).mono ?_; rintro e w' ⟨⟨r, rfl, hr⟩, hb'⟩)
  go_ret
  exact ⟨ret_bool hr.symm, hb'⟩
set_option maxHeartbeats 1000000 in
theorem i_areTagged1 (x y p : Int) (b : Nat) (w : World) (hc : w.cell? ⟨b, 0, none⟩ = some (.int .i64 p)) :
    Calls Try.prog 79 #[.agg #[.int .i64 x, .int .i64 y], .pointer (some ⟨b, 0, none⟩)] w fun e w' => e = .returned (.bool (!(elB p x && elB p y))) ∧ Below w.heap.size w w' := by
  have hb := lt_of_cell hc
  have hc' := cell_on hc (bel_alloc w (.cells #[.int .i64 x, .int .i64 y] 26))
  generalize hq : (elB p x && elB p y) = q
  go_enter Try.func79, Try.ntmps79
  go_wp2_with (go_at_call 56; refine (i_isTagged _ _ _ _).mono ?_; rintro e w' ⟨rfl, hb⟩; rw [hq])
  go_ret
  exact ⟨rfl, by (repeat (first | exact Below.refl _ _ | assumption | refine bel_trans ?_ (bel_alloc _ _) | refine bel_set ?_ (by first | (dsimp only; omega) | (simp; omega) | simp) _ | refine bel_trans ?_ (bel_drewN _ _) | refine bel_trans ?_ (bel_drew _) | refine bel_trans ?_ (by assumption)))⟩
set_option maxHeartbeats 2000000 in
theorem i_areTagged (p d : Int) (a b : Option Addr) (n cap m cap' : Nat) (ks zs : List Int) (w : World) (h : Ints w a n cap ks) (h' : Recs 2 w b m cap' zs) :
    Calls Try.prog 66 #[.int .i64 p, .int .i64 d, .slice a n cap, .slice b m cap'] w fun e w' => e = .returned (.bool (tgsB p d ks zs m)) ∧ Below w.heap.size w w' := by
  have hl := h.len
  have hs := h.small
  have hs' := h'.small
  have eA : ∀ args w, (callFunc 79 args).run Try.prog w = .ok (.enter 79 args) w := enters_of Try.func79 (by kernel_rfl) rfl
  have HG : Hid (∀ W, Recs 2 W b m cap' zs → W.cell? ⟨w.heap.size, 0, none⟩ = some (.int .i64 p) → Calls Try.prog 78 #[.slice b m cap', .func (.func 79) #[] #[.pointer (some ⟨w.heap.size, 0, none⟩)]] W fun e w' => e = .returned (.bool (!allTg p zs m)) ∧ Below W.heap.size W w') := by
    intro W hW hc
    refine (g_ContainsT b m cap' zs (fun v t => !(elB p v && elB p t)) 79 #[.pointer (some ⟨w.heap.size, 0, none⟩)] eA W hW (fun V x y hV hx hy => ?_)).mono fun e w' ⟨he, hb⟩ => ⟨he.trans (ret_bool ?_), hb⟩
    · exact (i_areTagged1 x y p w.heap.size V (cell_on hc hV)).mono fun e w' ⟨he, hb⟩ => ⟨he, bel_trans hV hb⟩
    · unfold allTg; simp
  cases h1 : elB p d with
  | false =>
    have HE := Lib.hid (tgsB_no (p := p) (d := d) (ks := ks) (zs := zs) (n := m) (fun q => by rw [h1] at q; cases q.1))
    go_enter Try.func66, Try.ntmps66
    go_wp2_with (first | (go_at_call 55; refine (i_isElement _ _ _).mono ?_; rintro e w' ⟨rfl, rfl⟩))
    go_ret
    exact ⟨by rw [HE.out]; try rfl, by (repeat (first | exact Below.refl _ _ | assumption | refine bel_trans ?_ (bel_alloc _ _) | refine bel_set ?_ (by first | (dsimp only; omega) | (simp; omega) | simp) _ | refine bel_trans ?_ (bel_drewN _ _) | refine bel_trans ?_ (bel_drew _) | refine bel_trans ?_ (by assumption)))⟩
  | true =>
    cases h2 : elsB p ks with
    | false =>
      have HE := Lib.hid (tgsB_no (p := p) (d := d) (ks := ks) (zs := zs) (n := m) (fun q => by rw [h2] at q; cases q.2.1))
      go_enter Try.func66, Try.ntmps66
      go_wp2_with (first | (go_at_call 55; refine (i_isElement _ _ _).mono ?_; rintro e w' ⟨rfl, rfl⟩) | (go_at_call 59; refine (i_areElements _ _ _ _ ks _ (h.below (by (repeat (first | exact Below.refl _ _ | assumption | refine bel_trans ?_ (bel_alloc _ _) | refine bel_set ?_ (by first | (dsimp only; omega) | (simp; omega) | simp) _ | refine bel_trans ?_ (bel_drewN _ _) | refine bel_trans ?_ (bel_drew _) | refine bel_trans ?_ (by assumption)))))).mono ?_; rintro e w2 ⟨rfl, hb2⟩; rw [h2]))
      go_ret
      exact ⟨by rw [HE.out]; try rfl, by (repeat (first | exact Below.refl _ _ | assumption | refine bel_trans ?_ (bel_alloc _ _) | refine bel_set ?_ (by first | (dsimp only; omega) | (simp; omega) | simp) _ | refine bel_trans ?_ (bel_drewN _ _) | refine bel_trans ?_ (bel_drew _) | refine bel_trans ?_ (by assumption)))⟩
    | true =>
      by_cases h3 : n = m
      · have h3i : (n : Int) = (m : Int) := by omega
        by_cases h4 : m ≤ 20
        · have h4i : (m : Int) ≤ 20 := by omega
          have HE : Hid (tgsB p d ks zs m = allTg p zs m) := by
            show _ = _; unfold tgsB; rw [h1, h2, hl.out, h3]; simp [h4]
          subst h3
          clear h3i
          go_enter Try.func66, Try.ntmps66
          go_wp2_with (first | (go_at_call 55; refine (i_isElement _ _ _).mono ?_; rintro e w' ⟨rfl, rfl⟩) | (go_at_call 59; refine (i_areElements _ _ _ _ ks _ (h.below (by (repeat (first | exact Below.refl _ _ | assumption | refine bel_trans ?_ (bel_alloc _ _) | refine bel_set ?_ (by first | (dsimp only; omega) | (simp; omega) | simp) _ | refine bel_trans ?_ (bel_drewN _ _) | refine bel_trans ?_ (bel_drew _) | refine bel_trans ?_ (by assumption)))))).mono ?_; rintro e w2 ⟨rfl, hb2⟩; rw [h2]) | (go_at_call 78; refine (HG.out _ (h'.below (by (repeat (first | exact Below.refl _ _ | assumption | refine bel_trans ?_ (bel_alloc _ _) | refine bel_set ?_ (by first | (dsimp only; omega) | (simp; omega) | simp) _ | refine bel_trans ?_ (bel_drewN _ _) | refine bel_trans ?_ (bel_drew _) | refine bel_trans ?_ (by assumption))))) (cell_on (World.cell?_alloc_at _ _ _ _ rfl) hb2)).mono ?_; rintro e w3 ⟨rfl, hb3⟩))
          go_ret
          exact ⟨by rw [HE.out]; first | rfl | (congr 2; simp), by (repeat (first | exact Below.refl _ _ | assumption | refine bel_trans ?_ (bel_alloc _ _) | refine bel_set ?_ (by first | (dsimp only; omega) | (simp; omega) | simp) _ | refine bel_trans ?_ (bel_drewN _ _) | refine bel_trans ?_ (bel_drew _) | refine bel_trans ?_ (by assumption)))⟩
        · have h4i : ¬ (m : Int) ≤ 20 := by omega
          have HE := Lib.hid (tgsB_no (p := p) (d := d) (ks := ks) (zs := zs) (n := m) (fun q => h4 q.2.2.2.1))
          subst h3
          clear h3i
          go_enter Try.func66, Try.ntmps66
          go_wp2_with (first | (go_at_call 55; refine (i_isElement _ _ _).mono ?_; rintro e w' ⟨rfl, rfl⟩) | (go_at_call 59; refine (i_areElements _ _ _ _ ks _ (h.below (by (repeat (first | exact Below.refl _ _ | assumption | refine bel_trans ?_ (bel_alloc _ _) | refine bel_set ?_ (by first | (dsimp only; omega) | (simp; omega) | simp) _ | refine bel_trans ?_ (bel_drewN _ _) | refine bel_trans ?_ (bel_drew _) | refine bel_trans ?_ (by assumption)))))).mono ?_; rintro e w2 ⟨rfl, hb2⟩; rw [h2]))
          go_ret
          exact ⟨by rw [HE.out]; try rfl, by (repeat (first | exact Below.refl _ _ | assumption | refine bel_trans ?_ (bel_alloc _ _) | refine bel_set ?_ (by first | (dsimp only; omega) | (simp; omega) | simp) _ | refine bel_trans ?_ (bel_drewN _ _) | refine bel_trans ?_ (bel_drew _) | refine bel_trans ?_ (by assumption)))⟩
      · have h3i : ¬ (n : Int) = (m : Int) := by omega
        have HE := Lib.hid (tgsB_no (p := p) (d := d) (ks := ks) (zs := zs) (n := m) (fun q => h3 (by rw [← hl.out]; exact q.2.2.1)))
        go_enter Try.func66, Try.ntmps66
        go_wp2_with (first | (go_at_call 55; refine (i_isElement _ _ _).mono ?_; rintro e w' ⟨rfl, rfl⟩) | (go_at_call 59; refine (i_areElements _ _ _ _ ks _ (h.below (by (repeat (first | exact Below.refl _ _ | assumption | refine bel_trans ?_ (bel_alloc _ _) | refine bel_set ?_ (by first | (dsimp only; omega) | (simp; omega) | simp) _ | refine bel_trans ?_ (bel_drewN _ _) | refine bel_trans ?_ (bel_drew _) | refine bel_trans ?_ (by assumption)))))).mono ?_; rintro e w2 ⟨rfl, hb2⟩; rw [h2]))
        go_ret
        exact ⟨by rw [HE.out]; try rfl, by (repeat (first | exact Below.refl _ _ | assumption | refine bel_trans ?_ (bel_alloc _ _) | refine bel_set ?_ (by first | (dsimp only; omega) | (simp; omega) | simp) _ | refine bel_trans ?_ (bel_drewN _ _) | refine bel_trans ?_ (bel_drew _) | refine bel_trans ?_ (by assumption)))⟩
set_option maxHeartbeats 2000000 in
theorem s_tgLists (p d : Int) (a b : Option Addr) (n cap m cap' : Nat) (ks zs : List Int) (w : World) (hd : Fits d) (h : Ints w a n cap ks) (h' : Recs 2 w b m cap' zs) :
    Calls Try.prog 65 #[.int .i64 p, .int .i64 d, .slice a n cap, .slice b m cap'] w fun e w' => e = .returned (.bool (tgsB p d ks zs m)) ∧ Below w.heap.size w w' := by
  have hl := h.len
  have hs := h.small
  have hs' := h'.small
  go_enter Try.func65, Try.ntmps65
  go_wp2
  go_loopw [13] (fun i wr => ∃ k : Nat, k ≤ m ∧ i = .int .i64 k ∧ Hid (∀ j, j < k → tgOkAt p zs j = true) ∧ Hid (Below w.heap.size w wr)) (fun i _ => m - (intOf i).toNat)
  case atStart => exact ⟨0, by omega, rfl, fun j hj => by omega, Below.refl _ _⟩
  case round =>
    obtain ⟨k, hk, rfl, H, BW⟩ := hrel
    by_cases hlt : k < m
    · obtain ⟨b', off, rfl, hbl, hc, hc1⟩ := (h'.below BW.out).at2 hlt
      have f0 := h'.fit hlt (j := 0) (by omega)
      have f1 := h'.fit hlt (j := 1) (by omega)
      cases hok : (elB p (fld 2 zs k 0) && elB p (fld 2 zs k 1)) with
      | true =>
        go_wp2_with (go_at_call 53; refine (s_tgGood _ _ _ _ f0 f1).mono ?_; rintro e w2 ⟨rfl, hb2⟩; rw [hok])
        go_roundw
        case rel => exact ⟨k + 1, by omega, by go_num, (show Hid _ from fun j hj => by
            rcases Nat.lt_or_ge j k with g | g
            · exact H.out j g
            · obtain rfl : j = k := by omega
              exact hok), (show Hid _ from bel_trans BW.out (by (repeat (first | exact Below.refl _ _ | assumption | refine bel_trans ?_ (bel_alloc _ _) | refine bel_set ?_ (by first | (dsimp only; omega) | (simp; omega) | simp) _ | refine bel_trans ?_ (bel_drewN _ _) | refine bel_trans ?_ (bel_drew _) | refine bel_trans ?_ (by assumption)))))⟩
        case measure => simp [intOf]; omega
      | false =>
        have HE := Lib.hid (tgsB_no (p := p) (d := d) (ks := ks) (zs := zs) (n := m) (fun q => by have := allTg_at q.2.2.2.2 hlt; unfold tgOkAt at this; rw [hok] at this; cases this))
        go_wp2_with (go_at_call 53; refine (s_tgGood _ _ _ _ f0 f1).mono ?_; rintro e w2 ⟨rfl, hb2⟩; rw [hok])
        go_ret
        exact ⟨by rw [HE.out]; try rfl, bel_trans BW.out (by (repeat (first | exact Below.refl _ _ | assumption | refine bel_trans ?_ (bel_alloc _ _) | refine bel_set ?_ (by first | (dsimp only; omega) | (simp; omega) | simp) _ | refine bel_trans ?_ (bel_drewN _ _) | refine bel_trans ?_ (bel_drew _) | refine bel_trans ?_ (by assumption))))⟩
    · obtain rfl : k = m := by omega
      have HA := Lib.hid (allTg_yes H.out); clear H
      cases h1 : elsB p [d] with
      | false =>
        have h1' : elB p d = false := by
          have : elsB p [d] = (elB p d && prB p) := elsB_cons.trans (by rw [elsB_nil])
          rw [elB_and] at this; rw [← this]; exact h1
        have HE := Lib.hid (tgsB_no (p := p) (d := d) (ks := ks) (zs := zs) (n := k) (fun q => by rw [h1'] at q; cases q.1))
        go_wp2_with (go_at_call 52; refine (s_fpIn _ _ _ _ [d] _ (by first | with_reducible exact Ints.lit1 (by first | rfl | simp) hd | exact Ints.lit1 (by simp) hd)).mono ?_; rintro e w' ⟨rfl, rfl⟩)
        go_ret
        exact ⟨by rw [HE.out]; try rfl, bel_trans BW.out (by (repeat (first | exact Below.refl _ _ | assumption | refine bel_trans ?_ (bel_alloc _ _) | refine bel_set ?_ (by first | (dsimp only; omega) | (simp; omega) | simp) _ | refine bel_trans ?_ (bel_drewN _ _) | refine bel_trans ?_ (bel_drew _) | refine bel_trans ?_ (by assumption))))⟩
      | true =>
        have h1' : elB p d = true := by
          have : elsB p [d] = (elB p d && prB p) := elsB_cons.trans (by rw [elsB_nil])
          rw [elB_and] at this; rw [← this]; exact h1
        obtain ⟨hp1, hp2⟩ := elB_p h1'
        have hpr : prB p = true := (elB_iff.1 h1').1
        cases h2 : allIn ks 0 (p - 1) with
        | false =>
          have HE := Lib.hid (tgsB_no (p := p) (d := d) (ks := ks) (zs := zs) (n := k) (fun q => by have := q.2.1; unfold elsB at this; rw [h2] at this; simp at this))
          go_wp2_with (first | (go_at_call 52; refine (s_fpIn _ _ _ _ [d] _ (by first | with_reducible exact Ints.lit1 (by first | rfl | simp) hd | exact Ints.lit1 (by simp) hd)).mono ?_; rintro e w' ⟨rfl, rfl⟩) | (go_at_call 63; refine (s_l1All _ _ _ ks _ _ _ (h.below (bel_trans BW.out (by (repeat (first | exact Below.refl _ _ | assumption | refine bel_trans ?_ (bel_alloc _ _) | refine bel_set ?_ (by first | (dsimp only; omega) | (simp; omega) | simp) _ | refine bel_trans ?_ (bel_drewN _ _) | refine bel_trans ?_ (bel_drew _) | refine bel_trans ?_ (by assumption))))))).mono ?_; rintro e w' ⟨rfl, rfl⟩))
          go_ret
          exact ⟨by rw [HE.out]; try rfl, bel_trans BW.out (by (repeat (first | exact Below.refl _ _ | assumption | refine bel_trans ?_ (bel_alloc _ _) | refine bel_set ?_ (by first | (dsimp only; omega) | (simp; omega) | simp) _ | refine bel_trans ?_ (bel_drewN _ _) | refine bel_trans ?_ (bel_drew _) | refine bel_trans ?_ (by assumption))))⟩
        | true =>
          have h2' : elsB p ks = true := by unfold elsB; rw [hpr, h2]; rfl
          by_cases h3 : n = k
          · subst h3
            have HE : Hid (tgsB p d ks zs n = decide (n ≤ 20)) := by
              show _ = _; unfold tgsB; rw [h1', h2', hl.out, HA.out]; simp
            go_wp2_with (first | (go_at_call 52; refine (s_fpIn _ _ _ _ [d] _ (by first | with_reducible exact Ints.lit1 (by first | rfl | simp) hd | exact Ints.lit1 (by simp) hd)).mono ?_; rintro e w' ⟨rfl, rfl⟩) | (go_at_call 63; refine (s_l1All _ _ _ ks _ _ _ (h.below (bel_trans BW.out (by (repeat (first | exact Below.refl _ _ | assumption | refine bel_trans ?_ (bel_alloc _ _) | refine bel_set ?_ (by first | (dsimp only; omega) | (simp; omega) | simp) _ | refine bel_trans ?_ (bel_drewN _ _) | refine bel_trans ?_ (bel_drew _) | refine bel_trans ?_ (by assumption))))))).mono ?_; rintro e w' ⟨rfl, rfl⟩))
            go_ret
            exact ⟨by rw [HE.out]; first | rfl | (congr 2; simp; done) | (simp; omega), bel_trans BW.out (by (repeat (first | exact Below.refl _ _ | assumption | refine bel_trans ?_ (bel_alloc _ _) | refine bel_set ?_ (by first | (dsimp only; omega) | (simp; omega) | simp) _ | refine bel_trans ?_ (bel_drewN _ _) | refine bel_trans ?_ (bel_drew _) | refine bel_trans ?_ (by assumption))))⟩
          · have h3i : ¬ (n : Int) = (k : Int) := by omega
            have HE := Lib.hid (tgsB_no (p := p) (d := d) (ks := ks) (zs := zs) (n := k) (fun q => h3 (by rw [← hl.out]; exact q.2.2.1)))
            go_wp2_with (first | (go_at_call 52; refine (s_fpIn _ _ _ _ [d] _ (by first | with_reducible exact Ints.lit1 (by first | rfl | simp) hd | exact Ints.lit1 (by simp) hd)).mono ?_; rintro e w' ⟨rfl, rfl⟩) | (go_at_call 63; refine (s_l1All _ _ _ ks _ _ _ (h.below (bel_trans BW.out (by (repeat (first | exact Below.refl _ _ | assumption | refine bel_trans ?_ (bel_alloc _ _) | refine bel_set ?_ (by first | (dsimp only; omega) | (simp; omega) | simp) _ | refine bel_trans ?_ (bel_drewN _ _) | refine bel_trans ?_ (bel_drew _) | refine bel_trans ?_ (by assumption))))))).mono ?_; rintro e w' ⟨rfl, rfl⟩))
            go_ret
            exact ⟨by rw [HE.out]; try rfl, bel_trans BW.out (by (repeat (first | exact Below.refl _ _ | assumption | refine bel_trans ?_ (bel_alloc _ _) | refine bel_set ?_ (by first | (dsimp only; omega) | (simp; omega) | simp) _ | refine bel_trans ?_ (bel_drewN _ _) | refine bel_trans ?_ (bel_drew _) | refine bel_trans ?_ (by assumption))))⟩
end Go.Proofs.Ytnamhfaacamihaa
