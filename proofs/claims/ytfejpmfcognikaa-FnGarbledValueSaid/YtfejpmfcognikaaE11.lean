/-
  TakeMessages, both sides.
-/
import Derived.Test.YtfejpmfcognikaaE10
import Derived.Test.YtfejpmfcognikaaE7
import Derived.BigQuiet
import Derived.Deep.QuietTactic
namespace Go.Proofs.Ytfejpmfcognikaa
open Go.RowKit
set_option linter.unusedVariables false
set_option linter.unusedSimpArgs false

def wid (ts : List (List Int)) : Int := if ts.length = 0 then 1 else ((rowN ts 0).length : Int)
def okH (x : List Int) : Bool := decide ((x.length : Int) = 2) && labB x
def badH (x : List Int) : Bool := !okH x
def tkB (xs : List Int) (ts hs : List (List Int)) : Bool := chosB xs && (rowsB ts xs.length (wid ts) && (decide (hs.length = xs.length) && hs.all okH))
def TkOk (ts hs : List (List Int)) (j : Nat) : Prop := (rowN hs j).length = 2 ∧ labB (rowN hs j) = true ∧ secB (rowN ts j) = true ∧ (rowN ts j).length = (rowN ts 0).length
theorem okH_iff {x : List Int} : okH x = true ↔ x.length = 2 ∧ labB x = true := by
  unfold okH; simp only [Bool.and_eq_true, decide_eq_true_iff]
  exact ⟨fun h => ⟨by omega, h.2⟩, fun h => ⟨by omega, h.2⟩⟩
theorem tkB_iff {xs : List Int} {ts hs : List (List Int)} : tkB xs ts hs = true ↔ chosB xs = true ∧ rowsB ts xs.length (wid ts) = true ∧ hs.length = xs.length ∧ hs.all okH = true := by
  unfold tkB; simp only [Bool.and_eq_true, decide_eq_true_iff]
theorem tk_all {xs : List Int} {ts hs : List (List Int)} : tkB xs ts hs = true ↔ chosB xs = true ∧ hs.length = xs.length ∧ ts.length = xs.length ∧ ∀ j, j < xs.length → TkOk ts hs j := by
  rw [tkB_iff]
  constructor
  · rintro ⟨h1, h2, h3, h4⟩
    obtain ⟨_, m2, m3, m4⟩ := rowsB_iff.1 h2
    have e : ts.length = xs.length := by omega
    refine ⟨h1, h3, e, fun j hj => ?_⟩
    have a := okH_iff.1 (allR_iff.1 h4 j (by omega))
    have b := listsB_at m4 (i := j) (by omega)
    have c := listsB_at m4 (i := 0) (by omega)
    refine ⟨a.1, a.2, secB_iff.2 ⟨by rw [b.1]; exact m2, b.2⟩, by omega⟩
  · rintro ⟨h1, h3, e, h⟩
    refine ⟨h1, ?_, h3, allR_iff.2 fun j hj => ?_⟩
    · have hc := (chosB_iff.1 h1).1
      refine rowsB_iff.2 ⟨hc, ?_, by omega, listsB_mk fun i hi => ?_⟩
      · unfold wid
        split
        · omega
        · exact (secB_iff.1 (h 0 (by omega)).2.2.1).1
      · obtain ⟨_, _, k1, k2⟩ := h i (by omega)
        unfold wid
        rw [if_neg (by omega)]
        exact ⟨by omega, (secB_iff.1 k1).2⟩
    · have k := h j (by omega)
      exact okH_iff.2 ⟨k.1, k.2.1⟩
def tkV (xs : List Int) (ts hs : List (List Int)) (j : Nat) : Int := bits .xor .i64 (nth (rowN hs j) (nth xs j).toNat) (dgR j (rowN ts j))
def tkN (xs : List Int) (ts hs : List (List Int)) (t : Nat) : List Int := (List.range t).map (tkV xs ts hs)
theorem tkN_succ (xs : List Int) (ts hs : List (List Int)) (t : Nat) : tkN xs ts hs (t + 1) = tkN xs ts hs t ++ [tkV xs ts hs t] := by simp [tkN, List.range_succ]
theorem tkN_len (xs : List Int) (ts hs : List (List Int)) (t : Nat) : (tkN xs ts hs t).length = t := by simp [tkN]
theorem tkN_fit (xs : List Int) (ts hs : List (List Int)) (t : Nat) : ∀ x ∈ tkN xs ts hs t, Fits x := by
  intro x hx
  obtain ⟨i, _, rfl⟩ := List.mem_map.1 hx
  exact xor_fits _ _
def takeMessages (xs : List Int) (ts hs : List (List Int)) : List Int × Bool := if tkB xs ts hs then (tkN xs ts hs xs.length, true) else ([], false)
theorem tk_t {xs : List Int} {ts hs : List (List Int)} (h : tkB xs ts hs = true) : takeMessages xs ts hs = (tkN xs ts hs xs.length, true) := by unfold takeMessages; rw [if_pos h]
theorem tk_f {xs : List Int} {ts hs : List (List Int)} (h : ¬ tkB xs ts hs = true) : takeMessages xs ts hs = ([], false) := by unfold takeMessages; rw [if_neg h]
theorem takeMessages_len (xs : List Int) (ts hs : List (List Int)) : (takeMessages xs ts hs).1.length ≤ 1000 := by
  by_cases h : tkB xs ts hs = true
  · rw [tk_t h]
    have := (chosB_iff.1 (tkB_iff.1 h).1).1
    show (tkN xs ts hs xs.length).length ≤ 1000
    rw [tkN_len]; omega
  · rw [tk_f h]; simp
theorem i_rowWidth1 (a : Option Addr) (n cap : Nat) (xss : List (List Int)) (w : World) (h : Rws w a n cap xss) :
    Calls Try.prog 61 #[.slice a n cap] w fun e w' => e = .returned (.int .i64 (wid xss)) ∧ w = w' := by
  have hl := h.len.out
  by_cases h0 : n = 0
  · subst h0
    have HW : Hid (wid xss = 1) := by show _ = _; unfold wid; rw [if_pos hl]
    go_enter Try.func61, Try.ntmps61
    go_wp2
    go_ret
    exact ⟨by rw [HW.out]; try rfl, rfl⟩
  · refine (i_rowWidth a n cap xss w h (by omega)).mono ?_
    rintro e w' ⟨rfl, rfl⟩
    refine ⟨?_, rfl⟩
    unfold wid; rw [if_neg (by omega)]
set_option maxHeartbeats 1000000 in
theorem i_tm1 (r : Option Addr) (m c : Nat) (x : List Int) (w : World) (h : Ints w r m c x) :
    Calls Try.prog 63 #[.slice r m c] w fun e w' => e = .returned (.bool (badH x)) ∧ Below w.heap.size w w' := by
  have hs := h.small
  have hl := h.len
  by_cases h1 : m = 2
  · subst h1
    have HB : Hid (badH x = !labB x) := by show _ = _; unfold badH okH; rw [hl.out]; simp
    go_enter Try.func63, Try.ntmps63
    go_wp2_with (go_at_call 58; refine (i_areLabels _ _ _ _ _ h).mono ?_; rintro e w' ⟨rfl, hb⟩)
    all_goals
      go_ret
      exact ⟨by rw [HB.out]; try rfl, hb⟩
  · have h1b : ((m : Int) != 2) = true := by simp; omega
    have h1c : ((m : Int) == 2) = false := by simp; omega
    have HB : Hid (badH x = true) := by
      show _ = _; unfold badH okH; rw [hl.out]
      have : ¬ (m : Int) = 2 := by omega
      simp [this]
    go_enter Try.func63, Try.ntmps63
    go_wp2
    all_goals
      go_ret
      exact ⟨by rw [HB.out]; try rfl, Below.refl _ _⟩
theorem i_tmAny (a : Option Addr) (n cap : Nat) (xss : List (List Int)) (w : World) (h : Rws w a n cap xss) :
    Calls Try.prog 62 #[.slice a n cap, .func (.func 63) #[] #[]] w fun e w' => e = .returned (.bool (!xss.all okH)) ∧ Below w.heap.size w w' := by
  have eA : ∀ args w, (callFunc 63 args).run Try.prog w = .ok (.enter 63 args) w := enters_of Try.func63 (by kernel_rfl) rfl
  have hall : xss.any badH = !xss.all okH := by rw [show badH = fun x => !okH x from rfl, List.all_eq_not_any_not]; simp
  rw [← hall]
  exact g_ContainsFuncR a n cap xss badH 63 #[] eA w h (fun W r m c x hW hx => (i_tm1 r m c x W hx).mono fun e w' ⟨he, hw⟩ => ⟨he, bel_trans hW hw⟩)

set_option maxRecDepth 100000 in
set_option maxHeartbeats 8000000 in
theorem i_TakeMessages (a : Option Addr) (n cap : Nat) (xs : List Int) (a1 : Option Addr) (n1 cap1 : Nat) (ts : List (List Int)) (a2 : Option Addr) (n2 cap2 : Nat) (hs : List (List Int)) (w : World) (h : Ints w a n cap xs) (h1 : Rws w a1 n1 cap1 ts) (h2 : Rws w a2 n2 cap2 hs) :
    Calls Try.prog 16 #[.slice a n cap, .slice a1 n1 cap1, .slice a2 n2 cap2] w fun e w' => ListRetB (takeMessages xs ts hs) w e w' := by
  have hl := h.len; have hl1 := h1.len; have hl2 := h2.len
  have hs0 := h.small; have hs1 := h1.small; have hs2 := h2.small
  cases g1 : chosB xs with
  | false =>
    have HR := Lib.hid (tk_f (xs := xs) (ts := ts) (hs := hs) (fun q => by have := tkB_iff.1 q; rw [g1] at this; cases this.1))
    go_enter Try.func16, Try.ntmps16
    go_wp2_with fail
    refine (i_areChosen _ _ _ xs _ h).mono ?_; rintro e w1 ⟨rfl, hb1⟩
    go_wp2
    all_goals
      go_ret2
      rw [HR.out]
      exact ListRetB.no (hb1)
  | true =>
    cases g2 : rowsB ts n (wid ts) with
    | false =>
      have HR := Lib.hid (tk_f (xs := xs) (ts := ts) (hs := hs) (fun q => by have := tkB_iff.1 q; rw [hl.out, g2] at this; cases this.2.1))
      go_enter Try.func16, Try.ntmps16
      go_wp2_with fail
      refine (i_areChosen _ _ _ xs _ h).mono ?_; rintro e w1 ⟨rfl, hb1⟩
      go_wp2_with fail
      refine (i_rowWidth1 _ _ _ ts _ (h1.below hb1)).mono ?_; rintro e w2 ⟨rfl, rfl⟩
      go_wp2_with fail
      refine (i_areRows _ _ _ ts _ _ _ (h1.below hb1)).mono ?_; rintro e w2 ⟨rfl, hb2⟩; have B2 := bel_trans hb1 hb2; clear hb2
      go_wp2
      all_goals
        go_ret2
        rw [HR.out]
        exact ListRetB.no (B2)
    | true =>
      by_cases el2 : n2 = n
      rotate_left
      · have hxb : ((n2 : Int) != (n : Int)) = true := by simp; omega
        have hxc : ((n2 : Int) == (n : Int)) = false := by simp; omega
        have HR := Lib.hid (tk_f (xs := xs) (ts := ts) (hs := hs) (fun q => by have := tkB_iff.1 q; have e := this.2.2.1; rw [hl2.out, hl.out] at e; omega))
        go_enter Try.func16, Try.ntmps16
        go_wp2_with fail
        refine (i_areChosen _ _ _ xs _ h).mono ?_; rintro e w1 ⟨rfl, hb1⟩
        go_wp2_with fail
        refine (i_rowWidth1 _ _ _ ts _ (h1.below hb1)).mono ?_; rintro e w2 ⟨rfl, rfl⟩
        go_wp2_with fail
        refine (i_areRows _ _ _ ts _ _ _ (h1.below hb1)).mono ?_; rintro e w2 ⟨rfl, hb2⟩; have B2 := bel_trans hb1 hb2; clear hb2
        go_wp2
        all_goals
          go_ret2
          rw [HR.out]
          exact ListRetB.no (B2)
      subst el2
      cases g3 : hs.all okH with
      | false =>
        have HR := Lib.hid (tk_f (xs := xs) (ts := ts) (hs := hs) (fun q => by have := tkB_iff.1 q; rw [g3] at this; cases this.2.2.2))
        go_enter Try.func16, Try.ntmps16
        go_wp2_with fail
        refine (i_areChosen _ _ _ xs _ h).mono ?_; rintro e w1 ⟨rfl, hb1⟩
        go_wp2_with fail
        refine (i_rowWidth1 _ _ _ ts _ (h1.below hb1)).mono ?_; rintro e w2 ⟨rfl, rfl⟩
        go_wp2_with fail
        refine (i_areRows _ _ _ ts _ _ _ (h1.below hb1)).mono ?_; rintro e w2 ⟨rfl, hb2⟩; have B2 := bel_trans hb1 hb2; clear hb2
        go_wp2_with fail
        refine (i_tmAny _ _ _ hs _ (h2.below B2)).mono ?_; rintro e w3 ⟨rfl, hb3⟩; have B3 := bel_trans B2 hb3; clear hb3
        go_wp2
        all_goals
          go_ret2
          rw [HR.out]
          exact ListRetB.no (B3)
      | true =>
        have HT : Hid (tkB xs ts hs = true) := tkB_iff.2 ⟨g1, by rw [hl.out]; exact g2, by rw [hl2.out, hl.out], g3⟩
        have HR := Lib.hid (tk_t HT.out)
        have HX : Hid (tkN xs ts hs xs.length = tkN xs ts hs n2) := by show _ = _; rw [hl.out]
        have HCH : Hid (∀ j, j < n2 → 0 ≤ nth xs j ∧ nth xs j ≤ 1) := fun j hj => bitsB_nth (chosB_iff.1 g1).2 (by rw [hl.out]; exact hj)
        have HOK : Hid (∀ j, j < n2 → TkOk ts hs j) := fun j hj => (tk_all.1 HT.out).2.2.2 j (by rw [hl.out]; exact hj)
        have hm1 : n2 = n1 := by have := (tk_all.1 HT.out).2.2.1; rw [hl1.out, hl.out] at this; exact this.symm
        subst hm1
        have hm24 : n2 ≤ 24 := by have := (chosB_iff.1 g1).1; rw [hl.out] at this; omega
        go_enter Try.func16, Try.ntmps16
        go_wp2_with fail
        refine (i_areChosen _ _ _ xs _ h).mono ?_; rintro e w1 ⟨rfl, hb1⟩
        go_wp2_with fail
        refine (i_rowWidth1 _ _ _ ts _ (h1.below hb1)).mono ?_; rintro e w2 ⟨rfl, rfl⟩
        go_wp2_with fail
        refine (i_areRows _ _ _ ts _ _ _ (h1.below hb1)).mono ?_; rintro e w2 ⟨rfl, hb2⟩; have B2 := bel_trans hb1 hb2; clear hb2
        go_wp2_with fail
        refine (i_tmAny _ _ _ hs _ (h2.below B2)).mono ?_; rintro e w3 ⟨rfl, hb3⟩; have B3 := bel_trans B2 hb3; clear hb3
        have HB0 : Hid (Below w.heap.size w w3) := B3
        clear hb1 B2 B3
        have HH := Lib.hid h; have HH1 := Lib.hid h1; have HH2 := Lib.hid h2; clear h h1 h2
        go_wp2
        go_loopw [9, 38] (fun v i wr => ∃ j : Nat, j ≤ n2 ∧ i = .int .i64 j ∧ Hid (wr.ownsRow w.heap.size 3 1 v j (ivs (tkN xs ts hs j))) ∧ Hid (Below w.heap.size w wr)) (fun _ i _ => n2 - (intOf i).toNat)
        case atStart => exact ⟨0, by omega, rfl, (show Hid _ from by exact World.ownsRow_lit w3 #[] 0 HB0.out.size (by decide) rfl), (show Hid _ from bel_trans HB0.out (bel_alloc _ _))⟩
        case round =>
          obtain ⟨j, hj, rfl, HO, HB⟩ := hrel
          obtain ⟨wo, rfl⟩ : ∃ wo : World, wo = wr := ⟨_, rfl⟩
          clear HB0
          have hz := HB.out.size
          by_cases hlt : j < n2
          · obtain ⟨b0, off0, rfl, hbl0, hc0⟩ := HH.out.at hlt
            obtain ⟨b, off, r, q, c, rfl, hbl, hc, hri⟩ := HH1.out.at (i := j) (by omega)
            obtain ⟨b2, off2, r2, q2, c2, rfl, hbl2, hc2, hri2⟩ := HH2.out.at (i := j) (by omega)
            have hlti : (j : Int) < (n2 : Int) := by omega
            obtain ⟨f1, f2, f3, f4⟩ := HOK.out j hlt
            have eq2 : q2 = 2 := by rw [← hri2.len.out]; exact f1
            subst eq2
            have fc := HCH.out j hlt
            obtain ⟨ch, hch⟩ : ∃ ch : Nat, nth xs j = ch := ⟨(nth xs j).toNat, by omega⟩
            have hch2 : ch < 2 := by omega
            obtain ⟨b3, off3, rfl, hbl3, hc3⟩ := hri2.at hch2
            rw [hch] at hc0
            replace hc0 := cell_on hc0 HB.out; replace hc := cell_on hc HB.out; replace hc2 := cell_on hc2 HB.out; replace hc3 := cell_on hc3 HB.out; replace hri := hri.below HB.out
            have hchi : (ch : Int) < 2 := by omega
            have hq8 : q ≤ 8 := by have := (secB_iff.1 f3).1; rw [hri.len.out] at this; omega
            have HF := Lib.hid (secB_iff.1 f3).2
            have R := Lib.hid hri; clear hri hri2 f1 f2 f3 f4 fc
            have HL := Lib.hid (tkN_succ xs ts hs j)
            have HD : Hid (tkV xs ts hs j = bits .xor .i64 (nth (rowN hs j) ch) (dgR j (rowN ts j))) := by show _ = _; unfold tkV; rw [hch]; rfl
            obtain ⟨x1, hx1⟩ : ∃ x, x = bits .xor .i64 (nth (rowN hs j) ch) (dgR j (rowN ts j)) := ⟨_, rfl⟩
            rw [← hx1] at HD
            have e1 := hx1.symm; clear hx1 hch
            go_wp2_with fail
            go_region_held3 (fun W => W.cell? ⟨b, off + j, none⟩ = some (.slice r q c) ∧ W.cell? ⟨b2, off2 + j, none⟩ = some (.slice (some ⟨b3, off3, none⟩) 2 c2) ∧ W.cell? ⟨b3, off3 + ch, none⟩ = some (.int .i64 (nth (rowN hs j) ch))) (first | exact ⟨(hb9.cell (p := ⟨b, off + j, none⟩) hbl).trans (cell_on hc (by (repeat (first | exact Below.refl _ _ | assumption | refine bel_trans ?_ (bel_alloc _ _) | refine bel_set ?_ (by first | (dsimp only; omega) | (simp; omega) | simp) _ | refine bel_trans ?_ (bel_drewN _ _) | refine bel_trans ?_ (bel_drew _) | refine bel_trans ?_ (by assumption))))), (hb9.cell (p := ⟨b2, off2 + j, none⟩) hbl2).trans (cell_on hc2 (by (repeat (first | exact Below.refl _ _ | assumption | refine bel_trans ?_ (bel_alloc _ _) | refine bel_set ?_ (by first | (dsimp only; omega) | (simp; omega) | simp) _ | refine bel_trans ?_ (bel_drewN _ _) | refine bel_trans ?_ (bel_drew _) | refine bel_trans ?_ (by assumption))))), (hb9.cell (p := ⟨b3, off3 + ch, none⟩) hbl3).trans (cell_on hc3 (by (repeat (first | exact Below.refl _ _ | assumption | refine bel_trans ?_ (bel_alloc _ _) | refine bel_set ?_ (by first | (dsimp only; omega) | (simp; omega) | simp) _ | refine bel_trans ?_ (bel_drewN _ _) | refine bel_trans ?_ (bel_drew _) | refine bel_trans ?_ (by assumption)))))⟩ | exact ⟨cell_on hc (by (repeat (first | exact Below.refl _ _ | assumption | refine bel_trans ?_ (bel_alloc _ _) | refine bel_set ?_ (by first | (dsimp only; omega) | (simp; omega) | simp) _ | refine bel_trans ?_ (bel_drewN _ _) | refine bel_trans ?_ (bel_drew _) | refine bel_trans ?_ (by assumption)))), cell_on hc2 (by (repeat (first | exact Below.refl _ _ | assumption | refine bel_trans ?_ (bel_alloc _ _) | refine bel_set ?_ (by first | (dsimp only; omega) | (simp; omega) | simp) _ | refine bel_trans ?_ (bel_drewN _ _) | refine bel_trans ?_ (bel_drew _) | refine bel_trans ?_ (by assumption)))), cell_on hc3 (by (repeat (first | exact Below.refl _ _ | assumption | refine bel_trans ?_ (bel_alloc _ _) | refine bel_set ?_ (by first | (dsimp only; omega) | (simp; omega) | simp) _ | refine bel_trans ?_ (bel_drewN _ _) | refine bel_trans ?_ (bel_drew _) | refine bel_trans ?_ (by assumption))))⟩) (first | (go_at_call 59; refine (i_rowDigest _ _ _ _ (rowN ts j) _ (by omega) (R.out.below (by (repeat (first | exact Below.refl _ _ | assumption | refine bel_trans ?_ (bel_alloc _ _) | refine bel_set ?_ (by first | (dsimp only; omega) | (simp; omega) | simp) _ | refine bel_trans ?_ (bel_drewN _ _) | refine bel_trans ?_ (bel_drew _) | refine bel_trans ?_ (by assumption))))) (by omega) HF.out).mono ?_; rintro e w5 ⟨rfl, hb5⟩) | (refine step_app wo w.heap.size j _ (tkN xs ts hs j) x1 _ (by rfl) _ _ (by rfl) (by rfl) (by rfl) (by first | exact World.cell?_alloc_at _ _ _ _ rfl | (simp [World.cell?_alloc_at]; done) | (simp [World.cell?_alloc_at]; rfl) | (rw [← e1]; simp [World.cell?_alloc_at])) HO.out (by (repeat (first | exact Below.refl _ _ | assumption | refine bel_trans ?_ (bel_alloc _ _) | refine bel_set ?_ (by first | (dsimp only; omega) | (simp; omega) | simp) _ | refine bel_trans ?_ (bel_drewN _ _) | refine bel_trans ?_ (bel_drew _) | refine bel_trans ?_ (by assumption)))) hz (by omega) ?_; intro v9 w9 hv9 hb9 hg9))
            all_goals
              clear hg9
              have HV := Lib.hid hv9
              have HW : Hid (Below w.heap.size w w9) := HB.out.trans (((by (repeat (first | exact Below.refl _ _ | assumption | refine bel_trans ?_ (bel_alloc _ _) | refine bel_set ?_ (by first | (dsimp only; omega) | (simp; omega) | simp) _ | refine bel_trans ?_ (bel_drewN _ _) | refine bel_trans ?_ (bel_drew _) | refine bel_trans ?_ (by assumption))) : Below wo.heap.size wo _).mono hz).trans hb9)
              clear hv9 hb9 e1
              go_wp2
              go_roundw
              case rel => exact ⟨j + 1, by omega, by go_num, (by rw [HL.out, HD.out]; exact HV.out), HW.out⟩
              case measure => simp [intOf]; omega
          · obtain rfl : j = n2 := by omega
            obtain ⟨a9, c9, hv, ho9⟩ := OwnI.of HO.out (by omega) (tkN_fit xs ts hs j)
            subst hv
            have HM := Lib.hid ho9.mine; clear ho9 HO
            go_wp2
            go_ret2
            rw [HR.out, HX.out]
            exact ListRetB.yes (tkN_len xs ts hs j) HM.out (Nat.le_refl _) HB.out