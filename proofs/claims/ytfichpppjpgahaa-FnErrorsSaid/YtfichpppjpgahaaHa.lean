/-
  Holders and their shares: which are valid, which fit.
-/
import Derived.Test.YtfichpppjpgahaaLp
import Derived.Test.YtfichpppjpgahaaLm
import Derived.Test.YtfichpppjpgahaaLg
import Derived.Test.YtfichpppjpgahaaD2
import Derived.Deep.RegionHeld3
namespace Go.Proofs.Ytfichpppjpgahaa
open Go.RowKit
set_option linter.unusedVariables false
set_option linter.unusedSimpArgs false
set_option maxRecDepth 20000

def nzB (x : Int) : Bool := !(x == 0)
/-- Valid holders and shares. -/
def hldB (p : Int) (xs ys : List Int) : Bool := ptsB p xs ys && (decide (xs.length ≤ 10) && xs.all nzB)
theorem all_nz {xs : List Int} : xs.all nzB = !decide ((0 : Int) ∈ xs) := by
  cases h : decide ((0 : Int) ∈ xs) with
  | true =>
    have h := of_decide_eq_true h
    obtain ⟨i, hi, e⟩ := mem_nth h
    exact all_no hi (by rw [e]; rfl)
  | false =>
    have h := of_decide_eq_false h
    show xs.all nzB = true
    rw [all_iff]
    intro i hi
    unfold nzB
    have : nth xs i ≠ 0 := fun e => h (by rw [← e]; exact nth_mem hi)
    simp [this]
theorem i_nz (x : Int) (w : World) : Calls Try.prog 129 #[.int .i64 x] w fun e w' => e = .returned (.bool (nzB x)) ∧ w = w' := by
  unfold nzB
  cases h : (x == 0) with
  | true =>
    have h2 : (x != 0) = false := by rw [bne, h]; rfl
    go_enter Try.func129, Try.ntmps129
    go_wp2
    go_ret
    exact ⟨by first | rfl | simp [h2] | simp [h], rfl⟩
  | false =>
    have h2 : (x != 0) = true := by rw [bne, h]; rfl
    go_enter Try.func129, Try.ntmps129
    go_wp2
    go_ret
    exact ⟨by first | rfl | simp [h2] | simp [h], rfl⟩
set_option maxHeartbeats 1000000 in
theorem i_areHolders (p : Int) (a a' : Option Addr) (n cap m cap' : Nat) (xs ys : List Int) (w : World) (h : Ints w a n cap xs) (h' : Ints w a' m cap' ys) :
    Calls Try.prog 86 #[.int .i64 p, .slice a n cap, .slice a' m cap'] w fun e w' => e = .returned (.bool (hldB p xs ys)) ∧ Below w.heap.size w w' := by
  have hlx := h.len.out
  have eA : ∀ args w, (callFunc 129 args).run Try.prog w = .ok (.enter 129 args) w := enters_of Try.func129 (by kernel_rfl) rfl
  have HP := Lib.hid (i_arePoints p a a' n cap m cap' xs ys w h h')
  have HG : Hid (∀ W, Below w.heap.size w W → Calls Try.prog 115 #[.slice a n cap, .func (.func 129) #[] #[]] W fun e w' => e = .returned (.bool (xs.all nzB)) ∧ Below W.heap.size W w') := fun W hW =>
    i_areAll a n cap xs nzB 129 #[] eA W (h.below hW) (fun V x _ _ => i_nz x V)
  unfold hldB
  rw [hlx]
  clear h h' hlx
  cases h1 : ptsB p xs ys with
  | false =>
    rw [h1] at HP
    go_enter Try.func86, Try.ntmps86
    go_wp2_with (go_at_call 47; refine HP.out.mono ?_; rintro e w1 ⟨rfl, hb1⟩)
    go_ret
    exact ⟨rfl, hb1⟩
  | true =>
    rw [h1] at HP
    by_cases h10 : n ≤ 10
    · rw [decide_eq_true h10]
      have h10i : (n : Int) ≤ 10 := by omega
      cases h2 : xs.all nzB with
      | false =>
        rw [h2] at HG
        go_enter Try.func86, Try.ntmps86
        go_wp2_with (first | (go_at_call 47; refine HP.out.mono ?_; rintro e w1 ⟨rfl, hb1⟩) | (go_at_call 115; refine (HG.out _ hb1).mono ?_; rintro e w2 ⟨rfl, hb2⟩))
        go_ret
        exact ⟨rfl, bel_trans hb1 hb2⟩
      | true =>
        rw [h2] at HG
        go_enter Try.func86, Try.ntmps86
        go_wp2_with (first | (go_at_call 47; refine HP.out.mono ?_; rintro e w1 ⟨rfl, hb1⟩) | (go_at_call 115; refine (HG.out _ hb1).mono ?_; rintro e w2 ⟨rfl, hb2⟩))
        go_ret
        exact ⟨rfl, bel_trans hb1 hb2⟩
    · rw [decide_eq_false h10]
      have h10i : ¬ (n : Int) ≤ 10 := by omega
      go_enter Try.func86, Try.ntmps86
      go_wp2_with (go_at_call 47; refine HP.out.mono ?_; rintro e w1 ⟨rfl, hb1⟩)
      go_ret
      exact ⟨rfl, hb1⟩
set_option maxHeartbeats 1000000 in
theorem s_thGood (p : Int) (a a' : Option Addr) (n cap m cap' : Nat) (xs ys : List Int) (w : World) (h : Ints w a n cap xs) (h' : Ints w a' m cap' ys) (hn : n ≤ 1000) :
    Calls Try.prog 122 #[.int .i64 p, .slice a n cap, .slice a' m cap'] w fun e w' => e = .returned (.bool (hldB p xs ys)) ∧ Below w.heap.size w w' := by
  have hlx := h.len.out
  have HP := Lib.hid (s_fpPoints p a a' n cap m cap' xs ys w h h' hn)
  have HG : Hid (∀ W, Below w.heap.size w W → Calls Try.prog 108 #[.slice a n cap, .int .i64 0] W fun e w' => e = .returned (.bool (decide ((0 : Int) ∈ xs))) ∧ Below W.heap.size W w') := fun W hW =>
    s_l1Has a n cap xs 0 W (h.below hW) (by unfold Fits; omega)
  unfold hldB
  rw [hlx, all_nz]
  clear h h' hlx
  cases h1 : ptsB p xs ys with
  | false =>
    rw [h1] at HP
    go_enter Try.func122, Try.ntmps122
    go_wp2_with (go_at_call 49; refine HP.out.mono ?_; rintro e w1 ⟨rfl, hb1⟩)
    go_ret
    exact ⟨rfl, hb1⟩
  | true =>
    rw [h1] at HP
    by_cases h10 : n ≤ 10
    · rw [decide_eq_true h10]
      have h10i : (n : Int) ≤ 10 := by omega
      cases h2 : decide ((0 : Int) ∈ xs) with
      | false =>
        rw [h2] at HG
        go_enter Try.func122, Try.ntmps122
        go_wp2_with (first | (go_at_call 49; refine HP.out.mono ?_; rintro e w1 ⟨rfl, hb1⟩) | (go_at_call 108; refine (HG.out _ hb1).mono ?_; rintro e w2 ⟨rfl, hb2⟩))
        go_ret
        exact ⟨rfl, bel_trans hb1 hb2⟩
      | true =>
        rw [h2] at HG
        go_enter Try.func122, Try.ntmps122
        go_wp2_with (first | (go_at_call 49; refine HP.out.mono ?_; rintro e w1 ⟨rfl, hb1⟩) | (go_at_call 108; refine (HG.out _ hb1).mono ?_; rintro e w2 ⟨rfl, hb2⟩))
        go_ret
        exact ⟨rfl, bel_trans hb1 hb2⟩
    · rw [decide_eq_false h10]
      have h10i : ¬ (n : Int) ≤ 10 := by omega
      go_enter Try.func122, Try.ntmps122
      go_wp2_with (go_at_call 49; refine HP.out.mono ?_; rintro e w1 ⟨rfl, hb1⟩)
      go_ret
      exact ⟨rfl, hb1⟩
theorem hldB_iff {p : Int} {xs ys : List Int} : hldB p xs ys = true ↔ prB p = true ∧ Pts p xs ys xs.length ∧ xs.length ≤ 10 ∧ (0 : Int) ∉ xs := by
  unfold hldB
  rw [all_nz]
  simp only [Bool.and_eq_true, decide_eq_true_iff, Bool.not_eq_true', decide_eq_false_iff_not]
  constructor
  · rintro ⟨h1, h2, h3⟩
    obtain ⟨k1, k2, k3⟩ := ptsB_iff.1 h1
    exact ⟨k1, k2, h2, h3⟩
  · rintro ⟨h1, h2, h3, h4⟩
    exact ⟨ptsB_iff.2 ⟨h1, h2, by omega⟩, h3, h4⟩
theorem Pts.xb {p : Int} {xs ys : List Int} {n : Nat} (h : Pts p xs ys n) : ∀ i, i < n → 0 ≤ nth xs i ∧ nth xs i ≤ p - 1 := fun i hi => by have := h.rx.at (i := i) (by rw [h.lx]; exact hi); omega
theorem Pts.yb {p : Int} {xs ys : List Int} {n : Nat} (h : Pts p xs ys n) : ∀ i, i < n → 0 ≤ nth ys i ∧ nth ys i ≤ p - 1 := fun i hi => by have := h.ry.at (i := i) (by rw [h.ly]; exact hi); omega
/-- The test of the program, share by share. -/
def fitI (p : Int) (xs ys C : List Int) (n : Nat) : Bool := decide (∀ i, i < n → hor p (nth xs i) C = nth ys i)
set_option maxHeartbeats 4000000 in
theorem i_fit (p : Int) (a : Option Addr) (n cap : Nat) (xs : List Int) (a' : Option Addr) (cap' : Nat) (ys : List Int) (t : Nat) (w : World) (h : Ints w a n cap xs) (h' : Ints w a' n cap' ys) (hpr : prB p = true) (hP : Pts p xs ys n) (hn : n ≤ 1000) (ht1 : 1 ≤ t) (htn : t ≤ n) :
    Calls Try.prog 87 #[.int .i64 p, .slice a n cap, .slice a' n cap', .int .i64 t] w fun e w' => e = .returned (.bool (fitB p xs ys t)) ∧ Below w.heap.size w w' := by
  obtain ⟨hp1, hp2⟩ := prB_lo hpr
  have hF : fitB p xs ys t = fitI p xs ys (polyI p (xs.take t) (ys.take t) t t) n := by
    obtain ⟨q, rfl, hq⟩ := prB_nat hpr
    exact fit_all hq hP htn
  by_cases hnt : n ≤ t
  · obtain rfl : t = n := by omega
    have HR : Hid (fitB p xs ys t = true) := by
      show _ = _
      unfold fitB
      rw [decide_eq_true_iff, hP.lx]
      intro i hi hti; omega
    have hnti : (t : Int) ≤ (t : Int) := by omega
    clear hF
    go_enter Try.func87, Try.ntmps87
    go_wp2
    go_ret
    exact ⟨by rw [HR.out]; rfl, Below.refl _ _⟩
  · have hnti : ¬ (n : Int) ≤ (t : Int) := by omega
    have hncx := h.ncap; have hncy := h'.ncap
    have HX := Lib.hid h; have HY := Lib.hid h'
    obtain ⟨bx, ox, rfl, _, _⟩ := h.at (i := 0) (by omega)
    obtain ⟨by', oy, rfl, hbyl, _⟩ := h'.at (i := 0) (by omega)
    have HXT := Lib.hid (h.take htn); have HYT := Lib.hid (h'.take htn)
    have hPT := hP.take htn
    have HXB := Lib.hid hPT.xb; have HYB := Lib.hid hPT.yb
    have HXA := Lib.hid hP.xb
    have HCL := Lib.hid (polyI_len p (xs.take t) (ys.take t) t t (Nat.le_refl _))
    have HCR := Lib.hid (polyI_res hp1 (xs.take t) (ys.take t) t t (Nat.le_refl _))
    have HF := Lib.hid hF
    obtain ⟨C, hC⟩ : ∃ C, C = polyI p (xs.take t) (ys.take t) t t := ⟨_, rfl⟩
    rw [← hC] at HCL HCR HF
    have HC := Lib.hid hC
    have hti : (t : Int) ≤ (n : Int) := by omega
    have hti0 : (0 : Int) ≤ (t : Int) := by omega
    have htc1 : (t : Int) ≤ (cap : Int) := by omega
    have htc2 : (t : Int) ≤ (cap' : Int) := by omega
    clear h h' hF hP hPT hC
    go_enter Try.func87, Try.ntmps87
    go_wp2_with fail
    go_region_held3 (fun W => True) (trivial) (first | (go_at_call 48; refine (i_polyThrough p _ t _ (xs.take t) _ _ (ys.take t) _ (HXT.out.below (by (repeat (first | exact Below.refl _ _ | assumption | refine bel_trans ?_ (bel_alloc _ _) | refine bel_set ?_ (by first | (dsimp only; omega) | (simp; omega) | simp) _ | refine bel_trans ?_ (bel_drewN _ _) | refine bel_trans ?_ (bel_drew _) | refine bel_trans ?_ (by assumption))))) (HYT.out.below (by (repeat (first | exact Below.refl _ _ | assumption | refine bel_trans ?_ (bel_alloc _ _) | refine bel_set ?_ (by first | (dsimp only; omega) | (simp; omega) | simp) _ | refine bel_trans ?_ (bel_drewN _ _) | refine bel_trans ?_ (bel_drew _) | refine bel_trans ?_ (by assumption))))) ⟨hp1, hp2⟩ HXB HYB (by omega)).mono ?_; rintro e w1 ⟨r, c, rfl, ho, hb⟩; rw [← HC.out] at ho))
    have HO := Lib.hid ho.ints
    have HB1 := Lib.hid (show Below w.heap.size w w1 by (repeat (first | exact Below.refl _ _ | assumption | refine bel_trans ?_ (bel_alloc _ _) | refine bel_set ?_ (by first | (dsimp only; omega) | (simp; omega) | simp) _ | refine bel_trans ?_ (bel_drewN _ _) | refine bel_trans ?_ (bel_drew _) | refine bel_trans ?_ (by assumption))))
    clear ho hb
    go_wp2
    go_loopw [26] (fun i W => ∃ k : Nat, k ≤ n ∧ i = .int .i64 k ∧ Hid (∀ j, j < k → hor p (nth xs j) C = nth ys j) ∧ Hid (Below w1.heap.size w1 W)) (fun i _ => n - (intOf i).toNat)
    case atStart => exact ⟨0, by omega, rfl, fun j hj => by omega, Below.refl _ _⟩
    case round =>
      obtain ⟨k, hk, rfl, HK, BW⟩ := hrel
      obtain ⟨wk, rfl⟩ : ∃ wk : World, wk = wr := ⟨_, rfl⟩
      by_cases hlt : k < n
      · have hB := bel_trans HB1.out BW.out
        obtain ⟨b, off, e1, hbl, hc⟩ := (HX.out.below hB).at hlt
        obtain ⟨b2, off2, e2, hbl2, hc2⟩ := (HY.out.below hB).at hlt
        simp only [Option.some.injEq, Addr.mk.injEq] at e1 e2
        obtain ⟨rfl, rfl, _⟩ := e1
        obtain ⟨rfl, rfl, _⟩ := e2
        have hx := HXA.out k hlt
        have hki : (k : Int) < (n : Int) := by omega
        clear hB
        by_cases hv : hor p (nth xs k) C = nth ys k
        · have HKN : Hid (∀ j, j < k + 1 → hor p (nth xs j) C = nth ys j) := fun j hj => by
            rcases Nat.lt_or_ge j k with g | g
            · exact HK.out j g
            · obtain rfl : j = k := by omega
              exact hv
          have HV := Lib.hid hv; clear hv
          go_wp2_with fail
          go_region_held3 (fun W => W.cell? ⟨by', oy + k, none⟩ = some (.int .i64 (nth ys k))) (exact cell_on hc2 (by (repeat (first | exact Below.refl _ _ | assumption | refine bel_trans ?_ (bel_alloc _ _) | refine bel_set ?_ (by first | (dsimp only; omega) | (simp; omega) | simp) _ | refine bel_trans ?_ (bel_drewN _ _) | refine bel_trans ?_ (bel_drew _) | refine bel_trans ?_ (by assumption))))) (first | (go_at_call 55; refine (i_evalPoly p (nth xs k) r t c C _ (HO.out.below (bel_trans BW.out (by (repeat (first | exact Below.refl _ _ | assumption | refine bel_trans ?_ (bel_alloc _ _) | refine bel_set ?_ (by first | (dsimp only; omega) | (simp; omega) | simp) _ | refine bel_trans ?_ (bel_drewN _ _) | refine bel_trans ?_ (bel_drew _) | refine bel_trans ?_ (by assumption)))))) ⟨hp1, hp2⟩ (by omega) (fun i hi => by have := HCR.out.at (i := i) (by rw [HCL.out]; exact hi); omega) (by omega)).mono ?_; rintro e w2 ⟨rfl, hb⟩; rw [HV.out]))
          have HB2 := Lib.hid (bel_trans BW.out (show Below wk.heap.size wk w2 by (repeat (first | exact Below.refl _ _ | assumption | refine bel_trans ?_ (bel_alloc _ _) | refine bel_set ?_ (by first | (dsimp only; omega) | (simp; omega) | simp) _ | refine bel_trans ?_ (bel_drewN _ _) | refine bel_trans ?_ (bel_drew _) | refine bel_trans ?_ (by assumption)))))
          clear hb
          go_wp2
          go_roundw
          case rel => exact ⟨k + 1, by omega, by go_num, HKN.out, HB2.out⟩
          case measure => simp [intOf]; omega
        · have hv1 : (hor p (nth xs k) C == nth ys k) = false := by rw [beq_eq_false_iff_ne]; exact hv
          have hv2 : (hor p (nth xs k) C != nth ys k) = true := by rw [bne, hv1]; rfl
          have HR : Hid (fitB p xs ys t = false) := by
            show _ = _
            rw [HF.out]; unfold fitI
            exact decide_eq_false fun g => hv (g k hlt)
          go_wp2_with fail
          go_region_held3 (fun W => W.cell? ⟨by', oy + k, none⟩ = some (.int .i64 (nth ys k))) (exact cell_on hc2 (by (repeat (first | exact Below.refl _ _ | assumption | refine bel_trans ?_ (bel_alloc _ _) | refine bel_set ?_ (by first | (dsimp only; omega) | (simp; omega) | simp) _ | refine bel_trans ?_ (bel_drewN _ _) | refine bel_trans ?_ (bel_drew _) | refine bel_trans ?_ (by assumption))))) (first | (go_at_call 55; refine (i_evalPoly p (nth xs k) r t c C _ (HO.out.below (bel_trans BW.out (by (repeat (first | exact Below.refl _ _ | assumption | refine bel_trans ?_ (bel_alloc _ _) | refine bel_set ?_ (by first | (dsimp only; omega) | (simp; omega) | simp) _ | refine bel_trans ?_ (bel_drewN _ _) | refine bel_trans ?_ (bel_drew _) | refine bel_trans ?_ (by assumption)))))) ⟨hp1, hp2⟩ (by omega) (fun i hi => by have := HCR.out.at (i := i) (by rw [HCL.out]; exact hi); omega) (by omega)).mono ?_; rintro e w2 ⟨rfl, hb⟩))
          have HB2 := Lib.hid (bel_trans BW.out (show Below wk.heap.size wk w2 by (repeat (first | exact Below.refl _ _ | assumption | refine bel_trans ?_ (bel_alloc _ _) | refine bel_set ?_ (by first | (dsimp only; omega) | (simp; omega) | simp) _ | refine bel_trans ?_ (bel_drewN _ _) | refine bel_trans ?_ (bel_drew _) | refine bel_trans ?_ (by assumption)))))
          clear hb
          go_wp2
          go_ret
          exact ⟨by rw [HR.out]; rfl, bel_trans HB1.out HB2.out⟩
      · obtain rfl : k = n := by omega
        have HR : Hid (fitB p xs ys t = true) := by
          show _ = _
          rw [HF.out]; unfold fitI
          exact decide_eq_true HK.out
        go_wp2
        go_ret
        exact ⟨by rw [HR.out]; rfl, bel_trans HB1.out BW.out⟩
set_option maxHeartbeats 4000000 in
theorem s_thFit (p : Int) (a : Option Addr) (n cap : Nat) (xs : List Int) (a' : Option Addr) (cap' : Nat) (ys : List Int) (t : Nat) (w : World) (h : Ints w a n cap xs) (h' : Ints w a' n cap' ys) (hpr : prB p = true) (hP : Pts p xs ys n) (hn : n ≤ 1000) (ht1 : 1 ≤ t) (htn : t ≤ n) :
    Calls Try.prog 76 #[.int .i64 p, .slice a n cap, .slice a' n cap', .int .i64 t] w fun e w' => e = .returned (.bool (fitB p xs ys t)) ∧ Below w.heap.size w w' := by
  obtain ⟨hp1, hp2⟩ := prB_lo hpr
  have HLX := Lib.hid hP.lx
  have hncx := h.ncap; have hncy := h'.ncap
  have HX := Lib.hid h; have HY := Lib.hid h'
  obtain ⟨bx, ox, rfl, _, _⟩ := h.at (i := 0) (by omega)
  obtain ⟨by', oy, rfl, hbyl, _⟩ := h'.at (i := 0) (by omega)
  have HXT := Lib.hid (h.take htn); have HYT := Lib.hid (h'.take htn)
  have hPT := hP.take htn
  have HXB := Lib.hid hPT.xb; have HYB := Lib.hid hPT.yb
  have HXA := Lib.hid hP.xb
  have hti : (t : Int) ≤ (n : Int) := by omega
  have hti0 : (0 : Int) ≤ (t : Int) := by omega
  have htc1 : (t : Int) ≤ (cap : Int) := by omega
  have htc2 : (t : Int) ≤ (cap' : Int) := by omega
  clear h h' hP hPT
  go_enter Try.func76, Try.ntmps76
  go_wp2
  go_loopw [9] (fun i W => ∃ k : Nat, t ≤ k ∧ k ≤ n ∧ i = .int .i64 k ∧ Hid (∀ j, j < k → t ≤ j → atS p (xs.take t) (ys.take t) (nth xs j) t t = nth ys j) ∧ Hid (Below w.heap.size w W)) (fun i _ => n - (intOf i).toNat)
  case atStart => exact ⟨t, by omega, by omega, rfl, fun j hj => by omega, Below.refl _ _⟩
  case round =>
    obtain ⟨k, htk, hk, rfl, HK, BW⟩ := hrel
    obtain ⟨wk, rfl⟩ : ∃ wk : World, wk = wr := ⟨_, rfl⟩
    by_cases hlt : k < n
    · obtain ⟨b, off, e1, hbl, hc⟩ := (HX.out.below BW.out).at hlt
      obtain ⟨b2, off2, e2, hbl2, hc2⟩ := (HY.out.below BW.out).at hlt
      simp only [Option.some.injEq, Addr.mk.injEq] at e1 e2
      obtain ⟨rfl, rfl, _⟩ := e1
      obtain ⟨rfl, rfl, _⟩ := e2
      have hx := HXA.out k hlt
      have hki : (k : Int) < (n : Int) := by omega
      by_cases hv : atS p (xs.take t) (ys.take t) (nth xs k) t t = nth ys k
      · have HKN : Hid (∀ j, j < k + 1 → t ≤ j → atS p (xs.take t) (ys.take t) (nth xs j) t t = nth ys j) := fun j hj => by
          rcases Nat.lt_or_ge j k with g | g
          · exact HK.out j g
          · obtain rfl : j = k := by omega
            exact fun _ => hv
        have HV := Lib.hid hv; clear hv
        go_wp2_with fail
        go_region_held3 (fun W => W.cell? ⟨bx, ox + k, none⟩ = some (.int .i64 (nth xs k)) ∧ W.cell? ⟨by', oy + k, none⟩ = some (.int .i64 (nth ys k))) (exact ⟨cell_on hc (by (repeat (first | exact Below.refl _ _ | assumption | refine bel_trans ?_ (bel_alloc _ _) | refine bel_set ?_ (by first | (dsimp only; omega) | (simp; omega) | simp) _ | refine bel_trans ?_ (bel_drewN _ _) | refine bel_trans ?_ (bel_drew _) | refine bel_trans ?_ (by assumption)))), cell_on hc2 (by (repeat (first | exact Below.refl _ _ | assumption | refine bel_trans ?_ (bel_alloc _ _) | refine bel_set ?_ (by first | (dsimp only; omega) | (simp; omega) | simp) _ | refine bel_trans ?_ (bel_drewN _ _) | refine bel_trans ?_ (bel_drew _) | refine bel_trans ?_ (by assumption))))⟩) (first | (go_at_call 58; refine (s_fpAt p (nth xs k) _ t _ (xs.take t) _ _ (ys.take t) _ (HXT.out.below (bel_trans BW.out (by (repeat (first | exact Below.refl _ _ | assumption | refine bel_trans ?_ (bel_alloc _ _) | refine bel_set ?_ (by first | (dsimp only; omega) | (simp; omega) | simp) _ | refine bel_trans ?_ (bel_drewN _ _) | refine bel_trans ?_ (bel_drew _) | refine bel_trans ?_ (by assumption)))))) (HYT.out.below (bel_trans BW.out (by (repeat (first | exact Below.refl _ _ | assumption | refine bel_trans ?_ (bel_alloc _ _) | refine bel_set ?_ (by first | (dsimp only; omega) | (simp; omega) | simp) _ | refine bel_trans ?_ (bel_drewN _ _) | refine bel_trans ?_ (bel_drew _) | refine bel_trans ?_ (by assumption)))))) ⟨hp1, hp2⟩ HXB HYB (by omega) (by omega)).mono ?_; rintro e w2 ⟨rfl, hb⟩; rw [HV.out]))
        have HB2 := Lib.hid (bel_trans BW.out (show Below wk.heap.size wk w2 by (repeat (first | exact Below.refl _ _ | assumption | refine bel_trans ?_ (bel_alloc _ _) | refine bel_set ?_ (by first | (dsimp only; omega) | (simp; omega) | simp) _ | refine bel_trans ?_ (bel_drewN _ _) | refine bel_trans ?_ (bel_drew _) | refine bel_trans ?_ (by assumption)))))
        clear hb
        go_wp2
        go_roundw
        case rel => exact ⟨k + 1, by omega, by omega, by go_num, HKN.out, HB2.out⟩
        case measure => simp [intOf]; omega
      · have hv1 : (atS p (xs.take t) (ys.take t) (nth xs k) t t == nth ys k) = false := by rw [beq_eq_false_iff_ne]; exact hv
        have hv2 : (atS p (xs.take t) (ys.take t) (nth xs k) t t != nth ys k) = true := by rw [bne, hv1]; rfl
        have HR : Hid (fitB p xs ys t = false) := by
          show _ = _
          unfold fitB
          exact decide_eq_false fun g => hv (g k (by rw [HLX.out]; exact hlt) htk)
        go_wp2_with fail
        go_region_held3 (fun W => W.cell? ⟨bx, ox + k, none⟩ = some (.int .i64 (nth xs k)) ∧ W.cell? ⟨by', oy + k, none⟩ = some (.int .i64 (nth ys k))) (exact ⟨cell_on hc (by (repeat (first | exact Below.refl _ _ | assumption | refine bel_trans ?_ (bel_alloc _ _) | refine bel_set ?_ (by first | (dsimp only; omega) | (simp; omega) | simp) _ | refine bel_trans ?_ (bel_drewN _ _) | refine bel_trans ?_ (bel_drew _) | refine bel_trans ?_ (by assumption)))), cell_on hc2 (by (repeat (first | exact Below.refl _ _ | assumption | refine bel_trans ?_ (bel_alloc _ _) | refine bel_set ?_ (by first | (dsimp only; omega) | (simp; omega) | simp) _ | refine bel_trans ?_ (bel_drewN _ _) | refine bel_trans ?_ (bel_drew _) | refine bel_trans ?_ (by assumption))))⟩) (first | (go_at_call 58; refine (s_fpAt p (nth xs k) _ t _ (xs.take t) _ _ (ys.take t) _ (HXT.out.below (bel_trans BW.out (by (repeat (first | exact Below.refl _ _ | assumption | refine bel_trans ?_ (bel_alloc _ _) | refine bel_set ?_ (by first | (dsimp only; omega) | (simp; omega) | simp) _ | refine bel_trans ?_ (bel_drewN _ _) | refine bel_trans ?_ (bel_drew _) | refine bel_trans ?_ (by assumption)))))) (HYT.out.below (bel_trans BW.out (by (repeat (first | exact Below.refl _ _ | assumption | refine bel_trans ?_ (bel_alloc _ _) | refine bel_set ?_ (by first | (dsimp only; omega) | (simp; omega) | simp) _ | refine bel_trans ?_ (bel_drewN _ _) | refine bel_trans ?_ (bel_drew _) | refine bel_trans ?_ (by assumption)))))) ⟨hp1, hp2⟩ HXB HYB (by omega) (by omega)).mono ?_; rintro e w2 ⟨rfl, hb⟩))
        have HB2 := Lib.hid (bel_trans BW.out (show Below wk.heap.size wk w2 by (repeat (first | exact Below.refl _ _ | assumption | refine bel_trans ?_ (bel_alloc _ _) | refine bel_set ?_ (by first | (dsimp only; omega) | (simp; omega) | simp) _ | refine bel_trans ?_ (bel_drewN _ _) | refine bel_trans ?_ (bel_drew _) | refine bel_trans ?_ (by assumption)))))
        clear hb
        go_wp2
        go_ret
        exact ⟨by rw [HR.out]; rfl, HB2.out⟩
    · obtain rfl : k = n := by omega
      have HR : Hid (fitB p xs ys t = true) := by
        show _ = _
        unfold fitB
        exact decide_eq_true fun i hi => HK.out i (by rw [HLX.out] at hi; exact hi)
      go_wp2
      go_ret
      exact ⟨by rw [HR.out]; rfl, BW.out⟩
end Go.Proofs.Ytfichpppjpgahaa
