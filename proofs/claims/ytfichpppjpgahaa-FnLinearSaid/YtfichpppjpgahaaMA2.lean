/-
  Equal lists, as the laws compare them.
  Plain laws: the form of an out of degree one gives the out.
  Contracts: CountInputs, both sides.
  The walk of the law FnLinear.
-/
import Derived.Test.YtfichpppjpgahaaCv
import Derived.Test.YtfichpppjpgahaaBi
import Derived.Test.YtfichpppjpgahaaE3
import Derived.Test.YtfichpppjpgahaaBn
import Derived.Test.YtfichpppjpgahaaD
namespace Go.Proofs.Ytfichpppjpgahaa
open Go.RowKit
set_option linter.unusedVariables false
set_option linter.unusedSimpArgs false

set_option maxHeartbeats 1000000 in
theorem l_qInts (a a' : Option Addr) (n cap cap' : Nat) (xs : List Int) (w : World) (h : Ints w a n cap xs) (h' : Ints w a' n cap' xs) :
    Calls Try.prog 31 #[.slice a n cap, .slice a' n cap'] w fun e w' => e = .returned (.bool true) ∧ Below w.heap.size w w' := by
  have hs := h.small
  go_enter Try.func31, Try.ntmps31
  go_wp2
  go_loopw [13] (fun i wr => ∃ k : Nat, k ≤ n ∧ i = .int .i64 k ∧ Hid (Below w.heap.size w wr)) (fun i _ => n - (intOf i).toNat)
  case atStart => exact ⟨0, by omega, rfl, Below.refl _ _⟩
  case round =>
    obtain ⟨k, hk, rfl, BW⟩ := hrel
    by_cases hlt : k < n
    · obtain ⟨b, off, rfl, hbl, hc⟩ := (h.below BW.out).at hlt
      obtain ⟨b', off', rfl, hbl', hc'⟩ := (h'.below BW.out).at hlt
      have hlti : (k : Int) < (n : Int) := by omega
      go_wp2
      go_quiet (fail)
      go_wp2
      go_roundw
      case rel => exact ⟨k + 1, by omega, by go_num, (show Hid _ from below_drewN BW.out _)⟩
      case measure => simp [intOf]; omega
    · obtain rfl : k = n := by omega
      go_wp2
      go_ret
      exact ⟨rfl, BW.out⟩
end Go.Proofs.Ytfichpppjpgahaa
namespace Go.Proofs.Ytfichpppjpgahaa
set_option linter.unusedVariables false
set_option linter.unusedSimpArgs false

/-- The inputs that the law asks for. -/
def lnA (p : Int) (n : Nat) : List Int := (List.range n).map (fun i : Nat => ((i : Int) + 2) % p)
def lnB (p : Int) (n : Nat) : List Int := (List.range n).map (fun i : Nat => (3 * (i : Int) + 1) % p)
theorem lnA_succ (p : Int) (n : Nat) : lnA p (n + 1) = lnA p n ++ [((n : Int) + 2) % p] := by simp [lnA, List.range_succ]
theorem lnB_succ (p : Int) (n : Nat) : lnB p (n + 1) = lnB p n ++ [(3 * (n : Int) + 1) % p] := by simp [lnB, List.range_succ]
theorem lnA_len (p : Int) (n : Nat) : (lnA p n).length = n := by simp [lnA]
theorem lnB_len (p : Int) (n : Nat) : (lnB p n).length = n := by simp [lnB]
theorem lnA_bd {p : Int} (hp : 2 ≤ p) (n : Nat) : ∀ x ∈ lnA p n, 0 ≤ x ∧ x < p := fun x hx => by
  obtain ⟨i, _, rfl⟩ := List.mem_map.1 hx
  exact ⟨Int.emod_nonneg _ (by omega), Int.emod_lt_of_pos _ (by omega)⟩
theorem lnB_bd {p : Int} (hp : 2 ≤ p) (n : Nat) : ∀ x ∈ lnB p n, 0 ≤ x ∧ x < p := fun x hx => by
  obtain ⟨i, _, rfl⟩ := List.mem_map.1 hx
  exact ⟨Int.emod_nonneg _ (by omega), Int.emod_lt_of_pos _ (by omega)⟩
theorem els_of {p : Int} {xs : List Int} (hp : prB p = true) (h : ∀ x ∈ xs, 0 ≤ x ∧ x < p) : elsB p xs = true := by
  unfold elsB
  rw [Bool.and_eq_true]
  refine ⟨hp, allIn_iff.2 fun i hi => inB_iff.2 ?_⟩
  have := h _ (nth_mem hi)
  omega
/-- The sum of the form at the inputs. -/
def lnS (f vs : List Int) : Nat → Int
  | 0 => nth f 0
  | j + 1 => lnS f vs j + nth f (j + 1) * nth vs j
theorem lnS_bd {p : Int} (hp : 2 ≤ p ∧ p ≤ 251) {f vs : List Int} (hf : ∀ x ∈ f, 0 ≤ x ∧ x < p) (hv : ∀ x ∈ vs, 0 ≤ x ∧ x < p) : ∀ j : Nat, 0 ≤ lnS f vs j ∧ lnS f vs j ≤ 251 + 63001 * j
  | 0 => by have := nth_bd (by omega) hf 0; unfold lnS; omega
  | j + 1 => by
    have h1 := lnS_bd hp hf hv j
    have h2 := nth_bd (by omega) hf (j + 1)
    have h3 := nth_bd (by omega) hv j
    have h4 : nth f (j + 1) * nth vs j ≤ 251 * 251 := Int.mul_le_mul (by omega) (by omega) (by omega) (by omega)
    have h5 := Int.mul_nonneg h2.1 h3.1
    unfold lnS
    omega
theorem nth_lfT0 (p : Int) (gs : List Int) (N gn o : Nat) : ∀ j, nth (lfT p gs N gn o j) 0 = nth (avs p gs (List.replicate N 0) gn) o
  | 0 => rfl
  | j + 1 => by rw [lfT, nth_snoc, if_neg (by rw [lfT_len]; omega)]; exact nth_lfT0 p gs N gn o j
theorem nth_lfT1 (p : Int) (gs : List Int) (N gn o : Nat) : ∀ j i, i < j → nth (lfT p gs N gn o j) (i + 1) = (nth (avs p gs ((List.replicate N 0).set i 1) gn) o - nth (avs p gs (List.replicate N 0) gn) o) % p
  | 0, i, hi => by omega
  | j + 1, i, hi => by
    rw [lfT, nth_snoc, lfT_len]
    by_cases e : i = j
    · subst e; rw [if_pos rfl]
    · rw [if_neg (by omega)]; exact nth_lfT1 p gs N gn o j i (by omega)
theorem lnS_dot {p : Int} {gs vs : List Int} {N gn o : Nat} : ∀ j, j ≤ N → lnS (lfT p gs N gn o N) vs j = nth (avs p gs (List.replicate N 0) gn) o + dotF (fun j => (nth (avs p gs ((List.replicate N 0).set j 1) gn) o - nth (avs p gs (List.replicate N 0) gn) o) % p) (nth vs) j
  | 0, _ => by show nth _ 0 = _ + 0; rw [nth_lfT0, Int.add_zero]
  | j + 1, h => by
    show lnS _ _ j + _ = _ + (dotF _ _ j + _)
    rw [lnS_dot j (by omega), nth_lfT1 p gs N gn o N j (by omega), Int.add_assoc]
/-- What the law says of the form. -/
theorem ln_end {p i0 i1 : Int} {gs os vs : List Int} {gn : Nat} {k : Nat} (h : lfOk p i0 i1 gs gn os (k : Int) = true) (hv : ∀ x ∈ vs, 0 ≤ x ∧ x < p) (hl : vs.length = (i0 + i1).toNat) :
    nth (pkL (avs p gs vs gn) os os.length) k = lnS (lfAll p i0 i1 gs gn os (k : Int)).1 vs (i0 + i1).toNat % p := by
  have h' := h
  unfold lfOk at h'
  rw [Bool.and_eq_true, Bool.and_eq_true, decide_eq_true_iff, inB_iff, arC_iff] at h'
  obtain ⟨⟨hS, hG, hO⟩, ⟨hk0, hk1⟩, hd⟩ := h'
  obtain ⟨hpr, hi0, hi1, hgn, hon⟩ := arS_iff.1 hS
  have hp := prB_lo hpr
  rw [Int.toNat_natCast] at hd
  have hN : i0 + i1 = (((i0 + i1).toNat : Nat) : Int) := by omega
  rw [hN] at hG
  have hik := inB_iff.1 (allIn_iff.1 hO k (by omega))
  rw [nth_pkL (by omega)]
  unfold lfAll
  rw [if_pos h, Int.toNat_natCast]
  show _ = lnS (lfT _ _ _ _ _ _) _ _ % p
  rw [lnS_dot _ (Nat.le_refl _), ← lin_law (by omega) (C := 2000000) (by omega) gs _ gn (gatesA_ok hG) (by omega) hd vs hl]
  have := nth_bd (by omega) (avs_res (by omega) gs vs hv gn) (nth os k).toNat
  exact (Int.emod_eq_of_lt this.1 this.2).symm
/-- A form of degree one: the out's degree is at most one. -/
theorem ln_deg {p i0 i1 : Int} {gs os : List Int} {gn : Nat} {k : Nat} (h : lfOk p i0 i1 gs gn os (k : Int) = true) (hd : (dgAll p i0 i1 gs gn os).2 = true) :
    nth (dgAll p i0 i1 gs gn os).1 k ≤ 1 ∧ (dgAll p i0 i1 gs gn os).1.length = os.length := by
  have h' := h
  unfold lfOk at h'
  rw [Bool.and_eq_true, Bool.and_eq_true, decide_eq_true_iff, inB_iff] at h'
  obtain ⟨hA, ⟨hk0, hk1⟩, hg⟩ := h'
  rw [Int.toNat_natCast] at hg
  unfold dgAll at hd ⊢
  split at hd
  · rename_i e
    rw [if_pos e]
    refine ⟨?_, pkL_len _ _ _⟩
    rw [show ((pkL (ads 2000000 gs (i0 + i1).toNat gn) os os.length, true) : List Int × Bool).1 = pkL (ads 2000000 gs (i0 + i1).toNat gn) os os.length from rfl, nth_pkL (by omega)]
    exact hg
  · cases hd
end Go.Proofs.Ytfichpppjpgahaa
namespace Go.Proofs.Ytfichpppjpgahaa
open Go.RowKit
set_option linter.unusedVariables false
set_option linter.unusedSimpArgs false
set_option maxRecDepth 20000

def pwA (p : Int) : Nat → Int
  | 0 => 1
  | j + 1 => pwA p j * p
theorem pwA_pos {p : Int} (hp : 2 ≤ p) : ∀ j, 1 ≤ pwA p j
  | 0 => by unfold pwA; omega
  | j + 1 => by
    have h := pwA_pos hp j
    rw [pwA]
    have := Int.mul_le_mul_of_nonneg_left (show 1 ≤ p by omega) (show 0 ≤ pwA p j by omega)
    omega
theorem pwA_mono {p : Int} (hp : 2 ≤ p) (i : Nat) : ∀ d, pwA p i ≤ pwA p (i + d)
  | 0 => Int.le_refl _
  | d + 1 => by
    have h := pwA_mono hp i d
    have h1 := pwA_pos hp (i + d)
    have := Int.mul_le_mul_of_nonneg_left (show 1 ≤ p by omega) (show 0 ≤ pwA p (i + d) by omega)
    show pwA p i ≤ pwA p (i + d) * p
    omega
theorem pwA_big {p : Int} (hp : 2 ≤ p) {i N : Nat} (hi : i ≤ N) (h : 20000 < pwA p i) : decide (pwA p N ≤ 20000) = false := by
  have := pwA_mono hp i (N - i)
  rw [show i + (N - i) = N by omega] at this
  exact decide_eq_false (by omega)
/-- The digits of n, and what is left of it. -/
def dgA (p : Int) (n : Int) : Nat → List Int × Int
  | 0 => ([], n)
  | j + 1 => ((dgA p n j).1 ++ [(dgA p n j).2 % p], (dgA p n j).2 / p)
theorem dgA_len (p n : Int) : ∀ j, (dgA p n j).1.length = j
  | 0 => rfl
  | j + 1 => by rw [dgA]; simp [dgA_len p n j]
theorem dgA_bd {p n : Int} (hp : 2 ≤ p) : ∀ j, ∀ x ∈ (dgA p n j).1, 0 ≤ x ∧ x < p
  | 0 => fun x hx => by simp [dgA] at hx
  | j + 1 => fun x hx => by
    rw [dgA] at hx
    rcases List.mem_append.1 hx with q | q
    · exact dgA_bd hp j x q
    · rw [List.mem_singleton] at q; subst q; exact ⟨Int.emod_nonneg _ (by omega), Int.emod_lt_of_pos _ (by omega)⟩
theorem dgA_rest {p n : Int} (hp : 2 ≤ p) (hn : 0 ≤ n ∧ n ≤ 20000) : ∀ j, 0 ≤ (dgA p n j).2 ∧ (dgA p n j).2 ≤ 20000
  | 0 => hn
  | j + 1 => by
    have h := dgA_rest hp hn j
    rw [dgA]
    refine ⟨Int.ediv_nonneg h.1 (by omega), ?_⟩
    have := Int.ediv_le_self p h.1
    show (dgA p n j).2 / p ≤ 20000
    omega
def hitA (p : Int) (gs : List Int) (N gn : Nat) (os ts : List Int) (n : Int) : Bool := decide (pkL (avs p gs (dgA p n N).1 gn) os os.length = ts)
def cntA (p : Int) (gs : List Int) (N gn : Nat) (os ts : List Int) : Nat → Int
  | 0 => 0
  | m + 1 => cntA p gs N gn os ts m + (if hitA p gs N gn os ts m then 1 else 0)
theorem cntA_bd (p : Int) (gs : List Int) (N gn : Nat) (os ts : List Int) : ∀ m, 0 ≤ cntA p gs N gn os ts m ∧ cntA p gs N gn os ts m ≤ m
  | 0 => by unfold cntA; omega
  | m + 1 => by have := cntA_bd p gs N gn os ts m; unfold cntA; split <;> omega
def ciOk (p i0 i1 : Int) (gs : List Int) (gn : Nat) (os ts : List Int) : Bool := arC p i0 i1 gs gn os && (elsB p ts && decide (ts.length = os.length))
def ciAll (p i0 i1 : Int) (gs : List Int) (gn : Nat) (os ts : List Int) : Int × Bool :=
  if ciOk p i0 i1 gs gn os ts && decide (pwA p (i0 + i1).toNat ≤ 20000) then (cntA p gs (i0 + i1).toNat gn os ts (pwA p (i0 + i1).toNat).toNat, true) else (0, false)
set_option maxHeartbeats 16000000 in
theorem i_CountInputs (p i0 i1 : Int) (ga : Option Addr) (gn gc : Nat) (gs : List Int) (oa : Option Addr) (on oc : Nat) (os : List Int) (ta : Option Addr) (tn tc : Nat) (ts : List Int) (w : World) (h : Circ w ga gn gc gs oa on oc os) (ht : Ints w ta tn tc ts) :
    Calls Try.prog 37 #[.agg #[.int .i64 p, .int .i64 i0, .int .i64 i1, .slice ga gn gc, .slice oa on oc], .slice ta tn tc] w fun e w' => e = .returned (.tuple #[.int .i64 (ciAll p i0 i1 gs gn os ts).1, .bool (ciAll p i0 i1 gs gn os ts).2]) ∧ Below w.heap.size w w' := by
  have hlo := h.o.len.out; have hlt := ht.len.out
  have hts := ht.small
  have A0 := bel_alloc w (.cells #[.int .i64 p, .int .i64 i0, .int .i64 i1, .slice ga gn gc, .slice oa on oc] 48)
  have g0 := B5.new (w := w) (x0 := .int .i64 p) (x1 := .int .i64 i0) (x2 := .int .i64 i1) (x3 := .slice ga gn gc) (x4 := .slice oa on oc) (t := 48)
  obtain ⟨c0, c1, c2, c3, c4⟩ := g0
  have zz : (w.alloc (.cells #[.int .i64 p, .int .i64 i0, .int .i64 i1, .slice ga gn gc, .slice oa on oc] 48)).heap.size = w.heap.size + 1 := by simp
  have H0 := Lib.hid h; have T0 := Lib.hid ht
  have HH := Lib.hid (h.below A0); have HT := Lib.hid (ht.below A0)
  clear h ht
  unfold ciAll ciOk
  rw [hlo, hlt]
  cases hAK : arC p i0 i1 gs gn os with
  | false =>
    simp only [Bool.false_and, Bool.false_eq_true, if_false]
    go_enter Try.func37, Try.ntmps37
    go_wp2_with fail
    refine (i_IsArith _ _ _ _ _ _ gs _ _ _ os _ HH.out).mono ?_; rintro e w1 ⟨rfl, hb1⟩; rw [hAK]
    go_wp2
    go_ret2
    exact ⟨rfl, bel_trans A0 hb1⟩
  | true =>
   obtain ⟨hS, hGG, hOO⟩ := arC_iff.1 hAK
   obtain ⟨hpp, ⟨h01, h02⟩, ⟨h11, h12⟩, hn, hon⟩ := arS_iff.1 hS
   obtain ⟨hp1, hp2⟩ := prB_lo hpp
   obtain ⟨N, hN⟩ : ∃ N : Nat, i0 + i1 = N := ⟨(i0 + i1).toNat, by omega⟩
   have HOU := arOuts (n := N + gn) hAK (by omega)
   rw [hlo] at HOU hon
   rw [hN] at hGG
   have HGT := Lib.hid hGG
   have hNt : (i0 + i1).toNat = N := by omega
   rw [hNt]
   clear hS hGG hOO hpp hNt
   have hN16 : N ≤ 16 := by omega
   cases hEL : elsB p ts with
   | false =>
    simp only [Bool.and_false, Bool.false_and, Bool.false_eq_true, if_false]
    go_enter Try.func37, Try.ntmps37
    go_wp2_with fail
    refine (i_IsArith _ _ _ _ _ _ gs _ _ _ os _ HH.out).mono ?_; rintro e w1 ⟨rfl, hb1⟩; rw [hAK]
    replace c0 := cell_on c0 hb1; replace c1 := cell_on c1 hb1; replace c2 := cell_on c2 hb1; replace c3 := cell_on c3 hb1; replace c4 := cell_on c4 hb1
    go_wp2_with fail
    refine (i_areElements _ _ _ _ ts _ (HT.out.below hb1)).mono ?_; rintro e w2 ⟨rfl, hb2⟩; rw [hEL]
    replace c0 := cell_on c0 hb2; replace c1 := cell_on c1 hb2; replace c2 := cell_on c2 hb2; replace c3 := cell_on c3 hb2; replace c4 := cell_on c4 hb2
    have hb0 := bel_trans hb1 hb2
    go_wp2
    go_ret2
    exact ⟨rfl, bel_trans A0 hb0⟩
   | true =>
    by_cases hTN : tn = on
    · obtain rfl : on = tn := hTN.symm
      simp only [decide_true, Bool.and_self, Bool.true_and]
      cases hPW : decide (pwA p N ≤ 20000) with
      | false =>
        simp only [Bool.and_false, Bool.false_eq_true, if_false]
        have HPW := Lib.hid hPW; clear hPW
        go_enter Try.func37, Try.ntmps37
        go_wp2_with fail
        refine (i_IsArith _ _ _ _ _ _ gs _ _ _ os _ HH.out).mono ?_; rintro e w1 ⟨rfl, hb1⟩; rw [hAK]
        replace c0 := cell_on c0 hb1; replace c1 := cell_on c1 hb1; replace c2 := cell_on c2 hb1; replace c3 := cell_on c3 hb1; replace c4 := cell_on c4 hb1
        go_wp2_with fail
        refine (i_areElements _ _ _ _ ts _ (HT.out.below hb1)).mono ?_; rintro e w2 ⟨rfl, hb2⟩; rw [hEL]
        replace c0 := cell_on c0 hb2; replace c1 := cell_on c1 hb2; replace c2 := cell_on c2 hb2; replace c3 := cell_on c3 hb2; replace c4 := cell_on c4 hb2
        have hb0 := bel_trans hb1 hb2
        go_wp2_with fail
        refine (i_arInputs p i0 i1 _ _ _ _ _ _ _ ⟨by omega, by omega⟩ ⟨by omega, by omega⟩).mono ?_; rintro e w3 ⟨rfl, hb3⟩; rw [hN]
        replace c0 := cell_on c0 hb3; replace c1 := cell_on c1 hb3; replace c2 := cell_on c2 hb3; replace c3 := cell_on c3 hb3; replace c4 := cell_on c4 hb3
        have HBS := Lib.hid (bel_trans A0 (bel_trans hb0 hb3))
        have HXS : Hid (B5 w3 w.heap.size (.int .i64 p) (.int .i64 i0) (.int .i64 i1) (.slice ga gn gc) (.slice oa on oc)) := ⟨c0, c1, c2, c3, c4⟩
        clear hb0 hb1 hb2 hb3 c0 c1 c2 c3 c4 zz A0
        go_wp2
        go_loopw [6, 31] (fun v i wr => ∃ j : Nat, j ≤ N ∧ i = .int .i64 j ∧ v = .int .i64 (pwA p j) ∧ pwA p j ≤ 20000 ∧ wr = w3) (fun _ i _ => N - (intOf i).toNat)
        case atStart => exact ⟨0, by omega, rfl, rfl, by unfold pwA; omega, by trivial⟩
        case round =>
          obtain ⟨j, hj, rfl, rfl, hpw, rfl⟩ := hrel
          have hx := HXS.out
          obtain ⟨c0, c1, c2, c3, c4⟩ := hx
          have hpp1 := pwA_pos hp1 j
          by_cases hlj : j < N
          · have hlji : (j : Int) < (N : Int) := by omega
            have HPE : Hid (pwA p (j + 1) = pwA p j * p) := rfl
            have HBG := Lib.hid (fun q => pwA_big hp1 (i := j + 1) (N := N) (by omega) q)
            have hm1 := Int.mul_le_mul hpw (show p ≤ 251 by omega) (by omega) (by omega)
            have hm2 := Int.mul_nonneg (show 0 ≤ pwA p j by omega) (show 0 ≤ p by omega)
            have e1 : IntKind.i64.wrap (pwA p j * p) = pwA p j * p := IntWalk.i64_in _ (by omega)
            rw [HPE.out] at HBG

            by_cases hbig : 20000 < pwA p j * p
            · go_wp2
              go_ret2
              exact ⟨rfl, HBS.out⟩
            · go_wp2
              go_roundw
              case rel => exact ⟨j + 1, by omega, by go_num, by rw [HPE.out], by rw [HPE.out]; omega, by trivial⟩
              case measure => simp [intOf]; omega
          · have hlji : ¬ (j : Int) < (N : Int) := by omega
            exact absurd (decide_eq_true (show pwA p N ≤ 20000 by (have : j = N := by omega); rw [← this]; exact hpw)) (by rw [HPW.out]; decide)
      | true =>
        have hpz := pwA_pos hp1 N
        have hpy := of_decide_eq_true hPW
        obtain ⟨P, hP⟩ : ∃ P : Nat, pwA p N = P := ⟨(pwA p N).toNat, by omega⟩
        have hP2 : P ≤ 20000 := by omega
        have hPt : (pwA p N).toNat = P := by omega
        simp only [Bool.and_self, if_true]
        rw [hPt]
        have HPW := Lib.hid hPW; have HP := Lib.hid hP; clear hPW hP hPt hpz hpy
        go_enter Try.func37, Try.ntmps37
        go_wp2_with fail
        refine (i_IsArith _ _ _ _ _ _ gs _ _ _ os _ HH.out).mono ?_; rintro e w1 ⟨rfl, hb1⟩; rw [hAK]
        replace c0 := cell_on c0 hb1; replace c1 := cell_on c1 hb1; replace c2 := cell_on c2 hb1; replace c3 := cell_on c3 hb1; replace c4 := cell_on c4 hb1
        go_wp2_with fail
        refine (i_areElements _ _ _ _ ts _ (HT.out.below hb1)).mono ?_; rintro e w2 ⟨rfl, hb2⟩; rw [hEL]
        replace c0 := cell_on c0 hb2; replace c1 := cell_on c1 hb2; replace c2 := cell_on c2 hb2; replace c3 := cell_on c3 hb2; replace c4 := cell_on c4 hb2
        have hb0 := bel_trans hb1 hb2
        go_wp2_with fail
        refine (i_arInputs p i0 i1 _ _ _ _ _ _ _ ⟨by omega, by omega⟩ ⟨by omega, by omega⟩).mono ?_; rintro e w3 ⟨rfl, hb3⟩; rw [hN]
        replace c0 := cell_on c0 hb3; replace c1 := cell_on c1 hb3; replace c2 := cell_on c2 hb3; replace c3 := cell_on c3 hb3; replace c4 := cell_on c4 hb3
        have HBS := Lib.hid (bel_trans A0 (bel_trans hb0 hb3))
        have HXS : Hid (B5 w3 w.heap.size (.int .i64 p) (.int .i64 i0) (.int .i64 i1) (.slice ga gn gc) (.slice oa on oc)) := ⟨c0, c1, c2, c3, c4⟩
        clear hb0 hb1 hb2 hb3 c0 c1 c2 c3 c4 zz A0
        go_wp2
        go_loopw [6, 31] (fun v i wr => ∃ j : Nat, j ≤ N ∧ i = .int .i64 j ∧ v = .int .i64 (pwA p j) ∧ pwA p j ≤ 20000 ∧ wr = w3) (fun _ i _ => N - (intOf i).toNat)
        case atStart => exact ⟨0, by omega, rfl, rfl, by unfold pwA; omega, by trivial⟩
        case round =>
          obtain ⟨j, hj, rfl, rfl, hpw, rfl⟩ := hrel
          have hx := HXS.out
          obtain ⟨c0, c1, c2, c3, c4⟩ := hx
          have hpp1 := pwA_pos hp1 j
          by_cases hlj : j < N
          · have hlji : (j : Int) < (N : Int) := by omega
            have HPE : Hid (pwA p (j + 1) = pwA p j * p) := rfl
            have HBG := Lib.hid (fun q => pwA_big hp1 (i := j + 1) (N := N) (by omega) q)
            have hm1 := Int.mul_le_mul hpw (show p ≤ 251 by omega) (by omega) (by omega)
            have hm2 := Int.mul_nonneg (show 0 ≤ pwA p j by omega) (show 0 ≤ p by omega)
            have e1 : IntKind.i64.wrap (pwA p j * p) = pwA p j * p := IntWalk.i64_in _ (by omega)
            rw [HPE.out] at HBG

            by_cases hbig : 20000 < pwA p j * p
            · exact absurd (HBG.out hbig) (by rw [HPW.out]; decide)
            · go_wp2
              go_roundw
              case rel => exact ⟨j + 1, by omega, by go_num, by rw [HPE.out], by rw [HPE.out]; omega, by trivial⟩
              case measure => simp [intOf]; omega
          · have hlji : ¬ (j : Int) < (N : Int) := by omega

            have hjN : j = N := by omega
            subst hjN
            rw [HP.out]
            clear hpw hpp1
            go_wp2
            go_loopw [7, 41] (fun v i wx => ∃ n : Nat, n ≤ P ∧ i = .int .i64 n ∧ v = .int .i64 (cntA p gs j gn os ts n) ∧ Hid (Below w.heap.size w wx) ∧ Hid (B5 wx w.heap.size (.int .i64 p) (.int .i64 i0) (.int .i64 i1) (.slice ga gn gc) (.slice oa on oc))) (fun _ i _ => P - (intOf i).toNat)
            case atStart => exact ⟨0, by omega, rfl, rfl, HBS, HXS⟩
            case round =>
              clear HBS HXS c0 c1 c2 c3 c4
              obtain ⟨n, hn9, rfl, rfl, HB, HX⟩ := hrel
              obtain ⟨wn, rfl⟩ : ∃ wn : World, wn = wr := ⟨_, rfl⟩
              have hx := HX.out
              obtain ⟨c0, c1, c2, c3, c4⟩ := hx
              have zwn := HX.out.lt
              by_cases hlp : n < P
              · have hlpi : (n : Int) < (P : Int) := by omega
                have BL := bel_alloc wn (.cells #[] 3)
                have HL := Lib.hid (World.ownsRow_lit (base := wn.heap.size) (e := 3) (size := 1) wn #[] 0 (Nat.le_refl _) (by decide) rfl)
                have HLX := Lib.hid (HX.out.on BL); have HLB := Lib.hid (bel_trans HB.out BL); have HLZ := Lib.hid BL.size
                clear BL
                go_wp2
                go_loopw [9, 10] (fun v r wx => ∃ i : Nat, i ≤ j ∧ r = .int .i64 (dgA p n i).2 ∧ Hid (wx.ownsRow wn.heap.size 3 1 v i (ivs (dgA p n i).1)) ∧ Hid (Below w.heap.size w wx) ∧ Hid (B5 wx w.heap.size (.int .i64 p) (.int .i64 i0) (.int .i64 i1) (.slice ga gn gc) (.slice oa on oc)) ∧ Hid (wn.heap.size ≤ wx.heap.size)) (fun v _ _ => j - (match v with | .slice _ n _ => n | _ => 0))
                case atStart => exact ⟨0, by omega, rfl, HL, HLB, HLX, HLZ⟩
                case round =>
                  clear HL HLB HLX HLZ c0 c1 c2 c3 c4 HB HX
                  obtain ⟨i, hi9, rfl, HO, HB3, HX3, HZ3⟩ := hrel
                  obtain ⟨w6, rfl⟩ : ∃ w6 : World, w6 = wr := ⟨_, rfl⟩
                  have hx := HX3.out
                  obtain ⟨c0, c1, c2, c3, c4⟩ := hx
                  obtain ⟨a1, k1, rfl, m1⟩ := Mine.of HO.out (by omega) (bd_fit hp2 (dgA_bd hp1 i))
                  clear m1
                  by_cases hij : i < j
                  · have hiji : (i : Int) < (j : Int) := by omega
                    have hr := dgA_rest (n := (n : Int)) hp1 ⟨by omega, by omega⟩ i
                    have HS1 : Hid ((dgA p n (i + 1)).1 = (dgA p n i).1 ++ [(dgA p n i).2 % p]) := rfl
                    have HS2 : Hid ((dgA p n (i + 1)).2 = (dgA p n i).2 / p) := rfl
                    have HLL := Lib.hid (dgA_bd (n := (n : Int)) hp1 i)
                    have hrm := Int.emod_nonneg (dgA p n i).2 (show p ≠ 0 by omega)
                    have hrn := Int.emod_lt_of_pos (dgA p n i).2 (show 0 < p by omega)
                    generalize (dgA p n i).2 = r at *
                    generalize (dgA p n i).1 = l at *
                    have e2 : r.tmod p = r % p := Int.tmod_eq_emod_of_nonneg hr.1
                    have e3 : r.tdiv p = r / p := Int.tdiv_eq_ediv_of_nonneg hr.1
                    have e3b := Int.ediv_nonneg hr.1 (show 0 ≤ p by omega)
                    have e3c := Int.ediv_le_self p hr.1
                    have e4 : IntKind.i64.wrap (r / p) = r / p := IntWalk.i64_in _ (by omega)
                    have hp0 : ¬ p = 0 := by omega
                    go_wp2_with fail
                    refine (i_arInputs p i0 i1 _ _ _ _ _ _ _ ⟨by omega, by omega⟩ ⟨by omega, by omega⟩).mono ?_; rintro e w7 ⟨rfl, hb7⟩; rw [hN]
                    replace c0 := cell_on c0 hb7; replace c1 := cell_on c1 hb7; replace c2 := cell_on c2 hb7; replace c3 := cell_on c3 hb7; replace c4 := cell_on c4 hb7
                    have HO7 := Lib.hid (ownsRow_below HO.out hb7); have HX7 := Lib.hid (HX3.out.on hb7); have HB7 := Lib.hid (bel_trans HB3.out hb7); have HZ7 := Lib.hid (Nat.le_trans HZ3.out hb7.size)
                    clear hb7
                    have z7 := HZ7.out
                    go_wp2_with (at_builtin; (try rw [e2]); go_loud (refine wp_app _ wn.heap.size _ _ _ (r % p) _ _ rfl _ _ rfl rfl rfl (by first | rfl | simp) HO7.out (by omega) (by omega) ?_; intro v9 w9 hv9 hb9 hg9; have c0 := (hb9.cell (p := ⟨w.heap.size, 0, none⟩) zwn).trans c0; have c1 := (hb9.cell (p := ⟨w.heap.size, 1, none⟩) zwn).trans c1; have c2 := (hb9.cell (p := ⟨w.heap.size, 2, none⟩) zwn).trans c2; have c3 := (hb9.cell (p := ⟨w.heap.size, 3, none⟩) zwn).trans c3; have c4 := (hb9.cell (p := ⟨w.heap.size, 4, none⟩) zwn).trans c4))
                    clear hg9
                    go_roundw
                    case rel => exact ⟨i + 1, by omega, by rw [HS2.out], by rw [HS1.out]; exact hv9, HB7.out.trans (hb9.mono (by omega)), ⟨c0, c1, c2, c3, c4⟩, Nat.le_trans z7 hb9.size⟩
                    case measure => first | (simp [intOf]; omega) | (obtain ⟨a9, k9, rfl, _⟩ := Mine.of hv9 (by omega) (fun x hx => by rcases List.mem_append.1 hx with y | y; exact (bd_fit hp2 HLL.out) x y; simp at y; subst y; unfold Fits; omega); simp; omega)
                  · obtain rfl : i = j := by omega
                    have hiji : ¬ (i : Int) < (i : Int) := by omega
                    go_wp2_with fail
                    refine (i_arInputs p i0 i1 _ _ _ _ _ _ _ ⟨by omega, by omega⟩ ⟨by omega, by omega⟩).mono ?_; rintro e w7 ⟨rfl, hb7⟩; rw [hN]
                    replace c0 := cell_on c0 hb7; replace c1 := cell_on c1 hb7; replace c2 := cell_on c2 hb7; replace c3 := cell_on c3 hb7; replace c4 := cell_on c4 hb7
                    have HO7 := Lib.hid (ownsRow_below HO.out hb7); have HX7 := Lib.hid (HX3.out.on hb7); have HB7 := Lib.hid (bel_trans HB3.out hb7); have HZ7 := Lib.hid (Nat.le_trans HZ3.out hb7.size)
                    clear hb7
                    have HCE : Hid (cntA p gs i gn os ts (n + 1) = cntA p gs i gn os ts n + (if decide (pkL (avs p gs (dgA p n i).1 gn) os on = ts) then 1 else 0)) := by show _ = _; rw [cntA, hitA, hlo]
                    have hcb := cntA_bd p gs i gn os ts n
                    have HU := Lib.hid (dgA_bd (n := (n : Int)) hp1 i)
                    obtain ⟨a1, k1, hv1, m1⟩ := Mine.of HO7.out (by omega) (bd_fit hp2 HU.out)
                    simp only [Value.slice.injEq] at hv1
                    obtain ⟨rfl, _, rfl⟩ := hv1
                    have M1 := Lib.hid m1.ints; clear m1
                    have HHC := Lib.hid (H0.out.below HB7.out); have HTC := Lib.hid (T0.out.below HB7.out)
                    have e5 : IntKind.i64.wrap (cntA p gs i gn os ts n + 1) = cntA p gs i gn os ts n + 1 := IntWalk.i64_in _ (by omega)
                    clear HO HO7 HX3 HB3 hcb
                    cases hH : decide (pkL (avs p gs (dgA p n i).1 gn) os on = ts) with
                    | false =>
                      rw [hH] at HCE
                      go_wp2
                      go_region_held3 (fun W => W.cell? ⟨w.heap.size, 0, none⟩ = some (.int .i64 p) ∧ W.cell? ⟨w.heap.size, 1, none⟩ = some (.int .i64 i0) ∧ W.cell? ⟨w.heap.size, 2, none⟩ = some (.int .i64 i1) ∧ W.cell? ⟨w.heap.size, 3, none⟩ = some (.slice ga gn gc) ∧ W.cell? ⟨w.heap.size, 4, none⟩ = some (.slice oa on oc)) (exact ⟨c0, c1, c2, c3, c4⟩) (first | (go_at_call 92; refine (i_arValues _ _ _ _ _ _ gs _ _ _ os _ _ _ _ _ (HHC.out.below (bel_drew _)) (M1.out.below (bel_drew _)) HGT HU ⟨hp1, hp2⟩ (by omega)).mono ?_; rintro e wm ⟨rm, km, rfl, mm, hbm⟩; have hbn := bel_trans (bel_drew _) hbm; have c0 := cell_on c0 hbn; have c1 := cell_on c1 hbn; have c2 := cell_on c2 hbn; have c3 := cell_on c3 hbn; have c4 := cell_on c4 hbn) | (go_at_call 99; refine (i_at _ _ _ _ _ _ _ os _ mm.ints (HHC.out.o.below hbn) (by omega) HOU).mono ?_; rintro e wo ⟨ro, ko, rfl, mo, hbo⟩; have hbp := bel_trans hbn hbo; have c0 := cell_on c0 hbo; have c1 := cell_on c1 hbo; have c2 := cell_on c2 hbo; have c3 := cell_on c3 hbo; have c4 := cell_on c4 hbo) | (go_at_call 98; refine (g_Equal _ _ _ _ _ _ _ ts _ mo.ints (HTC.out.below hbp)).mono ?_; rintro e wq ⟨rfl, hbqq⟩; rw [hH]; have hbq := bel_trans hbp hbqq; have c0 := cell_on c0 hbqq; have c1 := cell_on c1 hbqq; have c2 := cell_on c2 hbqq; have c3 := cell_on c3 hbqq; have c4 := cell_on c4 hbqq))
                      have HX9 : Hid (B5 wq w.heap.size (.int .i64 p) (.int .i64 i0) (.int .i64 i1) (.slice ga gn gc) (.slice oa on oc)) := ⟨c0, c1, c2, c3, c4⟩
                      have HB9 := Lib.hid (bel_trans HB7.out hbq)
                      clear c0 c1 c2 c3 c4 hbq HX7 HB7
                      go_wp2
                      go_roundw
                      case rel => exact ⟨n + 1, by omega, by go_num, by rw [HCE.out]; simp, HB9, HX9⟩
                      case measure => simp [intOf]; omega
                    | true =>
                      rw [hH] at HCE
                      go_wp2
                      go_region_held3 (fun W => W.cell? ⟨w.heap.size, 0, none⟩ = some (.int .i64 p) ∧ W.cell? ⟨w.heap.size, 1, none⟩ = some (.int .i64 i0) ∧ W.cell? ⟨w.heap.size, 2, none⟩ = some (.int .i64 i1) ∧ W.cell? ⟨w.heap.size, 3, none⟩ = some (.slice ga gn gc) ∧ W.cell? ⟨w.heap.size, 4, none⟩ = some (.slice oa on oc)) (exact ⟨c0, c1, c2, c3, c4⟩) (first | (go_at_call 92; refine (i_arValues _ _ _ _ _ _ gs _ _ _ os _ _ _ _ _ (HHC.out.below (bel_drew _)) (M1.out.below (bel_drew _)) HGT HU ⟨hp1, hp2⟩ (by omega)).mono ?_; rintro e wm ⟨rm, km, rfl, mm, hbm⟩; have hbn := bel_trans (bel_drew _) hbm; have c0 := cell_on c0 hbn; have c1 := cell_on c1 hbn; have c2 := cell_on c2 hbn; have c3 := cell_on c3 hbn; have c4 := cell_on c4 hbn) | (go_at_call 99; refine (i_at _ _ _ _ _ _ _ os _ mm.ints (HHC.out.o.below hbn) (by omega) HOU).mono ?_; rintro e wo ⟨ro, ko, rfl, mo, hbo⟩; have hbp := bel_trans hbn hbo; have c0 := cell_on c0 hbo; have c1 := cell_on c1 hbo; have c2 := cell_on c2 hbo; have c3 := cell_on c3 hbo; have c4 := cell_on c4 hbo) | (go_at_call 98; refine (g_Equal _ _ _ _ _ _ _ ts _ mo.ints (HTC.out.below hbp)).mono ?_; rintro e wq ⟨rfl, hbqq⟩; rw [hH]; have hbq := bel_trans hbp hbqq; have c0 := cell_on c0 hbqq; have c1 := cell_on c1 hbqq; have c2 := cell_on c2 hbqq; have c3 := cell_on c3 hbqq; have c4 := cell_on c4 hbqq))
                      have HX9 : Hid (B5 wq w.heap.size (.int .i64 p) (.int .i64 i0) (.int .i64 i1) (.slice ga gn gc) (.slice oa on oc)) := ⟨c0, c1, c2, c3, c4⟩
                      have HB9 := Lib.hid (bel_trans HB7.out hbq)
                      clear c0 c1 c2 c3 c4 hbq HX7 HB7
                      go_wp2
                      go_roundw
                      case rel => exact ⟨n + 1, by omega, by go_num, by rw [HCE.out]; simp, HB9, HX9⟩
                      case measure => simp [intOf]; omega
              · have hlpi : ¬ (n : Int) < (P : Int) := by omega
                obtain rfl : n = P := by omega
                go_wp2
                go_ret2
                exact ⟨rfl, HB.out⟩
    · have hd : decide (tn = on) = false := decide_eq_false hTN
      have hT1 : ¬ (tn : Int) = (on : Int) := by omega
      rw [hd]
      simp only [Bool.and_false, Bool.false_and, Bool.false_eq_true, if_false]
      go_enter Try.func37, Try.ntmps37
      go_wp2_with fail
      refine (i_IsArith _ _ _ _ _ _ gs _ _ _ os _ HH.out).mono ?_; rintro e w1 ⟨rfl, hb1⟩; rw [hAK]
      replace c0 := cell_on c0 hb1; replace c1 := cell_on c1 hb1; replace c2 := cell_on c2 hb1; replace c3 := cell_on c3 hb1; replace c4 := cell_on c4 hb1
      go_wp2_with fail
      refine (i_areElements _ _ _ _ ts _ (HT.out.below hb1)).mono ?_; rintro e w2 ⟨rfl, hb2⟩; rw [hEL]
      replace c0 := cell_on c0 hb2; replace c1 := cell_on c1 hb2; replace c2 := cell_on c2 hb2; replace c3 := cell_on c3 hb2; replace c4 := cell_on c4 hb2
      have hb0 := bel_trans hb1 hb2
      go_wp2
      go_ret2
      exact ⟨rfl, bel_trans A0 hb0⟩
set_option maxHeartbeats 16000000 in
theorem s_CountInputs (p i0 i1 : Int) (ga : Option Addr) (gn gc : Nat) (gs : List Int) (oa : Option Addr) (on oc : Nat) (os : List Int) (ta : Option Addr) (tn tc : Nat) (ts : List Int) (w : World) (h : Circ w ga gn gc gs oa on oc os) (ht : Ints w ta tn tc ts) :
    Calls Try.prog 38 #[.agg #[.int .i64 p, .int .i64 i0, .int .i64 i1, .slice ga gn gc, .slice oa on oc], .slice ta tn tc] w fun e w' => e = .returned (.tuple #[.int .i64 (ciAll p i0 i1 gs gn os ts).1, .bool (ciAll p i0 i1 gs gn os ts).2]) ∧ Below w.heap.size w w' := by
  have hlo := h.o.len.out; have hlt := ht.len.out
  have hts := ht.small
  have A0 := bel_alloc w (.cells #[.int .i64 p, .int .i64 i0, .int .i64 i1, .slice ga gn gc, .slice oa on oc] 48)
  have g0 := B5.new (w := w) (x0 := .int .i64 p) (x1 := .int .i64 i0) (x2 := .int .i64 i1) (x3 := .slice ga gn gc) (x4 := .slice oa on oc) (t := 48)
  obtain ⟨c0, c1, c2, c3, c4⟩ := g0
  have zz : (w.alloc (.cells #[.int .i64 p, .int .i64 i0, .int .i64 i1, .slice ga gn gc, .slice oa on oc] 48)).heap.size = w.heap.size + 1 := by simp
  have H0 := Lib.hid h; have T0 := Lib.hid ht
  have HH := Lib.hid (h.below A0); have HT := Lib.hid (ht.below A0)
  clear h ht
  unfold ciAll ciOk
  rw [hlo, hlt]
  cases hAK : arC p i0 i1 gs gn os with
  | false =>
    simp only [Bool.false_and, Bool.false_eq_true, if_false]
    go_enter Try.func38, Try.ntmps38
    go_wp2_with fail
    refine (s_arGood _ _ _ _ _ _ gs _ _ _ os _ HH.out).mono ?_; rintro e w1 ⟨rfl, hb1⟩; rw [hAK]
    go_wp2
    go_ret2
    exact ⟨rfl, bel_trans A0 hb1⟩
  | true =>
   obtain ⟨hS, hGG, hOO⟩ := arC_iff.1 hAK
   obtain ⟨hpp, ⟨h01, h02⟩, ⟨h11, h12⟩, hn, hon⟩ := arS_iff.1 hS
   obtain ⟨hp1, hp2⟩ := prB_lo hpp
   obtain ⟨N, hN⟩ : ∃ N : Nat, i0 + i1 = N := ⟨(i0 + i1).toNat, by omega⟩
   have HOU := arOuts (n := N + gn) hAK (by omega)
   rw [hlo] at HOU hon
   rw [hN] at hGG
   have HGT := Lib.hid hGG
   have hNt : (i0 + i1).toNat = N := by omega
   rw [hNt]
   clear hS hGG hOO hpp hNt
   have hN16 : N ≤ 16 := by omega
   by_cases hTN : tn = on
   · obtain rfl : on = tn := hTN.symm
     cases hEL : elsB p ts with
     | false =>
      simp only [Bool.and_false, Bool.false_and, Bool.false_eq_true, if_false]
      go_enter Try.func38, Try.ntmps38
      go_wp2_with fail
      refine (s_arGood _ _ _ _ _ _ gs _ _ _ os _ HH.out).mono ?_; rintro e w1 ⟨rfl, hb1⟩; rw [hAK]
      replace c0 := cell_on c0 hb1; replace c1 := cell_on c1 hb1; replace c2 := cell_on c2 hb1; replace c3 := cell_on c3 hb1; replace c4 := cell_on c4 hb1
      go_wp2_with fail
      refine (s_fpIn _ _ _ _ ts _ (HT.out.below hb1)).mono ?_; rintro e w2 ⟨rfl, rfl⟩; have hb2 := Below.refl w1.heap.size w1; rw [hEL]
      replace c0 := cell_on c0 hb2; replace c1 := cell_on c1 hb2; replace c2 := cell_on c2 hb2; replace c3 := cell_on c3 hb2; replace c4 := cell_on c4 hb2
      have hb0 := bel_trans hb1 hb2
      go_wp2
      go_ret2
      exact ⟨rfl, bel_trans A0 hb0⟩
     | true =>
      simp only [decide_true, Bool.and_self, Bool.true_and]
      cases hPW : decide (pwA p N ≤ 20000) with
      | false =>
        simp only [Bool.and_false, Bool.false_eq_true, if_false]
        have HPW := Lib.hid hPW; clear hPW
        go_enter Try.func38, Try.ntmps38
        go_wp2_with fail
        refine (s_arGood _ _ _ _ _ _ gs _ _ _ os _ HH.out).mono ?_; rintro e w1 ⟨rfl, hb1⟩; rw [hAK]
        replace c0 := cell_on c0 hb1; replace c1 := cell_on c1 hb1; replace c2 := cell_on c2 hb1; replace c3 := cell_on c3 hb1; replace c4 := cell_on c4 hb1
        go_wp2_with fail
        refine (s_fpIn _ _ _ _ ts _ (HT.out.below hb1)).mono ?_; rintro e w2 ⟨rfl, rfl⟩; have hb2 := Below.refl w1.heap.size w1; rw [hEL]
        replace c0 := cell_on c0 hb2; replace c1 := cell_on c1 hb2; replace c2 := cell_on c2 hb2; replace c3 := cell_on c3 hb2; replace c4 := cell_on c4 hb2
        have hb0 := bel_trans hb1 hb2
        have HBS := Lib.hid (bel_trans A0 hb0)
        have HXS : Hid (B5 w1 w.heap.size (.int .i64 p) (.int .i64 i0) (.int .i64 i1) (.slice ga gn gc) (.slice oa on oc)) := ⟨c0, c1, c2, c3, c4⟩
        clear hb0 hb1 hb2 c0 c1 c2 c3 c4 zz A0
        go_wp2
        go_loopw [6, 7] (fun v i wr => ∃ j : Nat, j ≤ N ∧ i = .int .i64 j ∧ v = .int .i64 (pwA p j) ∧ pwA p j ≤ 20000 ∧ Hid (Below w.heap.size w wr) ∧ Hid (B5 wr w.heap.size (.int .i64 p) (.int .i64 i0) (.int .i64 i1) (.slice ga gn gc) (.slice oa on oc))) (fun _ i _ => N - (intOf i).toNat)
        case atStart => exact ⟨0, by omega, rfl, rfl, by unfold pwA; omega, HBS, HXS⟩
        case round =>
          obtain ⟨j, hj, rfl, rfl, hpw, HB0, HX0⟩ := hrel
          clear HBS HXS
          obtain ⟨w4, rfl⟩ : ∃ w4 : World, w4 = wr := ⟨_, rfl⟩
          have hx := HX0.out
          obtain ⟨c0, c1, c2, c3, c4⟩ := hx
          have hpp1 := pwA_pos hp1 j
          by_cases hlj : j < N
          · have hlji : (j : Int) < (N : Int) := by omega
            have HPE : Hid (pwA p (j + 1) = pwA p j * p) := rfl
            have HBG := Lib.hid (fun q => pwA_big hp1 (i := j + 1) (N := N) (by omega) q)
            have hm1 := Int.mul_le_mul hpw (show p ≤ 251 by omega) (by omega) (by omega)
            have hm2 := Int.mul_nonneg (show 0 ≤ pwA p j by omega) (show 0 ≤ p by omega)
            have e1 : IntKind.i64.wrap (pwA p j * p) = pwA p j * p := IntWalk.i64_in _ (by omega)
            rw [HPE.out] at HBG
            go_wp2_with fail
            refine (s_arInputs p i0 i1 _ _ _ _ _ _ _ ⟨by omega, by omega⟩ ⟨by omega, by omega⟩).mono ?_; rintro e w5 ⟨rfl, hb5⟩; rw [hN]
            replace c0 := cell_on c0 hb5; replace c1 := cell_on c1 hb5; replace c2 := cell_on c2 hb5; replace c3 := cell_on c3 hb5; replace c4 := cell_on c4 hb5
            have HBS := Lib.hid (bel_trans HB0.out hb5)
            have HXS := Lib.hid (HX0.out.on hb5)
            clear hb5 HB0 HX0
            by_cases hbig : 20000 < pwA p j * p
            · go_wp2
              go_ret2
              exact ⟨rfl, HBS.out⟩
            · go_wp2
              go_roundw
              case rel => exact ⟨j + 1, by omega, by go_num, by rw [HPE.out], by rw [HPE.out]; omega, HBS, HXS⟩
              case measure => simp [intOf]; omega
          · have hlji : ¬ (j : Int) < (N : Int) := by omega
            exact absurd (decide_eq_true (show pwA p N ≤ 20000 by (have : j = N := by omega); rw [← this]; exact hpw)) (by rw [HPW.out]; decide)
      | true =>
        have hpz := pwA_pos hp1 N
        have hpy := of_decide_eq_true hPW
        obtain ⟨P, hP⟩ : ∃ P : Nat, pwA p N = P := ⟨(pwA p N).toNat, by omega⟩
        have hP2 : P ≤ 20000 := by omega
        have hPt : (pwA p N).toNat = P := by omega
        simp only [Bool.and_self, if_true]
        rw [hPt]
        have HPW := Lib.hid hPW; have HP := Lib.hid hP; clear hPW hP hPt hpz hpy
        go_enter Try.func38, Try.ntmps38
        go_wp2_with fail
        refine (s_arGood _ _ _ _ _ _ gs _ _ _ os _ HH.out).mono ?_; rintro e w1 ⟨rfl, hb1⟩; rw [hAK]
        replace c0 := cell_on c0 hb1; replace c1 := cell_on c1 hb1; replace c2 := cell_on c2 hb1; replace c3 := cell_on c3 hb1; replace c4 := cell_on c4 hb1
        go_wp2_with fail
        refine (s_fpIn _ _ _ _ ts _ (HT.out.below hb1)).mono ?_; rintro e w2 ⟨rfl, rfl⟩; have hb2 := Below.refl w1.heap.size w1; rw [hEL]
        replace c0 := cell_on c0 hb2; replace c1 := cell_on c1 hb2; replace c2 := cell_on c2 hb2; replace c3 := cell_on c3 hb2; replace c4 := cell_on c4 hb2
        have hb0 := bel_trans hb1 hb2
        have HBS := Lib.hid (bel_trans A0 hb0)
        have HXS : Hid (B5 w1 w.heap.size (.int .i64 p) (.int .i64 i0) (.int .i64 i1) (.slice ga gn gc) (.slice oa on oc)) := ⟨c0, c1, c2, c3, c4⟩
        clear hb0 hb1 hb2 c0 c1 c2 c3 c4 zz A0
        go_wp2
        go_loopw [6, 7] (fun v i wr => ∃ j : Nat, j ≤ N ∧ i = .int .i64 j ∧ v = .int .i64 (pwA p j) ∧ pwA p j ≤ 20000 ∧ Hid (Below w.heap.size w wr) ∧ Hid (B5 wr w.heap.size (.int .i64 p) (.int .i64 i0) (.int .i64 i1) (.slice ga gn gc) (.slice oa on oc))) (fun _ i _ => N - (intOf i).toNat)
        case atStart => exact ⟨0, by omega, rfl, rfl, by unfold pwA; omega, HBS, HXS⟩
        case round =>
          obtain ⟨j, hj, rfl, rfl, hpw, HB0, HX0⟩ := hrel
          clear HBS HXS
          obtain ⟨w4, rfl⟩ : ∃ w4 : World, w4 = wr := ⟨_, rfl⟩
          have hx := HX0.out
          obtain ⟨c0, c1, c2, c3, c4⟩ := hx
          have hpp1 := pwA_pos hp1 j
          by_cases hlj : j < N
          · have hlji : (j : Int) < (N : Int) := by omega
            have HPE : Hid (pwA p (j + 1) = pwA p j * p) := rfl
            have HBG := Lib.hid (fun q => pwA_big hp1 (i := j + 1) (N := N) (by omega) q)
            have hm1 := Int.mul_le_mul hpw (show p ≤ 251 by omega) (by omega) (by omega)
            have hm2 := Int.mul_nonneg (show 0 ≤ pwA p j by omega) (show 0 ≤ p by omega)
            have e1 : IntKind.i64.wrap (pwA p j * p) = pwA p j * p := IntWalk.i64_in _ (by omega)
            rw [HPE.out] at HBG
            go_wp2_with fail
            refine (s_arInputs p i0 i1 _ _ _ _ _ _ _ ⟨by omega, by omega⟩ ⟨by omega, by omega⟩).mono ?_; rintro e w5 ⟨rfl, hb5⟩; rw [hN]
            replace c0 := cell_on c0 hb5; replace c1 := cell_on c1 hb5; replace c2 := cell_on c2 hb5; replace c3 := cell_on c3 hb5; replace c4 := cell_on c4 hb5
            have HBS := Lib.hid (bel_trans HB0.out hb5)
            have HXS := Lib.hid (HX0.out.on hb5)
            clear hb5 HB0 HX0
            by_cases hbig : 20000 < pwA p j * p
            · exact absurd (HBG.out hbig) (by rw [HPW.out]; decide)
            · go_wp2
              go_roundw
              case rel => exact ⟨j + 1, by omega, by go_num, by rw [HPE.out], by rw [HPE.out]; omega, HBS, HXS⟩
              case measure => simp [intOf]; omega
          · have hlji : ¬ (j : Int) < (N : Int) := by omega
            go_wp2_with fail
            refine (s_arInputs p i0 i1 _ _ _ _ _ _ _ ⟨by omega, by omega⟩ ⟨by omega, by omega⟩).mono ?_; rintro e w5 ⟨rfl, hb5⟩; rw [hN]
            replace c0 := cell_on c0 hb5; replace c1 := cell_on c1 hb5; replace c2 := cell_on c2 hb5; replace c3 := cell_on c3 hb5; replace c4 := cell_on c4 hb5
            have HBS := Lib.hid (bel_trans HB0.out hb5)
            have HXS := Lib.hid (HX0.out.on hb5)
            clear hb5 HB0 HX0
            have hjN : j = N := by omega
            subst hjN
            rw [HP.out]
            clear hpw hpp1
            go_wp2
            go_loopw [8, 9] (fun v i wx => ∃ n : Nat, n ≤ P ∧ i = .int .i64 n ∧ v = .int .i64 (cntA p gs j gn os ts n) ∧ Hid (Below w.heap.size w wx) ∧ Hid (B5 wx w.heap.size (.int .i64 p) (.int .i64 i0) (.int .i64 i1) (.slice ga gn gc) (.slice oa on oc))) (fun _ i _ => P - (intOf i).toNat)
            case atStart => exact ⟨0, by omega, rfl, rfl, HBS, HXS⟩
            case round =>
              clear HBS HXS c0 c1 c2 c3 c4
              obtain ⟨n, hn9, rfl, rfl, HB, HX⟩ := hrel
              obtain ⟨wn, rfl⟩ : ∃ wn : World, wn = wr := ⟨_, rfl⟩
              have hx := HX.out
              obtain ⟨c0, c1, c2, c3, c4⟩ := hx
              have zwn := HX.out.lt
              by_cases hlp : n < P
              · have hlpi : (n : Int) < (P : Int) := by omega
                have HL := Lib.hid (World.ownsRow_nil wn wn.heap.size 3 1)
                have HLX := HX; have HLB := HB; have HLZ : Hid (wn.heap.size ≤ wn.heap.size) := Nat.le_refl _
                go_wp2
                go_loopw [10, 11, 12] (fun v q r wx => ∃ i : Nat, i ≤ j ∧ q = .int .i64 i ∧ r = .int .i64 (dgA p n i).2 ∧ Hid (wx.ownsRow wn.heap.size 3 1 v i (ivs (dgA p n i).1)) ∧ Hid (Below w.heap.size w wx) ∧ Hid (B5 wx w.heap.size (.int .i64 p) (.int .i64 i0) (.int .i64 i1) (.slice ga gn gc) (.slice oa on oc)) ∧ Hid (wn.heap.size ≤ wx.heap.size)) (fun _ q _ _ => j - (intOf q).toNat)
                case atStart => exact ⟨0, by omega, rfl, rfl, HL, HLB, HLX, HLZ⟩
                case round =>
                  clear HL HLB HLX HLZ c0 c1 c2 c3 c4 HB HX
                  obtain ⟨i, hi9, rfl, rfl, HO, HB3, HX3, HZ3⟩ := hrel
                  obtain ⟨w6, rfl⟩ : ∃ w6 : World, w6 = wr := ⟨_, rfl⟩
                  have hx := HX3.out
                  obtain ⟨c0, c1, c2, c3, c4⟩ := hx
                  obtain ⟨a1, k1, rfl, m1⟩ := Mine.of HO.out (by omega) (bd_fit hp2 (dgA_bd hp1 i))
                  clear m1
                  by_cases hij : i < j
                  · have hiji : (i : Int) < (j : Int) := by omega
                    have hr := dgA_rest (n := (n : Int)) hp1 ⟨by omega, by omega⟩ i
                    have HS1 : Hid ((dgA p n (i + 1)).1 = (dgA p n i).1 ++ [(dgA p n i).2 % p]) := rfl
                    have HS2 : Hid ((dgA p n (i + 1)).2 = (dgA p n i).2 / p) := rfl
                    have HLL := Lib.hid (dgA_bd (n := (n : Int)) hp1 i)
                    have hrm := Int.emod_nonneg (dgA p n i).2 (show p ≠ 0 by omega)
                    have hrn := Int.emod_lt_of_pos (dgA p n i).2 (show 0 < p by omega)
                    generalize (dgA p n i).2 = r at *
                    generalize (dgA p n i).1 = l at *
                    have e2 : r.tmod p = r % p := Int.tmod_eq_emod_of_nonneg hr.1
                    have e3 : r.tdiv p = r / p := Int.tdiv_eq_ediv_of_nonneg hr.1
                    have e3b := Int.ediv_nonneg hr.1 (show 0 ≤ p by omega)
                    have e3c := Int.ediv_le_self p hr.1
                    have e4 : IntKind.i64.wrap (r / p) = r / p := IntWalk.i64_in _ (by omega)
                    have hp0 : ¬ p = 0 := by omega
                    go_wp2_with fail
                    refine (s_arInputs p i0 i1 _ _ _ _ _ _ _ ⟨by omega, by omega⟩ ⟨by omega, by omega⟩).mono ?_; rintro e w7 ⟨rfl, hb7⟩; rw [hN]
                    replace c0 := cell_on c0 hb7; replace c1 := cell_on c1 hb7; replace c2 := cell_on c2 hb7; replace c3 := cell_on c3 hb7; replace c4 := cell_on c4 hb7
                    have HO7 := Lib.hid (ownsRow_below HO.out hb7); have HX7 := Lib.hid (HX3.out.on hb7); have HB7 := Lib.hid (bel_trans HB3.out hb7); have HZ7 := Lib.hid (Nat.le_trans HZ3.out hb7.size)
                    clear hb7
                    have z7 := HZ7.out
                    go_wp2_with (at_builtin; (try rw [e2]); go_loud (refine wp_app _ wn.heap.size _ _ _ (r % p) _ _ rfl _ _ rfl rfl rfl (by first | rfl | simp) HO7.out (by omega) (by omega) ?_; intro v9 w9 hv9 hb9 hg9; have c0 := (hb9.cell (p := ⟨w.heap.size, 0, none⟩) zwn).trans c0; have c1 := (hb9.cell (p := ⟨w.heap.size, 1, none⟩) zwn).trans c1; have c2 := (hb9.cell (p := ⟨w.heap.size, 2, none⟩) zwn).trans c2; have c3 := (hb9.cell (p := ⟨w.heap.size, 3, none⟩) zwn).trans c3; have c4 := (hb9.cell (p := ⟨w.heap.size, 4, none⟩) zwn).trans c4))
                    clear hg9
                    go_roundw
                    case rel => exact ⟨i + 1, by omega, by go_num, by rw [HS2.out], by rw [HS1.out]; exact hv9, HB7.out.trans (hb9.mono (by omega)), ⟨c0, c1, c2, c3, c4⟩, Nat.le_trans z7 hb9.size⟩
                    case measure => first | (simp [intOf]; omega) | (obtain ⟨a9, k9, rfl, _⟩ := Mine.of hv9 (by omega) (fun x hx => by rcases List.mem_append.1 hx with y | y; exact (bd_fit hp2 HLL.out) x y; simp at y; subst y; unfold Fits; omega); simp; omega)
                  · obtain rfl : i = j := by omega
                    have hiji : ¬ (i : Int) < (i : Int) := by omega
                    go_wp2_with fail
                    refine (s_arInputs p i0 i1 _ _ _ _ _ _ _ ⟨by omega, by omega⟩ ⟨by omega, by omega⟩).mono ?_; rintro e w7 ⟨rfl, hb7⟩; rw [hN]
                    replace c0 := cell_on c0 hb7; replace c1 := cell_on c1 hb7; replace c2 := cell_on c2 hb7; replace c3 := cell_on c3 hb7; replace c4 := cell_on c4 hb7
                    have HO7 := Lib.hid (ownsRow_below HO.out hb7); have HX7 := Lib.hid (HX3.out.on hb7); have HB7 := Lib.hid (bel_trans HB3.out hb7); have HZ7 := Lib.hid (Nat.le_trans HZ3.out hb7.size)
                    clear hb7
                    have HCE : Hid (cntA p gs i gn os ts (n + 1) = cntA p gs i gn os ts n + (if decide (pkL (avs p gs (dgA p n i).1 gn) os on = ts) then 1 else 0)) := by show _ = _; rw [cntA, hitA, hlo]
                    have hcb := cntA_bd p gs i gn os ts n
                    have HU := Lib.hid (dgA_bd (n := (n : Int)) hp1 i)
                    obtain ⟨a1, k1, hv1, m1⟩ := Mine.of HO7.out (by omega) (bd_fit hp2 HU.out)
                    simp only [Value.slice.injEq] at hv1
                    obtain ⟨rfl, _, rfl⟩ := hv1
                    have M1 := Lib.hid m1.ints; clear m1
                    have HHC := Lib.hid (H0.out.below HB7.out); have HTC := Lib.hid (T0.out.below HB7.out)
                    have e5 : IntKind.i64.wrap (cntA p gs i gn os ts n + 1) = cntA p gs i gn os ts n + 1 := IntWalk.i64_in _ (by omega)
                    clear HO HO7 HX3 HB3 hcb
                    cases hH : decide (pkL (avs p gs (dgA p n i).1 gn) os on = ts) with
                    | false =>
                      rw [hH] at HCE
                      go_wp2
                      go_region_held3 (fun W => W.cell? ⟨w.heap.size, 0, none⟩ = some (.int .i64 p) ∧ W.cell? ⟨w.heap.size, 1, none⟩ = some (.int .i64 i0) ∧ W.cell? ⟨w.heap.size, 2, none⟩ = some (.int .i64 i1) ∧ W.cell? ⟨w.heap.size, 3, none⟩ = some (.slice ga gn gc) ∧ W.cell? ⟨w.heap.size, 4, none⟩ = some (.slice oa on oc)) (exact ⟨c0, c1, c2, c3, c4⟩) (first | (go_at_call 96; refine (s_arValues _ _ _ _ _ _ gs _ _ _ os _ _ _ _ _ (HHC.out.below (bel_drew _)) (M1.out.below (bel_drew _)) HGT HU ⟨hp1, hp2⟩ (by omega)).mono ?_; rintro e wm ⟨rm, km, rfl, mm, hbm⟩; have hbn := bel_trans (bel_drew _) hbm; have c0 := cell_on c0 hbn; have c1 := cell_on c1 hbn; have c2 := cell_on c2 hbn; have c3 := cell_on c3 hbn; have c4 := cell_on c4 hbn) | (go_at_call 101; refine (s_ciPick _ _ _ _ _ _ _ os _ mm.ints (HHC.out.o.below hbn) (by omega) HOU).mono ?_; rintro e wo ⟨ro, ko, rfl, mo, hbo⟩; have hbp := bel_trans hbn hbo; have c0 := cell_on c0 hbo; have c1 := cell_on c1 hbo; have c2 := cell_on c2 hbo; have c3 := cell_on c3 hbo; have c4 := cell_on c4 hbo) | (go_at_call 100; refine (s_l1Same _ _ _ _ _ _ _ ts _ mo.ints (HTC.out.below hbp)).mono ?_; rintro e wq ⟨rfl, hbqq⟩; rw [hH]; have hbq := bel_trans hbp hbqq; have c0 := cell_on c0 hbqq; have c1 := cell_on c1 hbqq; have c2 := cell_on c2 hbqq; have c3 := cell_on c3 hbqq; have c4 := cell_on c4 hbqq))
                      have HX9 : Hid (B5 wq w.heap.size (.int .i64 p) (.int .i64 i0) (.int .i64 i1) (.slice ga gn gc) (.slice oa on oc)) := ⟨c0, c1, c2, c3, c4⟩
                      have HB9 := Lib.hid (bel_trans HB7.out hbq)
                      clear c0 c1 c2 c3 c4 hbq HX7 HB7
                      go_wp2
                      go_roundw
                      case rel => exact ⟨n + 1, by omega, by go_num, by rw [HCE.out]; simp, HB9, HX9⟩
                      case measure => simp [intOf]; omega
                    | true =>
                      rw [hH] at HCE
                      go_wp2
                      go_region_held3 (fun W => W.cell? ⟨w.heap.size, 0, none⟩ = some (.int .i64 p) ∧ W.cell? ⟨w.heap.size, 1, none⟩ = some (.int .i64 i0) ∧ W.cell? ⟨w.heap.size, 2, none⟩ = some (.int .i64 i1) ∧ W.cell? ⟨w.heap.size, 3, none⟩ = some (.slice ga gn gc) ∧ W.cell? ⟨w.heap.size, 4, none⟩ = some (.slice oa on oc)) (exact ⟨c0, c1, c2, c3, c4⟩) (first | (go_at_call 96; refine (s_arValues _ _ _ _ _ _ gs _ _ _ os _ _ _ _ _ (HHC.out.below (bel_drew _)) (M1.out.below (bel_drew _)) HGT HU ⟨hp1, hp2⟩ (by omega)).mono ?_; rintro e wm ⟨rm, km, rfl, mm, hbm⟩; have hbn := bel_trans (bel_drew _) hbm; have c0 := cell_on c0 hbn; have c1 := cell_on c1 hbn; have c2 := cell_on c2 hbn; have c3 := cell_on c3 hbn; have c4 := cell_on c4 hbn) | (go_at_call 101; refine (s_ciPick _ _ _ _ _ _ _ os _ mm.ints (HHC.out.o.below hbn) (by omega) HOU).mono ?_; rintro e wo ⟨ro, ko, rfl, mo, hbo⟩; have hbp := bel_trans hbn hbo; have c0 := cell_on c0 hbo; have c1 := cell_on c1 hbo; have c2 := cell_on c2 hbo; have c3 := cell_on c3 hbo; have c4 := cell_on c4 hbo) | (go_at_call 100; refine (s_l1Same _ _ _ _ _ _ _ ts _ mo.ints (HTC.out.below hbp)).mono ?_; rintro e wq ⟨rfl, hbqq⟩; rw [hH]; have hbq := bel_trans hbp hbqq; have c0 := cell_on c0 hbqq; have c1 := cell_on c1 hbqq; have c2 := cell_on c2 hbqq; have c3 := cell_on c3 hbqq; have c4 := cell_on c4 hbqq))
                      have HX9 : Hid (B5 wq w.heap.size (.int .i64 p) (.int .i64 i0) (.int .i64 i1) (.slice ga gn gc) (.slice oa on oc)) := ⟨c0, c1, c2, c3, c4⟩
                      have HB9 := Lib.hid (bel_trans HB7.out hbq)
                      clear c0 c1 c2 c3 c4 hbq HX7 HB7
                      go_wp2
                      go_roundw
                      case rel => exact ⟨n + 1, by omega, by go_num, by rw [HCE.out]; simp, HB9, HX9⟩
                      case measure => simp [intOf]; omega
              · have hlpi : ¬ (n : Int) < (P : Int) := by omega
                obtain rfl : n = P := by omega
                go_wp2
                go_ret2
                exact ⟨rfl, HB.out⟩
   · have hd : decide (tn = on) = false := decide_eq_false hTN
     have hT1 : ¬ (tn : Int) = (on : Int) := by omega
     rw [hd]
     simp only [Bool.and_false, Bool.false_and, Bool.false_eq_true, if_false]
     go_enter Try.func38, Try.ntmps38
     go_wp2_with fail
     refine (s_arGood _ _ _ _ _ _ gs _ _ _ os _ HH.out).mono ?_; rintro e w1 ⟨rfl, hb1⟩; rw [hAK]
     replace c0 := cell_on c0 hb1; replace c1 := cell_on c1 hb1; replace c2 := cell_on c2 hb1; replace c3 := cell_on c3 hb1; replace c4 := cell_on c4 hb1
     go_wp2
     go_ret2
     exact ⟨rfl, bel_trans A0 hb1⟩
end Go.Proofs.Ytfichpppjpgahaa
namespace Go.Proofs.Ytfichpppjpgahaa
open Go.RowKit
set_option linter.unusedVariables false
set_option linter.unusedSimpArgs false
set_option maxRecDepth 100000

/-- append of a slice: the result is a slice of the call's own. -/
theorem wp_appsI {ops : Array Oper} {rest : List Oper} {o : Oper} {a : Act} {Q : Exit → Act → World → Prop} (w : World) (B n : Nat) (v : Value) (xs ys zs : List Int) (ad : Option Addr) (m cap N : Nat)
    (hg : o.guard = none) (s x : Operand) (ho : o.op = .call { callee := .builtin .append, args := #[s, x], argTypes := #[24, 24] })
    (hs : a.eval s = v) (hx : a.eval x = .slice ad m cap) (hy : Ints w ad m cap ys)
    (hown : w.ownsRow B 3 1 v n (ivs xs)) (hB : B ≤ w.heap.size) (hN : n + m = N) (hz : xs ++ ys = zs) (hn : N ≤ 1000000) (hf : ∀ x ∈ zs, Fits x)
    (h : ∀ r c w', OwnI 3 w' B r N c zs → Below B w w' → wpList Try.prog ops Q rest (a.put o.dst (.slice r N c)) w') :
    wpList Try.prog ops Q (o :: rest) a w := by
  subst hN hz
  refine wp_apps w B n v xs ys ad m cap hg s x ho hs hx hy hown hB (by omega) fun v' w' h1 h2 _ => ?_
  obtain ⟨r, c, rfl, hO⟩ := OwnI.of h1 (by omega) hf
  exact h r c w' hO h2
theorem B5.below {w w' : World} {b : Nat} {x0 x1 x2 x3 x4 : Value} (h : B5 w b x0 x1 x2 x3 x4) (hb : Below w.heap.size w w') : B5 w' b x0 x1 x2 x3 x4 := h.on hb
theorem l_qIntsQ (a a' : Option Addr) (n cap cap' : Nat) (xs : List Int) (w : World) (h : Ints w a n cap xs) (h' : Ints w a' n cap' xs) :
    Calls Try.prog 31 #[.slice a n cap, .slice a' n cap'] w fun e w' => e = .returned (.bool true) ∧ ∃ m, w' = w.drewN m := by
  have hs := h.small
  go_enter Try.func31, Try.ntmps31
  go_wp2
  go_loopw [13] (fun i wr => ∃ k d : Nat, k ≤ n ∧ i = .int .i64 k ∧ Hid (wr = w.drewN d)) (fun i _ => n - (intOf i).toNat)
  case atStart => exact ⟨0, 0, by omega, rfl, rfl⟩
  case round =>
    obtain ⟨k, d, hk, rfl, HW⟩ := hrel
    have BW := Lib.hid (show Below w.heap.size w wr by rw [HW.out]; exact bel_drewN _ _)
    by_cases hlt : k < n
    · obtain ⟨b, off, rfl, hbl, hc⟩ := (h.below BW.out).at hlt
      obtain ⟨b', off', rfl, hbl', hc'⟩ := (h'.below BW.out).at hlt
      have hlti : (k : Int) < (n : Int) := by omega
      go_wp2
      go_quiet (fail)
      go_wp2
      go_roundw
      case rel => exact ⟨k + 1, _, by omega, by go_num, (show Hid _ from by show _ = _; rw [HW.out]; exact World.drewN_drewN _ _ _)⟩
      case measure => simp [intOf]; omega
    · obtain rfl : k = n := by omega
      go_wp2
      go_ret
      exact ⟨rfl, d, HW.out⟩
set_option maxHeartbeats 8000000 in
theorem law_FnLinear (a0 : Option Addr) (n0 c0 : Nat) (z0 : List Int) (a1 : Option Addr) (n1 c1 : Nat) (z1 : List Int) (w : World) (h0 : BytesIn w a0 n0 c0 z0) (h1 : BytesIn w a1 n1 c1 z1) :
    Calls Try.prog 5 #[.slice a0 n0 c0, .slice a1 n1 c1] w fun e w' => e = .returned (.bool true) ∧ Below w.heap.size w w' := by
  have hn0 := h0.small; have hn1 := h1.small
  have hB : Byts w a1 n1 c1 := h1
  have hA : Byts w a0 n0 c0 := h0
  clear h0 h1
  obtain ⟨G, hG⟩ : ∃ G, IntKind.i64.wrap ((n0 : Int) + (n1 : Int)) = G := ⟨_, rfl⟩
  by_cases hg : 1048576 < G
  · go_enter Try.func5, Try.ntmps5
    go_wp2
    go_ret
    exact ⟨rfl, Below.refl _ _⟩
  go_enter Try.func5, Try.ntmps5
  go_wp2_with fail
  refine (s_DrawLinearForm _ _ _ _ hA).mono ?_; rintro e w1 ⟨p, x0, x1, ga, gn, gc, gs, oa, on, oc, os, k, rfl, M, hp, hx0, hx1, hk, hbw1⟩
  replace hB := hB.below hbw1
  replace hA := hA.below hbw1
  have Bw1 := bel_trans (Below.refl w.heap.size w) hbw1
  clear hbw1
  clear hA
  obtain ⟨hp0, hp1⟩ := hp; obtain ⟨hx0, hx0'⟩ := hx0; obtain ⟨hx1, hx1'⟩ := hx1; obtain ⟨hk0, hk1⟩ := hk
  have hol := Lib.hid M.o.len.out
  have AX := bel_alloc w1 (.cells #[.int .i64 p, .int .i64 x0, .int .i64 x1, .slice ga gn gc, .slice oa on oc] 48)
  replace hB := hB.below AX
  replace M := M.below AX
  have C := B5.new (w := w1) (x0 := .int .i64 p) (x1 := .int .i64 x0) (x2 := .int .i64 x1) (x3 := .slice ga gn gc) (x4 := .slice oa on oc) (t := 48)
  have BC := bel_trans Bw1 AX; clear AX
  obtain ⟨c0, c1, c2, c3, c4⟩ := id C
  obtain ⟨F, hF⟩ : ∃ zz_, zz_ = lfAll p x0 x1 gs gn os k := ⟨_, rfl⟩; have HF := Lib.hid hF; clear hF
  go_wp2_with fail
  refine (i_LinearForm p x0 x1 ga gn gc gs oa on oc os k _ M).mono ?_; rintro e w2 ⟨r1, k1, rfl, L1, hbw2⟩
  replace hB := hB.below hbw2
  replace M := M.below hbw2
  replace C := C.below hbw2
  have Bw2 := bel_trans BC hbw2
  clear hbw2
  rw [← HF.out] at L1 ⊢
  clear c0 c1 c2 c3 c4
  obtain ⟨c0, c1, c2, c3, c4⟩ := id C
  go_wp2_with fail
  refine (s_LinearForm p x0 x1 ga gn gc gs oa on oc os k _ M).mono ?_; rintro e w3 ⟨r2, k2, rfl, L2, hbw3⟩
  replace hB := hB.below hbw3
  replace M := M.below hbw3
  replace C := C.below hbw3
  replace L1 := L1.below hbw3
  have Bw3 := bel_trans Bw2 hbw3
  clear hbw3
  rw [← HF.out] at L2 ⊢
  clear c0 c1 c2 c3 c4
  obtain ⟨c0, c1, c2, c3, c4⟩ := id C
  go_wp2_with fail
  refine (s_DrawCountInputs _ _ _ _ hB).mono ?_; rintro e w4 ⟨q, y0, y1, ha, hn, hc, hs, ja, jn, jc, js, ta, tn, tc, ts, rfl, N, T, hbw4⟩
  replace hB := hB.below hbw4
  replace M := M.below hbw4
  replace C := C.below hbw4
  replace L1 := L1.below hbw4
  replace L2 := L2.below hbw4
  have Bw4 := bel_trans Bw3 hbw4
  clear hbw4
  clear c0 c1 c2 c3 c4
  clear hB
  have AX := bel_alloc w4 (.cells #[.int .i64 q, .int .i64 y0, .int .i64 y1, .slice ha hn hc, .slice ja jn jc] 48)
  replace M := M.below AX
  replace C := C.below AX
  replace L1 := L1.below AX
  replace L2 := L2.below AX
  replace N := N.below AX
  replace T := T.below AX
  have X := B5.new (w := w4) (x0 := .int .i64 q) (x1 := .int .i64 y0) (x2 := .int .i64 y1) (x3 := .slice ha hn hc) (x4 := .slice ja jn jc) (t := 48)
  have BX := bel_trans Bw4 AX; clear AX
  obtain ⟨c0, c1, c2, c3, c4⟩ := id X
  obtain ⟨E, hE⟩ : ∃ zz_, zz_ = ciAll q y0 y1 hs hn js ts := ⟨_, rfl⟩; have HE := Lib.hid hE; clear hE
  go_wp2_with fail
  refine (i_CountInputs q y0 y1 ha hn hc hs ja jn jc js ta tn tc ts _ N T).mono ?_; rintro e w5 ⟨rfl, hbw5⟩
  replace M := M.below hbw5
  replace C := C.below hbw5
  replace L1 := L1.below hbw5
  replace L2 := L2.below hbw5
  replace N := N.below hbw5
  replace T := T.below hbw5
  replace X := X.below hbw5
  have Bw5 := bel_trans BX hbw5
  clear hbw5
  rw [← HE.out]
  clear c0 c1 c2 c3 c4
  obtain ⟨c0, c1, c2, c3, c4⟩ := id X
  go_wp2_with fail
  refine (s_CountInputs q y0 y1 ha hn hc hs ja jn jc js ta tn tc ts _ N T).mono ?_; rintro e w6 ⟨rfl, hbw6⟩
  replace M := M.below hbw6
  replace C := C.below hbw6
  replace L1 := L1.below hbw6
  replace L2 := L2.below hbw6
  replace N := N.below hbw6
  replace T := T.below hbw6
  replace X := X.below hbw6
  have Bw6 := bel_trans Bw5 hbw6
  clear hbw6
  rw [← HE.out]
  clear c0 c1 c2 c3 c4
  clear N T X
  obtain ⟨c0, c1, c2, c3, c4⟩ := id C
  obtain ⟨G9, hG9⟩ : ∃ zz_, zz_ = dgAll p x0 x1 gs gn os := ⟨_, rfl⟩; have HG := Lib.hid hG9; clear hG9
  go_wp2_with fail
  refine (i_DegreesOf p x0 x1 ga gn gc gs oa on oc os _ M).mono ?_; rintro e w7 ⟨r3, k3, rfl, L3, hbw7⟩
  replace M := M.below hbw7
  replace C := C.below hbw7
  replace L1 := L1.below hbw7
  replace L2 := L2.below hbw7
  have Bw7 := bel_trans Bw6 hbw7
  clear hbw7
  rw [← HG.out] at L3 ⊢
  clear c0 c1 c2 c3 c4
  obtain ⟨c0, c1, c2, c3, c4⟩ := id C
  go_wp2_with fail
  refine (s_DegreesOf p x0 x1 ga gn gc gs oa on oc os _ M).mono ?_; rintro e w8 ⟨r4, k4, rfl, L4, hbw8⟩
  replace M := M.below hbw8
  replace C := C.below hbw8
  replace L1 := L1.below hbw8
  replace L2 := L2.below hbw8
  replace L3 := L3.below hbw8
  have Bw8 := bel_trans Bw7 hbw8
  clear hbw8
  rw [← HG.out] at L4 ⊢
  clear c0 c1 c2 c3 c4
  obtain ⟨c0, c1, c2, c3, c4⟩ := id C
  obtain ⟨P9, hP9⟩ : ∃ zz_, zz_ = pdAll p x0 x1 gs gn os := ⟨_, rfl⟩; have HP := Lib.hid hP9; clear hP9
  go_wp2_with fail
  refine (i_ProductDepth p x0 x1 ga gn gc gs oa on oc os _ M).mono ?_; rintro e w9 ⟨rfl, hbw9⟩
  replace M := M.below hbw9
  replace C := C.below hbw9
  replace L1 := L1.below hbw9
  replace L2 := L2.below hbw9
  replace L3 := L3.below hbw9
  replace L4 := L4.below hbw9
  have Bw9 := bel_trans Bw8 hbw9
  clear hbw9
  rw [← HP.out]
  clear c0 c1 c2 c3 c4
  obtain ⟨c0, c1, c2, c3, c4⟩ := id C
  go_wp2_with fail
  refine (s_ProductDepth p x0 x1 ga gn gc gs oa on oc os _ M).mono ?_; rintro e w10 ⟨rfl, hbw10⟩
  replace M := M.below hbw10
  replace C := C.below hbw10
  replace L1 := L1.below hbw10
  replace L2 := L2.below hbw10
  replace L3 := L3.below hbw10
  replace L4 := L4.below hbw10
  have Bw10 := bel_trans Bw9 hbw10
  clear hbw10
  rw [← HP.out]
  clear c0 c1 c2 c3 c4
  obtain ⟨c0, c1, c2, c3, c4⟩ := id C
  clear c0 c1 c2 c3 c4
  go_wp2_with fail
  refine (l_qInts _ _ _ _ _ _ _ L1.ints L2.ints).mono ?_; rintro e w11 ⟨rfl, hbw11⟩
  replace M := M.below hbw11
  replace C := C.below hbw11
  replace L1 := L1.below hbw11
  replace L2 := L2.below hbw11
  replace L3 := L3.below hbw11
  replace L4 := L4.below hbw11
  have Bw11 := bel_trans Bw10 hbw11
  clear hbw11
  go_wp2_with fail
  refine (l_qInts _ _ _ _ _ _ _ L3.ints L4.ints).mono ?_; rintro e w12 ⟨rfl, hbw12⟩
  replace M := M.below hbw12
  replace C := C.below hbw12
  replace L1 := L1.below hbw12
  replace L2 := L2.below hbw12
  replace L3 := L3.below hbw12
  replace L4 := L4.below hbw12
  have Bw12 := bel_trans Bw11 hbw12
  clear hbw12
  clear L1 L3
  cases hF2 : F.2 with
  | false =>
    cases hG2 : G9.2 with
    | false =>
      clear M L2 L4 C
      go_wp2
      go_ret
      exact ⟨by first | rfl | simp, Bw12⟩
    | true =>
      clear M L2 L4 C
      go_wp2
      go_ret
      exact ⟨by first | rfl | simp, Bw12⟩
  | true =>
    obtain ⟨kk, rfl⟩ : ∃ kk : Nat, k = kk := by
      have hz : (lfAll p x0 x1 gs gn os k).2 = true := by rw [← HF.out]; exact hF2
      unfold lfAll at hz
      split at hz
      · rename_i e; unfold lfOk at e; rw [Bool.and_eq_true, Bool.and_eq_true, inB_iff] at e; exact ⟨k.toNat, by omega⟩
      · cases hz
    have hOK : lfOk p x0 x1 gs gn os (kk : Int) = true := by
      have hz : (lfAll p x0 x1 gs gn os (kk : Int)).2 = true := by rw [← HF.out]; exact hF2
      unfold lfAll at hz
      split at hz
      · assumption
      · cases hz
    have hOK2 := hOK
    unfold lfOk at hOK2
    rw [Bool.and_eq_true, Bool.and_eq_true, inB_iff] at hOK2
    obtain ⟨hAC, ⟨hkk0, hkk1⟩, _⟩ := hOK2
    have hAS := (arS_iff.1 (arC_iff.1 hAC).1)
    obtain ⟨hpr, ⟨ha0, ha1⟩, ⟨hb0, hb1⟩, hgn, hon⟩ := hAS
    obtain ⟨hp2, hp3⟩ := prB_lo hpr
    rw [hol.out] at hkk1 hon
    obtain ⟨an, rfl⟩ : ∃ an : Nat, x0 = an := ⟨x0.toNat, by omega⟩
    obtain ⟨bn, rfl⟩ : ∃ bn : Nat, x1 = bn := ⟨x1.toNat, by omega⟩
    have hN : ((an : Int) + (bn : Int)).toNat = an + bn := by omega
    have hFl : F.1.length = an + bn + 1 := by rw [HF.out]; unfold lfAll; rw [if_pos hOK]; show (lfT _ _ _ _ _ _).length = _; rw [lfT_len, hN]
    rw [hFl] at L2 ⊢
    have hFb : ∀ x ∈ F.1, 0 ≤ x ∧ x < p := by rw [HF.out]; unfold lfAll; rw [if_pos hOK]; exact lfT_bd (by omega) _ _ _ _ _
    have hEnd := fun vs hv hl => ln_end (vs := vs) hOK hv hl
    rw [← HF.out, hN] at hEnd
    have HDG := Lib.hid (fun (hd : G9.2 = true) => (by rw [HG.out] at hd ⊢; exact ln_deg hOK hd : nth G9.1 kk ≤ 1 ∧ G9.1.length = os.length))
    have HEnd := Lib.hid hEnd; have HFb := Lib.hid hFb; have HAC := Lib.hid hAC; have HPR := Lib.hid hpr; have HFl := Lib.hid hFl; have HOK := Lib.hid hOK; have HNN := Lib.hid hN
    clear hEnd hFb hAC hpr hFl hOK hN
    have hkko : kk < on := by omega
    cases hG2 : G9.2 with
    | false =>
      clear L4
      have HM := Lib.hid M; have HL := Lib.hid L2; have HC := Lib.hid C; have HB0 := Lib.hid Bw12; clear M L2 C
      have hr0 : ¬ p = 0 := by omega
      go_wp2
      go_loopw [25, 27] (fun v i V => ∃ j : Nat, j ≤ an ∧ i = .int .i64 j ∧ Hid (V.ownsRow w12.heap.size 3 1 v j (ivs (lnA p j))) ∧ Hid (Below w12.heap.size w12 V)) (fun _ i _ => an - (intOf i).toNat)
      case atStart => exact ⟨0, by omega, rfl, World.ownsRow_nil _ _ _ _, Below.refl _ _⟩
      case round =>
        obtain ⟨j, hj, rfl, HV, HB1⟩ := hrel
        obtain ⟨c0, c1, c2, c3, c4⟩ := HC.out.below HB1.out
        by_cases hlt : j < an
        · have hlti : (j : Int) < (an : Int) := by omega
          have ew : IntKind.i64.wrap ((j : Int) + 2) = (j : Int) + 2 := IntWalk.i64_in _ (by omega)
          have et : ((j : Int) + 2).tmod p = ((j : Int) + 2) % p := Int.tmod_eq_emod_of_nonneg (by omega)
          have hsz := HB1.out.size
          go_wp2_with (at_builtin; refine wp_app _ w12.heap.size _ _ _ (_) _ _ rfl _ _ rfl rfl rfl (by first | rfl | simp) HV.out (by first | omega | (simp; omega)) (by omega) ?_; intro v9 w9 hv9 hb9 hg9)
          clear hg9
          go_roundw
          case rel => exact ⟨j + 1, by omega, by go_num, (show Hid _ from by rw [lnA_succ]; exact hv9), (show Hid _ from HB1.out.trans (hb9.mono (by omega)))⟩
          case measure => simp [intOf]; omega
        · obtain rfl : an = j := by omega
          have hnl : ¬ ((an : Int) < (an : Int)) := by omega
          clear hlt hj
          obtain ⟨aa, ac, rfl, hO⟩ := OwnI.of HV.out (by omega) (fun x hx => by have := lnA_bd (by omega) an x hx; unfold Fits; omega)
          have HU := Lib.hid hO.ints; clear hO HV
          obtain ⟨wo, hwo⟩ : ∃ wo : World, wo = wr := ⟨_, rfl⟩
          subst hwo
          go_wp2
          go_loopw [26, 28] (fun v i V => ∃ j : Nat, j ≤ bn ∧ i = .int .i64 j ∧ Hid (V.ownsRow wo.heap.size 3 1 v j (ivs (lnB p j))) ∧ Hid (Below wo.heap.size wo V)) (fun _ i _ => bn - (intOf i).toNat)
          case atStart => exact ⟨0, by omega, rfl, World.ownsRow_nil _ _ _ _, Below.refl _ _⟩
          case round =>
            clear c0 c1 c2 c3 c4
            obtain ⟨j, hj, rfl, HV, HB2⟩ := hrel
            obtain ⟨c0, c1, c2, c3, c4⟩ := (HC.out.below HB1.out).below HB2.out
            by_cases hlt : j < bn
            · have hlti : (j : Int) < (bn : Int) := by omega
              have em : IntKind.i64.wrap (3 * (j : Int)) = 3 * (j : Int) := IntWalk.i64_in _ (by omega)
              have ew : IntKind.i64.wrap (3 * (j : Int) + 1) = 3 * (j : Int) + 1 := IntWalk.i64_in _ (by omega)
              have et : (3 * (j : Int) + 1).tmod p = (3 * (j : Int) + 1) % p := Int.tmod_eq_emod_of_nonneg (by omega)
              have hsz := HB2.out.size
              go_wp2_with (at_builtin; refine wp_app _ wo.heap.size _ _ _ (_) _ _ rfl _ _ rfl rfl rfl (by first | rfl | simp) HV.out (by first | omega | (simp; omega)) (by omega) ?_; intro v9 w9 hv9 hb9 hg9)
              clear hg9
              go_roundw
              case rel => exact ⟨j + 1, by omega, by go_num, (show Hid _ from by rw [lnB_succ]; exact hv9), (show Hid _ from HB2.out.trans (hb9.mono (by omega)))⟩
              case measure => simp [intOf]; omega
            · obtain rfl : bn = j := by omega
              have hnl2 : ¬ ((bn : Int) < (bn : Int)) := by omega
              clear hlt hj
              obtain ⟨ba, bc, rfl, hO⟩ := OwnI.of HV.out (by omega) (fun x hx => by have := lnB_bd (by omega) bn x hx; unfold Fits; omega)
              have HVV := Lib.hid hO.ints; replace HU := Lib.hid (HU.out.below HB2.out); clear hO HV
              have HB3 := Lib.hid (bel_trans HB1.out HB2.out); clear HB1 HB2
              obtain ⟨wp, hwp⟩ : ∃ wp : World, wp = wr := ⟨_, rfl⟩
              subst hwp
              obtain ⟨b, off, rfl, hbl, hc⟩ := (HL.out.below HB3.out).ints.at (i := 0) (by omega)
              rw [Nat.add_zero] at hc
              have HLI := Lib.hid (HL.out.below HB3.out).ints; clear HL
              have A4 := bel_alloc wp (.cells #[] 3)
              have hlit : (wp.alloc (.cells #[] 3)).ownsRow wp.heap.size 3 1 (.slice (some ⟨wp.heap.size, 0, none⟩) 0 0) 0 (ivs []) := World.ownsRow_lit wp #[] 0 (Nat.le_refl _) (by decide) rfl
              have hfa : ∀ x ∈ lnA p an, Fits x := fun x hx => by have := lnA_bd (by omega) an x hx; unfold Fits; omega
              have hfb : ∀ x ∈ lnA p an ++ lnB p bn, Fits x := fun x hx => by rcases List.mem_append.1 hx with h | h; (have := lnA_bd (by omega) an x h; unfold Fits; omega); (have := lnB_bd (by omega) bn x h; unfold Fits; omega)
              have Hfa := Lib.hid hfa; have Hfb := Lib.hid hfb; clear hfa hfb
              have HU4 := Lib.hid (HU.out.below A4)
              go_wp2_with (at_builtin; refine wp_appsI _ wp.heap.size 0 _ [] (lnA p an) (lnA p an) _ an _ an rfl _ _ rfl rfl rfl HU4.out hlit (by simp) (by omega) (List.nil_append _) (by omega) Hfa.out ?_; intro r5 k5 w5 hO5 hb5; have A5 := A4.trans hb5; have HO5 := Lib.hid hO5; have HV5 := Lib.hid (HVV.out.below A5); have hsz5 := A5.size; clear hO5 hlit; go_wp2_with (at_builtin; refine wp_appsI _ wp.heap.size an _ (lnA p an) (lnB p bn) (lnA p an ++ lnB p bn) _ bn _ (an + bn) rfl _ _ rfl rfl rfl HV5.out HO5.out.own hsz5 rfl rfl (by omega) Hfb.out ?_; intro r6 k6 w6 hO6 hb6))
              have A6 := A5.trans hb6
              have HL6 := Lib.hid (HLI.out.below A6); have HU6 := Lib.hid (HU.out.below A6); have HV6 := Lib.hid (HVV.out.below A6); have HS6 := Lib.hid hO6.ints; have HB6 := Lib.hid (bel_trans HB3.out A6)
              clear A4 A5 A6 hb5 hb6 hO6 HV5 HO5 HU4 HU HVV HLI HB3
              have hvb : ∀ x ∈ lnA p an ++ lnB p bn, 0 ≤ x ∧ x < p := fun x hx => by rcases List.mem_append.1 hx with h | h; exact lnA_bd (by omega) an x h; exact lnB_bd (by omega) bn x h
              have hvl : (lnA p an ++ lnB p bn).length = an + bn := by rw [List.length_append, lnA_len, lnB_len]
              have HVB := Lib.hid hvb; have HVL := Lib.hid hvl; clear hvb hvl
              obtain ⟨vs, hvs⟩ : ∃ vs, vs = lnA p an ++ lnB p bn := ⟨_, rfl⟩
              rw [← hvs] at HVB HVL HS6; have HVS := Lib.hid hvs; clear hvs
              have hF0 := nth_bd (by omega) HFb.out 0
              obtain ⟨hF01, hF02⟩ := hF0
              go_loop [29, 187] (fun s i => ∃ (j : Nat) (D : Int), j ≤ an + bn ∧ i = .int .i64 j ∧ s = .int .i64 D ∧ 0 ≤ D ∧ D ≤ 2000000 ∧ Hid (D = lnS F.1 vs j)) (fun _ i => an + bn - (intOf i).toNat)
              case atStart => exact ⟨0, _, by omega, rfl, rfl, by omega, by omega, rfl⟩
              case round =>
                obtain ⟨j, D, hj, rfl, rfl, hD1, hD2, HD⟩ := hrel
                by_cases hlt : j < an + bn
                · have hlti : (j : Int) < (an : Int) + (bn : Int) := by omega
                  have hlti2 : (j : Int) < ((an + bn : Nat) : Int) := by omega
                  obtain ⟨b3, off3, rfl, hbl3, hc3⟩ := HS6.out.at hlt
                  obtain ⟨b4, off4, e4, hbl4, hc4⟩ := HL6.out.at (i := j + 1) (by omega)
                  simp only [Option.some.injEq, Addr.mk.injEq, and_true] at e4; obtain ⟨rfl, rfl⟩ := e4
                  have ej : IntKind.i64.wrap ((j : Int) + 1) = ((j + 1 : Nat) : Int) := by rw [IntWalk.i64_in _ (by omega)]; omega
                  have hlti3 : ((j + 1 : Nat) : Int) < ((an + bn + 1 : Nat) : Int) := by omega
                  have x1 := nth_bd (by omega) HFb.out (j + 1); have x2 := nth_bd (by omega) HVB.out j
                  obtain ⟨x11, x12⟩ := x1; obtain ⟨x21, x22⟩ := x2
                  obtain ⟨m1, m2⟩ := mul_bd (a := nth F.1 (j + 1)) (b := nth vs j) 250 250 (by omega) (by omega) (by omega) (by omega)
                  have db := lnS_bd ⟨hp2, hp3⟩ HFb.out HVB.out (j + 1)
                  have HD2 : Hid (D + nth F.1 (j + 1) * nth vs j = lnS F.1 vs (j + 1)) := by show _ = _; rw [lnS, HD.out]
                  rw [← HD2.out] at db
                  obtain ⟨db1, db2⟩ := db; have db3 : D + nth F.1 (j + 1) * nth vs j ≤ 2000000 := by omega
                  clear db2
                  go_wp2
                  go_round
                  case rel => exact ⟨j + 1, _, by omega, by go_num, rfl, by omega, by omega, HD2.out⟩
                  case measure => first | (simp [intOf]; done) | (simp [intOf]; omega)
                · obtain rfl : j = an + bn := by omega
                  clear hlt hj
                  have hnl3 : ¬ (((an + bn : Nat) : Int) < ((an + bn : Nat) : Int)) := by omega
                  have hels1 : elsB p (lnA p an) = true := els_of HPR.out (lnA_bd (by omega) an)
                  have hels2 : elsB p (lnB p bn) = true := els_of HPR.out (lnB_bd (by omega) bn)
                  have hM6 := HM.out.below HB6.out; have hC6 := HC.out.below HB6.out
                  obtain ⟨g0, g1, g2, g3, g4⟩ := id hC6
                  go_wp2_with fail
                  refine (i_EvalArithG p ga gn gc gs oa on oc os _ an _ (lnA p an) _ bn _ (lnB p bn) _ hM6 HU6.out HV6.out HAC.out hels1 hels2).mono ?_; rintro e w7 ⟨r7, k7, rfl, L7, hb7⟩
                  replace hC6 := hC6.below hb7; replace hM6 := hM6.below hb7; clear g0 g1 g2 g3 g4; obtain ⟨g0, g1, g2, g3, g4⟩ := id hC6
                  go_wp2_with fail
                  refine (s_EvalArithG p ga gn gc gs oa on oc os _ an _ (lnA p an) _ bn _ (lnB p bn) _ hM6 (HU6.out.below hb7) (HV6.out.below hb7) HAC.out hels1 hels2).mono ?_; rintro e w8 ⟨r8, k8, rfl, L8, hb8⟩
                  replace hC6 := hC6.below hb8; clear g0 g1 g2 g3 g4; obtain ⟨g0, g1, g2, g3, g4⟩ := id hC6
                  have HB9 := Lib.hid (bel_trans (bel_trans (bel_trans HB0.out HB6.out) hb7) hb8)
                  replace L7 := L7.below hb8
                  have hLK := HEnd.out vs HVB.out HVL.out
                  rw [hol.out, HVS.out] at hLK
                  skip
                  obtain ⟨K, hK⟩ : ∃ K, K = pkL (avs p gs (lnA p an ++ lnB p bn) gn) os on := ⟨_, rfl⟩
                  rw [← hK] at L7 L8 hLK; clear hK
                  have et : D.tmod p = nth K kk := by rw [Int.tmod_eq_emod_of_nonneg hD1, HD.out, hLK, HVS.out]
                  have L7I := Lib.hid L7.ints; have L8I := Lib.hid L8.ints; clear hLK
                  obtain ⟨b8, off8, rfl, hbl8, hc8⟩ := L8I.out.at hkko
                  have hkki : (kk : Int) < (on : Int) := by omega
                  clear L7 L8 hb7 hb8 hM6 hC6
                  go_wp2
                  go_quiet ((first | (go_at_call 31; exact Calls.quiet_of (l_qIntsQ _ _ _ _ _ _ _ (L7I.out.below (bel_drewN _ _)) (L8I.out.below (bel_drewN _ _))))))
                  go_wp2
                  go_ret
                  exact ⟨by first | rfl | simp, bel_trans HB9.out (bel_drewN _ _)⟩
    | true =>
      obtain ⟨hdg1, hdg2⟩ := HDG.out hG2
      rw [hol.out] at hdg2
      rw [hdg2] at L4 ⊢
      obtain ⟨b0, off0, rfl, hbl0, hc0⟩ := L4.ints.at hkko
      have hkki0 : (kk : Int) < (on : Int) := by omega
      have hng : ¬ (1 < nth G9.1 kk) := by omega
      clear L4
      have HM := Lib.hid M; have HL := Lib.hid L2; have HC := Lib.hid C; have HB0 := Lib.hid Bw12; clear M L2 C
      have hr0 : ¬ p = 0 := by omega
      go_wp2
      go_loopw [25, 27] (fun v i V => ∃ j : Nat, j ≤ an ∧ i = .int .i64 j ∧ Hid (V.ownsRow w12.heap.size 3 1 v j (ivs (lnA p j))) ∧ Hid (Below w12.heap.size w12 V)) (fun _ i _ => an - (intOf i).toNat)
      case atStart => exact ⟨0, by omega, rfl, World.ownsRow_nil _ _ _ _, Below.refl _ _⟩
      case round =>
        obtain ⟨j, hj, rfl, HV, HB1⟩ := hrel
        obtain ⟨c0, c1, c2, c3, c4⟩ := HC.out.below HB1.out
        by_cases hlt : j < an
        · have hlti : (j : Int) < (an : Int) := by omega
          have ew : IntKind.i64.wrap ((j : Int) + 2) = (j : Int) + 2 := IntWalk.i64_in _ (by omega)
          have et : ((j : Int) + 2).tmod p = ((j : Int) + 2) % p := Int.tmod_eq_emod_of_nonneg (by omega)
          have hsz := HB1.out.size
          go_wp2_with (at_builtin; refine wp_app _ w12.heap.size _ _ _ (_) _ _ rfl _ _ rfl rfl rfl (by first | rfl | simp) HV.out (by first | omega | (simp; omega)) (by omega) ?_; intro v9 w9 hv9 hb9 hg9)
          clear hg9
          go_roundw
          case rel => exact ⟨j + 1, by omega, by go_num, (show Hid _ from by rw [lnA_succ]; exact hv9), (show Hid _ from HB1.out.trans (hb9.mono (by omega)))⟩
          case measure => simp [intOf]; omega
        · obtain rfl : an = j := by omega
          have hnl : ¬ ((an : Int) < (an : Int)) := by omega
          clear hlt hj
          obtain ⟨aa, ac, rfl, hO⟩ := OwnI.of HV.out (by omega) (fun x hx => by have := lnA_bd (by omega) an x hx; unfold Fits; omega)
          have HU := Lib.hid hO.ints; clear hO HV
          obtain ⟨wo, hwo⟩ : ∃ wo : World, wo = wr := ⟨_, rfl⟩
          subst hwo
          go_wp2
          go_loopw [26, 28] (fun v i V => ∃ j : Nat, j ≤ bn ∧ i = .int .i64 j ∧ Hid (V.ownsRow wo.heap.size 3 1 v j (ivs (lnB p j))) ∧ Hid (Below wo.heap.size wo V)) (fun _ i _ => bn - (intOf i).toNat)
          case atStart => exact ⟨0, by omega, rfl, World.ownsRow_nil _ _ _ _, Below.refl _ _⟩
          case round =>
            clear c0 c1 c2 c3 c4
            obtain ⟨j, hj, rfl, HV, HB2⟩ := hrel
            obtain ⟨c0, c1, c2, c3, c4⟩ := (HC.out.below HB1.out).below HB2.out
            by_cases hlt : j < bn
            · have hlti : (j : Int) < (bn : Int) := by omega
              have em : IntKind.i64.wrap (3 * (j : Int)) = 3 * (j : Int) := IntWalk.i64_in _ (by omega)
              have ew : IntKind.i64.wrap (3 * (j : Int) + 1) = 3 * (j : Int) + 1 := IntWalk.i64_in _ (by omega)
              have et : (3 * (j : Int) + 1).tmod p = (3 * (j : Int) + 1) % p := Int.tmod_eq_emod_of_nonneg (by omega)
              have hsz := HB2.out.size
              go_wp2_with (at_builtin; refine wp_app _ wo.heap.size _ _ _ (_) _ _ rfl _ _ rfl rfl rfl (by first | rfl | simp) HV.out (by first | omega | (simp; omega)) (by omega) ?_; intro v9 w9 hv9 hb9 hg9)
              clear hg9
              go_roundw
              case rel => exact ⟨j + 1, by omega, by go_num, (show Hid _ from by rw [lnB_succ]; exact hv9), (show Hid _ from HB2.out.trans (hb9.mono (by omega)))⟩
              case measure => simp [intOf]; omega
            · obtain rfl : bn = j := by omega
              have hnl2 : ¬ ((bn : Int) < (bn : Int)) := by omega
              clear hlt hj
              obtain ⟨ba, bc, rfl, hO⟩ := OwnI.of HV.out (by omega) (fun x hx => by have := lnB_bd (by omega) bn x hx; unfold Fits; omega)
              have HVV := Lib.hid hO.ints; replace HU := Lib.hid (HU.out.below HB2.out); clear hO HV
              have HB3 := Lib.hid (bel_trans HB1.out HB2.out); clear HB1 HB2
              obtain ⟨wp, hwp⟩ : ∃ wp : World, wp = wr := ⟨_, rfl⟩
              subst hwp
              obtain ⟨b, off, rfl, hbl, hc⟩ := (HL.out.below HB3.out).ints.at (i := 0) (by omega)
              rw [Nat.add_zero] at hc
              have HLI := Lib.hid (HL.out.below HB3.out).ints; clear HL
              have A4 := bel_alloc wp (.cells #[] 3)
              have hlit : (wp.alloc (.cells #[] 3)).ownsRow wp.heap.size 3 1 (.slice (some ⟨wp.heap.size, 0, none⟩) 0 0) 0 (ivs []) := World.ownsRow_lit wp #[] 0 (Nat.le_refl _) (by decide) rfl
              have hfa : ∀ x ∈ lnA p an, Fits x := fun x hx => by have := lnA_bd (by omega) an x hx; unfold Fits; omega
              have hfb : ∀ x ∈ lnA p an ++ lnB p bn, Fits x := fun x hx => by rcases List.mem_append.1 hx with h | h; (have := lnA_bd (by omega) an x h; unfold Fits; omega); (have := lnB_bd (by omega) bn x h; unfold Fits; omega)
              have Hfa := Lib.hid hfa; have Hfb := Lib.hid hfb; clear hfa hfb
              have HU4 := Lib.hid (HU.out.below A4)
              go_wp2_with (at_builtin; refine wp_appsI _ wp.heap.size 0 _ [] (lnA p an) (lnA p an) _ an _ an rfl _ _ rfl rfl rfl HU4.out hlit (by simp) (by omega) (List.nil_append _) (by omega) Hfa.out ?_; intro r5 k5 w5 hO5 hb5; have A5 := A4.trans hb5; have HO5 := Lib.hid hO5; have HV5 := Lib.hid (HVV.out.below A5); have hsz5 := A5.size; clear hO5 hlit; go_wp2_with (at_builtin; refine wp_appsI _ wp.heap.size an _ (lnA p an) (lnB p bn) (lnA p an ++ lnB p bn) _ bn _ (an + bn) rfl _ _ rfl rfl rfl HV5.out HO5.out.own hsz5 rfl rfl (by omega) Hfb.out ?_; intro r6 k6 w6 hO6 hb6))
              have A6 := A5.trans hb6
              have HL6 := Lib.hid (HLI.out.below A6); have HU6 := Lib.hid (HU.out.below A6); have HV6 := Lib.hid (HVV.out.below A6); have HS6 := Lib.hid hO6.ints; have HB6 := Lib.hid (bel_trans HB3.out A6)
              clear A4 A5 A6 hb5 hb6 hO6 HV5 HO5 HU4 HU HVV HLI HB3
              have hvb : ∀ x ∈ lnA p an ++ lnB p bn, 0 ≤ x ∧ x < p := fun x hx => by rcases List.mem_append.1 hx with h | h; exact lnA_bd (by omega) an x h; exact lnB_bd (by omega) bn x h
              have hvl : (lnA p an ++ lnB p bn).length = an + bn := by rw [List.length_append, lnA_len, lnB_len]
              have HVB := Lib.hid hvb; have HVL := Lib.hid hvl; clear hvb hvl
              obtain ⟨vs, hvs⟩ : ∃ vs, vs = lnA p an ++ lnB p bn := ⟨_, rfl⟩
              rw [← hvs] at HVB HVL HS6; have HVS := Lib.hid hvs; clear hvs
              have hF0 := nth_bd (by omega) HFb.out 0
              obtain ⟨hF01, hF02⟩ := hF0
              go_loop [29, 187] (fun s i => ∃ (j : Nat) (D : Int), j ≤ an + bn ∧ i = .int .i64 j ∧ s = .int .i64 D ∧ 0 ≤ D ∧ D ≤ 2000000 ∧ Hid (D = lnS F.1 vs j)) (fun _ i => an + bn - (intOf i).toNat)
              case atStart => exact ⟨0, _, by omega, rfl, rfl, by omega, by omega, rfl⟩
              case round =>
                obtain ⟨j, D, hj, rfl, rfl, hD1, hD2, HD⟩ := hrel
                by_cases hlt : j < an + bn
                · have hlti : (j : Int) < (an : Int) + (bn : Int) := by omega
                  have hlti2 : (j : Int) < ((an + bn : Nat) : Int) := by omega
                  obtain ⟨b3, off3, rfl, hbl3, hc3⟩ := HS6.out.at hlt
                  obtain ⟨b4, off4, e4, hbl4, hc4⟩ := HL6.out.at (i := j + 1) (by omega)
                  simp only [Option.some.injEq, Addr.mk.injEq, and_true] at e4; obtain ⟨rfl, rfl⟩ := e4
                  have ej : IntKind.i64.wrap ((j : Int) + 1) = ((j + 1 : Nat) : Int) := by rw [IntWalk.i64_in _ (by omega)]; omega
                  have hlti3 : ((j + 1 : Nat) : Int) < ((an + bn + 1 : Nat) : Int) := by omega
                  have x1 := nth_bd (by omega) HFb.out (j + 1); have x2 := nth_bd (by omega) HVB.out j
                  obtain ⟨x11, x12⟩ := x1; obtain ⟨x21, x22⟩ := x2
                  obtain ⟨m1, m2⟩ := mul_bd (a := nth F.1 (j + 1)) (b := nth vs j) 250 250 (by omega) (by omega) (by omega) (by omega)
                  have db := lnS_bd ⟨hp2, hp3⟩ HFb.out HVB.out (j + 1)
                  have HD2 : Hid (D + nth F.1 (j + 1) * nth vs j = lnS F.1 vs (j + 1)) := by show _ = _; rw [lnS, HD.out]
                  rw [← HD2.out] at db
                  obtain ⟨db1, db2⟩ := db; have db3 : D + nth F.1 (j + 1) * nth vs j ≤ 2000000 := by omega
                  clear db2
                  go_wp2
                  go_round
                  case rel => exact ⟨j + 1, _, by omega, by go_num, rfl, by omega, by omega, HD2.out⟩
                  case measure => first | (simp [intOf]; done) | (simp [intOf]; omega)
                · obtain rfl : j = an + bn := by omega
                  clear hlt hj
                  have hnl3 : ¬ (((an + bn : Nat) : Int) < ((an + bn : Nat) : Int)) := by omega
                  have hels1 : elsB p (lnA p an) = true := els_of HPR.out (lnA_bd (by omega) an)
                  have hels2 : elsB p (lnB p bn) = true := els_of HPR.out (lnB_bd (by omega) bn)
                  have hM6 := HM.out.below HB6.out; have hC6 := HC.out.below HB6.out
                  obtain ⟨g0, g1, g2, g3, g4⟩ := id hC6
                  go_wp2_with fail
                  refine (i_EvalArithG p ga gn gc gs oa on oc os _ an _ (lnA p an) _ bn _ (lnB p bn) _ hM6 HU6.out HV6.out HAC.out hels1 hels2).mono ?_; rintro e w7 ⟨r7, k7, rfl, L7, hb7⟩
                  replace hC6 := hC6.below hb7; replace hM6 := hM6.below hb7; clear g0 g1 g2 g3 g4; obtain ⟨g0, g1, g2, g3, g4⟩ := id hC6
                  go_wp2_with fail
                  refine (s_EvalArithG p ga gn gc gs oa on oc os _ an _ (lnA p an) _ bn _ (lnB p bn) _ hM6 (HU6.out.below hb7) (HV6.out.below hb7) HAC.out hels1 hels2).mono ?_; rintro e w8 ⟨r8, k8, rfl, L8, hb8⟩
                  replace hC6 := hC6.below hb8; clear g0 g1 g2 g3 g4; obtain ⟨g0, g1, g2, g3, g4⟩ := id hC6
                  have HB9 := Lib.hid (bel_trans (bel_trans (bel_trans HB0.out HB6.out) hb7) hb8)
                  replace L7 := L7.below hb8
                  have hLK := HEnd.out vs HVB.out HVL.out
                  rw [hol.out, HVS.out] at hLK
                  skip
                  obtain ⟨K, hK⟩ : ∃ K, K = pkL (avs p gs (lnA p an ++ lnB p bn) gn) os on := ⟨_, rfl⟩
                  rw [← hK] at L7 L8 hLK; clear hK
                  have et : D.tmod p = nth K kk := by rw [Int.tmod_eq_emod_of_nonneg hD1, HD.out, hLK, HVS.out]
                  have L7I := Lib.hid L7.ints; have L8I := Lib.hid L8.ints; clear hLK
                  obtain ⟨b8, off8, rfl, hbl8, hc8⟩ := L8I.out.at hkko
                  have hkki : (kk : Int) < (on : Int) := by omega
                  clear L7 L8 hb7 hb8 hM6 hC6
                  go_wp2
                  go_quiet ((first | (go_at_call 31; exact Calls.quiet_of (l_qIntsQ _ _ _ _ _ _ _ (L7I.out.below (bel_drewN _ _)) (L8I.out.below (bel_drewN _ _))))))
                  go_wp2
                  go_ret
                  exact ⟨by first | rfl | simp, bel_trans HB9.out (bel_drewN _ _)⟩
end Go.Proofs.Ytfichpppjpgahaa
