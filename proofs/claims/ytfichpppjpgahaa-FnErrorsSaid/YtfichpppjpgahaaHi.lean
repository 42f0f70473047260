/-
  Plain laws: what the law on wrong and refreshed shares asks.
-/
import Derived.Test.YtfichpppjpgahaaHg
namespace Go.Proofs.Ytfichpppjpgahaa
open Go.RowKit
set_option linter.unusedVariables false
set_option linter.unusedSimpArgs false

/-- The first k numbers but the j-th. -/
def skL (l : List Int) (j : Nat) : Nat → List Int
  | 0 => []
  | k + 1 => if k = j then skL l j k else skL l j k ++ [nth l k]
theorem skL_len (l : List Int) (j : Nat) : ∀ k, (skL l j k).length = k - (if j < k then 1 else 0)
  | 0 => rfl
  | k + 1 => by
    have ih := skL_len l j k
    rw [skL]
    split
    · rename_i e; subst e; rw [ih, if_neg (by omega), if_pos (by omega)]; omega
    · rename_i e
      rw [List.length_append, ih]
      by_cases g : j < k
      · rw [if_pos g, if_pos (by omega)]; show k - 1 + 1 = _; omega
      · rw [if_neg g, if_neg (by omega)]; rfl
theorem nth_skL (l : List Int) (j : Nat) : ∀ k i, i < (skL l j k).length → nth (skL l j k) i = if i < j then nth l i else nth l (i + 1)
  | 0, i, h => by simp [skL] at h
  | k + 1, i, h => by
    have hl := skL_len l j k
    have hl1 := skL_len l j (k + 1)
    rw [skL] at h ⊢
    split
    · rename_i e
      rw [if_pos e] at h
      exact nth_skL l j k i h
    · rename_i e
      rw [if_neg e, List.length_append] at h
      rw [nth_snocH]
      by_cases g : i = (skL l j k).length
      · rw [if_pos g]
        by_cases g2 : j < k
        · rw [if_pos g2] at hl
          rw [if_neg (by omega), show i + 1 = k by omega]
        · rw [if_neg g2] at hl
          rw [if_pos (by omega), show i = k by omega]
      · rw [if_neg g]
        exact nth_skL l j k i (by simp at h; omega)
theorem skL_wo {l : List Int} {j n : Nat} (hl : l.length = n) (hj : j < n) : skL l j n = wo l j := by
  have h1 := skL_len l j n
  rw [if_pos hj] at h1
  refine eq_of_nth (by rw [h1, wo_len (by omega), hl]) (fun i hi => ?_)
  rw [nth_skL l j n i hi, nth_wo (by omega)]
theorem skL_fit {l : List Int} (h : ∀ x ∈ l, Fits x) (j : Nat) {n : Nat} (hl : l.length = n) : ∀ k, k ≤ n → ∀ x ∈ skL l j k, Fits x
  | 0, _, x, hx => by simp [skL] at hx
  | k + 1, hk, x, hx => by
    rw [skL] at hx
    split at hx
    · exact skL_fit h j hl k (by omega) x hx
    · rcases List.mem_append.1 hx with q | q
      · exact skL_fit h j hl k (by omega) x q
      · simp at q; rw [q]; exact h _ (nth_mem (by omega))
/-- A wrong share was found. -/
theorem wrong_law {p : Int} {xs ys : List Int} {t : Int} (h : (findWrong p xs ys t).2 = true) : ∃ j : Nat, (findWrong p xs ys t).1 = j ∧ j < xs.length ∧ xs.length = ys.length ∧ xs.length ≤ 10 ∧ (joinDespite p xs ys t).2 = true ∧ areShares p (wo xs j) (wo ys j) t = (true, true) ∧ areShares p xs ys t = (false, true) := by
  obtain ⟨j, j1, j2, j3, j4, j5, j6⟩ := findWrong_ok h
  obtain ⟨⟨hpr, hPt, h10, h0⟩, ht1, ht2⟩ := asked_iff.1 j3
  have hH : hldB p xs ys = true := hldB_iff.2 ⟨hpr, hPt, h10, h0⟩
  have hA : asked p (wo xs j) (wo ys j) t = true := by
    unfold asked
    rw [hldB_wo hH j2, Bool.true_and, wo_len j2]
    exact inB_iff.2 (by omega)
  refine ⟨j, j1, j2, hPt.ly.symm, h10, ?_, ?_, ?_⟩
  · unfold joinDespite; rw [j3, if_pos rfl, j5, h]; rfl
  · unfold areShares; rw [hA, if_pos rfl, j6]
  · unfold areShares; rw [j3, if_pos rfl, j5]
/-- The holders 1 .. n. -/
def holL : Nat → List Int
  | 0 => []
  | m + 1 => holL m ++ [(m : Int) + 1]
theorem holL_len : ∀ m, (holL m).length = m
  | 0 => rfl
  | m + 1 => by rw [holL, List.length_append, holL_len]; rfl
theorem nth_holL : ∀ {m i : Nat}, i < m → nth (holL m) i = (i : Int) + 1
  | m + 1, i, h => by
    rw [holL, nth_snocH, holL_len]
    split
    · rename_i e; rw [e]
    · exact nth_holL (by omega)
theorem mem_holL {m : Nat} {x : Int} (h : x ∈ holL m) : 1 ≤ x ∧ x ≤ m := by
  obtain ⟨i, hi, rfl⟩ := mem_nth h
  rw [holL_len] at hi
  rw [nth_holL hi]; omega
theorem holL_nodup : ∀ m, (holL m).Nodup
  | 0 => List.nodup_nil
  | m + 1 => by
    rw [holL, List.nodup_append]
    refine ⟨holL_nodup m, by simp, fun a ha b hb => ?_⟩
    simp at hb; subst hb
    have := mem_holL ha
    omega
theorem hor_at0 {p : Int} (hp : 2 ≤ p) {C : List Int} (h : nth C 0 = 0) : hor p 0 C = 0 := by
  rw [hor_mod hp]
  cases C with
  | nil => rfl
  | cons c cs => rw [nth_cons0] at h; rw [pl, h]; simp
/-- Refreshed shares are those of the same value. -/
theorem refresh_law {p key : Int} {ys : List Int} {t : Int} (h : (refreshHolders p key ys t).2 = true) : ys.length ≤ 10 ∧ (refreshHolders p key ys t).1.length = ys.length ∧
    ∃ q : Bool, areShares p (holL ys.length) ys t = (q, true) ∧ areShares p (holL ys.length) (refreshHolders p key ys t).1 t = (q, true) ∧
      (q = true → ∃ x : Int, joinDespite p (holL ys.length) ys t = (x, true) ∧ joinDespite p (holL ys.length) (refreshHolders p key ys t).1 t = (x, true)) := by
  have hc : (thB p ys.length t && (keyB key && elsB p ys)) = true := by
    cases e : (thB p ys.length t && (keyB key && elsB p ys)) with
    | true => rfl
    | false => unfold refreshHolders at h; rw [e] at h; cases h
  have hR : refreshHolders p key ys t = (suL p ys (zerosL p key ys.length t) ys.length, true) := by unfold refreshHolders; rw [hc]; rfl
  rw [hR]
  simp only [Bool.and_eq_true] at hc
  obtain ⟨hth, hk, he⟩ := hc
  obtain ⟨hpr, ⟨hn1, hn10⟩, hnp, ht1, ht2⟩ := thB_iff.1 hth
  obtain ⟨q, rfl, hq⟩ := prB_nat hpr
  obtain ⟨hp1, hp2⟩ := prB_lo hpr
  generalize hn : ys.length = n at *
  have hzs : ∀ i, i < n → nth (suL (q : Int) ys (zerosL q key n t) n) i = (nth ys i + 1 * hor q (nth (holL n) i) (cfL q key 0 (t.toNat - 1))) % q := fun i hi => by
    rw [nth_suL hi, nth_holL hi, Int.one_mul]
    unfold zerosL
    rw [nth_spL hi]
  have hrx : Res q (holL n) := fun x hx => by have := mem_holL hx; omega
  have hry : Res q ys := fun x hx => by
    obtain ⟨i, hi, rfl⟩ := mem_nth hx
    have := elsB_nth he hi; omega
  have P1 : Pts q (holL n) ys n := ⟨holL_len n, hn, hrx, hry, holL_nodup n⟩
  have P2 : Pts q (holL n) (suL q ys (zerosL q key n t) n) n := ⟨holL_len n, suL_len _ _ _ _, hrx, suL_res hp1 _ _ _, holL_nodup n⟩
  generalize hF : suL (q : Int) ys (zerosL q key n t) n = F at *
  have hlF : F.length = n := P2.ly
  obtain ⟨s, rfl⟩ : ∃ s : Nat, t = s := ⟨t.toNat, by omega⟩
  have hs : ((s : Int)).toNat = s := by omega
  rw [hs] at hzs
  have hCl : (cfL (q : Int) key 0 (s - 1)).length ≤ s := by rw [cfL_len]; omega
  have hC0 : hor (q : Int) 0 (cfL q key 0 (s - 1)) = 0 := hor_at0 hp1 (cfL_zero _ _ _ _)
  generalize cfL (q : Int) key 0 (s - 1) = C at hzs hCl hC0
  have hsn : s ≤ n := by omega
  have f1 : fitB q (holL n) ys s = true → fitB q (holL n) F s = true ∧ ∀ y, atS q (holL n) F y n n = (atS q (holL n) ys y n n + 1 * hor q y C) % q := fun g => fit_sum hq P1 P2 hsn C 1 hCl hzs g
  have f2 : fitB q (holL n) F s = true → fitB q (holL n) ys s = true := fun g => (fit_sum hq P2 P1 hsn C (-1) hCl (fun i hi => by
    rw [hzs i hi]
    have hb := hry.at (i := i) (by rw [hn]; exact hi)
    rw [Int.emod_add_emod, show nth ys i + 1 * hor (q : Int) (nth (holL n) i) C + -1 * hor (q : Int) (nth (holL n) i) C = nth ys i by omega, Int.emod_eq_of_lt hb.1 hb.2]) g).1
  have fe : fitB q (holL n) F s = fitB q (holL n) ys s := by
    cases e1 : fitB (q : Int) (holL n) ys s with
    | true => exact (f1 e1).1
    | false =>
      cases e2 : fitB (q : Int) (holL n) F s with
      | false => rfl
      | true => rw [f2 e2] at e1; cases e1
  have h0 : (0 : Int) ∉ holL n := fun hm => by have := mem_holL hm; omega
  have hA1 : asked q (holL n) ys s = true := asked_iff.2 ⟨⟨hpr, by rw [holL_len]; exact P1, by rw [holL_len]; exact hn10, h0⟩, by omega, by rw [holL_len]; omega⟩
  have hA2 : asked q (holL n) F s = true := asked_iff.2 ⟨⟨hpr, by rw [holL_len]; exact P2, by rw [holL_len]; exact hn10, h0⟩, by omega, by rw [holL_len]; omega⟩
  refine ⟨hn10, hlF, fitB q (holL n) ys s, ?_, ?_, fun g => ?_⟩
  · unfold areShares; rw [hA1, if_pos rfl, hs]
  · unfold areShares; rw [hA2, if_pos rfl, hs, fe]
  · refine ⟨atS q (holL n) ys 0 n n, ?_, ?_⟩
    · unfold joinDespite; rw [hA1, if_pos rfl, hs, g, if_pos rfl, ← fit_zero hq P1 hsn g]
    · have hv := (f1 g).2 0
      have hb := atS_bd hp1 (holL n) ys 0 n n
      rw [hC0, Int.mul_zero, Int.add_zero, Int.emod_eq_of_lt hb.1 hb.2] at hv
      unfold joinDespite; rw [hA2, if_pos rfl, hs, fe, g, if_pos rfl, ← fit_zero hq P2 hsn (by rw [fe]; exact g), hv]
end Go.Proofs.Ytfichpppjpgahaa
