/-
  Plain laws: what the law on polynomials asks.
-/
import Derived.Test.YtfichpppjpgahaaLs
namespace Go.Proofs.Ytfichpppjpgahaa
open Go.RowKit
set_option linter.unusedVariables false
set_option linter.unusedSimpArgs false

theorem elsB_of {p : Int} {l : List Int} (hp : prB p = true) (h : Res p l) : elsB p l = true := by
  unfold elsB; rw [hp, Bool.true_and]
  exact allIn_iff.2 fun i hi => inB_iff.2 (by have := h.at hi; omega)
theorem poly_law {p : Int} {xs ys : List Int} (h : (polyThrough p xs ys).2 = true) : (polyThrough p xs ys).1.length = xs.length ∧ ys.length = xs.length ∧ xs.length ≤ 12 ∧ ∀ i, i < xs.length → evalPoly p (polyThrough p xs ys).1 (nth xs i) = (nth ys i, true) ∧ interpolateAt p xs ys (nth xs i) = (nth ys i, true) := by
  unfold polyThrough at h ⊢
  cases hP : ptsB p xs ys with
  | false => rw [hP] at h; cases h
  | true =>
    obtain ⟨hpr, hPt, h12⟩ := ptsB_iff.1 hP
    obtain ⟨q, rfl, hq⟩ := prB_nat hpr
    obtain ⟨hp1, hp2⟩ := prB_lo hpr
    obtain ⟨l1, l2⟩ := hPt.poly hq
    rw [if_pos rfl]
    refine ⟨l1, hPt.ly, h12, fun i hi => ?_⟩
    have hx := hPt.rx.at hi
    have hres := polyI_res hp1 xs ys xs.length xs.length (Nat.le_refl _)
    have hI : inB (nth xs i) 0 ((q : Int) - 1) = true := inB_iff.2 (by omega)
    constructor
    · unfold evalPoly
      rw [elsB_of hpr hres, show elB (q : Int) (nth xs i) = true from elB_iff.2 ⟨hpr, by omega⟩, decide_eq_true (by rw [l1]; exact h12)]
      show (hor (q : Int) (nth xs i) (polyI (q : Int) xs ys xs.length xs.length), true) = _
      rw [l2 i hi]
    · unfold interpolateAt
      rw [hP, hI, Bool.true_and, if_pos rfl, ← at_eq hp1, l2 i hi]
theorem dotF_congr {f g s u : Nat → Int} : ∀ {n : Nat}, (∀ j, j < n → f j = g j) → (∀ j, j < n → s j = u j) → dotF f s n = dotF g u n
  | 0, _, _ => rfl
  | n + 1, h1, h2 => by rw [dotF, dotF, dotF_congr (fun j hj => h1 j (by omega)) (fun j hj => h2 j (by omega)), h1 n (by omega), h2 n (by omega)]
theorem nth_rmap (f : Nat → Int) {n j : Nat} (h : j < n) : nth ((List.range n).map f) j = f j := by simp [nth, h]
/-- What is found solves the equations. -/
theorem solve_law {p : Int} {xss : List (List Int)} {ys : List Int} (h : (solveLinear p xss ys).2 = true) : (2 ≤ p ∧ p ≤ 251) ∧ xss.length ≤ 6 ∧ (solveLinear p xss ys).1.length = xss.length ∧ ys.length = xss.length ∧ Res p (solveLinear p xss ys).1 ∧
    ∀ i, i < xss.length → (rowN xss i).length = xss.length ∧ Res p (rowN xss i) ∧ dotF (nth (rowN xss i)) (nth (solveLinear p xss ys).1) xss.length % p = nth ys i := by
  unfold solveLinear at h ⊢
  cases hS : sysB p xss ys xss.length with
  | false => rw [hS] at h; cases h
  | true =>
    obtain ⟨⟨hn1, hn⟩, hyl, hpr, hyy, hxl, hxx⟩ := sysB_iff.1 hS
    obtain ⟨q, rfl, hq⟩ := prB_nat hpr
    obtain ⟨hp1, hp2⟩ := prB_lo hpr
    rw [hS, if_pos rfl] at h
    rw [if_pos rfl]
    have HRED : redM (q : Int) (sysM xss ys xss.length) xss.length := fun i j hi hj => by
      unfold sysM
      split
      · have := hyy i (by omega); omega
      · have := hxx i hi j (by omega); omega
    unfold solveL at h ⊢
    cases hG : gaussS (q : Int) (sysM xss ys xss.length) xss.length xss.length with
    | none => rw [hG] at h; cases h
    | some A =>
      have hr := gaussS_red hp1 HRED _ A hG
      have hl := gauss_law hq HRED hG
      refine ⟨⟨hp1, hp2⟩, hn, by simp, hyl, fun x hx => ?_, fun i hi => ⟨hxl i hi, fun x hx => ?_, ?_⟩⟩
      · obtain ⟨i, hi, rfl⟩ := List.mem_map.1 hx
        exact hr i _ (List.mem_range.1 hi) (Nat.le_refl _)
      · obtain ⟨j, hj, rfl⟩ := mem_nth hx
        have := hxx i hi j (by rw [← hxl i hi]; exact hj)
        omega
      · have h1 := hl i hi
        have h2 : sysM xss ys xss.length i xss.length = nth ys i := by unfold sysM; rw [if_pos rfl]
        rw [h2] at h1
        have hy := hyy i (by omega)
        rw [dotF_congr (g := nth (rowN xss i)) (u := nth ((List.range xss.length).map fun i => A i xss.length)) (fun j hj => by unfold sysM; rw [if_neg (by omega)]) (fun j hj => (nth_rmap _ hj).symm)] at h1
        exact (emod_eq_iff hy.1 (by omega)).2 h1
theorem dotF_bd {r s : Nat → Int} {B : Int} (hB : 0 ≤ B) : ∀ {n : Nat}, (∀ j, j < n → 0 ≤ r j ∧ r j ≤ B) → (∀ j, j < n → 0 ≤ s j ∧ s j ≤ B) → 0 ≤ dotF r s n ∧ dotF r s n ≤ n * (B * B)
  | 0, _, _ => by simp [dotF]
  | n + 1, h1, h2 => by
    have ih := dotF_bd hB (n := n) (fun j hj => h1 j (by omega)) (fun j hj => h2 j (by omega))
    have a := h1 n (by omega); have b := h2 n (by omega)
    obtain ⟨m1, m2⟩ := mul_bd (a := r n) (b := s n) B B a.1 a.2 b.1 b.2
    rw [dotF]
    have e : ((n + 1 : Nat) : Int) * (B * B) = n * (B * B) + B * B := by rw [Int.natCast_add, Int.add_mul]; simp
    omega
end Go.Proofs.Ytfichpppjpgahaa
