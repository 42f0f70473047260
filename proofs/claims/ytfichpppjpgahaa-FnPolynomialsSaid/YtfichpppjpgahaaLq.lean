/-
  A square system in memory: rows with their right sides, that may be written and swapped.
-/
import Derived.Test.YtfichpppjpgahaaRA
import Derived.Test.YtfichpppjpgahaaLe
namespace Go.Proofs.Ytfichpppjpgahaa
open Go.RowKit
set_option linter.unusedVariables false
set_option linter.unusedSimpArgs false

/-- n rows of n + 1 numbers; row i lies in block rb i from ro i on. -/
structure Mx (w : World) (B mb mo n : Nat) (rb ro rc : Nat → Nat) (M : Mat) : Prop where
  outer : Hid (∀ i, i < n → B ≤ mb ∧ mb < w.heap.size ∧ w.cell? ⟨mb, mo + i, none⟩ = some (.slice (some ⟨rb i, ro i, none⟩) (n + 1) (rc i)) ∧ w.frozen? ⟨mb, mo + i, none⟩ = false)
  inner : Hid (∀ i, i < n → n + 1 ≤ rc i ∧ B ≤ rb i ∧ rb i < w.heap.size ∧ ∀ j, j ≤ n → w.cell? ⟨rb i, ro i + j, none⟩ = some (.int .i64 (M i j)) ∧ w.frozen? ⟨rb i, ro i + j, none⟩ = false)
  away : Hid (∀ i, i < n → rb i ≠ mb)
  apart : Hid (∀ i j, i < n → j < n → i ≠ j → rb i ≠ rb j)
theorem Mx.below {w w' : World} {B mb mo n : Nat} {rb ro rc : Nat → Nat} {M : Mat} (h : Mx w B mb mo n rb ro rc M) (hb : Below w.heap.size w w') : Mx w' B mb mo n rb ro rc M := by
  refine ⟨fun i hi => ?_, fun i hi => ?_, h.away, h.apart⟩
  · obtain ⟨h1, h2, h3, h4⟩ := h.outer.out i hi
    exact ⟨h1, Nat.lt_of_lt_of_le h2 hb.size, (hb.cell (p := ⟨mb, mo + i, none⟩) h2).trans h3, (hb.frozen (p := ⟨mb, mo + i, none⟩) h2).trans h4⟩
  · obtain ⟨h0, h1, h2, h3⟩ := h.inner.out i hi
    exact ⟨h0, h1, Nat.lt_of_lt_of_le h2 hb.size, fun j hj => ⟨(hb.cell (p := ⟨rb i, ro i + j, none⟩) h2).trans (h3 j hj).1, (hb.frozen (p := ⟨rb i, ro i + j, none⟩) h2).trans (h3 j hj).2⟩⟩
theorem Mx.congr {w : World} {B mb mo n : Nat} {rb ro rc : Nat → Nat} {M M' : Mat} (h : Mx w B mb mo n rb ro rc M) (e : ∀ i j, i < n → j ≤ n → M i j = M' i j) : Mx w B mb mo n rb ro rc M' := by
  refine ⟨h.outer, fun i hi => ?_, h.away, h.apart⟩
  obtain ⟨h0, h1, h2, h3⟩ := h.inner.out i hi
  exact ⟨h0, h1, h2, fun j hj => by rw [← e i j hi hj]; exact h3 j hj⟩
/-- One entry is another. -/
def upd (M : Mat) (i j : Nat) (v : Int) : Mat := fun i' j' => if i' = i ∧ j' = j then v else M i' j'
theorem Mx.set {w : World} {B mb mo n : Nat} {rb ro rc : Nat → Nat} {M : Mat} (h : Mx w B mb mo n rb ro rc M) {i j : Nat} (hi : i < n) (hj : j ≤ n) (v : Int) : Mx (w.setCell ⟨rb i, ro i + j, none⟩ (.int .i64 v)) B mb mo n rb ro rc (upd M i j v) := by
  refine ⟨fun i' hi' => ?_, fun i' hi' => ?_, h.away, h.apart⟩
  · obtain ⟨h1, h2, h3, h4⟩ := h.outer.out i' hi'
    have hne := h.away.out i hi
    exact ⟨h1, by simpa using h2, (World.cell?_setCell_other _ _ _ _ (by intro e; simp at e <;> omega)).trans h3, by simpa using h4⟩
  · obtain ⟨h0, h1, h2, h3⟩ := h.inner.out i' hi'
    refine ⟨h0, h1, by simpa using h2, fun j' hj' => ⟨?_, by simpa using (h3 j' hj').2⟩⟩
    unfold upd
    by_cases e : i' = i ∧ j' = j
    · obtain ⟨rfl, rfl⟩ := e
      rw [if_pos ⟨rfl, rfl⟩]
      exact World.cell?_setCell_same _ _ _ (h3 j' hj').1
    · rw [if_neg e]
      refine (World.cell?_setCell_other _ _ _ _ ?_).trans (h3 j' hj').1
      intro q
      simp only [Addr.mk.injEq] at q
      by_cases ei : i' = i
      · subst ei; exact e ⟨rfl, by omega⟩
      · exact h.apart.out i' i hi' hi ei q.1.symm
def sw (f : Nat → Nat) (c k : Nat) : Nat → Nat := fun i => if i = c then f k else if i = k then f c else f i
theorem sw_inj {f : Nat → Nat} {n c k i j : Nat} (hc : c < n) (hk : k < n) (hi : i < n) (hj : j < n) (hne : i ≠ j) (h : ∀ i j, i < n → j < n → i ≠ j → f i ≠ f j) : sw f c k i ≠ sw f c k j := by
  unfold sw
  split <;> split <;> (try split) <;> (try split) <;> first | (apply h <;> omega) | omega
theorem sw_ex {n c k i : Nat} (hc : c < n) (hk : k < n) (hi : i < n) : ∃ q, q < n ∧ (∀ f : Nat → Nat, sw f c k i = f q) ∧ ∀ M : Mat, swp M c k i = M q := by
  unfold sw swp
  by_cases h1 : i = c
  · exact ⟨k, hk, fun f => by rw [if_pos h1], fun M => by rw [if_pos h1]⟩
  · by_cases h2 : i = k
    · exact ⟨c, hc, fun f => by rw [if_neg h1, if_pos h2], fun M => by rw [if_neg h1, if_pos h2]⟩
    · exact ⟨i, hi, fun f => by rw [if_neg h1, if_neg h2], fun M => by rw [if_neg h1, if_neg h2]⟩
theorem Mx.swap {w : World} {B mb mo n : Nat} {rb ro rc : Nat → Nat} {M : Mat} (h : Mx w B mb mo n rb ro rc M) {c k : Nat} (hc : c < n) (hk : k < n) :
    Mx ((w.setCell ⟨mb, mo + c, none⟩ (.slice (some ⟨rb k, ro k, none⟩) (n + 1) (rc k))).setCell ⟨mb, mo + k, none⟩ (.slice (some ⟨rb c, ro c, none⟩) (n + 1) (rc c))) B mb mo n (sw rb c k) (sw ro c k) (sw rc c k) (swp M c k) := by
  obtain ⟨c1, c2, c3, c4⟩ := h.outer.out c hc
  obtain ⟨k1, k2, k3, k4⟩ := h.outer.out k hk
  refine ⟨fun i hi => ?_, fun i hi => ?_, fun i hi => ?_, fun i j hi hj hne => sw_inj hc hk hi hj hne h.apart.out⟩
  · obtain ⟨h1, h2, h3, h4⟩ := h.outer.out i hi
    refine ⟨h1, by simpa using h2, ?_, by simpa using h4⟩
    have e1 : (w.setCell ⟨mb, mo + c, none⟩ (.slice (some ⟨rb k, ro k, none⟩) (n + 1) (rc k))).cell? ⟨mb, mo + k, none⟩ = some (if k = c then .slice (some ⟨rb k, ro k, none⟩) (n + 1) (rc k) else .slice (some ⟨rb k, ro k, none⟩) (n + 1) (rc k)) := by
      by_cases e : k = c
      · subst e; rw [if_pos rfl]; exact World.cell?_setCell_same _ _ _ c3
      · rw [if_neg e]; exact (World.cell?_setCell_other _ _ _ _ (by intro q; simp at q <;> omega)).trans k3
    unfold sw
    by_cases e2 : i = k
    · subst e2
      have := World.cell?_setCell_same (w.setCell ⟨mb, mo + c, none⟩ (.slice (some ⟨rb i, ro i, none⟩) (n + 1) (rc i))) ⟨mb, mo + i, none⟩ (.slice (some ⟨rb c, ro c, none⟩) (n + 1) (rc c)) e1
      rw [this]
      by_cases e3 : i = c
      · subst e3; simp
      · simp [e3]
    · rw [World.cell?_setCell_other _ _ _ _ (by intro q; simp at q <;> omega)]
      by_cases e3 : i = c
      · subst e3
        simp only [if_pos]
        exact World.cell?_setCell_same _ _ _ c3
      · rw [World.cell?_setCell_other _ _ _ _ (by intro q; simp at q <;> omega)]
        simp only [if_neg e3, if_neg e2]; exact h3
  · obtain ⟨q, hq, f1, f2⟩ := sw_ex (n := n) hc hk hi
    rw [f1, f1, f1, f2]
    obtain ⟨h0, h1, h2, h3⟩ := h.inner.out q hq
    have hne := h.away.out q hq
    refine ⟨h0, h1, by simpa using h2, fun j hj => ⟨?_, by simpa using (h3 j hj).2⟩⟩
    rw [World.cell?_setCell_other _ _ _ _ (by intro e; simp at e <;> omega), World.cell?_setCell_other _ _ _ _ (by intro e; simp at e <;> omega)]
    exact (h3 j hj).1
  · obtain ⟨q, hq, f1, _⟩ := sw_ex (n := n) hc hk hi
    rw [f1]; exact h.away.out q hq
theorem swp_comm (M : Mat) (c k : Nat) : swp M c k = swp M k c := by
  funext i
  unfold swp
  by_cases h1 : i = c
  · by_cases h2 : i = k
    · rw [if_pos h1, if_pos h2]; rw [← h1, ← h2]
    · rw [if_pos h1, if_neg h2, if_pos h1]
  · by_cases h2 : i = k
    · rw [if_neg h1, if_pos h2, if_pos h2]
    · rw [if_neg h1, if_neg h2, if_neg h2, if_neg h1]
theorem Mine.at0Q {w : World} {B : Nat} {a : Option Addr} {n cap : Nat} {xs : List Int} (h : Mine w B a n cap xs) {i : Nat} (hi : i < n) {b off : Nat} (e : a = some ⟨b, off, none⟩) :
    w.cell? ⟨b, off + i, none⟩ = some (.int .i64 (nth xs i)) ∧ w.frozen? ⟨b, off + i, none⟩ = false := by
  obtain ⟨b', off', e', h1, h2, h3, h4⟩ := h.at hi
  rw [e] at e'
  simp only [Option.some.injEq, Addr.mk.injEq] at e'
  obtain ⟨rfl, rfl, _⟩ := e'
  exact ⟨h3, h4⟩
/-- Where a row lies. -/
def rowB (w : World) (mb mo i : Nat) : Nat := match w.cell? ⟨mb, mo + i, none⟩ with | some (.slice (some a) _ _) => a.block | _ => 0
def rowO (w : World) (mb mo i : Nat) : Nat := match w.cell? ⟨mb, mo + i, none⟩ with | some (.slice (some a) _ _) => a.off | _ => 0
def rowC (w : World) (mb mo i : Nat) : Nat := match w.cell? ⟨mb, mo + i, none⟩ with | some (.slice _ _ c) => c | _ => 0
theorem Mx.of {w : World} {lo hi mb mo n cap : Nat} {xss : List (List Int)} (h : MineR w lo hi (some ⟨mb, mo, none⟩) n cap xss) (hl : ∀ i, i < n → (rowN xss i).length = n + 1) :
    Mx w lo mb mo n (rowB w mb mo) (rowO w mb mo) (rowC w mb mo) (fun i j => nth (rowN xss i) j) := by
  have key : ∀ i, i < n → lo ≤ mb ∧ mb < w.heap.size ∧ w.cell? ⟨mb, mo + i, none⟩ = some (.slice (some ⟨rowB w mb mo i, rowO w mb mo i, none⟩) (n + 1) (rowC w mb mo i)) ∧ w.frozen? ⟨mb, mo + i, none⟩ = false ∧ Mine w lo (some ⟨rowB w mb mo i, rowO w mb mo i, none⟩) (n + 1) (rowC w mb mo i) (rowN xss i) ∧ rowB w mb mo i ≠ mb := by
    intro i hi'
    obtain ⟨b, off, r, m, c, e, h1, h2, h3, h4, h5, h6, h7⟩ := h.at hi'
    simp only [Option.some.injEq, Addr.mk.injEq] at e
    obtain ⟨rfl, rfl, _⟩ := e
    have hm : m = n + 1 := by rw [← hl i hi']; exact h5.ints.len.out.symm
    subst hm
    obtain ⟨g, o, rfl, _, _⟩ := h5.ints.at (i := 0) (by omega)
    have e1 : rowB w mb mo i = g := by unfold rowB; rw [h3]
    have e2 : rowO w mb mo i = o := by unfold rowO; rw [h3]
    have e3 : rowC w mb mo i = c := by unfold rowC; rw [h3]
    rw [e1, e2, e3]
    refine ⟨h1, by have := h.top; omega, h3, h4, h5, fun q => h7 (by omega) o (by rw [q])⟩
  refine ⟨fun i hi' => ?_, fun i hi' => ?_, fun i hi' => (key i hi').2.2.2.2.2, fun i j hi' hj' hne => ?_⟩
  · obtain ⟨h1, h2, h3, h4, _⟩ := key i hi'
    exact ⟨h1, h2, h3, h4⟩
  · obtain ⟨h1, h2, h3, h4, h5, h6⟩ := key i hi'
    have hp := h5.pl (by omega) _ _ rfl
    refine ⟨h5.ints.ncap, hp.1, hp.2, fun j hj => ?_⟩
    obtain ⟨q3, q4⟩ := h5.at0Q (i := j) (by omega) rfl
    exact ⟨q3, q4⟩
  · have k1 := (key i hi').2.2.1
    have k2 := (key j hj').2.2.1
    exact h.apart.out i j hi' hj' hne mb mo _ _ _ _ _ _ rfl k1 k2 (by omega) (by omega) _ _ _ _ rfl rfl
/-- The rows with their right sides. -/
def sysM (xss : List (List Int)) (ys : List Int) (n : Nat) : Mat := fun i j => if j = n then nth ys i else nth (rowN xss i) j
def solveL (p : Int) (xss : List (List Int)) (ys : List Int) (n : Nat) : List Int × Bool := match gaussS p (sysM xss ys n) n n with
  | none => ([], false)
  | some A => ((List.range n).map fun i => A i n, true)
end Go.Proofs.Ytfichpppjpgahaa
