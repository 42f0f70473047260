/-
  Two slices of slices of ints that both grow by append; their rows are only read later.
-/
import Derived.Test.YtfichpppjpgahaaCv
import Derived.Test.YtfichpppjpgahaaRA
namespace Go.Proofs.Ytfichpppjpgahaa
open Go.RowKit
set_option linter.unusedVariables false
set_option linter.unusedSimpArgs false

theorem Ints.grownBy {w w' : World} {r : Option Addr} {m c : Nat} {xs : List Int} {row : Option Nat} (h : Ints w r m c xs) (hg : w.grownBy w' row) (hn : 0 < m → ∀ g o, r = some ⟨g, o, none⟩ → some g ≠ row) : Ints w' r m c xs := by
  refine ⟨h.len, h.ncap, h.small, h.capm, fun i hi => ?_, h.wf, h.nilc⟩
  obtain ⟨b, off, e, hl, hc⟩ := h.at hi
  exact ⟨b, off, e, Nat.lt_of_lt_of_le hl hg.size, (World.cell?_of_block (hg.block b hl (hn (by omega) b off e))).trans hc⟩
/-- A growing slice of rows; no row lies in the growing slice's own block, nor in the block of another slice v2. -/
def RG (w : World) (B : Nat) (v : Value) (k : Nat) (xss : List (List Int)) (v2 : Value) : Prop :=
  ∃ hs : List Value, w.ownsRow B 24 1 v k hs ∧ xss.length = k ∧
    ∀ i, i < k → ∃ r m c, hs[i]? = some (.slice r m c) ∧ Ints w r m c (rowN xss i) ∧ (0 < m → ∀ g o, r = some ⟨g, o, none⟩ → B ≤ g ∧ some g ≠ v.ownBlock ∧ some g ≠ v2.ownBlock)
theorem RG.bex {b : Nat} {w w' : World} {B k : Nat} {v v2 : Value} {xss : List (List Int)} (h : RG w B v k xss v2) (kx : Bex b w w') (hb : b < B) : RG w' B v k xss v2 := by
  obtain ⟨hs, h1, h2, h3⟩ := h
  refine ⟨hs, ownsRow_bex h1 kx hb, h2, fun i hi => ?_⟩
  obtain ⟨r, m, c, e, hm, hn⟩ := h3 i hi
  exact ⟨r, m, c, e, hm.bex kx (fun h0 g o e' => by have := (hn h0 g o e').1; omega), hn⟩
theorem RG.lt {w : World} {B k : Nat} {v v2 : Value} {xss : List (List Int)} (h : RG w B v k xss v2) : ∀ g, v.ownBlock = some g → B ≤ g ∧ g < w.heap.size := by
  obtain ⟨hs, h1, _⟩ := h
  exact ownBlock_lt h1
structure RDuo (w : World) (B : Nat) (v1 : Value) (n1 : Nat) (xs : List (List Int)) (v2 : Value) (n2 : Nat) (ys : List (List Int)) : Prop where
  one : RG w B v1 n1 xs v2
  two : RG w B v2 n2 ys v1
  dj : ∀ g, v1.ownBlock = some g → v2.ownBlock = some g → False
  base : B ≤ w.heap.size
theorem RDuo.swap {w : World} {B n1 n2 : Nat} {v1 v2 : Value} {xs ys : List (List Int)} (h : RDuo w B v1 n1 xs v2 n2 ys) : RDuo w B v2 n2 ys v1 n1 xs :=
  ⟨h.two, h.one, fun g a b => h.dj g b a, h.base⟩
theorem RDuo.bex {b : Nat} {w w' : World} {B n1 n2 : Nat} {v1 v2 : Value} {xs ys : List (List Int)} (h : RDuo w B v1 n1 xs v2 n2 ys) (kx : Bex b w w') (hb : b < B) : RDuo w' B v1 n1 xs v2 n2 ys :=
  ⟨h.one.bex kx hb, h.two.bex kx hb, h.dj, Nat.le_trans h.base kx.size⟩
theorem RDuo.nil {w : World} {B : Nat} (h : B ≤ w.heap.size) : RDuo w B (.slice none 0 0) 0 [] (.slice none 0 0) 0 [] :=
  ⟨⟨[], World.ownsRow_nil _ _ _ _, rfl, fun i hi => by omega⟩, ⟨[], World.ownsRow_nil _ _ _ _, rfl, fun i hi => by omega⟩, fun g e => by simp [Value.ownBlock] at e, h⟩
/-- Where a row lies that came about behind the world w0. -/
theorem RDuo.fresh {w0 w : World} {B n1 n2 : Nat} {v1 v2 : Value} {xs ys : List (List Int)} (h : RDuo w0 B v1 n1 xs v2 n2 ys) {r : Option Addr} {m c : Nat} {x : List Int} (hm : Mine w w0.heap.size r m c x) :
    0 < m → ∀ g o, r = some ⟨g, o, none⟩ → B ≤ g ∧ some g ≠ v1.ownBlock ∧ some g ≠ v2.ownBlock := by
  intro h0 g o e
  have p := hm.pl h0 g o e
  have hb := h.base
  refine ⟨by omega, fun q => ?_, fun q => ?_⟩
  · have := (h.one.lt g q.symm).2; omega
  · have := (h.two.lt g q.symm).2; omega
theorem RDuo.grow {w w' : World} {B n1 n2 : Nat} {v1 v2 v' : Value} {xs ys : List (List Int)} {r : Option Addr} {m c : Nat} {x : List Int} {hs : List Value} (h : RDuo w B v1 n1 xs v2 n2 ys)
    (hl : xs.length = n1) (hlen : hs.length = n1) (h3 : ∀ i, i < n1 → ∃ r m c, hs[i]? = some (.slice r m c) ∧ Ints w r m c (rowN xs i) ∧ (0 < m → ∀ g o, r = some ⟨g, o, none⟩ → B ≤ g ∧ some g ≠ v1.ownBlock ∧ some g ≠ v2.ownBlock))
    (hm : Ints w r m c x) (hr : 0 < m → ∀ g o, r = some ⟨g, o, none⟩ → B ≤ g ∧ some g ≠ v1.ownBlock ∧ some g ≠ v2.ownBlock)
    (k1 : w'.ownsRow B 24 1 v' (n1 + 1) (hs ++ [.slice r m c])) (k2 : w.grownBy w' v1.ownBlock) (k3 : v'.ownBlock = v1.ownBlock ∨ v'.ownBlock = some w.heap.size) :
    RDuo w' B v' (n1 + 1) (xs ++ [x]) v2 n2 ys := by
  have hbl : ∀ g, v'.ownBlock = some g → v1.ownBlock = some g ∨ g = w.heap.size := by
    intro g e
    rcases k3 with k | k
    · exact .inl (by rw [← k]; exact e)
    · right; rw [e] at k; simpa using k
  have away : ∀ (r1 : Option Addr) (m1 c1 : Nat) (x1 : List Int), Ints w r1 m1 c1 x1 → (0 < m1 → ∀ g o, r1 = some ⟨g, o, none⟩ → B ≤ g ∧ some g ≠ v1.ownBlock ∧ some g ≠ v2.ownBlock) → (0 < m1 → ∀ g o, r1 = some ⟨g, o, none⟩ → B ≤ g ∧ some g ≠ v'.ownBlock ∧ some g ≠ v2.ownBlock) := by
    intro r1 m1 c1 x1 hi hp h0 g o e
    obtain ⟨p1, p2, p3⟩ := hp h0 g o e
    refine ⟨p1, fun q => ?_, p3⟩
    rcases hbl g q.symm with z | z
    · exact p2 z.symm
    · obtain ⟨b, off, e', hl', _⟩ := hi.at (i := 0) h0
      rw [e] at e'
      simp only [Option.some.injEq, Addr.mk.injEq] at e'
      omega
  refine ⟨⟨hs ++ [.slice r m c], k1, by simp [hl], fun i hi => ?_⟩, ?_, fun g e1 e2 => ?_, Nat.le_trans h.base k2.size⟩
  · rw [rowN_snoc]
    by_cases ei : i = n1
    · subst ei
      rw [if_pos hl.symm]
      exact ⟨r, m, c, by simp [hlen], hm.grownBy k2 (fun h0 g o e => (hr h0 g o e).2.1), away _ _ _ _ hm hr⟩
    · obtain ⟨r1, m1, c1, e1, hm1, hn1⟩ := h3 i (by omega)
      rw [if_neg (by omega)]
      exact ⟨r1, m1, c1, by rw [List.getElem?_append_left (by omega)]; exact e1, hm1.grownBy k2 (fun h0 g o e => (hn1 h0 g o e).2.1), away _ _ _ _ hm1 hn1⟩
  · obtain ⟨hs2, o1, o2, o3⟩ := h.two
    refine ⟨hs2, o1.kept k2 ?_, o2, fun i hi => ?_⟩
    · cases hb : v2.ownBlock with
      | none => exact .inl rfl
      | some g => exact .inr (fun e => h.dj g e.symm hb)
    · obtain ⟨r1, m1, c1, e1, hm1, hn1⟩ := o3 i hi
      have hn' : 0 < m1 → ∀ g o, r1 = some ⟨g, o, none⟩ → B ≤ g ∧ some g ≠ v1.ownBlock ∧ some g ≠ v2.ownBlock := fun h0 g o e => ⟨(hn1 h0 g o e).1, (hn1 h0 g o e).2.2, (hn1 h0 g o e).2.1⟩
      refine ⟨r1, m1, c1, e1, hm1.grownBy k2 (fun h0 g o e => (hn' h0 g o e).2.1), fun h0 g o e => ?_⟩
      obtain ⟨p1, p2, p3⟩ := away _ _ _ _ hm1 hn' h0 g o e
      exact ⟨p1, p3, p2⟩
  · rcases hbl g e1 with z | z
    · exact h.dj g z e2
    · have := (h.two.lt g e2).2; omega
end Go.Proofs.Ytfichpppjpgahaa
