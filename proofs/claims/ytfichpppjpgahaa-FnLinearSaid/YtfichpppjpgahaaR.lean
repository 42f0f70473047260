/-
  Slices of slices of ints: what they hold, and those that a call made itself.
-/
import Derived.Test.YtfichpppjpgahaaU
import Derived.Test.YtfichpppjpgahaaAp
import Derived.Maps.AppendAt
namespace Go.Proofs.Ytfichpppjpgahaa
open Go.RowKit
set_option linter.unusedVariables false
set_option linter.unusedSimpArgs false

/-- The i-th row. -/
def rowN (xss : List (List Int)) (i : Nat) : List Int := xss.getD i []
theorem rowN_get {xss : List (List Int)} {i : Nat} (h : i < xss.length) : rowN xss i = xss[i] := by simp [rowN, h]
theorem rowN_mem {xss : List (List Int)} {i : Nat} (h : i < xss.length) : rowN xss i ∈ xss := by rw [rowN_get h]; exact List.getElem_mem h
theorem mem_rowN {xss : List (List Int)} {x : List Int} (h : x ∈ xss) : ∃ i, i < xss.length ∧ rowN xss i = x := by
  obtain ⟨i, hi, e⟩ := List.mem_iff_getElem.1 h
  exact ⟨i, hi, by rw [rowN_get hi]; exact e⟩
theorem rowN_set {xss : List (List Int)} {i j : Nat} {u : List Int} (hi : i < xss.length) : rowN (xss.set i u) j = if j = i then u else rowN xss j := by
  unfold rowN
  simp only [List.getD_eq_getElem?_getD, List.getElem?_set]
  split
  · rename_i k; subst k; simp [hi]
  · rename_i k; rw [if_neg (fun e => k e.symm)]
theorem rowN_snoc {xss : List (List Int)} {u : List Int} {j : Nat} : rowN (xss ++ [u]) j = if j = xss.length then u else rowN xss j := by
  unfold rowN
  simp only [List.getD_eq_getElem?_getD]
  split
  · rename_i k; subst k; simp
  · rename_i k
    rcases Nat.lt_or_ge j xss.length with g | g
    · rw [List.getElem?_append_left g]
    · rw [List.getElem?_eq_none (by simp; omega), List.getElem?_eq_none (by omega)]
theorem eq_of_rowN {xs ys : List (List Int)} (hl : xs.length = ys.length) (h : ∀ i, i < xs.length → rowN xs i = rowN ys i) : xs = ys := by
  refine List.ext_getElem hl fun i h1 h2 => ?_
  have := h i h1
  rwa [rowN_get h1, rowN_get h2] at this
/-- How many numbers stand in the first rows. -/
def pre (xss : List (List Int)) : Nat → Nat
  | 0 => 0
  | i + 1 => pre xss i + (rowN xss i).length
theorem pre_mono (xss : List (List Int)) {i j : Nat} (h : i ≤ j) : pre xss i ≤ pre xss j := by
  induction j with
  | zero => rw [show i = 0 by omega]; exact Nat.le_refl _
  | succ j ih =>
    rcases Nat.lt_or_ge j i with k | k
    · rw [show i = j + 1 by omega]; exact Nat.le_refl _
    · have := ih k; rw [pre]; omega
theorem pre_congr {xss yss : List (List Int)} {n : Nat} (h : ∀ i, i < n → (rowN xss i).length = (rowN yss i).length) : ∀ i, i ≤ n → pre xss i = pre yss i := by
  intro i
  induction i with
  | zero => intro _; rfl
  | succ i ih => intro hi; rw [pre, pre, ih (by omega), h i (by omega)]
def tot (xss : List (List Int)) : Nat := pre xss xss.length

/-- What a slice of slices of ints holds. -/
structure Rws (w : World) (a : Option Addr) (n cap : Nat) (xss : List (List Int)) : Prop where
  len : Hid (xss.length = n)
  ncap : n ≤ cap
  small : n ≤ 17592186044416
  capm : cap ≤ 9223372036854775807
  row : Hid (∀ i, i < n → ∃ b off r m c, a = some ⟨b, off, none⟩ ∧ b < w.heap.size ∧ w.cell? ⟨b, off + i, none⟩ = some (.slice r m c) ∧ Ints w r m c (rowN xss i))
  nilc : Hid (a = none → cap = 0)
theorem Rws.at {w : World} {a : Option Addr} {n cap : Nat} {xss : List (List Int)} (h : Rws w a n cap xss) {i : Nat} (hi : i < n) :
    ∃ b off r m c, a = some ⟨b, off, none⟩ ∧ b < w.heap.size ∧ w.cell? ⟨b, off + i, none⟩ = some (.slice r m c) ∧ Ints w r m c (rowN xss i) := h.row.out i hi
theorem Rws.below {w w' : World} {a : Option Addr} {n cap : Nat} {xss : List (List Int)} (h : Rws w a n cap xss) (hb : Below w.heap.size w w') : Rws w' a n cap xss := by
  refine ⟨h.len, h.ncap, h.small, h.capm, fun i hi => ?_, h.nilc⟩
  obtain ⟨b, off, r, m, c, e, hl, hc, hr⟩ := h.at hi
  exact ⟨b, off, r, m, c, e, Nat.lt_of_lt_of_le hl hb.size, (hb.cell (p := ⟨b, off + i, none⟩) hl).trans hc, hr.below hb⟩
theorem Rws.alloc {w : World} {a : Option Addr} {n cap : Nat} {xss : List (List Int)} (h : Rws w a n cap xss) (o : Obj) : Rws (w.alloc o) a n cap xss := h.below (bel_alloc _ _)
theorem Rws.nil {w : World} : Rws w none 0 0 [] := ⟨rfl, by omega, by omega, by omega, fun i hi => by omega, fun _ => rfl⟩
theorem Rws.rowLen {w : World} {a : Option Addr} {n cap : Nat} {xss : List (List Int)} (h : Rws w a n cap xss) {i : Nat} (hi : i < n) : (rowN xss i).length ≤ 17592186044416 := by
  obtain ⟨b, off, r, m, c, e, hl, hc, hr⟩ := h.at hi
  rw [hr.len.out]; exact hr.small

/-- Slices of slices among a law's arguments. -/
def RowsIn (w : World) (a : Option Addr) (n c : Nat) (xss : List (List Int)) : Prop :=
  n ≤ 9223372036854775807 ∧ (n ≤ 1048576 → xss.length = n ∧ n ≤ c ∧ c ≤ 9223372036854775807 ∧ (a = none → c = 0) ∧
    ∀ i, i < n → ∃ b off r m k, a = some ⟨b, off, none⟩ ∧ b < w.heap.size ∧ w.cell? ⟨b, off + i, none⟩ = some (.slice r m k) ∧ IntsIn w r m k (rowN xss i))
theorem RowsIn.nil {w : World} : RowsIn w none 0 0 [] := ⟨by omega, fun _ => ⟨rfl, by omega, by omega, fun _ => rfl, fun i hi => by omega⟩⟩
theorem addr_of_spot {x : Addr} {i : Nat} (h0 : x.spot = none) : x.add i = ⟨x.block, x.off + i, none⟩ := by
  obtain ⟨b, off, spot⟩ := x
  simp only at h0
  subst h0
  unfold Addr.add; split
  · rename_i h0; subst h0; rfl
  · rfl
theorem RowsIn.of {w : World} {base : Nat} {x : Addr} {l c : Nat} {A : Nat → Option Addr} {L C : Nat → Nat} {Z : Nat → List Int} (hl : l ≤ c) (hm : c ≤ maxLen)
    (hx : ∀ r, r < c → w.cell? (x.add r) = some (.slice (A r) (L r) (C r)) ∧ L r ≤ C r ∧ C r ≤ maxLen ∧ (Z r).length = C r ∧ (∀ n ∈ Z r, (Lit.int .i64 n).wf = true) ∧ (A r = none → C r = 0) ∧
        ∀ a', A r = some a' → base ≤ a'.block ∧ ∀ k, k < C r → w.cell? (a'.add k) = some (.int .i64 ((Z r).getD k 0))) : ∃ zs, RowsIn w (some x) l c zs := by
  unfold maxLen at hm
  refine ⟨(List.range l).map fun r => (Z r).take (L r), by omega, fun hs => ⟨by simp, hl, hm, (fun e => by cases e), fun i hi => ?_⟩⟩
  obtain ⟨hc, h1, h2, h3, h4, h5, h6⟩ := hx i (by omega)
  have hsp : x.spot = none := by
    have := World.cell?_spot (hx 0 (by omega)).1
    simpa [Addr.add] using this
  rw [addr_of_spot hsp] at hc
  have hrow : rowN ((List.range l).map fun r => (Z r).take (L r)) i = (Z i).take (L i) := by simp [rowN, hi]
  obtain ⟨b, off, spot⟩ := x
  simp only at hsp; subst hsp
  refine ⟨b, off, A i, L i, C i, rfl, lt_of_cell hc, hc, ?_⟩
  rw [hrow]
  cases hA : A i with
  | none =>
    have := h5 hA
    have e1 : C i = 0 := this
    have e2 : L i = 0 := by omega
    rw [e1, e2, List.take_zero]
    exact IntsIn.nil
  | some a' => exact IntsIn.of h1 h2 h3 (fun k hk => (h6 a' hA).2 k (by omega)) h4

/-- Only blocks from lo up to hi have turned. -/
structure OnlyI (lo hi : Nat) (w w' : World) : Prop where
  os : w'.os = w.os
  tape : w'.tape = w.tape
  output : w'.output = w.output
  size : w.heap.size ≤ w'.heap.size
  block : ∀ k, ¬ (lo ≤ k ∧ k < hi) → w'.heap[k]? = w.heap[k]?
theorem OnlyI.refl (lo hi : Nat) (w : World) : OnlyI lo hi w w := ⟨rfl, rfl, rfl, Nat.le_refl _, fun _ _ => rfl⟩
theorem OnlyI.trans {lo hi : Nat} {a b c : World} (h : OnlyI lo hi a b) (k : OnlyI lo hi b c) : OnlyI lo hi a c :=
  ⟨k.os.trans h.os, k.tape.trans h.tape, k.output.trans h.output, Nat.le_trans h.size k.size, fun q hq => (k.block q hq).trans (h.block q hq)⟩
theorem OnlyM.onlyI {a : Option Addr} {n lo hi : Nat} {w w' : World} (h : OnlyM a n w w') (p : PlaceM a n lo hi) : OnlyI lo hi w w' :=
  ⟨h.os, h.tape, h.output, h.size, fun k hk => h.block k (fun hn g off e q => hk (by have := p hn g off e; omega))⟩
theorem Below.onlyI {b0 lo hi : Nat} {w0 w w' : World} (h : Below b0 w0 w) (ho : OnlyI lo hi w w') (hlo : b0 ≤ lo) : Below b0 w0 w' :=
  h.trans ⟨ho.os, ho.tape, ho.output, ho.size, fun k hk => ho.block k (by omega)⟩
theorem Ints.onlyI {w w' : World} {t : Option Addr} {n cap : Nat} {xs : List Int} {lo hi lo' hi' : Nat} (h : Ints w t n cap xs) (ho : OnlyI lo' hi' w w') (pt : PlaceM t n lo hi) (hd : hi ≤ lo' ∨ hi' ≤ lo) : Ints w' t n cap xs := by
  refine ⟨h.len, h.ncap, h.small, h.capm, fun i hi' => ?_, h.wf, h.nilc⟩
  obtain ⟨b, off, e, hl, hc⟩ := h.cell.out i hi'
  have h1 := pt (by omega) b off e
  exact ⟨b, off, e, Nat.lt_of_lt_of_le hl ho.size, (World.cell?_of_block (ho.block b (by omega))).trans hc⟩
theorem Mine.onlyI {w w' : World} {B : Nat} {t : Option Addr} {n cap : Nat} {xs : List Int} {lo hi lo' hi' : Nat} (h : Mine w B t n cap xs) (ho : OnlyI lo' hi' w w') (pt : PlaceM t n lo hi) (hd : hi ≤ lo' ∨ hi' ≤ lo) : Mine w' B t n cap xs :=
  ⟨h.ints.onlyI ho pt hd, fun hn b off e => ⟨(h.place.out hn b off e).1, Nat.lt_of_lt_of_le (h.place.out hn b off e).2 ho.size⟩,
   fun i hi b off e => (World.frozen?_of_block (ho.block b (by have h1 := pt (by omega) b off e; omega))).trans (h.free.out i hi b off e)⟩

/-- A slice of slices of ints that a call made itself, in the blocks from lo up to hi; everything may be written, no row lies in another one's block. -/
structure MineR (w : World) (lo hi : Nat) (a : Option Addr) (n cap : Nat) (xss : List (List Int)) : Prop where
  len : Hid (xss.length = n)
  ncap : n ≤ cap
  small : n ≤ 17592186044416
  capm : cap ≤ 9223372036854775807
  nilc : Hid (a = none → cap = 0)
  top : hi ≤ w.heap.size
  row : Hid (∀ i, i < n → ∃ b off r m c, a = some ⟨b, off, none⟩ ∧ lo ≤ b ∧ b < hi ∧ w.cell? ⟨b, off + i, none⟩ = some (.slice r m c) ∧ w.frozen? ⟨b, off + i, none⟩ = false ∧ Mine w lo r m c (rowN xss i) ∧ PlaceM r m lo hi ∧ (0 < m → ∀ o, r ≠ some ⟨b, o, none⟩))
  apart : Hid (∀ i j, i < n → j < n → i ≠ j → ∀ b off r m c r' m' c', a = some ⟨b, off, none⟩ → w.cell? ⟨b, off + i, none⟩ = some (.slice r m c) → w.cell? ⟨b, off + j, none⟩ = some (.slice r' m' c') → Apart r m r' m')
theorem MineR.at {w : World} {lo hi : Nat} {a : Option Addr} {n cap : Nat} {xss : List (List Int)} (h : MineR w lo hi a n cap xss) {i : Nat} (hn : i < n) :
    ∃ b off r m c, a = some ⟨b, off, none⟩ ∧ lo ≤ b ∧ b < hi ∧ w.cell? ⟨b, off + i, none⟩ = some (.slice r m c) ∧ w.frozen? ⟨b, off + i, none⟩ = false ∧ Mine w lo r m c (rowN xss i) ∧ PlaceM r m lo hi ∧ (0 < m → ∀ o, r ≠ some ⟨b, o, none⟩) := h.row.out i hn
theorem MineR.rows {w : World} {lo hi : Nat} {a : Option Addr} {n cap : Nat} {xss : List (List Int)} (h : MineR w lo hi a n cap xss) : Rws w a n cap xss := by
  refine ⟨h.len, h.ncap, h.small, h.capm, fun i hi => ?_, h.nilc⟩
  obtain ⟨b, off, r, m, c, e, _, hb, hc, _, hm, _⟩ := h.row.out i hi
  exact ⟨b, off, r, m, c, e, Nat.lt_of_lt_of_le hb h.top, hc, hm.ints⟩
theorem MineR.nil {w : World} {lo : Nat} (h : lo ≤ w.heap.size) : MineR w lo lo none 0 0 [] := ⟨rfl, by omega, by omega, by omega, fun _ => rfl, h, fun i hi => by omega, fun i j hi => by omega⟩
theorem MineR.nil' {w : World} {lo hi : Nat} (h : hi ≤ w.heap.size) : MineR w lo hi none 0 0 [] := ⟨rfl, by omega, by omega, by omega, fun _ => rfl, h, fun i hi => by omega, fun i j hi => by omega⟩
theorem MineR.below {w w' : World} {lo hi : Nat} {a : Option Addr} {n cap : Nat} {xss : List (List Int)} (h : MineR w lo hi a n cap xss) (hb : Below w.heap.size w w') : MineR w' lo hi a n cap xss := by
  have ht := h.top
  refine ⟨h.len, h.ncap, h.small, h.capm, h.nilc, Nat.le_trans h.top hb.size, fun i hi => ?_, fun i j hi hj hne b off r m c r' m' c' e h1 h2 => ?_⟩
  · obtain ⟨b, off, r, m, c, e, h1, h2, h3, h4, h5, h6, h7⟩ := h.row.out i hi
    exact ⟨b, off, r, m, c, e, h1, h2, (hb.cell (p := ⟨b, off + i, none⟩) (by show b < _; omega)).trans h3, (hb.frozen (p := ⟨b, off + i, none⟩) (by show b < _; omega)).trans h4, h5.below hb, h6, h7⟩
  · obtain ⟨b1, off1, _, _, _, e1, _, k1, _⟩ := h.row.out i hi
    rw [e1] at e
    simp only [Option.some.injEq, Addr.mk.injEq] at e
    obtain ⟨rfl, rfl, _⟩ := e
    rw [hb.cell (p := ⟨b1, off1 + i, none⟩) (by show b1 < _; omega)] at h1
    rw [hb.cell (p := ⟨b1, off1 + j, none⟩) (by show b1 < _; omega)] at h2
    exact h.apart.out i j hi hj hne b1 off1 r m c r' m' c' e1 h1 h2
theorem MineR.onlyI {w w' : World} {lo hi lo' hi' : Nat} {a : Option Addr} {n cap : Nat} {xss : List (List Int)} (h : MineR w lo hi a n cap xss) (ho : OnlyI lo' hi' w w') (hd : hi ≤ lo' ∨ hi' ≤ lo) : MineR w' lo hi a n cap xss := by
  refine ⟨h.len, h.ncap, h.small, h.capm, h.nilc, Nat.le_trans h.top ho.size, fun i hi => ?_, fun i j hi hj hne b off r m c r' m' c' e h1 h2 => ?_⟩
  · obtain ⟨b, off, r, m, c, e, h1, h2, h3, h4, h5, h6, h7⟩ := h.row.out i hi
    have hk := ho.block b (by omega)
    exact ⟨b, off, r, m, c, e, h1, h2, (World.cell?_of_block hk).trans h3, (World.frozen?_of_block hk).trans h4, h5.onlyI ho h6 hd, h6, h7⟩
  · obtain ⟨b1, off1, _, _, _, e1, q1, k1, _⟩ := h.row.out i hi
    rw [e1] at e
    simp only [Option.some.injEq, Addr.mk.injEq] at e
    obtain ⟨rfl, rfl, _⟩ := e
    have hk := ho.block b1 (by omega)
    rw [World.cell?_of_block (a := ⟨b1, off1 + i, none⟩) hk] at h1
    rw [World.cell?_of_block (a := ⟨b1, off1 + j, none⟩) hk] at h2
    exact h.apart.out i j hi hj hne b1 off1 r m c r' m' c' e1 h1 h2
theorem MineR.wider {w : World} {lo hi lo' hi' : Nat} {a : Option Addr} {n cap : Nat} {xss : List (List Int)} (h : MineR w lo hi a n cap xss) (h1 : lo' ≤ lo) (h2 : hi ≤ hi') (h3 : hi' ≤ w.heap.size) : MineR w lo' hi' a n cap xss := by
  refine ⟨h.len, h.ncap, h.small, h.capm, h.nilc, h3, fun i hi => ?_, h.apart⟩
  obtain ⟨b, off, r, m, c, e, k1, k2, k3, k4, k5, k6, k7⟩ := h.row.out i hi
  exact ⟨b, off, r, m, c, e, by omega, by omega, k3, k4, k5.base h1, fun hm b' o' e' => by have := k6 hm b' o' e'; omega, k7⟩
/-- Row i has been rewritten in place. -/
theorem MineR.turned {w w' : World} {lo hi : Nat} {a : Option Addr} {n cap : Nat} {xss : List (List Int)} (h : MineR w lo hi a n cap xss) {i : Nat} (hi' : i < n) {b off : Nat} {r : Option Addr} {m c : Nat} {ys : List Int}
    (e : a = some ⟨b, off, none⟩) (hc : w.cell? ⟨b, off + i, none⟩ = some (.slice r m c)) (hm : Mine w' lo r m c ys) (ho : OnlyM r m w w') : MineR w' lo hi a n cap (xss.set i ys) := by
  have hlen := h.len.out
  have same : ∀ j, j < n → w'.cell? ⟨b, off + j, none⟩ = w.cell? ⟨b, off + j, none⟩ ∧ w'.frozen? ⟨b, off + j, none⟩ = w.frozen? ⟨b, off + j, none⟩ := by
    intro j hj
    obtain ⟨b1, off1, r1, m1, c1, e1, q1, q2, q3, q4, q5, q6, q7⟩ := h.row.out i hi'
    rw [e1] at e
    simp only [Option.some.injEq, Addr.mk.injEq] at e
    obtain ⟨rfl, rfl, _⟩ := e
    rw [hc] at q3
    simp only [Option.some.injEq, Value.slice.injEq] at q3
    obtain ⟨rfl, rfl, rfl⟩ := q3
    have hk := ho.block b1 (fun hm g o e' q => q7 hm o (by rw [e', q]))
    exact ⟨World.cell?_of_block hk, World.frozen?_of_block hk⟩
  refine ⟨by show _ = _; rw [List.length_set]; exact hlen, h.ncap, h.small, h.capm, h.nilc, Nat.le_trans h.top ho.size, fun j hj => ?_, fun j k hj hk hne b1 off1 r1 m1 c1 r2 m2 c2 e1 h1 h2 => ?_⟩
  · obtain ⟨b1, off1, r1, m1, c1, e1, q1, q2, q3, q4, q5, q6, q7⟩ := h.row.out j hj
    rw [e1] at e
    simp only [Option.some.injEq, Addr.mk.injEq] at e
    obtain ⟨rfl, rfl, _⟩ := e
    rw [rowN_set (by omega)]
    by_cases ej : j = i
    · subst ej
      rw [hc] at q3
      simp only [Option.some.injEq, Value.slice.injEq] at q3
      obtain ⟨rfl, rfl, rfl⟩ := q3
      rw [if_pos rfl]
      exact ⟨b1, off1, r, m, c, e1, q1, q2, (same j hj).1.trans hc, (same j hj).2.trans q4, hm, q6, q7⟩
    · rw [if_neg ej]
      refine ⟨b1, off1, r1, m1, c1, e1, q1, q2, (same j hj).1.trans q3, (same j hj).2.trans q4, ?_, q6, q7⟩
      exact q5.onlyA ho (h.apart.out j i hj hi' ej b1 off1 r1 m1 c1 r m c e1 q3 hc)
  · rw [e1] at e
    simp only [Option.some.injEq, Addr.mk.injEq] at e
    obtain ⟨rfl, rfl, _⟩ := e
    rw [(same j hj).1] at h1
    rw [(same k hk).1] at h2
    exact h.apart.out j k hj hk hne b1 off1 r1 m1 c1 r2 m2 c2 e1 h1 h2
/-- A new row is stored at i. -/
theorem MineR.store {w : World} {lo hi hi2 : Nat} {b off : Nat} {n cap : Nat} {xss : List (List Int)} (h : MineR w lo hi (some ⟨b, off, none⟩) n cap xss) {i : Nat} (hi' : i < n) {r : Option Addr} {m c : Nat} {ys : List Int}
    (hm : Mine w lo r m c ys) (hp : PlaceM r m hi hi2) (h12 : hi ≤ hi2) (htop : hi2 ≤ w.heap.size) : MineR (w.setCell ⟨b, off + i, none⟩ (.slice r m c)) lo hi2 (some ⟨b, off, none⟩) n cap (xss.set i ys) := by
  have hlen := h.len.out
  obtain ⟨b0, off0, r0, m0, c0, e0, q1, q2, q3, q4, q5, q6, q7⟩ := h.row.out i hi'
  simp only [Option.some.injEq, Addr.mk.injEq] at e0
  obtain ⟨rfl, rfl, _⟩ := e0
  have hsame : (w.setCell ⟨b, off + i, none⟩ (.slice r m c)).cell? ⟨b, off + i, none⟩ = some (.slice r m c) := World.cell?_setCell_same _ _ _ q3
  have hoth : ∀ j, j ≠ i → (w.setCell ⟨b, off + i, none⟩ (.slice r m c)).cell? ⟨b, off + j, none⟩ = w.cell? ⟨b, off + j, none⟩ := fun j hj => World.cell?_setCell_other _ _ _ _ (by intro e; simp at e <;> omega)
  have hfro : ∀ p, (w.setCell ⟨b, off + i, none⟩ (.slice r m c)).frozen? p = w.frozen? p := fun p => by simp
  have hon : OnlyM (some ⟨b, off, none⟩) n w (w.setCell ⟨b, off + i, none⟩ (.slice r m c)) := (OnlyM.refl _ _ _).setCell (by omega) _
  have far : ∀ {r1 : Option Addr} {m1 c1 : Nat} {zs : List Int}, Mine w lo r1 m1 c1 zs → (0 < m1 → ∀ o, r1 ≠ some ⟨b, o, none⟩) → Mine (w.setCell ⟨b, off + i, none⟩ (.slice r m c)) lo r1 m1 c1 zs := fun hz hne =>
    hz.onlyA hon (fun h1 _ g o g' o' e e' q => by
      simp only [Option.some.injEq, Addr.mk.injEq] at e'
      obtain ⟨rfl, _, _⟩ := e'
      subst q
      exact hne h1 o e)
  have hnew : 0 < m → ∀ o, r ≠ some ⟨b, o, none⟩ := fun h0 o e => by have := hp h0 b o e; omega
  refine ⟨by show _ = _; rw [List.length_set]; exact hlen, h.ncap, h.small, h.capm, h.nilc, by simpa [World.setCell] using htop, fun j hj => ?_, fun j k hj hk hne b1 off1 r1 m1 c1 r2 m2 c2 e1 h1 h2 => ?_⟩
  · rw [rowN_set (by omega)]
    by_cases ej : j = i
    · subst ej
      rw [if_pos rfl]
      exact ⟨b, off, r, m, c, rfl, q1, by omega, hsame, (hfro _).trans q4, far hm hnew, fun h0 g o e => by have := hp h0 g o e; omega, hnew⟩
    · rw [if_neg ej]
      obtain ⟨b1, off1, r1, m1, c1, e1, k1, k2, k3, k4, k5, k6, k7⟩ := h.row.out j hj
      simp only [Option.some.injEq, Addr.mk.injEq] at e1
      obtain ⟨rfl, rfl, _⟩ := e1
      exact ⟨b, off, r1, m1, c1, rfl, k1, by omega, (hoth j ej).trans k3, (hfro _).trans k4, far k5 k7, fun h0 g o e => by have := k6 h0 g o e; omega, k7⟩
  · simp only [Option.some.injEq, Addr.mk.injEq] at e1
    obtain ⟨rfl, rfl, _⟩ := e1
    have old : ∀ q, q < n → q ≠ i → ∀ r1 m1 c1, w.cell? ⟨b, off + q, none⟩ = some (.slice r1 m1 c1) → PlaceM r1 m1 lo hi := by
      intro q hq _ r1 m1 c1 hc1
      obtain ⟨b1, off1, r3, m3, c3, e3, _, _, k3, _, _, k6, _⟩ := h.row.out q hq
      simp only [Option.some.injEq, Addr.mk.injEq] at e3
      obtain ⟨rfl, rfl, _⟩ := e3
      rw [hc1] at k3
      simp only [Option.some.injEq, Value.slice.injEq] at k3
      obtain ⟨rfl, rfl, rfl⟩ := k3
      exact k6
    by_cases ej : j = i
    · subst ej
      rw [hsame] at h1
      simp only [Option.some.injEq, Value.slice.injEq] at h1
      obtain ⟨rfl, rfl, rfl⟩ := h1
      rw [hoth k (fun q => hne q.symm)] at h2
      exact Apart.of hp (old k hk (fun q => hne q.symm) _ _ _ h2) (Or.inr (Nat.le_refl _))
    · rw [hoth j ej] at h1
      by_cases ek : k = i
      · subst ek
        rw [hsame] at h2
        simp only [Option.some.injEq, Value.slice.injEq] at h2
        obtain ⟨rfl, rfl, rfl⟩ := h2
        exact Apart.of (old j hj ej _ _ _ h1) hp (Or.inl (Nat.le_refl _))
      · rw [hoth k ek] at h2
        exact h.apart.out j k hj hk hne b off r1 m1 c1 r2 m2 c2 rfl h1 h2
/-- What the laws write into a slice of slices. -/
def marksR (k : Int) (xss : List (List Int)) : List (List Int) := (List.range xss.length).map fun (i : Nat) => marks (k + (pre xss i : Nat)) (rowN xss i).length
theorem marksR_len (k : Int) (xss : List (List Int)) : (marksR k xss).length = xss.length := by simp [marksR]
theorem rowN_marksR {k : Int} {xss : List (List Int)} {i : Nat} (hi : i < xss.length) : rowN (marksR k xss) i = marks (k + (pre xss i : Nat)) (rowN xss i).length := by simp [rowN, marksR, hi]
end Go.Proofs.Ytfichpppjpgahaa
