/-
  Slices of numbers that a call itself has made: owned, readable, writable; plain facts on worlds.
-/
import Derived.Test.YtfichpppjpgahaaPlain
namespace Go.Proofs.Ytfichpppjpgahaa
open Go.RowKit
set_option linter.unusedVariables false
set_option linter.unusedSimpArgs false

/-- The numbers as values. -/
def ivs (xs : List Int) : List Value := xs.map (Value.int .i64)
theorem ivs_len (xs : List Int) : (ivs xs).length = xs.length := by simp [ivs]
theorem ivs_snoc (xs : List Int) (x : Int) : ivs (xs ++ [x]) = ivs xs ++ [.int .i64 x] := by simp [ivs]

/-- A slice of n ints that the call made (its row lies in a block from B on). -/
structure OwnI (E : TypeId) (w : World) (B : Nat) (a : Option Addr) (n cap : Nat) (xs : List Int) : Prop where
  ints : Ints w a n cap xs
  own : w.ownsRow B E 1 (.slice a n cap) n (ivs xs)

theorem OwnI.of {E : TypeId} {w : World} {B : Nat} {v : Value} {n : Nat} {xs : List Int} (h : w.ownsRow B E 1 v n (ivs xs)) (hs : n ≤ 17592186044416) (hf : ∀ x ∈ xs, Fits x) :
    ∃ a cap, v = .slice a n cap ∧ OwnI E w B a n cap xs := by
  have hl : xs.length = n := by have := h.1; rw [ivs_len] at this; omega
  have h' := h
  obtain ⟨_, h2⟩ := h
  rcases h2 with ⟨rfl, rfl⟩ | ⟨g, cap, cur, rfl, hg, hh, hn, hm, hc, ht⟩
  · exact ⟨none, 0, rfl, ⟨hl, by omega, by omega, by decide, fun i hi => by omega, hf, fun _ => rfl⟩, h'⟩
  · refine ⟨_, cap, rfl, ⟨hl, hn, hs, by unfold maxLen at hm; omega, fun i hi => ⟨g, 0, rfl, ?_, ?_⟩, hf, fun e => by cases e⟩, h'⟩
    · rcases Nat.lt_or_ge g w.heap.size with k | k
      · exact k
      · rw [Array.getElem?_eq_none k] at hh; cases hh
    · rw [Nat.zero_add, World.ownsRow.cellAt h' i (by omega)]
      simp [ivs, nth, hl, hi]

theorem OwnI.nil {E : TypeId} {w : World} {B : Nat} : OwnI E w B none 0 0 [] :=
  ⟨⟨rfl, by omega, by omega, by decide, fun i hi => by omega, fun x hx => by simp at hx, fun _ => rfl⟩, World.ownsRow_nil _ _ _ _⟩

theorem heap_of_below {w w' : World} (hb : Below w.heap.size w w') {g : Nat} {o : Obj} (h : w.heap[g]? = some o) : w'.heap[g]? = some o := by
  rw [hb.block g ?_]
  · exact h
  · rcases Nat.lt_or_ge g w.heap.size with k | k
    · exact k
    · rw [Array.getElem?_eq_none k] at h; cases h

theorem ownsRow_below {E : TypeId} {w w' : World} {B s n : Nat} {v : Value} {xs : List Value} (h : w.ownsRow B E s v n xs) (hb : Below w.heap.size w w') : w'.ownsRow B E s v n xs := by
  obtain ⟨h1, h2⟩ := h
  refine ⟨h1, ?_⟩
  rcases h2 with h2 | ⟨g, cap, cur, hv, hg, hh, r⟩
  · exact .inl h2
  · exact .inr ⟨g, cap, cur, hv, hg, heap_of_below hb hh, r⟩

theorem OwnI.below {E : TypeId} {w w' : World} {B : Nat} {a : Option Addr} {n cap : Nat} {xs : List Int} (h : OwnI E w B a n cap xs) (hb : Below w.heap.size w w') : OwnI E w' B a n cap xs :=
  ⟨h.ints.below hb, ownsRow_below h.own hb⟩

theorem ownsRow_base {E : TypeId} {w : World} {B B' s n : Nat} {v : Value} {xs : List Value} (h : w.ownsRow B E s v n xs) (hB : B' ≤ B) : w.ownsRow B' E s v n xs := by
  obtain ⟨h1, h2⟩ := h
  refine ⟨h1, ?_⟩
  rcases h2 with h2 | ⟨g, cap, cur, hv, hg, r⟩
  · exact .inl h2
  · exact .inr ⟨g, cap, cur, hv, Nat.le_trans hB hg, r⟩
theorem OwnI.base {E : TypeId} {w : World} {B B' : Nat} {a : Option Addr} {n cap : Nat} {xs : List Int} (h : OwnI E w B a n cap xs) (hB : B' ≤ B) : OwnI E w B' a n cap xs := ⟨h.ints, ownsRow_base h.own hB⟩

/-- The i-th place of an owned slice: its cell and that it may be written. -/
theorem OwnI.at {E : TypeId} {w : World} {B : Nat} {a : Option Addr} {n cap : Nat} {xs : List Int} (h : OwnI E w B a n cap xs) {i : Nat} (hi : i < n) :
    ∃ g, a = some ⟨g, 0, none⟩ ∧ B ≤ g ∧ g < w.heap.size ∧ w.cell? ⟨g, i, none⟩ = some (.int .i64 (nth xs i)) ∧ w.frozen? ⟨g, i, none⟩ = false := by
  have h' := h.own
  obtain ⟨_, h2⟩ := h'
  rcases h2 with ⟨_, rfl⟩ | ⟨g, cap', cur, hv, hg, hh, hn, hm, hc, ht⟩
  · omega
  · simp only [Value.slice.injEq] at hv
    obtain ⟨rfl, _, rfl⟩ := hv
    obtain ⟨b, off, e, hl, hcell⟩ := h.ints.at hi
    simp only [Option.some.injEq, Addr.mk.injEq] at e
    obtain ⟨rfl, rfl, _⟩ := e
    exact ⟨g, rfl, hg, hl, by simpa using hcell, World.ownsRow.frozenAt h.own i⟩

/-- Behind a store into its i-th place. -/
theorem OwnI.set {E : TypeId} {w : World} {B g : Nat} {n cap : Nat} {xs : List Int} (h : OwnI E w B (some ⟨g, 0, none⟩) n cap xs) {i : Nat} (hi : i < n) (u : Int) (hu : Fits u) :
    OwnI E (w.setCell ⟨g, i, none⟩ (.int .i64 u)) B (some ⟨g, 0, none⟩) n cap (xs.set i u) := by
  have e : ivs (xs.set i u) = (ivs xs).set i (.int .i64 u) := by simp [ivs, List.map_set]
  have hs := World.ownsRow.stored h.own i (.int .i64 u)
  rw [← e] at hs
  obtain ⟨a, cap', hv, r⟩ := OwnI.of hs.1 h.ints.small (fun x hx => by
    rcases List.mem_or_eq_of_mem_set hx with k | k
    · exact h.ints.wf.out x k
    · rw [k]; exact hu)
  simp only [Value.slice.injEq] at hv
  obtain ⟨rfl, _, rfl⟩ := hv
  exact r

theorem nth_set {xs : List Int} {i j : Nat} {u : Int} (hi : i < xs.length) : nth (xs.set i u) j = if j = i then u else nth xs j := by
  unfold nth
  simp only [List.getD_eq_getElem?_getD, List.getElem?_set]
  split
  · rename_i k; subst k; simp [hi]
  · rename_i k; rw [if_neg (fun e => k e.symm)]

/-- An owned row grows by append: what the law leaves, read as a slice of numbers. -/
theorem below_grown_own {E : TypeId} {w w' : World} {B s n : Nat} {v : Value} {xs : List Value} (h : w.ownsRow B E s v n xs) (hg : w.grownBy w' v.ownBlock) (hB : B ≤ w.heap.size) : Below B w w' :=
  (Below.refl B w).grown hg hB (fun k hk => ((h.lt) k hk).1)

/-- Where a slice of the call's own lies. -/
def Place (a : Option Addr) (lo hi : Nat) : Prop := ∀ g off, a = some ⟨g, off, none⟩ → lo ≤ g ∧ g < hi
theorem OwnI.place {E : TypeId} {w : World} {B : Nat} {a : Option Addr} {n cap : Nat} {xs : List Int} (h : OwnI E w B a n cap xs) : Place a B w.heap.size := by
  intro g off e
  obtain ⟨_, h2⟩ := h.own
  rcases h2 with ⟨hv, _⟩ | ⟨g', cap', cur, hv, hg, hh, _⟩
  · simp only [Value.slice.injEq] at hv; rw [hv.1] at e; cases e
  · simp only [Value.slice.injEq] at hv
    rw [hv.1] at e
    simp only [Option.some.injEq, Addr.mk.injEq] at e
    obtain ⟨rfl, _, _⟩ := e
    refine ⟨hg, ?_⟩
    rcases Nat.lt_or_ge g' w.heap.size with k | k
    · exact k
    · rw [Array.getElem?_eq_none k] at hh; cases hh

/-- Only the row of one slice has turned. -/
structure Only (a : Option Addr) (w w' : World) : Prop where
  os : w'.os = w.os
  tape : w'.tape = w.tape
  output : w'.output = w.output
  size : w.heap.size ≤ w'.heap.size
  block : ∀ k, (∀ g off, a = some ⟨g, off, none⟩ → k ≠ g) → w'.heap[k]? = w.heap[k]?
theorem Only.refl (a : Option Addr) (w : World) : Only a w w := ⟨rfl, rfl, rfl, Nat.le_refl _, fun _ _ => rfl⟩
theorem Only.setCell {g i : Nat} {w w' : World} (h : Only (some ⟨g, 0, none⟩) w w') (u : Value) : Only (some ⟨g, 0, none⟩) w (w'.setCell ⟨g, i, none⟩ u) :=
  ⟨h.os, h.tape, h.output, by simpa [World.setCell] using h.size, fun k hne => (Below.heap_setCell _ _ _ _ (hne g 0 rfl)).trans (h.block k hne)⟩
theorem Below.only {b0 : Nat} {w0 w w' : World} {a : Option Addr} {lo hi : Nat} (h : Below b0 w0 w) (ho : Only a w w') (ps : Place a lo hi) (hlo : b0 ≤ lo) : Below b0 w0 w' :=
  h.trans ⟨ho.os, ho.tape, ho.output, ho.size, fun k hk => ho.block k (fun g off e => by have := (ps g off e).1; omega)⟩
theorem OwnI.only {E : TypeId} {w w' : World} {B : Nat} {a t : Option Addr} {n cap : Nat} {xs : List Int} {lo hi lo' hi' : Nat} (h : OwnI E w B t n cap xs) (ho : Only a w w') (pt : Place t lo hi) (pa : Place a lo' hi') (hd : hi ≤ lo' ∨ hi' ≤ lo) : OwnI E w' B t n cap xs := by
  have hkeep : w'.ownsRow B E 1 (.slice t n cap) n (ivs xs) := by
    obtain ⟨h1, h2⟩ := h.own
    refine ⟨h1, ?_⟩
    rcases h2 with h2 | ⟨g, cap', cur, hv, hg, hh, r⟩
    · exact .inl h2
    · refine .inr ⟨g, cap', cur, hv, hg, ?_, r⟩
      simp only [Value.slice.injEq] at hv
      have h3 := pt g 0 hv.1
      rw [ho.block g (fun g' off e => by have := pa g' off e; omega)]
      exact hh
  obtain ⟨a', cap', hv, r⟩ := OwnI.of hkeep h.ints.small h.ints.wf.out
  simp only [Value.slice.injEq] at hv
  obtain ⟨rfl, _, rfl⟩ := hv
  exact r

/-- A slice of n ints in memory of a call's own (from block B on), that may be written. -/
structure Mine (w : World) (B : Nat) (a : Option Addr) (n cap : Nat) (xs : List Int) : Prop where
  ints : Ints w a n cap xs
  place : Hid (0 < n → ∀ b off, a = some ⟨b, off, none⟩ → B ≤ b ∧ b < w.heap.size)
  free : Hid (∀ i, i < n → ∀ b off, a = some ⟨b, off, none⟩ → w.frozen? ⟨b, off + i, none⟩ = false)
def PlaceM (a : Option Addr) (n lo hi : Nat) : Prop := 0 < n → ∀ b off, a = some ⟨b, off, none⟩ → lo ≤ b ∧ b < hi
theorem Mine.pl {w : World} {B : Nat} {a : Option Addr} {n cap : Nat} {xs : List Int} (h : Mine w B a n cap xs) : PlaceM a n B w.heap.size := h.place.out
theorem OwnI.mine {E : TypeId} {w : World} {B : Nat} {a : Option Addr} {n cap : Nat} {xs : List Int} (h : OwnI E w B a n cap xs) : Mine w B a n cap xs :=
  ⟨h.ints, fun _ b off e => h.place b off e, fun i hi b off e => by
    obtain ⟨g, e', _, _, _, hf⟩ := h.at hi
    rw [e'] at e
    simp only [Option.some.injEq, Addr.mk.injEq] at e
    obtain ⟨rfl, rfl, _⟩ := e
    simpa using hf⟩
theorem Mine.of {E : TypeId} {w : World} {B : Nat} {v : Value} {n : Nat} {xs : List Int} (h : w.ownsRow B E 1 v n (ivs xs)) (hs : n ≤ 17592186044416) (hf : ∀ x ∈ xs, Fits x) :
    ∃ a cap, v = .slice a n cap ∧ Mine w B a n cap xs := by
  obtain ⟨a, cap, hv, ho⟩ := OwnI.of h hs hf
  exact ⟨a, cap, hv, ho.mine⟩
theorem Mine.nil {w : World} {B : Nat} : Mine w B none 0 0 [] := (OwnI.nil (E := 0)).mine
theorem Mine.base {w : World} {B B' : Nat} {a : Option Addr} {n cap : Nat} {xs : List Int} (h : Mine w B a n cap xs) (hB : B' ≤ B) : Mine w B' a n cap xs :=
  ⟨h.ints, fun hn b off e => ⟨Nat.le_trans hB (h.place.out hn b off e).1, (h.place.out hn b off e).2⟩, h.free⟩
theorem Mine.at {w : World} {B : Nat} {a : Option Addr} {n cap : Nat} {xs : List Int} (h : Mine w B a n cap xs) {i : Nat} (hi : i < n) :
    ∃ b off, a = some ⟨b, off, none⟩ ∧ B ≤ b ∧ b < w.heap.size ∧ w.cell? ⟨b, off + i, none⟩ = some (.int .i64 (nth xs i)) ∧ w.frozen? ⟨b, off + i, none⟩ = false := by
  obtain ⟨b, off, e, hl, hc⟩ := h.ints.at hi
  exact ⟨b, off, e, (h.place.out (by omega) b off e).1, hl, hc, h.free.out i hi b off e⟩
theorem Mine.below {w w' : World} {B : Nat} {a : Option Addr} {n cap : Nat} {xs : List Int} (h : Mine w B a n cap xs) (hb : Below w.heap.size w w') : Mine w' B a n cap xs :=
  ⟨h.ints.below hb, fun hn b off e => ⟨(h.place.out hn b off e).1, Nat.lt_of_lt_of_le (h.place.out hn b off e).2 hb.size⟩,
   fun i hi b off e => (hb.frozen (p := ⟨b, off + i, none⟩) (h.place.out (by omega) b off e).2).trans (h.free.out i hi b off e)⟩

/-- Only the row of one slice (of n elements) has turned. -/
structure OnlyM (a : Option Addr) (n : Nat) (w w' : World) : Prop where
  os : w'.os = w.os
  tape : w'.tape = w.tape
  output : w'.output = w.output
  size : w.heap.size ≤ w'.heap.size
  block : ∀ k, (0 < n → ∀ g off, a = some ⟨g, off, none⟩ → k ≠ g) → w'.heap[k]? = w.heap[k]?
theorem OnlyM.refl (a : Option Addr) (n : Nat) (w : World) : OnlyM a n w w := ⟨rfl, rfl, rfl, Nat.le_refl _, fun _ _ => rfl⟩
theorem OnlyM.setCell {g o i n : Nat} {w w' : World} (h : OnlyM (some ⟨g, o, none⟩) n w w') (hn : 0 < n) (u : Value) : OnlyM (some ⟨g, o, none⟩) n w (w'.setCell ⟨g, i, none⟩ u) :=
  ⟨h.os, h.tape, h.output, by simpa [World.setCell] using h.size, fun k hne => (Below.heap_setCell _ _ _ _ (hne hn g o rfl)).trans (h.block k hne)⟩
theorem Below.onlyM {b0 n : Nat} {w0 w w' : World} {a : Option Addr} {lo hi : Nat} (h : Below b0 w0 w) (ho : OnlyM a n w w') (ps : PlaceM a n lo hi) (hlo : b0 ≤ lo) : Below b0 w0 w' :=
  h.trans ⟨ho.os, ho.tape, ho.output, ho.size, fun k hk => ho.block k (fun hn g off e => by have := (ps hn g off e).1; omega)⟩
theorem Ints.onlyM {w w' : World} {a t : Option Addr} {n m cap : Nat} {xs : List Int} {lo hi lo' hi' : Nat} (h : Ints w t n cap xs) (ho : OnlyM a m w w') (pt : PlaceM t n lo hi) (pa : PlaceM a m lo' hi') (hd : hi ≤ lo' ∨ hi' ≤ lo) : Ints w' t n cap xs := by
  refine ⟨h.len, h.ncap, h.small, h.capm, fun i hi' => ?_, h.wf, h.nilc⟩
  obtain ⟨b, off, e, hl, hc⟩ := h.cell.out i hi'
  have h1 := pt (by omega) b off e
  exact ⟨b, off, e, Nat.lt_of_lt_of_le hl ho.size, (World.cell?_of_block (ho.block b (fun hm g o e' => by have := pa hm g o e'; omega))).trans hc⟩
theorem Mine.onlyM {w w' : World} {B : Nat} {a t : Option Addr} {n m cap : Nat} {xs : List Int} {lo hi lo' hi' : Nat} (h : Mine w B t n cap xs) (ho : OnlyM a m w w') (pt : PlaceM t n lo hi) (pa : PlaceM a m lo' hi') (hd : hi ≤ lo' ∨ hi' ≤ lo) : Mine w' B t n cap xs :=
  ⟨h.ints.onlyM ho pt pa hd, fun hn b off e => ⟨(h.place.out hn b off e).1, Nat.lt_of_lt_of_le (h.place.out hn b off e).2 ho.size⟩,
   fun i hi' b off e => (World.frozen?_of_block (ho.block b (fun hm g o e' => by have h1 := pt (by omega) b off e; have := pa hm g o e'; omega))).trans (h.free.out i hi' b off e)⟩
theorem Mine.set {w : World} {B b off : Nat} {n cap : Nat} {xs : List Int} (h : Mine w B (some ⟨b, off, none⟩) n cap xs) {i : Nat} (hi : i < n) (u : Int) (hu : Fits u) :
    Mine (w.setCell ⟨b, off + i, none⟩ (.int .i64 u)) B (some ⟨b, off, none⟩) n cap (xs.set i u) := by
  have hlen := h.ints.len.out
  refine ⟨⟨by show _ = _; rw [List.length_set]; exact hlen, h.ints.ncap, h.ints.small, h.ints.capm, fun j hj => ⟨b, off, rfl, ?_, ?_⟩, fun x hx => ?_, fun e => by cases e⟩, fun hn b' off' e => ?_, fun j hj b' off' e => ?_⟩
  · obtain ⟨b', off', e, hl, _⟩ := h.ints.at hj
    simp only [Option.some.injEq, Addr.mk.injEq] at e
    obtain ⟨rfl, _, _⟩ := e
    simpa [World.setCell] using hl
  · obtain ⟨b', off', e, hl, hc⟩ := h.ints.at hj
    simp only [Option.some.injEq, Addr.mk.injEq] at e
    obtain ⟨rfl, rfl, _⟩ := e
    rw [nth_set (by rw [hlen]; exact hi)]
    by_cases ej : j = i
    · subst ej; rw [if_pos rfl]; exact World.cell?_setCell_same _ _ _ hc
    · rw [if_neg ej, World.cell?_setCell_other _ _ _ _ (by intro e; simp at e <;> omega)]; exact hc
  · rcases List.mem_or_eq_of_mem_set hx with k | k
    · exact h.ints.wf.out x k
    · rw [k]; exact hu
  · have := h.place.out hn b' off' e
    exact ⟨this.1, by simpa [World.setCell] using this.2⟩
  · have := h.free.out j hj b' off' e
    simpa using this

/-- Slices of ints among a law's arguments: whatever their length; read where it is at most 1048576. -/
def IntsIn (w : World) (a : Option Addr) (n c : Nat) (zs : List Int) : Prop := n ≤ 9223372036854775807 ∧ (n ≤ 1048576 → Ints w a n c zs)
theorem IntsIn.nil {w : World} : IntsIn w none 0 0 [] := ⟨by omega, fun _ => (Mine.nil (B := 0)).ints⟩
theorem IntsIn.of {w : World} {x : Addr} {l c : Nat} {zs : List Int} (hl : l ≤ c) (hm : c ≤ maxLen) (hz : zs.length = c) (hcell : ∀ i, i < zs.length → w.cell? (x.add i) = some (.int .i64 (zs.getD i 0)))
    (hwz : ∀ n ∈ zs, (Lit.int .i64 n).wf = true) : IntsIn w (some x) l c (zs.take l) := by
  unfold maxLen at hm
  refine ⟨by omega, fun hs => ⟨by show _ = _; rw [List.length_take]; omega, hl, by omega, hm, fun i hi => ?_, fun y hy => fits_wf (hwz y (List.mem_of_mem_take hy)), fun e => by cases e⟩⟩
  have hc := hcell i (by omega)
  obtain ⟨b, off, spot⟩ := x
  have hspot : spot = none := by
    have := World.cell?_spot (hcell 0 (by omega))
    simpa [Addr.add] using this
  subst hspot
  have e : (⟨b, off, none⟩ : Addr).add i = ⟨b, off + i, none⟩ := by
    unfold Addr.add; split
    · rename_i h0; subst h0; rfl
    · rfl
  rw [e] at hc
  refine ⟨b, off, rfl, lt_of_cell hc, ?_⟩
  rw [hc]
  have : nth (zs.take l) i = zs.getD i 0 := by
    unfold nth
    simp [List.getElem?_take, hi]
  rw [this]

/-- k, k + 1, .. : what the laws write into a result. -/
def marks (k : Int) (n : Nat) : List Int := (List.range n).map fun (i : Nat) => k + (i : Int)
theorem marks_len (k : Int) (n : Nat) : (marks k n).length = n := by simp [marks]
theorem nth_marks {k : Int} {n i : Nat} (hi : i < n) : nth (marks k n) i = k + i := by simp [nth, marks, hi]
theorem eq_of_nth {xs ys : List Int} (hl : xs.length = ys.length) (h : ∀ i, i < xs.length → nth xs i = nth ys i) : xs = ys := by
  refine List.ext_getElem hl fun i h1 h2 => ?_
  have := h i h1
  rwa [nth_get h1, nth_get h2] at this
end Go.Proofs.Ytfichpppjpgahaa
