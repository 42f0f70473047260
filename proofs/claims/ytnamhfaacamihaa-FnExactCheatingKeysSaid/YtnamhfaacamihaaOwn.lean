/-
  Slices of numbers that a call itself has made: owned, readable, writable; plain facts on worlds.
-/
import Derived.Test.YtnamhfaacamihaaPlain
namespace Go.Proofs.Ytnamhfaacamihaa
open Go.RowKit
set_option linter.unusedVariables false
set_option linter.unusedSimpArgs false

/-- The numbers as values. -/
def ivs (xs : List Int) : List Value := xs.map (Value.int .i64)
theorem ivs_len (xs : List Int) : (ivs xs).length = xs.length := by simp [ivs]
theorem ivs_snoc (xs : List Int) (x : Int) : ivs (xs ++ [x]) = ivs xs ++ [.int .i64 x] := by simp [ivs]

/-- A slice of n ints that the call made (its row lies in a block from B on). -/
structure OwnI (E : TypeId) (w : World) (B : Nat) (a : Option Addr) (n cap : Nat) (xs : List Int) : Prop where
  ints : Ints w a n cap xs
  own : w.ownsRow B E 1 (.slice a n cap) n (ivs xs)

theorem OwnI.of {E : TypeId} {w : World} {B : Nat} {v : Value} {n : Nat} {xs : List Int} (h : w.ownsRow B E 1 v n (ivs xs)) (hs : n ≤ 17592186044416) (hf : ∀ x ∈ xs, Fits x) :
    ∃ a cap, v = .slice a n cap ∧ OwnI E w B a n cap xs := by
  have hl : xs.length = n := by have := h.1; rw [ivs_len] at this; omega
  have h' := h
  obtain ⟨_, h2⟩ := h
  rcases h2 with ⟨rfl, rfl⟩ | ⟨g, cap, cur, rfl, hg, hh, hn, hm, hc, ht⟩
  · exact ⟨none, 0, rfl, ⟨hl, by omega, by omega, by decide, fun i hi => by omega, hf⟩, h'⟩
  · refine ⟨_, cap, rfl, ⟨hl, hn, hs, by unfold maxLen at hm; omega, fun i hi => ⟨g, 0, rfl, ?_, ?_⟩, hf⟩, h'⟩
    · rcases Nat.lt_or_ge g w.heap.size with k | k
      · exact k
      · rw [Array.getElem?_eq_none k] at hh; cases hh
    · rw [Nat.zero_add, World.ownsRow.cellAt h' i (by omega)]
      simp [ivs, nth, hl, hi]

theorem OwnI.nil {E : TypeId} {w : World} {B : Nat} : OwnI E w B none 0 0 [] :=
  ⟨⟨rfl, by omega, by omega, by decide, fun i hi => by omega, fun x hx => by simp at hx⟩, World.ownsRow_nil _ _ _ _⟩

theorem heap_of_below {w w' : World} (hb : Below w.heap.size w w') {g : Nat} {o : Obj} (h : w.heap[g]? = some o) : w'.heap[g]? = some o := by
  rw [hb.block g ?_]
  · exact h
  · rcases Nat.lt_or_ge g w.heap.size with k | k
    · exact k
    · rw [Array.getElem?_eq_none k] at h; cases h

theorem ownsRow_below {E : TypeId} {w w' : World} {B s n : Nat} {v : Value} {xs : List Value} (h : w.ownsRow B E s v n xs) (hb : Below w.heap.size w w') : w'.ownsRow B E s v n xs := by
  obtain ⟨h1, h2⟩ := h
  refine ⟨h1, ?_⟩
  rcases h2 with h2 | ⟨g, cap, cur, hv, hg, hh, r⟩
  · exact .inl h2
  · exact .inr ⟨g, cap, cur, hv, hg, heap_of_below hb hh, r⟩

theorem OwnI.below {E : TypeId} {w w' : World} {B : Nat} {a : Option Addr} {n cap : Nat} {xs : List Int} (h : OwnI E w B a n cap xs) (hb : Below w.heap.size w w') : OwnI E w' B a n cap xs :=
  ⟨h.ints.below hb, ownsRow_below h.own hb⟩

theorem ownsRow_base {E : TypeId} {w : World} {B B' s n : Nat} {v : Value} {xs : List Value} (h : w.ownsRow B E s v n xs) (hB : B' ≤ B) : w.ownsRow B' E s v n xs := by
  obtain ⟨h1, h2⟩ := h
  refine ⟨h1, ?_⟩
  rcases h2 with h2 | ⟨g, cap, cur, hv, hg, r⟩
  · exact .inl h2
  · exact .inr ⟨g, cap, cur, hv, Nat.le_trans hB hg, r⟩
theorem OwnI.base {E : TypeId} {w : World} {B B' : Nat} {a : Option Addr} {n cap : Nat} {xs : List Int} (h : OwnI E w B a n cap xs) (hB : B' ≤ B) : OwnI E w B' a n cap xs := ⟨h.ints, ownsRow_base h.own hB⟩

/-- The i-th place of an owned slice: its cell and that it may be written. -/
theorem OwnI.at {E : TypeId} {w : World} {B : Nat} {a : Option Addr} {n cap : Nat} {xs : List Int} (h : OwnI E w B a n cap xs) {i : Nat} (hi : i < n) :
    ∃ g, a = some ⟨g, 0, none⟩ ∧ B ≤ g ∧ g < w.heap.size ∧ w.cell? ⟨g, i, none⟩ = some (.int .i64 (nth xs i)) ∧ w.frozen? ⟨g, i, none⟩ = false := by
  have h' := h.own
  obtain ⟨_, h2⟩ := h'
  rcases h2 with ⟨_, rfl⟩ | ⟨g, cap', cur, hv, hg, hh, hn, hm, hc, ht⟩
  · omega
  · simp only [Value.slice.injEq] at hv
    obtain ⟨rfl, _, rfl⟩ := hv
    obtain ⟨b, off, e, hl, hcell⟩ := h.ints.at hi
    simp only [Option.some.injEq, Addr.mk.injEq] at e
    obtain ⟨rfl, rfl, _⟩ := e
    exact ⟨g, rfl, hg, hl, by simpa using hcell, World.ownsRow.frozenAt h.own i⟩

/-- Behind a store into its i-th place. -/
theorem OwnI.set {E : TypeId} {w : World} {B g : Nat} {n cap : Nat} {xs : List Int} (h : OwnI E w B (some ⟨g, 0, none⟩) n cap xs) {i : Nat} (hi : i < n) (u : Int) (hu : Fits u) :
    OwnI E (w.setCell ⟨g, i, none⟩ (.int .i64 u)) B (some ⟨g, 0, none⟩) n cap (xs.set i u) := by
  have e : ivs (xs.set i u) = (ivs xs).set i (.int .i64 u) := by simp [ivs, List.map_set]
  have hs := World.ownsRow.stored h.own i (.int .i64 u)
  rw [← e] at hs
  obtain ⟨a, cap', hv, r⟩ := OwnI.of hs.1 h.ints.small (fun x hx => by
    rcases List.mem_or_eq_of_mem_set hx with k | k
    · exact h.ints.wf.out x k
    · rw [k]; exact hu)
  simp only [Value.slice.injEq] at hv
  obtain ⟨rfl, _, rfl⟩ := hv
  exact r

theorem nth_set {xs : List Int} {i j : Nat} {u : Int} (hi : i < xs.length) : nth (xs.set i u) j = if j = i then u else nth xs j := by
  unfold nth
  simp only [List.getD_eq_getElem?_getD, List.getElem?_set]
  split
  · rename_i k; subst k; simp [hi]
  · rename_i k; rw [if_neg (fun e => k e.symm)]

/-- An owned row grows by append: what the law leaves, read as a slice of numbers. -/
theorem below_grown_own {E : TypeId} {w w' : World} {B s n : Nat} {v : Value} {xs : List Value} (h : w.ownsRow B E s v n xs) (hg : w.grownBy w' v.ownBlock) (hB : B ≤ w.heap.size) : Below B w w' :=
  (Below.refl B w).grown hg hB (fun k hk => ((h.lt) k hk).1)

/-- k, k + 1, .. : what the laws write into a result. -/
def marks (k : Int) (n : Nat) : List Int := (List.range n).map fun (i : Nat) => k + (i : Int)
theorem marks_len (k : Int) (n : Nat) : (marks k n).length = n := by simp [marks]
theorem nth_marks {k : Int} {n i : Nat} (hi : i < n) : nth (marks k n) i = k + i := by simp [nth, marks, hi]
theorem eq_of_nth {xs ys : List Int} (hl : xs.length = ys.length) (h : ∀ i, i < xs.length → nth xs i = nth ys i) : xs = ys := by
  refine List.ext_getElem hl fun i h1 h2 => ?_
  have := h i h1
  rwa [nth_get h1, nth_get h2] at this
end Go.Proofs.Ytnamhfaacamihaa
