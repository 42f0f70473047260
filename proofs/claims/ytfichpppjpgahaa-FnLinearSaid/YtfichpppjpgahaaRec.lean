/-
  Slices of structs of int fields (K fields each): read, and made by a call. The fields lie flat, one behind the other.
-/
import Derived.Test.YtfichpppjpgahaaR
namespace Go.Proofs.Ytfichpppjpgahaa
open Go.RowKit
set_option linter.unusedVariables false
set_option linter.unusedSimpArgs false

/-- A slice of n structs of K ints each; zs are all fields. -/
structure Recs (K : Nat) (w : World) (a : Option Addr) (n cap : Nat) (zs : List Int) : Prop where
  ints : Ints w a (n * K) (n * K) zs
  ncap : n ≤ cap
  capm : cap ≤ 9223372036854775807
  small : n ≤ 17592186044416
  nilc : Hid (a = none → cap = 0)
theorem idx_lt {n K i j : Nat} (hi : i < n) (hj : j < K) : i * K + j < n * K := by
  have h1 : (i + 1) * K ≤ n * K := Nat.mul_le_mul_right K hi
  rw [Nat.succ_mul] at h1
  omega
theorem Recs.len {K : Nat} {w : World} {a : Option Addr} {n cap : Nat} {zs : List Int} (h : Recs K w a n cap zs) : zs.length = n * K := h.ints.len.out
theorem Recs.below {K : Nat} {w w' : World} {a : Option Addr} {n cap : Nat} {zs : List Int} (h : Recs K w a n cap zs) (hb : Below w.heap.size w w') : Recs K w' a n cap zs :=
  ⟨h.ints.below hb, h.ncap, h.capm, h.small, h.nilc⟩
theorem Recs.alloc {K : Nat} {w : World} {a : Option Addr} {n cap : Nat} {zs : List Int} (h : Recs K w a n cap zs) (o : Obj) : Recs K (w.alloc o) a n cap zs := h.below (bel_alloc _ _)
/-- The j-th field of the i-th struct. -/
def fld (K : Nat) (zs : List Int) (i j : Nat) : Int := nth zs (i * K + j)
theorem Recs.at {K : Nat} {w : World} {a : Option Addr} {n cap : Nat} {zs : List Int} (h : Recs K w a n cap zs) {i j : Nat} (hi : i < n) (hj : j < K) :
    ∃ b off, a = some ⟨b, off, none⟩ ∧ b < w.heap.size ∧ w.cell? ⟨b, off + (i * K + j), none⟩ = some (.int .i64 (fld K zs i j)) := h.ints.at (idx_lt hi hj)
theorem Recs.fit {K : Nat} {w : World} {a : Option Addr} {n cap : Nat} {zs : List Int} (h : Recs K w a n cap zs) {i j : Nat} (hi : i < n) (hj : j < K) : Fits (fld K zs i j) := h.ints.fit (idx_lt hi hj)
/-- Two fields. -/
theorem Recs.at2 {w : World} {a : Option Addr} {n cap : Nat} {zs : List Int} (h : Recs 2 w a n cap zs) {i : Nat} (hi : i < n) :
    ∃ b off, a = some ⟨b, off, none⟩ ∧ b < w.heap.size ∧ w.cell? ⟨b, off + i * 2, none⟩ = some (.int .i64 (fld 2 zs i 0)) ∧ w.cell? ⟨b, off + i * 2 + 1, none⟩ = some (.int .i64 (fld 2 zs i 1)) := by
  obtain ⟨b, off, e, hl, h0⟩ := h.at hi (j := 0) (by omega)
  obtain ⟨b', off', e', _, h1⟩ := h.at hi (j := 1) (by omega)
  rw [e] at e'
  simp only [Option.some.injEq, Addr.mk.injEq] at e'
  obtain ⟨rfl, rfl, _⟩ := e'
  exact ⟨b, off, e, hl, h0, h1⟩
/-- Three fields. -/
theorem Recs.at3 {w : World} {a : Option Addr} {n cap : Nat} {zs : List Int} (h : Recs 3 w a n cap zs) {i : Nat} (hi : i < n) :
    ∃ b off, a = some ⟨b, off, none⟩ ∧ b < w.heap.size ∧ w.cell? ⟨b, off + i * 3, none⟩ = some (.int .i64 (fld 3 zs i 0)) ∧ w.cell? ⟨b, off + i * 3 + 1, none⟩ = some (.int .i64 (fld 3 zs i 1)) ∧ w.cell? ⟨b, off + i * 3 + 2, none⟩ = some (.int .i64 (fld 3 zs i 2)) := by
  obtain ⟨b, off, e, hl, h0⟩ := h.at hi (j := 0) (by omega)
  obtain ⟨b', off', e', _, h1⟩ := h.at hi (j := 1) (by omega)
  obtain ⟨b'', off'', e'', _, h2⟩ := h.at hi (j := 2) (by omega)
  rw [e] at e' e''
  simp only [Option.some.injEq, Addr.mk.injEq] at e' e''
  obtain ⟨rfl, rfl, _⟩ := e'
  obtain ⟨rfl, rfl, _⟩ := e''
  exact ⟨b, off, e, hl, h0, h1, h2⟩

/-- Slices of structs among a law's arguments. -/
def RecsIn (K : Nat) (w : World) (a : Option Addr) (n c : Nat) (zs : List Int) : Prop := n ≤ 9223372036854775807 ∧ (n ≤ 1048576 → Recs K w a n c zs)
theorem RecsIn.nil {K : Nat} {w : World} : RecsIn K w none 0 0 [] :=
  ⟨by omega, fun _ => ⟨⟨by show _ = _; simp, Nat.le_refl _, by simp, by simp, fun i hi => by simp at hi, fun x hx => by simp at hx, fun _ => by simp⟩, by omega, by omega, by omega, fun _ => rfl⟩⟩
theorem RecsIn.below {K : Nat} {w w' : World} {a : Option Addr} {n c : Nat} {zs : List Int} (h : RecsIn K w a n c zs) (hb : Below w.heap.size w w') : RecsIn K w' a n c zs := ⟨h.1, fun hn => (h.2 hn).below hb⟩
/-- The number in a cell. -/
def cellInt (w : World) (a : Addr) : Int := match w.cell? a with | some (.int _ y) => y | _ => 0
theorem RecsIn.of {K : Nat} {w : World} {x : Addr} {l c : Nat} (hK : 0 < K) (hK2 : K ≤ 1000) (hl : l ≤ c) (hm : c ≤ maxLen) (hx : ∀ i, i < l → ∀ j, j < K → ∃ y, w.cell? (x.add (i * K + j)) = some (.int .i64 y) ∧ Fits y) :
    ∃ zs, RecsIn K w (some x) l c zs := by
  unfold maxLen at hm
  refine ⟨(List.range (l * K)).map fun q => cellInt w (x.add q), by omega, fun hs => ?_⟩
  have hsm : l * K ≤ 1048576 * 1000 := Nat.mul_le_mul hs hK2
  have hq : ∀ q, q < l * K → ∃ y, w.cell? (x.add q) = some (.int .i64 y) ∧ Fits y := by
    intro q hq
    have h1 : q / K < l := by rw [Nat.div_lt_iff_lt_mul hK]; exact hq
    have h2 := hx (q / K) h1 (q % K) (Nat.mod_lt _ hK)
    rwa [Nat.mul_comm, Nat.div_add_mod] at h2
  refine ⟨⟨by show _ = _; simp, Nat.le_refl _, by omega, by omega, fun i hi => ?_, fun y hy => ?_, fun e => by cases e⟩, hl, by omega, by omega, fun e => by cases e⟩
  · obtain ⟨y, hc, hf⟩ := hq i hi
    have h0 := (hq 0 (by omega)).choose_spec.1
    have hsp : x.spot = none := by
      have := World.cell?_spot h0
      simpa [Addr.add] using this
    rw [addr_of_spot hsp] at hc
    obtain ⟨b, off, spot⟩ := x
    simp only at hsp; subst hsp
    refine ⟨b, off, rfl, lt_of_cell hc, ?_⟩
    rw [hc]
    simp only [nth, List.getD_eq_getElem?_getD, List.getElem?_map, List.getElem?_range hi, Option.map_some, Option.getD_some]
    unfold cellInt
    rw [addr_of_spot rfl, hc]
  · simp only [List.mem_map, List.mem_range] at hy
    obtain ⟨q, hq1, rfl⟩ := hy
    obtain ⟨y, hc, hf⟩ := hq q hq1
    unfold cellInt
    rw [hc]; exact hf

/-- A slice of structs in memory of a call's own (from block B on), that may be written. -/
structure MineK (K : Nat) (w : World) (B : Nat) (a : Option Addr) (n cap : Nat) (zs : List Int) : Prop where
  mine : Mine w B a (n * K) (n * K) zs
  ncap : n ≤ cap
  capm : cap ≤ 9223372036854775807
  small : n ≤ 17592186044416
  nilc : Hid (a = none → cap = 0)
theorem MineK.recs {K : Nat} {w : World} {B : Nat} {a : Option Addr} {n cap : Nat} {zs : List Int} (h : MineK K w B a n cap zs) : Recs K w a n cap zs := ⟨h.mine.ints, h.ncap, h.capm, h.small, h.nilc⟩
theorem MineK.pl {K : Nat} {w : World} {B : Nat} {a : Option Addr} {n cap : Nat} {zs : List Int} (h : MineK K w B a n cap zs) : PlaceM a (n * K) B w.heap.size := h.mine.pl
theorem MineK.base {K : Nat} {w : World} {B B' : Nat} {a : Option Addr} {n cap : Nat} {zs : List Int} (h : MineK K w B a n cap zs) (hB : B' ≤ B) : MineK K w B' a n cap zs := ⟨h.mine.base hB, h.ncap, h.capm, h.small, h.nilc⟩
theorem MineK.below {K : Nat} {w w' : World} {B : Nat} {a : Option Addr} {n cap : Nat} {zs : List Int} (h : MineK K w B a n cap zs) (hb : Below w.heap.size w w') : MineK K w' B a n cap zs := ⟨h.mine.below hb, h.ncap, h.capm, h.small, h.nilc⟩
theorem MineK.onlyI {K : Nat} {w w' : World} {B : Nat} {t : Option Addr} {n cap : Nat} {xs : List Int} {lo hi lo' hi' : Nat} (h : MineK K w B t n cap xs) (ho : OnlyI lo' hi' w w') (pt : PlaceM t (n * K) lo hi) (hd : hi ≤ lo' ∨ hi' ≤ lo) : MineK K w' B t n cap xs :=
  ⟨h.mine.onlyI ho pt hd, h.ncap, h.capm, h.small, h.nilc⟩
theorem MineK.onlyA {K : Nat} {w w' : World} {B : Nat} {a t : Option Addr} {n m cap : Nat} {xs : List Int} (h : MineK K w B t n cap xs) (ho : OnlyM a m w w') (hd : Apart t (n * K) a m) : MineK K w' B t n cap xs := ⟨h.mine.onlyA ho hd, h.ncap, h.capm, h.small, h.nilc⟩
theorem MineK.nil {K : Nat} {w : World} {B : Nat} : MineK K w B none 0 0 [] := by
  have h := Mine.nil (w := w) (B := B)
  refine ⟨?_, by omega, by omega, by omega, fun _ => rfl⟩
  rw [Nat.zero_mul]; exact h
theorem MineK.of {E : TypeId} {K : Nat} {w : World} {B : Nat} {v : Value} {n : Nat} {zs : List Int} (h : w.ownsRow B E K v n (ivs zs)) (hs : n * K ≤ 17592186044416) (hs2 : n ≤ 17592186044416) (hf : ∀ x ∈ zs, Fits x) :
    ∃ a cap, v = .slice a n cap ∧ MineK K w B a n cap zs := by
  have hl : zs.length = n * K := by have := h.1; rw [ivs_len] at this; exact this
  have h' := h
  obtain ⟨_, h2⟩ := h
  rcases h2 with ⟨rfl, rfl⟩ | ⟨g, cap, cur, rfl, hg, hh, hn, hm, hc, ht⟩
  · have : zs = [] := by rw [Nat.zero_mul] at hl; exact List.length_eq_zero_iff.1 hl
    subst this
    exact ⟨none, 0, rfl, MineK.nil⟩
  · have hlt : g < w.heap.size := by
      rcases Nat.lt_or_ge g w.heap.size with k | k
      · exact k
      · rw [Array.getElem?_eq_none k] at hh; cases hh
    refine ⟨_, cap, rfl, ⟨⟨⟨hl, Nat.le_refl _, hs, by omega, fun i hi => ⟨g, 0, rfl, hlt, ?_⟩, hf, fun e => by cases e⟩, fun _ b off e => ?_, fun i hi b off e => ?_⟩, hn, by unfold maxLen at hm; omega, hs2, fun e => by cases e⟩⟩
    · rw [Nat.zero_add, World.ownsRow.cellAt h' i hi]
      simp [ivs, nth, hl, hi]
    · simp only [Option.some.injEq, Addr.mk.injEq] at e
      obtain ⟨rfl, _, _⟩ := e
      exact ⟨hg, hlt⟩
    · simp only [Option.some.injEq, Addr.mk.injEq] at e
      obtain ⟨rfl, rfl, _⟩ := e
      rw [Nat.zero_add]
      exact World.ownsRow.frozenAt h' i
theorem Mine.at0 {w : World} {B : Nat} {a : Option Addr} {n cap : Nat} {xs : List Int} (h : Mine w B a n cap xs) {i : Nat} (hi : i < n) {b off : Nat} (e : a = some ⟨b, off, none⟩) :
    B ≤ b ∧ b < w.heap.size ∧ w.cell? ⟨b, off + i, none⟩ = some (.int .i64 (nth xs i)) ∧ w.frozen? ⟨b, off + i, none⟩ = false := by
  obtain ⟨b', off', e', h1, h2, h3, h4⟩ := h.at hi
  rw [e] at e'
  simp only [Option.some.injEq, Addr.mk.injEq] at e'
  obtain ⟨rfl, rfl, _⟩ := e'
  exact ⟨h1, h2, h3, h4⟩
/-- The cells of the i-th struct, of two fields. -/
theorem MineK.at2 {w : World} {B : Nat} {a : Option Addr} {n cap : Nat} {zs : List Int} (h : MineK 2 w B a n cap zs) {i : Nat} (hi : i < n) :
    ∃ b off, a = some ⟨b, off, none⟩ ∧ B ≤ b ∧ b < w.heap.size ∧ w.cell? ⟨b, off + i * 2, none⟩ = some (.int .i64 (fld 2 zs i 0)) ∧ w.cell? ⟨b, off + i * 2 + 1, none⟩ = some (.int .i64 (fld 2 zs i 1)) ∧
      w.frozen? ⟨b, off + i * 2, none⟩ = false ∧ w.frozen? ⟨b, off + i * 2 + 1, none⟩ = false := by
  obtain ⟨b, off, e, h1, h2, h3, h4⟩ := h.mine.at (i := i * 2) (by omega)
  obtain ⟨_, _, k3, k4⟩ := h.mine.at0 (i := i * 2 + 1) (by omega) e
  exact ⟨b, off, e, h1, h2, h3, k3, h4, k4⟩
theorem MineK.at3 {w : World} {B : Nat} {a : Option Addr} {n cap : Nat} {zs : List Int} (h : MineK 3 w B a n cap zs) {i : Nat} (hi : i < n) :
    ∃ b off, a = some ⟨b, off, none⟩ ∧ B ≤ b ∧ b < w.heap.size ∧ w.cell? ⟨b, off + i * 3, none⟩ = some (.int .i64 (fld 3 zs i 0)) ∧ w.cell? ⟨b, off + i * 3 + 1, none⟩ = some (.int .i64 (fld 3 zs i 1)) ∧ w.cell? ⟨b, off + i * 3 + 2, none⟩ = some (.int .i64 (fld 3 zs i 2)) ∧
      w.frozen? ⟨b, off + i * 3, none⟩ = false ∧ w.frozen? ⟨b, off + i * 3 + 1, none⟩ = false ∧ w.frozen? ⟨b, off + i * 3 + 2, none⟩ = false := by
  obtain ⟨b, off, e, h1, h2, h3, h4⟩ := h.mine.at (i := i * 3) (by omega)
  obtain ⟨_, _, k3, k4⟩ := h.mine.at0 (i := i * 3 + 1) (by omega) e
  obtain ⟨_, _, l3, l4⟩ := h.mine.at0 (i := i * 3 + 2) (by omega) e
  exact ⟨b, off, e, h1, h2, h3, k3, l3, h4, k4, l4⟩
theorem MineK.set {K : Nat} {w : World} {B b off : Nat} {n cap : Nat} {zs : List Int} (h : MineK K w B (some ⟨b, off, none⟩) n cap zs) {q : Nat} (hq : q < n * K) (u : Int) (hu : Fits u) :
    MineK K (w.setCell ⟨b, off + q, none⟩ (.int .i64 u)) B (some ⟨b, off, none⟩) n cap (zs.set q u) := ⟨h.mine.set hq u hu, h.ncap, h.capm, h.small, h.nilc⟩
theorem madeK (K m : Nat) (z : Array Value) (hz : z.toList = List.replicate K (Value.int .i64 0)) (hK : 0 < K) : (madeCells z m).toList = ivs (List.replicate m 0) := by
  apply List.ext_getElem?
  intro j
  have hs : z.size = K := by rw [← Array.length_toList, hz]; simp
  by_cases hj : j < m
  · have h1 : j % K < z.size := by rw [hs]; exact Nat.mod_lt _ hK
    have h2 : z[j % K]'h1 = Value.int .i64 0 := by
      have : z.toList[j % K]'(by simpa using h1) = Value.int .i64 0 := by simp [hz]
      simpa using this
    have h3 : z[j % K]! = Value.int .i64 0 := by rw [getElem!_pos z (j % K) h1]; exact h2
    simp [madeCells, hj, ivs, hs, h3]
  · simp [madeCells, hj, ivs]
end Go.Proofs.Ytfichpppjpgahaa
