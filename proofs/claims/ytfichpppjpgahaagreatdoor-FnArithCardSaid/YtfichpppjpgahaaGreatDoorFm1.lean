/-
  Contracts of the laws' own helpers on slices of ints: copies, comparisons, marks.
  Contracts: a number in decimal.
  Two slices that lie apart from each other.
  Slices of slices of ints: what they hold, and those that a call made itself.
  Slices of structs of int fields (K fields each): read, and made by a call. The fields lie flat, one behind the other.
  Contracts of the laws' own helpers on slices of gates and of what is opened: sizes, copies, comparisons, marks.
-/
import Derived.Test.YtfichpppjpgahaaGreatDoorFm0
import Derived.Lib.ItoaNum
import Derived.Laws.IdiomStrings
import Derived.Deep.RegionLaw
import Derived.BigRegion
import Derived.BigQuiet
import Derived.Maps.AppendAt
import Derived.Deep.RegionHeld3
namespace Go.Proofs.YtfichpppjpgahaaGreatDoor
open Go.RowKit
set_option linter.unusedVariables false
set_option linter.unusedSimpArgs false

theorem info_int : (Tryz.prog.info? 3).map (fun i => (i.zero, i.size, i.bytes)) = some (some (.int .i64 0), 1, 8) := by kernel_rfl

theorem made_ivs (n : Nat) : (madeCells #[Value.int .i64 0] n).toList = ivs (List.replicate n 0) := by
  rw [toList_madeCells_one]; simp [ivs]

/-- 'append(out, u)' onto a slice of the call's own: the walk's law, at ints. -/
theorem wp_app {ops : Array Oper} {rest : List Oper} {o : Oper} {a : Act} {Q : Exit → Act → World → Prop} (w : World) (B n : Nat) (v : Value) (xs : List Int) (u : Int) (t : TypeId) (m : Nat)
    (hg : o.guard = none) (s x : Operand) (ho : o.op = .call { callee := .builtin .append, args := #[s, x], argTypes := #[24, 24] })
    (hs : a.eval s = v) (hx : a.eval x = .slice (some ⟨m, 0, none⟩) 1 1) (hm : m = w.heap.size)
    (hown : w.ownsRow B 3 1 v n (ivs xs)) (hB : B ≤ w.heap.size) (hn : n ≤ 1000000000000)
    (h : ∀ v' w', w'.ownsRow B 3 1 v' (n + 1) (ivs (xs ++ [u])) → Below B w w' → (w.alloc (.cells #[.int .i64 u] t)).grownBy w' v.ownBlock → wpList Tryz.prog ops Q rest (a.put o.dst v') w') :
    wpList Tryz.prog ops Q (o :: rest) a (w.alloc (.cells #[.int .i64 u] t)) := by
  obtain ⟨i0, hi, hz0, hz1, hz2⟩ := info_parts info_int
  subst hm
  refine wpList_append_own _ hg s x 24 ho B 3 i0 (.int .i64 0) 1 8 Tryz.underlying24 hi hz0 hz1 hz2 rfl (by decide) v n (ivs xs) hs (hown.alloc _) ⟨w.heap.size, 0, none⟩ 1 1 [.int .i64 u] hx rfl ?_ ?_ (by unfold maxLen; omega) (by omega) (by simp; omega) ?_
  · intro j c hj
    match j, hj with
    | 0, hj =>
      simp at hj; subst hj
      simp [Addr.add, World.cell?_alloc_at]
  · intro c hc; simp at hc; subst hc; rfl
  · intro v' w' h1 h2 _
    rw [← ivs_snoc] at h1
    exact h v' w' h1 (((Below.refl B w).alloc hB _).trans (below_grown_own (hown.alloc _) h2 (by simp; omega))) h2
end Go.Proofs.YtfichpppjpgahaaGreatDoor
namespace Go.Proofs.YtfichpppjpgahaaGreatDoor
open Go.RowKit
set_option linter.unusedVariables false
set_option linter.unusedSimpArgs false
set_option maxRecDepth 10000

/-- A string of these bytes. -/
def B (l : List UInt8) : ByteArray := ⟨l.toArray⟩
theorem B_app (a b : List UInt8) : B a ++ B b = B (a ++ b) := by
  apply ByteArray.ext
  rw [ByteArray.data_append]
  simp [B]
theorem B_size (l : List UInt8) : (B l).size = l.length := by simp [B, ByteArray.size]
theorem B_data (l : List UInt8) : (B l).data.toList = l := by simp [B]
theorem B_inj {a b : List UInt8} (h : B a = B b) : a = b := by rw [← B_data a, h, B_data]
theorem B_of (s : ByteArray) : s = B s.data.toList := by apply ByteArray.ext; simp [B]
theorem nDig_le {n : Nat} (h : n ≤ 1000000) : (Lib.decDigits n).length ≤ 7 := by
  rw [Lib.decDigits_length]
  have b : ∀ m k, m < 10 ^ (k + 1) → Lib.nDigits m ≤ k + 1 := by
    intro m k
    induction k generalizing m with
    | zero => intro h; rw [Lib.nDigits_small (by omega)]; omega
    | succ k ih =>
      intro h
      by_cases h1 : m < 10
      · rw [Lib.nDigits_small h1]; omega
      · rw [Lib.nDigits_big h1]
        have := ih (m / 10) (by rw [Nat.pow_succ] at h; omega)
        omega
  exact b n 6 (by omega)
/-- A string of one byte. -/
theorem conv1 (u : UInt8) (z : Int) (hz : z = u.toNat) (w : World) (g : Nat) (hc : w.cell? ⟨g, 0, none⟩ = some (.int .u8 z)) :
    (convert 22 9 (.slice (some ⟨g, 0, none⟩) 1 1)).run Tryz.prog w = .ok (.string (B [u])) w := by
  have h := run_convert_bytes_back (P := Tryz.prog) w 22 9 5 ⟨g, 0, none⟩ 1 [u] Tryz.underlying22 Tryz.underlying5 Tryz.underlying9 (fun j hj => by
    simp only [List.length_singleton] at hj
    obtain rfl : j = 0 := by omega
    have e : (⟨g, 0, none⟩ : Addr).add 0 = ⟨g, 0, none⟩ := rfl
    rw [e, hc]
    simp [hz])
  exact h
theorem lit_drew {w w1 : World} {v : Value} {t : TypeId} (hb : Below (w.alloc (.cells #[v] t)).drew.heap.size (w.alloc (.cells #[v] t)).drew w1) : w1.cell? ⟨w.heap.size, 0, none⟩ = some v :=
  cell_on (w := (w.alloc (.cells #[v] t)).drew) (show (w.alloc (.cells #[v] t)).cell? _ = _ from World.cell?_alloc_at _ _ _ _ rfl) hb
theorem dig_byte {d : Nat} (h : d < 10) : ∃ u : UInt8, u = UInt8.ofNat (48 + d) ∧ 48 + (d : Int) = (u.toNat : Int) := ⟨_, rfl, by simp; omega⟩
theorem s_l1Num0 (n : Nat) (h : n < 10) (w : World) :
    Calls Tryz.prog 63 #[.int .i64 n] w fun e w' => e = .returned (.string (B (Lib.decDigits n))) ∧ Below w.heap.size w w' := by
  have hi : (n : Int) < 10 := by omega
  obtain ⟨u, hu, hz⟩ := dig_byte h
  have kc := conv1 u _ hz (w.alloc (.cells #[.int .u8 (48 + (n : Int))] 5)) w.heap.size (World.cell?_alloc_at _ _ _ _ rfl)
  have hd : Lib.decDigits n = [u] := by rw [hu]; exact Lib.decDigits_one h
  have HD := Lib.hid hd; clear hu hz hd
  go_enter Tryz.func63, Tryz.ntmps63
  go_wp2
  go_ret
  exact ⟨by rw [HD.out]; first | rfl | simp, bel_alloc w _⟩
theorem s_l1Num : ∀ (n : Nat) (_ : n ≤ 1000000) (w : World),
    Calls Tryz.prog 63 #[.int .i64 n] w fun e w' => e = .returned (.string (B (Lib.decDigits n))) ∧ Below w.heap.size w w' := by
  intro n
  induction n using Nat.strongRecOn with
  | _ n ih =>
  intro hn w
  by_cases h : n < 10
  · exact s_l1Num0 n h w
  have hi : ¬ (n : Int) < 10 := by omega
  have ih' := ih (n / 10) (by omega) (by omega)
  obtain ⟨u, hu, hz⟩ := dig_byte (d := n % 10) (by omega)
  have hd : Lib.decDigits n = Lib.decDigits (n / 10) ++ [u] := by rw [Lib.decDigits, dif_neg h, hu]
  rw [show ((n % 10 : Nat) : Int) = (n : Int) % 10 by omega] at hz
  have kc := conv1 u _ hz
  obtain ⟨D, hD⟩ : ∃ D, D = Lib.decDigits (n / 10) := ⟨_, rfl⟩
  have HD := Lib.hid (hD ▸ hd : Lib.decDigits n = D ++ [u]); rw [← hD] at ih'; clear hd hD hu hz
  rw [show ((n / 10 : Nat) : Int) = (n : Int) / 10 by omega] at ih'
  have eq : (n : Int).tdiv 10 = (n : Int) / 10 := Int.tdiv_eq_ediv_of_nonneg (by omega)
  have er : (n : Int).tmod 10 = (n : Int) % 10 := Int.tmod_eq_emod_of_nonneg (by omega)
  have ew : IntKind.i64.wrap ((n : Int) / 10) = (n : Int) / 10 := IntWalk.i64_in _ (by omega)
  have e8 : IntKind.i64.wrap (48 + (n : Int) % 10) = 48 + (n : Int) % 10 := IntWalk.i64_in _ (by omega)
  have e9 : IntKind.u8.wrap (48 + (n : Int) % 10) = 48 + (n : Int) % 10 := IntWalk.u8_in _ (by omega)
  have IH := Lib.hid ih'
  have hl := nDig_le hn
  rw [HD.out, List.length_append, List.length_singleton] at hl
  have hlen : ¬ 9223372036854775807 < (B D).size + (B [u]).size := by rw [B_size, B_size, List.length_singleton]; omega
  clear ih ih' hl
  go_enter Tryz.func63, Tryz.ntmps63
  go_wp2_with fail
  go_region_law (go_simp; go_at_call 63; refine (IH.out _).mono ?_; rintro e w1 ⟨rfl, hb1⟩; first | (have c1 := lit_drew hb1) | skip)
  all_goals
    go_wp2
    go_ret
    exact ⟨by rw [HD.out, ← B_app]; first | rfl | simp, by (repeat (first | exact Below.refl _ _ | assumption | refine bel_trans ?_ (bel_alloc _ _) | refine bel_set ?_ (by first | (dsimp only; omega) | (simp; omega) | simp) _ | refine bel_trans ?_ (bel_drewN _ _) | refine bel_trans ?_ (bel_drew _) | refine bel_trans ?_ (by assumption)))⟩
end Go.Proofs.YtfichpppjpgahaaGreatDoor
namespace Go.Proofs.YtfichpppjpgahaaGreatDoor
open Go.RowKit
set_option linter.unusedVariables false
set_option linter.unusedSimpArgs false

/-- Two slices (of n and of m elements) lie in different blocks. -/
def Apart (a : Option Addr) (n : Nat) (b : Option Addr) (m : Nat) : Prop := 0 < n → 0 < m → ∀ g o g' o', a = some ⟨g, o, none⟩ → b = some ⟨g', o', none⟩ → g ≠ g'
theorem Apart.symm {a b : Option Addr} {n m : Nat} (h : Apart a n b m) : Apart b m a n := fun hm hn g o g' o' e e' k => h hn hm g' o' g o e' e k.symm
theorem Apart.of {a b : Option Addr} {n m lo hi lo' hi' : Nat} (p : PlaceM a n lo hi) (q : PlaceM b m lo' hi') (hd : hi ≤ lo' ∨ hi' ≤ lo) : Apart a n b m := by
  intro hn hm g o g' o' e e'
  have h1 := p hn g o e
  have h2 := q hm g' o' e'
  omega
theorem Apart.zero {a b : Option Addr} {m : Nat} : Apart a 0 b m := fun h => by omega
theorem Mine.onlyA {w w' : World} {B : Nat} {a t : Option Addr} {n m cap : Nat} {xs : List Int} (h : Mine w B t n cap xs) (ho : OnlyM a m w w') (hd : Apart t n a m) : Mine w' B t n cap xs :=
  ⟨⟨h.ints.len, h.ints.ncap, h.ints.small, h.ints.capm, fun i hi => by
      obtain ⟨b, off, e, hl, hc⟩ := h.ints.cell.out i hi
      exact ⟨b, off, e, Nat.lt_of_lt_of_le hl ho.size, (World.cell?_of_block (ho.block b (fun hm g o e' => hd (by omega) hm b off g o e e'))).trans hc⟩, h.ints.wf, h.ints.nilc⟩,
   fun hn b off e => ⟨(h.place.out hn b off e).1, Nat.lt_of_lt_of_le (h.place.out hn b off e).2 ho.size⟩,
   fun i hi b off e => (World.frozen?_of_block (ho.block b (fun hm g o e' => hd (by omega) hm b off g o e e'))).trans (h.free.out i hi b off e)⟩
/-- Two slices handed back, in memory of the call's own, apart from each other, and a bool. -/
def TwoA (A B : List Int) (ok : Bool) (w : World) (e : Ending) (w' : World) : Prop :=
  ∃ r1 c1 r2 c2, e = .returned (.tuple #[.slice r1 A.length c1, .slice r2 B.length c2, .bool ok]) ∧ Mine w' w.heap.size r1 A.length c1 A ∧ Mine w' w.heap.size r2 B.length c2 B ∧ Apart r1 A.length r2 B.length ∧ Below w.heap.size w w'
end Go.Proofs.YtfichpppjpgahaaGreatDoor
namespace Go.Proofs.YtfichpppjpgahaaGreatDoor
open Go.RowKit
set_option linter.unusedVariables false
set_option linter.unusedSimpArgs false

/-- The i-th row. -/
def rowN (xss : List (List Int)) (i : Nat) : List Int := xss.getD i []
theorem rowN_get {xss : List (List Int)} {i : Nat} (h : i < xss.length) : rowN xss i = xss[i] := by simp [rowN, h]
theorem rowN_mem {xss : List (List Int)} {i : Nat} (h : i < xss.length) : rowN xss i ∈ xss := by rw [rowN_get h]; exact List.getElem_mem h
theorem mem_rowN {xss : List (List Int)} {x : List Int} (h : x ∈ xss) : ∃ i, i < xss.length ∧ rowN xss i = x := by
  obtain ⟨i, hi, e⟩ := List.mem_iff_getElem.1 h
  exact ⟨i, hi, by rw [rowN_get hi]; exact e⟩
theorem rowN_set {xss : List (List Int)} {i j : Nat} {u : List Int} (hi : i < xss.length) : rowN (xss.set i u) j = if j = i then u else rowN xss j := by
  unfold rowN
  simp only [List.getD_eq_getElem?_getD, List.getElem?_set]
  split
  · rename_i k; subst k; simp [hi]
  · rename_i k; rw [if_neg (fun e => k e.symm)]
theorem rowN_snoc {xss : List (List Int)} {u : List Int} {j : Nat} : rowN (xss ++ [u]) j = if j = xss.length then u else rowN xss j := by
  unfold rowN
  simp only [List.getD_eq_getElem?_getD]
  split
  · rename_i k; subst k; simp
  · rename_i k
    rcases Nat.lt_or_ge j xss.length with g | g
    · rw [List.getElem?_append_left g]
    · rw [List.getElem?_eq_none (by simp; omega), List.getElem?_eq_none (by omega)]
theorem eq_of_rowN {xs ys : List (List Int)} (hl : xs.length = ys.length) (h : ∀ i, i < xs.length → rowN xs i = rowN ys i) : xs = ys := by
  refine List.ext_getElem hl fun i h1 h2 => ?_
  have := h i h1
  rwa [rowN_get h1, rowN_get h2] at this
/-- How many numbers stand in the first rows. -/
def pre (xss : List (List Int)) : Nat → Nat
  | 0 => 0
  | i + 1 => pre xss i + (rowN xss i).length
theorem pre_mono (xss : List (List Int)) {i j : Nat} (h : i ≤ j) : pre xss i ≤ pre xss j := by
  induction j with
  | zero => rw [show i = 0 by omega]; exact Nat.le_refl _
  | succ j ih =>
    rcases Nat.lt_or_ge j i with k | k
    · rw [show i = j + 1 by omega]; exact Nat.le_refl _
    · have := ih k; rw [pre]; omega
theorem pre_congr {xss yss : List (List Int)} {n : Nat} (h : ∀ i, i < n → (rowN xss i).length = (rowN yss i).length) : ∀ i, i ≤ n → pre xss i = pre yss i := by
  intro i
  induction i with
  | zero => intro _; rfl
  | succ i ih => intro hi; rw [pre, pre, ih (by omega), h i (by omega)]
def tot (xss : List (List Int)) : Nat := pre xss xss.length

/-- What a slice of slices of ints holds. -/
structure Rws (w : World) (a : Option Addr) (n cap : Nat) (xss : List (List Int)) : Prop where
  len : Hid (xss.length = n)
  ncap : n ≤ cap
  small : n ≤ 17592186044416
  capm : cap ≤ 9223372036854775807
  row : Hid (∀ i, i < n → ∃ b off r m c, a = some ⟨b, off, none⟩ ∧ b < w.heap.size ∧ w.cell? ⟨b, off + i, none⟩ = some (.slice r m c) ∧ Ints w r m c (rowN xss i))
  nilc : Hid (a = none → cap = 0)
theorem Rws.at {w : World} {a : Option Addr} {n cap : Nat} {xss : List (List Int)} (h : Rws w a n cap xss) {i : Nat} (hi : i < n) :
    ∃ b off r m c, a = some ⟨b, off, none⟩ ∧ b < w.heap.size ∧ w.cell? ⟨b, off + i, none⟩ = some (.slice r m c) ∧ Ints w r m c (rowN xss i) := h.row.out i hi
theorem Rws.below {w w' : World} {a : Option Addr} {n cap : Nat} {xss : List (List Int)} (h : Rws w a n cap xss) (hb : Below w.heap.size w w') : Rws w' a n cap xss := by
  refine ⟨h.len, h.ncap, h.small, h.capm, fun i hi => ?_, h.nilc⟩
  obtain ⟨b, off, r, m, c, e, hl, hc, hr⟩ := h.at hi
  exact ⟨b, off, r, m, c, e, Nat.lt_of_lt_of_le hl hb.size, (hb.cell (p := ⟨b, off + i, none⟩) hl).trans hc, hr.below hb⟩
theorem Rws.alloc {w : World} {a : Option Addr} {n cap : Nat} {xss : List (List Int)} (h : Rws w a n cap xss) (o : Obj) : Rws (w.alloc o) a n cap xss := h.below (bel_alloc _ _)
theorem Rws.nil {w : World} : Rws w none 0 0 [] := ⟨rfl, by omega, by omega, by omega, fun i hi => by omega, fun _ => rfl⟩
theorem Rws.rowLen {w : World} {a : Option Addr} {n cap : Nat} {xss : List (List Int)} (h : Rws w a n cap xss) {i : Nat} (hi : i < n) : (rowN xss i).length ≤ 17592186044416 := by
  obtain ⟨b, off, r, m, c, e, hl, hc, hr⟩ := h.at hi
  rw [hr.len.out]; exact hr.small

/-- Slices of slices among a law's arguments. -/
def RowsIn (w : World) (a : Option Addr) (n c : Nat) (xss : List (List Int)) : Prop :=
  n ≤ 9223372036854775807 ∧ (n ≤ 1048576 → xss.length = n ∧ n ≤ c ∧ c ≤ 9223372036854775807 ∧ (a = none → c = 0) ∧
    ∀ i, i < n → ∃ b off r m k, a = some ⟨b, off, none⟩ ∧ b < w.heap.size ∧ w.cell? ⟨b, off + i, none⟩ = some (.slice r m k) ∧ IntsIn w r m k (rowN xss i))
theorem RowsIn.nil {w : World} : RowsIn w none 0 0 [] := ⟨by omega, fun _ => ⟨rfl, by omega, by omega, fun _ => rfl, fun i hi => by omega⟩⟩
theorem addr_of_spot {x : Addr} {i : Nat} (h0 : x.spot = none) : x.add i = ⟨x.block, x.off + i, none⟩ := by
  obtain ⟨b, off, spot⟩ := x
  simp only at h0
  subst h0
  unfold Addr.add; split
  · rename_i h0; subst h0; rfl
  · rfl
theorem RowsIn.of {w : World} {base : Nat} {x : Addr} {l c : Nat} {A : Nat → Option Addr} {L C : Nat → Nat} {Z : Nat → List Int} (hl : l ≤ c) (hm : c ≤ maxLen)
    (hx : ∀ r, r < c → w.cell? (x.add r) = some (.slice (A r) (L r) (C r)) ∧ L r ≤ C r ∧ C r ≤ maxLen ∧ (Z r).length = C r ∧ (∀ n ∈ Z r, (Lit.int .i64 n).wf = true) ∧ (A r = none → C r = 0) ∧
        ∀ a', A r = some a' → base ≤ a'.block ∧ ∀ k, k < C r → w.cell? (a'.add k) = some (.int .i64 ((Z r).getD k 0))) : ∃ zs, RowsIn w (some x) l c zs := by
  unfold maxLen at hm
  refine ⟨(List.range l).map fun r => (Z r).take (L r), by omega, fun hs => ⟨by simp, hl, hm, (fun e => by cases e), fun i hi => ?_⟩⟩
  obtain ⟨hc, h1, h2, h3, h4, h5, h6⟩ := hx i (by omega)
  have hsp : x.spot = none := by
    have := World.cell?_spot (hx 0 (by omega)).1
    simpa [Addr.add] using this
  rw [addr_of_spot hsp] at hc
  have hrow : rowN ((List.range l).map fun r => (Z r).take (L r)) i = (Z i).take (L i) := by simp [rowN, hi]
  obtain ⟨b, off, spot⟩ := x
  simp only at hsp; subst hsp
  refine ⟨b, off, A i, L i, C i, rfl, lt_of_cell hc, hc, ?_⟩
  rw [hrow]
  cases hA : A i with
  | none =>
    have := h5 hA
    have e1 : C i = 0 := this
    have e2 : L i = 0 := by omega
    rw [e1, e2, List.take_zero]
    exact IntsIn.nil
  | some a' => exact IntsIn.of h1 h2 h3 (fun k hk => (h6 a' hA).2 k (by omega)) h4

/-- Only blocks from lo up to hi have turned. -/
structure OnlyI (lo hi : Nat) (w w' : World) : Prop where
  os : w'.os = w.os
  tape : w'.tape = w.tape
  output : w'.output = w.output
  size : w.heap.size ≤ w'.heap.size
  block : ∀ k, ¬ (lo ≤ k ∧ k < hi) → w'.heap[k]? = w.heap[k]?
theorem OnlyI.refl (lo hi : Nat) (w : World) : OnlyI lo hi w w := ⟨rfl, rfl, rfl, Nat.le_refl _, fun _ _ => rfl⟩
theorem OnlyI.trans {lo hi : Nat} {a b c : World} (h : OnlyI lo hi a b) (k : OnlyI lo hi b c) : OnlyI lo hi a c :=
  ⟨k.os.trans h.os, k.tape.trans h.tape, k.output.trans h.output, Nat.le_trans h.size k.size, fun q hq => (k.block q hq).trans (h.block q hq)⟩
theorem OnlyM.onlyI {a : Option Addr} {n lo hi : Nat} {w w' : World} (h : OnlyM a n w w') (p : PlaceM a n lo hi) : OnlyI lo hi w w' :=
  ⟨h.os, h.tape, h.output, h.size, fun k hk => h.block k (fun hn g off e q => hk (by have := p hn g off e; omega))⟩
theorem Below.onlyI {b0 lo hi : Nat} {w0 w w' : World} (h : Below b0 w0 w) (ho : OnlyI lo hi w w') (hlo : b0 ≤ lo) : Below b0 w0 w' :=
  h.trans ⟨ho.os, ho.tape, ho.output, ho.size, fun k hk => ho.block k (by omega)⟩
theorem Ints.onlyI {w w' : World} {t : Option Addr} {n cap : Nat} {xs : List Int} {lo hi lo' hi' : Nat} (h : Ints w t n cap xs) (ho : OnlyI lo' hi' w w') (pt : PlaceM t n lo hi) (hd : hi ≤ lo' ∨ hi' ≤ lo) : Ints w' t n cap xs := by
  refine ⟨h.len, h.ncap, h.small, h.capm, fun i hi' => ?_, h.wf, h.nilc⟩
  obtain ⟨b, off, e, hl, hc⟩ := h.cell.out i hi'
  have h1 := pt (by omega) b off e
  exact ⟨b, off, e, Nat.lt_of_lt_of_le hl ho.size, (World.cell?_of_block (ho.block b (by omega))).trans hc⟩
theorem Mine.onlyI {w w' : World} {B : Nat} {t : Option Addr} {n cap : Nat} {xs : List Int} {lo hi lo' hi' : Nat} (h : Mine w B t n cap xs) (ho : OnlyI lo' hi' w w') (pt : PlaceM t n lo hi) (hd : hi ≤ lo' ∨ hi' ≤ lo) : Mine w' B t n cap xs :=
  ⟨h.ints.onlyI ho pt hd, fun hn b off e => ⟨(h.place.out hn b off e).1, Nat.lt_of_lt_of_le (h.place.out hn b off e).2 ho.size⟩,
   fun i hi b off e => (World.frozen?_of_block (ho.block b (by have h1 := pt (by omega) b off e; omega))).trans (h.free.out i hi b off e)⟩

/-- A slice of slices of ints that a call made itself, in the blocks from lo up to hi; everything may be written, no row lies in another one's block. -/
structure MineR (w : World) (lo hi : Nat) (a : Option Addr) (n cap : Nat) (xss : List (List Int)) : Prop where
  len : Hid (xss.length = n)
  ncap : n ≤ cap
  small : n ≤ 17592186044416
  capm : cap ≤ 9223372036854775807
  nilc : Hid (a = none → cap = 0)
  top : hi ≤ w.heap.size
  row : Hid (∀ i, i < n → ∃ b off r m c, a = some ⟨b, off, none⟩ ∧ lo ≤ b ∧ b < hi ∧ w.cell? ⟨b, off + i, none⟩ = some (.slice r m c) ∧ w.frozen? ⟨b, off + i, none⟩ = false ∧ Mine w lo r m c (rowN xss i) ∧ PlaceM r m lo hi ∧ (0 < m → ∀ o, r ≠ some ⟨b, o, none⟩))
  apart : Hid (∀ i j, i < n → j < n → i ≠ j → ∀ b off r m c r' m' c', a = some ⟨b, off, none⟩ → w.cell? ⟨b, off + i, none⟩ = some (.slice r m c) → w.cell? ⟨b, off + j, none⟩ = some (.slice r' m' c') → Apart r m r' m')
theorem MineR.at {w : World} {lo hi : Nat} {a : Option Addr} {n cap : Nat} {xss : List (List Int)} (h : MineR w lo hi a n cap xss) {i : Nat} (hn : i < n) :
    ∃ b off r m c, a = some ⟨b, off, none⟩ ∧ lo ≤ b ∧ b < hi ∧ w.cell? ⟨b, off + i, none⟩ = some (.slice r m c) ∧ w.frozen? ⟨b, off + i, none⟩ = false ∧ Mine w lo r m c (rowN xss i) ∧ PlaceM r m lo hi ∧ (0 < m → ∀ o, r ≠ some ⟨b, o, none⟩) := h.row.out i hn
theorem MineR.rows {w : World} {lo hi : Nat} {a : Option Addr} {n cap : Nat} {xss : List (List Int)} (h : MineR w lo hi a n cap xss) : Rws w a n cap xss := by
  refine ⟨h.len, h.ncap, h.small, h.capm, fun i hi => ?_, h.nilc⟩
  obtain ⟨b, off, r, m, c, e, _, hb, hc, _, hm, _⟩ := h.row.out i hi
  exact ⟨b, off, r, m, c, e, Nat.lt_of_lt_of_le hb h.top, hc, hm.ints⟩
theorem MineR.nil {w : World} {lo : Nat} (h : lo ≤ w.heap.size) : MineR w lo lo none 0 0 [] := ⟨rfl, by omega, by omega, by omega, fun _ => rfl, h, fun i hi => by omega, fun i j hi => by omega⟩
theorem MineR.nil' {w : World} {lo hi : Nat} (h : hi ≤ w.heap.size) : MineR w lo hi none 0 0 [] := ⟨rfl, by omega, by omega, by omega, fun _ => rfl, h, fun i hi => by omega, fun i j hi => by omega⟩
theorem MineR.below {w w' : World} {lo hi : Nat} {a : Option Addr} {n cap : Nat} {xss : List (List Int)} (h : MineR w lo hi a n cap xss) (hb : Below w.heap.size w w') : MineR w' lo hi a n cap xss := by
  have ht := h.top
  refine ⟨h.len, h.ncap, h.small, h.capm, h.nilc, Nat.le_trans h.top hb.size, fun i hi => ?_, fun i j hi hj hne b off r m c r' m' c' e h1 h2 => ?_⟩
  · obtain ⟨b, off, r, m, c, e, h1, h2, h3, h4, h5, h6, h7⟩ := h.row.out i hi
    exact ⟨b, off, r, m, c, e, h1, h2, (hb.cell (p := ⟨b, off + i, none⟩) (by show b < _; omega)).trans h3, (hb.frozen (p := ⟨b, off + i, none⟩) (by show b < _; omega)).trans h4, h5.below hb, h6, h7⟩
  · obtain ⟨b1, off1, _, _, _, e1, _, k1, _⟩ := h.row.out i hi
    rw [e1] at e
    simp only [Option.some.injEq, Addr.mk.injEq] at e
    obtain ⟨rfl, rfl, _⟩ := e
    rw [hb.cell (p := ⟨b1, off1 + i, none⟩) (by show b1 < _; omega)] at h1
    rw [hb.cell (p := ⟨b1, off1 + j, none⟩) (by show b1 < _; omega)] at h2
    exact h.apart.out i j hi hj hne b1 off1 r m c r' m' c' e1 h1 h2
theorem MineR.onlyI {w w' : World} {lo hi lo' hi' : Nat} {a : Option Addr} {n cap : Nat} {xss : List (List Int)} (h : MineR w lo hi a n cap xss) (ho : OnlyI lo' hi' w w') (hd : hi ≤ lo' ∨ hi' ≤ lo) : MineR w' lo hi a n cap xss := by
  refine ⟨h.len, h.ncap, h.small, h.capm, h.nilc, Nat.le_trans h.top ho.size, fun i hi => ?_, fun i j hi hj hne b off r m c r' m' c' e h1 h2 => ?_⟩
  · obtain ⟨b, off, r, m, c, e, h1, h2, h3, h4, h5, h6, h7⟩ := h.row.out i hi
    have hk := ho.block b (by omega)
    exact ⟨b, off, r, m, c, e, h1, h2, (World.cell?_of_block hk).trans h3, (World.frozen?_of_block hk).trans h4, h5.onlyI ho h6 hd, h6, h7⟩
  · obtain ⟨b1, off1, _, _, _, e1, q1, k1, _⟩ := h.row.out i hi
    rw [e1] at e
    simp only [Option.some.injEq, Addr.mk.injEq] at e
    obtain ⟨rfl, rfl, _⟩ := e
    have hk := ho.block b1 (by omega)
    rw [World.cell?_of_block (a := ⟨b1, off1 + i, none⟩) hk] at h1
    rw [World.cell?_of_block (a := ⟨b1, off1 + j, none⟩) hk] at h2
    exact h.apart.out i j hi hj hne b1 off1 r m c r' m' c' e1 h1 h2
theorem MineR.wider {w : World} {lo hi lo' hi' : Nat} {a : Option Addr} {n cap : Nat} {xss : List (List Int)} (h : MineR w lo hi a n cap xss) (h1 : lo' ≤ lo) (h2 : hi ≤ hi') (h3 : hi' ≤ w.heap.size) : MineR w lo' hi' a n cap xss := by
  refine ⟨h.len, h.ncap, h.small, h.capm, h.nilc, h3, fun i hi => ?_, h.apart⟩
  obtain ⟨b, off, r, m, c, e, k1, k2, k3, k4, k5, k6, k7⟩ := h.row.out i hi
  exact ⟨b, off, r, m, c, e, by omega, by omega, k3, k4, k5.base h1, fun hm b' o' e' => by have := k6 hm b' o' e'; omega, k7⟩
/-- Row i has been rewritten in place. -/
theorem MineR.turned {w w' : World} {lo hi : Nat} {a : Option Addr} {n cap : Nat} {xss : List (List Int)} (h : MineR w lo hi a n cap xss) {i : Nat} (hi' : i < n) {b off : Nat} {r : Option Addr} {m c : Nat} {ys : List Int}
    (e : a = some ⟨b, off, none⟩) (hc : w.cell? ⟨b, off + i, none⟩ = some (.slice r m c)) (hm : Mine w' lo r m c ys) (ho : OnlyM r m w w') : MineR w' lo hi a n cap (xss.set i ys) := by
  have hlen := h.len.out
  have same : ∀ j, j < n → w'.cell? ⟨b, off + j, none⟩ = w.cell? ⟨b, off + j, none⟩ ∧ w'.frozen? ⟨b, off + j, none⟩ = w.frozen? ⟨b, off + j, none⟩ := by
    intro j hj
    obtain ⟨b1, off1, r1, m1, c1, e1, q1, q2, q3, q4, q5, q6, q7⟩ := h.row.out i hi'
    rw [e1] at e
    simp only [Option.some.injEq, Addr.mk.injEq] at e
    obtain ⟨rfl, rfl, _⟩ := e
    rw [hc] at q3
    simp only [Option.some.injEq, Value.slice.injEq] at q3
    obtain ⟨rfl, rfl, rfl⟩ := q3
    have hk := ho.block b1 (fun hm g o e' q => q7 hm o (by rw [e', q]))
    exact ⟨World.cell?_of_block hk, World.frozen?_of_block hk⟩
  refine ⟨by show _ = _; rw [List.length_set]; exact hlen, h.ncap, h.small, h.capm, h.nilc, Nat.le_trans h.top ho.size, fun j hj => ?_, fun j k hj hk hne b1 off1 r1 m1 c1 r2 m2 c2 e1 h1 h2 => ?_⟩
  · obtain ⟨b1, off1, r1, m1, c1, e1, q1, q2, q3, q4, q5, q6, q7⟩ := h.row.out j hj
    rw [e1] at e
    simp only [Option.some.injEq, Addr.mk.injEq] at e
    obtain ⟨rfl, rfl, _⟩ := e
    rw [rowN_set (by omega)]
    by_cases ej : j = i
    · subst ej
      rw [hc] at q3
      simp only [Option.some.injEq, Value.slice.injEq] at q3
      obtain ⟨rfl, rfl, rfl⟩ := q3
      rw [if_pos rfl]
      exact ⟨b1, off1, r, m, c, e1, q1, q2, (same j hj).1.trans hc, (same j hj).2.trans q4, hm, q6, q7⟩
    · rw [if_neg ej]
      refine ⟨b1, off1, r1, m1, c1, e1, q1, q2, (same j hj).1.trans q3, (same j hj).2.trans q4, ?_, q6, q7⟩
      exact q5.onlyA ho (h.apart.out j i hj hi' ej b1 off1 r1 m1 c1 r m c e1 q3 hc)
  · rw [e1] at e
    simp only [Option.some.injEq, Addr.mk.injEq] at e
    obtain ⟨rfl, rfl, _⟩ := e
    rw [(same j hj).1] at h1
    rw [(same k hk).1] at h2
    exact h.apart.out j k hj hk hne b1 off1 r1 m1 c1 r2 m2 c2 e1 h1 h2
/-- A new row is stored at i. -/
theorem MineR.store {w : World} {lo hi hi2 : Nat} {b off : Nat} {n cap : Nat} {xss : List (List Int)} (h : MineR w lo hi (some ⟨b, off, none⟩) n cap xss) {i : Nat} (hi' : i < n) {r : Option Addr} {m c : Nat} {ys : List Int}
    (hm : Mine w lo r m c ys) (hp : PlaceM r m hi hi2) (h12 : hi ≤ hi2) (htop : hi2 ≤ w.heap.size) : MineR (w.setCell ⟨b, off + i, none⟩ (.slice r m c)) lo hi2 (some ⟨b, off, none⟩) n cap (xss.set i ys) := by
  have hlen := h.len.out
  obtain ⟨b0, off0, r0, m0, c0, e0, q1, q2, q3, q4, q5, q6, q7⟩ := h.row.out i hi'
  simp only [Option.some.injEq, Addr.mk.injEq] at e0
  obtain ⟨rfl, rfl, _⟩ := e0
  have hsame : (w.setCell ⟨b, off + i, none⟩ (.slice r m c)).cell? ⟨b, off + i, none⟩ = some (.slice r m c) := World.cell?_setCell_same _ _ _ q3
  have hoth : ∀ j, j ≠ i → (w.setCell ⟨b, off + i, none⟩ (.slice r m c)).cell? ⟨b, off + j, none⟩ = w.cell? ⟨b, off + j, none⟩ := fun j hj => World.cell?_setCell_other _ _ _ _ (by intro e; simp at e <;> omega)
  have hfro : ∀ p, (w.setCell ⟨b, off + i, none⟩ (.slice r m c)).frozen? p = w.frozen? p := fun p => by simp
  have hon : OnlyM (some ⟨b, off, none⟩) n w (w.setCell ⟨b, off + i, none⟩ (.slice r m c)) := (OnlyM.refl _ _ _).setCell (by omega) _
  have far : ∀ {r1 : Option Addr} {m1 c1 : Nat} {zs : List Int}, Mine w lo r1 m1 c1 zs → (0 < m1 → ∀ o, r1 ≠ some ⟨b, o, none⟩) → Mine (w.setCell ⟨b, off + i, none⟩ (.slice r m c)) lo r1 m1 c1 zs := fun hz hne =>
    hz.onlyA hon (fun h1 _ g o g' o' e e' q => by
      simp only [Option.some.injEq, Addr.mk.injEq] at e'
      obtain ⟨rfl, _, _⟩ := e'
      subst q
      exact hne h1 o e)
  have hnew : 0 < m → ∀ o, r ≠ some ⟨b, o, none⟩ := fun h0 o e => by have := hp h0 b o e; omega
  refine ⟨by show _ = _; rw [List.length_set]; exact hlen, h.ncap, h.small, h.capm, h.nilc, by simpa [World.setCell] using htop, fun j hj => ?_, fun j k hj hk hne b1 off1 r1 m1 c1 r2 m2 c2 e1 h1 h2 => ?_⟩
  · rw [rowN_set (by omega)]
    by_cases ej : j = i
    · subst ej
      rw [if_pos rfl]
      exact ⟨b, off, r, m, c, rfl, q1, by omega, hsame, (hfro _).trans q4, far hm hnew, fun h0 g o e => by have := hp h0 g o e; omega, hnew⟩
    · rw [if_neg ej]
      obtain ⟨b1, off1, r1, m1, c1, e1, k1, k2, k3, k4, k5, k6, k7⟩ := h.row.out j hj
      simp only [Option.some.injEq, Addr.mk.injEq] at e1
      obtain ⟨rfl, rfl, _⟩ := e1
      exact ⟨b, off, r1, m1, c1, rfl, k1, by omega, (hoth j ej).trans k3, (hfro _).trans k4, far k5 k7, fun h0 g o e => by have := k6 h0 g o e; omega, k7⟩
  · simp only [Option.some.injEq, Addr.mk.injEq] at e1
    obtain ⟨rfl, rfl, _⟩ := e1
    have old : ∀ q, q < n → q ≠ i → ∀ r1 m1 c1, w.cell? ⟨b, off + q, none⟩ = some (.slice r1 m1 c1) → PlaceM r1 m1 lo hi := by
      intro q hq _ r1 m1 c1 hc1
      obtain ⟨b1, off1, r3, m3, c3, e3, _, _, k3, _, _, k6, _⟩ := h.row.out q hq
      simp only [Option.some.injEq, Addr.mk.injEq] at e3
      obtain ⟨rfl, rfl, _⟩ := e3
      rw [hc1] at k3
      simp only [Option.some.injEq, Value.slice.injEq] at k3
      obtain ⟨rfl, rfl, rfl⟩ := k3
      exact k6
    by_cases ej : j = i
    · subst ej
      rw [hsame] at h1
      simp only [Option.some.injEq, Value.slice.injEq] at h1
      obtain ⟨rfl, rfl, rfl⟩ := h1
      rw [hoth k (fun q => hne q.symm)] at h2
      exact Apart.of hp (old k hk (fun q => hne q.symm) _ _ _ h2) (Or.inr (Nat.le_refl _))
    · rw [hoth j ej] at h1
      by_cases ek : k = i
      · subst ek
        rw [hsame] at h2
        simp only [Option.some.injEq, Value.slice.injEq] at h2
        obtain ⟨rfl, rfl, rfl⟩ := h2
        exact Apart.of (old j hj ej _ _ _ h1) hp (Or.inl (Nat.le_refl _))
      · rw [hoth k ek] at h2
        exact h.apart.out j k hj hk hne b off r1 m1 c1 r2 m2 c2 rfl h1 h2
/-- What the laws write into a slice of slices. -/
def marksR (k : Int) (xss : List (List Int)) : List (List Int) := (List.range xss.length).map fun (i : Nat) => marks (k + (pre xss i : Nat)) (rowN xss i).length
theorem marksR_len (k : Int) (xss : List (List Int)) : (marksR k xss).length = xss.length := by simp [marksR]
theorem rowN_marksR {k : Int} {xss : List (List Int)} {i : Nat} (hi : i < xss.length) : rowN (marksR k xss) i = marks (k + (pre xss i : Nat)) (rowN xss i).length := by simp [rowN, marksR, hi]
end Go.Proofs.YtfichpppjpgahaaGreatDoor
namespace Go.Proofs.YtfichpppjpgahaaGreatDoor
open Go.RowKit
set_option linter.unusedVariables false
set_option linter.unusedSimpArgs false

/-- A slice of n structs of K ints each; zs are all fields. -/
structure Recs (K : Nat) (w : World) (a : Option Addr) (n cap : Nat) (zs : List Int) : Prop where
  ints : Ints w a (n * K) (n * K) zs
  ncap : n ≤ cap
  capm : cap ≤ 9223372036854775807
  small : n ≤ 17592186044416
  nilc : Hid (a = none → cap = 0)
theorem idx_lt {n K i j : Nat} (hi : i < n) (hj : j < K) : i * K + j < n * K := by
  have h1 : (i + 1) * K ≤ n * K := Nat.mul_le_mul_right K hi
  rw [Nat.succ_mul] at h1
  omega
theorem Recs.len {K : Nat} {w : World} {a : Option Addr} {n cap : Nat} {zs : List Int} (h : Recs K w a n cap zs) : zs.length = n * K := h.ints.len.out
theorem Recs.below {K : Nat} {w w' : World} {a : Option Addr} {n cap : Nat} {zs : List Int} (h : Recs K w a n cap zs) (hb : Below w.heap.size w w') : Recs K w' a n cap zs :=
  ⟨h.ints.below hb, h.ncap, h.capm, h.small, h.nilc⟩
theorem Recs.alloc {K : Nat} {w : World} {a : Option Addr} {n cap : Nat} {zs : List Int} (h : Recs K w a n cap zs) (o : Obj) : Recs K (w.alloc o) a n cap zs := h.below (bel_alloc _ _)
/-- The j-th field of the i-th struct. -/
def fld (K : Nat) (zs : List Int) (i j : Nat) : Int := nth zs (i * K + j)
theorem Recs.at {K : Nat} {w : World} {a : Option Addr} {n cap : Nat} {zs : List Int} (h : Recs K w a n cap zs) {i j : Nat} (hi : i < n) (hj : j < K) :
    ∃ b off, a = some ⟨b, off, none⟩ ∧ b < w.heap.size ∧ w.cell? ⟨b, off + (i * K + j), none⟩ = some (.int .i64 (fld K zs i j)) := h.ints.at (idx_lt hi hj)
theorem Recs.fit {K : Nat} {w : World} {a : Option Addr} {n cap : Nat} {zs : List Int} (h : Recs K w a n cap zs) {i j : Nat} (hi : i < n) (hj : j < K) : Fits (fld K zs i j) := h.ints.fit (idx_lt hi hj)
/-- Two fields. -/
theorem Recs.at2 {w : World} {a : Option Addr} {n cap : Nat} {zs : List Int} (h : Recs 2 w a n cap zs) {i : Nat} (hi : i < n) :
    ∃ b off, a = some ⟨b, off, none⟩ ∧ b < w.heap.size ∧ w.cell? ⟨b, off + i * 2, none⟩ = some (.int .i64 (fld 2 zs i 0)) ∧ w.cell? ⟨b, off + i * 2 + 1, none⟩ = some (.int .i64 (fld 2 zs i 1)) := by
  obtain ⟨b, off, e, hl, h0⟩ := h.at hi (j := 0) (by omega)
  obtain ⟨b', off', e', _, h1⟩ := h.at hi (j := 1) (by omega)
  rw [e] at e'
  simp only [Option.some.injEq, Addr.mk.injEq] at e'
  obtain ⟨rfl, rfl, _⟩ := e'
  exact ⟨b, off, e, hl, h0, h1⟩
/-- Three fields. -/
theorem Recs.at3 {w : World} {a : Option Addr} {n cap : Nat} {zs : List Int} (h : Recs 3 w a n cap zs) {i : Nat} (hi : i < n) :
    ∃ b off, a = some ⟨b, off, none⟩ ∧ b < w.heap.size ∧ w.cell? ⟨b, off + i * 3, none⟩ = some (.int .i64 (fld 3 zs i 0)) ∧ w.cell? ⟨b, off + i * 3 + 1, none⟩ = some (.int .i64 (fld 3 zs i 1)) ∧ w.cell? ⟨b, off + i * 3 + 2, none⟩ = some (.int .i64 (fld 3 zs i 2)) := by
  obtain ⟨b, off, e, hl, h0⟩ := h.at hi (j := 0) (by omega)
  obtain ⟨b', off', e', _, h1⟩ := h.at hi (j := 1) (by omega)
  obtain ⟨b'', off'', e'', _, h2⟩ := h.at hi (j := 2) (by omega)
  rw [e] at e' e''
  simp only [Option.some.injEq, Addr.mk.injEq] at e' e''
  obtain ⟨rfl, rfl, _⟩ := e'
  obtain ⟨rfl, rfl, _⟩ := e''
  exact ⟨b, off, e, hl, h0, h1, h2⟩

/-- Slices of structs among a law's arguments. -/
def RecsIn (K : Nat) (w : World) (a : Option Addr) (n c : Nat) (zs : List Int) : Prop := n ≤ 9223372036854775807 ∧ (n ≤ 1048576 → Recs K w a n c zs)
theorem RecsIn.nil {K : Nat} {w : World} : RecsIn K w none 0 0 [] :=
  ⟨by omega, fun _ => ⟨⟨by show _ = _; simp, Nat.le_refl _, by simp, by simp, fun i hi => by simp at hi, fun x hx => by simp at hx, fun _ => by simp⟩, by omega, by omega, by omega, fun _ => rfl⟩⟩
theorem RecsIn.below {K : Nat} {w w' : World} {a : Option Addr} {n c : Nat} {zs : List Int} (h : RecsIn K w a n c zs) (hb : Below w.heap.size w w') : RecsIn K w' a n c zs := ⟨h.1, fun hn => (h.2 hn).below hb⟩
/-- The number in a cell. -/
def cellInt (w : World) (a : Addr) : Int := match w.cell? a with | some (.int _ y) => y | _ => 0
theorem RecsIn.of {K : Nat} {w : World} {x : Addr} {l c : Nat} (hK : 0 < K) (hK2 : K ≤ 1000) (hl : l ≤ c) (hm : c ≤ maxLen) (hx : ∀ i, i < l → ∀ j, j < K → ∃ y, w.cell? (x.add (i * K + j)) = some (.int .i64 y) ∧ Fits y) :
    ∃ zs, RecsIn K w (some x) l c zs := by
  unfold maxLen at hm
  refine ⟨(List.range (l * K)).map fun q => cellInt w (x.add q), by omega, fun hs => ?_⟩
  have hsm : l * K ≤ 1048576 * 1000 := Nat.mul_le_mul hs hK2
  have hq : ∀ q, q < l * K → ∃ y, w.cell? (x.add q) = some (.int .i64 y) ∧ Fits y := by
    intro q hq
    have h1 : q / K < l := by rw [Nat.div_lt_iff_lt_mul hK]; exact hq
    have h2 := hx (q / K) h1 (q % K) (Nat.mod_lt _ hK)
    rwa [Nat.mul_comm, Nat.div_add_mod] at h2
  refine ⟨⟨by show _ = _; simp, Nat.le_refl _, by omega, by omega, fun i hi => ?_, fun y hy => ?_, fun e => by cases e⟩, hl, by omega, by omega, fun e => by cases e⟩
  · obtain ⟨y, hc, hf⟩ := hq i hi
    have h0 := (hq 0 (by omega)).choose_spec.1
    have hsp : x.spot = none := by
      have := World.cell?_spot h0
      simpa [Addr.add] using this
    rw [addr_of_spot hsp] at hc
    obtain ⟨b, off, spot⟩ := x
    simp only at hsp; subst hsp
    refine ⟨b, off, rfl, lt_of_cell hc, ?_⟩
    rw [hc]
    simp only [nth, List.getD_eq_getElem?_getD, List.getElem?_map, List.getElem?_range hi, Option.map_some, Option.getD_some]
    unfold cellInt
    rw [addr_of_spot rfl, hc]
  · simp only [List.mem_map, List.mem_range] at hy
    obtain ⟨q, hq1, rfl⟩ := hy
    obtain ⟨y, hc, hf⟩ := hq q hq1
    unfold cellInt
    rw [hc]; exact hf

/-- A slice of structs in memory of a call's own (from block B on), that may be written. -/
structure MineK (K : Nat) (w : World) (B : Nat) (a : Option Addr) (n cap : Nat) (zs : List Int) : Prop where
  mine : Mine w B a (n * K) (n * K) zs
  ncap : n ≤ cap
  capm : cap ≤ 9223372036854775807
  small : n ≤ 17592186044416
  nilc : Hid (a = none → cap = 0)
theorem MineK.recs {K : Nat} {w : World} {B : Nat} {a : Option Addr} {n cap : Nat} {zs : List Int} (h : MineK K w B a n cap zs) : Recs K w a n cap zs := ⟨h.mine.ints, h.ncap, h.capm, h.small, h.nilc⟩
theorem MineK.pl {K : Nat} {w : World} {B : Nat} {a : Option Addr} {n cap : Nat} {zs : List Int} (h : MineK K w B a n cap zs) : PlaceM a (n * K) B w.heap.size := h.mine.pl
theorem MineK.base {K : Nat} {w : World} {B B' : Nat} {a : Option Addr} {n cap : Nat} {zs : List Int} (h : MineK K w B a n cap zs) (hB : B' ≤ B) : MineK K w B' a n cap zs := ⟨h.mine.base hB, h.ncap, h.capm, h.small, h.nilc⟩
theorem MineK.below {K : Nat} {w w' : World} {B : Nat} {a : Option Addr} {n cap : Nat} {zs : List Int} (h : MineK K w B a n cap zs) (hb : Below w.heap.size w w') : MineK K w' B a n cap zs := ⟨h.mine.below hb, h.ncap, h.capm, h.small, h.nilc⟩
theorem MineK.onlyI {K : Nat} {w w' : World} {B : Nat} {t : Option Addr} {n cap : Nat} {xs : List Int} {lo hi lo' hi' : Nat} (h : MineK K w B t n cap xs) (ho : OnlyI lo' hi' w w') (pt : PlaceM t (n * K) lo hi) (hd : hi ≤ lo' ∨ hi' ≤ lo) : MineK K w' B t n cap xs :=
  ⟨h.mine.onlyI ho pt hd, h.ncap, h.capm, h.small, h.nilc⟩
theorem MineK.onlyA {K : Nat} {w w' : World} {B : Nat} {a t : Option Addr} {n m cap : Nat} {xs : List Int} (h : MineK K w B t n cap xs) (ho : OnlyM a m w w') (hd : Apart t (n * K) a m) : MineK K w' B t n cap xs := ⟨h.mine.onlyA ho hd, h.ncap, h.capm, h.small, h.nilc⟩
theorem MineK.nil {K : Nat} {w : World} {B : Nat} : MineK K w B none 0 0 [] := by
  have h := Mine.nil (w := w) (B := B)
  refine ⟨?_, by omega, by omega, by omega, fun _ => rfl⟩
  rw [Nat.zero_mul]; exact h
theorem MineK.of {E : TypeId} {K : Nat} {w : World} {B : Nat} {v : Value} {n : Nat} {zs : List Int} (h : w.ownsRow B E K v n (ivs zs)) (hs : n * K ≤ 17592186044416) (hs2 : n ≤ 17592186044416) (hf : ∀ x ∈ zs, Fits x) :
    ∃ a cap, v = .slice a n cap ∧ MineK K w B a n cap zs := by
  have hl : zs.length = n * K := by have := h.1; rw [ivs_len] at this; exact this
  have h' := h
  obtain ⟨_, h2⟩ := h
  rcases h2 with ⟨rfl, rfl⟩ | ⟨g, cap, cur, rfl, hg, hh, hn, hm, hc, ht⟩
  · have : zs = [] := by rw [Nat.zero_mul] at hl; exact List.length_eq_zero_iff.1 hl
    subst this
    exact ⟨none, 0, rfl, MineK.nil⟩
  · have hlt : g < w.heap.size := by
      rcases Nat.lt_or_ge g w.heap.size with k | k
      · exact k
      · rw [Array.getElem?_eq_none k] at hh; cases hh
    refine ⟨_, cap, rfl, ⟨⟨⟨hl, Nat.le_refl _, hs, by omega, fun i hi => ⟨g, 0, rfl, hlt, ?_⟩, hf, fun e => by cases e⟩, fun _ b off e => ?_, fun i hi b off e => ?_⟩, hn, by unfold maxLen at hm; omega, hs2, fun e => by cases e⟩⟩
    · rw [Nat.zero_add, World.ownsRow.cellAt h' i hi]
      simp [ivs, nth, hl, hi]
    · simp only [Option.some.injEq, Addr.mk.injEq] at e
      obtain ⟨rfl, _, _⟩ := e
      exact ⟨hg, hlt⟩
    · simp only [Option.some.injEq, Addr.mk.injEq] at e
      obtain ⟨rfl, rfl, _⟩ := e
      rw [Nat.zero_add]
      exact World.ownsRow.frozenAt h' i
theorem Mine.at0 {w : World} {B : Nat} {a : Option Addr} {n cap : Nat} {xs : List Int} (h : Mine w B a n cap xs) {i : Nat} (hi : i < n) {b off : Nat} (e : a = some ⟨b, off, none⟩) :
    B ≤ b ∧ b < w.heap.size ∧ w.cell? ⟨b, off + i, none⟩ = some (.int .i64 (nth xs i)) ∧ w.frozen? ⟨b, off + i, none⟩ = false := by
  obtain ⟨b', off', e', h1, h2, h3, h4⟩ := h.at hi
  rw [e] at e'
  simp only [Option.some.injEq, Addr.mk.injEq] at e'
  obtain ⟨rfl, rfl, _⟩ := e'
  exact ⟨h1, h2, h3, h4⟩
/-- The cells of the i-th struct, of two fields. -/
theorem MineK.at2 {w : World} {B : Nat} {a : Option Addr} {n cap : Nat} {zs : List Int} (h : MineK 2 w B a n cap zs) {i : Nat} (hi : i < n) :
    ∃ b off, a = some ⟨b, off, none⟩ ∧ B ≤ b ∧ b < w.heap.size ∧ w.cell? ⟨b, off + i * 2, none⟩ = some (.int .i64 (fld 2 zs i 0)) ∧ w.cell? ⟨b, off + i * 2 + 1, none⟩ = some (.int .i64 (fld 2 zs i 1)) ∧
      w.frozen? ⟨b, off + i * 2, none⟩ = false ∧ w.frozen? ⟨b, off + i * 2 + 1, none⟩ = false := by
  obtain ⟨b, off, e, h1, h2, h3, h4⟩ := h.mine.at (i := i * 2) (by omega)
  obtain ⟨_, _, k3, k4⟩ := h.mine.at0 (i := i * 2 + 1) (by omega) e
  exact ⟨b, off, e, h1, h2, h3, k3, h4, k4⟩
theorem MineK.at3 {w : World} {B : Nat} {a : Option Addr} {n cap : Nat} {zs : List Int} (h : MineK 3 w B a n cap zs) {i : Nat} (hi : i < n) :
    ∃ b off, a = some ⟨b, off, none⟩ ∧ B ≤ b ∧ b < w.heap.size ∧ w.cell? ⟨b, off + i * 3, none⟩ = some (.int .i64 (fld 3 zs i 0)) ∧ w.cell? ⟨b, off + i * 3 + 1, none⟩ = some (.int .i64 (fld 3 zs i 1)) ∧ w.cell? ⟨b, off + i * 3 + 2, none⟩ = some (.int .i64 (fld 3 zs i 2)) ∧
      w.frozen? ⟨b, off + i * 3, none⟩ = false ∧ w.frozen? ⟨b, off + i * 3 + 1, none⟩ = false ∧ w.frozen? ⟨b, off + i * 3 + 2, none⟩ = false := by
  obtain ⟨b, off, e, h1, h2, h3, h4⟩ := h.mine.at (i := i * 3) (by omega)
  obtain ⟨_, _, k3, k4⟩ := h.mine.at0 (i := i * 3 + 1) (by omega) e
  obtain ⟨_, _, l3, l4⟩ := h.mine.at0 (i := i * 3 + 2) (by omega) e
  exact ⟨b, off, e, h1, h2, h3, k3, l3, h4, k4, l4⟩
theorem MineK.set {K : Nat} {w : World} {B b off : Nat} {n cap : Nat} {zs : List Int} (h : MineK K w B (some ⟨b, off, none⟩) n cap zs) {q : Nat} (hq : q < n * K) (u : Int) (hu : Fits u) :
    MineK K (w.setCell ⟨b, off + q, none⟩ (.int .i64 u)) B (some ⟨b, off, none⟩) n cap (zs.set q u) := ⟨h.mine.set hq u hu, h.ncap, h.capm, h.small, h.nilc⟩
theorem madeK (K m : Nat) (z : Array Value) (hz : z.toList = List.replicate K (Value.int .i64 0)) (hK : 0 < K) : (madeCells z m).toList = ivs (List.replicate m 0) := by
  apply List.ext_getElem?
  intro j
  have hs : z.size = K := by rw [← Array.length_toList, hz]; simp
  by_cases hj : j < m
  · have h1 : j % K < z.size := by rw [hs]; exact Nat.mod_lt _ hK
    have h2 : z[j % K]'h1 = Value.int .i64 0 := by
      have : z.toList[j % K]'(by simpa using h1) = Value.int .i64 0 := by simp [hz]
      simpa using this
    have h3 : z[j % K]! = Value.int .i64 0 := by rw [getElem!_pos z (j % K) h1]; exact h2
    simp [madeCells, hj, ivs, hs, h3]
  · simp [madeCells, hj, ivs]
end Go.Proofs.YtfichpppjpgahaaGreatDoor
namespace Go.Proofs.YtfichpppjpgahaaGreatDoor
open Go.RowKit
set_option linter.unusedVariables false
set_option linter.unusedSimpArgs false

/-- What the size's count says. -/
def SzK (K : Nat) (w : World) (a : Option Addr) (n cap : Nat) (zs : List Int) (left l' : Int) : Prop := l' = -1 ∨ (0 ≤ l' ∧ l' ≤ left ∧ Recs K w a n cap zs ∧ (n : Int) ≤ left ∧ n ≤ 1048576)
/-- Three cells of a slice of structs. -/
theorem nth_set3 {zs ys : List Int} {n k : Nat} (hl : ys.length = n * 3) (hk : k < n) (H : ∀ j, j < k * 3 → nth ys j = nth zs j) {a b c : Int} (ha : a = fld 3 zs k 0) (hb : b = fld 3 zs k 1) (hc : c = fld 3 zs k 2) :
    ∀ j, j < (k + 1) * 3 → nth (((ys.set (k * 3) a).set (k * 3 + 1) b).set (k * 3 + 2) c) j = nth zs j := by
  intro j hj
  rw [nth_set (by rw [List.length_set, List.length_set, hl]; omega), nth_set (by rw [List.length_set, hl]; omega), nth_set (by rw [hl]; omega)]
  by_cases e0 : j = k * 3 + 2
  · subst e0; rw [if_pos rfl]; exact hc
  · rw [if_neg e0]
    by_cases e1 : j = k * 3 + 1
    · subst e1; rw [if_pos rfl]; exact hb
    · rw [if_neg e1]
      by_cases e2 : j = k * 3
      · subst e2; rw [if_pos rfl]; exact ha
      · rw [if_neg e2]; exact H j (by omega)
theorem fld_marks {k0 : Int} {n k j : Nat} (hk : k < n) (hj : j < 3) : fld 3 (marks k0 (n * 3)) k j = k0 + (k * 3 + j : Nat) := by
  unfold fld; exact nth_marks (by omega)
theorem MineK.set3 {w : World} {B b off n cap : Nat} {ys : List Int} (h : MineK 3 w B (some ⟨b, off, none⟩) n cap ys) {k : Nat} (hk : k < n) {x y z : Int} (hx : Fits x) (hy : Fits y) (hz : Fits z) :
    MineK 3 (((w.setCell ⟨b, off + k * 3, none⟩ (.int .i64 x)).setCell ⟨b, off + k * 3 + 1, none⟩ (.int .i64 y)).setCell ⟨b, off + k * 3 + 2, none⟩ (.int .i64 z)) B (some ⟨b, off, none⟩) n cap (((ys.set (k * 3) x).set (k * 3 + 1) y).set (k * 3 + 2) z) := by
  have g1 := h.set (q := k * 3) (by omega) x hx
  have g2 := g1.set (q := k * 3 + 1) (by omega) y hy
  have g3 := g2.set (q := k * 3 + 2) (by omega) z hz
  exact g3
end Go.Proofs.YtfichpppjpgahaaGreatDoor
