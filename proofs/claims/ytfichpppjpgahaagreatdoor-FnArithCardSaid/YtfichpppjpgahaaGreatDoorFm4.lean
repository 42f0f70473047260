/-
  The cursor of a draw: its block, the bytes that it reads; what its functions give is in bounds, whatever the bytes are.
  The cursor of a draw: picks, one of a list, primes, elements.
  Two slices of ints that the call made and that both grow by append.
  A slice of slices of ints that grows by append.
  Contracts of copies, digests and what is derived from them.
  append at a step of a region that draws its order: ints, and rows.
-/
import Derived.Test.YtfichpppjpgahaaGreatDoorFm1
import Derived.Deep.RegionHeld3
import Derived.Maps.AppendAt
import Derived.Deep.AppendLies
import Derived.Laws.AppendOwnNone
namespace Go.Proofs.YtfichpppjpgahaaGreatDoor
open Go.RowKit
set_option linter.unusedVariables false
set_option linter.unusedSimpArgs false

/-- A slice of bytes. -/
structure Byts (w : World) (a : Option Addr) (n cap : Nat) : Prop where
  ncap : n ≤ cap
  capm : cap ≤ 9223372036854775807
  small : n ≤ 9223372036854775807
  cell : Hid (∀ i, i < n → ∃ b off, ∃ y : Nat, a = some ⟨b, off, none⟩ ∧ b < w.heap.size ∧ w.cell? ⟨b, off + i, none⟩ = some (.int .u8 y) ∧ y ≤ 255)
theorem Byts.below {w w' : World} {a : Option Addr} {n cap : Nat} (h : Byts w a n cap) (hb : Below w.heap.size w w') : Byts w' a n cap := by
  refine ⟨h.ncap, h.capm, h.small, fun i hi => ?_⟩
  obtain ⟨b, off, y, e, hl, hc, hy⟩ := h.cell.out i hi
  exact ⟨b, off, y, e, Nat.lt_of_lt_of_le hl hb.size, (hb.cell (p := ⟨b, off + i, none⟩) hl).trans hc, hy⟩
/-- Slices of bytes among a law's arguments. -/
def BytesIn (w : World) (a : Option Addr) (n c : Nat) (zs : List Int) : Prop := Byts w a n c
theorem u8_wf {a : Int} (h : (Lit.int .u8 a).wf = true) : 0 ≤ a ∧ a ≤ 255 := by
  simp [Lit.wf, IntKind.min, IntKind.max, IntKind.bits, IntKind.signed] at h
  omega
theorem BytesIn.nil {w : World} : BytesIn w none 0 0 [] := ⟨by omega, by omega, by omega, fun i hi => by omega⟩
theorem BytesIn.of {w : World} {x : Addr} {l c : Nat} {zs : List Int} (hl : l ≤ c) (hm : c ≤ maxLen) (hz : zs.length = c) (hcell : ∀ i, i < zs.length → w.cell? (x.add i) = some (.int .u8 (zs.getD i 0)))
    (hwz : ∀ n ∈ zs, (Lit.int .u8 n).wf = true) : BytesIn w (some x) l c (zs.take l) := by
  unfold maxLen at hm
  refine ⟨hl, hm, by omega, fun i hi => ?_⟩
  have hc := hcell i (by omega)
  obtain ⟨b, off, spot⟩ := x
  have hspot : spot = none := by
    have := World.cell?_spot (hcell 0 (by omega))
    simpa [Addr.add] using this
  subst hspot
  have e : (⟨b, off, none⟩ : Addr).add i = ⟨b, off + i, none⟩ := by
    unfold Addr.add; split
    · rename_i h0; subst h0; rfl
    · rfl
  rw [e] at hc
  have hm : zs.getD i 0 ∈ zs := by
    have hi' : i < zs.length := by omega
    simp only [List.getD_eq_getElem?_getD, List.getElem?_eq_getElem hi', Option.getD_some]
    exact List.getElem_mem hi'
  have hb := u8_wf (hwz _ hm)
  refine ⟨b, off, (zs.getD i 0).toNat, rfl, lt_of_cell hc, ?_, by omega⟩
  rw [hc, show ((zs.getD i 0).toNat : Int) = zs.getD i 0 by omega]

/-- All blocks but one are as they were. -/
structure Bex (b : Nat) (w w' : World) : Prop where
  os : w'.os = w.os
  tape : w'.tape = w.tape
  output : w'.output = w.output
  size : w.heap.size ≤ w'.heap.size
  block : ∀ k, k < w.heap.size → k ≠ b → w'.heap[k]? = w.heap[k]?
theorem Bex.refl (b : Nat) (w : World) : Bex b w w := ⟨rfl, rfl, rfl, Nat.le_refl _, fun _ _ _ => rfl⟩
theorem Bex.trans {b : Nat} {x y z : World} (h : Bex b x y) (k : Bex b y z) : Bex b x z :=
  ⟨k.os.trans h.os, k.tape.trans h.tape, k.output.trans h.output, Nat.le_trans h.size k.size, fun i hi hne => (k.block i (Nat.lt_of_lt_of_le hi h.size) hne).trans (h.block i hi hne)⟩
theorem Bex.of {b : Nat} {w w' : World} (h : Below w.heap.size w w') : Bex b w w' := ⟨h.os, h.tape, h.output, h.size, fun k hk _ => h.block k hk⟩
theorem Bex.set {b i : Nat} (w : World) (u : Value) : Bex b w (w.setCell ⟨b, i, none⟩ u) :=
  ⟨rfl, rfl, rfl, by simp, fun k _ hne => Below.heap_setCell _ _ _ _ hne⟩
theorem Below.bex {b B : Nat} {w0 w w' : World} (h : Below B w0 w) (k : Bex b w w') (hb : B ≤ b) (hB : B ≤ w.heap.size) : Below B w0 w' :=
  h.trans ⟨k.os, k.tape, k.output, k.size, fun i hi => k.block i (by omega) (by omega)⟩
theorem Bex.cell {b g o : Nat} {w w' : World} {x : Value} (k : Bex b w w') (h : w.cell? ⟨g, o, none⟩ = some x) (hne : g ≠ b) : w'.cell? ⟨g, o, none⟩ = some x :=
  (World.cell?_of_block (a := ⟨g, o, none⟩) (k.block g (lt_of_cell h) hne)).trans h
theorem Bex.frozen {b g o : Nat} {w w' : World} (k : Bex b w w') (hg : g < w.heap.size) (hne : g ≠ b) : w'.frozen? ⟨g, o, none⟩ = w.frozen? ⟨g, o, none⟩ :=
  World.frozen?_of_block (a := ⟨g, o, none⟩) (k.block g hg hne)
/-- A slice whose elements do not lie in a block. -/
def Off (b : Nat) (a : Option Addr) (n : Nat) : Prop := 0 < n → ∀ g o, a = some ⟨g, o, none⟩ → g ≠ b
theorem Off.of {a : Option Addr} {n lo hi b : Nat} (p : PlaceM a n lo hi) (h : b < lo ∨ hi ≤ b) : Off b a n := fun hn g o e => by have := p hn g o e; omega
theorem Ints.bex {b : Nat} {w w' : World} {a : Option Addr} {n cap : Nat} {xs : List Int} (h : Ints w a n cap xs) (k : Bex b w w') (ho : Off b a n) : Ints w' a n cap xs := by
  refine ⟨h.len, h.ncap, h.small, h.capm, fun i hi => ?_, h.wf, h.nilc⟩
  obtain ⟨g, off, e, hl, hc⟩ := h.cell.out i hi
  exact ⟨g, off, e, Nat.lt_of_lt_of_le hl k.size, k.cell hc (ho (by omega) g off e)⟩
theorem Mine.bex {b B : Nat} {w w' : World} {a : Option Addr} {n cap : Nat} {xs : List Int} (h : Mine w B a n cap xs) (k : Bex b w w') (hb : b < B) : Mine w' B a n cap xs := by
  have ho : Off b a n := Off.of h.pl (Or.inl hb)
  refine ⟨h.ints.bex k ho, fun hn g off e => ⟨(h.place.out hn g off e).1, Nat.lt_of_lt_of_le (h.place.out hn g off e).2 k.size⟩, fun i hi g off e => ?_⟩
  have hp := h.place.out (by omega) g off e
  exact (k.frozen hp.2 (by omega)).trans (h.free.out i hi g off e)
theorem OwnI.bex {E : TypeId} {b B : Nat} {w w' : World} {a : Option Addr} {n cap : Nat} {xs : List Int} (h : OwnI E w B a n cap xs) (k : Bex b w w') (hb : b < B) : OwnI E w' B a n cap xs := by
  refine ⟨h.mine.bex k hb |>.ints, ?_⟩
  obtain ⟨h1, h2⟩ := h.own
  refine ⟨h1, ?_⟩
  rcases h2 with h2 | ⟨g, cap', cur, hv, hg, hh, r⟩
  · exact .inl h2
  · refine .inr ⟨g, cap', cur, hv, hg, ?_, r⟩
    have hgl : g < w.heap.size := by
      rcases Nat.lt_or_ge g w.heap.size with q | q
      · exact q
      · rw [Array.getElem?_eq_none q] at hh; cases hh
    rw [k.block g hgl (by omega)]; exact hh
theorem ownsRow_bex {E : TypeId} {b B s n : Nat} {w w' : World} {v : Value} {xs : List Value} (h : w.ownsRow B E s v n xs) (k : Bex b w w') (hb : b < B) : w'.ownsRow B E s v n xs := by
  obtain ⟨h1, h2⟩ := h
  refine ⟨h1, ?_⟩
  rcases h2 with h2 | ⟨g, cap', cur, hv, hg, hh, r⟩
  · exact .inl h2
  · refine .inr ⟨g, cap', cur, hv, hg, ?_, r⟩
    have hgl : g < w.heap.size := by
      rcases Nat.lt_or_ge g w.heap.size with q | q
      · exact q
      · rw [Array.getElem?_eq_none q] at hh; cases hh
    rw [k.block g hgl (by omega)]; exact hh

/-- A slice whose elements lie below a block. -/
def Und (B : Nat) (a : Option Addr) (n : Nat) : Prop := 0 < n → ∀ g o, a = some ⟨g, o, none⟩ → g < B
/-- The cursor in block b, which has been asked at most K times. -/
structure Cur (w : World) (b B K : Nat) : Prop where
  lt : b < w.heap.size
  base : B ≤ b
  cells : Hid (∃ (a : Option Addr) (n cap i s : Nat), w.cell? ⟨b, 0, none⟩ = some (.slice a n cap) ∧ w.cell? ⟨b, 1, none⟩ = some (.int .i64 i) ∧ w.cell? ⟨b, 2, none⟩ = some (.int .u64 s) ∧
    w.frozen? ⟨b, 1, none⟩ = false ∧ w.frozen? ⟨b, 2, none⟩ = false ∧ i ≤ K ∧ s < 18446744073709551616 ∧ Byts w a n cap ∧ Und B a n)
theorem Cur.below {w w' : World} {b B K : Nat} (h : Cur w b B K) (hb : Below w.heap.size w w') : Cur w' b B K := by
  refine ⟨Nat.lt_of_lt_of_le h.lt hb.size, h.base, ?_⟩
  obtain ⟨a, n, cap, i, s, h0, h1, h2, f1, f2, hi, hs, hB, ho⟩ := h.cells.out
  exact ⟨a, n, cap, i, s, cell_on h0 hb, cell_on h1 hb, cell_on h2 hb, (hb.frozen (p := ⟨b, 1, none⟩) h.lt).trans f1, (hb.frozen (p := ⟨b, 2, none⟩) h.lt).trans f2, hi, hs, hB.below hb, ho⟩
theorem Cur.more {w : World} {b B K K' : Nat} (h : Cur w b B K) (hK : K ≤ K') : Cur w b B K' := by
  refine ⟨h.lt, h.base, ?_⟩
  obtain ⟨a, n, cap, i, s, h0, h1, h2, f1, f2, hi, hs, hB, ho⟩ := h.cells.out
  exact ⟨a, n, cap, i, s, h0, h1, h2, f1, f2, by omega, hs, hB, ho⟩
/-- A store into another block. -/
theorem Cur.store {w : World} {b B K : Nat} {p : Addr} {u : Value} (h : Cur w b B K) (hp : p.block ≠ b) (hq : B ≤ p.block) : Cur (w.setCell p u) b B K := by
  refine ⟨by simpa using h.lt, h.base, ?_⟩
  obtain ⟨a, n, cap, i, s, h0, h1, h2, f1, f2, hi, hs, hB, ho⟩ := h.cells.out
  have e : ∀ g o x, w.cell? ⟨g, o, none⟩ = some x → g ≠ p.block → (w.setCell p u).cell? ⟨g, o, none⟩ = some x := fun g o x hx hg => (World.cell?_setCell_other _ _ _ _ (fun e => hg (by rw [e]))).trans hx
  refine ⟨a, n, cap, i, s, e _ _ _ h0 (Ne.symm hp), e _ _ _ h1 (Ne.symm hp), e _ _ _ h2 (Ne.symm hp), by simpa using f1, by simpa using f2, hi, hs, ⟨hB.ncap, hB.capm, hB.small, fun j hj => ?_⟩, ho⟩
  obtain ⟨g, off, y, ea, hl, hc, hy⟩ := hB.cell.out j hj
  exact ⟨g, off, y, ea, by simpa using hl, e _ _ _ hc (by have := ho (by omega) g off ea; omega), hy⟩
theorem wrap_u64_bd (x : Int) : ∃ s : Nat, IntKind.u64.wrap x = s ∧ s < 18446744073709551616 := by
  refine ⟨(IntKind.u64.wrap x).toNat, ?_, ?_⟩ <;> simp [IntKind.wrap, IntKind.bits, IntKind.signed] <;> omega

theorem drewN_cell (w : World) (m : Nat) (p : Addr) : (w.drewN m).cell? p = w.cell? p := rfl
theorem drewN_frozen (w : World) (m : Nat) (p : Addr) : (w.drewN m).frozen? p = w.frozen? p := rfl
theorem cur_step {w : World} {b B K : Nat} {P : World → Prop} {a : Option Addr} {n cap i s : Nat} (hbl : b < w.heap.size) (h0 : w.cell? ⟨b, 0, none⟩ = some (.slice a n cap)) (h1 : w.cell? ⟨b, 1, none⟩ = some (.int .i64 i)) (h2 : w.cell? ⟨b, 2, none⟩ = some (.int .u64 s))
    (f1 : w.frozen? ⟨b, 1, none⟩ = false) (f2 : w.frozen? ⟨b, 2, none⟩ = false) (hi : i ≤ K) (hB : Byts w a n cap) (ho : Und B a n) (hBb : B ≤ b) (m : Nat) (x : Int)
    (h : ∀ (W : World) (t : Nat), t < 18446744073709551616 → W.cell? ⟨b, 0, none⟩ = some (.slice a n cap) → W.cell? ⟨b, 1, none⟩ = some (.int .i64 (i + 1)) → W.cell? ⟨b, 2, none⟩ = some (.int .u64 t) → Cur W b B (K + 1) → Bex b w W → P W) :
    P (((w.drewN m).setCell ⟨b, 1, none⟩ (.int .i64 (i + 1))).setCell ⟨b, 2, none⟩ (.int .u64 (IntKind.u64.wrap x))) := by
  obtain ⟨t, ht, ht2⟩ := wrap_u64_bd x
  rw [ht]
  have k1 : ((w.drewN m).setCell ⟨b, 1, none⟩ (.int .i64 (i + 1))).cell? ⟨b, 1, none⟩ = some (.int .i64 (i + 1)) := World.cell?_setCell_same (w.drewN m) ⟨b, 1, none⟩ _ ((drewN_cell w m _).trans h1)
  have k2 : ((w.drewN m).setCell ⟨b, 1, none⟩ (.int .i64 (i + 1))).cell? ⟨b, 2, none⟩ = some (.int .u64 s) := (World.cell?_setCell_other _ _ _ _ (by simp)).trans h2
  have k0 : ((w.drewN m).setCell ⟨b, 1, none⟩ (.int .i64 (i + 1))).cell? ⟨b, 0, none⟩ = some (.slice a n cap) := (World.cell?_setCell_other _ _ _ _ (by simp)).trans h0
  have l0 := (World.cell?_setCell_other ((w.drewN m).setCell ⟨b, 1, none⟩ (.int .i64 (i + 1))) ⟨b, 2, none⟩ ⟨b, 0, none⟩ (.int .u64 t) (by simp)).trans k0
  have l1 := (World.cell?_setCell_other ((w.drewN m).setCell ⟨b, 1, none⟩ (.int .i64 (i + 1))) ⟨b, 2, none⟩ ⟨b, 1, none⟩ (.int .u64 t) (by simp)).trans k1
  have l2 : (((w.drewN m).setCell ⟨b, 1, none⟩ (.int .i64 (i + 1))).setCell ⟨b, 2, none⟩ (.int .u64 t)).cell? ⟨b, 2, none⟩ = some (.int .u64 t) := World.cell?_setCell_same _ _ _ k2
  have hX : Bex b w (((w.drewN m).setCell ⟨b, 1, none⟩ (.int .i64 (i + 1))).setCell ⟨b, 2, none⟩ (.int .u64 t)) :=
    ((Bex.of (bel_drewN w m)).trans (Bex.set _ _)).trans (Bex.set _ _)
  refine h _ t ht2 l0 l1 l2 ⟨by simpa using hbl, hBb, ?_⟩ hX
  refine ⟨a, n, cap, i + 1, t, l0, by exact_mod_cast l1, l2, by simpa using f1, by simpa using f2, by omega, ht2, ⟨hB.ncap, hB.capm, hB.small, fun j hj => ?_⟩, ho⟩
  obtain ⟨g, off, y, ea, hl, hc, hy⟩ := hB.cell.out j hj
  exact ⟨g, off, y, ea, by simpa using hl, hX.cell hc (by have := ho (by omega) g off ea; omega), hy⟩
theorem u64_and255 (n : Int) : bits .and .u64 n 255 = n % 256 := by
  have h127 : (BitVec.ofInt 64 255).toNat = 2 ^ 8 - 1 := by decide
  have key : (BitVec.ofInt 64 n &&& BitVec.ofInt 64 255).toNat = (n % ((2 ^ 64 : Nat) : Int)).toNat % 2 ^ 8 := by
    rw [BitVec.toNat_and, BitVec.toNat_ofInt, h127, Nat.and_two_pow_sub_one_eq_mod]
  show IntKind.u64.wrap ((BitVec.ofInt 64 n &&& BitVec.ofInt 64 255).toNat : Nat) = n % 256
  rw [key]
  simp only [IntKind.wrap, IntKind.bits, IntKind.signed]
  simp
  omega
theorem next_val (t : Nat) : ∃ r : Nat, wrap64 (bits .and .u64 ((t : Int) / 1099511627776) 255) = r ∧ r ≤ 255 := by
  rw [u64_and255]
  refine ⟨((t : Int) / 1099511627776 % 256).toNat, ?_, by omega⟩
  unfold wrap64
  omega
set_option maxHeartbeats 4000000 in
theorem s_next (b B K : Nat) (w : World) (h : Cur w b B K) (hK : K ≤ 1000000000000) :
    Calls Tryz.prog 74 #[.pointer (some ⟨b, 0, none⟩)] w fun e w' => ∃ r : Nat, e = .returned (.int .i64 r) ∧ r ≤ 255 ∧ Cur w' b B (K + 1) ∧ Bex b w w' := by
  obtain ⟨a, n, cap, i, s, h0, h1, h2, f1, f2, hi, hs, hB, ho⟩ := h.cells.out
  have hbl := h.lt
  have hBb := h.base
  have hn := hB.small
  have e1 : IntKind.i64.wrap ((i : Int) + 1) = (i : Int) + 1 := IntWalk.i64_in _ (by omega)
  by_cases hlt : i < n
  · obtain ⟨g, off, y, rfl, hgl, hc, hy⟩ := hB.cell.out i hlt
    have hne : g ≠ b := by have := ho (by omega) g off rfl; omega
    have hlti : (i : Int) < (n : Int) := by omega
    have HST := Lib.hid (fun (P : World → Prop) (m : Nat) (x : Int) => cur_step (P := P) hbl h0 h1 h2 f1 f2 hi hB ho hBb m x)
    clear h hB ho
    go_enter Tryz.func74, Tryz.ntmps74
    go_wp2
    go_quiet (fail)
    go_wp2
    go_quiet (fail)
    go_wp2
    refine HST.out (fun W => Code.wp _ _ _ _ W) _ _ ?_
    intro W t ht l0 l1 l2 hC hX
    clear h0 h1 h2 f1 f2 hc HST
    go_quiet (fail)
    go_wp2
    go_ret
    exact ⟨_, rfl, hy, hC.below (bel_drewN _ _), hX.trans (Bex.of (bel_drewN _ _))⟩
  · have hlti : ¬ (i : Int) < (n : Int) := by omega
    have HST := Lib.hid (fun (P : World → Prop) (m : Nat) (x : Int) => cur_step (P := P) hbl h0 h1 h2 f1 f2 hi hB ho hBb m x)
    clear h hB ho
    go_enter Tryz.func74, Tryz.ntmps74
    go_wp2
    go_quiet (fail)
    go_wp2
    refine HST.out (fun W => Code.wp _ _ _ _ W) _ _ ?_
    intro W t ht l0 l1 l2 hC hX
    clear h0 h1 h2 f1 f2 HST
    go_quiet (fail)
    go_wp2
    go_ret
    obtain ⟨r, hr, hr2⟩ := next_val t
    exact ⟨r, by simp; exact hr, hr2, hC.below (bel_drewN _ _), hX.trans (Bex.of (bel_drewN _ _))⟩
end Go.Proofs.YtfichpppjpgahaaGreatDoor
namespace Go.Proofs.YtfichpppjpgahaaGreatDoor
open Go.RowKit
set_option linter.unusedVariables false
set_option linter.unusedSimpArgs false

theorem emod_le {x n : Int} (hx : 0 ≤ x) (hn : 0 < n) : x % n ≤ x := by
  have h := Int.emod_lt_of_pos x hn
  rcases Int.lt_or_le x n with k | k
  · rw [Int.emod_eq_of_lt hx k]; exact Int.le_refl _
  · omega
set_option maxHeartbeats 2000000 in
theorem s_pick (b B K : Nat) (n : Int) (w : World) (h : Cur w b B K) (hK : K ≤ 100000000000) (hn : n ≤ 1000000000000) :
    Calls Tryz.prog 55 #[.pointer (some ⟨b, 0, none⟩), .int .i64 n] w fun e w' => ∃ r : Nat, e = .returned (.int .i64 r) ∧ ((r : Int) < n ∨ r = 0) ∧ r ≤ 65535 ∧ Cur w' b B (K + 2) ∧ Bex b w w' := by
  by_cases h1 : n ≤ 1
  · go_enter Tryz.func55, Tryz.ntmps55
    go_wp2
    go_ret
    exact ⟨0, rfl, Or.inr rfl, by omega, h.more (by omega), Bex.refl _ _⟩
  · by_cases h2 : n ≤ 200
    · go_enter Tryz.func55, Tryz.ntmps55
      go_wp2_with (go_at_call 74; refine (s_next b B K _ h (by omega)).mono ?_; rintro e w1 ⟨r, rfl, hr, hC, hX⟩)
      go_ret
      have hm := Int.emod_lt_of_pos (r : Int) (show 0 < n by omega)
      have hm0 := Int.emod_nonneg (r : Int) (show n ≠ 0 by omega)
      have hml : (r : Int) % n ≤ r := emod_le (by omega) (by omega)
      exact ⟨((r : Int) % n).toNat, by simp; omega, Or.inl (by omega), by omega, hC.more (by omega), hX⟩
    · go_enter Tryz.func55, Tryz.ntmps55
      go_wp2_with fail
      refine (s_next b B K _ h (by omega)).mono ?_; rintro e w1 ⟨r, rfl, hr, hC, hX⟩
      go_wp2_with fail
      refine (s_next b B (K + 1) _ hC (by omega)).mono ?_; rintro e w2 ⟨r2, rfl, hr2, hC2, hX2⟩
      go_wp2
      go_ret
      obtain ⟨x, hx⟩ : ∃ x : Int, x = (r : Int) * 256 + r2 := ⟨_, rfl⟩
      have hm := Int.emod_lt_of_pos x (show 0 < n by omega)
      have hm0 := Int.emod_nonneg x (show n ≠ 0 by omega)
      have hml : x % n ≤ x := emod_le (by omega) (by omega)
      exact ⟨(x % n).toNat, by simp; rw [← hx]; omega, Or.inl (by omega), by omega, hC2, hX.trans hX2⟩
set_option maxHeartbeats 1000000 in
theorem s_one (b B K : Nat) (n : Int) (w : World) (h : Cur w b B K) (hK : K ≤ 100000000000) (hn : n ≤ 1000000000000) :
    Calls Tryz.prog 34 #[.pointer (some ⟨b, 0, none⟩), .int .i64 n] w fun e w' => ∃ q : Bool, e = .returned (.bool q) ∧ Cur w' b B (K + 2) ∧ Bex b w w' := by
  go_enter Tryz.func34, Tryz.ntmps34
  go_wp2_with (go_at_call 55; refine (s_pick b B K n _ h hK hn).mono ?_; rintro e w1 ⟨r, rfl, hr, hr2, hC, hX⟩)
  go_ret
  exact ⟨_, rfl, hC, hX⟩
set_option maxHeartbeats 1000000 in
theorem s_among (b B K : Nat) (a : Option Addr) (n cap : Nat) (xs : List Int) (w : World) (h : Cur w b B K) (hK : K ≤ 100000000000) (hI : Ints w a n cap xs) (hn : 1 ≤ n) (hn2 : n ≤ 1000000) (ho : Off b a n) :
    Calls Tryz.prog 56 #[.pointer (some ⟨b, 0, none⟩), .slice a n cap] w fun e w' => ∃ x : Int, e = .returned (.int .i64 x) ∧ x ∈ xs ∧ Cur w' b B (K + 2) ∧ Bex b w w' := by
  have hlen := hI.len
  obtain ⟨g, off, rfl, hgl, _⟩ := hI.at (i := 0) (by omega)
  go_enter Tryz.func56, Tryz.ntmps56
  go_wp2_with fail
  refine (s_pick b B K n _ h hK (by omega)).mono ?_; rintro e w1 ⟨r, rfl, hr, hr2, hC, hX⟩
  have hrn : r < n := by rcases hr with q | q <;> omega
  obtain ⟨g', off', e', hgl', hc⟩ := (hI.bex hX ho).at hrn
  simp only [Option.some.injEq, Addr.mk.injEq] at e'
  obtain ⟨rfl, rfl, _⟩ := e'
  have hrni : (r : Int) < (n : Int) := by omega
  go_wp2
  go_ret
  exact ⟨_, rfl, nth_mem (by rw [hlen.out]; exact hrn), hC, hX⟩
/-- A list made for the call. -/
theorem among_lit {w : World} {b B K m : Nat} (xs : List Int) {vs : Array Value} {t : TypeId} (h : Cur w b B K) (hm : m = w.heap.size) (hv : vs = (xs.map (Value.int .i64)).toArray) (hl : xs.length ≤ 1000) (hf : ∀ x ∈ xs, Fits x) :
    Cur (w.alloc (.cells vs t)) b B K ∧ Ints (w.alloc (.cells vs t)) (some ⟨m, 0, none⟩) xs.length xs.length xs ∧ Off b (some ⟨m, 0, none⟩) xs.length ∧ Bex b w (w.alloc (.cells vs t)) := by
  refine ⟨h.below (bel_alloc _ _), Ints.lit xs vs t hm hv hl hf, fun _ g o e => ?_, Bex.of (bel_alloc _ _)⟩
  simp only [Option.some.injEq, Addr.mk.injEq] at e
  have := h.lt
  omega
set_option maxHeartbeats 400000 in
theorem s_l1Most (x y : Int) (w : World) : Calls Tryz.prog 57 #[.int .i64 x, .int .i64 y] w fun e w' => e = .returned (.int .i64 (if y < x then x else y)) ∧ w = w' := by
  by_cases h : y < x
  · rw [if_pos h]
    go_enter Tryz.func57, Tryz.ntmps57
    go_wp2
    go_ret
    exact ⟨rfl, rfl⟩
  · rw [if_neg h]
    go_enter Tryz.func57, Tryz.ntmps57
    go_wp2
    go_ret
    exact ⟨rfl, rfl⟩
/-- A number that was drawn. -/
def Dr (x : Int) : Prop := -1000000 ≤ x ∧ x ≤ 1000000
theorem Dr.fits {x : Int} (h : Dr x) : Fits x := by unfold Dr at h; unfold Fits; omega
set_option maxHeartbeats 1000000 in
theorem s_element (b B K : Nat) (p : Int) (w : World) (h : Cur w b B K) (hK : K ≤ 10000000000) (hp : Dr p) :
    Calls Tryz.prog 75 #[.pointer (some ⟨b, 0, none⟩), .int .i64 p] w fun e w' => ∃ x : Int, e = .returned (.int .i64 x) ∧ Dr x ∧ Cur w' b B (K + 4) ∧ Bex b w w' := by
  obtain ⟨hp1, hp2⟩ := hp
  go_enter Tryz.func75, Tryz.ntmps75
  go_wp2_with fail
  refine (s_one b B K 30 _ h (by omega) (by omega)).mono ?_; rintro e w1 ⟨q, rfl, hC, hX⟩
  cases q with
  | true =>
    obtain ⟨hC1, hI1, hO1, hX1⟩ := among_lit (t := 3) [-1, p] hC rfl rfl (by simp) (by intro x hx; simp at hx; unfold Fits; rcases hx with rfl | rfl <;> omega)
    go_wp2_with (go_at_call 56; refine (s_among b B (K + 2) _ 2 2 [-1, p] _ hC1 (by omega) hI1 (by omega) (by omega) hO1).mono ?_; rintro e w2 ⟨x, rfl, hx, hC2, hX2⟩)
    go_ret
    exact ⟨_, rfl, by simp at hx; unfold Dr; rcases hx with rfl | rfl <;> omega, hC2, (hX.trans hX1).trans hX2⟩
  | false =>
    by_cases h1p : 1 < p
    · go_wp2_with fail
      refine (s_l1Most _ _ _).mono ?_; rintro e w2 ⟨rfl, rfl⟩; rw [if_pos h1p]
      go_wp2_with fail
      refine (s_pick b B (K + 2) p _ hC (by omega) (by omega)).mono ?_; rintro e w2 ⟨r, rfl, hr, hr2, hC2, hX2⟩
      go_wp2
      go_ret
      exact ⟨_, rfl, by unfold Dr; omega, hC2, hX.trans hX2⟩
    · go_wp2_with fail
      refine (s_l1Most _ _ _).mono ?_; rintro e w2 ⟨rfl, rfl⟩; rw [if_neg (by omega)]
      go_wp2_with fail
      refine (s_pick b B (K + 2) 1 _ hC (by omega) (by omega)).mono ?_; rintro e w2 ⟨r, rfl, hr, hr2, hC2, hX2⟩
      go_wp2
      go_ret
      exact ⟨_, rfl, by unfold Dr; omega, hC2, hX.trans hX2⟩
theorem Cur.new {w : World} {a : Option Addr} {n cap B : Nat} {t : TypeId} (hB : Byts w a n cap) (hu : Und B a n) (hb : B ≤ w.heap.size) : Cur (w.alloc (.cells #[.slice a n cap, .int .i64 0, .int .u64 0] t)) w.heap.size B 0 :=
  ⟨by simp, hb, a, n, cap, 0, 0, World.cell?_alloc_at _ _ _ _ rfl, World.cell?_alloc_at _ _ _ _ rfl, World.cell?_alloc_at _ _ _ _ rfl, World.frozen?_alloc_at _ _ _ _ rfl, World.frozen?_alloc_at _ _ _ _ rfl, by omega, by omega, hB.below (bel_alloc _ _), hu⟩
theorem Byts.und {w : World} {a : Option Addr} {n cap : Nat} (hB : Byts w a n cap) : Und w.heap.size a n := by
  intro hn g o e
  obtain ⟨g', o', y, e', hl, _⟩ := hB.cell.out 0 hn
  rw [e'] at e
  simp only [Option.some.injEq, Addr.mk.injEq] at e
  omega
theorem bel_new {w W : World} {o : Obj} (k : Bex w.heap.size (w.alloc o) W) : Below w.heap.size w W := Below.bex (bel_alloc w o) k (Nat.le_refl _) (by simp)
end Go.Proofs.YtfichpppjpgahaaGreatDoor
namespace Go.Proofs.YtfichpppjpgahaaGreatDoor
open Go.RowKit
set_option linter.unusedVariables false
set_option linter.unusedSimpArgs false

/-- Two rows in blocks of their own, from block B on. -/
structure Duo (w : World) (B : Nat) (v1 : Value) (n1 : Nat) (xs1 : List Int) (v2 : Value) (n2 : Nat) (xs2 : List Int) : Prop where
  own1 : w.ownsRow B 3 1 v1 n1 (ivs xs1)
  own2 : w.ownsRow B 3 1 v2 n2 (ivs xs2)
  dj : ∀ g, v1.ownBlock = some g → v2.ownBlock ≠ some g
  base : B ≤ w.heap.size
theorem ownLt {E : TypeId} {w : World} {B s n : Nat} {v : Value} {xs : List Value} (h : w.ownsRow B E s v n xs) : ∀ g, v.ownBlock = some g → B ≤ g ∧ g < w.heap.size := fun g hg => h.lt g hg
theorem Duo.below {w w' : World} {B n1 n2 : Nat} {v1 v2 : Value} {xs1 xs2 : List Int} (h : Duo w B v1 n1 xs1 v2 n2 xs2) (hb : Below w.heap.size w w') : Duo w' B v1 n1 xs1 v2 n2 xs2 :=
  ⟨ownsRow_below h.own1 hb, ownsRow_below h.own2 hb, h.dj, Nat.le_trans h.base hb.size⟩
theorem Duo.swap {w : World} {B n1 n2 : Nat} {v1 v2 : Value} {xs1 xs2 : List Int} (h : Duo w B v1 n1 xs1 v2 n2 xs2) : Duo w B v2 n2 xs2 v1 n1 xs1 :=
  ⟨h.own2, h.own1, fun g h1 h2 => h.dj g h2 h1, h.base⟩
theorem Duo.nil {w : World} {B : Nat} (h : B ≤ w.heap.size) : Duo w B (.slice none 0 0) 0 [] (.slice none 0 0) 0 [] :=
  ⟨World.ownsRow_nil _ _ _ _, World.ownsRow_nil _ _ _ _, fun g h1 => (by cases h1), h⟩
/-- Two empty literals. -/
theorem Duo.lits {w : World} {B : Nat} (h : B ≤ w.heap.size) : Duo ((w.alloc (.cells #[] 3)).alloc (.cells #[] 3)) B (.slice (some ⟨w.heap.size, 0, none⟩) 0 0) 0 [] (.slice (some ⟨w.heap.size + 1, 0, none⟩) 0 0) 0 [] := by
  have h1 : (w.alloc (.cells #[] 3)).ownsRow B 3 1 (.slice (some ⟨w.heap.size, 0, none⟩) 0 0) 0 (ivs []) := World.ownsRow_lit w #[] 0 h (by decide) rfl
  have h2 : ((w.alloc (.cells #[] 3)).alloc (.cells #[] 3)).ownsRow B 3 1 (.slice (some ⟨w.heap.size + 1, 0, none⟩) 0 0) 0 (ivs []) := by
    have := World.ownsRow_lit (base := B) (e := 3) (size := 1) (w.alloc (.cells #[] 3)) #[] 0 (by simp; omega) (by decide) rfl
    simpa [ivs] using this
  exact ⟨h1.alloc _, h2, fun g e1 e2 => by simp [Value.ownBlock] at e1 e2; omega, by simp; omega⟩
/-- The first row has grown. -/
theorem Duo.grow {w w' : World} {B n1 n2 : Nat} {v1 v2 v' : Value} {xs1 xs2 : List Int} {u : Int} (h : Duo w B v1 n1 xs1 v2 n2 xs2) (k1 : w'.ownsRow B 3 1 v' (n1 + 1) (ivs xs1 ++ [.int .i64 u])) (k2 : w.grownBy w' v1.ownBlock) (k3 : v'.ownBlock = v1.ownBlock ∨ v'.ownBlock = some w.heap.size) :
    Duo w' B v' (n1 + 1) (xs1 ++ [u]) v2 n2 xs2 := by
  refine ⟨by rw [ivs_snoc]; exact k1, h.own2.kept k2 ?_, fun g e1 e2 => ?_, Nat.le_trans h.base k2.size⟩
  · cases hb : v2.ownBlock with
    | none => exact .inl rfl
    | some g => exact .inr (fun e => h.dj g e.symm hb)
  · rcases k3 with k | k
    · exact h.dj g (by rw [← k]; exact e1) e2
    · rw [k] at e1
      simp only [Option.some.injEq] at e1
      have := (ownLt h.own2 g e2).2
      omega
/-- append to the first row, at a step of a region that draws its order. -/
theorem step_duo {ops : Array Oper} {o : Oper} {a : Act} {w : World} {K : Act → World → Prop} {Q : Exit → Act → World → Prop} {E : Prop} (v1 : Value) (B n1 : Nat) (xs1 : List Int) (v2 : Value) (n2 : Nat) (xs2 : List Int) (u : Int) (ad : Addr)
    (hg : o.guard = none) (s x : Operand) (ho : o.op = .call { callee := .builtin .append, args := #[s, x], argTypes := #[24, 24] })
    (hs : a.eval s = v1) (hx : a.eval x = .slice (some ad) 1 1) (hD : Duo w B v1 n1 xs1 v2 n2 xs2) (hc : w.cell? ad = some (.int .i64 u)) (hn : n1 ≤ 1000000000000)
    (h : ∀ v' w', Duo w' B v' (n1 + 1) (xs1 ++ [u]) v2 n2 xs2 → Below B w w' → K (a.put o.dst v') w') :
    if Region.wanted o (yielded ops a.tmps) = true then Oper.wp Tryz.prog o a w K Q else E := by
  have hw : Region.wanted o (yielded ops a.tmps) = true := by simp [Region.wanted, hg]
  rw [if_pos hw]
  obtain ⟨i0, hi, hz0, hz1, hz2⟩ := info_parts info_int
  obtain ⟨v', w', hrun, k1, k2, k0, k3⟩ := run_append_own_at (P := Tryz.prog) w B 24 o.type 3 i0 (.int .i64 0) 1 8 Tryz.underlying24 hi hz0 hz1 hz2 rfl (by decide) v1 n1 (ivs xs1) hD.own1 ad 1 1 [.int .i64 u] rfl (by
    intro j c hj
    match j, hj with
    | 0, hj =>
      simp at hj; subst hj
      have : ad.add 0 = ad := by simp [Addr.add]
      rw [this]; exact hc) (by intro c hc; simp at hc; subst hc; rfl) (by unfold maxLen; omega) (by omega) hD.base
  unfold Oper.wp execOp
  simp only [ho, resolve, invoke, builtin, Sem.run_bind, Sem.run_pure, Result.andThen_ok, List.map_toArray, List.map_cons, List.map_nil, hs, hx, hrun]
  exact h v' w' (hD.grow k1 k2 k3) (below_grown_own hD.own1 k2 hD.base)
/-- append to the second row, likewise. -/
theorem step_duo2 {ops : Array Oper} {o : Oper} {a : Act} {w : World} {K : Act → World → Prop} {Q : Exit → Act → World → Prop} {E : Prop} (v2 : Value) (B n1 : Nat) (xs1 : List Int) (v1 : Value) (n2 : Nat) (xs2 : List Int) (u : Int) (ad : Addr)
    (hg : o.guard = none) (s x : Operand) (ho : o.op = .call { callee := .builtin .append, args := #[s, x], argTypes := #[24, 24] })
    (hs : a.eval s = v2) (hx : a.eval x = .slice (some ad) 1 1) (hD : Duo w B v1 n1 xs1 v2 n2 xs2) (hc : w.cell? ad = some (.int .i64 u)) (hn : n2 ≤ 1000000000000)
    (h : ∀ v' w', Duo w' B v1 n1 xs1 v' (n2 + 1) (xs2 ++ [u]) → Below B w w' → K (a.put o.dst v') w') :
    if Region.wanted o (yielded ops a.tmps) = true then Oper.wp Tryz.prog o a w K Q else E :=
  step_duo v2 B n2 xs2 v1 n1 xs1 u ad hg s x ho hs hx hD.swap hc hn (fun v' w' hd hb => h v' w' hd.swap hb)
/-- append to the first row, in a plain region. -/
theorem wp_duo {ops : Array Oper} {rest : List Oper} {o : Oper} {a : Act} {Q : Exit → Act → World → Prop} (w : World) (v1 : Value) (B n1 : Nat) (xs1 : List Int) (v2 : Value) (n2 : Nat) (xs2 : List Int) (u : Int) (t : TypeId) (m : Nat)
    (hg : o.guard = none) (s x : Operand) (ho : o.op = .call { callee := .builtin .append, args := #[s, x], argTypes := #[24, 24] })
    (hs : a.eval s = v1) (hx : a.eval x = .slice (some ⟨m, 0, none⟩) 1 1) (hm : m = w.heap.size) (hD : Duo w B v1 n1 xs1 v2 n2 xs2) (hn : n1 ≤ 1000000000000)
    (h : ∀ v' w', Duo w' B v' (n1 + 1) (xs1 ++ [u]) v2 n2 xs2 → Below B w w' → wpList Tryz.prog ops Q rest (a.put o.dst v') w') :
    wpList Tryz.prog ops Q (o :: rest) a (w.alloc (.cells #[.int .i64 u] t)) := by
  obtain ⟨i0, hi, hz0, hz1, hz2⟩ := info_parts info_int
  subst hm
  have hD' := hD.below (bel_alloc w (.cells #[.int .i64 u] t))
  refine wpList_append_own_at _ hg s x 24 ho B 3 i0 (.int .i64 0) 1 8 Tryz.underlying24 hi hz0 hz1 hz2 rfl (by decide) v1 n1 (ivs xs1) hs hD'.own1 ⟨w.heap.size, 0, none⟩ 1 1 [.int .i64 u] hx rfl ?_ ?_ (by unfold maxLen; omega) (by omega) hD'.base ?_
  · intro j c hj
    match j, hj with
    | 0, hj =>
      simp at hj; subst hj
      simp [Addr.add, World.cell?_alloc_at]
  · intro c hc; simp at hc; subst hc; rfl
  · intro v' w' k1 k2 _ k3
    exact h v' w' (hD'.grow k1 k2 k3) (((Below.refl B w).alloc hD.base _).trans (below_grown_own hD'.own1 k2 hD'.base))
theorem wp_duo2 {ops : Array Oper} {rest : List Oper} {o : Oper} {a : Act} {Q : Exit → Act → World → Prop} (w : World) (v2 : Value) (B n1 : Nat) (xs1 : List Int) (v1 : Value) (n2 : Nat) (xs2 : List Int) (u : Int) (t : TypeId) (m : Nat)
    (hg : o.guard = none) (s x : Operand) (ho : o.op = .call { callee := .builtin .append, args := #[s, x], argTypes := #[24, 24] })
    (hs : a.eval s = v2) (hx : a.eval x = .slice (some ⟨m, 0, none⟩) 1 1) (hm : m = w.heap.size) (hD : Duo w B v1 n1 xs1 v2 n2 xs2) (hn : n2 ≤ 1000000000000)
    (h : ∀ v' w', Duo w' B v1 n1 xs1 v' (n2 + 1) (xs2 ++ [u]) → Below B w w' → wpList Tryz.prog ops Q rest (a.put o.dst v') w') :
    wpList Tryz.prog ops Q (o :: rest) a (w.alloc (.cells #[.int .i64 u] t)) :=
  wp_duo w v2 B n2 xs2 v1 n1 xs1 u t m hg s x ho hs hx hm hD.swap hn (fun v' w' hd hb => h v' w' hd.swap hb)
/-- Two results. -/
theorem Duo.two {w0 w : World} {B n1 n2 : Nat} {v1 v2 : Value} {xs1 xs2 : List Int} (h : Duo w B v1 n1 xs1 v2 n2 xs2) (h1 : n1 ≤ 1000000) (h2 : n2 ≤ 1000000) (f1 : ∀ x ∈ xs1, Fits x) (f2 : ∀ x ∈ xs2, Fits x) (hB : w0.heap.size ≤ B) :
    ∃ a1 c1 a2 c2, v1 = .slice a1 n1 c1 ∧ v2 = .slice a2 n2 c2 ∧ Mine w w0.heap.size a1 n1 c1 xs1 ∧ Mine w w0.heap.size a2 n2 c2 xs2 ∧ Apart a1 n1 a2 n2 := by
  obtain ⟨a1, c1, rfl, m1⟩ := Mine.of h.own1 (by omega) f1
  obtain ⟨a2, c2, rfl, m2⟩ := Mine.of h.own2 (by omega) f2
  refine ⟨a1, c1, a2, c2, rfl, rfl, m1.base hB, m2.base hB, fun _ _ g o g' o' e e' k => ?_⟩
  subst e e' k
  exact h.dj g rfl rfl
end Go.Proofs.YtfichpppjpgahaaGreatDoor
namespace Go.Proofs.YtfichpppjpgahaaGreatDoor
open Go.RowKit
set_option linter.unusedVariables false
set_option linter.unusedSimpArgs false

/-- A growing slice of rows: every row in a block of its own, not the outer slice's. -/
def OwnR (E : TypeId) (w : World) (B : Nat) (v : Value) (k : Nat) (xss : List (List Int)) : Prop :=
  ∃ hs : List Value, w.ownsRow B E 1 v k hs ∧ xss.length = k ∧
    (∀ i, i < k → ∃ r m c, hs[i]? = some (.slice r m c) ∧ Mine w B r m c (rowN xss i) ∧ (0 < m → ∀ g o, r = some ⟨g, o, none⟩ → some g ≠ v.ownBlock)) ∧
    (∀ i j, i < k → j < k → i ≠ j → ∀ r m c r' m' c', hs[i]? = some (.slice r m c) → hs[j]? = some (.slice r' m' c') → Apart r m r' m')
theorem OwnR.nil {E : TypeId} {w : World} {B : Nat} : OwnR E w B (.slice none 0 0) 0 [] :=
  ⟨[], World.ownsRow_nil _ _ _ _, rfl, fun i hi => by omega, fun i j hi => by omega⟩
theorem OwnR.lit {E : TypeId} {w : World} {B m : Nat} (hB : B ≤ w.heap.size) (hm : m = w.heap.size) : OwnR E (w.alloc (.cells #[] E)) B (.slice (some ⟨m, 0, none⟩) 0 0) 0 [] := by
  subst hm
  exact ⟨[], World.ownsRow_lit w #[] 0 hB (by decide) rfl, rfl, fun i hi => by omega, fun i j hi => by omega⟩
theorem OwnR.below {E : TypeId} {w w' : World} {B k : Nat} {v : Value} {xss : List (List Int)} (h : OwnR E w B v k xss) (hb : Below w.heap.size w w') : OwnR E w' B v k xss := by
  obtain ⟨hs, h1, h2, h3, h4⟩ := h
  refine ⟨hs, ownsRow_below h1 hb, h2, fun i hi => ?_, h4⟩
  obtain ⟨r, m, c, e, hm, hn⟩ := h3 i hi
  exact ⟨r, m, c, e, hm.below hb, hn⟩
theorem Mine.grown {w w' : World} {B : Nat} {r : Option Addr} {m c : Nat} {xs : List Int} {row : Option Nat} (h : Mine w B r m c xs) (hg : w.grownBy w' row) (hn : 0 < m → ∀ g o, r = some ⟨g, o, none⟩ → some g ≠ row) : Mine w' B r m c xs := by
  have pl := h.place.out
  refine ⟨⟨h.ints.len, h.ints.ncap, h.ints.small, h.ints.capm, fun i hi => ?_, h.ints.wf, h.ints.nilc⟩, fun hm b off e => ⟨(pl hm b off e).1, Nat.lt_of_lt_of_le (pl hm b off e).2 hg.size⟩, fun i hi b off e => ?_⟩
  · obtain ⟨b, off, e, hl, hc⟩ := h.ints.at hi
    exact ⟨b, off, e, Nat.lt_of_lt_of_le hl hg.size, (World.cell?_of_block (hg.block b hl (hn (by omega) b off e))).trans hc⟩
  · have hl := (pl (by omega) b off e).2
    exact (World.frozen?_of_block (hg.block b hl (hn (by omega) b off e))).trans (h.free.out i hi b off e)
theorem ownBlock_lt {E : TypeId} {w : World} {B s n : Nat} {v : Value} {xs : List Value} (h : w.ownsRow B E s v n xs) : ∀ g, v.ownBlock = some g → B ≤ g ∧ g < w.heap.size := by
  intro g hg
  obtain ⟨_, h2⟩ := h
  rcases h2 with ⟨hv, _⟩ | ⟨g', cap', cur, hv, hB, hh, _⟩
  · rw [hv] at hg; simp [Value.ownBlock] at hg
  · rw [hv] at hg
    simp only [Value.ownBlock, Option.some.injEq] at hg
    subst hg
    refine ⟨hB, ?_⟩
    rcases Nat.lt_or_ge g' w.heap.size with k | k
    · exact k
    · rw [Array.getElem?_eq_none k] at hh; cases hh
/-- The slice as a whole, when it has grown. -/
theorem OwnR.mine {E : TypeId} {w : World} {B k : Nat} {v : Value} {xss : List (List Int)} (h : OwnR E w B v k xss) (hs : k ≤ 17592186044416) (hB : B ≤ w.heap.size) : ∃ a c, v = .slice a k c ∧ MineR w B w.heap.size a k c xss := by
  obtain ⟨hs', h1, h2, h3, h4⟩ := h
  have h1' := h1
  obtain ⟨hl, h5⟩ := h1
  rcases h5 with ⟨rfl, rfl⟩ | ⟨g, cap, cur, rfl, hg, hh, hn, hm, hc, ht⟩
  · have : xss = [] := List.length_eq_zero_iff.1 h2
    subst this
    exact ⟨none, 0, rfl, MineR.nil' (Nat.le_refl _)⟩
  · have hlt : g < w.heap.size := (ownBlock_lt h1' g rfl).2
    have cell : ∀ i r m c, i < k → hs'[i]? = some (.slice r m c) → w.cell? ⟨g, 0 + i, none⟩ = some (.slice r m c) := by
      intro i r m c hi e
      rw [Nat.zero_add]
      have := World.ownsRow.cellAt h1' i (by omega)
      rw [this]
      simp only [List.getD_eq_getElem?_getD, e, Option.getD_some]
    refine ⟨some ⟨g, 0, none⟩, cap, rfl, ⟨h2, hn, hs, by unfold maxLen at hm; omega, (fun e => by cases e), Nat.le_refl _, fun i hi => ?_, fun i j hi hj hne b off r m c r' m' c' e q1 q2 => ?_⟩⟩
    · obtain ⟨r, m, c, e, hm', hn'⟩ := h3 i hi
      refine ⟨g, 0, r, m, c, rfl, hg, hlt, cell i r m c hi e, by rw [Nat.zero_add]; exact World.ownsRow.frozenAt h1' i, hm', hm'.pl, fun h0 o e' => hn' h0 g o e' rfl⟩
    · simp only [Option.some.injEq, Addr.mk.injEq] at e
      obtain ⟨rfl, rfl, _⟩ := e
      obtain ⟨r1, m1, c1, e1, _, _⟩ := h3 i hi
      obtain ⟨r2, m2, c2, e2, _, _⟩ := h3 j hj
      rw [cell i r1 m1 c1 hi e1] at q1
      rw [cell j r2 m2 c2 hj e2] at q2
      simp only [Option.some.injEq, Value.slice.injEq] at q1 q2
      obtain ⟨rfl, rfl, rfl⟩ := q1
      obtain ⟨rfl, rfl, rfl⟩ := q2
      exact h4 i j hi hj hne _ _ _ _ _ _ e1 e2
end Go.Proofs.YtfichpppjpgahaaGreatDoor
namespace Go.Proofs.YtfichpppjpgahaaGreatDoor
open Go.RowKit
set_option linter.unusedVariables false
set_option linter.unusedSimpArgs false

theorem ivs_app (xs ys : List Int) : ivs (xs ++ ys) = ivs xs ++ ivs ys := by simp [ivs]
/-- 'append(out, src...)' onto a slice of the call's own, whatever slice of ints is appended. -/
theorem wp_apps {ops : Array Oper} {rest : List Oper} {o : Oper} {a : Act} {Q : Exit → Act → World → Prop} (w : World) (B n : Nat) (v : Value) (xs ys : List Int) (ad : Option Addr) (m cap : Nat)
    (hg : o.guard = none) (s x : Operand) (ho : o.op = .call { callee := .builtin .append, args := #[s, x], argTypes := #[24, 24] })
    (hs : a.eval s = v) (hx : a.eval x = .slice ad m cap) (hy : Ints w ad m cap ys)
    (hown : w.ownsRow B 3 1 v n (ivs xs)) (hB : B ≤ w.heap.size) (hn : n + m ≤ 1000000000000)
    (h : ∀ v' w', w'.ownsRow B 3 1 v' (n + m) (ivs (xs ++ ys)) → Below B w w' → w.grownBy w' v.ownBlock → wpList Tryz.prog ops Q rest (a.put o.dst v') w') :
    wpList Tryz.prog ops Q (o :: rest) a w := by
  obtain ⟨i0, hi, hz0, hz1, hz2⟩ := info_parts info_int
  have hlen := hy.len.out
  cases ad with
  | none =>
    have hc := hy.nilc.out rfl
    have hnc := hy.ncap
    obtain rfl : cap = 0 := hc
    obtain rfl : m = 0 := by omega
    obtain rfl : ys = [] := List.length_eq_zero_iff.1 hlen
    refine wpList_append_own_none hg s x 24 ho B 3 i0 1 Tryz.underlying24 hi v n (ivs xs) hs hown hx ?_
    refine h v w (by simpa using hown) (Below.refl _ _) ⟨rfl, rfl, rfl, Nat.le_refl _, fun _ _ _ => rfl⟩
  | some ad =>
    refine wpList_append_own _ hg s x 24 ho B 3 i0 (.int .i64 0) 1 8 Tryz.underlying24 hi hz0 hz1 hz2 rfl (by decide) v n (ivs xs) hs hown ad m cap (ivs ys) hx (by rw [ivs_len, hlen]; omega) ?_ ?_ (by unfold maxLen; omega) (by omega) hB ?_
    · intro j c hj
      have hjm : j < m := by
        rcases Nat.lt_or_ge j m with k | k
        · exact k
        · rw [List.getElem?_eq_none (by rw [ivs_len, hlen]; exact k)] at hj; cases hj
      obtain ⟨b, off, e, _, hcell⟩ := hy.at hjm
      simp only [Option.some.injEq] at e
      subst e
      have e2 : (⟨b, off, none⟩ : Addr).add j = ⟨b, off + j, none⟩ := by
        unfold Addr.add; split
        · rename_i h0; subst h0; rfl
        · rfl
      rw [e2, hcell]
      simp only [ivs, List.getElem?_map] at hj
      rw [List.getElem?_eq_getElem (by omega)] at hj
      simp only [Option.map_some, Option.some.injEq] at hj
      rw [← hj, nth_get (by omega)]
    · intro c hc
      simp only [ivs, List.mem_map] at hc
      obtain ⟨q, _, rfl⟩ := hc
      rfl
    · intro v' w' h1 h2 _
      rw [← ivs_app] at h1
      exact h v' w' h1 (below_grown_own hown h2 hB) h2

set_option maxHeartbeats 400000 in
theorem g_Clone (a : Option Addr) (n cap : Nat) (xs : List Int) (w : World) (h : Ints w a n cap xs) (hn : n ≤ 100000000000) :
    Calls Tryz.prog 60 #[.slice a n cap] w fun e w' => ∃ r c, e = .returned (.slice r n c) ∧ OwnI 3 w' w.heap.size r n c xs ∧ Below w.heap.size w w' := by
  have hlen := h.len.out
  have hwf := h.wf
  cases a with
  | none =>
    have hc := h.nilc.out rfl
    have hnc := h.ncap
    obtain rfl : cap = 0 := hc
    obtain rfl : n = 0 := by omega
    obtain rfl : xs = [] := List.length_eq_zero_iff.1 hlen
    have e0 := @Lib.run_eql_slice_nil Tryz.prog
    clear h
    go_enter Tryz.func60, Tryz.ntmps60
    go_wp2
    go_ret
    exact ⟨_, _, rfl, OwnI.nil, Below.refl _ _⟩
  | some ad =>
    have e0 := @Lib.run_eql_slice_nil Tryz.prog
    clear hlen
    go_enter Tryz.func60, Tryz.ntmps60
    go_wp2_with (at_builtin; refine wp_apps _ w.heap.size 0 _ [] xs _ _ _ rfl _ _ rfl rfl rfl (h.alloc _) (World.ownsRow_lit w #[] 0 (Nat.le_refl _) (by decide) rfl) (by simp) (by omega) ?_; intro v9 w9 hv9 hb9 hg9)
    rw [Nat.zero_add, List.nil_append] at hv9
    obtain ⟨r, c, hr, ho⟩ := OwnI.of hv9 (by omega) hwf.out
    subst hr
    go_ret
    exact ⟨_, _, rfl, ho, (bel_alloc w _).trans hb9⟩
set_option maxHeartbeats 400000 in
theorem s_l1Own (a : Option Addr) (n cap : Nat) (xs : List Int) (w : World) (h : Ints w a n cap xs) (hn : n ≤ 100000000000) :
    Calls Tryz.prog 62 #[.slice a n cap] w fun e w' => ∃ r c, e = .returned (.slice r n c) ∧ OwnI 3 w' w.heap.size r n c xs ∧ Below w.heap.size w w' := by
  have hwf := h.wf
  go_enter Tryz.func62, Tryz.ntmps62
  go_wp2_with (at_builtin; refine wp_apps _ w.heap.size 0 _ [] xs _ _ _ rfl _ _ rfl rfl rfl (h.alloc _) (World.ownsRow_lit w #[] 0 (Nat.le_refl _) (by decide) rfl) (by simp) (by omega) ?_; intro v9 w9 hv9 hb9 hg9)
  rw [Nat.zero_add, List.nil_append] at hv9
  obtain ⟨r, c, hr, ho⟩ := OwnI.of hv9 (by omega) hwf.out
  subst hr
  go_ret
  exact ⟨_, _, rfl, ho, (bel_alloc w _).trans hb9⟩
end Go.Proofs.YtfichpppjpgahaaGreatDoor
namespace Go.Proofs.YtfichpppjpgahaaGreatDoor
open Go.RowKit
set_option linter.unusedVariables false
set_option linter.unusedSimpArgs false

/-- 'append(out, u)' at a step of a drawn region: out was owned in the world w0, the new cell holds u now. -/
theorem step_app {ops : Array Oper} {o : Oper} {a : Act} {w : World} {K : Act → World → Prop} {Q : Exit → Act → World → Prop} {E : Prop} (w0 : World) (B n : Nat) (v : Value) (xs : List Int) (u : Int) (ad : Addr)
    (hg : o.guard = none) (s x : Operand) (ho : o.op = .call { callee := .builtin .append, args := #[s, x], argTypes := #[24, 24] })
    (hs : a.eval s = v) (hx : a.eval x = .slice (some ad) 1 1) (hc : w.cell? ad = some (.int .i64 u))
    (hown : w0.ownsRow B 3 1 v n (ivs xs)) (hb : Below w0.heap.size w0 w) (hB : B ≤ w0.heap.size) (hn : n ≤ 1000000000000)
    (h : ∀ v' w', w'.ownsRow B 3 1 v' (n + 1) (ivs (xs ++ [u])) → Below B w w' → w.grownBy w' v.ownBlock → K (a.put o.dst v') w') :
    if Region.wanted o (yielded ops a.tmps) = true then Oper.wp Tryz.prog o a w K Q else E := by
  have hw : Region.wanted o (yielded ops a.tmps) = true := by simp [Region.wanted, hg]
  rw [if_pos hw]
  obtain ⟨i0, hi, hz0, hz1, hz2⟩ := info_parts info_int
  have hown' := ownsRow_below hown hb
  have hsz := hb.size
  refine wp_append_own w s x 24 ho B 3 i0 (.int .i64 0) 1 8 Tryz.underlying24 hi hz0 hz1 hz2 rfl (by decide) v n (ivs xs) hs hown' ad 1 1 [.int .i64 u] hx rfl ?_ ?_ (by unfold maxLen; omega) (by omega) (by omega) ?_
  · intro j c hj
    match j, hj with
    | 0, hj =>
      simp at hj; subst hj
      have : ad.add 0 = ad := by simp [Addr.add]
      rw [this]; exact hc
  · intro c hc; simp at hc; subst hc; rfl
  · intro v' w' h1 h2 _
    rw [← ivs_snoc] at h1
    exact h v' w' h1 (below_grown_own hown' h2 (by omega)) h2
end Go.Proofs.YtfichpppjpgahaaGreatDoor
