/-
  The cursor of a draw: its block, the bytes that it reads; what its functions give is in bounds, whatever the bytes are.
-/
import Derived.Test.YtfichpppjpgahaaU
import Derived.Deep.RegionHeld3
namespace Go.Proofs.Ytfichpppjpgahaa
open Go.RowKit
set_option linter.unusedVariables false
set_option linter.unusedSimpArgs false

/-- A slice of bytes. -/
structure Byts (w : World) (a : Option Addr) (n cap : Nat) : Prop where
  ncap : n ≤ cap
  capm : cap ≤ 9223372036854775807
  small : n ≤ 9223372036854775807
  cell : Hid (∀ i, i < n → ∃ b off, ∃ y : Nat, a = some ⟨b, off, none⟩ ∧ b < w.heap.size ∧ w.cell? ⟨b, off + i, none⟩ = some (.int .u8 y) ∧ y ≤ 255)
theorem Byts.below {w w' : World} {a : Option Addr} {n cap : Nat} (h : Byts w a n cap) (hb : Below w.heap.size w w') : Byts w' a n cap := by
  refine ⟨h.ncap, h.capm, h.small, fun i hi => ?_⟩
  obtain ⟨b, off, y, e, hl, hc, hy⟩ := h.cell.out i hi
  exact ⟨b, off, y, e, Nat.lt_of_lt_of_le hl hb.size, (hb.cell (p := ⟨b, off + i, none⟩) hl).trans hc, hy⟩
/-- Slices of bytes among a law's arguments. -/
def BytesIn (w : World) (a : Option Addr) (n c : Nat) (zs : List Int) : Prop := Byts w a n c
theorem u8_wf {a : Int} (h : (Lit.int .u8 a).wf = true) : 0 ≤ a ∧ a ≤ 255 := by
  simp [Lit.wf, IntKind.min, IntKind.max, IntKind.bits, IntKind.signed] at h
  omega
theorem BytesIn.nil {w : World} : BytesIn w none 0 0 [] := ⟨by omega, by omega, by omega, fun i hi => by omega⟩
theorem BytesIn.of {w : World} {x : Addr} {l c : Nat} {zs : List Int} (hl : l ≤ c) (hm : c ≤ maxLen) (hz : zs.length = c) (hcell : ∀ i, i < zs.length → w.cell? (x.add i) = some (.int .u8 (zs.getD i 0)))
    (hwz : ∀ n ∈ zs, (Lit.int .u8 n).wf = true) : BytesIn w (some x) l c (zs.take l) := by
  unfold maxLen at hm
  refine ⟨hl, hm, by omega, fun i hi => ?_⟩
  have hc := hcell i (by omega)
  obtain ⟨b, off, spot⟩ := x
  have hspot : spot = none := by
    have := World.cell?_spot (hcell 0 (by omega))
    simpa [Addr.add] using this
  subst hspot
  have e : (⟨b, off, none⟩ : Addr).add i = ⟨b, off + i, none⟩ := by
    unfold Addr.add; split
    · rename_i h0; subst h0; rfl
    · rfl
  rw [e] at hc
  have hm : zs.getD i 0 ∈ zs := by
    have hi' : i < zs.length := by omega
    simp only [List.getD_eq_getElem?_getD, List.getElem?_eq_getElem hi', Option.getD_some]
    exact List.getElem_mem hi'
  have hb := u8_wf (hwz _ hm)
  refine ⟨b, off, (zs.getD i 0).toNat, rfl, lt_of_cell hc, ?_, by omega⟩
  rw [hc, show ((zs.getD i 0).toNat : Int) = zs.getD i 0 by omega]

/-- All blocks but one are as they were. -/
structure Bex (b : Nat) (w w' : World) : Prop where
  os : w'.os = w.os
  tape : w'.tape = w.tape
  output : w'.output = w.output
  size : w.heap.size ≤ w'.heap.size
  block : ∀ k, k < w.heap.size → k ≠ b → w'.heap[k]? = w.heap[k]?
theorem Bex.refl (b : Nat) (w : World) : Bex b w w := ⟨rfl, rfl, rfl, Nat.le_refl _, fun _ _ _ => rfl⟩
theorem Bex.trans {b : Nat} {x y z : World} (h : Bex b x y) (k : Bex b y z) : Bex b x z :=
  ⟨k.os.trans h.os, k.tape.trans h.tape, k.output.trans h.output, Nat.le_trans h.size k.size, fun i hi hne => (k.block i (Nat.lt_of_lt_of_le hi h.size) hne).trans (h.block i hi hne)⟩
theorem Bex.of {b : Nat} {w w' : World} (h : Below w.heap.size w w') : Bex b w w' := ⟨h.os, h.tape, h.output, h.size, fun k hk _ => h.block k hk⟩
theorem Bex.set {b i : Nat} (w : World) (u : Value) : Bex b w (w.setCell ⟨b, i, none⟩ u) :=
  ⟨rfl, rfl, rfl, by simp, fun k _ hne => Below.heap_setCell _ _ _ _ hne⟩
theorem Below.bex {b B : Nat} {w0 w w' : World} (h : Below B w0 w) (k : Bex b w w') (hb : B ≤ b) (hB : B ≤ w.heap.size) : Below B w0 w' :=
  h.trans ⟨k.os, k.tape, k.output, k.size, fun i hi => k.block i (by omega) (by omega)⟩
theorem Bex.cell {b g o : Nat} {w w' : World} {x : Value} (k : Bex b w w') (h : w.cell? ⟨g, o, none⟩ = some x) (hne : g ≠ b) : w'.cell? ⟨g, o, none⟩ = some x :=
  (World.cell?_of_block (a := ⟨g, o, none⟩) (k.block g (lt_of_cell h) hne)).trans h
theorem Bex.frozen {b g o : Nat} {w w' : World} (k : Bex b w w') (hg : g < w.heap.size) (hne : g ≠ b) : w'.frozen? ⟨g, o, none⟩ = w.frozen? ⟨g, o, none⟩ :=
  World.frozen?_of_block (a := ⟨g, o, none⟩) (k.block g hg hne)
/-- A slice whose elements do not lie in a block. -/
def Off (b : Nat) (a : Option Addr) (n : Nat) : Prop := 0 < n → ∀ g o, a = some ⟨g, o, none⟩ → g ≠ b
theorem Off.of {a : Option Addr} {n lo hi b : Nat} (p : PlaceM a n lo hi) (h : b < lo ∨ hi ≤ b) : Off b a n := fun hn g o e => by have := p hn g o e; omega
theorem Ints.bex {b : Nat} {w w' : World} {a : Option Addr} {n cap : Nat} {xs : List Int} (h : Ints w a n cap xs) (k : Bex b w w') (ho : Off b a n) : Ints w' a n cap xs := by
  refine ⟨h.len, h.ncap, h.small, h.capm, fun i hi => ?_, h.wf, h.nilc⟩
  obtain ⟨g, off, e, hl, hc⟩ := h.cell.out i hi
  exact ⟨g, off, e, Nat.lt_of_lt_of_le hl k.size, k.cell hc (ho (by omega) g off e)⟩
theorem Mine.bex {b B : Nat} {w w' : World} {a : Option Addr} {n cap : Nat} {xs : List Int} (h : Mine w B a n cap xs) (k : Bex b w w') (hb : b < B) : Mine w' B a n cap xs := by
  have ho : Off b a n := Off.of h.pl (Or.inl hb)
  refine ⟨h.ints.bex k ho, fun hn g off e => ⟨(h.place.out hn g off e).1, Nat.lt_of_lt_of_le (h.place.out hn g off e).2 k.size⟩, fun i hi g off e => ?_⟩
  have hp := h.place.out (by omega) g off e
  exact (k.frozen hp.2 (by omega)).trans (h.free.out i hi g off e)
theorem OwnI.bex {E : TypeId} {b B : Nat} {w w' : World} {a : Option Addr} {n cap : Nat} {xs : List Int} (h : OwnI E w B a n cap xs) (k : Bex b w w') (hb : b < B) : OwnI E w' B a n cap xs := by
  refine ⟨h.mine.bex k hb |>.ints, ?_⟩
  obtain ⟨h1, h2⟩ := h.own
  refine ⟨h1, ?_⟩
  rcases h2 with h2 | ⟨g, cap', cur, hv, hg, hh, r⟩
  · exact .inl h2
  · refine .inr ⟨g, cap', cur, hv, hg, ?_, r⟩
    have hgl : g < w.heap.size := by
      rcases Nat.lt_or_ge g w.heap.size with q | q
      · exact q
      · rw [Array.getElem?_eq_none q] at hh; cases hh
    rw [k.block g hgl (by omega)]; exact hh
theorem ownsRow_bex {E : TypeId} {b B s n : Nat} {w w' : World} {v : Value} {xs : List Value} (h : w.ownsRow B E s v n xs) (k : Bex b w w') (hb : b < B) : w'.ownsRow B E s v n xs := by
  obtain ⟨h1, h2⟩ := h
  refine ⟨h1, ?_⟩
  rcases h2 with h2 | ⟨g, cap', cur, hv, hg, hh, r⟩
  · exact .inl h2
  · refine .inr ⟨g, cap', cur, hv, hg, ?_, r⟩
    have hgl : g < w.heap.size := by
      rcases Nat.lt_or_ge g w.heap.size with q | q
      · exact q
      · rw [Array.getElem?_eq_none q] at hh; cases hh
    rw [k.block g hgl (by omega)]; exact hh

/-- A slice whose elements lie below a block. -/
def Und (B : Nat) (a : Option Addr) (n : Nat) : Prop := 0 < n → ∀ g o, a = some ⟨g, o, none⟩ → g < B
/-- The cursor in block b, which has been asked at most K times. -/
structure Cur (w : World) (b B K : Nat) : Prop where
  lt : b < w.heap.size
  base : B ≤ b
  cells : Hid (∃ (a : Option Addr) (n cap i s : Nat), w.cell? ⟨b, 0, none⟩ = some (.slice a n cap) ∧ w.cell? ⟨b, 1, none⟩ = some (.int .i64 i) ∧ w.cell? ⟨b, 2, none⟩ = some (.int .u64 s) ∧
    w.frozen? ⟨b, 1, none⟩ = false ∧ w.frozen? ⟨b, 2, none⟩ = false ∧ i ≤ K ∧ s < 18446744073709551616 ∧ Byts w a n cap ∧ Und B a n)
theorem Cur.below {w w' : World} {b B K : Nat} (h : Cur w b B K) (hb : Below w.heap.size w w') : Cur w' b B K := by
  refine ⟨Nat.lt_of_lt_of_le h.lt hb.size, h.base, ?_⟩
  obtain ⟨a, n, cap, i, s, h0, h1, h2, f1, f2, hi, hs, hB, ho⟩ := h.cells.out
  exact ⟨a, n, cap, i, s, cell_on h0 hb, cell_on h1 hb, cell_on h2 hb, (hb.frozen (p := ⟨b, 1, none⟩) h.lt).trans f1, (hb.frozen (p := ⟨b, 2, none⟩) h.lt).trans f2, hi, hs, hB.below hb, ho⟩
theorem Cur.more {w : World} {b B K K' : Nat} (h : Cur w b B K) (hK : K ≤ K') : Cur w b B K' := by
  refine ⟨h.lt, h.base, ?_⟩
  obtain ⟨a, n, cap, i, s, h0, h1, h2, f1, f2, hi, hs, hB, ho⟩ := h.cells.out
  exact ⟨a, n, cap, i, s, h0, h1, h2, f1, f2, by omega, hs, hB, ho⟩
/-- A store into another block. -/
theorem Cur.store {w : World} {b B K : Nat} {p : Addr} {u : Value} (h : Cur w b B K) (hp : p.block ≠ b) (hq : B ≤ p.block) : Cur (w.setCell p u) b B K := by
  refine ⟨by simpa using h.lt, h.base, ?_⟩
  obtain ⟨a, n, cap, i, s, h0, h1, h2, f1, f2, hi, hs, hB, ho⟩ := h.cells.out
  have e : ∀ g o x, w.cell? ⟨g, o, none⟩ = some x → g ≠ p.block → (w.setCell p u).cell? ⟨g, o, none⟩ = some x := fun g o x hx hg => (World.cell?_setCell_other _ _ _ _ (fun e => hg (by rw [e]))).trans hx
  refine ⟨a, n, cap, i, s, e _ _ _ h0 (Ne.symm hp), e _ _ _ h1 (Ne.symm hp), e _ _ _ h2 (Ne.symm hp), by simpa using f1, by simpa using f2, hi, hs, ⟨hB.ncap, hB.capm, hB.small, fun j hj => ?_⟩, ho⟩
  obtain ⟨g, off, y, ea, hl, hc, hy⟩ := hB.cell.out j hj
  exact ⟨g, off, y, ea, by simpa using hl, e _ _ _ hc (by have := ho (by omega) g off ea; omega), hy⟩
theorem wrap_u64_bd (x : Int) : ∃ s : Nat, IntKind.u64.wrap x = s ∧ s < 18446744073709551616 := by
  refine ⟨(IntKind.u64.wrap x).toNat, ?_, ?_⟩ <;> simp [IntKind.wrap, IntKind.bits, IntKind.signed] <;> omega

theorem drewN_cell (w : World) (m : Nat) (p : Addr) : (w.drewN m).cell? p = w.cell? p := rfl
theorem drewN_frozen (w : World) (m : Nat) (p : Addr) : (w.drewN m).frozen? p = w.frozen? p := rfl
theorem cur_step {w : World} {b B K : Nat} {P : World → Prop} {a : Option Addr} {n cap i s : Nat} (hbl : b < w.heap.size) (h0 : w.cell? ⟨b, 0, none⟩ = some (.slice a n cap)) (h1 : w.cell? ⟨b, 1, none⟩ = some (.int .i64 i)) (h2 : w.cell? ⟨b, 2, none⟩ = some (.int .u64 s))
    (f1 : w.frozen? ⟨b, 1, none⟩ = false) (f2 : w.frozen? ⟨b, 2, none⟩ = false) (hi : i ≤ K) (hB : Byts w a n cap) (ho : Und B a n) (hBb : B ≤ b) (m : Nat) (x : Int)
    (h : ∀ (W : World) (t : Nat), t < 18446744073709551616 → W.cell? ⟨b, 0, none⟩ = some (.slice a n cap) → W.cell? ⟨b, 1, none⟩ = some (.int .i64 (i + 1)) → W.cell? ⟨b, 2, none⟩ = some (.int .u64 t) → Cur W b B (K + 1) → Bex b w W → P W) :
    P (((w.drewN m).setCell ⟨b, 1, none⟩ (.int .i64 (i + 1))).setCell ⟨b, 2, none⟩ (.int .u64 (IntKind.u64.wrap x))) := by
  obtain ⟨t, ht, ht2⟩ := wrap_u64_bd x
  rw [ht]
  have k1 : ((w.drewN m).setCell ⟨b, 1, none⟩ (.int .i64 (i + 1))).cell? ⟨b, 1, none⟩ = some (.int .i64 (i + 1)) := World.cell?_setCell_same (w.drewN m) ⟨b, 1, none⟩ _ ((drewN_cell w m _).trans h1)
  have k2 : ((w.drewN m).setCell ⟨b, 1, none⟩ (.int .i64 (i + 1))).cell? ⟨b, 2, none⟩ = some (.int .u64 s) := (World.cell?_setCell_other _ _ _ _ (by simp)).trans h2
  have k0 : ((w.drewN m).setCell ⟨b, 1, none⟩ (.int .i64 (i + 1))).cell? ⟨b, 0, none⟩ = some (.slice a n cap) := (World.cell?_setCell_other _ _ _ _ (by simp)).trans h0
  have l0 := (World.cell?_setCell_other ((w.drewN m).setCell ⟨b, 1, none⟩ (.int .i64 (i + 1))) ⟨b, 2, none⟩ ⟨b, 0, none⟩ (.int .u64 t) (by simp)).trans k0
  have l1 := (World.cell?_setCell_other ((w.drewN m).setCell ⟨b, 1, none⟩ (.int .i64 (i + 1))) ⟨b, 2, none⟩ ⟨b, 1, none⟩ (.int .u64 t) (by simp)).trans k1
  have l2 : (((w.drewN m).setCell ⟨b, 1, none⟩ (.int .i64 (i + 1))).setCell ⟨b, 2, none⟩ (.int .u64 t)).cell? ⟨b, 2, none⟩ = some (.int .u64 t) := World.cell?_setCell_same _ _ _ k2
  have hX : Bex b w (((w.drewN m).setCell ⟨b, 1, none⟩ (.int .i64 (i + 1))).setCell ⟨b, 2, none⟩ (.int .u64 t)) :=
    ((Bex.of (bel_drewN w m)).trans (Bex.set _ _)).trans (Bex.set _ _)
  refine h _ t ht2 l0 l1 l2 ⟨by simpa using hbl, hBb, ?_⟩ hX
  refine ⟨a, n, cap, i + 1, t, l0, by exact_mod_cast l1, l2, by simpa using f1, by simpa using f2, by omega, ht2, ⟨hB.ncap, hB.capm, hB.small, fun j hj => ?_⟩, ho⟩
  obtain ⟨g, off, y, ea, hl, hc, hy⟩ := hB.cell.out j hj
  exact ⟨g, off, y, ea, by simpa using hl, hX.cell hc (by have := ho (by omega) g off ea; omega), hy⟩
theorem u64_and255 (n : Int) : bits .and .u64 n 255 = n % 256 := by
  have h127 : (BitVec.ofInt 64 255).toNat = 2 ^ 8 - 1 := by decide
  have key : (BitVec.ofInt 64 n &&& BitVec.ofInt 64 255).toNat = (n % ((2 ^ 64 : Nat) : Int)).toNat % 2 ^ 8 := by
    rw [BitVec.toNat_and, BitVec.toNat_ofInt, h127, Nat.and_two_pow_sub_one_eq_mod]
  show IntKind.u64.wrap ((BitVec.ofInt 64 n &&& BitVec.ofInt 64 255).toNat : Nat) = n % 256
  rw [key]
  simp only [IntKind.wrap, IntKind.bits, IntKind.signed]
  simp
  omega
theorem next_val (t : Nat) : ∃ r : Nat, wrap64 (bits .and .u64 ((t : Int) / 1099511627776) 255) = r ∧ r ≤ 255 := by
  rw [u64_and255]
  refine ⟨((t : Int) / 1099511627776 % 256).toNat, ?_, by omega⟩
  unfold wrap64
  omega
set_option maxHeartbeats 4000000 in
theorem s_next (b B K : Nat) (w : World) (h : Cur w b B K) (hK : K ≤ 1000000000000) :
    Calls Try.prog 118 #[.pointer (some ⟨b, 0, none⟩)] w fun e w' => ∃ r : Nat, e = .returned (.int .i64 r) ∧ r ≤ 255 ∧ Cur w' b B (K + 1) ∧ Bex b w w' := by
  obtain ⟨a, n, cap, i, s, h0, h1, h2, f1, f2, hi, hs, hB, ho⟩ := h.cells.out
  have hbl := h.lt
  have hBb := h.base
  have hn := hB.small
  have e1 : IntKind.i64.wrap ((i : Int) + 1) = (i : Int) + 1 := IntWalk.i64_in _ (by omega)
  by_cases hlt : i < n
  · obtain ⟨g, off, y, rfl, hgl, hc, hy⟩ := hB.cell.out i hlt
    have hne : g ≠ b := by have := ho (by omega) g off rfl; omega
    have hlti : (i : Int) < (n : Int) := by omega
    have HST := Lib.hid (fun (P : World → Prop) (m : Nat) (x : Int) => cur_step (P := P) hbl h0 h1 h2 f1 f2 hi hB ho hBb m x)
    clear h hB ho
    go_enter Try.func118, Try.ntmps118
    go_wp2
    go_quiet (fail)
    go_wp2
    go_quiet (fail)
    go_wp2
    refine HST.out (fun W => Code.wp _ _ _ _ W) _ _ ?_
    intro W t ht l0 l1 l2 hC hX
    clear h0 h1 h2 f1 f2 hc HST
    go_quiet (fail)
    go_wp2
    go_ret
    exact ⟨_, rfl, hy, hC.below (bel_drewN _ _), hX.trans (Bex.of (bel_drewN _ _))⟩
  · have hlti : ¬ (i : Int) < (n : Int) := by omega
    have HST := Lib.hid (fun (P : World → Prop) (m : Nat) (x : Int) => cur_step (P := P) hbl h0 h1 h2 f1 f2 hi hB ho hBb m x)
    clear h hB ho
    go_enter Try.func118, Try.ntmps118
    go_wp2
    go_quiet (fail)
    go_wp2
    refine HST.out (fun W => Code.wp _ _ _ _ W) _ _ ?_
    intro W t ht l0 l1 l2 hC hX
    clear h0 h1 h2 f1 f2 HST
    go_quiet (fail)
    go_wp2
    go_ret
    obtain ⟨r, hr, hr2⟩ := next_val t
    exact ⟨r, by simp; exact hr, hr2, hC.below (bel_drewN _ _), hX.trans (Bex.of (bel_drewN _ _))⟩
end Go.Proofs.Ytfichpppjpgahaa
