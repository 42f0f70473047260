/-
  A circuit is read from a text: what the specification's lines say; appends of gates in regions that draw their order.
  A circuit that is being read: the box, its rows, the lines that are left.
-/
import Derived.Test.YtfichpppjpgahaaGreatDoorFm3
import Derived.Test.YtfichpppjpgahaaGreatDoorBl
import Derived.Laws.Strings
namespace Go.Proofs.YtfichpppjpgahaaGreatDoor
open Go.RowKit
set_option linter.unusedVariables false
set_option linter.unusedSimpArgs false
set_option maxRecDepth 10000

/-- What has been read of a circuit. -/
structure Cand where
  p : Int
  i0 : Int
  i1 : Int
  gs : List Int
  gn : Nat
  os : List Int
def Cand.zero : Cand := ⟨0, 0, 0, [], 0, []⟩
def Cand.add (c : Cand) (k a b : Int) : Cand := { c with gs := c.gs ++ [k, a, b], gn := c.gn + 1 }
/-- The gates of the words add, mul, scale. -/
def addM (h : List UInt8) (a b : Int) (c : Cand) : Nat → Cand
  | 0 => c
  | j + 1 => if h = wordK j then (addM h a b c j).add j a b else addM h a b c j
def stepN (c : Cand) (h : List UInt8) (ns : List Int) : Cand :=
  if h = wordA ∧ ns.length = 3 then { c with p := nth ns 0, i0 := nth ns 1, i1 := nth ns 2 }
  else if h = wordO then { c with os := ns }
  else if h = wordK 3 ∧ ns.length = 1 then c.add 3 (nth ns 0) 0
  else if ns.length = 2 then addM h (nth ns 0) (nth ns 1) c 3
  else c
def stepS (c : Cand) (line : List UInt8) : Cand := stepN c ((sp 32 [] line).headD []) ((sp 32 [] line).tail.map readL)
def candS (l : List UInt8) : Nat → Cand
  | 0 => Cand.zero
  | k + 1 => stepS (candS l k) ((sp 10 [] l).getD k [])
/-- The circuit that a text is, if it is one. -/
def pick2 (c : Cand) (l : List UInt8) : Bool := arC c.p c.i0 c.i1 c.gs c.gn c.os && decide (textL c.p c.i0 c.i1 c.gs c.gn c.os = l)
def paOf (c : Cand) (l : List UInt8) : Cand × Bool := if pick2 c l then (c, true) else (Cand.zero, false)
variable {W W' : World} {L g : Nat} {x0 x1 x2 : Int} {v2 v3 : Value} {n m : Nat} {gs os : List Int}
theorem AnyA.set2 (h : AnyA W L g x0 x1 x2 v2 n gs v3 m os) (u : Int) : AnyA (W.setCell ⟨g, 2, none⟩ (.int .i64 u)) L g x0 x1 u v2 n gs v3 m os :=
  ⟨h.box.s2 _, h.r.kept (grow_set W g 2 _) (ne_some h.d2) (ne_some h.d3), h.d2, h.d3, h.Lg⟩
theorem AnyA.outsNew {v9 : Value} {m9 : Nat} {os9 : List Int} (h : AnyA W L g x0 x1 x2 v2 n gs v3 m os) (k : W.ownsRow L 3 1 v9 m9 (ivs os9)) (dj : ∀ q, v2.ownBlock = some q → v9.ownBlock ≠ some q) (e3 : v9.ownBlock ≠ some g) (fo : Hid (∀ x ∈ os9, Fits x)) :
    AnyA (W.setCell ⟨g, 4, none⟩ v9) L g x0 x1 x2 v2 n gs v9 m9 os9 := by
  have r' : CirO W L v2 n gs v9 m9 os9 := ⟨h.r.og, k, dj, h.r.fg, fo⟩
  exact ⟨h.box.s4 _, r'.kept (grow_set W g 4 _) (ne_some h.d2) (ne_some e3), h.d2, e3, h.Lg⟩
/-- append of one gate, at a step of a region that draws its order. -/
theorem step_appGX {ops : Array Oper} {o : Oper} {a : Act} {w : World} {K : Act → World → Prop} {Q : Exit → Act → World → Prop} {E : Prop} (B0 k : Nat) (v : Value) (zs : List Int) (p q r : Int) (b : Nat)
    (hg : o.guard = none) (s x : Operand) (ho : o.op = .call { callee := .builtin .append, args := #[s, x], argTypes := #[23, 23] })
    (hs : a.eval s = v) (hx : a.eval x = .slice (some ⟨b, 0, none⟩) 1 1) (hc0 : w.cell? ⟨b, 0, none⟩ = some (.int .i64 p)) (hc1 : w.cell? ⟨b, 1, none⟩ = some (.int .i64 q)) (hc2 : w.cell? ⟨b, 2, none⟩ = some (.int .i64 r)) (hown : w.ownsRow B0 65 3 v k (ivs zs)) (hB : B0 ≤ w.heap.size) (hn : k ≤ 100000000)
    (h : ∀ v' w', w'.ownsRow B0 65 3 v' (k + 1) (ivs (zs ++ [p, q, r])) → Below B0 w w' → w.grownBy w' v.ownBlock → (v'.ownBlock = v.ownBlock ∨ v'.ownBlock = some w.heap.size) → K (a.put o.dst v') w') :
    if Region.wanted o (yielded ops a.tmps) = true then Oper.wp Tryz.prog o a w K Q else E := by
  have hw : Region.wanted o (yielded ops a.tmps) = true := by simp [Region.wanted, hg]
  rw [if_pos hw]
  obtain ⟨i0, hi, hz0, hz1, hz2⟩ := info_parts info_GtA
  obtain ⟨v', w', hrun, k1, k2, k0, k3⟩ := run_append_own_at (P := Tryz.prog) w B0 23 o.type 65 i0 (.agg #[.int .i64 0, .int .i64 0, .int .i64 0]) 3 24 Tryz.underlying23 hi hz0 hz1 hz2 rfl (by decide) v k (ivs zs) hown ⟨b, 0, none⟩ 1 1 [.int .i64 p, .int .i64 q, .int .i64 r] rfl (by
    intro j c hj
    match j, hj with
    | 0, hj => simp at hj; subst hj; exact hc0
    | 1, hj => simp at hj; subst hj; exact hc1
    | 2, hj => simp at hj; subst hj; exact hc2) (by intro c hc; simp at hc; rcases hc with rfl | rfl | rfl <;> rfl) (by unfold maxLen; omega) (by omega) hB
  unfold Oper.wp execOp
  simp only [ho, resolve, invoke, builtin, Sem.run_bind, Sem.run_pure, Result.andThen_ok, List.map_toArray, List.map_cons, List.map_nil, hs, hx, hrun]
  have e : ivs zs ++ [.int .i64 p, .int .i64 q, .int .i64 r] = ivs (zs ++ [p, q, r]) := by simp [ivs]
  rw [e] at k1
  exact h v' w' k1 (below_grown_own hown k2 hB) k2 k3
end Go.Proofs.YtfichpppjpgahaaGreatDoor
namespace Go.Proofs.YtfichpppjpgahaaGreatDoor
open Go.RowKit
set_option linter.unusedVariables false
set_option linter.unusedSimpArgs false
set_option maxRecDepth 10000

theorem B_toList (l : List UInt8) : (B l).toList = l := by rw [ByteArray.toList_eq]; exact B_data l
theorem B_ne {l m : List UInt8} (h : l ≠ m) : ((B l).toList == m) = false := by rw [B_toList]; simpa using h
theorem addM_os (h : List UInt8) (a b : Int) (c : Cand) : ∀ j, (addM h a b c j).os = c.os
  | 0 => rfl
  | j + 1 => by
    unfold addM
    split
    · exact addM_os h a b c j
    · exact addM_os h a b c j
theorem arC_ok {p i0 i1 : Int} {gs os : List Int} {gn : Nat} (h : arC p i0 i1 gs gn os = true) : (2 ≤ p ∧ p ≤ 251) ∧ (0 ≤ i0 ∧ i0 ≤ 8) ∧ (0 ≤ i1 ∧ i1 ≤ 8) ∧ okG gs gn ∧ okN os ∧ gn ≤ 100 ∧ os.length ≤ 20 := by
  obtain ⟨hS, hG, hO⟩ := arC_iff.1 h
  obtain ⟨hp, h0, h1, hgn, hon⟩ := arS_iff.1 hS
  have hp' := prB_lo hp
  refine ⟨hp', h0, h1, fun i hi => ?_, fun x hx => ?_, hgn, hon⟩
  · have k := gatesA_at hG hi
    unfold arB at k
    split at k
    · rename_i e
      rw [Bool.and_eq_true, inB_iff, inB_iff] at k
      omega
    · split at k
      · rename_i e
        rw [Bool.and_eq_true, inB_iff, inB_iff] at k
        omega
      · rw [Bool.and_eq_true, Bool.and_eq_true, inB_iff, decide_eq_true_iff, decide_eq_true_iff] at k
        omega
  · obtain ⟨i, hi, rfl⟩ := mem_nth hx
    have := inB_iff.1 (allIn_iff.1 hO i hi)
    omega
/-- The box g holds c; la are the lines, from behind g to z; the gates' row lies from z on. -/
structure PrS (W : World) (g z : Nat) (la : Option Addr) (n lc : Nat) (ls : List (List UInt8)) (v2 v3 : Value) (c : Cand) : Prop where
  a : AnyA W g g c.p c.i0 c.i1 v2 c.gn c.gs v3 c.os.length c.os
  s : Strs W la n lc ls
  f : Hid (∀ q, v2.ownBlock = some q → z ≤ q)
  zz : z ≤ W.heap.size
  pl : Hid (∀ b o, la = some ⟨b, o, none⟩ → g < b ∧ b < z)
variable {W W' : World} {g z n lc : Nat} {la : Option Addr} {ls : List (List UInt8)} {v2 v3 : Value} {c : Cand}
theorem PrS.below (h : PrS W g z la n lc ls v2 v3 c) (k : Below W.heap.size W W') : PrS W' g z la n lc ls v2 v3 c :=
  ⟨h.a.below k, h.s.below k, h.f, Nat.le_trans h.zz k.size, h.pl⟩
theorem PrS.set3 (h : PrS W g z la n lc ls v2 v3 c) (x0 x1 x2 : Int) : PrS (((W.setCell ⟨g, 0, none⟩ (.int .i64 x0)).setCell ⟨g, 1, none⟩ (.int .i64 x1)).setCell ⟨g, 2, none⟩ (.int .i64 x2)) g z la n lc ls v2 v3 { c with p := x0, i0 := x1, i1 := x2 } :=
  have hp : ∀ b o, la = some ⟨b, o, none⟩ → b ≠ g := fun b o e => by have := (h.pl.out b o e).1; omega
  ⟨((h.a.set0 x0).set1 x1).set2 x2, ((h.s.set (p := ⟨g, 0, none⟩) hp _).set (p := ⟨g, 1, none⟩) hp _).set (p := ⟨g, 2, none⟩) hp _, h.f, by simpa using h.zz, h.pl⟩
theorem PrS.outs {v9 : Value} {os9 : List Int} {m : Nat} (h : PrS W g z la n lc ls v2 v3 c) (k : W.ownsRow g 3 1 v9 m (ivs os9)) (hm : m = os9.length) (dj : ∀ q, v2.ownBlock = some q → v9.ownBlock ≠ some q) (e3 : v9.ownBlock ≠ some g) (fo : Hid (∀ x ∈ os9, Fits x)) :
    PrS (W.setCell ⟨g, 4, none⟩ v9) g z la n lc ls v2 v9 { c with os := os9 } :=
  have hp : ∀ b o, la = some ⟨b, o, none⟩ → b ≠ g := fun b o e => by have := (h.pl.out b o e).1; omega
  ⟨h.a.outsNew (hm ▸ k) dj e3 fo, h.s.set (p := ⟨g, 4, none⟩) hp _, h.f, by simpa using h.zz, h.pl⟩
theorem PrS.gates {v9 : Value} {p q r : Int} (h : PrS W g z la n lc ls v2 v3 c) (k : W'.ownsRow g 65 3 v9 (c.gn + 1) (ivs (c.gs ++ [p, q, r]))) (hg : W.grownBy W' v2.ownBlock) (hs : W.heap.size ≤ W'.heap.size) (hb : v9.ownBlock = v2.ownBlock ∨ v9.ownBlock = some W.heap.size) (hp0 : Fits p) (hq0 : Fits q) (hr0 : Fits r) :
    PrS (W'.setCell ⟨g, 3, none⟩ v9) g z la n lc ls v9 v3 (c.add p q r) := by
  have hp : ∀ b o, la = some ⟨b, o, none⟩ → b ≠ g := fun b o e => by have := (h.pl.out b o e).1; omega
  refine ⟨h.a.gates k hg hb (fun x hx => ?_), (h.s.grown hg (fun b o e => fun e2 => ?_) hs).set (p := ⟨g, 3, none⟩) hp _, fun q' hq' => ?_, by have := h.zz; simp; omega, h.pl⟩
  · rcases List.mem_append.1 hx with e | e
    · exact h.a.r.fg.out x e
    · simp at e; rcases e with rfl | rfl | rfl <;> assumption
  · have h1 := (h.pl.out b o e).2
    have h2 := h.f.out b e2.symm
    omega
  · rcases hb with e | e
    · exact h.f.out q' (by rw [← e]; exact hq')
    · rw [e, Option.some.injEq] at hq'
      have := h.zz
      omega
/-- Within the round: a word, its numbers, the words that it is compared with. -/
structure InS (V : World) (g z : Nat) (la : Option Addr) (n lc : Nat) (ls : List (List UInt8)) (v2 v3 : Value) (c : Cand) (zs ze wb wo nb no lb : Nat) (hd : List UInt8) (n0 n1 : Int) : Prop where
  pr : PrS V g z la n lc ls v2 v3 c
  w : V.cell? ⟨wb, wo, none⟩ = some (.string (B hd))
  a0 : V.cell? ⟨nb, no, none⟩ = some (.int .i64 n0)
  a1 : V.cell? ⟨nb, no + 1, none⟩ = some (.int .i64 n1)
  l0 : V.cell? ⟨lb, 0, none⟩ = some (.string ⟨#[97, 100, 100]⟩)
  l1 : V.cell? ⟨lb, 1, none⟩ = some (.string ⟨#[109, 117, 108]⟩)
  l2 : V.cell? ⟨lb, 2, none⟩ = some (.string ⟨#[115, 99, 97, 108, 101]⟩)
  q : Hid (∀ q, v2.ownBlock = some q → q < zs ∨ ze ≤ q)
  e : ze ≤ V.heap.size
  r : Hid ((g < zs ∧ zs ≤ wb ∧ wb < ze) ∧ (zs ≤ nb ∧ nb < ze) ∧ (zs ≤ lb ∧ lb < ze))
theorem InS.app {v9 : Value} {p q r : Int} {zs ze wb wo nb no lb : Nat} {hd : List UInt8} {n0 n1 : Int} (h : InS W g z la n lc ls v2 v3 c zs ze wb wo nb no lb hd n0 n1) (k : W'.ownsRow g 65 3 v9 (c.gn + 1) (ivs (c.gs ++ [p, q, r]))) (hg : W.grownBy W' v2.ownBlock) (hs : W.heap.size ≤ W'.heap.size) (hb : v9.ownBlock = v2.ownBlock ∨ v9.ownBlock = some W.heap.size) (hp0 : Fits p) (hq0 : Fits q) (hr0 : Fits r) :
    InS (W'.setCell ⟨g, 3, none⟩ v9) g z la n lc ls v9 v3 (c.add p q r) zs ze wb wo nb no lb hd n0 n1 := by
  obtain ⟨⟨r0, r1, r2⟩, ⟨r3, r4⟩, r5, r6⟩ := h.r.out
  have far : ∀ b o x, zs ≤ b → b < ze → W.cell? ⟨b, o, none⟩ = some x → (W'.setCell ⟨g, 3, none⟩ v9).cell? ⟨b, o, none⟩ = some x := fun b o x h1 h2 hx =>
    (World.cell?_setCell_other _ _ _ _ (fun e => by simp only [Addr.mk.injEq] at e; omega)).trans (hg.cell hx (fun e => by have := h.q.out b e.symm; omega))
  refine ⟨h.pr.gates k hg hs hb hp0 hq0 hr0, far _ _ _ r1 r2 h.w, far _ _ _ r3 r4 h.a0, far _ _ _ r3 r4 h.a1, far _ _ _ r5 r6 h.l0, far _ _ _ r5 r6 h.l1, far _ _ _ r5 r6 h.l2, fun q' hq' => ?_, by have := h.e; simp; omega, h.r⟩
  rcases hb with e | e
  · exact h.q.out q' (by rw [← e]; exact hq')
  · rw [e, Option.some.injEq] at hq'
    have := h.e
    omega
theorem InS.below {zs ze wb wo nb no lb : Nat} {hd : List UInt8} {n0 n1 : Int} (h : InS W g z la n lc ls v2 v3 c zs ze wb wo nb no lb hd n0 n1) (k : Below W.heap.size W W') : InS W' g z la n lc ls v2 v3 c zs ze wb wo nb no lb hd n0 n1 :=
  ⟨h.pr.below k, cell_on h.w k, cell_on h.a0 k, cell_on h.a1 k, cell_on h.l0 k, cell_on h.l1 k, cell_on h.l2 k, h.q, Nat.le_trans h.e k.size, h.r⟩
theorem CirO.circL {w : World} {L : Nat} {ga oa : Option Addr} {gc oc : Nat} {n m : Nat} {gs os : List Int} (h : CirO w L (.slice ga n gc) n gs (.slice oa m oc) m os) (hn : n ≤ 1000000) (hm : m ≤ 1000000) : Circ w ga n gc gs oa m oc os := by
  obtain ⟨a1, c1, e1, m1⟩ := MineK.of h.og (by omega) (by omega) h.fg.out
  obtain ⟨a2, c2, e2, m2⟩ := Mine.of h.oo (by omega) h.fo.out
  simp only [Value.slice.injEq, true_and] at e1 e2
  obtain ⟨rfl, rfl⟩ := e1; obtain ⟨rfl, rfl⟩ := e2
  exact ⟨m1.recs, m2.ints⟩
end Go.Proofs.YtfichpppjpgahaaGreatDoor
