/-
  Two slices of ints that the call made and that both grow by append.
-/
import Derived.Test.YtfichpppjpgahaaAp
import Derived.Test.YtfichpppjpgahaaU
import Derived.Maps.AppendAt
import Derived.Deep.RegionHeld3
import Derived.Deep.AppendLies
namespace Go.Proofs.Ytfichpppjpgahaa
open Go.RowKit
set_option linter.unusedVariables false
set_option linter.unusedSimpArgs false

/-- Two rows in blocks of their own, from block B on. -/
structure Duo (w : World) (B : Nat) (v1 : Value) (n1 : Nat) (xs1 : List Int) (v2 : Value) (n2 : Nat) (xs2 : List Int) : Prop where
  own1 : w.ownsRow B 3 1 v1 n1 (ivs xs1)
  own2 : w.ownsRow B 3 1 v2 n2 (ivs xs2)
  dj : ∀ g, v1.ownBlock = some g → v2.ownBlock ≠ some g
  base : B ≤ w.heap.size
theorem ownLt {E : TypeId} {w : World} {B s n : Nat} {v : Value} {xs : List Value} (h : w.ownsRow B E s v n xs) : ∀ g, v.ownBlock = some g → B ≤ g ∧ g < w.heap.size := fun g hg => h.lt g hg
theorem Duo.below {w w' : World} {B n1 n2 : Nat} {v1 v2 : Value} {xs1 xs2 : List Int} (h : Duo w B v1 n1 xs1 v2 n2 xs2) (hb : Below w.heap.size w w') : Duo w' B v1 n1 xs1 v2 n2 xs2 :=
  ⟨ownsRow_below h.own1 hb, ownsRow_below h.own2 hb, h.dj, Nat.le_trans h.base hb.size⟩
theorem Duo.swap {w : World} {B n1 n2 : Nat} {v1 v2 : Value} {xs1 xs2 : List Int} (h : Duo w B v1 n1 xs1 v2 n2 xs2) : Duo w B v2 n2 xs2 v1 n1 xs1 :=
  ⟨h.own2, h.own1, fun g h1 h2 => h.dj g h2 h1, h.base⟩
theorem Duo.nil {w : World} {B : Nat} (h : B ≤ w.heap.size) : Duo w B (.slice none 0 0) 0 [] (.slice none 0 0) 0 [] :=
  ⟨World.ownsRow_nil _ _ _ _, World.ownsRow_nil _ _ _ _, fun g h1 => (by cases h1), h⟩
/-- Two empty literals. -/
theorem Duo.lits {w : World} {B : Nat} (h : B ≤ w.heap.size) : Duo ((w.alloc (.cells #[] 3)).alloc (.cells #[] 3)) B (.slice (some ⟨w.heap.size, 0, none⟩) 0 0) 0 [] (.slice (some ⟨w.heap.size + 1, 0, none⟩) 0 0) 0 [] := by
  have h1 : (w.alloc (.cells #[] 3)).ownsRow B 3 1 (.slice (some ⟨w.heap.size, 0, none⟩) 0 0) 0 (ivs []) := World.ownsRow_lit w #[] 0 h (by decide) rfl
  have h2 : ((w.alloc (.cells #[] 3)).alloc (.cells #[] 3)).ownsRow B 3 1 (.slice (some ⟨w.heap.size + 1, 0, none⟩) 0 0) 0 (ivs []) := by
    have := World.ownsRow_lit (base := B) (e := 3) (size := 1) (w.alloc (.cells #[] 3)) #[] 0 (by simp; omega) (by decide) rfl
    simpa [ivs] using this
  exact ⟨h1.alloc _, h2, fun g e1 e2 => by simp [Value.ownBlock] at e1 e2; omega, by simp; omega⟩
/-- The first row has grown. -/
theorem Duo.grow {w w' : World} {B n1 n2 : Nat} {v1 v2 v' : Value} {xs1 xs2 : List Int} {u : Int} (h : Duo w B v1 n1 xs1 v2 n2 xs2) (k1 : w'.ownsRow B 3 1 v' (n1 + 1) (ivs xs1 ++ [.int .i64 u])) (k2 : w.grownBy w' v1.ownBlock) (k3 : v'.ownBlock = v1.ownBlock ∨ v'.ownBlock = some w.heap.size) :
    Duo w' B v' (n1 + 1) (xs1 ++ [u]) v2 n2 xs2 := by
  refine ⟨by rw [ivs_snoc]; exact k1, h.own2.kept k2 ?_, fun g e1 e2 => ?_, Nat.le_trans h.base k2.size⟩
  · cases hb : v2.ownBlock with
    | none => exact .inl rfl
    | some g => exact .inr (fun e => h.dj g e.symm hb)
  · rcases k3 with k | k
    · exact h.dj g (by rw [← k]; exact e1) e2
    · rw [k] at e1
      simp only [Option.some.injEq] at e1
      have := (ownLt h.own2 g e2).2
      omega
/-- append to the first row, at a step of a region that draws its order. -/
theorem step_duo {ops : Array Oper} {o : Oper} {a : Act} {w : World} {K : Act → World → Prop} {Q : Exit → Act → World → Prop} {E : Prop} (v1 : Value) (B n1 : Nat) (xs1 : List Int) (v2 : Value) (n2 : Nat) (xs2 : List Int) (u : Int) (ad : Addr)
    (hg : o.guard = none) (s x : Operand) (ho : o.op = .call { callee := .builtin .append, args := #[s, x], argTypes := #[24, 24] })
    (hs : a.eval s = v1) (hx : a.eval x = .slice (some ad) 1 1) (hD : Duo w B v1 n1 xs1 v2 n2 xs2) (hc : w.cell? ad = some (.int .i64 u)) (hn : n1 ≤ 1000000000000)
    (h : ∀ v' w', Duo w' B v' (n1 + 1) (xs1 ++ [u]) v2 n2 xs2 → Below B w w' → K (a.put o.dst v') w') :
    if Region.wanted o (yielded ops a.tmps) = true then Oper.wp Try.prog o a w K Q else E := by
  have hw : Region.wanted o (yielded ops a.tmps) = true := by simp [Region.wanted, hg]
  rw [if_pos hw]
  obtain ⟨i0, hi, hz0, hz1, hz2⟩ := info_parts info_int
  obtain ⟨v', w', hrun, k1, k2, k0, k3⟩ := run_append_own_at (P := Try.prog) w B 24 o.type 3 i0 (.int .i64 0) 1 8 Try.underlying24 hi hz0 hz1 hz2 rfl (by decide) v1 n1 (ivs xs1) hD.own1 ad 1 1 [.int .i64 u] rfl (by
    intro j c hj
    match j, hj with
    | 0, hj =>
      simp at hj; subst hj
      have : ad.add 0 = ad := by simp [Addr.add]
      rw [this]; exact hc) (by intro c hc; simp at hc; subst hc; rfl) (by unfold maxLen; omega) (by omega) hD.base
  unfold Oper.wp execOp
  simp only [ho, resolve, invoke, builtin, Sem.run_bind, Sem.run_pure, Result.andThen_ok, List.map_toArray, List.map_cons, List.map_nil, hs, hx, hrun]
  exact h v' w' (hD.grow k1 k2 k3) (below_grown_own hD.own1 k2 hD.base)
/-- append to the second row, likewise. -/
theorem step_duo2 {ops : Array Oper} {o : Oper} {a : Act} {w : World} {K : Act → World → Prop} {Q : Exit → Act → World → Prop} {E : Prop} (v2 : Value) (B n1 : Nat) (xs1 : List Int) (v1 : Value) (n2 : Nat) (xs2 : List Int) (u : Int) (ad : Addr)
    (hg : o.guard = none) (s x : Operand) (ho : o.op = .call { callee := .builtin .append, args := #[s, x], argTypes := #[24, 24] })
    (hs : a.eval s = v2) (hx : a.eval x = .slice (some ad) 1 1) (hD : Duo w B v1 n1 xs1 v2 n2 xs2) (hc : w.cell? ad = some (.int .i64 u)) (hn : n2 ≤ 1000000000000)
    (h : ∀ v' w', Duo w' B v1 n1 xs1 v' (n2 + 1) (xs2 ++ [u]) → Below B w w' → K (a.put o.dst v') w') :
    if Region.wanted o (yielded ops a.tmps) = true then Oper.wp Try.prog o a w K Q else E :=
  step_duo v2 B n2 xs2 v1 n1 xs1 u ad hg s x ho hs hx hD.swap hc hn (fun v' w' hd hb => h v' w' hd.swap hb)
/-- append to the first row, in a plain region. -/
theorem wp_duo {ops : Array Oper} {rest : List Oper} {o : Oper} {a : Act} {Q : Exit → Act → World → Prop} (w : World) (v1 : Value) (B n1 : Nat) (xs1 : List Int) (v2 : Value) (n2 : Nat) (xs2 : List Int) (u : Int) (t : TypeId) (m : Nat)
    (hg : o.guard = none) (s x : Operand) (ho : o.op = .call { callee := .builtin .append, args := #[s, x], argTypes := #[24, 24] })
    (hs : a.eval s = v1) (hx : a.eval x = .slice (some ⟨m, 0, none⟩) 1 1) (hm : m = w.heap.size) (hD : Duo w B v1 n1 xs1 v2 n2 xs2) (hn : n1 ≤ 1000000000000)
    (h : ∀ v' w', Duo w' B v' (n1 + 1) (xs1 ++ [u]) v2 n2 xs2 → Below B w w' → wpList Try.prog ops Q rest (a.put o.dst v') w') :
    wpList Try.prog ops Q (o :: rest) a (w.alloc (.cells #[.int .i64 u] t)) := by
  obtain ⟨i0, hi, hz0, hz1, hz2⟩ := info_parts info_int
  subst hm
  have hD' := hD.below (bel_alloc w (.cells #[.int .i64 u] t))
  refine wpList_append_own_at _ hg s x 24 ho B 3 i0 (.int .i64 0) 1 8 Try.underlying24 hi hz0 hz1 hz2 rfl (by decide) v1 n1 (ivs xs1) hs hD'.own1 ⟨w.heap.size, 0, none⟩ 1 1 [.int .i64 u] hx rfl ?_ ?_ (by unfold maxLen; omega) (by omega) hD'.base ?_
  · intro j c hj
    match j, hj with
    | 0, hj =>
      simp at hj; subst hj
      simp [Addr.add, World.cell?_alloc_at]
  · intro c hc; simp at hc; subst hc; rfl
  · intro v' w' k1 k2 _ k3
    exact h v' w' (hD'.grow k1 k2 k3) (((Below.refl B w).alloc hD.base _).trans (below_grown_own hD'.own1 k2 hD'.base))
theorem wp_duo2 {ops : Array Oper} {rest : List Oper} {o : Oper} {a : Act} {Q : Exit → Act → World → Prop} (w : World) (v2 : Value) (B n1 : Nat) (xs1 : List Int) (v1 : Value) (n2 : Nat) (xs2 : List Int) (u : Int) (t : TypeId) (m : Nat)
    (hg : o.guard = none) (s x : Operand) (ho : o.op = .call { callee := .builtin .append, args := #[s, x], argTypes := #[24, 24] })
    (hs : a.eval s = v2) (hx : a.eval x = .slice (some ⟨m, 0, none⟩) 1 1) (hm : m = w.heap.size) (hD : Duo w B v1 n1 xs1 v2 n2 xs2) (hn : n2 ≤ 1000000000000)
    (h : ∀ v' w', Duo w' B v1 n1 xs1 v' (n2 + 1) (xs2 ++ [u]) → Below B w w' → wpList Try.prog ops Q rest (a.put o.dst v') w') :
    wpList Try.prog ops Q (o :: rest) a (w.alloc (.cells #[.int .i64 u] t)) :=
  wp_duo w v2 B n2 xs2 v1 n1 xs1 u t m hg s x ho hs hx hm hD.swap hn (fun v' w' hd hb => h v' w' hd.swap hb)
/-- Two results. -/
theorem Duo.two {w0 w : World} {B n1 n2 : Nat} {v1 v2 : Value} {xs1 xs2 : List Int} (h : Duo w B v1 n1 xs1 v2 n2 xs2) (h1 : n1 ≤ 1000000) (h2 : n2 ≤ 1000000) (f1 : ∀ x ∈ xs1, Fits x) (f2 : ∀ x ∈ xs2, Fits x) (hB : w0.heap.size ≤ B) :
    ∃ a1 c1 a2 c2, v1 = .slice a1 n1 c1 ∧ v2 = .slice a2 n2 c2 ∧ Mine w w0.heap.size a1 n1 c1 xs1 ∧ Mine w w0.heap.size a2 n2 c2 xs2 ∧ Apart a1 n1 a2 n2 := by
  obtain ⟨a1, c1, rfl, m1⟩ := Mine.of h.own1 (by omega) f1
  obtain ⟨a2, c2, rfl, m2⟩ := Mine.of h.own2 (by omega) f2
  refine ⟨a1, c1, a2, c2, rfl, rfl, m1.base hB, m2.base hB, fun _ _ g o g' o' e e' k => ?_⟩
  subst e e' k
  exact h.dj g rfl rfl
end Go.Proofs.Ytfichpppjpgahaa
