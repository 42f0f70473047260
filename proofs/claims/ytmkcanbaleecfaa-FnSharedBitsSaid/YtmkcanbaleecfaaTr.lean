/-
  Two slices of ints and one of what is opened that the call made and that all grow by append; the run of a shared circuit, as numbers.
-/
import Derived.Test.YtmkcanbaleecfaaC8
import Derived.Test.YtmkcanbaleecfaaDu
namespace Go.Proofs.Ytmkcanbaleecfaa
open Go.RowKit
set_option linter.unusedVariables false
set_option linter.unusedSimpArgs false

/-- What lies from block b on is as it was. -/
structure Fr (b : Nat) (w w' : World) : Prop where
  size : w.heap.size ≤ w'.heap.size
  block : ∀ k, b ≤ k → k < w.heap.size → w'.heap[k]? = w.heap[k]?
theorem Fr.refl (b : Nat) (w : World) : Fr b w w := ⟨Nat.le_refl _, fun _ _ _ => rfl⟩
theorem Fr.trans {b : Nat} {w w' w'' : World} (h : Fr b w w') (k : Fr b w' w'') : Fr b w w'' :=
  ⟨Nat.le_trans h.size k.size, fun i h1 h2 => (k.block i h1 (Nat.lt_of_lt_of_le h2 h.size)).trans (h.block i h1 h2)⟩
theorem Fr.of {b : Nat} {w w' : World} (h : Below w.heap.size w w') : Fr b w w' := ⟨h.size, fun k _ hk => h.block k hk⟩
theorem Fr.cell {b : Nat} {w w' : World} (h : Fr b w w') {a : Addr} {v : Value} (hc : w.cell? a = some v) (hb : b ≤ a.block) : w'.cell? a = some v :=
  (World.cell?_of_block (h.block a.block hb (World.block_lt_of_cell? w a hc))).trans hc
theorem Fr.mine {b : Nat} {w w' : World} (h : Fr b w w') {r : Option Addr} {n c : Nat} {xs : List Int} (m : Mine w b r n c xs) : Mine w' b r n c xs := by
  have pl := m.place.out
  refine ⟨⟨m.ints.len, m.ints.ncap, m.ints.small, m.ints.capm, fun i hi => ?_, m.ints.wf, m.ints.nilc⟩, fun hm g off e => ⟨(pl hm g off e).1, Nat.lt_of_lt_of_le (pl hm g off e).2 h.size⟩, fun i hi g off e => ?_⟩
  · obtain ⟨g, off, e, hl, hc⟩ := m.ints.at hi
    exact ⟨g, off, e, Nat.lt_of_lt_of_le hl h.size, (World.cell?_of_block (h.block g (pl (by omega) g off e).1 hl)).trans hc⟩
  · have hl := pl (by omega) g off e
    exact (World.frozen?_of_block (h.block g hl.1 hl.2)).trans (m.free.out i hi g off e)
theorem Fr.b3 {b : Nat} {w w' : World} (h : Fr b w w') {g : Nat} {x0 x1 x2 : Value} (m : B3 w g x0 x1 x2) (hb : b ≤ g) : B3 w' g x0 x1 x2 :=
  ⟨h.cell m.c0 hb, h.cell m.c1 hb, h.cell m.c2 hb⟩
theorem Fr.grown {b : Nat} {w w' : World} {row : Option Nat} (hg : w.grownBy w' row) (h : ∀ g, row = some g → g < b) : Fr b w w' :=
  ⟨hg.size, fun k hb hk => hg.block k hk (fun e => by have := h k e.symm; omega)⟩

/-- Three rows in blocks of their own, from block B on. -/
structure Trio (w : World) (B : Nat) (v1 : Value) (n1 : Nat) (xs1 : List Int) (v2 : Value) (n2 : Nat) (xs2 : List Int) (v3 : Value) (n3 : Nat) (zs : List Int) : Prop where
  duo : Duo w B v1 n1 xs1 v2 n2 xs2
  own3 : w.ownsRow B 86 3 v3 n3 (ivs zs)
  j1 : ∀ g, v3.ownBlock = some g → v1.ownBlock ≠ some g
  j2 : ∀ g, v3.ownBlock = some g → v2.ownBlock ≠ some g
variable {w w' : World} {B n1 n2 n3 : Nat} {v1 v2 v3 v' : Value} {xs1 xs2 zs : List Int}
theorem Trio.below (h : Trio w B v1 n1 xs1 v2 n2 xs2 v3 n3 zs) (hb : Below w.heap.size w w') : Trio w' B v1 n1 xs1 v2 n2 xs2 v3 n3 zs :=
  ⟨h.duo.below hb, ownsRow_below h.own3 hb, h.j1, h.j2⟩
theorem Trio.swap (h : Trio w B v1 n1 xs1 v2 n2 xs2 v3 n3 zs) : Trio w B v2 n2 xs2 v1 n1 xs1 v3 n3 zs := ⟨h.duo.swap, h.own3, h.j2, h.j1⟩
theorem Trio.lt1 (h : Trio w B v1 n1 xs1 v2 n2 xs2 v3 n3 zs) : ∀ g, v1.ownBlock = some g → g < w.heap.size := fun g hg => (ownLt h.duo.own1 g hg).2
theorem Trio.lt2 (h : Trio w B v1 n1 xs1 v2 n2 xs2 v3 n3 zs) : ∀ g, v2.ownBlock = some g → g < w.heap.size := fun g hg => (ownLt h.duo.own2 g hg).2
theorem Trio.lt3 (h : Trio w B v1 n1 xs1 v2 n2 xs2 v3 n3 zs) : ∀ g, v3.ownBlock = some g → g < w.heap.size := fun g hg => (ownLt h.own3 g hg).2
theorem Trio.of (hD : Duo w B v1 n1 xs1 v2 n2 xs2) : Trio w B v1 n1 xs1 v2 n2 xs2 (.slice none 0 0) 0 [] :=
  ⟨hD, World.ownsRow_nil _ _ _ _, fun g h1 => (by cases h1), fun g h1 => (by cases h1)⟩
theorem Trio.lit (hD : Duo w B v1 n1 xs1 v2 n2 xs2) : Trio (w.alloc (.cells #[] 86)) B v1 n1 xs1 v2 n2 xs2 (.slice (some ⟨w.heap.size, 0, none⟩) 0 0) 0 [] := by
  have h1 : (w.alloc (.cells #[] 86)).ownsRow B 86 3 (.slice (some ⟨w.heap.size, 0, none⟩) 0 0) 0 (ivs []) := World.ownsRow_lit w #[] 0 hD.base (by decide) rfl
  refine ⟨hD.below (bel_alloc _ _), h1, fun g e1 e2 => ?_, fun g e1 e2 => ?_⟩
  · have := (ownLt hD.own1 g e2).2; simp [Value.ownBlock] at e1; omega
  · have := (ownLt hD.own2 g e2).2; simp [Value.ownBlock] at e1; omega
theorem Duo.rebase {B' : Nat} (h : Duo w B v1 n1 xs1 v2 n2 xs2) (hB : B' ≤ B) : Duo w B' v1 n1 xs1 v2 n2 xs2 :=
  ⟨ownsRow_base h.own1 hB, ownsRow_base h.own2 hB, h.dj, Nat.le_trans hB h.base⟩
theorem Trio.rebase {B' : Nat} (h : Trio w B v1 n1 xs1 v2 n2 xs2 v3 n3 zs) (hB : B' ≤ B) : Trio w B' v1 n1 xs1 v2 n2 xs2 v3 n3 zs :=
  ⟨h.duo.rebase hB, ownsRow_base h.own3 hB, h.j1, h.j2⟩
theorem Trio.grow {u : Int} (h : Trio w B v1 n1 xs1 v2 n2 xs2 v3 n3 zs) (k1 : w'.ownsRow B 3 1 v' (n1 + 1) (ivs xs1 ++ [.int .i64 u])) (k2 : w.grownBy w' v1.ownBlock) (k3 : v'.ownBlock = v1.ownBlock ∨ v'.ownBlock = some w.heap.size) :
    Trio w' B v' (n1 + 1) (xs1 ++ [u]) v2 n2 xs2 v3 n3 zs := by
  refine ⟨h.duo.grow k1 k2 k3, ownsRow_keptNe h.own3 k2 (fun g hg e => h.j1 g hg e), fun g e1 e2 => ?_, h.j2⟩
  rcases k3 with k | k
  · exact h.j1 g e1 (by rw [← k]; exact e2)
  · rw [k] at e2
    simp only [Option.some.injEq] at e2
    have := h.lt3 g e1
    omega
theorem ivs_snoc3 (zs : List Int) (x y z : Int) : ivs (zs ++ [x, y, z]) = ivs zs ++ [.int .i64 x, .int .i64 y, .int .i64 z] := by simp [ivs]
theorem Trio.grow3 {x y z : Int} (h : Trio w B v1 n1 xs1 v2 n2 xs2 v3 n3 zs) (k1 : w'.ownsRow B 86 3 v' (n3 + 1) (ivs zs ++ [.int .i64 x, .int .i64 y, .int .i64 z])) (k2 : w.grownBy w' v3.ownBlock) (k3 : v'.ownBlock = v3.ownBlock ∨ v'.ownBlock = some w.heap.size) :
    Trio w' B v1 n1 xs1 v2 n2 xs2 v' (n3 + 1) (zs ++ [x, y, z]) := by
  refine ⟨⟨ownsRow_keptNe h.duo.own1 k2 (fun g hg e => h.j1 g e hg), ownsRow_keptNe h.duo.own2 k2 (fun g hg e => h.j2 g e hg), h.duo.dj, Nat.le_trans h.duo.base k2.size⟩, by rw [ivs_snoc3]; exact k1, fun g e1 e2 => ?_, fun g e1 e2 => ?_⟩
  · rcases k3 with k | k
    · exact h.j1 g (by rw [← k]; exact e1) e2
    · rw [k] at e1
      simp only [Option.some.injEq] at e1
      have := h.lt1 g e2
      omega
  · rcases k3 with k | k
    · exact h.j2 g (by rw [← k]; exact e1) e2
    · rw [k] at e1
      simp only [Option.some.injEq] at e1
      have := h.lt2 g e2
      omega
/-- append to the first row, in a plain region. -/
theorem wp_trio {ops : Array Oper} {rest : List Oper} {o : Oper} {a : Act} {Q : Exit → Act → World → Prop} (w : World) (v1 : Value) (B n1 : Nat) (xs1 : List Int) (v2 : Value) (n2 : Nat) (xs2 : List Int) (v3 : Value) (n3 : Nat) (zs : List Int) (u : Int) (b : Nat) (t : TypeId) (m : Nat)
    (hg : o.guard = none) (s x : Operand) (ho : o.op = .call { callee := .builtin .append, args := #[s, x], argTypes := #[23, 23] })
    (hs : a.eval s = v1) (hx : a.eval x = .slice (some ⟨m, 0, none⟩) 1 1) (hm : m = w.heap.size) (hD : Trio w B v1 n1 xs1 v2 n2 xs2 v3 n3 zs) (hn : n1 ≤ 1000000000000) (hlt : ∀ g, v1.ownBlock = some g → g < b)
    (h : ∀ v' w', Trio w' B v' (n1 + 1) (xs1 ++ [u]) v2 n2 xs2 v3 n3 zs → Below B w w' → Fr b w w' → wpList Try.prog ops Q rest (a.put o.dst v') w') :
    wpList Try.prog ops Q (o :: rest) a (w.alloc (.cells #[.int .i64 u] t)) := by
  obtain ⟨i0, hi, hz0, hz1, hz2⟩ := info_parts info_int
  subst hm
  have hD' := hD.below (bel_alloc w (.cells #[.int .i64 u] t))
  refine wpList_append_own_at _ hg s x 23 ho B 3 i0 (.int .i64 0) 1 8 Try.underlying23 hi hz0 hz1 hz2 rfl (by decide) v1 n1 (ivs xs1) hs hD'.duo.own1 ⟨w.heap.size, 0, none⟩ 1 1 [.int .i64 u] hx rfl ?_ ?_ (by unfold maxLen; omega) (by omega) hD'.duo.base ?_
  · intro j c hj
    match j, hj with
    | 0, hj =>
      simp at hj; subst hj
      simp [Addr.add, World.cell?_alloc_at]
  · intro c hc; simp at hc; subst hc; rfl
  · intro v' w' k1 k2 _ k3
    exact h v' w' (hD'.grow k1 k2 k3) (((Below.refl B w).alloc hD.duo.base _).trans (below_grown_own hD'.duo.own1 k2 hD'.duo.base)) ((Fr.of (bel_alloc _ _)).trans (Fr.grown k2 hlt))
theorem wp_trio2 {ops : Array Oper} {rest : List Oper} {o : Oper} {a : Act} {Q : Exit → Act → World → Prop} (w : World) (v2 : Value) (B n1 : Nat) (xs1 : List Int) (v1 : Value) (n2 : Nat) (xs2 : List Int) (v3 : Value) (n3 : Nat) (zs : List Int) (u : Int) (b : Nat) (t : TypeId) (m : Nat)
    (hg : o.guard = none) (s x : Operand) (ho : o.op = .call { callee := .builtin .append, args := #[s, x], argTypes := #[23, 23] })
    (hs : a.eval s = v2) (hx : a.eval x = .slice (some ⟨m, 0, none⟩) 1 1) (hm : m = w.heap.size) (hD : Trio w B v1 n1 xs1 v2 n2 xs2 v3 n3 zs) (hn : n2 ≤ 1000000000000) (hlt : ∀ g, v2.ownBlock = some g → g < b)
    (h : ∀ v' w', Trio w' B v1 n1 xs1 v' (n2 + 1) (xs2 ++ [u]) v3 n3 zs → Below B w w' → Fr b w w' → wpList Try.prog ops Q rest (a.put o.dst v') w') :
    wpList Try.prog ops Q (o :: rest) a (w.alloc (.cells #[.int .i64 u] t)) :=
  wp_trio w v2 B n2 xs2 v1 n1 xs1 v3 n3 zs u b t m hg s x ho hs hx hm hD.swap hn hlt (fun v' w' hd hb hf => h v' w' hd.swap hb hf)
theorem wp_trio3 {ops : Array Oper} {rest : List Oper} {o : Oper} {a : Act} {Q : Exit → Act → World → Prop} (w : World) (v3 : Value) (B n1 : Nat) (xs1 : List Int) (v1 : Value) (n2 : Nat) (xs2 : List Int) (v2 : Value) (n3 : Nat) (zs : List Int) (p q r : Int) (b : Nat) (t : TypeId) (m : Nat)
    (hg : o.guard = none) (s x : Operand) (ho : o.op = .call { callee := .builtin .append, args := #[s, x], argTypes := #[47, 47] })
    (hs : a.eval s = v3) (hx : a.eval x = .slice (some ⟨m, 0, none⟩) 1 1) (hm : m = w.heap.size) (hD : Trio w B v1 n1 xs1 v2 n2 xs2 v3 n3 zs) (hn : n3 ≤ 100000000) (hlt : ∀ g, v3.ownBlock = some g → g < b)
    (h : ∀ v' w', Trio w' B v1 n1 xs1 v2 n2 xs2 v' (n3 + 1) (zs ++ [p, q, r]) → Below B w w' → Fr b w w' → wpList Try.prog ops Q rest (a.put o.dst v') w') :
    wpList Try.prog ops Q (o :: rest) a (w.alloc (.cells #[.int .i64 p, .int .i64 q, .int .i64 r] t)) := by
  obtain ⟨i0, hi, hz0, hz1, hz2⟩ := info_parts info_Op
  subst hm
  have hD' := hD.below (bel_alloc w (.cells #[.int .i64 p, .int .i64 q, .int .i64 r] t))
  refine wpList_append_own_at _ hg s x 47 ho B 86 i0 (.agg #[.int .i64 0, .int .i64 0, .int .i64 0]) 3 24 Try.underlying47 hi hz0 hz1 hz2 rfl (by decide) v3 n3 (ivs zs) hs hD'.own3 ⟨w.heap.size, 0, none⟩ 1 1 [.int .i64 p, .int .i64 q, .int .i64 r] hx rfl ?_ ?_ (by unfold maxLen; omega) (by omega) hD'.duo.base ?_
  · intro j c hj
    match j, hj with
    | 0, hj => simp at hj; subst hj; simp [Addr.add, World.cell?_alloc_at]
    | 1, hj => simp at hj; subst hj; simp [Addr.add, World.cell?_alloc_at]
    | 2, hj => simp at hj; subst hj; simp [Addr.add, World.cell?_alloc_at]
  · intro c hc; simp at hc; rcases hc with rfl | rfl | rfl <;> rfl
  · intro v' w' k1 k2 _ k3
    exact h v' w' (hD'.grow3 k1 k2 k3) (((Below.refl B w).alloc hD.duo.base _).trans (below_grown_own hD'.own3 k2 hD'.duo.base)) ((Fr.of (bel_alloc _ _)).trans (Fr.grown k2 hlt))
/-- A row that is a slice of ints. -/
theorem ints_of_own {E : TypeId} {a : Option Addr} {n c : Nat} {xs : List Int} (h : w.ownsRow B E 1 (.slice a n c) n (ivs xs)) (hs : n ≤ 17592186044416) (hf : ∀ x ∈ xs, Fits x) : Ints w a n c xs := by
  obtain ⟨a', c', e, m⟩ := Mine.of h hs hf
  simp only [Value.slice.injEq] at e
  obtain ⟨rfl, _, rfl⟩ := e
  exact m.ints

/-- The shares of all wires and what is opened, after a gate. -/
def runStep (key : Int) (k : Nat) (K A B : Int) (s : List Int × List Int × List Int) : List Int × List Int × List Int :=
  if K = 1 then
    let n : Int := ((s.2.2.length / 3 : Nat) : Int)
    let d := xr (xr (xr (nth s.1 A.toNat) (nth s.2.1 A.toNat)) (nth (btA key n) 0)) (nth (btB key n) 0)
    let e := xr (xr (xr (nth s.1 B.toNat) (nth s.2.1 B.toNat)) (nth (btA key n) 1)) (nth (btB key n) 1)
    (s.1 ++ [andS 0 (nth (btA key n) 0) (nth (btA key n) 1) (nth (btA key n) 2) d e], s.2.1 ++ [andS 1 (nth (btB key n) 0) (nth (btB key n) 1) (nth (btB key n) 2) d e], s.2.2 ++ [(k : Int), d, e])
  else (s.1 ++ [locS 0 K A B s.1], s.2.1 ++ [locS 1 K A B s.2.1], s.2.2)
def runS (key : Int) (gs us vs : List Int) : Nat → List Int × List Int × List Int
  | 0 => (us, vs, [])
  | k + 1 => runStep key k (fld 3 gs k 0) (fld 3 gs k 1) (fld 3 gs k 2) (runS key gs us vs k)
def bit1 (l : List Int) : Prop := ∀ x ∈ l, 0 ≤ x ∧ x ≤ 1
theorem bit1.snoc {l : List Int} {x : Int} (h : bit1 l) (hx : 0 ≤ x ∧ x ≤ 1) : bit1 (l ++ [x]) := by
  intro y hy
  rcases List.mem_append.1 hy with h1 | h1
  · exact h y h1
  · simp only [List.mem_singleton] at h1; subst h1; exact hx
theorem bit1.nth {l : List Int} {n : Nat} (h : bit1 l) (hn : l.length = n) : bitsL0 l n := fun i hi => h _ (nth_mem (by omega))
theorem bit1.fit {l : List Int} (h : bit1 l) : ∀ x ∈ l, Fits x := fun x hx => by have := h x hx; unfold Fits; omega
structure RunOk (m k c : Nat) (u v o : List Int) : Prop where
  lu : u.length = m + k
  lv : v.length = m + k
  bu : bit1 u
  bv : bit1 v
  lo : o.length = c * 3
  ck : c ≤ k
  fo : ∀ x ∈ o, -1 ≤ x ∧ x ≤ 1000000
theorem RunOk.local {m k c : Nat} {u v o : List Int} (h : RunOk m k c u v o) {K A B : Int} : RunOk m (k + 1) c (u ++ [locS 0 K A B u]) (v ++ [locS 1 K A B v]) o :=
  ⟨by simp [h.lu]; omega, by simp [h.lv]; omega, h.bu.snoc (locS_bd (.inl rfl)), h.bv.snoc (locS_bd (.inr rfl)), h.lo, by have := h.ck; omega, h.fo⟩
theorem RunOk.and {m k c : Nat} {u v o : List Int} (h : RunOk m k c u v o) (hk : k ≤ 1000) {x1 x2 x3 y1 y2 y3 d e : Int} (hd : 0 ≤ d ∧ d ≤ 1) (he : 0 ≤ e ∧ e ≤ 1) : RunOk m (k + 1) (c + 1) (u ++ [andS 0 x1 x2 x3 d e]) (v ++ [andS 1 y1 y2 y3 d e]) (o ++ [(k : Int), d, e]) :=
  ⟨by simp [h.lu]; omega, by simp [h.lv]; omega, h.bu.snoc andS_bd, h.bv.snoc andS_bd, by simp [h.lo]; omega, by have := h.ck; omega, by
    intro x hx
    rcases List.mem_append.1 hx with h1 | h1
    · exact h.fo x h1
    · simp only [List.mem_cons, List.not_mem_nil, or_false] at h1
      rcases h1 with rfl | rfl | rfl <;> omega⟩
theorem runS_ok (key : Int) {gs us vs : List Int} {m : Nat} (hu : us.length = m) (hv : vs.length = m) (bu : bit1 us) (bv : bit1 vs) : ∀ k : Nat, k ≤ 1000 → ∃ c, RunOk m k c (runS key gs us vs k).1 (runS key gs us vs k).2.1 (runS key gs us vs k).2.2
  | 0, _ => ⟨0, by simp [runS, hu], by simp [runS, hv], bu, bv, rfl, Nat.le_refl _, by simp [runS]⟩
  | k + 1, hk => by
    obtain ⟨c, h⟩ := runS_ok key (gs := gs) hu hv bu bv k (by omega)
    show ∃ c, RunOk m (k + 1) c (runStep key k _ _ _ _).1 (runStep key k _ _ _ _).2.1 (runStep key k _ _ _ _).2.2
    unfold runStep
    split
    · exact ⟨c + 1, h.and (by omega) (xr_bd _ _) (xr_bd _ _)⟩
    · exact ⟨c, h.local⟩
end Go.Proofs.Ytmkcanbaleecfaa
