/-
  Plain definitions and lemmas on integers and lists that the contracts of this seat speak of; nothing of the program stands here.
-/
import Derived.WalkKit
import Derived.Lib.Hide
import Derived.Deep.QuietTactic
import Derived.BigQuiet
import Derived.WalkSmall
namespace Go.Proofs.Ytfichpppjpgahaa
open Go.RowKit
set_option linter.unusedVariables false
set_option linter.unusedSimpArgs false

/-- The product of two numbers that are not negative. -/
theorem mul_bd {a b : Int} (A B : Int) (ha : 0 ≤ a) (hA : a ≤ A) (hb : 0 ≤ b) (hB : b ≤ B) : 0 ≤ a * b ∧ a * b ≤ A * B :=
  ⟨Int.mul_nonneg ha hb, Int.mul_le_mul hA hB hb (by omega)⟩

/-- A prime up to 251, as the program asks it. -/
def prB (p : Int) : Bool := decide (2 ≤ p ∧ p ≤ 251 ∧ ∀ d : Nat, d < 16 → 2 ≤ d → (d : Int) * d ≤ p → p % d ≠ 0)
theorem prB_lo {p : Int} (h : prB p = true) : 2 ≤ p ∧ p ≤ 251 := by
  have := of_decide_eq_true h
  exact ⟨this.1, this.2.1⟩
theorem prB_no {p : Int} (h : ¬ (2 ≤ p ∧ p ≤ 251)) : prB p = false := by
  refine decide_eq_false fun k => h ⟨k.1, k.2.1⟩
theorem sq_le {d p : Int} (h0 : 0 ≤ d) (h : d * d ≤ p) (hp : p ≤ 251) : d ≤ 15 := by
  rcases Int.lt_or_le 15 d with k | k
  · have : 16 * 16 ≤ d * d := Int.mul_le_mul (by omega) (by omega) (by omega) h0
    omega
  · exact k
theorem sq_lt {d p : Int} (h1 : 16 ≤ d) (hp : p ≤ 251) : p < d * d := by
  have : 16 * 16 ≤ d * d := Int.mul_le_mul (by omega) (by omega) (by omega) (by omega)
  omega
theorem prB_div {p : Int} {d : Nat} (hd : 2 ≤ d) (h : (d : Int) * d ≤ p) (hp : p ≤ 251) (hm : p % d = 0) : prB p = false := by
  refine decide_eq_false fun k => k.2.2 d ?_ hd h hm
  have := sq_le (Int.natCast_nonneg d) h hp
  omega
theorem prB_yes {p : Int} (h1 : 2 ≤ p) (hp : p ≤ 251) (n : Nat) (hn : p < (n : Int) * n) (h : ∀ d : Nat, 2 ≤ d → d < n → p % d ≠ 0) : prB p = true := by
  refine decide_eq_true ⟨h1, hp, fun d _ h2 hd => h d h2 ?_⟩
  rcases Nat.lt_or_ge d n with k | k
  · exact k
  · have : (n : Int) * n ≤ (d : Int) * d := Int.mul_le_mul (by omega) (by omega) (by omega) (by omega)
    omega

/-- In a range, as a Bool. -/
def inB (n lo hi : Int) : Bool := decide (lo ≤ n ∧ n ≤ hi)
theorem inB_iff {n lo hi : Int} : inB n lo hi = true ↔ lo ≤ n ∧ n ≤ hi := decide_eq_true_iff
theorem inB_no {n lo hi : Int} : inB n lo hi = false ↔ ¬ (lo ≤ n ∧ n ≤ hi) := decide_eq_false_iff_not
/-- An element of the field. -/
def elB (p a : Int) : Bool := prB p && inB a 0 (p - 1)

theorem elB_p {p a : Int} (h : elB p a = true) : 2 ≤ p ∧ p ≤ 251 := by
  unfold elB at h; rw [Bool.and_eq_true] at h; exact prB_lo h.1
theorem elB_iff {p a : Int} : elB p a = true ↔ prB p = true ∧ 0 ≤ a ∧ a ≤ p - 1 := by unfold elB; rw [Bool.and_eq_true, inB_iff]

/-! ### Residues -/
theorem tmod_bd {n p : Int} (hp : 1 ≤ p) : -p < n.tmod p ∧ n.tmod p < p := by
  have h1 := Int.lt_tmod_of_pos n (show 0 < p by omega)
  have h2 := Int.tmod_lt_of_pos n (show 0 < p by omega)
  exact ⟨h1, h2⟩
theorem tmod_add {n p : Int} (hp : 1 ≤ p) : (n.tmod p + p) % p = n % p := by
  rw [Int.add_emod_right, Int.tmod_def, Int.sub_mul_emod_self_left]
theorem emod_bd {n p : Int} (hp : 1 ≤ p) : 0 ≤ n % p ∧ n % p < p := ⟨Int.emod_nonneg _ (by omega), Int.emod_lt_of_pos _ (by omega)⟩

theorem emod_eq_iff {a t p : Int} (h0 : 0 ≤ t) (h1 : t < p) : a % p = t ↔ (a - t) % p = 0 := by
  rw [← Int.emod_eq_emod_iff_emod_sub_eq_zero, Int.emod_eq_of_lt h0 h1]

/-- A tag that holds. -/
def tagOk (p d k v t : Int) : Bool := decide ((v * d + k - t) % p = 0)

/-! ### Slices of numbers -/
/-- The i-th number. -/
def nth (xs : List Int) (i : Nat) : Int := xs.getD i 0
theorem nth_get {xs : List Int} {i : Nat} (h : i < xs.length) : nth xs i = xs[i] := by simp [nth, h]
theorem nth_mem {xs : List Int} {i : Nat} (h : i < xs.length) : nth xs i ∈ xs := by rw [nth_get h]; exact List.getElem_mem h
theorem mem_nth {xs : List Int} {x : Int} (h : x ∈ xs) : ∃ i, i < xs.length ∧ nth xs i = x := by
  obtain ⟨i, hi, e⟩ := List.mem_iff_getElem.1 h
  exact ⟨i, hi, by rw [nth_get hi]; exact e⟩
theorem all_iff {xs : List Int} {p : Int → Bool} : xs.all p = true ↔ ∀ i, i < xs.length → p (nth xs i) = true := by
  rw [List.all_eq_true]
  refine ⟨fun h i hi => h _ (nth_mem hi), fun h x hx => ?_⟩
  obtain ⟨i, hi, rfl⟩ := mem_nth hx
  exact h i hi
theorem all_no {xs : List Int} {p : Int → Bool} {i : Nat} (hi : i < xs.length) (h : p (nth xs i) = false) : xs.all p = false := by
  cases k : xs.all p with
  | false => rfl
  | true => rw [all_iff.1 k i hi] at h; cases h
/-- All numbers are in a range. -/
def allIn (xs : List Int) (lo hi : Int) : Bool := xs.all fun x => inB x lo hi
theorem allIn_no {xs : List Int} {lo hi : Int} {i : Nat} (hi' : i < xs.length) (h : inB (nth xs i) lo hi = false) : allIn xs lo hi = false := all_no hi' h
theorem allIn_iff {xs : List Int} {lo hi : Int} : allIn xs lo hi = true ↔ ∀ i, i < xs.length → inB (nth xs i) lo hi = true := all_iff
theorem allIn_nil {lo hi : Int} : allIn [] lo hi = true := rfl
theorem allIn_cons {x : Int} {xs : List Int} {lo hi : Int} : allIn (x :: xs) lo hi = (inB x lo hi && allIn xs lo hi) := rfl
/-- All are elements of the field. -/
def elsB (p : Int) (xs : List Int) : Bool := prB p && allIn xs 0 (p - 1)
theorem elsB_p {p : Int} {xs : List Int} (h : elsB p xs = true) : 2 ≤ p ∧ p ≤ 251 := by
  unfold elsB at h; rw [Bool.and_eq_true] at h; exact prB_lo h.1
theorem elsB_nth {p : Int} {xs : List Int} (h : elsB p xs = true) {i : Nat} (hi : i < xs.length) : 0 ≤ nth xs i ∧ nth xs i ≤ p - 1 := by
  unfold elsB at h; rw [Bool.and_eq_true] at h; exact inB_iff.1 (allIn_iff.1 h.2 i hi)
theorem elsB_cons {p x : Int} {xs : List Int} : elsB p (x :: xs) = (elB p x && elsB p xs) := by
  show (prB p && (inB x 0 (p - 1) && allIn xs 0 (p - 1))) = ((prB p && inB x 0 (p-1)) && (prB p && allIn xs 0 (p - 1)))
  cases prB p <;> simp
theorem elsB_nil {p : Int} : elsB p [] = prB p := by
  show (prB p && true) = _
  simp
theorem elB_and {p x : Int} : (elB p x && prB p) = elB p x := by
  unfold elB; cases prB p <;> simp
/-- The shifted key. -/
def semShiftKey (p d key k : Int) : Int × Bool := if elsB p [d, key, k] then ((key - k * d) % p, true) else (0, false)
theorem any_no {xs : List Int} {p : Int → Bool} (h : ∀ i, i < xs.length → p (nth xs i) = false) : xs.any p = false := by
  rw [List.any_eq_false]
  intro x hx
  obtain ⟨i, hi, rfl⟩ := mem_nth hx
  rw [h i hi]; decide
theorem any_yes {xs : List Int} {p : Int → Bool} {i : Nat} (hi : i < xs.length) (h : p (nth xs i) = true) : xs.any p = true := List.any_eq_true.2 ⟨_, nth_mem hi, h⟩

/-- A number that an int holds. -/
def Fits (x : Int) : Prop := -9223372036854775808 ≤ x ∧ x ≤ 9223372036854775807

theorem fits_wf {a : Int} (h : (Lit.int .i64 a).wf = true) : Fits a := by
  simp [Lit.wf, IntKind.min, IntKind.max, IntKind.bits, IntKind.signed] at h
  unfold Fits; omega

/-- What a slice of ints holds in a world: n numbers, within the reach. -/
structure Ints (w : World) (a : Option Addr) (n cap : Nat) (xs : List Int) : Prop where
  len : Hid (xs.length = n)
  ncap : n ≤ cap
  small : n ≤ 17592186044416
  capm : cap ≤ 9223372036854775807
  cell : Hid (∀ i, i < n → ∃ b off, a = some ⟨b, off, none⟩ ∧ b < w.heap.size ∧ w.cell? ⟨b, off + i, none⟩ = some (.int .i64 (nth xs i)))
  wf : Hid (∀ x ∈ xs, Fits x)
  nilc : Hid (a = none → cap = 0)

theorem lt_of_cell {w : World} {a : Addr} {v : Value} (h : w.cell? a = some v) : a.block < w.heap.size := by
  unfold World.cell? at h
  rcases Nat.lt_or_ge a.block w.heap.size with k | k
  · exact k
  · rw [Array.getElem?_eq_none k] at h; cases h

/-- It holds the same behind whatever leaves the old blocks alone. -/
theorem Ints.below {w w' : World} {a : Option Addr} {n cap : Nat} {xs : List Int} (h : Ints w a n cap xs) (hb : Below w.heap.size w w') : Ints w' a n cap xs := by
  refine ⟨h.len, h.ncap, h.small, h.capm, fun i hi => ?_, h.wf, h.nilc⟩
  obtain ⟨b, off, e, hl, hc⟩ := h.cell.out i hi
  exact ⟨b, off, e, Nat.lt_of_lt_of_le hl hb.size, (hb.cell (p := ⟨b, off + i, none⟩) hl).trans hc⟩
theorem Ints.alloc {w : World} {a : Option Addr} {n cap : Nat} {xs : List Int} (h : Ints w a n cap xs) (o : Obj) : Ints (w.alloc o) a n cap xs :=
  h.below ((Below.refl _ _).alloc (Nat.le_refl _) o)
theorem Ints.at {w : World} {a : Option Addr} {n cap : Nat} {xs : List Int} (h : Ints w a n cap xs) {i : Nat} (hi : i < n) :
    ∃ b off, a = some ⟨b, off, none⟩ ∧ b < w.heap.size ∧ w.cell? ⟨b, off + i, none⟩ = some (.int .i64 (nth xs i)) := h.cell.out i hi
theorem Ints.fit {w : World} {a : Option Addr} {n cap : Nat} {xs : List Int} (h : Ints w a n cap xs) {i : Nat} (hi : i < n) : Fits (nth xs i) :=
  h.wf.out _ (nth_mem (by rw [h.len.out]; exact hi))
theorem Ints.all_iff {w : World} {a : Option Addr} {n cap : Nat} {xs : List Int} (h : Ints w a n cap xs) {p : Int → Bool} :
    xs.all p = true ↔ ∀ i, i < n → p (nth xs i) = true := by rw [Proofs.Ytfichpppjpgahaa.all_iff, h.len.out]

theorem Ints.lit {w : World} {m : Nat} (xs : List Int) (vs : Array Value) (t : TypeId) (hm : m = w.heap.size) (hv : vs = (xs.map (Value.int .i64)).toArray) (hl : xs.length ≤ 1000) (hf : ∀ x ∈ xs, Fits x) :
    Ints (w.alloc (.cells vs t)) (some ⟨m, 0, none⟩) xs.length xs.length xs := by
  subst hm hv
  refine ⟨rfl, Nat.le_refl _, by omega, by omega, fun i hi => ⟨_, 0, rfl, by simp, ?_⟩, hf, fun e => by cases e⟩
  rw [World.cell?_alloc_at _ _ _ _ rfl]
  simp [nth, hi]
theorem Ints.lit1 {w : World} {m : Nat} {t : TypeId} {a : Int} (hm : m = w.heap.size) (ha : Fits a) :
    Ints (w.alloc (.cells #[.int .i64 a] t)) (some ⟨m, 0, none⟩) 1 1 [a] :=
  Ints.lit [a] _ t hm rfl (by simp) (by simp [ha])
theorem Ints.lit2 {w : World} {m : Nat} {t : TypeId} {a b : Int} (hm : m = w.heap.size) (ha : Fits a) (hb : Fits b) :
    Ints (w.alloc (.cells #[.int .i64 a, .int .i64 b] t)) (some ⟨m, 0, none⟩) 2 2 [a, b] :=
  Ints.lit [a, b] _ t hm rfl (by simp) (by simp [ha, hb])
theorem Ints.lit3 {w : World} {m : Nat} {t : TypeId} {a b c : Int} (hm : m = w.heap.size) (ha : Fits a) (hb : Fits b) (hc : Fits c) :
    Ints (w.alloc (.cells #[.int .i64 a, .int .i64 b, .int .i64 c] t)) (some ⟨m, 0, none⟩) 3 3 [a, b, c] :=
  Ints.lit [a, b, c] _ t hm rfl (by simp) (by simp [ha, hb, hc])
theorem Ints.lit4 {w : World} {m : Nat} {t : TypeId} {a b c d : Int} (hm : m = w.heap.size) (ha : Fits a) (hb : Fits b) (hc : Fits c) (hd : Fits d) :
    Ints (w.alloc (.cells #[.int .i64 a, .int .i64 b, .int .i64 c, .int .i64 d] t)) (some ⟨m, 0, none⟩) 4 4 [a, b, c, d] :=
  Ints.lit [a, b, c, d] _ t hm rfl (by simp) (by simp [ha, hb, hc, hd])

theorem bel_trans {a b c : World} (h : Below a.heap.size a b) (k : Below b.heap.size b c) : Below a.heap.size a c := h.trans (k.mono h.size)
theorem bel_alloc (w : World) (o : Obj) : Below w.heap.size w (w.alloc o) := (Below.refl _ _).alloc (Nat.le_refl _) o
theorem bel_drewN (w : World) (n : Nat) : Below w.heap.size w (w.drewN n) := ⟨rfl, rfl, rfl, Nat.le_refl _, fun _ _ => rfl⟩
theorem bel_drew (w : World) : Below w.heap.size w w.drew := ⟨rfl, rfl, rfl, Nat.le_refl _, fun _ _ => rfl⟩
theorem bel_set {a b : World} (h : Below a.heap.size a b) {p : Addr} (hp : a.heap.size ≤ p.block) (u : Value) : Below a.heap.size a (b.setCell p u) := h.setCell hp u
/-- A box of two cells that may be written. -/
def Bx (w : World) (b : Nat) (x y : Value) : Prop := w.cell? ⟨b, 0, none⟩ = some x ∧ w.cell? ⟨b, 1, none⟩ = some y ∧ w.frozen? ⟨b, 0, none⟩ = false ∧ w.frozen? ⟨b, 1, none⟩ = false
theorem Bx.on {w w' : World} {b : Nat} {x y : Value} (h : Bx w b x y) (hb : Below w.heap.size w w') : Bx w' b x y :=
  ⟨(hb.cell (p := ⟨b, 0, none⟩) (lt_of_cell h.1)).trans h.1, (hb.cell (p := ⟨b, 1, none⟩) (lt_of_cell h.2.1)).trans h.2.1, (hb.frozen (p := ⟨b, 0, none⟩) (lt_of_cell h.1)).trans h.2.2.1, (hb.frozen (p := ⟨b, 1, none⟩) (lt_of_cell h.2.1)).trans h.2.2.2⟩
theorem Bx.new {w : World} {x y : Value} {t : TypeId} : Bx (w.alloc (.cells #[x, y] t)) w.heap.size x y :=
  ⟨World.cell?_alloc_at _ _ _ _ rfl, World.cell?_alloc_at _ _ _ _ rfl, World.frozen?_alloc_at _ _ _ _ rfl, World.frozen?_alloc_at _ _ _ _ rfl⟩
theorem boxes1 {w w' : World} {x y : Value} {t : TypeId} (hb : Below (w.alloc (.cells #[x, y] t)).heap.size (w.alloc (.cells #[x, y] t)) w') : Bx w' w.heap.size x y := Bx.new.on hb
theorem boxes2 {w w' : World} {x y x' y' : Value} {t t' : TypeId} (hb : Below ((w.alloc (.cells #[x, y] t)).alloc (.cells #[x', y'] t')).heap.size ((w.alloc (.cells #[x, y] t)).alloc (.cells #[x', y'] t')) w') :
    Bx w' w.heap.size x y ∧ Bx w' (w.heap.size + 1) x' y' :=
  ⟨(Bx.new.on (bel_alloc _ _)).on hb, (show Bx w' (w.alloc (.cells #[x, y] t)).heap.size x' y' from Bx.new.on hb) |> fun h => by simpa using h⟩
theorem boxes3 {w w' : World} {x y x' y' x'' y'' : Value} {t t' t'' : TypeId} (hb : Below (((w.alloc (.cells #[x, y] t)).alloc (.cells #[x', y'] t')).alloc (.cells #[x'', y''] t'')).heap.size (((w.alloc (.cells #[x, y] t)).alloc (.cells #[x', y'] t')).alloc (.cells #[x'', y''] t'')) w') :
    Bx w' w.heap.size x y ∧ Bx w' (w.heap.size + 1) x' y' ∧ Bx w' (w.heap.size + 1 + 1) x'' y'' := by
  obtain ⟨h1, h2⟩ := boxes2 (bel_trans (bel_alloc ((w.alloc (.cells #[x, y] t)).alloc (.cells #[x', y'] t')) (.cells #[x'', y''] t'')) hb)
  refine ⟨h1, h2, ?_⟩
  have h3 : Bx w' ((w.alloc (.cells #[x, y] t)).alloc (.cells #[x', y'] t')).heap.size x'' y'' := Bx.new.on hb
  simpa using h3

theorem four_on {w w' : World} {b b' : Nat} {x y x' y' : Value} (h : w.cell? ⟨b, 0, none⟩ = some x ∧ w.cell? ⟨b, 1, none⟩ = some y ∧ w.cell? ⟨b', 0, none⟩ = some x' ∧ w.cell? ⟨b', 1, none⟩ = some y') (hb : Below w.heap.size w w') :
    w'.cell? ⟨b, 0, none⟩ = some x ∧ w'.cell? ⟨b, 1, none⟩ = some y ∧ w'.cell? ⟨b', 0, none⟩ = some x' ∧ w'.cell? ⟨b', 1, none⟩ = some y' :=
  ⟨(hb.cell (p := ⟨b, 0, none⟩) (lt_of_cell h.1)).trans h.1, (hb.cell (p := ⟨b, 1, none⟩) (lt_of_cell h.2.1)).trans h.2.1, (hb.cell (p := ⟨b', 0, none⟩) (lt_of_cell h.2.2.1)).trans h.2.2.1, (hb.cell (p := ⟨b', 1, none⟩) (lt_of_cell h.2.2.2)).trans h.2.2.2⟩
/-- A box of two cells, just made, behind a call; and once more. -/
theorem two_cells {w w' : World} {x y : Value} {t : TypeId} (hb : Below (w.alloc (.cells #[x, y] t)).heap.size (w.alloc (.cells #[x, y] t)) w') :
    w'.cell? ⟨w.heap.size, 0, none⟩ = some x ∧ w'.cell? ⟨w.heap.size, 1, none⟩ = some y :=
  ⟨(hb.cell (p := ⟨w.heap.size, 0, none⟩) (by simp)).trans (World.cell?_alloc_at _ _ _ _ rfl), (hb.cell (p := ⟨w.heap.size, 1, none⟩) (by simp)).trans (World.cell?_alloc_at _ _ _ _ rfl)⟩
theorem cell_on {w w' : World} {b o : Nat} {x : Value} (h : w.cell? ⟨b, o, none⟩ = some x) (hb : Below w.heap.size w w') : w'.cell? ⟨b, o, none⟩ = some x :=
  (hb.cell (p := ⟨b, o, none⟩) (lt_of_cell h)).trans h
theorem two_on {w w' : World} {b : Nat} {x y : Value} (h : w.cell? ⟨b, 0, none⟩ = some x ∧ w.cell? ⟨b, 1, none⟩ = some y) (hb : Below w.heap.size w w') : w'.cell? ⟨b, 0, none⟩ = some x ∧ w'.cell? ⟨b, 1, none⟩ = some y :=
  ⟨cell_on h.1 hb, cell_on h.2 hb⟩
/-- What is there stays there: as rules for the walk (the side condition is paid by the cell's own fact). -/
theorem ccell {W w1 : World} (hb : Below W.heap.size W w1) : (∀ a, (W.cell? a).isSome = true → w1.cell? a = W.cell? a) ∧ (∀ a, (W.cell? a).isSome = true → w1.frozen? a = W.frozen? a) := by
  have lt : ∀ a, (W.cell? a).isSome = true → a.block < W.heap.size := fun a h => by
    obtain ⟨v, hv⟩ := Option.isSome_iff_exists.1 h
    exact lt_of_cell hv
  exact ⟨fun a h => hb.cell (lt a h), fun a h => hb.frozen (lt a h)⟩
theorem ret_bool {a b : Bool} (h : a = b) : Ending.returned (.bool a) = .returned (.bool b) := by rw [h]
theorem ret_int {a b : Int} (h : a = b) : Ending.returned (.int .i64 a) = .returned (.int .i64 b) := by rw [h]
theorem ret_ib {a b : Int} {c d : Bool} (h : a = b) (k : c = d) : Ending.returned (.tuple #[.int .i64 a, .bool c]) = .returned (.tuple #[.int .i64 b, .bool d]) := by rw [h, k]
theorem ret_bb {a b : Bool} {c d : Bool} (h : a = b) (k : c = d) : Ending.returned (.tuple #[.bool a, .bool c]) = .returned (.tuple #[.bool b, .bool d]) := by rw [h, k]
theorem bcell {W w1 : World} (hb : Below W.heap.size W w1) : (∀ b o, b < W.heap.size → w1.cell? ⟨b, o, none⟩ = W.cell? ⟨b, o, none⟩) ∧ (∀ b o, b < W.heap.size → w1.frozen? ⟨b, o, none⟩ = W.frozen? ⟨b, o, none⟩) :=
  ⟨fun b o h => hb.cell (p := ⟨b, o, none⟩) h, fun b o h => hb.frozen (p := ⟨b, o, none⟩) h⟩
end Go.Proofs.Ytfichpppjpgahaa
