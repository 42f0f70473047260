/-
  Plain definitions and lemmas on integers and lists that the contracts of this seat speak of; nothing of the program stands here.
  Slices of numbers that a call itself has made: owned, readable, writable; plain facts on worlds.
  Contracts of the small functions of numbers.
-/
import Derived.WalkKit
import Derived.Lib.Hide
import Derived.Deep.QuietTactic
import Derived.BigQuiet
import Derived.WalkSmall
import Derived.Test.YtfichpppjpgahaaGreatDoorRows
import Derived.WalkSpells
import Derived.WalkLawsBesides
import Derived.Shelf.Abstract
namespace Go.Proofs.YtfichpppjpgahaaGreatDoor
open Go.RowKit
set_option linter.unusedVariables false
set_option linter.unusedSimpArgs false

/-- The product of two numbers that are not negative. -/
theorem mul_bd {a b : Int} (A B : Int) (ha : 0 ≤ a) (hA : a ≤ A) (hb : 0 ≤ b) (hB : b ≤ B) : 0 ≤ a * b ∧ a * b ≤ A * B :=
  ⟨Int.mul_nonneg ha hb, Int.mul_le_mul hA hB hb (by omega)⟩

/-- A prime up to 251, as the program asks it. -/
def prB (p : Int) : Bool := decide (2 ≤ p ∧ p ≤ 251 ∧ ∀ d : Nat, d < 16 → 2 ≤ d → (d : Int) * d ≤ p → p % d ≠ 0)
theorem prB_lo {p : Int} (h : prB p = true) : 2 ≤ p ∧ p ≤ 251 := by
  have := of_decide_eq_true h
  exact ⟨this.1, this.2.1⟩
theorem prB_no {p : Int} (h : ¬ (2 ≤ p ∧ p ≤ 251)) : prB p = false := by
  refine decide_eq_false fun k => h ⟨k.1, k.2.1⟩
theorem sq_le {d p : Int} (h0 : 0 ≤ d) (h : d * d ≤ p) (hp : p ≤ 251) : d ≤ 15 := by
  rcases Int.lt_or_le 15 d with k | k
  · have : 16 * 16 ≤ d * d := Int.mul_le_mul (by omega) (by omega) (by omega) h0
    omega
  · exact k
theorem sq_lt {d p : Int} (h1 : 16 ≤ d) (hp : p ≤ 251) : p < d * d := by
  have : 16 * 16 ≤ d * d := Int.mul_le_mul (by omega) (by omega) (by omega) (by omega)
  omega
theorem prB_div {p : Int} {d : Nat} (hd : 2 ≤ d) (h : (d : Int) * d ≤ p) (hp : p ≤ 251) (hm : p % d = 0) : prB p = false := by
  refine decide_eq_false fun k => k.2.2 d ?_ hd h hm
  have := sq_le (Int.natCast_nonneg d) h hp
  omega
theorem prB_yes {p : Int} (h1 : 2 ≤ p) (hp : p ≤ 251) (n : Nat) (hn : p < (n : Int) * n) (h : ∀ d : Nat, 2 ≤ d → d < n → p % d ≠ 0) : prB p = true := by
  refine decide_eq_true ⟨h1, hp, fun d _ h2 hd => h d h2 ?_⟩
  rcases Nat.lt_or_ge d n with k | k
  · exact k
  · have : (n : Int) * n ≤ (d : Int) * d := Int.mul_le_mul (by omega) (by omega) (by omega) (by omega)
    omega

/-- In a range, as a Bool. -/
def inB (n lo hi : Int) : Bool := decide (lo ≤ n ∧ n ≤ hi)
theorem inB_iff {n lo hi : Int} : inB n lo hi = true ↔ lo ≤ n ∧ n ≤ hi := decide_eq_true_iff
theorem inB_no {n lo hi : Int} : inB n lo hi = false ↔ ¬ (lo ≤ n ∧ n ≤ hi) := decide_eq_false_iff_not
/-- An element of the field. -/
def elB (p a : Int) : Bool := prB p && inB a 0 (p - 1)

theorem elB_p {p a : Int} (h : elB p a = true) : 2 ≤ p ∧ p ≤ 251 := by
  unfold elB at h; rw [Bool.and_eq_true] at h; exact prB_lo h.1
theorem elB_iff {p a : Int} : elB p a = true ↔ prB p = true ∧ 0 ≤ a ∧ a ≤ p - 1 := by unfold elB; rw [Bool.and_eq_true, inB_iff]

/-! ### Residues -/
theorem tmod_bd {n p : Int} (hp : 1 ≤ p) : -p < n.tmod p ∧ n.tmod p < p := by
  have h1 := Int.lt_tmod_of_pos n (show 0 < p by omega)
  have h2 := Int.tmod_lt_of_pos n (show 0 < p by omega)
  exact ⟨h1, h2⟩
theorem tmod_add {n p : Int} (hp : 1 ≤ p) : (n.tmod p + p) % p = n % p := by
  rw [Int.add_emod_right, Int.tmod_def, Int.sub_mul_emod_self_left]
theorem emod_bd {n p : Int} (hp : 1 ≤ p) : 0 ≤ n % p ∧ n % p < p := ⟨Int.emod_nonneg _ (by omega), Int.emod_lt_of_pos _ (by omega)⟩

theorem emod_eq_iff {a t p : Int} (h0 : 0 ≤ t) (h1 : t < p) : a % p = t ↔ (a - t) % p = 0 := by
  rw [← Int.emod_eq_emod_iff_emod_sub_eq_zero, Int.emod_eq_of_lt h0 h1]

/-- A tag that holds. -/
def tagOk (p d k v t : Int) : Bool := decide ((v * d + k - t) % p = 0)

/-! ### Slices of numbers -/
/-- The i-th number. -/
def nth (xs : List Int) (i : Nat) : Int := xs.getD i 0
theorem nth_get {xs : List Int} {i : Nat} (h : i < xs.length) : nth xs i = xs[i] := by simp [nth, h]
theorem nth_mem {xs : List Int} {i : Nat} (h : i < xs.length) : nth xs i ∈ xs := by rw [nth_get h]; exact List.getElem_mem h
theorem mem_nth {xs : List Int} {x : Int} (h : x ∈ xs) : ∃ i, i < xs.length ∧ nth xs i = x := by
  obtain ⟨i, hi, e⟩ := List.mem_iff_getElem.1 h
  exact ⟨i, hi, by rw [nth_get hi]; exact e⟩
theorem all_iff {xs : List Int} {p : Int → Bool} : xs.all p = true ↔ ∀ i, i < xs.length → p (nth xs i) = true := by
  rw [List.all_eq_true]
  refine ⟨fun h i hi => h _ (nth_mem hi), fun h x hx => ?_⟩
  obtain ⟨i, hi, rfl⟩ := mem_nth hx
  exact h i hi
theorem all_no {xs : List Int} {p : Int → Bool} {i : Nat} (hi : i < xs.length) (h : p (nth xs i) = false) : xs.all p = false := by
  cases k : xs.all p with
  | false => rfl
  | true => rw [all_iff.1 k i hi] at h; cases h
/-- All numbers are in a range. -/
def allIn (xs : List Int) (lo hi : Int) : Bool := xs.all fun x => inB x lo hi
theorem allIn_no {xs : List Int} {lo hi : Int} {i : Nat} (hi' : i < xs.length) (h : inB (nth xs i) lo hi = false) : allIn xs lo hi = false := all_no hi' h
theorem allIn_iff {xs : List Int} {lo hi : Int} : allIn xs lo hi = true ↔ ∀ i, i < xs.length → inB (nth xs i) lo hi = true := all_iff
theorem allIn_nil {lo hi : Int} : allIn [] lo hi = true := rfl
theorem allIn_cons {x : Int} {xs : List Int} {lo hi : Int} : allIn (x :: xs) lo hi = (inB x lo hi && allIn xs lo hi) := rfl
/-- All are elements of the field. -/
def elsB (p : Int) (xs : List Int) : Bool := prB p && allIn xs 0 (p - 1)
theorem elsB_p {p : Int} {xs : List Int} (h : elsB p xs = true) : 2 ≤ p ∧ p ≤ 251 := by
  unfold elsB at h; rw [Bool.and_eq_true] at h; exact prB_lo h.1
theorem elsB_nth {p : Int} {xs : List Int} (h : elsB p xs = true) {i : Nat} (hi : i < xs.length) : 0 ≤ nth xs i ∧ nth xs i ≤ p - 1 := by
  unfold elsB at h; rw [Bool.and_eq_true] at h; exact inB_iff.1 (allIn_iff.1 h.2 i hi)
theorem elsB_cons {p x : Int} {xs : List Int} : elsB p (x :: xs) = (elB p x && elsB p xs) := by
  show (prB p && (inB x 0 (p - 1) && allIn xs 0 (p - 1))) = ((prB p && inB x 0 (p-1)) && (prB p && allIn xs 0 (p - 1)))
  cases prB p <;> simp
theorem elsB_nil {p : Int} : elsB p [] = prB p := by
  show (prB p && true) = _
  simp
theorem elB_and {p x : Int} : (elB p x && prB p) = elB p x := by
  unfold elB; cases prB p <;> simp
/-- The shifted key. -/
def semShiftKey (p d key k : Int) : Int × Bool := if elsB p [d, key, k] then ((key - k * d) % p, true) else (0, false)
theorem any_no {xs : List Int} {p : Int → Bool} (h : ∀ i, i < xs.length → p (nth xs i) = false) : xs.any p = false := by
  rw [List.any_eq_false]
  intro x hx
  obtain ⟨i, hi, rfl⟩ := mem_nth hx
  rw [h i hi]; decide
theorem any_yes {xs : List Int} {p : Int → Bool} {i : Nat} (hi : i < xs.length) (h : p (nth xs i) = true) : xs.any p = true := List.any_eq_true.2 ⟨_, nth_mem hi, h⟩

/-- A number that an int holds. -/
def Fits (x : Int) : Prop := -9223372036854775808 ≤ x ∧ x ≤ 9223372036854775807

theorem fits_wf {a : Int} (h : (Lit.int .i64 a).wf = true) : Fits a := by
  simp [Lit.wf, IntKind.min, IntKind.max, IntKind.bits, IntKind.signed] at h
  unfold Fits; omega

/-- What a slice of ints holds in a world: n numbers, within the reach. -/
structure Ints (w : World) (a : Option Addr) (n cap : Nat) (xs : List Int) : Prop where
  len : Hid (xs.length = n)
  ncap : n ≤ cap
  small : n ≤ 17592186044416
  capm : cap ≤ 9223372036854775807
  cell : Hid (∀ i, i < n → ∃ b off, a = some ⟨b, off, none⟩ ∧ b < w.heap.size ∧ w.cell? ⟨b, off + i, none⟩ = some (.int .i64 (nth xs i)))
  wf : Hid (∀ x ∈ xs, Fits x)
  nilc : Hid (a = none → cap = 0)

theorem lt_of_cell {w : World} {a : Addr} {v : Value} (h : w.cell? a = some v) : a.block < w.heap.size := by
  unfold World.cell? at h
  rcases Nat.lt_or_ge a.block w.heap.size with k | k
  · exact k
  · rw [Array.getElem?_eq_none k] at h; cases h

/-- It holds the same behind whatever leaves the old blocks alone. -/
theorem Ints.below {w w' : World} {a : Option Addr} {n cap : Nat} {xs : List Int} (h : Ints w a n cap xs) (hb : Below w.heap.size w w') : Ints w' a n cap xs := by
  refine ⟨h.len, h.ncap, h.small, h.capm, fun i hi => ?_, h.wf, h.nilc⟩
  obtain ⟨b, off, e, hl, hc⟩ := h.cell.out i hi
  exact ⟨b, off, e, Nat.lt_of_lt_of_le hl hb.size, (hb.cell (p := ⟨b, off + i, none⟩) hl).trans hc⟩
theorem Ints.alloc {w : World} {a : Option Addr} {n cap : Nat} {xs : List Int} (h : Ints w a n cap xs) (o : Obj) : Ints (w.alloc o) a n cap xs :=
  h.below ((Below.refl _ _).alloc (Nat.le_refl _) o)
theorem Ints.at {w : World} {a : Option Addr} {n cap : Nat} {xs : List Int} (h : Ints w a n cap xs) {i : Nat} (hi : i < n) :
    ∃ b off, a = some ⟨b, off, none⟩ ∧ b < w.heap.size ∧ w.cell? ⟨b, off + i, none⟩ = some (.int .i64 (nth xs i)) := h.cell.out i hi
theorem Ints.fit {w : World} {a : Option Addr} {n cap : Nat} {xs : List Int} (h : Ints w a n cap xs) {i : Nat} (hi : i < n) : Fits (nth xs i) :=
  h.wf.out _ (nth_mem (by rw [h.len.out]; exact hi))
theorem Ints.all_iff {w : World} {a : Option Addr} {n cap : Nat} {xs : List Int} (h : Ints w a n cap xs) {p : Int → Bool} :
    xs.all p = true ↔ ∀ i, i < n → p (nth xs i) = true := by rw [Proofs.YtfichpppjpgahaaGreatDoor.all_iff, h.len.out]

theorem Ints.lit {w : World} {m : Nat} (xs : List Int) (vs : Array Value) (t : TypeId) (hm : m = w.heap.size) (hv : vs = (xs.map (Value.int .i64)).toArray) (hl : xs.length ≤ 1000) (hf : ∀ x ∈ xs, Fits x) :
    Ints (w.alloc (.cells vs t)) (some ⟨m, 0, none⟩) xs.length xs.length xs := by
  subst hm hv
  refine ⟨rfl, Nat.le_refl _, by omega, by omega, fun i hi => ⟨_, 0, rfl, by simp, ?_⟩, hf, fun e => by cases e⟩
  rw [World.cell?_alloc_at _ _ _ _ rfl]
  simp [nth, hi]
theorem Ints.lit1 {w : World} {m : Nat} {t : TypeId} {a : Int} (hm : m = w.heap.size) (ha : Fits a) :
    Ints (w.alloc (.cells #[.int .i64 a] t)) (some ⟨m, 0, none⟩) 1 1 [a] :=
  Ints.lit [a] _ t hm rfl (by simp) (by simp [ha])
theorem Ints.lit2 {w : World} {m : Nat} {t : TypeId} {a b : Int} (hm : m = w.heap.size) (ha : Fits a) (hb : Fits b) :
    Ints (w.alloc (.cells #[.int .i64 a, .int .i64 b] t)) (some ⟨m, 0, none⟩) 2 2 [a, b] :=
  Ints.lit [a, b] _ t hm rfl (by simp) (by simp [ha, hb])
theorem Ints.lit3 {w : World} {m : Nat} {t : TypeId} {a b c : Int} (hm : m = w.heap.size) (ha : Fits a) (hb : Fits b) (hc : Fits c) :
    Ints (w.alloc (.cells #[.int .i64 a, .int .i64 b, .int .i64 c] t)) (some ⟨m, 0, none⟩) 3 3 [a, b, c] :=
  Ints.lit [a, b, c] _ t hm rfl (by simp) (by simp [ha, hb, hc])
theorem Ints.lit4 {w : World} {m : Nat} {t : TypeId} {a b c d : Int} (hm : m = w.heap.size) (ha : Fits a) (hb : Fits b) (hc : Fits c) (hd : Fits d) :
    Ints (w.alloc (.cells #[.int .i64 a, .int .i64 b, .int .i64 c, .int .i64 d] t)) (some ⟨m, 0, none⟩) 4 4 [a, b, c, d] :=
  Ints.lit [a, b, c, d] _ t hm rfl (by simp) (by simp [ha, hb, hc, hd])

theorem bel_trans {a b c : World} (h : Below a.heap.size a b) (k : Below b.heap.size b c) : Below a.heap.size a c := h.trans (k.mono h.size)
theorem bel_alloc (w : World) (o : Obj) : Below w.heap.size w (w.alloc o) := (Below.refl _ _).alloc (Nat.le_refl _) o
theorem bel_drewN (w : World) (n : Nat) : Below w.heap.size w (w.drewN n) := ⟨rfl, rfl, rfl, Nat.le_refl _, fun _ _ => rfl⟩
theorem bel_drew (w : World) : Below w.heap.size w w.drew := ⟨rfl, rfl, rfl, Nat.le_refl _, fun _ _ => rfl⟩
theorem bel_set {a b : World} (h : Below a.heap.size a b) {p : Addr} (hp : a.heap.size ≤ p.block) (u : Value) : Below a.heap.size a (b.setCell p u) := h.setCell hp u
/-- A box of two cells that may be written. -/
def Bx (w : World) (b : Nat) (x y : Value) : Prop := w.cell? ⟨b, 0, none⟩ = some x ∧ w.cell? ⟨b, 1, none⟩ = some y ∧ w.frozen? ⟨b, 0, none⟩ = false ∧ w.frozen? ⟨b, 1, none⟩ = false
theorem Bx.on {w w' : World} {b : Nat} {x y : Value} (h : Bx w b x y) (hb : Below w.heap.size w w') : Bx w' b x y :=
  ⟨(hb.cell (p := ⟨b, 0, none⟩) (lt_of_cell h.1)).trans h.1, (hb.cell (p := ⟨b, 1, none⟩) (lt_of_cell h.2.1)).trans h.2.1, (hb.frozen (p := ⟨b, 0, none⟩) (lt_of_cell h.1)).trans h.2.2.1, (hb.frozen (p := ⟨b, 1, none⟩) (lt_of_cell h.2.1)).trans h.2.2.2⟩
theorem Bx.new {w : World} {x y : Value} {t : TypeId} : Bx (w.alloc (.cells #[x, y] t)) w.heap.size x y :=
  ⟨World.cell?_alloc_at _ _ _ _ rfl, World.cell?_alloc_at _ _ _ _ rfl, World.frozen?_alloc_at _ _ _ _ rfl, World.frozen?_alloc_at _ _ _ _ rfl⟩
theorem boxes1 {w w' : World} {x y : Value} {t : TypeId} (hb : Below (w.alloc (.cells #[x, y] t)).heap.size (w.alloc (.cells #[x, y] t)) w') : Bx w' w.heap.size x y := Bx.new.on hb
theorem boxes2 {w w' : World} {x y x' y' : Value} {t t' : TypeId} (hb : Below ((w.alloc (.cells #[x, y] t)).alloc (.cells #[x', y'] t')).heap.size ((w.alloc (.cells #[x, y] t)).alloc (.cells #[x', y'] t')) w') :
    Bx w' w.heap.size x y ∧ Bx w' (w.heap.size + 1) x' y' :=
  ⟨(Bx.new.on (bel_alloc _ _)).on hb, (show Bx w' (w.alloc (.cells #[x, y] t)).heap.size x' y' from Bx.new.on hb) |> fun h => by simpa using h⟩
theorem boxes3 {w w' : World} {x y x' y' x'' y'' : Value} {t t' t'' : TypeId} (hb : Below (((w.alloc (.cells #[x, y] t)).alloc (.cells #[x', y'] t')).alloc (.cells #[x'', y''] t'')).heap.size (((w.alloc (.cells #[x, y] t)).alloc (.cells #[x', y'] t')).alloc (.cells #[x'', y''] t'')) w') :
    Bx w' w.heap.size x y ∧ Bx w' (w.heap.size + 1) x' y' ∧ Bx w' (w.heap.size + 1 + 1) x'' y'' := by
  obtain ⟨h1, h2⟩ := boxes2 (bel_trans (bel_alloc ((w.alloc (.cells #[x, y] t)).alloc (.cells #[x', y'] t')) (.cells #[x'', y''] t'')) hb)
  refine ⟨h1, h2, ?_⟩
  have h3 : Bx w' ((w.alloc (.cells #[x, y] t)).alloc (.cells #[x', y'] t')).heap.size x'' y'' := Bx.new.on hb
  simpa using h3

theorem four_on {w w' : World} {b b' : Nat} {x y x' y' : Value} (h : w.cell? ⟨b, 0, none⟩ = some x ∧ w.cell? ⟨b, 1, none⟩ = some y ∧ w.cell? ⟨b', 0, none⟩ = some x' ∧ w.cell? ⟨b', 1, none⟩ = some y') (hb : Below w.heap.size w w') :
    w'.cell? ⟨b, 0, none⟩ = some x ∧ w'.cell? ⟨b, 1, none⟩ = some y ∧ w'.cell? ⟨b', 0, none⟩ = some x' ∧ w'.cell? ⟨b', 1, none⟩ = some y' :=
  ⟨(hb.cell (p := ⟨b, 0, none⟩) (lt_of_cell h.1)).trans h.1, (hb.cell (p := ⟨b, 1, none⟩) (lt_of_cell h.2.1)).trans h.2.1, (hb.cell (p := ⟨b', 0, none⟩) (lt_of_cell h.2.2.1)).trans h.2.2.1, (hb.cell (p := ⟨b', 1, none⟩) (lt_of_cell h.2.2.2)).trans h.2.2.2⟩
/-- A box of two cells, just made, behind a call; and once more. -/
theorem two_cells {w w' : World} {x y : Value} {t : TypeId} (hb : Below (w.alloc (.cells #[x, y] t)).heap.size (w.alloc (.cells #[x, y] t)) w') :
    w'.cell? ⟨w.heap.size, 0, none⟩ = some x ∧ w'.cell? ⟨w.heap.size, 1, none⟩ = some y :=
  ⟨(hb.cell (p := ⟨w.heap.size, 0, none⟩) (by simp)).trans (World.cell?_alloc_at _ _ _ _ rfl), (hb.cell (p := ⟨w.heap.size, 1, none⟩) (by simp)).trans (World.cell?_alloc_at _ _ _ _ rfl)⟩
theorem cell_on {w w' : World} {b o : Nat} {x : Value} (h : w.cell? ⟨b, o, none⟩ = some x) (hb : Below w.heap.size w w') : w'.cell? ⟨b, o, none⟩ = some x :=
  (hb.cell (p := ⟨b, o, none⟩) (lt_of_cell h)).trans h
theorem two_on {w w' : World} {b : Nat} {x y : Value} (h : w.cell? ⟨b, 0, none⟩ = some x ∧ w.cell? ⟨b, 1, none⟩ = some y) (hb : Below w.heap.size w w') : w'.cell? ⟨b, 0, none⟩ = some x ∧ w'.cell? ⟨b, 1, none⟩ = some y :=
  ⟨cell_on h.1 hb, cell_on h.2 hb⟩
/-- What is there stays there: as rules for the walk (the side condition is paid by the cell's own fact). -/
theorem ccell {W w1 : World} (hb : Below W.heap.size W w1) : (∀ a, (W.cell? a).isSome = true → w1.cell? a = W.cell? a) ∧ (∀ a, (W.cell? a).isSome = true → w1.frozen? a = W.frozen? a) := by
  have lt : ∀ a, (W.cell? a).isSome = true → a.block < W.heap.size := fun a h => by
    obtain ⟨v, hv⟩ := Option.isSome_iff_exists.1 h
    exact lt_of_cell hv
  exact ⟨fun a h => hb.cell (lt a h), fun a h => hb.frozen (lt a h)⟩
theorem ret_bool {a b : Bool} (h : a = b) : Ending.returned (.bool a) = .returned (.bool b) := by rw [h]
theorem ret_int {a b : Int} (h : a = b) : Ending.returned (.int .i64 a) = .returned (.int .i64 b) := by rw [h]
theorem ret_ib {a b : Int} {c d : Bool} (h : a = b) (k : c = d) : Ending.returned (.tuple #[.int .i64 a, .bool c]) = .returned (.tuple #[.int .i64 b, .bool d]) := by rw [h, k]
theorem ret_bb {a b : Bool} {c d : Bool} (h : a = b) (k : c = d) : Ending.returned (.tuple #[.bool a, .bool c]) = .returned (.tuple #[.bool b, .bool d]) := by rw [h, k]
theorem bcell {W w1 : World} (hb : Below W.heap.size W w1) : (∀ b o, b < W.heap.size → w1.cell? ⟨b, o, none⟩ = W.cell? ⟨b, o, none⟩) ∧ (∀ b o, b < W.heap.size → w1.frozen? ⟨b, o, none⟩ = W.frozen? ⟨b, o, none⟩) :=
  ⟨fun b o h => hb.cell (p := ⟨b, o, none⟩) h, fun b o h => hb.frozen (p := ⟨b, o, none⟩) h⟩
end Go.Proofs.YtfichpppjpgahaaGreatDoor
namespace Go.Proofs.YtfichpppjpgahaaGreatDoor
open Go.RowKit
set_option linter.unusedVariables false
set_option linter.unusedSimpArgs false

/-- The numbers as values. -/
def ivs (xs : List Int) : List Value := xs.map (Value.int .i64)
theorem ivs_len (xs : List Int) : (ivs xs).length = xs.length := by simp [ivs]
theorem ivs_snoc (xs : List Int) (x : Int) : ivs (xs ++ [x]) = ivs xs ++ [.int .i64 x] := by simp [ivs]

/-- A slice of n ints that the call made (its row lies in a block from B on). -/
structure OwnI (E : TypeId) (w : World) (B : Nat) (a : Option Addr) (n cap : Nat) (xs : List Int) : Prop where
  ints : Ints w a n cap xs
  own : w.ownsRow B E 1 (.slice a n cap) n (ivs xs)

theorem OwnI.of {E : TypeId} {w : World} {B : Nat} {v : Value} {n : Nat} {xs : List Int} (h : w.ownsRow B E 1 v n (ivs xs)) (hs : n ≤ 17592186044416) (hf : ∀ x ∈ xs, Fits x) :
    ∃ a cap, v = .slice a n cap ∧ OwnI E w B a n cap xs := by
  have hl : xs.length = n := by have := h.1; rw [ivs_len] at this; omega
  have h' := h
  obtain ⟨_, h2⟩ := h
  rcases h2 with ⟨rfl, rfl⟩ | ⟨g, cap, cur, rfl, hg, hh, hn, hm, hc, ht⟩
  · exact ⟨none, 0, rfl, ⟨hl, by omega, by omega, by decide, fun i hi => by omega, hf, fun _ => rfl⟩, h'⟩
  · refine ⟨_, cap, rfl, ⟨hl, hn, hs, by unfold maxLen at hm; omega, fun i hi => ⟨g, 0, rfl, ?_, ?_⟩, hf, fun e => by cases e⟩, h'⟩
    · rcases Nat.lt_or_ge g w.heap.size with k | k
      · exact k
      · rw [Array.getElem?_eq_none k] at hh; cases hh
    · rw [Nat.zero_add, World.ownsRow.cellAt h' i (by omega)]
      simp [ivs, nth, hl, hi]

theorem OwnI.nil {E : TypeId} {w : World} {B : Nat} : OwnI E w B none 0 0 [] :=
  ⟨⟨rfl, by omega, by omega, by decide, fun i hi => by omega, fun x hx => by simp at hx, fun _ => rfl⟩, World.ownsRow_nil _ _ _ _⟩

theorem heap_of_below {w w' : World} (hb : Below w.heap.size w w') {g : Nat} {o : Obj} (h : w.heap[g]? = some o) : w'.heap[g]? = some o := by
  rw [hb.block g ?_]
  · exact h
  · rcases Nat.lt_or_ge g w.heap.size with k | k
    · exact k
    · rw [Array.getElem?_eq_none k] at h; cases h

theorem ownsRow_below {E : TypeId} {w w' : World} {B s n : Nat} {v : Value} {xs : List Value} (h : w.ownsRow B E s v n xs) (hb : Below w.heap.size w w') : w'.ownsRow B E s v n xs := by
  obtain ⟨h1, h2⟩ := h
  refine ⟨h1, ?_⟩
  rcases h2 with h2 | ⟨g, cap, cur, hv, hg, hh, r⟩
  · exact .inl h2
  · exact .inr ⟨g, cap, cur, hv, hg, heap_of_below hb hh, r⟩

theorem OwnI.below {E : TypeId} {w w' : World} {B : Nat} {a : Option Addr} {n cap : Nat} {xs : List Int} (h : OwnI E w B a n cap xs) (hb : Below w.heap.size w w') : OwnI E w' B a n cap xs :=
  ⟨h.ints.below hb, ownsRow_below h.own hb⟩

theorem ownsRow_base {E : TypeId} {w : World} {B B' s n : Nat} {v : Value} {xs : List Value} (h : w.ownsRow B E s v n xs) (hB : B' ≤ B) : w.ownsRow B' E s v n xs := by
  obtain ⟨h1, h2⟩ := h
  refine ⟨h1, ?_⟩
  rcases h2 with h2 | ⟨g, cap, cur, hv, hg, r⟩
  · exact .inl h2
  · exact .inr ⟨g, cap, cur, hv, Nat.le_trans hB hg, r⟩
theorem OwnI.base {E : TypeId} {w : World} {B B' : Nat} {a : Option Addr} {n cap : Nat} {xs : List Int} (h : OwnI E w B a n cap xs) (hB : B' ≤ B) : OwnI E w B' a n cap xs := ⟨h.ints, ownsRow_base h.own hB⟩

/-- The i-th place of an owned slice: its cell and that it may be written. -/
theorem OwnI.at {E : TypeId} {w : World} {B : Nat} {a : Option Addr} {n cap : Nat} {xs : List Int} (h : OwnI E w B a n cap xs) {i : Nat} (hi : i < n) :
    ∃ g, a = some ⟨g, 0, none⟩ ∧ B ≤ g ∧ g < w.heap.size ∧ w.cell? ⟨g, i, none⟩ = some (.int .i64 (nth xs i)) ∧ w.frozen? ⟨g, i, none⟩ = false := by
  have h' := h.own
  obtain ⟨_, h2⟩ := h'
  rcases h2 with ⟨_, rfl⟩ | ⟨g, cap', cur, hv, hg, hh, hn, hm, hc, ht⟩
  · omega
  · simp only [Value.slice.injEq] at hv
    obtain ⟨rfl, _, rfl⟩ := hv
    obtain ⟨b, off, e, hl, hcell⟩ := h.ints.at hi
    simp only [Option.some.injEq, Addr.mk.injEq] at e
    obtain ⟨rfl, rfl, _⟩ := e
    exact ⟨g, rfl, hg, hl, by simpa using hcell, World.ownsRow.frozenAt h.own i⟩

/-- Behind a store into its i-th place. -/
theorem OwnI.set {E : TypeId} {w : World} {B g : Nat} {n cap : Nat} {xs : List Int} (h : OwnI E w B (some ⟨g, 0, none⟩) n cap xs) {i : Nat} (hi : i < n) (u : Int) (hu : Fits u) :
    OwnI E (w.setCell ⟨g, i, none⟩ (.int .i64 u)) B (some ⟨g, 0, none⟩) n cap (xs.set i u) := by
  have e : ivs (xs.set i u) = (ivs xs).set i (.int .i64 u) := by simp [ivs, List.map_set]
  have hs := World.ownsRow.stored h.own i (.int .i64 u)
  rw [← e] at hs
  obtain ⟨a, cap', hv, r⟩ := OwnI.of hs.1 h.ints.small (fun x hx => by
    rcases List.mem_or_eq_of_mem_set hx with k | k
    · exact h.ints.wf.out x k
    · rw [k]; exact hu)
  simp only [Value.slice.injEq] at hv
  obtain ⟨rfl, _, rfl⟩ := hv
  exact r

theorem nth_set {xs : List Int} {i j : Nat} {u : Int} (hi : i < xs.length) : nth (xs.set i u) j = if j = i then u else nth xs j := by
  unfold nth
  simp only [List.getD_eq_getElem?_getD, List.getElem?_set]
  split
  · rename_i k; subst k; simp [hi]
  · rename_i k; rw [if_neg (fun e => k e.symm)]

/-- An owned row grows by append: what the law leaves, read as a slice of numbers. -/
theorem below_grown_own {E : TypeId} {w w' : World} {B s n : Nat} {v : Value} {xs : List Value} (h : w.ownsRow B E s v n xs) (hg : w.grownBy w' v.ownBlock) (hB : B ≤ w.heap.size) : Below B w w' :=
  (Below.refl B w).grown hg hB (fun k hk => ((h.lt) k hk).1)

/-- Where a slice of the call's own lies. -/
def Place (a : Option Addr) (lo hi : Nat) : Prop := ∀ g off, a = some ⟨g, off, none⟩ → lo ≤ g ∧ g < hi
theorem OwnI.place {E : TypeId} {w : World} {B : Nat} {a : Option Addr} {n cap : Nat} {xs : List Int} (h : OwnI E w B a n cap xs) : Place a B w.heap.size := by
  intro g off e
  obtain ⟨_, h2⟩ := h.own
  rcases h2 with ⟨hv, _⟩ | ⟨g', cap', cur, hv, hg, hh, _⟩
  · simp only [Value.slice.injEq] at hv; rw [hv.1] at e; cases e
  · simp only [Value.slice.injEq] at hv
    rw [hv.1] at e
    simp only [Option.some.injEq, Addr.mk.injEq] at e
    obtain ⟨rfl, _, _⟩ := e
    refine ⟨hg, ?_⟩
    rcases Nat.lt_or_ge g' w.heap.size with k | k
    · exact k
    · rw [Array.getElem?_eq_none k] at hh; cases hh

/-- Only the row of one slice has turned. -/
structure Only (a : Option Addr) (w w' : World) : Prop where
  os : w'.os = w.os
  tape : w'.tape = w.tape
  output : w'.output = w.output
  size : w.heap.size ≤ w'.heap.size
  block : ∀ k, (∀ g off, a = some ⟨g, off, none⟩ → k ≠ g) → w'.heap[k]? = w.heap[k]?
theorem Only.refl (a : Option Addr) (w : World) : Only a w w := ⟨rfl, rfl, rfl, Nat.le_refl _, fun _ _ => rfl⟩
theorem Only.setCell {g i : Nat} {w w' : World} (h : Only (some ⟨g, 0, none⟩) w w') (u : Value) : Only (some ⟨g, 0, none⟩) w (w'.setCell ⟨g, i, none⟩ u) :=
  ⟨h.os, h.tape, h.output, by simpa [World.setCell] using h.size, fun k hne => (Below.heap_setCell _ _ _ _ (hne g 0 rfl)).trans (h.block k hne)⟩
theorem Below.only {b0 : Nat} {w0 w w' : World} {a : Option Addr} {lo hi : Nat} (h : Below b0 w0 w) (ho : Only a w w') (ps : Place a lo hi) (hlo : b0 ≤ lo) : Below b0 w0 w' :=
  h.trans ⟨ho.os, ho.tape, ho.output, ho.size, fun k hk => ho.block k (fun g off e => by have := (ps g off e).1; omega)⟩
theorem OwnI.only {E : TypeId} {w w' : World} {B : Nat} {a t : Option Addr} {n cap : Nat} {xs : List Int} {lo hi lo' hi' : Nat} (h : OwnI E w B t n cap xs) (ho : Only a w w') (pt : Place t lo hi) (pa : Place a lo' hi') (hd : hi ≤ lo' ∨ hi' ≤ lo) : OwnI E w' B t n cap xs := by
  have hkeep : w'.ownsRow B E 1 (.slice t n cap) n (ivs xs) := by
    obtain ⟨h1, h2⟩ := h.own
    refine ⟨h1, ?_⟩
    rcases h2 with h2 | ⟨g, cap', cur, hv, hg, hh, r⟩
    · exact .inl h2
    · refine .inr ⟨g, cap', cur, hv, hg, ?_, r⟩
      simp only [Value.slice.injEq] at hv
      have h3 := pt g 0 hv.1
      rw [ho.block g (fun g' off e => by have := pa g' off e; omega)]
      exact hh
  obtain ⟨a', cap', hv, r⟩ := OwnI.of hkeep h.ints.small h.ints.wf.out
  simp only [Value.slice.injEq] at hv
  obtain ⟨rfl, _, rfl⟩ := hv
  exact r

/-- A slice of n ints in memory of a call's own (from block B on), that may be written. -/
structure Mine (w : World) (B : Nat) (a : Option Addr) (n cap : Nat) (xs : List Int) : Prop where
  ints : Ints w a n cap xs
  place : Hid (0 < n → ∀ b off, a = some ⟨b, off, none⟩ → B ≤ b ∧ b < w.heap.size)
  free : Hid (∀ i, i < n → ∀ b off, a = some ⟨b, off, none⟩ → w.frozen? ⟨b, off + i, none⟩ = false)
def PlaceM (a : Option Addr) (n lo hi : Nat) : Prop := 0 < n → ∀ b off, a = some ⟨b, off, none⟩ → lo ≤ b ∧ b < hi
theorem Mine.pl {w : World} {B : Nat} {a : Option Addr} {n cap : Nat} {xs : List Int} (h : Mine w B a n cap xs) : PlaceM a n B w.heap.size := h.place.out
theorem OwnI.mine {E : TypeId} {w : World} {B : Nat} {a : Option Addr} {n cap : Nat} {xs : List Int} (h : OwnI E w B a n cap xs) : Mine w B a n cap xs :=
  ⟨h.ints, fun _ b off e => h.place b off e, fun i hi b off e => by
    obtain ⟨g, e', _, _, _, hf⟩ := h.at hi
    rw [e'] at e
    simp only [Option.some.injEq, Addr.mk.injEq] at e
    obtain ⟨rfl, rfl, _⟩ := e
    simpa using hf⟩
theorem Mine.of {E : TypeId} {w : World} {B : Nat} {v : Value} {n : Nat} {xs : List Int} (h : w.ownsRow B E 1 v n (ivs xs)) (hs : n ≤ 17592186044416) (hf : ∀ x ∈ xs, Fits x) :
    ∃ a cap, v = .slice a n cap ∧ Mine w B a n cap xs := by
  obtain ⟨a, cap, hv, ho⟩ := OwnI.of h hs hf
  exact ⟨a, cap, hv, ho.mine⟩
theorem Mine.nil {w : World} {B : Nat} : Mine w B none 0 0 [] := (OwnI.nil (E := 0)).mine
theorem Mine.base {w : World} {B B' : Nat} {a : Option Addr} {n cap : Nat} {xs : List Int} (h : Mine w B a n cap xs) (hB : B' ≤ B) : Mine w B' a n cap xs :=
  ⟨h.ints, fun hn b off e => ⟨Nat.le_trans hB (h.place.out hn b off e).1, (h.place.out hn b off e).2⟩, h.free⟩
theorem Mine.at {w : World} {B : Nat} {a : Option Addr} {n cap : Nat} {xs : List Int} (h : Mine w B a n cap xs) {i : Nat} (hi : i < n) :
    ∃ b off, a = some ⟨b, off, none⟩ ∧ B ≤ b ∧ b < w.heap.size ∧ w.cell? ⟨b, off + i, none⟩ = some (.int .i64 (nth xs i)) ∧ w.frozen? ⟨b, off + i, none⟩ = false := by
  obtain ⟨b, off, e, hl, hc⟩ := h.ints.at hi
  exact ⟨b, off, e, (h.place.out (by omega) b off e).1, hl, hc, h.free.out i hi b off e⟩
theorem Mine.below {w w' : World} {B : Nat} {a : Option Addr} {n cap : Nat} {xs : List Int} (h : Mine w B a n cap xs) (hb : Below w.heap.size w w') : Mine w' B a n cap xs :=
  ⟨h.ints.below hb, fun hn b off e => ⟨(h.place.out hn b off e).1, Nat.lt_of_lt_of_le (h.place.out hn b off e).2 hb.size⟩,
   fun i hi b off e => (hb.frozen (p := ⟨b, off + i, none⟩) (h.place.out (by omega) b off e).2).trans (h.free.out i hi b off e)⟩

/-- Only the row of one slice (of n elements) has turned. -/
structure OnlyM (a : Option Addr) (n : Nat) (w w' : World) : Prop where
  os : w'.os = w.os
  tape : w'.tape = w.tape
  output : w'.output = w.output
  size : w.heap.size ≤ w'.heap.size
  block : ∀ k, (0 < n → ∀ g off, a = some ⟨g, off, none⟩ → k ≠ g) → w'.heap[k]? = w.heap[k]?
theorem OnlyM.refl (a : Option Addr) (n : Nat) (w : World) : OnlyM a n w w := ⟨rfl, rfl, rfl, Nat.le_refl _, fun _ _ => rfl⟩
theorem OnlyM.setCell {g o i n : Nat} {w w' : World} (h : OnlyM (some ⟨g, o, none⟩) n w w') (hn : 0 < n) (u : Value) : OnlyM (some ⟨g, o, none⟩) n w (w'.setCell ⟨g, i, none⟩ u) :=
  ⟨h.os, h.tape, h.output, by simpa [World.setCell] using h.size, fun k hne => (Below.heap_setCell _ _ _ _ (hne hn g o rfl)).trans (h.block k hne)⟩
theorem Below.onlyM {b0 n : Nat} {w0 w w' : World} {a : Option Addr} {lo hi : Nat} (h : Below b0 w0 w) (ho : OnlyM a n w w') (ps : PlaceM a n lo hi) (hlo : b0 ≤ lo) : Below b0 w0 w' :=
  h.trans ⟨ho.os, ho.tape, ho.output, ho.size, fun k hk => ho.block k (fun hn g off e => by have := (ps hn g off e).1; omega)⟩
theorem Ints.onlyM {w w' : World} {a t : Option Addr} {n m cap : Nat} {xs : List Int} {lo hi lo' hi' : Nat} (h : Ints w t n cap xs) (ho : OnlyM a m w w') (pt : PlaceM t n lo hi) (pa : PlaceM a m lo' hi') (hd : hi ≤ lo' ∨ hi' ≤ lo) : Ints w' t n cap xs := by
  refine ⟨h.len, h.ncap, h.small, h.capm, fun i hi' => ?_, h.wf, h.nilc⟩
  obtain ⟨b, off, e, hl, hc⟩ := h.cell.out i hi'
  have h1 := pt (by omega) b off e
  exact ⟨b, off, e, Nat.lt_of_lt_of_le hl ho.size, (World.cell?_of_block (ho.block b (fun hm g o e' => by have := pa hm g o e'; omega))).trans hc⟩
theorem Mine.onlyM {w w' : World} {B : Nat} {a t : Option Addr} {n m cap : Nat} {xs : List Int} {lo hi lo' hi' : Nat} (h : Mine w B t n cap xs) (ho : OnlyM a m w w') (pt : PlaceM t n lo hi) (pa : PlaceM a m lo' hi') (hd : hi ≤ lo' ∨ hi' ≤ lo) : Mine w' B t n cap xs :=
  ⟨h.ints.onlyM ho pt pa hd, fun hn b off e => ⟨(h.place.out hn b off e).1, Nat.lt_of_lt_of_le (h.place.out hn b off e).2 ho.size⟩,
   fun i hi' b off e => (World.frozen?_of_block (ho.block b (fun hm g o e' => by have h1 := pt (by omega) b off e; have := pa hm g o e'; omega))).trans (h.free.out i hi' b off e)⟩
theorem Mine.set {w : World} {B b off : Nat} {n cap : Nat} {xs : List Int} (h : Mine w B (some ⟨b, off, none⟩) n cap xs) {i : Nat} (hi : i < n) (u : Int) (hu : Fits u) :
    Mine (w.setCell ⟨b, off + i, none⟩ (.int .i64 u)) B (some ⟨b, off, none⟩) n cap (xs.set i u) := by
  have hlen := h.ints.len.out
  refine ⟨⟨by show _ = _; rw [List.length_set]; exact hlen, h.ints.ncap, h.ints.small, h.ints.capm, fun j hj => ⟨b, off, rfl, ?_, ?_⟩, fun x hx => ?_, fun e => by cases e⟩, fun hn b' off' e => ?_, fun j hj b' off' e => ?_⟩
  · obtain ⟨b', off', e, hl, _⟩ := h.ints.at hj
    simp only [Option.some.injEq, Addr.mk.injEq] at e
    obtain ⟨rfl, _, _⟩ := e
    simpa [World.setCell] using hl
  · obtain ⟨b', off', e, hl, hc⟩ := h.ints.at hj
    simp only [Option.some.injEq, Addr.mk.injEq] at e
    obtain ⟨rfl, rfl, _⟩ := e
    rw [nth_set (by rw [hlen]; exact hi)]
    by_cases ej : j = i
    · subst ej; rw [if_pos rfl]; exact World.cell?_setCell_same _ _ _ hc
    · rw [if_neg ej, World.cell?_setCell_other _ _ _ _ (by intro e; simp at e <;> omega)]; exact hc
  · rcases List.mem_or_eq_of_mem_set hx with k | k
    · exact h.ints.wf.out x k
    · rw [k]; exact hu
  · have := h.place.out hn b' off' e
    exact ⟨this.1, by simpa [World.setCell] using this.2⟩
  · have := h.free.out j hj b' off' e
    simpa using this

/-- Slices of ints among a law's arguments: whatever their length; read where it is at most 1048576. -/
def IntsIn (w : World) (a : Option Addr) (n c : Nat) (zs : List Int) : Prop := n ≤ 9223372036854775807 ∧ (n ≤ 1048576 → Ints w a n c zs)
theorem IntsIn.nil {w : World} : IntsIn w none 0 0 [] := ⟨by omega, fun _ => (Mine.nil (B := 0)).ints⟩
theorem IntsIn.of {w : World} {x : Addr} {l c : Nat} {zs : List Int} (hl : l ≤ c) (hm : c ≤ maxLen) (hz : zs.length = c) (hcell : ∀ i, i < zs.length → w.cell? (x.add i) = some (.int .i64 (zs.getD i 0)))
    (hwz : ∀ n ∈ zs, (Lit.int .i64 n).wf = true) : IntsIn w (some x) l c (zs.take l) := by
  unfold maxLen at hm
  refine ⟨by omega, fun hs => ⟨by show _ = _; rw [List.length_take]; omega, hl, by omega, hm, fun i hi => ?_, fun y hy => fits_wf (hwz y (List.mem_of_mem_take hy)), fun e => by cases e⟩⟩
  have hc := hcell i (by omega)
  obtain ⟨b, off, spot⟩ := x
  have hspot : spot = none := by
    have := World.cell?_spot (hcell 0 (by omega))
    simpa [Addr.add] using this
  subst hspot
  have e : (⟨b, off, none⟩ : Addr).add i = ⟨b, off + i, none⟩ := by
    unfold Addr.add; split
    · rename_i h0; subst h0; rfl
    · rfl
  rw [e] at hc
  refine ⟨b, off, rfl, lt_of_cell hc, ?_⟩
  rw [hc]
  have : nth (zs.take l) i = zs.getD i 0 := by
    unfold nth
    simp [List.getElem?_take, hi]
  rw [this]

/-- k, k + 1, .. : what the laws write into a result. -/
def marks (k : Int) (n : Nat) : List Int := (List.range n).map fun (i : Nat) => k + (i : Int)
theorem marks_len (k : Int) (n : Nat) : (marks k n).length = n := by simp [marks]
theorem nth_marks {k : Int} {n i : Nat} (hi : i < n) : nth (marks k n) i = k + i := by simp [nth, marks, hi]
theorem eq_of_nth {xs ys : List Int} (hl : xs.length = ys.length) (h : ∀ i, i < xs.length → nth xs i = nth ys i) : xs = ys := by
  refine List.ext_getElem hl fun i h1 h2 => ?_
  have := h i h1
  rwa [nth_get h1, nth_get h2] at this
end Go.Proofs.YtfichpppjpgahaaGreatDoor
namespace Go.Proofs.YtfichpppjpgahaaGreatDoor
open Go.RowKit
set_option linter.unusedVariables false
set_option linter.unusedSimpArgs false

set_option maxHeartbeats 400000 in
theorem i_within (n lo hi : Int) (w : World) :
    Calls Tryz.prog 44 #[.int .i64 n, .int .i64 lo, .int .i64 hi] w fun e w' => e = .returned (.bool (inB n lo hi)) ∧ w = w' := by
  by_cases h1 : lo ≤ n
  · by_cases h2 : n ≤ hi
    · rw [show inB n lo hi = true from inB_iff.2 ⟨h1, h2⟩]
      go_enter Tryz.func44, Tryz.ntmps44
      go_wp2
      go_ret
      exact ⟨rfl, rfl⟩
    · rw [show inB n lo hi = false from inB_no.2 (by omega)]
      go_enter Tryz.func44, Tryz.ntmps44
      go_wp2
      go_ret
      exact ⟨rfl, rfl⟩
  · rw [show inB n lo hi = false from inB_no.2 (by omega)]
    go_enter Tryz.func44, Tryz.ntmps44
    go_wp2
    go_ret
    exact ⟨rfl, rfl⟩

set_option maxHeartbeats 1000000 in
theorem i_IsPrime (p : Int) (w : World) :
    Calls Tryz.prog 43 #[.int .i64 p] w fun e w' => e = .returned (.bool (prB p)) ∧ w = w' := by
  by_cases h1 : 2 ≤ p ∧ p ≤ 251
  · have hin : inB p 2 251 = true := inB_iff.2 h1
    obtain ⟨hp1, hp2⟩ := h1
    go_enter Tryz.func43, Tryz.ntmps43
    go_wp2_with (go_at_call 44; refine (i_within _ _ _ _).mono ?_; rintro e w' ⟨rfl, rfl⟩)
    go_loop [3] (fun d => ∃ n : Nat, 2 ≤ n ∧ n ≤ 16 ∧ d = .int .i64 n ∧ ∀ k : Nat, 2 ≤ k → k < n → p % k ≠ 0) (fun d => 20 - (intOf d).toNat)
    case atStart => exact ⟨2, by omega, by omega, rfl, fun k _ _ => by omega⟩
    case round =>
      obtain ⟨n, hn1, hn2, rfl, hall⟩ := hrel
      have H := Lib.hid hall; clear hall
      obtain ⟨hq1, hq2⟩ := mul_bd (a := n) (b := n) 16 16 (by omega) (by omega) (by omega) (by omega)
      by_cases hsq : (n : Int) * n ≤ p
      · have hn15 := sq_le (Int.natCast_nonneg n) hsq hp2
        by_cases hmod : p % (n : Int) = 0
        · have hf := prB_div hn1 hsq hp2 hmod
          go_wp2
          go_ret
          exact ⟨rfl, rfl⟩
        · go_wp2
          go_round
          case rel => exact ⟨n + 1, by omega, by omega, by go_num, fun k hk1 hk2 => by
            rcases Nat.lt_or_ge k n with g | g
            · exact H.out k hk1 g
            · obtain rfl : k = n := by omega
              exact hmod⟩
          case measure => simp [intOf]; omega
      · have hy := prB_yes hp1 hp2 n (by omega) H.out
        go_wp2
        go_ret
        exact ⟨rfl, rfl⟩
  · have hin : inB p 2 251 = false := inB_no.2 h1
    rw [prB_no h1]
    go_enter Tryz.func43, Tryz.ntmps43
    go_wp2_with (go_at_call 44; refine (i_within _ _ _ _).mono ?_; rintro e w' ⟨rfl, rfl⟩)
    go_ret
    exact ⟨rfl, rfl⟩

set_option maxHeartbeats 400000 in
theorem s_l1In (n lo hi : Int) (w : World) :
    Calls Tryz.prog 52 #[.int .i64 n, .int .i64 lo, .int .i64 hi] w fun e w' => e = .returned (.bool (inB n lo hi)) ∧ w = w' := by
  by_cases h1 : lo ≤ n
  · by_cases h2 : n ≤ hi
    · rw [show inB n lo hi = true from inB_iff.2 ⟨h1, h2⟩]
      go_enter Tryz.func52, Tryz.ntmps52
      go_wp2
      go_ret
      exact ⟨rfl, rfl⟩
    · rw [show inB n lo hi = false from inB_no.2 (by omega)]
      go_enter Tryz.func52, Tryz.ntmps52
      go_wp2
      go_ret
      exact ⟨rfl, rfl⟩
  · rw [show inB n lo hi = false from inB_no.2 (by omega)]
    go_enter Tryz.func52, Tryz.ntmps52
    go_wp2
    go_ret
    exact ⟨rfl, rfl⟩

set_option maxHeartbeats 1000000 in
theorem s_fpGood (p : Int) (w : World) :
    Calls Tryz.prog 67 #[.int .i64 p] w fun e w' => e = .returned (.bool (prB p)) ∧ w = w' := by
  by_cases h1 : 2 ≤ p ∧ p ≤ 251
  · have hin : inB p 2 251 = true := inB_iff.2 h1
    obtain ⟨hp1, hp2⟩ := h1
    go_enter Tryz.func67, Tryz.ntmps67
    go_wp2_with (go_at_call 52; refine (s_l1In _ _ _ _).mono ?_; rintro e w' ⟨rfl, rfl⟩)
    go_loop [3] (fun d => ∃ n : Nat, 2 ≤ n ∧ n ≤ 16 ∧ d = .int .i64 n ∧ ∀ k : Nat, 2 ≤ k → k < n → p % k ≠ 0) (fun d => 20 - (intOf d).toNat)
    case atStart => exact ⟨2, by omega, by omega, rfl, fun k _ _ => by omega⟩
    case round =>
      obtain ⟨n, hn1, hn2, rfl, hall⟩ := hrel
      have H := Lib.hid hall; clear hall
      obtain ⟨hq1, hq2⟩ := mul_bd (a := n) (b := n) 16 16 (by omega) (by omega) (by omega) (by omega)
      by_cases hsq : (n : Int) * n ≤ p
      · have hn15 := sq_le (Int.natCast_nonneg n) hsq hp2
        by_cases hmod : p % (n : Int) = 0
        · have hf := prB_div hn1 hsq hp2 hmod
          go_wp2
          go_ret
          exact ⟨rfl, rfl⟩
        · go_wp2
          go_round
          case rel => exact ⟨n + 1, by omega, by omega, by go_num, fun k hk1 hk2 => by
            rcases Nat.lt_or_ge k n with g | g
            · exact H.out k hk1 g
            · obtain rfl : k = n := by omega
              exact hmod⟩
          case measure => simp [intOf]; omega
      · have hy := prB_yes hp1 hp2 n (by omega) H.out
        go_wp2
        go_ret
        exact ⟨rfl, rfl⟩
  · have hin : inB p 2 251 = false := inB_no.2 h1
    rw [prB_no h1]
    go_enter Tryz.func67, Tryz.ntmps67
    go_wp2_with (go_at_call 52; refine (s_l1In _ _ _ _).mono ?_; rintro e w' ⟨rfl, rfl⟩)
    go_ret
    exact ⟨rfl, rfl⟩

set_option maxHeartbeats 1000000 in
theorem s_l1All (a : Option Addr) (n cap : Nat) (xs : List Int) (lo hi : Int) (w : World) (h : Ints w a n cap xs) :
    Calls Tryz.prog 70 #[.slice a n cap, .int .i64 lo, .int .i64 hi] w fun e w' => e = .returned (.bool (allIn xs lo hi)) ∧ w = w' := by
  have hs := h.small
  go_enter Tryz.func70, Tryz.ntmps70
  go_wp2
  go_loop [11] (fun i => ∃ k : Nat, k ≤ n ∧ i = .int .i64 k ∧ Hid (∀ j, j < k → inB (nth xs j) lo hi = true)) (fun i => n - (intOf i).toNat)
  case atStart => exact ⟨0, by omega, rfl, fun j hj => by omega⟩
  case round =>
    obtain ⟨k, hk, rfl, H⟩ := hrel
    by_cases hlt : k < n
    · obtain ⟨b, off, rfl, hbl, hc⟩ := h.at hlt
      cases hin : inB (nth xs k) lo hi with
      | true =>
        go_wp2_with (go_at_call 52; refine (s_l1In _ _ _ _).mono ?_; rintro e w' ⟨rfl, rfl⟩)
        go_round
        case rel => exact ⟨k + 1, by omega, by go_num, fun j hj => by
            rcases Nat.lt_or_ge j k with g | g
            · exact H.out j g
            · obtain rfl : j = k := by omega
              exact hin⟩
        case measure => simp [intOf]; omega
      | false =>
        have hr := allIn_no (xs := xs) (i := k) (by rw [h.len.out]; exact hlt) hin
        go_wp2_with (go_at_call 52; refine (s_l1In _ _ _ _).mono ?_; rintro e w' ⟨rfl, rfl⟩)
        go_ret
        exact ⟨by first | rfl | (rw [hr]; rfl), rfl⟩
    · obtain rfl : k = n := by omega
      have hr : allIn xs lo hi = true := allIn_iff.2 (by rw [h.len.out]; exact H.out)
      go_wp2
      go_ret
      exact ⟨by first | rfl | (rw [hr]; rfl), rfl⟩

set_option maxHeartbeats 400000 in
theorem s_fpIn (p : Int) (a : Option Addr) (n cap : Nat) (xs : List Int) (w : World) (h : Ints w a n cap xs) :
    Calls Tryz.prog 61 #[.int .i64 p, .slice a n cap] w fun e w' => e = .returned (.bool (elsB p xs)) ∧ w = w' := by
  unfold elsB
  cases h1 : prB p with
  | true =>
    have hp := prB_lo h1
    go_enter Tryz.func61, Tryz.ntmps61
    go_wp2_with (first | (go_at_call 67; refine (s_fpGood _ _).mono ?_; rintro e w' ⟨rfl, rfl⟩) | (go_at_call 70; refine (s_l1All _ _ _ _ _ _ _ h).mono ?_; rintro e w' ⟨rfl, rfl⟩))
    go_ret
    exact ⟨rfl, rfl⟩
  | false =>
    go_enter Tryz.func61, Tryz.ntmps61
    go_wp2_with (first | (go_at_call 67; refine (s_fpGood _ _).mono ?_; rintro e w' ⟨rfl, rfl⟩))
    go_ret
    exact ⟨rfl, rfl⟩

set_option maxHeartbeats 1000000 in
theorem g_IndexFunc (a : Option Addr) (n cap : Nat) (xs : List Int) (p : Int → Bool) (g : Nat) (lb : Array Value) (eg : ∀ args w, (callFunc g args).run Tryz.prog w = .ok (.enter g args) w) (w : World) (h : Ints w a n cap xs)
    (hp : Hid (∀ (W : World) (x : Int), Below w.heap.size w W → Fits x → Calls Tryz.prog g (#[.int .i64 x] ++ lb) W fun e w' => e = .returned (.bool (p x)) ∧ Below w.heap.size w w')) :
    Calls Tryz.prog 81 #[.slice a n cap, .func (.func g) #[] lb] w fun e w' => (∃ r : Int, e = .returned (.int .i64 r) ∧ xs.any p = decide (0 ≤ r)) ∧ Below w.heap.size w w' := by
  have hs := h.small
  go_enter Tryz.func81, Tryz.ntmps81
  go_wp2
  go_loopw [8] (fun i wr => ∃ k : Nat, k ≤ n ∧ i = .int .i64 k ∧ Hid (∀ j, j < k → p (nth xs j) = false) ∧ Hid (Below w.heap.size w wr)) (fun i _ => n - (intOf i).toNat)
  case atStart => exact ⟨0, by omega, rfl, fun j hj => by omega, Below.refl _ _⟩
  case round =>
    obtain ⟨k, hk, rfl, H, BW⟩ := hrel
    by_cases hlt : k < n
    · obtain ⟨b, off, rfl, hbl, hc⟩ := (h.below BW.out).at hlt
      have hcall := hp.out wr (nth xs k) BW.out (h.fit hlt)
      cases hin : p (nth xs k) with
      | false =>
        rw [hin] at hcall
        have HC := Lib.hid hcall; clear hcall
        go_wp2_with (go_at_fn g; refine HC.out.mono ?_; rintro e w' ⟨rfl, hb'⟩)
        go_roundw
        case rel => exact ⟨k + 1, by omega, by go_num, (show Hid _ from fun j hj => by
            rcases Nat.lt_or_ge j k with g | g
            · exact H.out j g
            · obtain rfl : j = k := by omega
              exact hin), hb'⟩
        case measure => simp [intOf]; omega
      | true =>
        rw [hin] at hcall
        have HC := Lib.hid hcall; clear hcall
        have hr : xs.any p = true := any_yes (xs := xs) (p := p) (i := k) (by rw [h.len.out]; exact hlt) hin
        go_wp2_with (go_at_fn g; refine HC.out.mono ?_; rintro e w' ⟨rfl, hb'⟩)
        go_ret
        exact ⟨⟨_, rfl, by rw [hr]; simp⟩, hb'⟩
    · obtain rfl : k = n := by omega
      have hr : xs.any p = false := any_no (by rw [h.len.out]; exact H.out)
      go_wp2
      go_ret
      exact ⟨⟨_, rfl, by rw [hr]; simp⟩, BW.out⟩

set_option maxHeartbeats 1000000 in
theorem g_ContainsFunc (a : Option Addr) (n cap : Nat) (xs : List Int) (p : Int → Bool) (g : Nat) (lb : Array Value) (eg : ∀ args w, (callFunc g args).run Tryz.prog w = .ok (.enter g args) w) (w : World) (h : Ints w a n cap xs)
    (hp : Hid (∀ (W : World) (x : Int), Below w.heap.size w W → Fits x → Calls Tryz.prog g (#[.int .i64 x] ++ lb) W fun e w' => e = .returned (.bool (p x)) ∧ Below w.heap.size w w')) :
    Calls Tryz.prog 71 #[.slice a n cap, .func (.func g) #[] lb] w fun e w' => e = .returned (.bool (xs.any p)) ∧ Below w.heap.size w w' := by
  go_enter Tryz.func71, Tryz.ntmps71
  go_wp2_with (go_at_call 81; refine (g_IndexFunc _ _ _ _ p g lb eg _ h hp).mono ?_; rintro e w' ⟨⟨r, rfl, hr⟩, hb'⟩)
  go_ret
  exact ⟨ret_bool hr.symm, hb'⟩

set_option maxHeartbeats 1000000 in
theorem i_areAll1 (x : Int) (b : Nat) (q : Bool) (g : Nat) (lb : Array Value) (eg : ∀ args w, (callFunc g args).run Tryz.prog w = .ok (.enter g args) w) (w : World)
    (hc : w.cell? ⟨b, 0, none⟩ = some (.func (.func g) #[] lb)) (R : World → Prop) (hp : Hid (Calls Tryz.prog g (#[.int .i64 x] ++ lb) w fun e w' => e = .returned (.bool q) ∧ R w')) :
    Calls Tryz.prog 72 #[.int .i64 x, .pointer (some ⟨b, 0, none⟩)] w fun e w' => e = .returned (.bool (!q)) ∧ R w' := by
  go_enter Tryz.func72, Tryz.ntmps72
  go_wp2_with (go_at_fn g; refine hp.out.mono ?_; rintro e w' ⟨rfl, hb'⟩)
  go_ret
  exact ⟨rfl, hb'⟩

set_option maxHeartbeats 1000000 in
theorem i_areAll (a : Option Addr) (n cap : Nat) (xs : List Int) (p : Int → Bool) (g : Nat) (lb : Array Value) (eg : ∀ args w, (callFunc g args).run Tryz.prog w = .ok (.enter g args) w) (w : World) (h : Ints w a n cap xs)
    (hp : Hid (∀ (W : World) (x : Int), Below w.heap.size w W → Fits x → Calls Tryz.prog g (#[.int .i64 x] ++ lb) W fun e w' => e = .returned (.bool (p x)) ∧ W = w')) :
    Calls Tryz.prog 47 #[.slice a n cap, .func (.func g) #[] lb] w fun e w' => e = .returned (.bool (xs.all p)) ∧ Below w.heap.size w w' := by
  have eA : ∀ args w, (callFunc 72 args).run Tryz.prog w = .ok (.enter 72 args) w := enters_of Tryz.func72 (by kernel_rfl) rfl
  have hg := g_ContainsFunc a n cap xs (fun x => !p x) 72 #[.pointer (some ⟨w.heap.size, 0, none⟩)] eA (w.alloc (.cells #[.func (.func g) #[] lb] 57)) (h.alloc _) (fun W x hW hx => by
    have hc : W.cell? ⟨w.heap.size, 0, none⟩ = some (.func (.func g) #[] lb) := by
      rw [hW.cell (p := ⟨w.heap.size, 0, none⟩) (by simp)]
      exact World.cell?_alloc_at _ _ _ _ rfl
    refine (i_areAll1 x w.heap.size (p x) g lb eg W hc (fun w' => W = w') (hp.out W x (((Below.refl _ _).alloc (Nat.le_refl _) _).trans (hW.mono (by simp))) hx)).mono fun e w' ⟨he, hw⟩ => ⟨he, hw ▸ hW⟩)
  have HG := Lib.hid hg; clear hg
  have hall : (!xs.any fun x => !p x) = xs.all p := by simp [List.all_eq_not_any_not]
  clear hp eg
  go_enter Tryz.func47, Tryz.ntmps47
  go_wp2_with (go_at_call 71; refine HG.out.mono ?_; rintro e w' ⟨rfl, hb'⟩)
  go_ret
  exact ⟨by first | rfl | exact ret_bool hall, ((Below.refl _ _).alloc (Nat.le_refl _) _).trans (hb'.mono (by simp))⟩

set_option maxHeartbeats 1000000 in
theorem i_areElements1 (x p : Int) (b : Nat) (w : World) (hc : w.cell? ⟨b, 0, none⟩ = some (.int .i64 p)) (hp : 2 ≤ p ∧ p ≤ 251) :
    Calls Tryz.prog 59 #[.int .i64 x, .pointer (some ⟨b, 0, none⟩)] w fun e w' => e = .returned (.bool (inB x 0 (p - 1))) ∧ w = w' := by
  obtain ⟨hp1, hp2⟩ := hp
  go_enter Tryz.func59, Tryz.ntmps59
  go_wp2_with (go_at_call 44; refine (i_within _ _ _ _).mono ?_; rintro e w' ⟨rfl, rfl⟩)
  go_ret
  exact ⟨rfl, rfl⟩

set_option maxHeartbeats 1000000 in
theorem i_areElements (p : Int) (a : Option Addr) (n cap : Nat) (xs : List Int) (w : World) (h : Ints w a n cap xs) :
    Calls Tryz.prog 24 #[.int .i64 p, .slice a n cap] w fun e w' => e = .returned (.bool (elsB p xs)) ∧ Below w.heap.size w w' := by
  unfold elsB
  cases h1 : prB p with
  | true =>
    have hp := prB_lo h1
    have eA : ∀ args w, (callFunc 59 args).run Tryz.prog w = .ok (.enter 59 args) w := enters_of Tryz.func59 (by kernel_rfl) rfl
    have hg := i_areAll a n cap xs (fun x => inB x 0 (p - 1)) 59 #[.pointer (some ⟨w.heap.size, 0, none⟩)] eA (w.alloc (.cells #[.int .i64 p] 3)) (h.alloc _) (fun W x hW hx =>
      i_areElements1 x p w.heap.size W (by
        rw [hW.cell (p := ⟨w.heap.size, 0, none⟩) (by simp)]
        exact World.cell?_alloc_at _ _ _ _ rfl) hp)
    have HG := Lib.hid hg; clear hg
    go_enter Tryz.func24, Tryz.ntmps24
    go_wp2_with (first | (go_at_call 43; refine (i_IsPrime _ _).mono ?_; rintro e w' ⟨rfl, rfl⟩) | (go_at_call 47; refine HG.out.mono ?_; rintro e w' ⟨rfl, hb'⟩))
    go_ret
    exact ⟨rfl, ((Below.refl _ _).alloc (Nat.le_refl _) _).trans (hb'.mono (by simp))⟩
  | false =>
    go_enter Tryz.func24, Tryz.ntmps24
    go_wp2_with (first | (go_at_call 43; refine (i_IsPrime _ _).mono ?_; rintro e w' ⟨rfl, rfl⟩))
    go_ret
    exact ⟨rfl, (Below.refl _ _).alloc (Nat.le_refl _) _⟩
end Go.Proofs.YtfichpppjpgahaaGreatDoor
