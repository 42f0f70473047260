/-
  Plain laws: Gauss's elimination over a field of residues.
  Plain laws: what Gauss's elimination ends with solves the equations.
  Contracts: powers, inverses and values of polynomials.
  Contracts: parts of slices, a number in a list, sorted lists that grow, lists of different numbers.
  Contracts: points.
  A polynomial times x + a: the stages of the loop; the reference's fpTimes.
  Plain laws: arithmetic circuits: values, degrees, forms of degree one.
-/
import Derived.Test.YtfichpppjpgahaaGreatDoorFm6
import Derived.Test.YtfichpppjpgahaaGreatDoorFm0
import Derived.Test.YtfichpppjpgahaaGreatDoorFm4
import Derived.Test.YtfichpppjpgahaaGreatDoorFm1
namespace Go.Proofs.YtfichpppjpgahaaGreatDoor
set_option linter.unusedVariables false
set_option linter.unusedSimpArgs false

/-- A matrix, by its entries. -/
abbrev Mat := Nat → Nat → Int
def dotF (r : Nat → Int) (s : Nat → Int) : Nat → Int
  | 0 => 0
  | n + 1 => dotF r s n + r n * s n
/-- A row of n unknowns and its right side is fulfilled. -/
def okR (p : Int) (n : Nat) (r : Nat → Int) (s : Nat → Int) : Prop := (dotF r s n - r n) % p = 0
def swp (M : Mat) (c k : Nat) : Mat := fun i => if i = c then M k else if i = k then M c else M i
def stepM (p : Int) (M : Mat) (c k : Nat) : Mat := fun i j =>
  if i = c then swp M c k c j * invP p (swp M c k c c) % p
  else (swp M c k i j - swp M c k i c * (swp M c k c j * invP p (swp M c k c c) % p)) % p
theorem dotF_mod (p u : Int) (r q : Nat → Int) (s : Nat → Int) (f : Int) : ∀ n, (∀ j, j < n → q j % p = (r j * u) % p) → dotF q s n % p = u * dotF r s n % p
  | 0, _ => by simp [dotF]
  | n + 1, h => by
    have ih := dotF_mod p u r q s f n (fun j hj => h j (by omega))
    rw [dotF, dotF, Int.add_emod, ih, Int.mul_emod (q n), h n (by omega), ← Int.mul_emod, ← Int.add_emod]
    congr 1
    grind
theorem dotF_lin (p f : Int) (a b q : Nat → Int) (s : Nat → Int) : ∀ n, (∀ j, j < n → q j % p = (a j - f * b j) % p) → dotF q s n % p = (dotF a s n - f * dotF b s n) % p
  | 0, _ => by simp [dotF]
  | n + 1, h => by
    have ih := dotF_lin p f a b q s n (fun j hj => h j (by omega))
    rw [dotF, dotF, dotF, Int.add_emod, ih, Int.mul_emod (q n), h n (by omega), ← Int.mul_emod, ← Int.add_emod]
    congr 1
    grind
theorem sub_z {a b p : Int} (h : a % p = b % p) (hb : b % p = 0) : a % p = 0 := by rw [h, hb]
/-- What fulfils the scaled row fulfils the row. -/
theorem okR_scale {p : Nat} (hp : Pr p) {n : Nat} {r q s : Nat → Int} {u v : Int} (huv : u * v % (p : Int) = 1) (hq : ∀ j, j ≤ n → q j % (p : Int) = r j * u % p) (h : okR p n q s) : okR p n r s := by
  unfold okR at h ⊢
  have h1 := dotF_mod p u r q s 0 n (fun j hj => hq j (by omega))
  have h2 : (dotF q s n - q n) % (p : Int) = u * (dotF r s n - r n) % p := by
    rw [Int.sub_emod, h1, hq n (Nat.le_refl _), ← Int.sub_emod]; congr 1; grind
  rw [h2] at h
  have hu : u % (p : Int) ≠ 0 := fun z => by
    rw [Int.mul_emod, z, Int.zero_mul, Int.zero_emod] at huv; omega
  rcases hp.mul h with z | z
  · exact absurd z hu
  · exact z
/-- What fulfils the difference and the other row fulfils the row. -/
theorem okR_elim {p : Int} {n : Nat} {a b q s : Nat → Int} {f : Int} (hq : ∀ j, j ≤ n → q j % p = (a j - f * b j) % p) (h : okR p n q s) (hb : okR p n b s) : okR p n a s := by
  unfold okR at h hb ⊢
  have h1 := dotF_lin p f a b q s n (fun j hj => hq j (by omega))
  have h2 : (dotF q s n - q n) % p = ((dotF a s n - a n) - f * (dotF b s n - b n)) % p := by
    rw [Int.sub_emod, h1, hq n (Nat.le_refl _), ← Int.sub_emod]; congr 1; grind
  rw [h2, Int.sub_emod, Int.mul_emod, hb, Int.mul_zero, Int.zero_emod, Int.sub_zero, Int.emod_emod] at h
  exact h
/-- A step keeps what fulfils the rows. -/
theorem step_ok {p : Nat} (hp : Pr p) {n c k : Nat} (hc : c < n) (hk : k < n) {M : Mat} {s : Nat → Int} (hv : M k c % (p : Int) ≠ 0) (h : ∀ i, i < n → okR p n (stepM p M c k i) s) : ∀ i, i < n → okR p n (M i) s := by
  have hpos := hp.1
  have huv : invP p (swp M c k c c) * (swp M c k c c) % (p : Int) = 1 := by
    have e : swp M c k c c = M k c := by unfold swp; rw [if_pos rfl]
    rw [e]; exact inv_val hp hv
  have hpiv : okR p n (swp M c k c) s := okR_scale hp huv (q := stepM p M c k c) (fun j _ => by unfold stepM; rw [if_pos rfl, Int.emod_emod]) (h c hc)
  have hstp : okR p n (fun j => swp M c k c j * invP p (swp M c k c c) % p) s := by
    have := h c hc
    unfold stepM at this
    simpa using this
  have hsw : ∀ i, i < n → okR p n (swp M c k i) s := fun i hi => by
    by_cases e : i = c
    · subst e; exact hpiv
    · exact okR_elim (q := stepM p M c k i) (f := swp M c k i c) (fun j _ => by unfold stepM; rw [if_neg e, Int.emod_emod]) (h i hi) hstp
  intro i hi
  by_cases e : i = k
  · subst e
    have := hsw c hc
    unfold swp at this; rw [if_pos rfl] at this; exact this
  · by_cases e2 : i = c
    · subst e2
      have := hsw k hk
      unfold swp at this
      rw [if_neg (fun z => e z.symm), if_pos rfl] at this; exact this
    · have := hsw i hi
      unfold swp at this
      rw [if_neg e2, if_neg e] at this; exact this
/-- The first columns are those of the unit. -/
def unitC (M : Mat) (n c : Nat) : Prop := ∀ i j, i < n → j < c → M i j = if i = j then 1 else 0
def redM (p : Int) (M : Mat) (n : Nat) : Prop := ∀ i j, i < n → j ≤ n → 0 ≤ M i j ∧ M i j < p
theorem swp_red {p : Int} {M : Mat} {n c k : Nat} (hc : c < n) (hk : k < n) (h : redM p M n) : redM p (swp M c k) n := fun i j hi hj => by
  unfold swp; split
  · exact h k j hk hj
  · split
    · exact h c j hc hj
    · exact h i j hi hj
theorem step_red {p : Int} (hp : 2 ≤ p) (M : Mat) (n c k : Nat) : redM p (stepM p M c k) n := fun i j _ _ => by
  unfold stepM; split <;> exact ⟨Int.emod_nonneg _ (by omega), Int.emod_lt_of_pos _ (by omega)⟩
theorem step_unit {p : Nat} (hp : Pr p) {n c k : Nat} (hc : c < n) (hck : c ≤ k) (hk : k < n) {M : Mat} (hr : redM p M n) (hu : unitC M n c) (hv : M k c % (p : Int) ≠ 0) : unitC (stepM p M c k) n (c + 1) := by
  have hpos := hp.1
  have hsr := swp_red hc hk hr
  have e0 : swp M c k c = M k := by unfold swp; rw [if_pos rfl]
  have hz : ∀ j, j < c → swp M c k c j = 0 := fun j hj => by rw [e0, hu k j hk hj, if_neg (by omega)]
  have hone : swp M c k c c * invP p (swp M c k c c) % (p : Int) = 1 := by rw [e0, Int.mul_comm]; exact inv_val hp hv
  intro i j hi hj
  by_cases e : i = c
  · subst e
    unfold stepM
    rw [if_pos rfl]
    by_cases e2 : j = i
    · subst e2; rw [hone, if_pos rfl]
    · rw [hz j (by omega), Int.zero_mul, Int.zero_emod, if_neg (by omega)]
  · unfold stepM
    rw [if_neg e]
    have hb := hsr i j hi (by omega)
    by_cases e2 : j = c
    · subst e2
      rw [hone, Int.mul_one, Int.sub_self, Int.zero_emod, if_neg e]
    · rw [hz j (by omega), Int.zero_mul, Int.zero_emod, Int.mul_zero, Int.sub_zero, Int.emod_eq_of_lt hb.1 hb.2]
      unfold swp
      rw [if_neg e]
      split
      · rename_i e3; subst e3
        rw [hu c j hc (by omega), if_neg (by omega), if_neg (by omega)]
      · exact hu i j hi (by omega)
theorem dot_unit (r s : Nat → Int) (i : Nat) : ∀ n, (∀ j, j < n → r j = if i = j then 1 else 0) → dotF r s n = if i < n then s i else 0
  | 0, _ => by simp [dotF]
  | n + 1, h => by
    rw [dotF, dot_unit r s i n (fun j hj => h j (by omega)), h n (by omega)]
    by_cases e : i = n
    · subst e; rw [if_neg (by omega), if_pos rfl, if_pos (by omega)]; omega
    · rw [if_neg e]
      by_cases e2 : i < n
      · rw [if_pos e2, if_pos (by omega)]; omega
      · rw [if_neg e2, if_neg (by omega)]; omega
/-- The right side of the unit matrix fulfils its rows. -/
theorem unit_ok {p : Int} {M : Mat} {n : Nat} (hu : unitC M n n) : ∀ i, i < n → okR p n (M i) (fun j => M j n) := fun i hi => by
  unfold okR
  rw [dot_unit (M i) _ i n (fun j hj => hu i j hi hj), if_pos hi]
  simp
end Go.Proofs.YtfichpppjpgahaaGreatDoor
namespace Go.Proofs.YtfichpppjpgahaaGreatDoor
set_option linter.unusedVariables false
set_option linter.unusedSimpArgs false

/-- The first row from k on whose entry in column c is not 0, or n. -/
def pvF (M : Mat) (c n : Nat) : Nat → Nat → Nat
  | 0, k => k
  | f + 1, k => if k < n ∧ M k c = 0 then pvF M c n f (k + 1) else k
theorem pvF_spec (M : Mat) (c n : Nat) : ∀ f k, k ≤ n → n ≤ k + f → k ≤ pvF M c n f k ∧ pvF M c n f k ≤ n ∧ (pvF M c n f k < n → M (pvF M c n f k) c ≠ 0)
  | 0, k, h1, h2 => ⟨Nat.le_refl _, h1, fun h => by show M k c ≠ 0; have : k < n := h; omega⟩
  | f + 1, k, h1, h2 => by
    rw [pvF]
    by_cases h : k < n ∧ M k c = 0
    · rw [if_pos h]
      have ih := pvF_spec M c n f (k + 1) (by omega) (by omega)
      exact ⟨by omega, ih.2.1, ih.2.2⟩
    · rw [if_neg h]
      exact ⟨Nat.le_refl _, h1, fun hk e => h ⟨hk, e⟩⟩
theorem pvF_go {M : Mat} {c n f k : Nat} (h : k < n) (e : M k c = 0) : pvF M c n (f + 1) k = pvF M c n f (k + 1) := by rw [pvF, if_pos ⟨h, e⟩]
theorem pvF_stop {M : Mat} {c n f k : Nat} (h : ¬ (k < n ∧ M k c = 0)) : pvF M c n (f + 1) k = k := by rw [pvF, if_neg h]
def gaussS (p : Int) (M : Mat) (n : Nat) : Nat → Option Mat
  | 0 => some M
  | c + 1 => match gaussS p M n c with
    | none => none
    | some A => if pvF A c n (n - c) c = n then none else some (stepM p A c (pvF A c n (n - c) c))
theorem gaussS_inv {p : Nat} (hp : Pr p) {M : Mat} {n : Nat} (hr : redM p M n) : ∀ c, c ≤ n → ∀ A, gaussS p M n c = some A → redM p A n ∧ unitC A n c ∧ ∀ s : Nat → Int, (∀ i, i < n → okR p n (A i) s) → ∀ i, i < n → okR p n (M i) s
  | 0, _, A, h => by
    simp only [gaussS, Option.some.injEq] at h; subst h
    exact ⟨hr, fun i j _ hj => by omega, fun s hs => hs⟩
  | c + 1, hc, A, h => by
    rw [gaussS] at h
    cases e : gaussS p M n c with
    | none => rw [e] at h; cases h
    | some B =>
      rw [e] at h
      dsimp only at h
      obtain ⟨b1, b2, b3⟩ := gaussS_inv hp hr c (by omega) B e
      obtain ⟨k1, k2, k3⟩ := pvF_spec B c n (n - c) c (by omega) (by omega)
      generalize pvF B c n (n - c) c = k at h k1 k2 k3
      by_cases ek : k = n
      · rw [if_pos ek] at h; cases h
      · rw [if_neg ek] at h
        simp only [Option.some.injEq] at h
        subst h
        have hkn : k < n := by omega
        have hb := b1 k c hkn (by omega)
        have hne := k3 hkn
        have hv : B k c % (p : Int) ≠ 0 := by rw [Int.emod_eq_of_lt hb.1 hb.2]; exact hne
        have hpos := hp.1
        exact ⟨step_red (by omega) B n c k, step_unit hp (by omega) k1 hkn b1 b2 hv, fun s hs => b3 s (step_ok hp (by omega) hkn hv hs)⟩
/-- What is found solves the equations. -/
theorem gauss_law {p : Nat} (hp : Pr p) {M A : Mat} {n : Nat} (hr : redM p M n) (h : gaussS p M n n = some A) : ∀ i, i < n → (dotF (M i) (fun j => A j n) n - M i n) % (p : Int) = 0 := by
  obtain ⟨_, hu, hs⟩ := gaussS_inv hp hr n (Nat.le_refl _) A h
  exact hs _ (unit_ok hu)
end Go.Proofs.YtfichpppjpgahaaGreatDoor
namespace Go.Proofs.YtfichpppjpgahaaGreatDoor
open Go.RowKit
set_option linter.unusedVariables false
set_option linter.unusedSimpArgs false

theorem hor_drop {p x : Int} {l : List Int} {i : Nat} (h : i < l.length) : hor p x (l.drop i) = (hor p x (l.drop (i + 1)) * x + nth l i) % p := by
  rw [List.drop_eq_getElem_cons h, hor, nth_get h]
theorem hor_top (p x : Int) (l : List Int) : hor p x (l.drop l.length) = 0 := by rw [List.drop_length]; rfl
end Go.Proofs.YtfichpppjpgahaaGreatDoor
namespace Go.Proofs.YtfichpppjpgahaaGreatDoor
open Go.RowKit
set_option linter.unusedVariables false
set_option linter.unusedSimpArgs false

theorem Ints.take {w : World} {a : Option Addr} {n cap : Nat} {xs : List Int} (h : Ints w a n cap xs) {k : Nat} (hk : k ≤ n) : Ints w a k cap (xs.take k) :=
  ⟨by show _ = _; rw [List.length_take, h.len.out]; omega, Nat.le_trans hk h.ncap, Nat.le_trans hk h.small, h.capm, fun i hi => by
    obtain ⟨b, off, e, hl, hc⟩ := h.cell.out i (by omega)
    refine ⟨b, off, e, hl, ?_⟩
    have : nth (xs.take k) i = nth xs i := by unfold nth; rw [List.getD_eq_getElem?_getD, List.getD_eq_getElem?_getD, List.getElem?_take_of_lt hi]
    rw [this]; exact hc, fun x hx => h.wf.out x (List.mem_of_mem_take hx), h.nilc⟩
theorem Ints.drop {w : World} {b off n cap : Nat} {xs : List Int} (h : Ints w (some ⟨b, off, none⟩) n cap xs) {k : Nat} (hk : k ≤ n) : Ints w (some ⟨b, off + k, none⟩) (n - k) (cap - k) (xs.drop k) :=
  ⟨by show _ = _; rw [List.length_drop, h.len.out], Nat.sub_le_sub_right h.ncap k, Nat.le_trans (Nat.sub_le _ _) h.small, Nat.le_trans (Nat.sub_le _ _) h.capm, fun i hi => by
    obtain ⟨b', off', e, hl, hc⟩ := h.cell.out (k + i) (by omega)
    simp only [Option.some.injEq, Addr.mk.injEq] at e
    obtain ⟨rfl, rfl, _⟩ := e
    refine ⟨_, _, rfl, hl, ?_⟩
    have : nth (xs.drop k) i = nth xs (k + i) := by unfold nth; rw [List.getD_eq_getElem?_getD, List.getD_eq_getElem?_getD, List.getElem?_drop]
    rw [this, Nat.add_assoc]; exact hc, fun x hx => h.wf.out x (List.mem_of_mem_drop hx), fun e => by cases e⟩
/-- A part of a nil slice. -/
theorem Ints.empty {w : World} {b off cap : Nat} (h : cap ≤ 9223372036854775807) : Ints w (some ⟨b, off, none⟩) 0 cap [] :=
  ⟨rfl, Nat.zero_le _, Nat.zero_le _, h, fun i hi => by omega, fun x hx => (by cases hx), fun e => by cases e⟩
theorem Ints.nil_n {w : World} {n cap : Nat} {xs : List Int} (h : Ints w none n cap xs) : n = 0 ∧ cap = 0 ∧ xs = [] := by
  have hc := h.nilc.out rfl
  have hnc := h.ncap
  have hlen := h.len.out
  refine ⟨by omega, hc, List.length_eq_zero_iff.1 (by omega)⟩

theorem put_pure {l : List Int} {x : Int} {k : Nat} (hs : l.Pairwise (· < ·)) (hk : k ≤ l.length) (h1 : ∀ i, i < k → nth l i < x) (h2 : k < l.length → x < nth l k) :
    (l.take k ++ [x] ++ l.drop k).Pairwise (· < ·) ∧ x ∉ l ∧ ∀ y, y ∈ l.take k ++ [x] ++ l.drop k ↔ y ∈ l ∨ y = x := by
  have ht : ∀ y ∈ l.take k, y < x := fun y hy => by
    obtain ⟨i, hi, rfl⟩ := List.mem_iff_getElem.1 hy
    rw [List.length_take] at hi
    rw [List.getElem_take]
    have := h1 i (by omega)
    rwa [nth_get (by omega)] at this
  have hd : ∀ y ∈ l.drop k, x < y := fun y hy => by
    obtain ⟨i, hi, rfl⟩ := List.mem_iff_getElem.1 hy
    rw [List.length_drop] at hi
    rw [List.getElem_drop]
    have h3 := h2 (by omega)
    rw [nth_get (by omega)] at h3
    rcases Nat.eq_zero_or_pos i with rfl | hp
    · exact h3
    · have := List.pairwise_iff_getElem.1 hs k (k + i) (by omega) (by omega) (by omega)
      omega
  have hs' := hs
  rw [← List.take_append_drop k l, List.pairwise_append] at hs'
  obtain ⟨s1, s2, s3⟩ := hs'
  refine ⟨?_, ?_, fun y => ?_⟩
  · rw [List.pairwise_append, List.pairwise_append]
    refine ⟨⟨s1, by simp, fun a ha b hb => by simp at hb; subst hb; exact ht a ha⟩, s2, fun a ha b hb => ?_⟩
    rw [List.mem_append] at ha
    rcases ha with ha | ha
    · exact s3 a ha b hb
    · simp at ha; subst ha; exact hd b hb
  · intro hm
    rw [← List.take_append_drop k l, List.mem_append] at hm
    rcases hm with hm | hm
    · have := ht x hm; omega
    · have := hd x hm; omega
  · conv => rhs; rw [← List.take_append_drop k l]
    simp only [List.mem_append, List.mem_singleton]
    constructor
    · rintro ((h | h) | h)
      · exact .inl (.inl h)
      · exact .inr h
      · exact .inl (.inr h)
    · rintro ((h | h) | h)
      · exact .inl (.inl h)
      · exact .inr h
      · exact .inl (.inr h)
theorem nth_take {l : List Int} {k j : Nat} (h : j < k) : nth (l.take k) j = nth l j := by
  unfold nth; rw [List.getD_eq_getElem?_getD, List.getD_eq_getElem?_getD, List.getElem?_take_of_lt h]
end Go.Proofs.YtfichpppjpgahaaGreatDoor
namespace Go.Proofs.YtfichpppjpgahaaGreatDoor
open Go.RowKit
set_option linter.unusedVariables false
set_option linter.unusedSimpArgs false

theorem nodup_take {xs : List Int} {k : Nat} (hk : k < xs.length) : (xs.take (k + 1)).Nodup ↔ (xs.take k).Nodup ∧ nth xs k ∉ xs.take k := by
  rw [List.take_succ_eq_append_getElem hk, List.nodup_append, nth_get hk]
  constructor
  · rintro ⟨h1, _, h3⟩
    exact ⟨h1, fun hm => h3 _ hm _ (by simp) rfl⟩
  · rintro ⟨h1, h2⟩
    refine ⟨h1, by simp, fun a ha b hb e => ?_⟩
    simp at hb; subst hb; subst e; exact h2 ha
theorem mem_take_succ {xs : List Int} {k : Nat} (hk : k < xs.length) (y : Int) : y ∈ xs.take (k + 1) ↔ y ∈ xs.take k ∨ y = nth xs k := by
  rw [List.take_succ_eq_append_getElem hk, List.mem_append, nth_get hk, List.mem_singleton]
theorem nodup_of_take {xs : List Int} {k : Nat} (h : xs.Nodup) : (xs.take k).Nodup := (List.take_sublist k xs).nodup h
def ptsB (p : Int) (xs ys : List Int) : Bool := elsB p xs && (elsB p ys && (decide (xs.length ≤ 12) && (decide (xs.length = ys.length) && decide xs.Nodup)))
end Go.Proofs.YtfichpppjpgahaaGreatDoor
namespace Go.Proofs.YtfichpppjpgahaaGreatDoor
open Go.RowKit
set_option linter.unusedVariables false
set_option linter.unusedSimpArgs false

/-- The factor before place j. -/
def pvL (l : List Int) (j : Nat) : Int := if j = 0 then 0 else nth l (j - 1)
/-- What stands at place j behind i rounds. -/
def stg (p a : Int) (l : List Int) (i j : Nat) : Int := if j < i then (pvL l j % p + nth l j * a) % p else if j = i then pvL l j % p else 0
theorem nth_consS (c : Int) (cs : List Int) (j : Nat) : nth (c :: cs) (j + 1) = nth cs j := by simp [nth]
theorem nth_cons0 (c : Int) (cs : List Int) : nth (c :: cs) 0 = c := by simp [nth]
theorem nth_mxGo (p a : Int) : ∀ (l : List Int) (prev : Int) (j : Nat), j ≤ l.length → nth (mxGo p a prev l) j = if j < l.length then ((if j = 0 then prev else nth l (j - 1)) % p + nth l j * a) % p else (if j = 0 then prev else nth l (j - 1)) % p
  | [], prev, j, h => by
    obtain rfl : j = 0 := by simpa using h
    simp [mxGo, nth]
  | c :: cs, prev, 0, h => by simp [mxGo, nth_cons0]
  | c :: cs, prev, j + 1, h => by
    rw [mxGo, nth_consS, nth_mxGo p a cs c j (by simpa using h)]
    have e : (if j = 0 then c else nth cs (j - 1)) = nth (c :: cs) j := by
      cases j with
      | zero => simp [nth_cons0]
      | succ j => simp [nth_consS]
    simp only [e, nth_consS, List.length_cons, Nat.add_lt_add_iff_right, Nat.add_one_ne_zero, if_false, Nat.add_sub_cancel]
theorem stg_end (p a : Int) (l : List Int) (j : Nat) (h : j ≤ l.length) : stg p a l l.length j = nth (mx p a l) j := by
  unfold mx
  rw [nth_mxGo p a l 0 j h]
  unfold stg pvL
  by_cases h1 : j < l.length
  · rw [if_pos h1, if_pos h1]
  · have : j = l.length := by omega
    rw [if_neg h1, if_neg h1, if_pos this]
theorem stg_0 (p a : Int) (l : List Int) (j : Nat) : stg p a l 0 j = 0 := by
  unfold stg pvL
  rw [if_neg (by omega)]
  split
  · rename_i h; subst h; simp
  · rfl
theorem stg_bd {p : Int} (hp : 2 ≤ p) (a : Int) (l : List Int) (i j : Nat) : 0 ≤ stg p a l i j ∧ stg p a l i j < p := by
  unfold stg
  split
  · exact ⟨Int.emod_nonneg _ (by omega), Int.emod_lt_of_pos _ (by omega)⟩
  · split
    · exact ⟨Int.emod_nonneg _ (by omega), Int.emod_lt_of_pos _ (by omega)⟩
    · exact ⟨Int.le_refl _, by omega⟩
theorem stg_lo (p a : Int) (l : List Int) (i : Nat) : (stg p a l i i + nth l i * a) % p = stg p a l (i + 1) i := by
  unfold stg
  rw [if_neg (by omega), if_pos rfl, if_pos (by omega)]
theorem stg_hi (p a : Int) (l : List Int) (i : Nat) : (stg p a l i (i + 1) + nth l i) % p = stg p a l (i + 1) (i + 1) := by
  unfold stg
  rw [if_neg (by omega), if_neg (by omega), if_neg (by omega), if_pos rfl, Int.zero_add]
  unfold pvL
  rw [if_neg (by omega), Nat.add_sub_cancel]
theorem stg_other (p a : Int) (l : List Int) (i j : Nat) (h : j ≠ i) (h' : j ≠ i + 1) : stg p a l i j = stg p a l (i + 1) j := by
  unfold stg
  by_cases h1 : j < i
  · rw [if_pos h1, if_pos (by omega)]
  · rw [if_neg h1, if_neg h, if_neg (by omega), if_neg h']
theorem nth_rep (n j : Nat) : nth (List.replicate n 0) j = 0 := by
  unfold nth
  rw [List.getD_eq_getElem?_getD, List.getElem?_replicate]
  split <;> rfl
theorem mx_len (p a : Int) (l : List Int) : (mx p a l).length = l.length + 1 := mxGo_len p a l 0
end Go.Proofs.YtfichpppjpgahaaGreatDoor
namespace Go.Proofs.YtfichpppjpgahaaGreatDoor
set_option linter.unusedVariables false
set_option linter.unusedSimpArgs false

theorem nth_snoc (l : List Int) (x : Int) (i : Nat) : nth (l ++ [x]) i = if i = l.length then x else nth l i := by
  unfold nth
  simp only [List.getD_eq_getElem?_getD]
  split
  · rename_i h; subst h; simp
  · rename_i h
    rcases Nat.lt_or_ge i l.length with k | k
    · rw [List.getElem?_append_left k]
    · rw [List.getElem?_eq_none (by simp; omega), List.getElem?_eq_none (by omega)]
theorem nth_out {l : List Int} {i : Nat} (h : l.length ≤ i) : nth l i = 0 := by
  unfold nth; rw [List.getD_eq_getElem?_getD, List.getElem?_eq_none h]; rfl
/-- What a gate says of the wires before it. -/
def gt (zs : List Int) (m j : Nat) : Int := fld 3 zs m j
def aRaw (zs : List Int) (o : List Int) (m : Nat) : Int :=
  if gt zs m 0 = 0 then nth o (gt zs m 1).toNat + nth o (gt zs m 2).toNat
  else if gt zs m 0 = 1 then nth o (gt zs m 1).toNat * nth o (gt zs m 2).toNat
  else if gt zs m 0 = 2 then nth o (gt zs m 1).toNat * gt zs m 2
  else gt zs m 1
/-- The values of all wires behind m gates. -/
def avs (p : Int) (zs vs : List Int) : Nat → List Int
  | 0 => vs
  | m + 1 => avs p zs vs m ++ [aRaw zs (avs p zs vs m) m % p]
theorem avs_len (p : Int) (zs vs : List Int) : ∀ m, (avs p zs vs m).length = vs.length + m
  | 0 => rfl
  | m + 1 => by rw [avs, List.length_append, avs_len p zs vs m]; rfl
theorem avs_res {p : Int} (hp : 2 ≤ p) (zs vs : List Int) (hv : ∀ x ∈ vs, 0 ≤ x ∧ x < p) : ∀ m, ∀ x ∈ avs p zs vs m, 0 ≤ x ∧ x < p
  | 0 => hv
  | m + 1 => by
    intro x hx
    rw [avs, List.mem_append] at hx
    rcases hx with hx | hx
    · exact avs_res hp zs vs hv m x hx
    · simp at hx; subst hx
      exact ⟨Int.emod_nonneg _ (by omega), Int.emod_lt_of_pos _ (by omega)⟩
/-- The degree of a gate, at most C. -/
def aDeg (C : Int) (zs : List Int) (o : List Int) (m : Nat) : Int :=
  if gt zs m 0 = 0 then max (nth o (gt zs m 1).toNat) (nth o (gt zs m 2).toNat)
  else if gt zs m 0 = 1 then min (nth o (gt zs m 1).toNat + nth o (gt zs m 2).toNat) C
  else if gt zs m 0 = 2 then nth o (gt zs m 1).toNat
  else 0
def ads (C : Int) (zs : List Int) (n : Nat) : Nat → List Int
  | 0 => List.replicate n 1
  | m + 1 => ads C zs n m ++ [aDeg C zs (ads C zs n m) m]
theorem ads_len (C : Int) (zs : List Int) (n : Nat) : ∀ m, (ads C zs n m).length = n + m
  | 0 => by simp [ads]
  | m + 1 => by rw [ads, List.length_append, ads_len C zs n m]; rfl
theorem nth_rep1 (n j : Nat) (x : Int) : nth (List.replicate n x) j = if j < n then x else 0 := by
  unfold nth
  rw [List.getD_eq_getElem?_getD, List.getElem?_replicate]
  split <;> rfl
theorem ads_bd {C : Int} (hC : 1 ≤ C) (zs : List Int) (n : Nat) : ∀ m i, 0 ≤ nth (ads C zs n m) i ∧ nth (ads C zs n m) i ≤ C
  | 0, i => by rw [ads, nth_rep1]; split <;> omega
  | m + 1, i => by
    rw [ads, nth_snoc]
    split
    · have h1 := ads_bd hC zs n m (gt zs m 1).toNat
      have h2 := ads_bd hC zs n m (gt zs m 2).toNat
      unfold aDeg
      split
      · omega
      · split
        · omega
        · split <;> omega
    · exact ads_bd hC zs n m i
/-- The lower bound of degrees cuts those of the higher one. -/
theorem ads_min {c C : Int} (h1 : 1 ≤ c) (h2 : c ≤ C) (zs : List Int) (n : Nat) : ∀ m i, nth (ads c zs n m) i = min (nth (ads C zs n m) i) c
  | 0, i => by rw [ads, ads, nth_rep1]; split <;> omega
  | m + 1, i => by
    rw [ads, ads, nth_snoc, nth_snoc, ads_len, ads_len]
    split
    · have e1 := ads_min h1 h2 zs n m (gt zs m 1).toNat
      have e2 := ads_min h1 h2 zs n m (gt zs m 2).toNat
      have b1 := ads_bd (show 1 ≤ C by omega) zs n m (gt zs m 1).toNat
      have b2 := ads_bd (show 1 ≤ C by omega) zs n m (gt zs m 2).toNat
      unfold aDeg
      rw [e1, e2]
      split
      · omega
      · split
        · omega
        · split <;> omega
    · exact ads_min h1 h2 zs n m i
/-- A gate is valid before the wire u. -/
def gOk (p : Int) (zs : List Int) (u m : Nat) : Bool :=
  decide ((gt zs m 0 = 0 ∨ gt zs m 0 = 1) ∧ (0 ≤ gt zs m 1 ∧ gt zs m 1 < u) ∧ (0 ≤ gt zs m 2 ∧ gt zs m 2 < u) ∨
    gt zs m 0 = 2 ∧ (0 ≤ gt zs m 1 ∧ gt zs m 1 < u) ∧ (0 ≤ gt zs m 2 ∧ gt zs m 2 < p) ∨
    gt zs m 0 = 3 ∧ (0 ≤ gt zs m 1 ∧ gt zs m 1 < p) ∧ gt zs m 2 = 0)
theorem dotF_add (f g s : Nat → Int) : ∀ n, dotF (fun j => f j + g j) s n = dotF f s n + dotF g s n
  | 0 => rfl
  | n + 1 => by rw [dotF, dotF, dotF, dotF_add f g s n]; grind
theorem dotF_zero (f s : Nat → Int) (n : Nat) (h : ∀ j, f j = 0) : dotF f s n = 0 := by
  induction n with
  | zero => rfl
  | succ n ih => rw [dotF, ih, h]; simp
theorem dotF_zero_r (f s : Nat → Int) (n : Nat) (h : ∀ j, s j = 0) : dotF f s n = 0 := by
  induction n with
  | zero => rfl
  | succ n ih => rw [dotF, ih, h]; simp
theorem dotF_smul (c : Int) (f s : Nat → Int) : ∀ n, dotF (fun j => c * f j) s n = c * dotF f s n
  | 0 => by simp [dotF]
  | n + 1 => by rw [dotF, dotF, dotF_smul c f s n]; grind
theorem dotF_one (f : Nat → Int) (n : Nat) : ∀ j, j < n → dotF f (nth ((List.replicate n 0).set j 1)) n = f j := by
  intro j hj
  have key : ∀ m, m ≤ n → dotF f (nth ((List.replicate n 0).set j 1)) m = if j < m then f j else 0 := by
    intro m
    induction m with
    | zero => intro _; rfl
    | succ m ih =>
      intro hm
      rw [dotF, ih (by omega), nth_set (by simp; omega)]
      by_cases e : m = j
      · subst e; rw [if_pos rfl, if_neg (by omega), if_pos (by omega)]; omega
      · rw [if_neg e, nth_rep]
        by_cases g : j < m
        · rw [if_pos g, if_pos (by omega)]; omega
        · rw [if_neg g, if_neg (by omega)]; omega
  rw [key n (Nat.le_refl _), if_pos hj]
/-- A form of degree one. -/
theorem lin_ex {p C : Int} (hC : 2 ≤ C) (zs : List Int) (n : Nat) : ∀ m, (∀ k, k < m → gOk p zs (n + k) k = true) → ∀ i, i < n + m → ∃ (c0 : Int) (f : Nat → Int),
    (nth (ads C zs n m) i ≤ 1 → ∀ vs : List Int, vs.length = n → nth (avs p zs vs m) i % p = (c0 + dotF f (nth vs) n) % p) ∧ (nth (ads C zs n m) i ≤ 0 → ∀ j, f j = 0)
  | 0, _, i, hi => by
    refine ⟨0, fun j => if i = j then 1 else 0, fun _ vs hv => ?_, fun h => ?_⟩
    · rw [avs, dot_unit _ _ i n (fun j hj => rfl), if_pos (by omega), Int.zero_add]
    · rw [ads, nth_rep1, if_pos (by omega)] at h; omega
  | m + 1, hg, i, hi => by
    have ih := lin_ex hC zs n m (fun k hk => hg k (by omega))
    by_cases e : i = n + m
    · subst e
      have hk := of_decide_eq_true (hg m (by omega))
      have hN : ∀ vs : List Int, vs.length = n → nth (avs p zs vs (m + 1)) (n + m) = aRaw zs (avs p zs vs m) m % p := fun vs hv => by
        rw [avs, nth_snoc, if_pos (by rw [avs_len, hv])]
      have hD : nth (ads C zs n (m + 1)) (n + m) = aDeg C zs (ads C zs n m) m := by
        rw [ads, nth_snoc, if_pos (by rw [ads_len])]
      rw [hD]
      have bd := ads_bd (show 1 ≤ C by omega) zs n m
      unfold aDeg
      rcases hk with ⟨hk, ha, hb⟩ | ⟨hk, ha, hb⟩ | ⟨hk, ha, hb⟩
      · obtain ⟨c1, f1, p1, q1⟩ := ih (gt zs m 1).toNat (by omega)
        obtain ⟨c2, f2, p2, q2⟩ := ih (gt zs m 2).toNat (by omega)
        have b1 := bd (gt zs m 1).toNat
        have b2 := bd (gt zs m 2).toNat
        rcases hk with hk | hk
        · refine ⟨c1 + c2, fun j => f1 j + f2 j, fun h vs hv => ?_, fun h j => ?_⟩
          · rw [if_pos hk] at h
            rw [hN vs hv]
            unfold aRaw
            rw [if_pos hk, Int.emod_emod, Int.add_emod, p1 (by omega) vs hv, p2 (by omega) vs hv, ← Int.add_emod]
            congr 1
            have := dotF_add f1 f2 (nth vs) n
            omega
          · rw [if_pos hk] at h
            show f1 j + f2 j = 0
            rw [q1 (by omega) j, q2 (by omega) j]; rfl
        · have hk0 : ¬ gt zs m 0 = 0 := by omega
          by_cases hz : nth (ads C zs n m) (gt zs m 1).toNat ≤ 0
          · refine ⟨c1 * c2, fun j => c1 * f2 j, fun h vs hv => ?_, fun h j => ?_⟩
            · rw [if_neg hk0, if_pos hk] at h
              rw [hN vs hv]
              unfold aRaw
              have h1 := p1 (by omega) vs hv
              rw [dotF_zero f1 (nth vs) n (q1 hz), Int.add_zero] at h1
              rw [if_neg hk0, if_pos hk, Int.emod_emod, Int.mul_emod, h1, p2 (by omega) vs hv, ← Int.mul_emod]
              congr 1
              rw [dotF_smul c1 f2, Int.mul_add]
            · rw [if_neg hk0, if_pos hk] at h
              show c1 * f2 j = 0
              rw [q2 (by omega) j, Int.mul_zero]
          · refine ⟨c1 * c2, fun j => c2 * f1 j, fun h vs hv => ?_, fun h j => ?_⟩
            · rw [if_neg hk0, if_pos hk] at h
              rw [hN vs hv]
              unfold aRaw
              have h2 := p2 (by omega) vs hv
              rw [dotF_zero f2 (nth vs) n (q2 (by omega)), Int.add_zero] at h2
              rw [if_neg hk0, if_pos hk, Int.emod_emod, Int.mul_emod, h2, p1 (by omega) vs hv, ← Int.mul_emod]
              congr 1
              rw [dotF_smul c2 f1, Int.add_mul, Int.mul_comm (dotF f1 (nth vs) n)]
            · rw [if_neg hk0, if_pos hk] at h
              omega
      · have hk0 : ¬ gt zs m 0 = 0 := by omega
        have hk1 : ¬ gt zs m 0 = 1 := by omega
        obtain ⟨c1, f1, p1, q1⟩ := ih (gt zs m 1).toNat (by omega)
        refine ⟨c1 * gt zs m 2, fun j => gt zs m 2 * f1 j, fun h vs hv => ?_, fun h j => ?_⟩
        · rw [if_neg hk0, if_neg hk1, if_pos hk] at h
          rw [hN vs hv]
          unfold aRaw
          rw [if_neg hk0, if_neg hk1, if_pos hk, Int.emod_emod, Int.mul_emod, p1 (by omega) vs hv, ← Int.mul_emod]
          congr 1
          rw [dotF_smul, Int.add_mul, Int.mul_comm (dotF f1 (nth vs) n)]
        · rw [if_neg hk0, if_neg hk1, if_pos hk] at h
          show gt zs m 2 * f1 j = 0
          rw [q1 (by omega) j, Int.mul_zero]
      · have hk0 : ¬ gt zs m 0 = 0 := by omega
        have hk1 : ¬ gt zs m 0 = 1 := by omega
        have hk2 : ¬ gt zs m 0 = 2 := by omega
        refine ⟨gt zs m 1, fun _ => 0, fun h vs hv => ?_, fun h j => rfl⟩
        rw [hN vs hv]
        unfold aRaw
        rw [if_neg hk0, if_neg hk1, if_neg hk2, Int.emod_emod, dotF_zero _ _ n (fun _ => rfl), Int.add_zero]
    · obtain ⟨c1, f1, p1, q1⟩ := ih i (by omega)
      refine ⟨c1, f1, fun h vs hv => ?_, fun h => ?_⟩
      · rw [ads, nth_snoc, if_neg (by rw [ads_len]; omega)] at h
        rw [avs, nth_snoc, if_neg (by rw [avs_len, hv]; omega)]
        exact p1 h vs hv
      · rw [ads, nth_snoc, if_neg (by rw [ads_len]; omega)] at h
        exact q1 h
/-- A sum of weights and inputs. -/
def wsum (f : Nat → Int) (vs : List Int) (n : Nat) : Int := dotF f (nth vs) n
/-- The form of a wire of degree one, from its values at 0 and where one input is 1. -/
theorem lin_law {p C : Int} (hp : 2 ≤ p) (hC : 2 ≤ C) (zs : List Int) (n m : Nat) (hg : ∀ k, k < m → gOk p zs (n + k) k = true) {i : Nat} (hi : i < n + m) (hd : nth (ads C zs n m) i ≤ 1) (vs : List Int) (hv : vs.length = n) :
    nth (avs p zs vs m) i % p = (nth (avs p zs (List.replicate n 0) m) i + dotF (fun j => (nth (avs p zs ((List.replicate n 0).set j 1) m) i - nth (avs p zs (List.replicate n 0) m) i) % p) (nth vs) n) % p := by
  obtain ⟨c0, f, h1, _⟩ := lin_ex hC zs n m hg i hi
  have h2 := h1 hd
  have hz := h2 (List.replicate n 0) (by simp)
  rw [show dotF f (nth (List.replicate n 0)) n = 0 from dotF_zero_r f _ n (fun j => nth_rep n j), Int.add_zero] at hz
  have he : ∀ j, j < n → (nth (avs p zs ((List.replicate n 0).set j 1) m) i - nth (avs p zs (List.replicate n 0) m) i) % p % p = f j * 1 % p := by
    intro j hj
    have h3 := h2 ((List.replicate n 0).set j 1) (by simp)
    rw [dotF_one f n j hj] at h3
    rw [Int.emod_emod, Int.sub_emod, h3, hz, ← Int.sub_emod, show c0 + f j - c0 = f j * 1 by omega]
  have h4 := dotF_mod p 1 f (fun j => (nth (avs p zs ((List.replicate n 0).set j 1) m) i - nth (avs p zs (List.replicate n 0) m) i) % p) (nth vs) 0 n he
  rw [h2 vs hv, Int.add_emod, Int.add_emod (nth (avs p zs (List.replicate n 0) m) i), hz, h4, Int.one_mul]
end Go.Proofs.YtfichpppjpgahaaGreatDoor
