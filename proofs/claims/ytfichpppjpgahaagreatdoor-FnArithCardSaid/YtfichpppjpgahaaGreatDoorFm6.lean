/-
  Contracts of digests: what both sides compute, as one plain function.
  Groups: primes up to 2100, powers, what a valid group is; boxes of three cells.
  The plain law on groups: powers modulo a prime, roots of unity, orders; nothing of the program stands here.
  Plain facts on groups: Fermat's little theorem, the greatest prime that divides p - 1, an element of that order.
  Plain laws: polynomials over a field of residues.
  Plain laws: the polynomial through points, both ways.
  Plain laws: values of the polynomial through points.
-/
import Derived.Test.YtfichpppjpgahaaGreatDoorFm4
import Derived.Test.YtfichpppjpgahaaGreatDoorFm5
namespace Go.Proofs.YtfichpppjpgahaaGreatDoor
open Go.RowKit
set_option linter.unusedVariables false
set_option linter.unusedSimpArgs false

/-- One step of a digest, and the digest. -/
def dgStep (a x : Int) : Int := ((25214 * a + x + 17) % 1000003) * ((25214 * a + x + 17) % 1000003 / 64 + 5) % 1000003
def dgAt (L : List Int) (a0 : Int) : Nat → Int
  | 0 => a0
  | k + 1 => dgStep (dgAt L a0 k) (nth L k)
def dgMix (l : List Int) : Int := dgAt (l ++ [8, 1]) (40503 + l.length) (l.length + 2) % 65536
theorem dgStep_bd (a x : Int) : 0 ≤ dgStep a x ∧ dgStep a x ≤ 1000002 := by unfold dgStep; omega
theorem dgAt_bd (L : List Int) (a0 : Int) (h : 0 ≤ a0 ∧ a0 ≤ 1000002) (k : Nat) : 0 ≤ dgAt L a0 k ∧ dgAt L a0 k ≤ 1000002 := by
  cases k with
  | zero => exact h
  | succ k => exact dgStep_bd _ _
theorem dgMix_bd (l : List Int) : 0 ≤ dgMix l ∧ dgMix l ≤ 65535 := by unfold dgMix; omega
/-- Numbers of a size that no digest's step leaves an int. -/
def Small (x : Int) : Prop := -1000000000000 ≤ x ∧ x ≤ 1000000000000
theorem Small.fits {x : Int} (h : Small x) : Fits x := by unfold Small at h; unfold Fits; omega
theorem nth_app8 {xs : List Int} {k : Nat} (hk : k < xs.length + 2) (hs : ∀ x ∈ xs, Small x) : Small (nth (xs ++ [8, 1]) k) := by
  have : nth (xs ++ [8, 1]) k ∈ xs ++ [8, 1] := nth_mem (by simp; omega)
  rcases List.mem_append.1 this with h | h
  · exact hs _ h
  · simp at h; rcases h with h | h <;> rw [h] <;> unfold Small <;> omega

set_option maxHeartbeats 400000 in
theorem i_with (a : Option Addr) (n cap : Nat) (xs : List Int) (a' : Option Addr) (n' cap' : Nat) (ys : List Int) (w : World) (h : Ints w a n cap xs) (h' : Ints w a' n' cap' ys) (hn : n ≤ 1000000) (hn' : n' ≤ 1000000) :
    Calls Tryz.prog 26 #[.slice a n cap, .slice a' n' cap'] w fun e w' => ∃ r c, e = .returned (.slice r (n + n') c) ∧ Ints w' r (n + n') c (xs ++ ys) ∧ Below w.heap.size w w' := by
  have hf := h.wf; have hf' := h'.wf
  have HFT : Hid (∀ x ∈ xs ++ ys, Fits x) := fun x hx => by
    rcases List.mem_append.1 hx with k | k
    · exact hf.out x k
    · exact hf'.out x k
  go_enter Tryz.func26, Tryz.ntmps26
  go_wp2_with fail
  refine (g_Clone _ _ _ xs _ h (by omega)).mono ?_; rintro e w1 ⟨r, c, rfl, ho, hb1⟩
  have hz1 := hb1.size
  go_wp2_with (at_builtin; refine wp_apps w1 w.heap.size n _ xs ys _ _ _ rfl _ _ rfl rfl rfl (h'.below hb1) ho.own hz1 (by omega) ?_; intro v9 w9 hv9 hb9 hg9; obtain ⟨r2, c2, hr, ho2⟩ := OwnI.of hv9 (by omega) HFT.out; subst hr)
  go_ret
  exact ⟨_, _, rfl, ho2.ints, hb1.trans hb9⟩
/-- A number below n, derived from a list. -/
def numFrom (l : List Int) (n : Int) : Int := dgMix (l ++ [n]) % n
theorem numFrom_bd (l : List Int) (n : Int) (h : 1 ≤ n) : 0 ≤ numFrom l n ∧ numFrom l n ≤ n - 1 := by
  have := emod_bd (n := dgMix (l ++ [n])) (p := n) h
  unfold numFrom; omega
theorem small_snoc {xs : List Int} {m : Int} (h : ∀ x ∈ xs, Small x) (hm : Small m) : ∀ x ∈ xs ++ [m], Small x := fun x hx => by
  rcases List.mem_append.1 hx with k | k
  · exact h x k
  · simp at k; rw [k]; exact hm
end Go.Proofs.YtfichpppjpgahaaGreatDoor
namespace Go.Proofs.YtfichpppjpgahaaGreatDoor
open Go.RowKit
set_option linter.unusedVariables false
set_option linter.unusedSimpArgs false

/-- A prime (asked of numbers up to 2100). -/
def prmB (n : Int) : Bool := decide (2 ≤ n ∧ ∀ d : Nat, d < 46 → 2 ≤ d → (d : Int) * d ≤ n → n % d ≠ 0)
theorem prmB_lo {n : Int} (h : prmB n = true) : 2 ≤ n := (of_decide_eq_true h).1
theorem sq_le46 {d p : Int} (h0 : 0 ≤ d) (h : d * d ≤ p) (hp : p ≤ 2100) : d ≤ 45 := by
  rcases Int.lt_or_le 45 d with k | k
  · have : 46 * 46 ≤ d * d := Int.mul_le_mul (by omega) (by omega) (by omega) h0
    omega
  · exact k
theorem prmB_div {p : Int} {d : Nat} (hd : 2 ≤ d) (h : (d : Int) * d ≤ p) (hp : p ≤ 2100) (hm : p % d = 0) : prmB p = false := by
  refine decide_eq_false fun k => k.2 d ?_ hd h hm
  have := sq_le46 (Int.natCast_nonneg d) h hp
  omega
theorem prmB_yes {p : Int} (h1 : 2 ≤ p) (n : Nat) (hn : p < (n : Int) * n) (h : ∀ d : Nat, 2 ≤ d → d < n → p % d ≠ 0) : prmB p = true := by
  refine decide_eq_true ⟨h1, fun d _ h2 hd => h d h2 ?_⟩
  rcases Nat.lt_or_ge d n with k | k
  · exact k
  · have : (n : Int) * n ≤ (d : Int) * d := Int.mul_le_mul (by omega) (by omega) (by omega) (by omega)
    omega
/-- Powers. -/
def pw (p a : Int) (n : Nat) : Int := a ^ n % p
theorem pw_bd (p a : Int) (n : Nat) (hp : 1 ≤ p) : 0 ≤ pw p a n ∧ pw p a n ≤ p - 1 := by
  have := emod_bd (n := a ^ n) (p := p) hp
  unfold pw; omega
theorem pow_mod (x p : Int) (n : Nat) : (x % p) ^ n % p = x ^ n % p := by
  induction n with
  | zero => simp
  | succ n ih => rw [Int.pow_succ, Int.pow_succ, Int.mul_emod, ih, Int.emod_emod_of_dvd _ (Int.dvd_refl p), ← Int.mul_emod]
theorem sq_pow (b : Int) (k : Nat) : (b * b) ^ k = b ^ (2 * k) := by
  rw [Int.pow_mul, show b ^ 2 = b * b by rw [Int.pow_succ, Int.pow_succ, Int.pow_zero, Int.one_mul]]
theorem pw_half (o b p : Int) (n : Nat) (h : n % 2 = 0) : o * (b * b % p) ^ (n / 2) % p = o * b ^ n % p := by
  rw [Int.mul_emod, pow_mod, ← Int.mul_emod]
  congr 2
  rw [sq_pow, show 2 * (n / 2) = n by omega]
theorem pw_odd (o b p : Int) (n : Nat) (h : n % 2 = 1) : (o * b % p) * (b * b % p) ^ (n / 2) % p = o * b ^ n % p := by
  rw [Int.mul_emod, pow_mod, Int.emod_emod_of_dvd _ (Int.dvd_refl p), ← Int.mul_emod]
  congr 1
  rw [sq_pow, Int.mul_assoc]
  congr 1
  rw [Int.mul_comm, ← Int.pow_succ, show (2 * (n / 2)).succ = n by omega]
theorem i64_and1 (n : Int) : bits .and .i64 n 1 = n % 2 := by
  have h127 : (BitVec.ofInt 64 1).toNat = 2 ^ 1 - 1 := by decide
  have key : (BitVec.ofInt 64 n &&& BitVec.ofInt 64 1).toNat = (n % ((2 ^ 64 : Nat) : Int)).toNat % 2 ^ 1 := by
    rw [BitVec.toNat_and, BitVec.toNat_ofInt, h127, Nat.and_two_pow_sub_one_eq_mod]
  show IntKind.i64.wrap ((BitVec.ofInt 64 n &&& BitVec.ofInt 64 1).toNat : Nat) = n % 2
  rw [key, IntKind.wrap_i64]
  omega
/-- The modulus of a group; a group. -/
def modB (p : Int) : Bool := inB p 3 2003 && prmB p
def grB (P Q G : Int) : Bool := modB P && (inB Q 2 (P - 1) && prmB Q && (decide ((P - 1) % Q = 0) && (inB G 2 (P - 1) && decide (pw P G Q.toNat = 1))))
def hasB (P Q a : Int) : Bool := inB a 1 (P - 1) && decide (pw P a Q.toNat = 1)
/-- A power with an exponent of any sign. -/
def gpw (P Q a n : Int) : Int := pw P a (n % Q).toNat
theorem gpw_bd (P Q a n : Int) (hp : 1 ≤ P) : 0 ≤ gpw P Q a n ∧ gpw P Q a n ≤ P - 1 := pw_bd _ _ _ hp
theorem modB_lo {p : Int} (h : modB p = true) : 3 ≤ p ∧ p ≤ 2003 := inB_iff.1 (Bool.and_eq_true_iff.1 h).1
theorem grB_lo {P Q G : Int} (h : grB P Q G = true) : (3 ≤ P ∧ P ≤ 2003) ∧ (2 ≤ Q ∧ Q ≤ 2002) ∧ (2 ≤ G ∧ G ≤ P - 1) := by
  unfold grB at h
  simp only [Bool.and_eq_true] at h
  have h1 := modB_lo h.1
  have h2 := inB_iff.1 h.2.1.1
  exact ⟨h1, by omega, inB_iff.1 h.2.2.2.1⟩
theorem hasB_lo {P Q a : Int} (h : hasB P Q a = true) : 1 ≤ a ∧ a ≤ P - 1 := inB_iff.1 (Bool.and_eq_true_iff.1 h).1
/-- A box of three ints. -/
def Gx (w : World) (b : Nat) (P Q G : Int) : Prop := w.cell? ⟨b, 0, none⟩ = some (.int .i64 P) ∧ w.cell? ⟨b, 1, none⟩ = some (.int .i64 Q) ∧ w.cell? ⟨b, 2, none⟩ = some (.int .i64 G)
theorem Gx.on {w w' : World} {b : Nat} {P Q G : Int} (h : Gx w b P Q G) (hb : Below w.heap.size w w') : Gx w' b P Q G :=
  ⟨cell_on h.1 hb, cell_on h.2.1 hb, cell_on h.2.2 hb⟩
theorem Gx.new {w : World} {P Q G : Int} {t : TypeId} : Gx (w.alloc (.cells #[.int .i64 P, .int .i64 Q, .int .i64 G] t)) w.heap.size P Q G :=
  ⟨World.cell?_alloc_at _ _ _ _ rfl, World.cell?_alloc_at _ _ _ _ rfl, World.cell?_alloc_at _ _ _ _ rfl⟩
theorem gbox1 {w w' : World} {P Q G : Int} {t : TypeId} (hb : Below (w.alloc (.cells #[.int .i64 P, .int .i64 Q, .int .i64 G] t)).heap.size (w.alloc (.cells #[.int .i64 P, .int .i64 Q, .int .i64 G] t)) w') : Gx w' w.heap.size P Q G := Gx.new.on hb
theorem modB_of {p : Int} (h : p ≠ 2) : (inB p 2 2003 && prmB p) = modB p := by
  unfold modB
  have : inB p 2 2003 = inB p 3 2003 := by unfold inB; congr 1; simp; omega
  rw [this]
theorem modB_2 : modB 2 = false := rfl
end Go.Proofs.YtfichpppjpgahaaGreatDoor
namespace Go.Proofs.YtfichpppjpgahaaGreatDoor
set_option linter.unusedVariables false
set_option linter.unusedSimpArgs false

/-- Polynomials with leading coefficient 1. -/
def mon : List Int → Int → Int
  | [], _ => 1
  | d :: ds, x => d + x * mon ds x
theorem mon_add (r : Int) : ∀ bs us : List Int, us.length = bs.length + 1 → ∃ cs : List Int, cs.length = us.length ∧ ∀ x, mon us x + r * mon bs x = mon cs x
  | [], us, h => by
    match us, h with
    | [a], _ => exact ⟨[a + r], rfl, fun x => by simp only [mon]; grind⟩
  | b :: bs, us, h => by
    match us, h with
    | a :: us, h =>
      obtain ⟨cs, hc, he⟩ := mon_add r bs us (by simpa using h)
      refine ⟨(a + r * b) :: cs, by simp [hc], fun x => ?_⟩
      have := he x
      simp only [mon]
      grind
theorem mon_div (r : Int) : ∀ ds : List Int, ds ≠ [] → ∃ qs : List Int, qs.length + 1 = ds.length ∧ ∀ x, mon ds x - mon ds r = (x - r) * mon qs x
  | [], h => absurd rfl h
  | [d], _ => ⟨[], rfl, fun x => by simp only [mon]; grind⟩
  | d :: e :: es, _ => by
    obtain ⟨qs, hq, he⟩ := mon_div r (e :: es) (by simp)
    obtain ⟨cs, hc, hs⟩ := mon_add r qs (e :: es) (by omega)
    refine ⟨cs, by simp [hc], fun x => ?_⟩
    have h1 := he x
    have h2 := hs x
    have e1 : mon (d :: e :: es) x = d + x * mon (e :: es) x := rfl
    have e2 : mon (d :: e :: es) r = d + r * mon (e :: es) r := rfl
    rw [e1, e2, ← h2]
    generalize mon (e :: es) x = A at *
    generalize mon (e :: es) r = B at *
    generalize mon qs x = C at *
    clear e1 e2 h2 he hs hc hq
    grind
theorem mon_roots {p : Nat} (hp : Pr p) : ∀ (n : Nat) (ds : List Int), ds.length = n → ∀ rs : List Int, rs.length = n + 1 → rs.Pairwise (fun x y : Int => (x - y) % (p : Int) ≠ 0) → (∀ r ∈ rs, mon ds r % p = 0) → False
  | 0, ds, hd, rs, hr, _, hz => by
    match ds, hd, rs, hr with
    | [], _, [r], _ =>
      have := hz r (by simp)
      have h2 := hp.1
      simp only [mon] at this
      rw [Int.emod_eq_of_lt (by omega) (by omega)] at this
      omega
  | n + 1, ds, hd, rs, hr, hpw, hz => by
    match rs, hr with
    | r :: rs, hr =>
      obtain ⟨qs, hq, he⟩ := mon_div r ds (by intro e; rw [e] at hd; simp at hd)
      rw [List.pairwise_cons] at hpw
      refine mon_roots hp n qs (by omega) rs (by simpa using hr) hpw.2 (fun s hs => ?_)
      have h1 := hz s (List.mem_cons_of_mem _ hs)
      have h2 := hz r (List.mem_cons_self ..)
      have h3 : (s - r) * mon qs s % p = 0 := by rw [← he, ← emod_sub_zero, h1, h2]
      rcases hp.mul h3 with k | k
      · exfalso
        refine hpw.1 s hs ?_
        obtain ⟨c, hc⟩ := Int.dvd_of_emod_eq_zero k
        exact Int.emod_eq_zero_of_dvd ⟨-c, by rw [Int.mul_neg, ← hc]; omega⟩
      · exact k
theorem mon_zero (x : Int) : ∀ n, mon (List.replicate n 0) x = x ^ n
  | 0 => by simp [mon]
  | n + 1 => by rw [List.replicate_succ, mon, mon_zero x n, Int.pow_succ, Int.zero_add, Int.mul_comm]
theorem mon_one (x : Int) (n : Nat) : mon (-1 :: List.replicate n 0) x = x ^ (n + 1) - 1 := by
  rw [mon, mon_zero, Int.pow_succ, Int.mul_comm]; omega
theorem prmB_pr {p : Int} (h : prmB p = true) (h2 : p ≤ 2100) : Pr p.toNat := by
  obtain ⟨h1, h3⟩ := of_decide_eq_true h
  refine ⟨by omega, fun d hd1 hd2 hm => ?_⟩
  have hpd : d * (p.toNat / d) = p.toNat := Nat.mul_div_cancel' (Nat.dvd_of_mod_eq_zero hm)
  have hq1 : 2 ≤ p.toNat / d := by
    rcases Nat.lt_or_ge (p.toNat / d) 2 with k | k
    · have h01 : ∀ q : Nat, q < 2 → q = 0 ∨ q = 1 := fun q hq => by omega
      rcases h01 _ k with e | e
      · rw [e] at hpd; omega
      · rw [e] at hpd; omega
    · exact k
  have key : ∀ a b : Nat, 2 ≤ a → a ≤ b → a * b = p.toNat → False := by
    intro a b ha hab he
    have hsq : a * a ≤ p.toNat := by rw [← he]; exact Nat.mul_le_mul_left a hab
    have hsqi : (a : Int) * a ≤ p := by
      have : ((a * a : Nat) : Int) ≤ (p.toNat : Int) := by exact_mod_cast hsq
      rw [Int.natCast_mul] at this; omega
    have ha16 := sq_le46 (Int.natCast_nonneg a) hsqi h2
    refine h3 a (by omega) ha hsqi ?_
    have e2 : p = (a : Int) * b := by
      have : ((a * b : Nat) : Int) = (p.toNat : Int) := by rw [he]
      rw [Int.natCast_mul] at this; omega
    rw [e2]; exact Int.mul_emod_right _ _
  rcases Nat.le_total d (p.toNat / d) with k | k
  · exact key d _ hd1 k hpd
  · exact key _ d hq1 k (by rw [Nat.mul_comm]; exact hpd)

/-- Powers modulo p. -/
theorem pw_mul (p a : Int) (m n : Nat) : pw p a m * pw p a n % p = pw p a (m + n) := by
  unfold pw; rw [← Int.mul_emod, ← Int.pow_add]
theorem pw_pw (p a : Int) (m n : Nat) : pw p (pw p a m) n = pw p a (m * n) := by
  unfold pw; rw [pow_mod, ← Int.pow_mul]
theorem pw_one (p : Int) (n : Nat) (hp : 2 ≤ p) : pw p 1 n = 1 := by unfold pw; rw [Int.one_pow]; exact Int.emod_eq_of_lt (by omega) (by omega)
theorem pw_zero (p a : Int) (hp : 2 ≤ p) : pw p a 0 = 1 := by unfold pw; rw [Int.pow_zero]; exact Int.emod_eq_of_lt (by omega) (by omega)
theorem pw_1 (p a : Int) (h0 : 0 ≤ a) (h1 : a < p) : pw p a 1 = a := by unfold pw; rw [Int.pow_one]; exact Int.emod_eq_of_lt h0 h1
theorem pw_mulbase (p a b : Int) (n : Nat) : pw p (a * b % p) n = pw p a n * pw p b n % p := by
  unfold pw; rw [pow_mod, Int.mul_pow, Int.mul_emod]
theorem pw_add_order {p a : Int} {q : Nat} (h : pw p a q = 1) (hp : 2 ≤ p) (m k : Nat) : pw p a (m + q * k) = pw p a m := by
  rw [← pw_mul, ← pw_pw, h, pw_one p k hp, Int.mul_one]
  unfold pw
  exact Int.emod_emod_of_dvd _ (Int.dvd_refl _)
theorem pw_mod {p a : Int} {q : Nat} (h : pw p a q = 1) (hp : 2 ≤ p) (m : Nat) : pw p a (m % q) = pw p a m := by
  conv => rhs; rw [← Nat.mod_add_div m q]
  rw [pw_add_order h hp]
/-- An exponent that leads to 1 is a multiple of the order. -/
theorem order_dvd {p a : Int} {q : Nat} (hq : Pr q) (h : pw p a q = 1) (hp : 2 ≤ p) (h0 : 0 ≤ a) (h1 : a < p) (hne : a ≠ 1) {k : Nat} (hk : pw p a k = 1) : k % q = 0 := by
  rcases Nat.eq_zero_or_pos (k % q) with e | e
  · exact e
  · exfalso
    have hq2 := hq.1
    have hm : pw p a (k % q) = 1 := by rw [pw_mod h hp]; exact hk
    obtain ⟨x, hx0, hx1, hx⟩ := hq.inv (a := ((k % q : Nat) : Int)) (by rw [← Int.natCast_emod, Nat.mod_mod]; omega)
    have hx' : (k % q * x.toNat) % q = 1 := by
      have e1 : (((k % q * x.toNat) % q : Nat) : Int) = 1 := by
        rw [Int.natCast_emod, Int.natCast_mul, Int.toNat_of_nonneg hx0]; exact hx
      omega
    have e2 : pw p a (k % q * x.toNat) = 1 := by rw [← pw_pw, hm, pw_one p _ hp]
    rw [← pw_mod h hp, hx', pw_1 p a h0 h1] at e2
    exact hne e2
theorem pw_inj {p a : Int} {q : Nat} (hq : Pr q) (hpr : Pr p.toNat) (h : pw p a q = 1) (hp : 2 ≤ p) (h0 : 0 ≤ a) (h1 : a < p) (hne : a ≠ 1) {i j : Nat} (hi : i < q) (hj : j < q) (he : pw p a i = pw p a j) : i = j := by
  have key : ∀ i j : Nat, i ≤ j → j < q → pw p a i = pw p a j → i = j := by
    intro i j hij hj he
    have e1 : pw p a (j - i) = 1 := by
      have e2 : pw p a (i + (j - i)) = pw p a j := by congr 1; omega
      rw [← pw_mul, ← he] at e2
      -- pw i * pw (j-i) = pw i : multiply by pw (q - i)
      have e3 : pw p a (q - i) * (pw p a i * pw p a (j - i) % p) % p = pw p a (q - i) * pw p a i % p := by rw [e2]
      rw [Int.mul_emod, Int.emod_emod_of_dvd _ (Int.dvd_refl _), ← Int.mul_emod, ← Int.mul_assoc, Int.mul_emod, pw_mul, show q - i + i = q by omega, h, Int.one_mul, Int.emod_emod_of_dvd _ (Int.dvd_refl _)] at e3
      unfold pw at e3 ⊢
      rw [Int.emod_emod_of_dvd _ (Int.dvd_refl _)] at e3
      exact e3
    have := order_dvd hq h hp h0 h1 hne e1
    rw [Nat.mod_eq_of_lt (by omega)] at this
    omega
  rcases Nat.le_total i j with k | k
  · exact key i j k hj he
  · exact (key j i k hi he.symm).symm
/-- Every element is a power of every element but 1. -/
theorem pw_surj {p a b : Int} {q : Nat} (hq : Pr q) (hpr : Pr p.toNat) (h : pw p a q = 1) (hp : 2 ≤ p) (h0 : 0 ≤ a) (h1 : a < p) (hne : a ≠ 1) (hb0 : 0 ≤ b) (hb1 : b < p) (hb : pw p b q = 1) : ∃ i, i < q ∧ pw p a i = b := by
  apply Classical.byContradiction
  intro hno
  have hq2 := hq.1
  have hpp : ((p.toNat : Nat) : Int) = p := Int.toNat_of_nonneg (by omega)
  refine mon_roots hpr q (-1 :: List.replicate (q - 1) 0) (by simp; omega) (b :: (List.range q).map (fun i => pw p a i)) (by simp) ?_ ?_
  · rw [List.pairwise_cons]
    refine ⟨fun y hy => ?_, ?_⟩
    · simp only [List.mem_map, List.mem_range] at hy
      obtain ⟨i, hi, rfl⟩ := hy
      rw [hpp]
      intro e
      have e1 := emod_sub_zero.2 e
      have bd := pw_bd p a i (by omega)
      rw [Int.emod_eq_of_lt hb0 hb1, Int.emod_eq_of_lt bd.1 (by omega)] at e1
      exact hno ⟨i, hi, e1.symm⟩
    · rw [List.pairwise_map]
      refine List.Pairwise.imp_of_mem (R := fun x y => x < y) (fun {x y} hx hy hlt => ?_) List.pairwise_lt_range
      rw [List.mem_range] at hx hy
      rw [hpp]
      intro e
      have e1 := emod_sub_zero.2 e
      have b1 := pw_bd p a x (by omega)
      have b2 := pw_bd p a y (by omega)
      rw [Int.emod_eq_of_lt b1.1 (by omega), Int.emod_eq_of_lt b2.1 (by omega)] at e1
      have := pw_inj hq hpr h hp h0 h1 hne hx hy e1
      omega
  · intro r hr
    rw [mon_one, show q - 1 + 1 = q by omega, hpp]
    have key : ∀ r, pw p r q = 1 → (r ^ q - 1) % p = 0 := by
      intro r hr
      rw [← emod_sub_zero]
      unfold pw at hr
      rw [hr]; exact (Int.emod_eq_of_lt (by omega) (by omega)).symm
    rw [List.mem_cons] at hr
    rcases hr with rfl | hr
    · exact key _ hb
    · simp only [List.mem_map, List.mem_range] at hr
      obtain ⟨i, hi, rfl⟩ := hr
      refine key _ ?_
      rw [pw_pw, Nat.mul_comm, ← pw_pw, h, pw_one p i hp]
end Go.Proofs.YtfichpppjpgahaaGreatDoor
namespace Go.Proofs.YtfichpppjpgahaaGreatDoor
set_option linter.unusedVariables false
set_option linter.unusedSimpArgs false

/-- The product of a list. -/
def prodL (l : List Int) : Int := l.foldr (· * ·) 1
theorem prodL_cons (x : Int) (l : List Int) : prodL (x :: l) = x * prodL l := rfl
theorem prodL_perm {l l' : List Int} (h : l.Perm l') : prodL l = prodL l' := by
  induction h with
  | nil => rfl
  | cons x _ ih => rw [prodL_cons, prodL_cons, ih]
  | swap x y l => rw [prodL_cons, prodL_cons, prodL_cons, prodL_cons]; grind
  | trans _ _ h1 h2 => exact h1.trans h2
theorem prodL_mulmod (a p : Int) : ∀ l : List Int, prodL (l.map fun x => a * x % p) % p = a ^ l.length * prodL l % p
  | [] => by simp [prodL]
  | x :: l => by
    rw [List.map_cons, prodL_cons, prodL_cons, List.length_cons, Int.mul_emod, prodL_mulmod a p l, Int.emod_emod_of_dvd _ (Int.dvd_refl _), ← Int.mul_emod, Int.pow_succ]
    congr 1; grind
theorem prodL_ne {p : Nat} (hp : Pr p) : ∀ l : List Int, (∀ x ∈ l, x % p ≠ 0) → prodL l % p ≠ 0
  | [], _ => by
    show (1 : Int) % p ≠ 0
    have := hp.1
    rw [Int.emod_eq_of_lt (by omega) (by omega)]; decide
  | x :: l, h => by
    intro e
    rcases hp.mul (show x * prodL l % p = 0 from e) with k | k
    · exact h x (by simp) k
    · exact prodL_ne hp l (fun y hy => h y (List.mem_cons_of_mem _ hy)) k
def res (p : Nat) : List Int := (List.range (p - 1)).map fun (i : Nat) => ((i : Int) + 1)
theorem mem_res {p : Nat} {x : Int} : x ∈ res p ↔ 1 ≤ x ∧ x < p := by
  unfold res
  rw [List.mem_map]
  constructor
  · rintro ⟨i, hi, rfl⟩
    rw [List.mem_range] at hi
    omega
  · rintro ⟨h1, h2⟩
    refine ⟨(x - 1).toNat, ?_, by omega⟩
    rw [List.mem_range]; omega
theorem res_len (p : Nat) : (res p).length = p - 1 := by simp [res]
theorem res_nodup (p : Nat) : (res p).Nodup := by
  unfold res List.Nodup
  rw [List.pairwise_map]
  refine List.Pairwise.imp (R := fun x y => x < y) (fun {x y} hlt => ?_) List.pairwise_lt_range
  omega
theorem mul_nodup {p : Nat} (hp : Pr p) {a : Int} (ha : a % p ≠ 0) : ((res p).map fun x => a * x % p).Nodup := by
  unfold List.Nodup
  rw [List.pairwise_map]
  refine List.Pairwise.imp_of_mem (R := fun x y => x ≠ y) (fun {x y} hx hy hne e => hne ?_) (res_nodup p)
  have hx' := mem_res.1 hx
  have hy' := mem_res.1 hy
  have := hp.cancel ha e
  rw [Int.emod_eq_of_lt (by omega) hx'.2, Int.emod_eq_of_lt (by omega) hy'.2] at this
  exact this
theorem mul_perm {p : Nat} (hp : Pr p) {a : Int} (ha : a % p ≠ 0) : ((res p).map fun x => a * x % p).Perm (res p) := by
  have hp2 := hp.1
  refine (List.perm_ext_iff_of_nodup (mul_nodup hp ha) (res_nodup p)).2 fun y => ?_
  rw [List.mem_map, mem_res]
  constructor
  · rintro ⟨x, hx, rfl⟩
    have hx' := mem_res.1 hx
    have h1 := Int.emod_nonneg (a * x) (show (p : Int) ≠ 0 by omega)
    have h2 := Int.emod_lt_of_pos (a * x) (show (0 : Int) < p by omega)
    have h3 : a * x % p ≠ 0 := by
      intro e
      rcases hp.mul e with k | k
      · exact ha k
      · rw [Int.emod_eq_of_lt (by omega) hx'.2] at k; omega
    omega
  · rintro ⟨h1, h2⟩
    obtain ⟨x, hx, he, _⟩ := hp.solve (a := a) y ha
    have e1 : a * x % p = y := by
      have := emod_sub_zero.2 he
      rw [this, Int.emod_eq_of_lt (by omega) h2]
    refine ⟨x, mem_res.2 ⟨?_, by omega⟩, e1⟩
    rcases Nat.eq_zero_or_pos x with k | k
    · exfalso
      subst k
      rw [show ((0 : Nat) : Int) = 0 from rfl, Int.mul_zero, Int.zero_emod] at e1
      omega
    · omega
/-- Fermat's little theorem. -/
theorem fermat {p : Nat} (hp : Pr p) {a : Int} (ha : a % p ≠ 0) : a ^ (p - 1) % p = 1 := by
  have e := prodL_mulmod a p (res p)
  rw [prodL_perm (mul_perm hp ha), res_len] at e
  have hne : prodL (res p) % p ≠ 0 := prodL_ne hp _ fun x hx => by
    have := mem_res.1 hx
    rw [Int.emod_eq_of_lt (by omega) this.2]; omega
  have h := hp.cancel (x := a ^ (p - 1)) (y := 1) hne (by rw [Int.mul_one, Int.mul_comm]; exact e.symm)
  have hp2 := hp.1
  rw [h]; exact Int.emod_eq_of_lt (by omega) (by omega)
theorem pw_fermat {p : Int} (hp : Pr p.toNat) {a : Int} (h1 : 1 ≤ a) (h2 : a < p) : pw p a (p - 1).toNat = 1 := by
  have e : ((p.toNat : Nat) : Int) = p := by omega
  have := fermat hp (a := a) (by rw [e, Int.emod_eq_of_lt (by omega) h2]; omega)
  rw [e] at this
  unfold pw
  rw [show (p - 1).toNat = p.toNat - 1 by omega]; exact this
/-- Where a prime divides p - 1, an element other than 1 has that order. -/
theorem elem_ex {p Q : Int} (hp : Pr p.toNat) (hQ : 2 ≤ Q) (h3 : 3 ≤ p) (hd : (p - 1) % Q = 0) : ∃ a, 2 ≤ a ∧ a ≤ p - 1 ∧ pw p a Q.toNat = 1 := by
  obtain ⟨m, hm⟩ := Int.dvd_of_emod_eq_zero hd
  have hm1 : 1 ≤ m := by
    rcases Int.lt_or_le 0 m with k | k
    · omega
    · exfalso
      have : Q * m ≤ 0 := Int.mul_nonpos_of_nonneg_of_nonpos (by omega) k
      omega
  have hm2 : m < p - 1 := by
    have : 2 * m ≤ Q * m := Int.mul_le_mul_of_nonneg_right hQ (by omega)
    omega
  have hex : ∃ x : Int, 1 ≤ x ∧ x < p ∧ pw p x m.toNat ≠ 1 := by
    apply Classical.byContradiction
    intro hno
    have hall : ∀ x : Int, 1 ≤ x → x < p → pw p x m.toNat = 1 := fun x h1 h2 => Classical.byContradiction fun k => hno ⟨x, h1, h2, k⟩
    have hpp : ((p.toNat : Nat) : Int) = p := by omega
    refine mon_roots hp m.toNat (-1 :: List.replicate (m.toNat - 1) 0) (by simp; omega) ((List.range (m.toNat + 1)).map (fun (i : Nat) => (i : Int) + 1)) (by simp) ?_ ?_
    · rw [List.pairwise_map]
      refine List.Pairwise.imp_of_mem (R := fun x y => x < y) (fun {x y} hx hy hlt => ?_) List.pairwise_lt_range
      rw [List.mem_range] at hx hy
      rw [hpp]
      intro e
      have e1 := emod_sub_zero.2 e
      rw [Int.emod_eq_of_lt (by omega) (by omega), Int.emod_eq_of_lt (by omega) (by omega)] at e1
      omega
    · intro r hr
      rw [mon_one, show m.toNat - 1 + 1 = m.toNat by omega, hpp, ← emod_sub_zero]
      simp only [List.mem_map, List.mem_range] at hr
      obtain ⟨i, hi, rfl⟩ := hr
      have := hall ((i : Int) + 1) (by omega) (by omega)
      unfold pw at this
      rw [this]; exact (Int.emod_eq_of_lt (by omega) (by omega)).symm
  obtain ⟨x, hx1, hx2, hx3⟩ := hex
  have hf : pw p (pw p x m.toNat) Q.toNat = 1 := by
    rw [pw_pw]
    have e : m.toNat * Q.toNat = (p - 1).toNat := by
      have : ((m.toNat * Q.toNat : Nat) : Int) = p - 1 := by
        rw [Int.natCast_mul, Int.toNat_of_nonneg (by omega), Int.toNat_of_nonneg (by omega), Int.mul_comm]; exact hm.symm
      omega
    rw [e]; exact pw_fermat hp hx1 hx2
  have bd := pw_bd p x m.toNat (by omega)
  refine ⟨pw p x m.toNat, ?_, bd.2, hf⟩
  rcases Int.lt_or_le 0 (pw p x m.toNat) with k | k
  · omega
  · exfalso
    have e0 : pw p x m.toNat = 0 := by omega
    rw [e0] at hf
    unfold pw at hf
    rw [show Q.toNat = (Q.toNat - 1) + 1 by omega, Int.pow_succ, Int.mul_zero, Int.zero_emod] at hf
    omega
/-- A number from 2 on has a prime that divides it. -/
theorem prime_dvd : ∀ (k : Nat) (n : Int), n.toNat ≤ k → 2 ≤ n → n ≤ 2100 → ∃ q, 2 ≤ q ∧ q ≤ n ∧ n % q = 0 ∧ prmB q = true
  | 0, n, hk, h1, _ => by omega
  | k + 1, n, hk, h1, h2 => by
    cases h : prmB n with
    | true => exact ⟨n, h1, Int.le_refl _, Int.emod_self, h⟩
    | false =>
      have hno := of_decide_eq_false h
      have hex : ∃ d : Nat, d < 46 ∧ 2 ≤ d ∧ (d : Int) * d ≤ n ∧ n % d = 0 := by
        apply Classical.byContradiction
        intro q
        exact hno ⟨h1, fun d a b c e => q ⟨d, a, b, c, e⟩⟩
      obtain ⟨d, _, hd2, hdd, hdm⟩ := hex
      have hlt : (d : Int) < n := by
        have : 2 * (d : Int) ≤ d * d := Int.mul_le_mul_of_nonneg_right (by omega) (by omega)
        omega
      obtain ⟨q, q1, q2, q3, q4⟩ := prime_dvd k d (by omega) (by omega) (by omega)
      obtain ⟨u, hu⟩ := Int.dvd_of_emod_eq_zero hdm
      obtain ⟨v, hv⟩ := Int.dvd_of_emod_eq_zero q3
      refine ⟨q, q1, by omega, ?_, q4⟩
      rw [hu, hv, Int.mul_assoc]; exact Int.mul_emod_right _ _
/-- The greatest number that meets a test. -/
theorem greatest {f : Int → Bool} : ∀ (k : Nat) (lo : Int), (∃ q, lo ≤ q ∧ q ≤ lo + k ∧ f q = true) → ∃ Q, lo ≤ Q ∧ Q ≤ lo + k ∧ f Q = true ∧ ∀ q, Q < q → q ≤ lo + k → f q = false
  | 0, lo, ⟨q, h1, h2, h3⟩ => ⟨q, h1, h2, h3, fun q' a b => by omega⟩
  | k + 1, lo, ⟨q, h1, h2, h3⟩ => by
    cases h : f (lo + (k + 1 : Nat)) with
    | true => exact ⟨lo + (k + 1 : Nat), by omega, Int.le_refl _, h, fun q' a b => by omega⟩
    | false =>
      have hq : q ≠ lo + (k + 1 : Nat) := by intro e; rw [e, h] at h3; cases h3
      obtain ⟨Q, a, b, c, d⟩ := greatest k lo ⟨q, h1, by omega, h3⟩
      refine ⟨Q, a, by omega, c, fun q' h4 h5 => ?_⟩
      rcases Int.lt_or_le (lo + k) q' with m | m
      · rw [show q' = lo + (k + 1 : Nat) by omega]; exact h
      · exact d q' h4 m
/-- The least number that meets a test. -/
theorem least {f : Int → Bool} : ∀ (k : Nat) (lo : Int), (∃ q, lo ≤ q ∧ q ≤ lo + k ∧ f q = true) → ∃ Q, lo ≤ Q ∧ Q ≤ lo + k ∧ f Q = true ∧ ∀ q, lo ≤ q → q < Q → f q = false
  | 0, lo, ⟨q, h1, h2, h3⟩ => ⟨q, h1, h2, h3, fun q' a b => by omega⟩
  | k + 1, lo, ⟨q, h1, h2, h3⟩ => by
    cases h : f lo with
    | true => exact ⟨lo, Int.le_refl _, by omega, h, fun q' a b => by omega⟩
    | false =>
      have hq : q ≠ lo := by intro e; rw [e, h] at h3; cases h3
      obtain ⟨Q, a, b, c, d⟩ := least k (lo + 1) ⟨q, by omega, by omega, h3⟩
      refine ⟨Q, by omega, by omega, c, fun q' h4 h5 => ?_⟩
      rcases Int.lt_or_le lo q' with m | m
      · exact d q' (by omega) h5
      · rw [show q' = lo by omega]; exact h
def qB (p q : Int) : Bool := decide ((p - 1) % q = 0) && prmB q
theorem qB_iff {p q : Int} : qB p q = true ↔ (p - 1) % q = 0 ∧ prmB q = true := by unfold qB; rw [Bool.and_eq_true, decide_eq_true_iff]
def gB (p Q a : Int) : Bool := decide (pw p a Q.toNat = 1)
theorem gB_iff {p Q a : Int} : gB p Q a = true ↔ pw p a Q.toNat = 1 := decide_eq_true_iff
theorem gB_no {p Q a : Int} : gB p Q a = false ↔ ¬ pw p a Q.toNat = 1 := decide_eq_false_iff_not
/-- The group that belongs to a modulus. -/
structure IsGF (p Q G : Int) : Prop where
  ql : 2 ≤ Q ∧ Q ≤ p - 1
  qb : qB p Q = true
  qm : ∀ q, Q < q → q ≤ p - 1 → qB p q = false
  gl : 2 ≤ G ∧ G ≤ p - 1
  gb : gB p Q G = true
  gm : ∀ a, 2 ≤ a → a < G → gB p Q a = false
theorem gf_ex {p : Int} (h : modB p = true) : ∃ Q G, IsGF p Q G := by
  obtain ⟨h1, h2⟩ := modB_lo h
  have hpr := prmB_pr (Bool.and_eq_true_iff.1 h).2 (by omega)
  obtain ⟨q, a, b, c, d⟩ := prime_dvd (p - 1).toNat (p - 1) (Nat.le_refl _) (by omega) (by omega)
  obtain ⟨Q, q1, q2, q3, q4⟩ := greatest (f := qB p) (p - 3).toNat 2 ⟨q, a, by omega, qB_iff.2 ⟨c, d⟩⟩
  obtain ⟨x, x1, x2, x3⟩ := elem_ex hpr q1 h1 (qB_iff.1 q3).1
  obtain ⟨G, g1, g2, g3, g4⟩ := least (f := gB p Q) (p - 3).toNat 2 ⟨x, x1, by omega, gB_iff.2 x3⟩
  exact ⟨Q, G, ⟨q1, by omega⟩, q3, fun q a b => q4 q a (by omega), ⟨g1, by omega⟩, g3, g4⟩
theorem IsGF.grB {p Q G : Int} (h : IsGF p Q G) (hm : modB p = true) : grB p Q G = true := by
  obtain ⟨h1, h2⟩ := qB_iff.1 h.qb
  unfold Proofs.YtfichpppjpgahaaGreatDoor.grB
  simp only [Bool.and_eq_true, decide_eq_true_iff, inB_iff]
  exact ⟨hm, ⟨h.ql, h2⟩, h1, h.gl, gB_iff.1 h.gb⟩
end Go.Proofs.YtfichpppjpgahaaGreatDoor
namespace Go.Proofs.YtfichpppjpgahaaGreatDoor
set_option linter.unusedVariables false
set_option linter.unusedSimpArgs false

/-- The inverse that the program computes. -/
def invP (p a : Int) : Int := pw p a (p - 2).toNat
theorem invP_mul (p a b : Int) : invP p (a * b % p) = invP p a * invP p b % p := pw_mulbase p a b _
theorem pow_modL (a p : Int) : ∀ n : Nat, (a % p) ^ n % p = a ^ n % p
  | 0 => by rw [Int.pow_zero, Int.pow_zero]
  | n + 1 => by rw [Int.pow_succ, Int.pow_succ, Int.mul_emod, pow_modL a p n, Int.emod_emod, ← Int.mul_emod]
theorem invP_mod (p a : Int) : invP p (a % p) = invP p a := pow_modL a p _
/-- The value of a polynomial, the lowest coefficient first. -/
def pl : List Int → Int → Int
  | [], _ => 0
  | c :: cs, x => c + x * pl cs x
/-- A polynomial times x + a, coefficients reduced: the lowest first. -/
def mxGo (p a : Int) : Int → List Int → List Int
  | prev, [] => [prev % p]
  | prev, c :: cs => (prev % p + c * a) % p :: mxGo p a c cs
def mx (p a : Int) (l : List Int) : List Int := mxGo p a 0 l
theorem mxGo_len (p a : Int) : ∀ (l : List Int) (prev : Int), (mxGo p a prev l).length = l.length + 1
  | [], _ => rfl
  | c :: cs, prev => by rw [mxGo, List.length_cons, mxGo_len p a cs c]; rfl
theorem mxGo_bd {p : Int} (hp : 2 ≤ p) (a : Int) : ∀ (l : List Int) (prev : Int), ∀ x ∈ mxGo p a prev l, 0 ≤ x ∧ x < p
  | [], prev, x, hx => by
    simp only [mxGo, List.mem_singleton] at hx; subst hx
    exact ⟨Int.emod_nonneg _ (by omega), Int.emod_lt_of_pos _ (by omega)⟩
  | c :: cs, prev, x, hx => by
    rw [mxGo] at hx
    rcases List.mem_cons.1 hx with e | e
    · subst e; exact ⟨Int.emod_nonneg _ (by omega), Int.emod_lt_of_pos _ (by omega)⟩
    · exact mxGo_bd hp a cs c x e
theorem emod_step {p x y : Int} (h : x % p = y % p) (z : Int) : (z + x) % p = (z + y) % p := by rw [Int.add_emod, h, ← Int.add_emod]
theorem mul_step {p x y : Int} (h : x % p = y % p) (z : Int) : (z * x) % p = (z * y) % p := by rw [Int.mul_emod, h, ← Int.mul_emod]
theorem pl_mxGo (p a x : Int) : ∀ (l : List Int) (prev : Int), pl (mxGo p a prev l) x % p = (prev + (x + a) * pl l x) % p
  | [], prev => by simp [mxGo, pl]
  | c :: cs, prev => by
    have ih := pl_mxGo p a x cs c
    rw [mxGo, pl, pl]
    have h1 := mul_step ih x
    have h2 : (prev % p + c * a) % p % p = (prev + c * a) % p := by rw [Int.emod_emod, Int.emod_add_emod]
    have h3 := emod_step h1 ((prev % p + c * a) % p)
    rw [h3, Int.add_emod, h2, ← Int.add_emod]
    congr 1
    grind
/-- A scaled polynomial. -/
def scl (p s : Int) (l : List Int) : List Int := l.map fun c => c * s % p
theorem mxGo_scl {p a a' : Int} (ha : a % p = a' % p) (s : Int) : ∀ (l : List Int) (prev : Int), mxGo p a' (prev * s % p) (scl p s l) = scl p s (mxGo p a prev l)
  | [], prev => by
    simp only [scl, mxGo, List.map_nil, List.map_cons]
    congr 1
    rw [Int.emod_emod, Int.mul_emod (prev % p), Int.emod_emod, ← Int.mul_emod]
  | c :: cs, prev => by
    have ih := mxGo_scl ha s cs c
    unfold scl at ih ⊢
    rw [List.map_cons, mxGo, mxGo, List.map_cons, ih]
    congr 1
    have h1 : c * s % p * a' % p = c * s * a' % p := by rw [Int.mul_emod, Int.emod_emod, ← Int.mul_emod]
    have h2 : (prev * s % p % p + c * s % p * a') % p = (prev * s + c * s * a') % p := by
      rw [Int.emod_emod, Int.emod_add_emod, ← Int.add_emod_emod, h1, Int.add_emod_emod]
    have h3 : (prev % p + c * a) % p * s % p = (prev + c * a) * s % p := by rw [Int.emod_add_emod, Int.mul_emod, Int.emod_emod, ← Int.mul_emod]
    have h4 : (prev * s + c * s * a') % p = (prev * s + c * s * a) % p := emod_step (mul_step ha.symm (c * s)) (prev * s)
    rw [h2, h3, h4]
    congr 1
    grind
theorem pl_scl (p s x : Int) : ∀ l : List Int, pl (scl p s l) x % p = s * pl l x % p
  | [] => by simp [scl, pl]
  | c :: cs => by
    have ih := pl_scl p s x cs
    unfold scl at ih ⊢
    rw [List.map_cons, pl, pl]
    have h1 := mul_step ih x
    have h2 := emod_step h1 (c * s % p)
    rw [h2, Int.emod_add_emod]
    congr 1
    grind
/-- Two polynomials of one length are added, the second one scaled. -/
def addS (p s : Int) : List Int → List Int → List Int
  | o :: os, c :: cs => (o + c * s) % p :: addS p s os cs
  | os, [] => os
  | [], _ => []
theorem addS_len (p s : Int) : ∀ os cs : List Int, os.length = cs.length → (addS p s os cs).length = os.length
  | [], [], _ => rfl
  | o :: os, c :: cs, h => by rw [addS, List.length_cons, addS_len p s os cs (by simpa using h), List.length_cons]
  | [], _ :: _, h => by simp at h
  | _ :: _, [], h => by simp at h
theorem pl_addS (p s x : Int) : ∀ os cs : List Int, os.length = cs.length → pl (addS p s os cs) x % p = (pl os x + s * pl cs x) % p
  | [], [], _ => by simp [addS, pl]
  | o :: os, c :: cs, h => by
    have ih := pl_addS p s x os cs (by simpa using h)
    rw [addS, pl, pl, pl]
    have h1 := mul_step ih x
    have h2 := emod_step h1 ((o + c * s) % p)
    rw [h2, Int.emod_add_emod]
    congr 1
    grind
  | [], _ :: _, h => by simp at h
  | _ :: _, [], h => by simp at h
/-- The scaled sum is the sum of what is scaled. -/
theorem addS_scl (p s : Int) : ∀ os cs : List Int, addS p 1 os (scl p s cs) = addS p s os cs
  | o :: os, c :: cs => by
    have ih := addS_scl p s os cs
    unfold scl at ih ⊢
    rw [List.map_cons, addS, addS, ih, Int.mul_one, Int.add_emod_emod]
  | [], [] => rfl
  | _ :: _, [] => rfl
  | [], _ :: _ => rfl
end Go.Proofs.YtfichpppjpgahaaGreatDoor
namespace Go.Proofs.YtfichpppjpgahaaGreatDoor
set_option linter.unusedVariables false
set_option linter.unusedSimpArgs false

/-- The product of the other factors, its value at the point, as the program makes them. -/
def prI (p : Int) (xs : List Int) (i : Nat) : Nat → List Int
  | 0 => [1]
  | k + 1 => if k = i then prI p xs i k else mx p (p - nth xs k) (prI p xs i k)
def vaI (p : Int) (xs : List Int) (i : Nat) : Nat → Int
  | 0 => 1
  | k + 1 => if k = i then vaI p xs i k else vaI p xs i k * (nth xs i - nth xs k + p) % p
/-- The part of a point, as the reference makes it; its scale. -/
def paS (p : Int) (xs : List Int) (y : Int) (i : Nat) : Nat → List Int
  | 0 => [y]
  | k + 1 => if k = i then paS p xs y i k else scl p (invP p ((nth xs i - nth xs k) % p)) (mx p (-nth xs k % p) (paS p xs y i k))
def scS (p : Int) (xs : List Int) (y : Int) (i : Nat) : Nat → Int
  | 0 => y
  | k + 1 => if k = i then scS p xs y i k else scS p xs y i k * invP p ((nth xs i - nth xs k) % p) % p
theorem scl_scl (p s S : Int) (l : List Int) : scl p s (scl p S l) = scl p (S * s % p) l := by
  unfold scl
  rw [List.map_map]
  apply List.map_congr_left
  intro c _
  show c * S % p * s % p = c * (S * s % p) % p
  rw [Int.mul_emod (c * S % p), Int.emod_emod, ← Int.mul_emod, Int.mul_emod c (S * s % p), Int.emod_emod, ← Int.mul_emod, Int.mul_assoc]
theorem mx_scl {p a a' : Int} (ha : a % p = a' % p) (s : Int) (l : List Int) : mx p a' (scl p s l) = scl p s (mx p a l) := by
  have := mxGo_scl ha s l 0
  rw [Int.zero_mul, Int.zero_emod] at this
  exact this
theorem paS_eq {p y : Int} (hy : 0 ≤ y ∧ y < p) (xs : List Int) (i : Nat) : ∀ k, paS p xs y i k = scl p (scS p xs y i k) (prI p xs i k)
  | 0 => by simp [paS, scS, prI, scl, Int.emod_eq_of_lt hy.1 hy.2]
  | k + 1 => by
    have ih := paS_eq hy xs i k
    rw [paS, scS, prI]
    split
    · exact ih
    · rw [ih, mx_scl (a := p - nth xs k) (by rw [Int.emod_emod]; rw [show p - nth xs k = -nth xs k + p by omega, Int.add_emod_right]), scl_scl]
theorem invP_one {p : Int} (hp : 2 ≤ p) : invP p 1 = 1 := pw_one p _ hp
theorem scS_bd {p y : Int} (hp : 2 ≤ p) (hy : 0 ≤ y ∧ y < p) (xs : List Int) (i : Nat) : ∀ k, 0 ≤ scS p xs y i k ∧ scS p xs y i k < p
  | 0 => hy
  | k + 1 => by
    rw [scS]; split
    · exact scS_bd hp hy xs i k
    · exact ⟨Int.emod_nonneg _ (by omega), Int.emod_lt_of_pos _ (by omega)⟩
theorem scS_inv {p y : Int} (hp : 2 ≤ p) (xs : List Int) (i : Nat) : ∀ k, scS p xs y i k % p = y * invP p (vaI p xs i k) % p
  | 0 => by rw [scS, vaI, invP_one hp, Int.mul_one]
  | k + 1 => by
    have ih := scS_inv (y := y) hp xs i k
    rw [scS, vaI]
    split
    · exact ih
    · rw [invP_mul, show invP p (nth xs i - nth xs k + p) = invP p ((nth xs i - nth xs k) % p) by rw [← invP_mod p (nth xs i - nth xs k + p), Int.add_emod_right]]
      rw [Int.emod_emod, Int.mul_emod, ih, ← Int.mul_emod, Int.mul_emod y, Int.emod_emod, ← Int.mul_emod, Int.mul_assoc]
theorem scS_eq {p y : Int} (hp : 2 ≤ p) (hy : 0 ≤ y ∧ y < p) (xs : List Int) (i k : Nat) : scS p xs y i k = y * invP p (vaI p xs i k) % p := by
  have h := scS_bd hp hy xs i k
  rw [← scS_inv hp, Int.emod_eq_of_lt h.1 h.2]
/-- The polynomial, both ways. -/
def polyI (p : Int) (xs ys : List Int) (n : Nat) : Nat → List Int
  | 0 => List.replicate n 0
  | i + 1 => addS p (nth ys i * invP p (vaI p xs i n) % p) (polyI p xs ys n i) (prI p xs i n)
def polyS (p : Int) (xs ys : List Int) (n : Nat) : Nat → List Int
  | 0 => List.replicate n 0
  | i + 1 => addS p 1 (polyS p xs ys n i) (paS p xs (nth ys i) i n)
theorem poly_eq {p : Int} (hp : 2 ≤ p) (xs ys : List Int) (n : Nat) (hy : ∀ i, 0 ≤ nth ys i ∧ nth ys i < p) : ∀ i, polyI p xs ys n i = polyS p xs ys n i
  | 0 => rfl
  | i + 1 => by rw [polyI, polyS, paS_eq (hy i), addS_scl, poly_eq hp xs ys n hy i, scS_eq hp (hy i)]
/-- The product of the roots. -/
def rt (xs : List Int) (i : Nat) (x : Int) : Nat → Int
  | 0 => 1
  | k + 1 => if k = i then rt xs i x k else rt xs i x k * (x - nth xs k)
theorem pl_prI (p : Int) (xs : List Int) (i : Nat) (x : Int) : ∀ k, pl (prI p xs i k) x % p = rt xs i x k % p
  | 0 => by simp [prI, rt, pl]
  | k + 1 => by
    have ih := pl_prI p xs i x k
    rw [prI, rt]
    split
    · exact ih
    · unfold mx
      rw [pl_mxGo, Int.zero_add, show x + (p - nth xs k) = x - nth xs k + p by omega, Int.mul_emod, Int.add_emod_right, ih, ← Int.mul_emod, Int.mul_comm]
theorem vaI_rt (p : Int) (xs : List Int) (i : Nat) : ∀ k, vaI p xs i k % p = rt xs i (nth xs i) k % p
  | 0 => by simp [vaI, rt]
  | k + 1 => by
    have ih := vaI_rt p xs i k
    rw [vaI, rt]
    split
    · exact ih
    · rw [Int.emod_emod, Int.mul_emod, ih, Int.add_emod_right, ← Int.mul_emod]
end Go.Proofs.YtfichpppjpgahaaGreatDoor
namespace Go.Proofs.YtfichpppjpgahaaGreatDoor
set_option linter.unusedVariables false
set_option linter.unusedSimpArgs false

theorem prI_len (p : Int) (xs : List Int) (i : Nat) : ∀ k, (prI p xs i k).length = 1 + k - (if i < k then 1 else 0)
  | 0 => rfl
  | k + 1 => by
    have ih := prI_len p xs i k
    rw [prI]
    split
    · rename_i e; subst e
      rw [ih, if_neg (by omega), if_pos (by omega)]; omega
    · rename_i e
      unfold mx
      rw [mxGo_len, ih]
      by_cases h : i < k
      · rw [if_pos h, if_pos (by omega)]; omega
      · rw [if_neg h, if_neg (by omega)]; omega
theorem polyI_len (p : Int) (xs ys : List Int) (n : Nat) : ∀ i, i ≤ n → (polyI p xs ys n i).length = n
  | 0, _ => by simp [polyI]
  | i + 1, h => by
    have ih := polyI_len p xs ys n i (by omega)
    rw [polyI, addS_len _ _ _ _ (by rw [ih, prI_len, if_pos (by omega)]; omega), ih]
/-- The value of the polynomial at x, a term for each point. -/
def lgS (p : Int) (xs ys : List Int) (x : Int) (n : Nat) : Nat → Int
  | 0 => 0
  | i + 1 => lgS p xs ys x n i + nth ys i * (invP p (vaI p xs i n) * rt xs i x n)
theorem pl_rep (x : Int) : ∀ n, pl (List.replicate n 0) x = 0
  | 0 => rfl
  | n + 1 => by rw [List.replicate_succ, pl, pl_rep x n]; simp
theorem pl_polyI (p : Int) (xs ys : List Int) (x : Int) (n : Nat) : ∀ i, i ≤ n → pl (polyI p xs ys n i) x % p = lgS p xs ys x n i % p
  | 0, _ => by rw [polyI, pl_rep, lgS]
  | i + 1, h => by
    have ih := pl_polyI p xs ys x n i (by omega)
    have hl := polyI_len p xs ys n i (by omega)
    rw [polyI, lgS, pl_addS _ _ _ _ _ (by rw [hl, prI_len, if_pos (by omega)]; omega)]
    have h1 : nth ys i * invP p (vaI p xs i n) % p * pl (prI p xs i n) x % p = nth ys i * (invP p (vaI p xs i n) * rt xs i x n) % p := by
      rw [Int.mul_emod, Int.emod_emod, pl_prI, ← Int.mul_emod, Int.mul_assoc]
    rw [Int.add_emod, ih, h1, ← Int.add_emod]
/-- Horner's way. -/
def hor (p x : Int) : List Int → Int
  | [] => 0
  | c :: cs => (hor p x cs * x + c) % p
theorem hor_pl (p x : Int) : ∀ l, hor p x l % p = pl l x % p
  | [] => rfl
  | c :: cs => by
    have ih := hor_pl p x cs
    rw [hor, pl, Int.emod_emod, Int.add_emod, Int.mul_emod, ih, ← Int.mul_emod, ← Int.add_emod]
    congr 1
    grind
theorem hor_bd {p : Int} (hp : 2 ≤ p) (x : Int) : ∀ l, 0 ≤ hor p x l ∧ hor p x l < p
  | [] => ⟨Int.le_refl _, by show (0 : Int) < p; omega⟩
  | c :: cs => ⟨Int.emod_nonneg _ (by omega), Int.emod_lt_of_pos _ (by omega)⟩
/-- The weight of a point, as the reference makes it. -/
def wtS (p : Int) (xs : List Int) (i : Nat) (x : Int) : Nat → Int
  | 0 => 1
  | k + 1 => if k = i then wtS p xs i x k else wtS p xs i x k * ((x - nth xs k) % p) % p * invP p ((nth xs i - nth xs k) % p) % p
theorem wtS_eq {p : Int} (hp : 2 ≤ p) (xs : List Int) (i : Nat) (x : Int) : ∀ k, wtS p xs i x k % p = invP p (vaI p xs i k) * rt xs i x k % p
  | 0 => by rw [wtS, vaI, rt, invP_one hp, Int.mul_one]
  | k + 1 => by
    have ih := wtS_eq hp xs i x k
    rw [wtS, vaI, rt]
    split
    · exact ih
    · rw [invP_mul, show invP p (nth xs i - nth xs k + p) = invP p ((nth xs i - nth xs k) % p) by rw [← invP_mod p (nth xs i - nth xs k + p), Int.add_emod_right]]
      generalize invP p ((nth xs i - nth xs k) % p) = u
      have h1 : wtS p xs i x k * ((x - nth xs k) % p) % p = invP p (vaI p xs i k) * rt xs i x k * (x - nth xs k) % p := by
        rw [Int.mul_emod, ih, Int.emod_emod, ← Int.mul_emod]
      rw [h1, Int.emod_emod, Int.mul_emod, Int.emod_emod, ← Int.mul_emod]
      rw [Int.mul_emod (invP p (vaI p xs i k) * u % p), Int.emod_emod, ← Int.mul_emod]
      congr 1
      grind
def atS (p : Int) (xs ys : List Int) (x : Int) (n : Nat) : Nat → Int
  | 0 => 0
  | i + 1 => (atS p xs ys x n i + nth ys i * wtS p xs i x n) % p
theorem atS_lg {p : Int} (hp : 2 ≤ p) (xs ys : List Int) (x : Int) (n : Nat) : ∀ i, atS p xs ys x n i % p = lgS p xs ys x n i % p
  | 0 => rfl
  | i + 1 => by
    have ih := atS_lg hp xs ys x n i
    rw [atS, lgS, Int.emod_emod, Int.add_emod, ih, Int.mul_emod, wtS_eq hp, ← Int.mul_emod, ← Int.add_emod]
theorem atS_bd {p : Int} (hp : 2 ≤ p) (xs ys : List Int) (x : Int) (n : Nat) : ∀ i, 0 ≤ atS p xs ys x n i ∧ atS p xs ys x n i < p
  | 0 => ⟨Int.le_refl _, by show (0 : Int) < p; omega⟩
  | i + 1 => ⟨Int.emod_nonneg _ (by omega), Int.emod_lt_of_pos _ (by omega)⟩
/-- Both ways to the value at x agree. -/
theorem at_eq {p : Int} (hp : 2 ≤ p) (xs ys : List Int) (x : Int) (n : Nat) : hor p x (polyI p xs ys n n) = atS p xs ys x n n := by
  have h1 := hor_bd hp x (polyI p xs ys n n)
  have h2 := atS_bd hp xs ys x n n
  have h3 := hor_pl p x (polyI p xs ys n n)
  rw [pl_polyI p xs ys x n n (Nat.le_refl _), ← atS_lg hp, Int.emod_eq_of_lt h1.1 h1.2, Int.emod_eq_of_lt h2.1 h2.2] at h3
  exact h3
theorem rt_zero (xs : List Int) (i : Nat) {x : Int} {j : Nat} (hx : x = nth xs j) (hij : j ≠ i) : ∀ k, j < k → rt xs i x k = 0
  | 0, h => by omega
  | k + 1, h => by
    rw [rt]
    by_cases e : j = k
    · subst e; rw [if_neg hij, hx, Int.sub_self, Int.mul_zero]
    · have ih := rt_zero xs i hx hij k (by omega)
      split
      · exact ih
      · rw [ih, Int.zero_mul]
theorem rt_ne {p : Nat} (hp : Pr p) (xs : List Int) (i : Nat) (n : Nat) (hd : ∀ k, k < n → k ≠ i → (nth xs i - nth xs k) % (p : Int) ≠ 0) : ∀ k, k ≤ n → rt xs i (nth xs i) k % (p : Int) ≠ 0
  | 0, _ => by
    have := hp.1
    rw [rt, Int.emod_eq_of_lt (by omega) (by omega)]; omega
  | k + 1, h => by
    have ih := rt_ne hp xs i n hd k (by omega)
    rw [rt]
    split
    · exact ih
    · rename_i e
      intro z
      rcases hp.mul z with q | q
      · exact ih q
      · exact hd k (by omega) e q
theorem inv_val {p : Nat} (hp : Pr p) {v : Int} (hv : v % (p : Int) ≠ 0) : invP p v * v % (p : Int) = 1 := by
  have h2 := hp.1
  have hf := fermat hp hv
  unfold invP pw
  rw [show ((p : Int) - 2).toNat = p - 2 by omega, Int.mul_emod, Int.emod_emod, ← Int.mul_emod, ← Int.pow_succ, show (p - 2).succ = p - 1 by omega]
  exact hf
/-- At a point the polynomial has its value. -/
theorem at_point {p : Nat} (hp : Pr p) (xs ys : List Int) (n : Nat) (hy : ∀ i, 0 ≤ nth ys i ∧ nth ys i < p) (hd : ∀ i k, i < n → k < n → k ≠ i → (nth xs i - nth xs k) % (p : Int) ≠ 0) {j : Nat} (hj : j < n) : hor p (nth xs j) (polyI p xs ys n n) = nth ys j := by
  have h2 := hp.1
  have key : ∀ i, i ≤ n → lgS p xs ys (nth xs j) n i % (p : Int) = if j < i then nth ys j else 0 := by
    intro i
    induction i with
    | zero => intro _; rw [lgS, if_neg (by omega)]; rfl
    | succ i ih =>
      intro hi
      have ih := ih (by omega)
      rw [lgS]
      by_cases e : j = i
      · subst e
        rw [if_neg (by omega)] at ih
        rw [if_pos (by omega), Int.add_emod, ih, Int.zero_add, Int.emod_emod]
        have hv := rt_ne hp xs j n (fun k hk hkj => hd j k hj hk hkj) n (Nat.le_refl _)
        have hv2 : vaI p xs j n % (p : Int) ≠ 0 := by rw [vaI_rt]; exact hv
        have h3 : invP p (vaI p xs j n) * rt xs j (nth xs j) n % (p : Int) = 1 := by rw [Int.mul_emod, ← vaI_rt, ← Int.mul_emod]; exact inv_val hp hv2
        rw [Int.mul_emod, h3, Int.mul_one, Int.emod_emod, Int.emod_eq_of_lt (hy j).1 (hy j).2]
      · rw [rt_zero xs i rfl e n hj, Int.mul_zero, Int.mul_zero, Int.add_zero, ih]
        by_cases h4 : j < i
        · rw [if_pos h4, if_pos (by omega)]
        · rw [if_neg h4, if_neg (by omega)]
  have h1 := hor_bd (p := p) (by omega) (nth xs j) (polyI p xs ys n n)
  have h3 := hor_pl p (nth xs j) (polyI p xs ys n n)
  rw [pl_polyI p xs ys (nth xs j) n n (Nat.le_refl _), key n (Nat.le_refl _), if_pos hj, Int.emod_eq_of_lt h1.1 h1.2] at h3
  exact h3
end Go.Proofs.YtfichpppjpgahaaGreatDoor
