/-
  Groups: primes up to 2100, powers, what a valid group is; boxes of three cells.
-/
import Derived.Test.YtfichpppjpgahaaD2
namespace Go.Proofs.Ytfichpppjpgahaa
open Go.RowKit
set_option linter.unusedVariables false
set_option linter.unusedSimpArgs false

/-- A prime (asked of numbers up to 2100). -/
def prmB (n : Int) : Bool := decide (2 ≤ n ∧ ∀ d : Nat, d < 46 → 2 ≤ d → (d : Int) * d ≤ n → n % d ≠ 0)
theorem prmB_lo {n : Int} (h : prmB n = true) : 2 ≤ n := (of_decide_eq_true h).1
theorem sq_le46 {d p : Int} (h0 : 0 ≤ d) (h : d * d ≤ p) (hp : p ≤ 2100) : d ≤ 45 := by
  rcases Int.lt_or_le 45 d with k | k
  · have : 46 * 46 ≤ d * d := Int.mul_le_mul (by omega) (by omega) (by omega) h0
    omega
  · exact k
theorem prmB_div {p : Int} {d : Nat} (hd : 2 ≤ d) (h : (d : Int) * d ≤ p) (hp : p ≤ 2100) (hm : p % d = 0) : prmB p = false := by
  refine decide_eq_false fun k => k.2 d ?_ hd h hm
  have := sq_le46 (Int.natCast_nonneg d) h hp
  omega
theorem prmB_yes {p : Int} (h1 : 2 ≤ p) (n : Nat) (hn : p < (n : Int) * n) (h : ∀ d : Nat, 2 ≤ d → d < n → p % d ≠ 0) : prmB p = true := by
  refine decide_eq_true ⟨h1, fun d _ h2 hd => h d h2 ?_⟩
  rcases Nat.lt_or_ge d n with k | k
  · exact k
  · have : (n : Int) * n ≤ (d : Int) * d := Int.mul_le_mul (by omega) (by omega) (by omega) (by omega)
    omega
/-- Powers. -/
def pw (p a : Int) (n : Nat) : Int := a ^ n % p
theorem pw_bd (p a : Int) (n : Nat) (hp : 1 ≤ p) : 0 ≤ pw p a n ∧ pw p a n ≤ p - 1 := by
  have := emod_bd (n := a ^ n) (p := p) hp
  unfold pw; omega
theorem pow_mod (x p : Int) (n : Nat) : (x % p) ^ n % p = x ^ n % p := by
  induction n with
  | zero => simp
  | succ n ih => rw [Int.pow_succ, Int.pow_succ, Int.mul_emod, ih, Int.emod_emod_of_dvd _ (Int.dvd_refl p), ← Int.mul_emod]
theorem sq_pow (b : Int) (k : Nat) : (b * b) ^ k = b ^ (2 * k) := by
  rw [Int.pow_mul, show b ^ 2 = b * b by rw [Int.pow_succ, Int.pow_succ, Int.pow_zero, Int.one_mul]]
theorem pw_half (o b p : Int) (n : Nat) (h : n % 2 = 0) : o * (b * b % p) ^ (n / 2) % p = o * b ^ n % p := by
  rw [Int.mul_emod, pow_mod, ← Int.mul_emod]
  congr 2
  rw [sq_pow, show 2 * (n / 2) = n by omega]
theorem pw_odd (o b p : Int) (n : Nat) (h : n % 2 = 1) : (o * b % p) * (b * b % p) ^ (n / 2) % p = o * b ^ n % p := by
  rw [Int.mul_emod, pow_mod, Int.emod_emod_of_dvd _ (Int.dvd_refl p), ← Int.mul_emod]
  congr 1
  rw [sq_pow, Int.mul_assoc]
  congr 1
  rw [Int.mul_comm, ← Int.pow_succ, show (2 * (n / 2)).succ = n by omega]
theorem i64_and1 (n : Int) : bits .and .i64 n 1 = n % 2 := by
  have h127 : (BitVec.ofInt 64 1).toNat = 2 ^ 1 - 1 := by decide
  have key : (BitVec.ofInt 64 n &&& BitVec.ofInt 64 1).toNat = (n % ((2 ^ 64 : Nat) : Int)).toNat % 2 ^ 1 := by
    rw [BitVec.toNat_and, BitVec.toNat_ofInt, h127, Nat.and_two_pow_sub_one_eq_mod]
  show IntKind.i64.wrap ((BitVec.ofInt 64 n &&& BitVec.ofInt 64 1).toNat : Nat) = n % 2
  rw [key, IntKind.wrap_i64]
  omega
/-- The modulus of a group; a group. -/
def modB (p : Int) : Bool := inB p 3 2003 && prmB p
def grB (P Q G : Int) : Bool := modB P && (inB Q 2 (P - 1) && prmB Q && (decide ((P - 1) % Q = 0) && (inB G 2 (P - 1) && decide (pw P G Q.toNat = 1))))
def hasB (P Q a : Int) : Bool := inB a 1 (P - 1) && decide (pw P a Q.toNat = 1)
/-- A power with an exponent of any sign. -/
def gpw (P Q a n : Int) : Int := pw P a (n % Q).toNat
theorem gpw_bd (P Q a n : Int) (hp : 1 ≤ P) : 0 ≤ gpw P Q a n ∧ gpw P Q a n ≤ P - 1 := pw_bd _ _ _ hp
theorem modB_lo {p : Int} (h : modB p = true) : 3 ≤ p ∧ p ≤ 2003 := inB_iff.1 (Bool.and_eq_true_iff.1 h).1
theorem grB_lo {P Q G : Int} (h : grB P Q G = true) : (3 ≤ P ∧ P ≤ 2003) ∧ (2 ≤ Q ∧ Q ≤ 2002) ∧ (2 ≤ G ∧ G ≤ P - 1) := by
  unfold grB at h
  simp only [Bool.and_eq_true] at h
  have h1 := modB_lo h.1
  have h2 := inB_iff.1 h.2.1.1
  exact ⟨h1, by omega, inB_iff.1 h.2.2.2.1⟩
theorem hasB_lo {P Q a : Int} (h : hasB P Q a = true) : 1 ≤ a ∧ a ≤ P - 1 := inB_iff.1 (Bool.and_eq_true_iff.1 h).1
/-- A box of three ints. -/
def Gx (w : World) (b : Nat) (P Q G : Int) : Prop := w.cell? ⟨b, 0, none⟩ = some (.int .i64 P) ∧ w.cell? ⟨b, 1, none⟩ = some (.int .i64 Q) ∧ w.cell? ⟨b, 2, none⟩ = some (.int .i64 G)
theorem Gx.on {w w' : World} {b : Nat} {P Q G : Int} (h : Gx w b P Q G) (hb : Below w.heap.size w w') : Gx w' b P Q G :=
  ⟨cell_on h.1 hb, cell_on h.2.1 hb, cell_on h.2.2 hb⟩
theorem Gx.new {w : World} {P Q G : Int} {t : TypeId} : Gx (w.alloc (.cells #[.int .i64 P, .int .i64 Q, .int .i64 G] t)) w.heap.size P Q G :=
  ⟨World.cell?_alloc_at _ _ _ _ rfl, World.cell?_alloc_at _ _ _ _ rfl, World.cell?_alloc_at _ _ _ _ rfl⟩
theorem gbox1 {w w' : World} {P Q G : Int} {t : TypeId} (hb : Below (w.alloc (.cells #[.int .i64 P, .int .i64 Q, .int .i64 G] t)).heap.size (w.alloc (.cells #[.int .i64 P, .int .i64 Q, .int .i64 G] t)) w') : Gx w' w.heap.size P Q G := Gx.new.on hb
theorem modB_of {p : Int} (h : p ≠ 2) : (inB p 2 2003 && prmB p) = modB p := by
  unfold modB
  have : inB p 2 2003 = inB p 3 2003 := by unfold inB; congr 1; simp; omega
  rw [this]
theorem modB_2 : modB 2 = false := rfl

set_option maxHeartbeats 1000000 in
theorem i_power (p a n : Int) (w : World) (hp : 2 ≤ p ∧ p ≤ 3000) (ha : 0 ≤ a ∧ a ≤ 3000) (hn : 0 ≤ n ∧ n ≤ 1000000000000) :
    Calls Try.prog 137 #[.int .i64 p, .int .i64 a, .int .i64 n] w fun e w' => e = .returned (.int .i64 (pw p a n.toNat)) ∧ w = w' := by
  obtain ⟨hp1, hp2⟩ := hp; obtain ⟨ha1, ha2⟩ := ha
  obtain ⟨n0, rfl⟩ : ∃ n0 : Nat, n = n0 := ⟨n.toNat, by omega⟩
  obtain ⟨_, hn2⟩ := hn
  rw [show ((n0 : Int)).toNat = n0 by omega]
  have h1 : (1 : Int) % p = 1 := Int.emod_eq_of_lt (by omega) (by omega)
  have H0 : Hid (1 * a ^ n0 % p = pw p a n0) := by show _ = _; unfold pw; rw [Int.one_mul]
  have hand := i64_and1
  go_enter Try.func137, Try.ntmps137
  go_wp2
  go_loop [1, 2, 7] (fun b m o => ∃ (N : Nat) (A O : Int), m = .int .i64 N ∧ b = .int .i64 A ∧ o = .int .i64 O ∧ 0 ≤ A ∧ A ≤ 3000 ∧ 0 ≤ O ∧ O ≤ p - 1 ∧ N ≤ 1000000000000 ∧ Hid (O * A ^ N % p = pw p a n0)) (fun _ m _ => (intOf m).toNat)
  case atStart => exact ⟨n0, a, 1, rfl, rfl, by first | rfl | (simp [h1]), ha1, ha2, by omega, by omega, by omega, H0⟩
  case round =>
    obtain ⟨N, A, O, rfl, rfl, rfl, hA1, hA2, hO1, hO2, hN, HP⟩ := hrel
    clear H0
    by_cases h0 : N = 0
    · subst h0
      have HR : Hid (O = pw p a n0) := by
        have := HP.out
        rw [Int.pow_zero, Int.mul_one, Int.emod_eq_of_lt hO1 (by omega)] at this
        exact this
      go_wp2
      go_ret
      exact ⟨ret_int HR.out, rfl⟩
    · obtain ⟨q1, q2⟩ := mul_bd (a := O) (b := A) 3000 3000 (by omega) (by omega) (by omega) (by omega)
      obtain ⟨q3, q4⟩ := mul_bd (a := A) (b := A) 3000 3000 (by omega) (by omega) (by omega) (by omega)
      have e1 := emod_bd (n := O * A) (p := p) (by omega)
      have e2 := emod_bd (n := A * A) (p := p) (by omega)
      have HN : Hid (((N / 2 : Nat) : Int) = (N : Int) / 2) := by show _ = _; omega
      by_cases ho : N % 2 = 1
      · have ho' : (N : Int) % 2 = 1 := by omega
        have HS := Lib.hid ((pw_odd O A p N ho).trans HP.out)
        clear ho
        go_wp2
        go_round
        case rel => exact ⟨N / 2, A * A % p, O * A % p, by first | rfl | (rw [HN.out]), rfl, rfl, by omega, by omega, by omega, by omega, by omega, HS⟩
        case measure => simp [intOf]; omega
      · have ho' : (N : Int) % 2 = 0 := by omega
        have HS := Lib.hid ((pw_half O A p N (by omega)).trans HP.out)
        clear ho
        go_wp2
        go_round
        case rel => exact ⟨N / 2, A * A % p, O, by first | rfl | (rw [HN.out]), rfl, rfl, by omega, by omega, by omega, by omega, by omega, HS⟩
        case measure => simp [intOf]; omega
