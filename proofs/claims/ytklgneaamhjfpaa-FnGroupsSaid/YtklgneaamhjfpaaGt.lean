/-
  The plain law on transfers: pads of the sender and of the receiver agree, and a message that is hidden twice by one pad is itself.
-/
import Derived.Test.YtklgneaamhjfpaaGm
import Derived.Test.YtklgneaamhjfpaaG8
namespace Go.Proofs.Ytklgneaamhjfpaa
set_option linter.unusedVariables false
set_option linter.unusedSimpArgs false

theorem xor_xor {x : Int} (y : Int) (hx : Fits x) : bits .xor .i64 (bits .xor .i64 x y) y = x := by
  have hback : ∀ b : BitVec 64, BitVec.ofInt 64 (IntKind.i64.wrap (b.toNat : Nat)) = b := by
    intro b
    apply BitVec.eq_of_toInt_eq
    rw [BitVec.toInt_ofInt, IntKind.wrap_i64]
    have h1 := b.isLt
    rw [BitVec.toInt_eq_toNat_cond]
    simp only [Int.bmod_def]
    split <;> split <;> omega
  have h1 : bits .xor .i64 x y = IntKind.i64.wrap ((BitVec.ofInt 64 x ^^^ BitVec.ofInt 64 y).toNat : Nat) := rfl
  have h2 : ∀ z : Int, bits .xor .i64 z y = IntKind.i64.wrap ((BitVec.ofInt 64 z ^^^ BitVec.ofInt 64 y).toNat : Nat) := fun z => rfl
  rw [h2, h1, hback, BitVec.xor_assoc, BitVec.xor_self, BitVec.xor_zero, BitVec.toNat_ofInt, IntKind.wrap_i64]
  unfold Fits at hx
  omega
theorem grB_facts {P Q G : Int} (h : grB P Q G = true) : Pr P.toNat ∧ Pr Q.toNat ∧ pw P G Q.toNat = 1 ∧ 3 ≤ P ∧ 2 ≤ Q ∧ 2 ≤ G ∧ G ≤ P - 1 ∧ P ≤ 2003 ∧ Q ≤ 2002 := by
  obtain ⟨⟨a1, a2⟩, ⟨b1, b2⟩, ⟨c1, c2⟩⟩ := grB_lo h
  unfold grB at h
  simp only [Bool.and_eq_true, decide_eq_true_iff] at h
  obtain ⟨h1, ⟨h2, h3⟩, h4, h5, h6⟩ := h
  unfold modB at h1
  rw [Bool.and_eq_true] at h1
  exact ⟨prmB_pr h1.2 (by omega), prmB_pr h3 (by omega), h6, a1, b1, c1, c2, a2, b2⟩
theorem gpw_comm (P Q G a b : Int) : gpw P Q (gpw P Q G b) a = gpw P Q (gpw P Q G a) b := by
  unfold gpw
  rw [pw_pw, pw_pw, Nat.mul_comm]
theorem other_eq {P Q G a b : Int} (h : grB P Q G = true) : otherOf P Q G a (answ P Q G (gpw P Q G a) b 1) = gpw P Q G b := by
  obtain ⟨hP, hQ, hG, p3, q2, g2, g3, p4, q4⟩ := grB_facts h
  unfold otherOf answ
  rw [if_pos rfl]
  have e1 : ((-1 : Int) % Q).toNat = Q.toNat - 1 := by
    have : (-1 : Int) % Q = Q - 1 := by
      have h1 : (-1 : Int) % Q = (-1 + Q) % Q := (Int.add_emod_right (-1) Q).symm
      rw [h1, Int.emod_eq_of_lt (by omega) (by omega)]; omega
    omega
  unfold gpw
  rw [e1, pw_pw, Int.mul_emod, Int.emod_emod_of_dvd _ (Int.dvd_refl P), ← Int.mul_emod, Int.mul_assoc, Int.mul_emod, pw_mul]
  rw [show (a % Q).toNat + (a % Q).toNat * (Q.toNat - 1) = Q.toNat * (a % Q).toNat by
    have h0 : Q.toNat = (Q.toNat - 1) + 1 := by omega
    generalize (a % Q).toNat = m
    conv => rhs; rw [h0]
    rw [Nat.mul_comm m, Nat.succ_mul]; omega]
  rw [← pw_pw, hG, pw_one P _ (by omega), Int.mul_one]
  unfold pw
  rw [Int.emod_emod_of_dvd _ (Int.dvd_refl P), Int.emod_emod_of_dvd _ (Int.dvd_refl P)]
/-- The pad that fits the choice is the receiver's. -/
theorem pads_0 {P Q G a b i : Int} : padZ P Q G a (answ P Q G (gpw P Q G a) b 0) i = padOf (gpw P Q (gpw P Q G a) b) i := by
  unfold padZ answ
  rw [if_neg (by decide), gpw_comm]
theorem pads_1 {P Q G a b i : Int} (h : grB P Q G = true) : padO P Q G a (answ P Q G (gpw P Q G a) b 1) i = padOf (gpw P Q (gpw P Q G a) b) i := by
  unfold padO
  rw [other_eq h, gpw_comm]
end Go.Proofs.Ytklgneaamhjfpaa
