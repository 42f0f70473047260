/-
  Contracts: powers, inverses and values of polynomials.
-/
import Derived.Test.YtfichpppjpgahaaLe
import Derived.Test.YtfichpppjpgahaaA
namespace Go.Proofs.Ytfichpppjpgahaa
open Go.RowKit
set_option linter.unusedVariables false
set_option linter.unusedSimpArgs false

set_option maxHeartbeats 1000000 in
theorem s_fpPow (p a n : Int) (w : World) (hp : 2 ≤ p ∧ p ≤ 3000) (ha : 0 ≤ a ∧ a ≤ 3000) (hn : 0 ≤ n ∧ n ≤ 1000000000000) :
    Calls Try.prog 113 #[.int .i64 p, .int .i64 a, .int .i64 n] w fun e w' => e = .returned (.int .i64 (pw p a n.toNat)) ∧ w = w' := by
  obtain ⟨hp1, hp2⟩ := hp; obtain ⟨ha1, ha2⟩ := ha
  obtain ⟨n0, rfl⟩ : ∃ n0 : Nat, n = n0 := ⟨n.toNat, by omega⟩
  obtain ⟨_, hn2⟩ := hn
  rw [show ((n0 : Int)).toNat = n0 by omega]
  have h1 : (1 : Int) % p = 1 := Int.emod_eq_of_lt (by omega) (by omega)
  have H0 : Hid (1 * a ^ n0 % p = pw p a n0) := by show _ = _; unfold pw; rw [Int.one_mul]
  go_enter Try.func113, Try.ntmps113
  go_wp2
  go_loop [1, 2, 7] (fun b m o => ∃ (N : Nat) (A O : Int), m = .int .i64 N ∧ b = .int .i64 A ∧ o = .int .i64 O ∧ 0 ≤ A ∧ A ≤ 3000 ∧ 0 ≤ O ∧ O ≤ p - 1 ∧ N ≤ 1000000000000 ∧ Hid (O * A ^ N % p = pw p a n0)) (fun _ m _ => (intOf m).toNat)
  case atStart => exact ⟨n0, a, 1, rfl, rfl, by first | rfl | (simp [h1]), ha1, ha2, by omega, by omega, by omega, H0⟩
  case round =>
    obtain ⟨N, A, O, rfl, rfl, rfl, hA1, hA2, hO1, hO2, hN, HP⟩ := hrel
    clear H0
    by_cases h0 : N = 0
    · subst h0
      have HR : Hid (O = pw p a n0) := by
        have := HP.out
        rw [Int.pow_zero, Int.mul_one, Int.emod_eq_of_lt hO1 (by omega)] at this
        exact this
      go_wp2
      go_ret
      exact ⟨ret_int HR.out, rfl⟩
    · obtain ⟨q1, q2⟩ := mul_bd (a := O) (b := A) 3000 3000 (by omega) (by omega) (by omega) (by omega)
      obtain ⟨q3, q4⟩ := mul_bd (a := A) (b := A) 3000 3000 (by omega) (by omega) (by omega) (by omega)
      have e1 := emod_bd (n := O * A) (p := p) (by omega)
      have e2 := emod_bd (n := A * A) (p := p) (by omega)
      have HN : Hid (((N / 2 : Nat) : Int) = (N : Int) / 2) := by show _ = _; omega
      by_cases ho : N % 2 = 1
      · have ho' : (N : Int) % 2 = 1 := by omega
        have HS := Lib.hid ((pw_odd O A p N ho).trans HP.out)
        clear ho
        go_wp2
        go_round
        case rel => exact ⟨N / 2, A * A % p, O * A % p, by first | rfl | (rw [HN.out]), rfl, rfl, by omega, by omega, by omega, by omega, by omega, HS⟩
        case measure => first | (simp [intOf]; done) | (simp [intOf]; omega)
      · have ho' : (N : Int) % 2 = 0 := by omega
        have HS := Lib.hid ((pw_half O A p N (by omega)).trans HP.out)
        clear ho
        go_wp2
        go_round
        case rel => exact ⟨N / 2, A * A % p, O, by first | rfl | (rw [HN.out]), rfl, rfl, by omega, by omega, by omega, by omega, by omega, HS⟩
        case measure => first | (simp [intOf]; done) | (simp [intOf]; omega)
set_option maxHeartbeats 400000 in
theorem i_inverse (p a : Int) (w : World) (hp : 2 ≤ p ∧ p ≤ 251) (ha : 0 ≤ a ∧ a ≤ 1000) :
    Calls Try.prog 110 #[.int .i64 p, .int .i64 a] w fun e w' => e = .returned (.int .i64 (invP p a)) ∧ w = w' := by
  have e1 : IntKind.i64.wrap (p - 2) = p - 2 := IntWalk.i64_in _ (by omega)
  have HP := Lib.hid (i_power p a (p - 2) w (by omega) (by omega) (by omega))
  go_enter Try.func110, Try.ntmps110
  go_wp2_with fail
  refine HP.out.mono ?_; rintro e w1 ⟨rfl, rfl⟩
  go_wp2
  go_ret
  exact ⟨rfl, rfl⟩
set_option maxHeartbeats 400000 in
theorem s_fpInv (p a : Int) (w : World) (hp : 2 ≤ p ∧ p ≤ 251) (ha : 0 ≤ a ∧ a ≤ 1000) :
    Calls Try.prog 50 #[.int .i64 p, .int .i64 a] w fun e w' => e = .returned (.int .i64 (invP p a)) ∧ w = w' := by
  have e1 : IntKind.i64.wrap (p - 2) = p - 2 := IntWalk.i64_in _ (by omega)
  have HP := Lib.hid (s_fpPow p a (p - 2) w (by omega) (by omega) (by omega))
  go_enter Try.func50, Try.ntmps50
  go_wp2_with fail
  refine HP.out.mono ?_; rintro e w1 ⟨rfl, rfl⟩
  go_wp2
  go_ret
  exact ⟨rfl, rfl⟩
theorem hor_drop {p x : Int} {l : List Int} {i : Nat} (h : i < l.length) : hor p x (l.drop i) = (hor p x (l.drop (i + 1)) * x + nth l i) % p := by
  rw [List.drop_eq_getElem_cons h, hor, nth_get h]
theorem hor_top (p x : Int) (l : List Int) : hor p x (l.drop l.length) = 0 := by rw [List.drop_length]; rfl
set_option maxHeartbeats 1000000 in
theorem i_evalPoly (p x : Int) (a : Option Addr) (n cap : Nat) (l : List Int) (w : World) (h : Ints w a n cap l) (hp : 2 ≤ p ∧ p ≤ 251) (hx : 0 ≤ x ∧ x ≤ 250) (hl : Hid (∀ i, i < n → 0 ≤ nth l i ∧ nth l i ≤ 250)) (hn : n ≤ 100000) :
    Calls Try.prog 55 #[.int .i64 p, .slice a n cap, .int .i64 x] w fun e w' => e = .returned (.int .i64 (hor p x l)) ∧ Below w.heap.size w w' := by
  have hlen := h.len.out
  have H0 : Hid (hor p x (l.drop n) = 0) := by show _ = _; rw [← hlen]; exact hor_top p x l
  have HL := Lib.hid hlen
  have hpp := Lib.hid hp
  obtain ⟨hp1, hp2⟩ := hp; obtain ⟨hx1, hx2⟩ := hx
  have e0 : IntKind.i64.wrap ((n : Int) - 1) = (n : Int) - 1 := IntWalk.i64_in _ (by omega)
  have HH := Lib.hid h
  clear hlen h
  go_enter Try.func55, Try.ntmps55
  go_wp2
  go_loopw [7, 8] (fun o i wr => ∃ (m O : Int), -1 ≤ m ∧ m ≤ n - 1 ∧ i = .int .i64 m ∧ o = .int .i64 O ∧ 0 ≤ O ∧ O ≤ 250 ∧ Hid (O = hor p x (l.drop (m + 1).toNat)) ∧ Hid (Below w.heap.size w wr)) (fun _ i _ => (intOf i + 1).toNat)
  case atStart => exact ⟨n - 1, 0, by omega, by omega, rfl, rfl, by omega, by omega, by rw [show ((n : Int) - 1 + 1).toNat = n by omega]; exact H0.out.symm, Below.refl _ _⟩
  case round =>
    obtain ⟨m, O, hm1, hm2, rfl, rfl, hO1, hO2, HO, HB⟩ := hrel
    clear H0 e0
    by_cases h0 : m = -1
    · subst h0
      go_wp2
      go_ret
      exact ⟨by rw [HO.out]; rfl, HB.out⟩
    · obtain ⟨j, rfl⟩ : ∃ j : Nat, m = j := ⟨m.toNat, by omega⟩
      obtain ⟨b, off, rfl, hbl, hc⟩ := (HH.out.below HB.out).at (i := j) (by omega)
      obtain ⟨c1, c2⟩ := hl.out j (by omega)
      have HS : Hid ((O * x + nth l j) % p = hor p x (l.drop j)) := by
        show _ = _
        rw [hor_drop (by rw [HL.out]; omega), HO.out]; rfl
      obtain ⟨q1, q2⟩ := mul_bd (a := O) (b := x) 250 250 (by omega) (by omega) (by omega) (by omega)
      have e1 := emod_bd (n := O * x + nth l j) (p := p) (by omega)
      go_wp2
      go_roundw
      case rel => exact ⟨(j : Int) - 1, (O * x + nth l j) % p, by omega, by omega, by first | rfl | go_num, rfl, by omega, by omega, by rw [show ((j : Int) - 1 + 1).toNat = j by omega]; exact HS.out, HB.out⟩
      case measure => first | (simp [intOf]; done) | (simp [intOf]; omega)
set_option maxHeartbeats 1000000 in
theorem s_fpEval (p x : Int) (a : Option Addr) (n cap : Nat) (l : List Int) (w : World) (h : Ints w a n cap l) (hp : 2 ≤ p ∧ p ≤ 251) (hx : 0 ≤ x ∧ x ≤ 250) (hl : Hid (∀ i, i < n → 0 ≤ nth l i ∧ nth l i ≤ 250)) (hn : n ≤ 100000) :
    Calls Try.prog 71 #[.int .i64 p, .slice a n cap, .int .i64 x] w fun e w' => e = .returned (.int .i64 (hor p x l)) ∧ Below w.heap.size w w' := by
  have hlen := h.len.out
  have H0 : Hid (hor p x (l.drop n) = 0) := by show _ = _; rw [← hlen]; exact hor_top p x l
  have HL := Lib.hid hlen
  have hpp := Lib.hid hp
  obtain ⟨hp1, hp2⟩ := hp; obtain ⟨hx1, hx2⟩ := hx
  have e0 : IntKind.i64.wrap ((n : Int) - 1) = (n : Int) - 1 := IntWalk.i64_in _ (by omega)
  have HH := Lib.hid h
  clear hlen h
  go_enter Try.func71, Try.ntmps71
  go_wp2
  go_loopw [7, 8] (fun o i wr => ∃ (m O : Int), -1 ≤ m ∧ m ≤ n - 1 ∧ i = .int .i64 m ∧ o = .int .i64 O ∧ 0 ≤ O ∧ O ≤ 250 ∧ Hid (O = hor p x (l.drop (m + 1).toNat)) ∧ Hid (Below w.heap.size w wr)) (fun _ i _ => (intOf i + 1).toNat)
  case atStart => exact ⟨n - 1, 0, by omega, by omega, rfl, rfl, by omega, by omega, by rw [show ((n : Int) - 1 + 1).toNat = n by omega]; exact H0.out.symm, Below.refl _ _⟩
  case round =>
    obtain ⟨m, O, hm1, hm2, rfl, rfl, hO1, hO2, HO, HB⟩ := hrel
    clear H0 e0
    by_cases h0 : m = -1
    · subst h0
      go_wp2
      go_ret
      exact ⟨by rw [HO.out]; rfl, HB.out⟩
    · obtain ⟨j, rfl⟩ : ∃ j : Nat, m = j := ⟨m.toNat, by omega⟩
      obtain ⟨b, off, rfl, hbl, hc⟩ := (HH.out.below HB.out).at (i := j) (by omega)
      obtain ⟨c1, c2⟩ := hl.out j (by omega)
      have HS : Hid ((O * x + nth l j) % p = hor p x (l.drop j)) := by
        show _ = _
        rw [hor_drop (by rw [HL.out]; omega), HO.out]; rfl
      obtain ⟨q1, q2⟩ := mul_bd (a := O) (b := x) 250 250 (by omega) (by omega) (by omega) (by omega)
      have e1 := emod_bd (n := O * x + nth l j) (p := p) (by omega)
      go_wp2
      go_roundw
      case rel => exact ⟨(j : Int) - 1, (O * x + nth l j) % p, by omega, by omega, by first | rfl | go_num, rfl, by omega, by omega, by rw [show ((j : Int) - 1 + 1).toNat = j by omega]; exact HS.out, HB.out⟩
      case measure => first | (simp [intOf]; done) | (simp [intOf]; omega)
end Go.Proofs.Ytfichpppjpgahaa
