/-
  Contracts of multiplyPairs: the program's and the reference's.
-/
import Derived.Test.YtfandnakenpfnaaD4
namespace Go.Proofs.Ytfandnakenpfnaa
open Go.RowKit
set_option linter.unusedVariables false
set_option linter.unusedSimpArgs false

theorem tripA_open (p key i : Int) (hp : 2 ≤ p) : ∃ s0 s1 s2, tripA p key i = [s0, s1, s2] ∧ (0 ≤ s0 ∧ s0 ≤ p - 1) ∧ (0 ≤ s1 ∧ s1 ≤ p - 1) ∧ (0 ≤ s2 ∧ s2 ≤ p - 1) :=
  ⟨_, _, _, rfl, t5_bd _ _ _ _ (by omega), t5_bd _ _ _ _ (by omega), t5_bd _ _ _ _ (by omega)⟩
theorem tripB_open (p key i : Int) (hp : 2 ≤ p) : ∃ s0 s1 s2, tripB p key i = [s0, s1, s2] ∧ (0 ≤ s0 ∧ s0 ≤ p - 1) ∧ (0 ≤ s1 ∧ s1 ≤ p - 1) ∧ (0 ≤ s2 ∧ s2 ≤ p - 1) := by
  refine ⟨_, _, _, rfl, ?_, ?_, ?_⟩
  · have := emod_bd (n := t5 p key i 0 - t5 p key i 2) (p := p) (by omega); omega
  · have := emod_bd (n := t5 p key i 1 - t5 p key i 3) (p := p) (by omega); omega
  · have := emod_bd (n := t5 p key i 0 * t5 p key i 1 - t5 p key i 4) (p := p) (by omega); omega
def mulD (p : Int) (x s t : List Int) (j : Nat) : Int := (nth x 0 + nth x 1 - (nth s j + nth t j)) % p
def mulP (p key i : Int) (x y : List Int) : List Int :=
  [prodSh 0 (tripA p key i) (mulD p x (tripA p key i) (tripB p key i) 0) (mulD p y (tripA p key i) (tripB p key i) 1) % p,
   prodSh 1 (tripB p key i) (mulD p x (tripA p key i) (tripB p key i) 0) (mulD p y (tripA p key i) (tripB p key i) 1) % p]

set_option maxHeartbeats 4000000 in
theorem i_multiplyPairs (p key i : Int) (a : Option Addr) (n cap : Nat) (a' : Option Addr) (n' cap' : Nat) (x0 x1 y0 y1 : Int) (w : World) (hp : 2 ≤ p ∧ p ≤ 251) (hk : 0 ≤ key ∧ key ≤ 1000000000) (hi : 0 ≤ i ∧ i ≤ 1000)
    (h : Ints w a n cap [x0, x1]) (h' : Ints w a' n' cap' [y0, y1]) (hx : (0 ≤ x0 ∧ x0 ≤ 250) ∧ (0 ≤ x1 ∧ x1 ≤ 250)) (hy : (0 ≤ y0 ∧ y0 ≤ 250) ∧ (0 ≤ y1 ∧ y1 ≤ 250)) :
    Calls Try.prog 69 #[.int .i64 p, .int .i64 key, .int .i64 i, .slice a n cap, .slice a' n' cap'] w fun e w' => ∃ r, e = .returned (.slice r 2 2) ∧ Mine w' w.heap.size r 2 2 (mulP p key i [x0, x1] [y0, y1]) ∧ Below w.heap.size w w' := by
  obtain ⟨hp1, hp2⟩ := hp
  obtain ⟨⟨x1a, x1b⟩, ⟨x2a, x2b⟩⟩ := hx; obtain ⟨⟨y1a, y1b⟩, ⟨y2a, y2b⟩⟩ := hy
  obtain ⟨s0, s1, s2, hA, ⟨sa, sb⟩, ⟨sc, sd⟩, ⟨se, sf⟩⟩ := tripA_open p key i hp1
  obtain ⟨t0, t1, t2, hB, ⟨ta, tb⟩, ⟨tc, td⟩, ⟨te, tf⟩⟩ := tripB_open p key i hp1
  have HT := Lib.hid (fun (W : World) => i_tripleFor p key i W ⟨hp1, hp2⟩ hk hi)
  have HM : Hid (mulP p key i [x0, x1] [y0, y1] = [prodSh 0 [s0, s1, s2] ((x0 + x1 - (s0 + t0)) % p) ((y0 + y1 - (s1 + t1)) % p) % p, prodSh 1 [t0, t1, t2] ((x0 + x1 - (s0 + t0)) % p) ((y0 + y1 - (s1 + t1)) % p) % p]) := by
    show _ = _
    unfold mulP; rw [hA, hB]; rfl
  rw [HM.out]; clear HM
  rw [hA, hB] at HT
  clear hA hB
  obtain ⟨d1, d2⟩ := emod_bd (n := x0 + x1 - (s0 + t0)) (p := p) (by omega)
  obtain ⟨e1, e2⟩ := emod_bd (n := y0 + y1 - (s1 + t1)) (p := p) (by omega)
  have w1 : IntKind.i64.wrap (x0 + x1) = x0 + x1 := IntWalk.i64_in _ (by omega)
  have w2 : IntKind.i64.wrap (x0 + x1 - (s0 + t0)) = x0 + x1 - (s0 + t0) := IntWalk.i64_in _ (by omega)
  have w3 : IntKind.i64.wrap (y0 + y1) = y0 + y1 := IntWalk.i64_in _ (by omega)
  have w4 : IntKind.i64.wrap (y0 + y1 - (s1 + t1)) = y0 + y1 - (s1 + t1) := IntWalk.i64_in _ (by omega)
  have z1 := emod_bd (n := prodSh 0 [s0, s1, s2] ((x0 + x1 - (s0 + t0)) % p) ((y0 + y1 - (s1 + t1)) % p)) (p := p) (by omega)
  have z2 := emod_bd (n := prodSh 1 [t0, t1, t2] ((x0 + x1 - (s0 + t0)) % p) ((y0 + y1 - (s1 + t1)) % p)) (p := p) (by omega)
  have Z := Lib.hid (And.intro z1 z2); clear z1 z2
  go_enter Try.func69, Try.ntmps69
  go_wp2_with fail
  refine (HT.out _).mono ?_; rintro e wa ⟨r1, c1, r2, c2, m, rfl, g1, g2, pl, hm, hba⟩
  have i1 : Ints wa r1 3 c1 [s0, s1, s2] := g1.ints
  have i2 : Ints wa r2 3 c2 [t0, t1, t2] := g2.ints
  have HB := Lib.hid hba
  replace h := h.below hba; replace h' := h'.below hba
  clear g1 g2 pl hm hba
  go_wp2_with fail
  refine (i_sums _ _ _ _ _ _ s0 s1 s2 t0 t1 t2 _ i1 i2 ⟨⟨by omega, by omega⟩, ⟨by omega, by omega⟩, ⟨by omega, by omega⟩⟩ ⟨⟨by omega, by omega⟩, ⟨by omega, by omega⟩, ⟨by omega, by omega⟩⟩).mono ?_; rintro e wb ⟨rfl, hbb⟩
  replace h := h.below hbb; replace h' := h'.below hbb; replace i1 := i1.below hbb; replace i2 := i2.below hbb
  have HB2 := Lib.hid (bel_trans HB.out hbb); clear HB hbb
  obtain ⟨rfl, b, off, rfl, k0, k1⟩ := h.two
  obtain ⟨rfl, b', off', rfl, l0, l1⟩ := h'.two
  clear h h'
  go_wp2_with fail
  go_quiet ((go_at_call 54; exact Calls.quiet_of_same ((i_mod _ _ _ (by omega) (by omega) (by omega) (by omega)).mono fun _ _ h => ⟨h.1, h.2.symm⟩)))
  go_wp2_with fail
  refine (i_share _ _ _ _ _ s0 s1 s2 _ _ _ (i1.below (bel_drewN wb nq)) ⟨hp1, hp2⟩ ⟨⟨by omega, by omega⟩, ⟨by omega, by omega⟩, ⟨by omega, by omega⟩⟩ ⟨by omega, by omega⟩ ⟨by omega, by omega⟩).mono ?_; rintro e wc ⟨rfl, hbc⟩
  go_wp2_with fail
  refine (i_share _ _ _ _ _ t0 t1 t2 _ _ _ ((i2.below (bel_drewN wb nq)).below hbc) ⟨hp1, hp2⟩ ⟨⟨by omega, by omega⟩, ⟨by omega, by omega⟩, ⟨by omega, by omega⟩⟩ ⟨by omega, by omega⟩ ⟨by omega, by omega⟩).mono ?_; rintro e wd ⟨rfl, hbd⟩
  have HB3 := Lib.hid (bel_trans (bel_trans (bel_trans HB2.out (bel_drewN wb nq)) hbc) hbd)
  obtain ⟨⟨z1, z2⟩, ⟨z3, z4⟩⟩ := Z.out
  go_wp2
  go_ret
  exact ⟨_, rfl, (lit2_mine 3 (by unfold Fits; omega) (by unfold Fits; omega)).base HB3.out.size, bel_trans HB3.out (bel_alloc _ _)⟩
end Go.Proofs.Ytfandnakenpfnaa
