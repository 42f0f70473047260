/-
  Contracts of trTimes.
-/
import Derived.Test.YtfandnakenpfnaaD5
namespace Go.Proofs.Ytfandnakenpfnaa
open Go.RowKit
set_option linter.unusedVariables false
set_option linter.unusedSimpArgs false

/-- Four cells hold what they hold. -/
def Four (b o : Nat) (b' o' : Nat) (x0 x1 x2 x3 : Value) (W : World) : Prop :=
  W.cell? ⟨b, o, none⟩ = some x0 ∧ W.cell? ⟨b, o + 1, none⟩ = some x1 ∧ W.cell? ⟨b', o', none⟩ = some x2 ∧ W.cell? ⟨b', o' + 1, none⟩ = some x3
theorem Four.on {b o b' o' : Nat} {x0 x1 x2 x3 : Value} {w w' : World} (h : Four b o b' o' x0 x1 x2 x3 w) (hb : Below w.heap.size w w') : Four b o b' o' x0 x1 x2 x3 w' :=
  ⟨cell_on h.1 hb, cell_on h.2.1 hb, cell_on h.2.2.1 hb, cell_on h.2.2.2 hb⟩
theorem mulD_eq (p x0 x1 s0 t0 : Int) : (x0 + x1 - (s0 + t0)) % p = ((x0 - s0) % p + (x1 - t0) % p) % p := by
  rw [← Int.add_emod]; congr 1; omega

set_option maxHeartbeats 4000000 in
theorem s_trTimes (p key i : Int) (a : Option Addr) (n cap : Nat) (a' : Option Addr) (n' cap' : Nat) (x0 x1 y0 y1 : Int) (w : World) (hp : 2 ≤ p ∧ p ≤ 251) (hk : 0 ≤ key ∧ key ≤ 1000000000) (hi : 0 ≤ i ∧ i ≤ 1000)
    (h : Ints w a n cap [x0, x1]) (h' : Ints w a' n' cap' [y0, y1]) (hx : (0 ≤ x0 ∧ x0 ≤ 250) ∧ (0 ≤ x1 ∧ x1 ≤ 250)) (hy : (0 ≤ y0 ∧ y0 ≤ 250) ∧ (0 ≤ y1 ∧ y1 ≤ 250)) :
    Calls Try.prog 71 #[.int .i64 p, .int .i64 key, .int .i64 i, .slice a n cap, .slice a' n' cap'] w fun e w' => ∃ r, e = .returned (.slice r 2 2) ∧ Mine w' w.heap.size r 2 2 (mulP p key i [x0, x1] [y0, y1]) ∧ Below w.heap.size w w' := by
  obtain ⟨hp1, hp2⟩ := hp
  obtain ⟨⟨x1a, x1b⟩, ⟨x2a, x2b⟩⟩ := hx; obtain ⟨⟨y1a, y1b⟩, ⟨y2a, y2b⟩⟩ := hy
  obtain ⟨s0, s1, s2, hA, ⟨sa, sb⟩, ⟨sc, sd⟩, ⟨se, sf⟩⟩ := tripA_open p key i hp1
  obtain ⟨t0, t1, t2, hB, ⟨ta, tb⟩, ⟨tc, td⟩, ⟨te, tf⟩⟩ := tripB_open p key i hp1
  have HT := Lib.hid (fun (W : World) => s_trFor p key i W ⟨hp1, hp2⟩ hk hi)
  have HM : Hid (mulP p key i [x0, x1] [y0, y1] = [prodSh 0 [s0, s1, s2] (((x0 - s0) % p + (x1 - t0) % p) % p) (((y0 - s1) % p + (y1 - t1) % p) % p) % p, prodSh 1 [t0, t1, t2] (((x0 - s0) % p + (x1 - t0) % p) % p) (((y0 - s1) % p + (y1 - t1) % p) % p) % p]) := by
    show _ = _
    rw [← mulD_eq, ← mulD_eq]
    unfold mulP; rw [hA, hB]; rfl
  rw [HM.out]; clear HM
  rw [hA, hB] at HT
  clear hA hB
  obtain ⟨a1, a2⟩ := emod_bd (n := x0 - s0) (p := p) (by omega)
  obtain ⟨a3, a4⟩ := emod_bd (n := x1 - t0) (p := p) (by omega)
  obtain ⟨a5, a6⟩ := emod_bd (n := y0 - s1) (p := p) (by omega)
  obtain ⟨a7, a8⟩ := emod_bd (n := y1 - t1) (p := p) (by omega)
  have hxx : Hid (∀ i, i < 2 → -1000000 ≤ nth [(x0 - s0) % p, (y0 - s1) % p] i ∧ 0 ≤ nth [(x0 - s0) % p, (y0 - s1) % p] i + nth [(x1 - t0) % p, (y1 - t1) % p] i ∧ nth [(x0 - s0) % p, (y0 - s1) % p] i ≤ 1000000 ∧ nth [(x1 - t0) % p, (y1 - t1) % p] i ≤ 1000000) := by
    intro i hi
    rcases (show i = 0 ∨ i = 1 by omega) with rfl | rfl <;> simp [nth] <;> omega
  obtain ⟨o0, ho0⟩ : ∃ o, o = ((x0 - s0) % p + (x1 - t0) % p) % p := ⟨_, rfl⟩
  obtain ⟨o1, ho1⟩ : ∃ o, o = ((y0 - s1) % p + (y1 - t1) % p) % p := ⟨_, rfl⟩
  obtain ⟨d1, d2⟩ : 0 ≤ o0 ∧ o0 < p := by rw [ho0]; exact emod_bd (n := (x0 - s0) % p + (x1 - t0) % p) (p := p) (by omega)
  obtain ⟨e1, e2⟩ : 0 ≤ o1 ∧ o1 < p := by rw [ho1]; exact emod_bd (n := (y0 - s1) % p + (y1 - t1) % p) (p := p) (by omega)
  have HO : Hid (sumMod p [(x0 - s0) % p, (y0 - s1) % p] [(x1 - t0) % p, (y1 - t1) % p] 2 = [o0, o1]) := by
    show _ = _
    rw [ho0, ho1]; rfl
  rw [← ho0, ← ho1]
  clear ho0 ho1
  have z1 := emod_bd (n := prodSh 0 [s0, s1, s2] o0 o1) (p := p) (by omega)
  have z2 := emod_bd (n := prodSh 1 [t0, t1, t2] o0 o1) (p := p) (by omega)
  have Z := Lib.hid (And.intro z1 z2); clear z1 z2
  go_enter Try.func71, Try.ntmps71
  go_wp2_with fail
  refine (HT.out _).mono ?_; rintro e wa ⟨r1, c1, r2, c2, m, rfl, g1, g2, pl, hm, hba⟩
  have i1 : Ints wa r1 3 c1 [s0, s1, s2] := g1.ints
  have i2 : Ints wa r2 3 c2 [t0, t1, t2] := g2.ints
  have HB := Lib.hid hba
  obtain ⟨rfl, b, off, rfl, k0, k1⟩ := (h.below hba).two
  obtain ⟨rfl, b', off', rfl, l0, l1⟩ := (h'.below hba).two
  clear g1 g2 pl hm hba h h'
  have j1 := i1
  go_wp2_with fail
  go_region_held3 (fun W => W.cell? ⟨b, off, none⟩ = some (.int .i64 x0) ∧ W.cell? ⟨b, off + 1, none⟩ = some (.int .i64 x1) ∧ W.cell? ⟨b', off', none⟩ = some (.int .i64 y0) ∧ W.cell? ⟨b', off' + 1, none⟩ = some (.int .i64 y1)) (first | exact ⟨k0, k1, l0, l1⟩ | exact ⟨cell_on k0 B1, cell_on k1 B1, cell_on l0 B1, cell_on l1 B1⟩ | exact ⟨cell_on k0 B2, cell_on k1 B2, cell_on l0 B2, cell_on l1 B2⟩ | exact ⟨cell_on k0 B3, cell_on k1 B3, cell_on l0 B3, cell_on l1 B3⟩) (first | (go_at_call 62; refine (s_trMask _ _ _ _ s0 s1 s2 x0 y0 _ (j1.below (bel_drew _)) ⟨hp1, hp2⟩ ⟨⟨by omega, by omega⟩, ⟨by omega, by omega⟩⟩ ⟨by omega, by omega⟩ ⟨by omega, by omega⟩).mono ?_; clear j1; rintro e wb ⟨m1, rfl, hm1, hb1⟩; have B1 := bel_trans (bel_drew wa) hb1) | (go_at_call 62; refine (s_trMask _ _ _ _ t0 t1 t2 x1 y1 _ (i2.below B1) ⟨hp1, hp2⟩ ⟨⟨by omega, by omega⟩, ⟨by omega, by omega⟩⟩ ⟨by omega, by omega⟩ ⟨by omega, by omega⟩).mono ?_; rintro e wc ⟨m2, rfl, hm2, hb2⟩; have B2 := bel_trans B1 hb2) | (go_at_call 52; refine (s_trSum _ _ _ _ _ _ _ [(x0 - s0) % p, (y0 - s1) % p] [(x1 - t0) % p, (y1 - t1) % p] _ (hm1.below hb2).ints hm2.ints ⟨hp1, hp2⟩ (by omega) (by omega) hxx).mono ?_; rintro e wd ⟨ra, rc, rfl, hm3, hb3⟩; have B3 := bel_trans B2 hb3))
  rw [HO.out] at hm3
  have q1 := i1.below B3; have q2 := i2.below B3
  obtain ⟨_, bo, oo, rfl, f0, f1⟩ := hm3.ints.two
  have HB3 := Lib.hid (bel_trans HB.out B3)
  clear hm3 hm2 hm1 hb1 hb2 hb3 B1 B2 B3 i1 i2 k0 k1 l0 l1 HT HO hxx
  have r1' := q1
  go_wp2_with fail
  go_region_held3 (fun W => W.cell? ⟨bo, oo, none⟩ = some (.int .i64 o0) ∧ W.cell? ⟨bo, oo + 1, none⟩ = some (.int .i64 o1)) (first | exact ⟨f0, f1⟩ | exact ⟨cell_on f0 BA2, cell_on f1 BA2⟩ | exact ⟨cell_on f0 BA1, cell_on f1 BA1⟩ | exact ⟨cell_on (cell_on f0 BA2) (bel_alloc _ _), cell_on (cell_on f1 BA2) (bel_alloc _ _)⟩) (first | (go_at_call 66; refine (s_share _ _ _ _ _ s0 s1 s2 o0 o1 _ (r1'.below (bel_drew _)) ⟨hp1, hp2⟩ ⟨⟨by omega, by omega⟩, ⟨by omega, by omega⟩, ⟨by omega, by omega⟩⟩ ⟨by omega, by omega⟩ ⟨by omega, by omega⟩).mono ?_; clear r1'; rintro e we ⟨rfl, hb1⟩; have BA1 := bel_trans (bel_drew wd) hb1) | (go_at_call 66; refine (s_share _ _ _ _ _ t0 t1 t2 o0 o1 _ (q2.below BA1) ⟨hp1, hp2⟩ ⟨⟨by omega, by omega⟩, ⟨by omega, by omega⟩, ⟨by omega, by omega⟩⟩ ⟨by omega, by omega⟩ ⟨by omega, by omega⟩).mono ?_; rintro e wf ⟨rfl, hb2⟩; have BA2 := bel_trans BA1 hb2))
  obtain ⟨⟨z1, z2⟩, ⟨z3, z4⟩⟩ := Z.out
  have HB4 := Lib.hid (bel_trans HB3.out BA2)
  go_wp2
  go_ret
  exact ⟨_, rfl, (lit2_mine 3 (by unfold Fits; omega) (by unfold Fits; omega)).base HB4.out.size, bel_trans HB4.out (bel_alloc _ _)⟩
end Go.Proofs.Ytfandnakenpfnaa
