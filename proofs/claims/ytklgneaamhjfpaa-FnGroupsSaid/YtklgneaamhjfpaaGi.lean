/-
  Contracts: the group of a modulus, both sides.
-/
import Derived.Test.YtklgneaamhjfpaaGh
import Derived.Test.YtklgneaamhjfpaaGu
namespace Go.Proofs.Ytklgneaamhjfpaa
open Go.RowKit
set_option linter.unusedVariables false
set_option linter.unusedSimpArgs false

set_option maxHeartbeats 4000000 in
theorem i_GroupFor (p : Int) (w : World) (hp : Fits p) :
    Calls Try.prog 37 #[.int .i64 p] w fun e w' => ∃ P Q G : Int, e = .returned (.tuple #[.agg #[.int .i64 P, .int .i64 Q, .int .i64 G], .bool (modB p)]) ∧ (modB p = true → P = p ∧ IsGF p Q G) ∧ (modB p = false → P = 0 ∧ Q = 0 ∧ G = 0) ∧ Below w.heap.size w w' := by
  cases h : modB p with
  | false =>
    go_enter Try.func37, Try.ntmps37
    go_wp2_with fail
    refine (i_isModulus _ _).mono ?_; rintro e ww ⟨rfl, rfl⟩; rw [h]
    go_wp2
    exact bodyPost_ret (v := .tuple #[.agg #[.int .i64 0, .int .i64 0, .int .i64 0], .bool false]) (by simp [results, Try.results37, go_sem]) rfl ⟨0, 0, 0, rfl, fun h => (by cases h), fun _ => ⟨rfl, rfl, rfl⟩, by (repeat (first | exact Below.refl _ _ | assumption | refine bel_trans ?_ (bel_alloc _ _) | refine bel_set ?_ (by first | (dsimp only; omega) | (simp; omega) | simp) _ | refine bel_trans ?_ (bel_drewN _ _) | refine bel_trans ?_ (bel_drew _) | refine bel_trans ?_ (by assumption)))⟩
  | true =>
    obtain ⟨hp1, hp2⟩ := modB_lo h
    obtain ⟨Q0, G0, hgf⟩ := gf_ex h
    obtain ⟨ql1, ql2⟩ := hgf.ql; obtain ⟨gl1, gl2⟩ := hgf.gl
    have HG := Lib.hid hgf; clear hgf
    obtain ⟨N, rfl⟩ : ∃ N : Nat, p = N := ⟨p.toNat, by omega⟩
    obtain ⟨q0, rfl⟩ : ∃ N : Nat, Q0 = N := ⟨Q0.toNat, by omega⟩
    obtain ⟨g0, rfl⟩ : ∃ N : Nat, G0 = N := ⟨G0.toNat, by omega⟩
    go_enter Try.func37, Try.ntmps37
    go_wp2_with fail
    refine (i_isModulus _ _).mono ?_; rintro e ww ⟨rfl, rfl⟩; rw [h]
    clear h
    go_wp2
    go_loopw [] (fun W => ∃ q : Int, (q0 : Int) ≤ q ∧ q ≤ (N : Int) - 1 ∧ Hid (Gw W (w.heap.size + 1) N q 2) ∧ Hid (Gw W w.heap.size 0 0 0) ∧ Hid (Below w.heap.size w W)) (fun W => match W.cell? ⟨w.heap.size + 1, 1, none⟩ with | some v => (intOf v).toNat | none => 0)
    case atStart => exact ⟨(N : Int) - 1, by omega, by omega, Gw.two.2, Gw.two.1, by show Below _ _ _; (repeat (first | exact Below.refl _ _ | assumption | refine bel_trans ?_ (bel_alloc _ _) | refine bel_set ?_ (by first | (dsimp only; omega) | (simp; omega) | simp) _ | refine bel_trans ?_ (bel_drewN _ _) | refine bel_trans ?_ (bel_drew _) | refine bel_trans ?_ (by assumption)))⟩
    case round =>
      obtain ⟨q, hq1, hq2, HX, HR, HB⟩ := hrel
      have ht : ((N : Int) - 1).tmod q = ((N : Int) - 1) % q := Int.tmod_eq_emod_of_nonneg (by omega)
      have hq00 : ¬ q = 0 := by omega
      have hin : inB q 2 (N : Int) = true := inB_iff.2 ⟨by omega, by omega⟩
      have hcc := HX.out; obtain ⟨c0, c1, c2, f0, f1, f2⟩ := hcc
      by_cases hqe : q = (q0 : Int)
      · subst hqe
        have hb1 := (qB_iff.1 HG.out.qb).2; have hb2 := (qB_iff.1 HG.out.qb).1
        have hpb : (inB (q0 : Int) 2 (N : Int) && prmB q0) = true := by rw [hin, hb1]; rfl
        clear hb1
        go_wp2_with fail
        refine (i_isPrimeUpTo _ _ _ (by omega)).mono ?_; rintro e ww ⟨rfl, rfl⟩; rw [hpb]
        go_wp2
        clear c0 c1 c2 f0 f1 f2 hpb ht hb2
        go_loopw [] (fun W => ∃ j : Int, 2 ≤ j ∧ j ≤ (g0 : Int) ∧ Hid (Gw W (w.heap.size + 1) N q0 j) ∧ Hid (Gw W w.heap.size 0 0 0) ∧ Hid (Below w.heap.size w W)) (fun W => match W.cell? ⟨w.heap.size + 1, 2, none⟩ with | some v => g0 - (intOf v).toNat | none => 0)
        case atStart => exact ⟨2, by omega, by omega, HX, HR, HB⟩
        case round =>
          clear HX HR HB
          obtain ⟨j, hj1, hj2, HX, HR, HB⟩ := hrel
          have hcc := HX.out; obtain ⟨c0, c1, c2, f0, f1, f2⟩ := hcc
          by_cases he : j = (g0 : Int)
          · subst he
            have hpw : pw (N : Int) (g0 : Int) q0 = 1 := gB_iff.1 HG.out.gb
            obtain ⟨r0, r1, r2, r3, r4, r5⟩ := HR.out
            have GG := HR.out.set N q0 g0; have G0 := GG.c0; have G1 := GG.c1; have G2 := GG.c2; clear GG
            go_wp2_with fail
            refine (i_power _ _ _ _ (by omega) (by omega) (by omega)).mono ?_; rintro e ww ⟨rfl, rfl⟩
            rw [show pw (N : Int) (g0 : Int) (q0 : Int).toNat = 1 from hpw]
            go_wp2
            exact bodyPost_ret (v := .tuple #[.agg #[.int .i64 N, .int .i64 q0, .int .i64 g0], .bool true]) (by simp [results, Try.results37, go_sem, G0, G1, G2]) rfl ⟨N, q0, g0, rfl, fun _ => ⟨rfl, HG.out⟩, fun h => (by cases h), bel_set3 HB.out (Nat.le_refl _) _ _ _⟩
          · have hpw : ¬ pw (N : Int) j q0 = 1 := gB_no.1 (HG.out.gm j (by omega) (by omega))
            have hbq : (pw (N : Int) j q0 == 1) = false := by simpa using hpw
            have hbq2 : (pw (N : Int) j q0 != 1) = true := by simpa using hpw
            go_wp2_with fail
            refine (i_power _ _ _ _ (by omega) (by omega) (by omega)).mono ?_; rintro e ww ⟨rfl, rfl⟩
            rw [show pw (N : Int) j (q0 : Int).toNat = pw (N : Int) j q0 from rfl]
            go_wp2
            go_roundw
            case rel => exact ⟨j + 1, by omega, by omega, (show Hid _ from HX.out.s2 _), (show Hid _ from HR.out.other (by simp) _), (show Hid _ from HB.out.setCell (by simp) _)⟩
            case measure => rw [(HX.out.s2 (j + 1)).c2, c2]; simp [intOf]; omega
      · have hlt : (q0 : Int) < q := by omega
        have hn := HG.out.qm q hlt hq2
        cases hpr : prmB q with
        | false =>
          have hpb : (inB q 2 (N : Int) && prmB q) = false := by rw [hpr, Bool.and_false]
          go_wp2_with fail
          refine (i_isPrimeUpTo _ _ _ (by omega)).mono ?_; rintro e ww ⟨rfl, rfl⟩; rw [hpb]
          clear hpb hn
          go_wp2
          go_roundw
          case rel => exact ⟨q - 1, by omega, by omega, (show Hid _ from HX.out.s1 _), (show Hid _ from HR.out.other (by simp) _), (show Hid _ from HB.out.setCell (by simp) _)⟩
          case measure => rw [(HX.out.s1 (q - 1)).c1, c1]; simp [intOf]; omega
        | true =>
          have hm : ¬ ((N : Int) - 1) % q = 0 := fun e => by have := qB_iff.2 ⟨e, hpr⟩; rw [hn] at this; cases this
          have hmb : (((N : Int) - 1) % q == 0) = false := by simpa using hm
          have hmc : (((N : Int) - 1) % q != 0) = true := by simpa using hm
          have hpb : (inB q 2 (N : Int) && prmB q) = true := by rw [hin, hpr]; rfl
          go_wp2_with fail
          refine (i_isPrimeUpTo _ _ _ (by omega)).mono ?_; rintro e ww ⟨rfl, rfl⟩; rw [hpb]
          clear hpb hn
          go_wp2
          go_roundw
          case rel => exact ⟨q - 1, by omega, by omega, (show Hid _ from HX.out.s1 _), (show Hid _ from HR.out.other (by simp) _), (show Hid _ from HB.out.setCell (by simp) _)⟩
          case measure => rw [(HX.out.s1 (q - 1)).c1, c1]; simp [intOf]; omega
set_option maxHeartbeats 4000000 in
theorem s_GroupFor (p : Int) (w : World) (hp : Fits p) :
    Calls Try.prog 38 #[.int .i64 p] w fun e w' => ∃ P Q G : Int, e = .returned (.tuple #[.agg #[.int .i64 P, .int .i64 Q, .int .i64 G], .bool (modB p)]) ∧ (modB p = true → P = p ∧ IsGF p Q G) ∧ (modB p = false → P = 0 ∧ Q = 0 ∧ G = 0) ∧ Below w.heap.size w w' := by
  cases h : modB p with
  | false =>
    cases hi : inB p 3 2003 with
    | false =>
      go_enter Try.func38, Try.ntmps38
      go_wp2_with fail
      refine (s_l1In _ 3 2003 _).mono ?_; rintro e ww ⟨rfl, rfl⟩; rw [hi]
      go_wp2
      exact bodyPost_ret (v := .tuple #[.agg #[.int .i64 0, .int .i64 0, .int .i64 0], .bool false]) (by simp [results, Try.results38, go_sem]) rfl ⟨0, 0, 0, rfl, fun h => (by cases h), fun _ => ⟨rfl, rfl, rfl⟩, by (repeat (first | exact Below.refl _ _ | assumption | refine bel_trans ?_ (bel_alloc _ _) | refine bel_set ?_ (by first | (dsimp only; omega) | (simp; omega) | simp) _ | refine bel_trans ?_ (bel_drewN _ _) | refine bel_trans ?_ (bel_drew _) | refine bel_trans ?_ (by assumption)))⟩
    | true =>
      obtain ⟨i1, i2⟩ := inB_iff.1 hi
      have hpr : prmB p = false := by unfold modB at h; rw [hi] at h; exact h
      go_enter Try.func38, Try.ntmps38
      go_wp2_with fail
      refine (s_l1In _ 3 2003 _).mono ?_; rintro e ww ⟨rfl, rfl⟩; rw [hi]
      go_wp2_with fail
      refine (s_grPrime _ _ (by omega) (by omega)).mono ?_; rintro e ww ⟨rfl, rfl⟩; rw [hpr]
      go_wp2
      exact bodyPost_ret (v := .tuple #[.agg #[.int .i64 0, .int .i64 0, .int .i64 0], .bool false]) (by simp [results, Try.results38, go_sem]) rfl ⟨0, 0, 0, rfl, fun h => (by cases h), fun _ => ⟨rfl, rfl, rfl⟩, by (repeat (first | exact Below.refl _ _ | assumption | refine bel_trans ?_ (bel_alloc _ _) | refine bel_set ?_ (by first | (dsimp only; omega) | (simp; omega) | simp) _ | refine bel_trans ?_ (bel_drewN _ _) | refine bel_trans ?_ (bel_drew _) | refine bel_trans ?_ (by assumption)))⟩
  | true =>
    obtain ⟨hi, hpr⟩ := Bool.and_eq_true_iff.1 h
    obtain ⟨i1, i2⟩ := inB_iff.1 hi
    go_enter Try.func38, Try.ntmps38
    go_wp2_with fail
    refine (s_l1In _ 3 2003 _).mono ?_; rintro e ww ⟨rfl, rfl⟩; rw [hi]
    go_wp2_with fail
    refine (s_grPrime _ _ (by omega) (by omega)).mono ?_; rintro e ww ⟨rfl, rfl⟩; rw [hpr]
    go_wp2_with fail
    refine (s_grFor _ _ h).mono ?_; rintro e ww ⟨Q, G, rfl, hgf, hb1⟩
    have g1 := (Gw.new (w := w) (P := 0) (Q := 0) (G := 0) (t := 24)).on hb1
    have g2 := g1; obtain ⟨c0, c1, c2, f0, f1, f2⟩ := g2
    have E := g1.set p Q G; have E0 := E.c0; have E1 := E.c1; have E2 := E.c2; clear E
    have BF := bel_trans (bel_alloc w _) hb1; clear hb1
    go_wp2
    exact bodyPost_ret (v := .tuple #[.agg #[.int .i64 p, .int .i64 Q, .int .i64 G], .bool true]) (by simp [results, Try.results38, go_sem, E0, E1, E2]) rfl ⟨p, Q, G, rfl, fun _ => ⟨rfl, hgf⟩, fun h => (by cases h), bel_set3 BF (Nat.le_refl _) _ _ _⟩
end Go.Proofs.Ytklgneaamhjfpaa
