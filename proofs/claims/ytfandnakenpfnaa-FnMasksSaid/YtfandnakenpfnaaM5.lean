/-
  Contracts: PassingChecks.
-/
import Derived.Test.YtfandnakenpfnaaM4
namespace Go.Proofs.Ytfandnakenpfnaa
open Go.RowKit
set_option linter.unusedVariables false
set_option linter.unusedSimpArgs false

set_option maxHeartbeats 4000000 in
theorem i_PassingChecks (p : Int) (a0 : Option Addr) (n0 cap0 : Nat) (zs : List Int) (a1 : Option Addr) (n1 cap1 : Nat) (zt : List Int) (a2 : Option Addr) (n2 cap2 : Nat) (zu : List Int) (a3 : Option Addr) (n3 cap3 : Nat) (zv : List Int) (w : World) (hp : Fits p) (i0 : Ints w a0 n0 cap0 zs) (i1 : Ints w a1 n1 cap1 zt) (i2 : Ints w a2 n2 cap2 zu) (i3 : Ints w a3 n3 cap3 zv) :
    Calls Try.prog 10 #[.int .i64 p, .slice a0 n0 cap0, .slice a1 n1 cap1, .slice a2 n2 cap2, .slice a3 n3 cap3] w fun e w' => e = .returned (.tuple #[.int .i64 (passingChecks p zs zt zu zv).1, .bool (passingChecks p zs zt zu zv).2]) ∧ Below w.heap.size w w' := by
  unfold passingChecks fourB
  cases h0 : lnB p zs 3 with
  | false =>
    go_enter Try.func10, Try.ntmps10
    go_wp2_with (go_at_call 47; refine (i_isTripleShares _ _ _ _ _ _ (by assumption)).mono ?_; rintro e w1 ⟨rfl, hb⟩; replace i0 := i0.below hb; replace i1 := i1.below hb; replace i2 := i2.below hb; replace i3 := i3.below hb; (first | (replace HB := bel_trans HB hb) | (have HB := hb)))
    go_ret2
    exact ⟨rfl, by (repeat (first | exact Below.refl _ _ | assumption | refine bel_trans ?_ (bel_alloc _ _) | refine bel_set ?_ (by first | (dsimp only; omega) | (simp; omega) | simp) _ | refine bel_trans ?_ (bel_drewN _ _) | refine bel_trans ?_ (bel_drew _) | refine bel_trans ?_ (by assumption)))⟩
  | true =>
    cases h1 : lnB p zt 3 with
    | false =>
      go_enter Try.func10, Try.ntmps10
      go_wp2_with (go_at_call 47; refine (i_isTripleShares _ _ _ _ _ _ (by assumption)).mono ?_; rintro e w1 ⟨rfl, hb⟩; replace i0 := i0.below hb; replace i1 := i1.below hb; replace i2 := i2.below hb; replace i3 := i3.below hb; (first | (replace HB := bel_trans HB hb) | (have HB := hb)))
      go_ret2
      exact ⟨rfl, by (repeat (first | exact Below.refl _ _ | assumption | refine bel_trans ?_ (bel_alloc _ _) | refine bel_set ?_ (by first | (dsimp only; omega) | (simp; omega) | simp) _ | refine bel_trans ?_ (bel_drewN _ _) | refine bel_trans ?_ (bel_drew _) | refine bel_trans ?_ (by assumption)))⟩
    | true =>
      cases h2 : lnB p zu 3 with
      | false =>
        go_enter Try.func10, Try.ntmps10
        go_wp2_with (go_at_call 47; refine (i_isTripleShares _ _ _ _ _ _ (by assumption)).mono ?_; rintro e w1 ⟨rfl, hb⟩; replace i0 := i0.below hb; replace i1 := i1.below hb; replace i2 := i2.below hb; replace i3 := i3.below hb; (first | (replace HB := bel_trans HB hb) | (have HB := hb)))
        go_ret2
        exact ⟨rfl, by (repeat (first | exact Below.refl _ _ | assumption | refine bel_trans ?_ (bel_alloc _ _) | refine bel_set ?_ (by first | (dsimp only; omega) | (simp; omega) | simp) _ | refine bel_trans ?_ (bel_drewN _ _) | refine bel_trans ?_ (bel_drew _) | refine bel_trans ?_ (by assumption)))⟩
      | true =>
        cases h3 : lnB p zv 3 with
        | false =>
          go_enter Try.func10, Try.ntmps10
          go_wp2_with (go_at_call 47; refine (i_isTripleShares _ _ _ _ _ _ (by assumption)).mono ?_; rintro e w1 ⟨rfl, hb⟩; replace i0 := i0.below hb; replace i1 := i1.below hb; replace i2 := i2.below hb; replace i3 := i3.below hb; (first | (replace HB := bel_trans HB hb) | (have HB := hb)))
          go_ret2
          exact ⟨rfl, by (repeat (first | exact Below.refl _ _ | assumption | refine bel_trans ?_ (bel_alloc _ _) | refine bel_set ?_ (by first | (dsimp only; omega) | (simp; omega) | simp) _ | refine bel_trans ?_ (bel_drewN _ _) | refine bel_trans ?_ (bel_drew _) | refine bel_trans ?_ (by assumption)))⟩
        | true =>
          obtain ⟨hp1, hp2⟩ := lnB_p h0
          obtain ⟨x0, x1, x2, rfl, ⟨xa, xb⟩, ⟨xc, xd⟩, ⟨xe, xf⟩⟩ := ln3 h0
          obtain ⟨y0, y1, y2, rfl, ⟨ya, yb⟩, ⟨yc, yd⟩, ⟨ye, yf⟩⟩ := ln3 h1
          obtain ⟨u0, u1, u2, rfl, ⟨ua, ub⟩, ⟨uc, ud⟩, ⟨ue, uf⟩⟩ := ln3 h2
          obtain ⟨v0, v1, v2, rfl, ⟨va, vb⟩, ⟨vc, vd⟩, ⟨ve, vf⟩⟩ := ln3 h3
          obtain rfl : n0 = 3 := i0.three.1
          obtain rfl : n1 = 3 := i1.three.1
          obtain rfl : n2 = 3 := i2.three.1
          obtain rfl : n3 = 3 := i3.three.1
          obtain ⟨q, rfl⟩ : ∃ q : Nat, p = q := ⟨p.toNat, by omega⟩
          go_enter Try.func10, Try.ntmps10
          go_wp2_with (go_at_call 47; refine (i_isTripleShares _ _ _ _ _ _ (by assumption)).mono ?_; rintro e w1 ⟨rfl, hb⟩; replace i0 := i0.below hb; replace i1 := i1.below hb; replace i2 := i2.below hb; replace i3 := i3.below hb; (first | (replace HB := bel_trans HB hb) | (have HB := hb)))
          have HH := Lib.hid HB; clear HB hb
          have J0 := Lib.hid i0; have J1 := Lib.hid i1; have J2 := Lib.hid i2; have J3 := Lib.hid i3; clear i0 i1 i2 i3
          obtain ⟨wz, hwz⟩ : ∃ wz : World, wz = w1 := ⟨_, rfl⟩; have HWZ := Lib.hid hwz; clear hwz
          go_loopw [12, 37] (fun s i W => ∃ k : Nat, k ≤ q ∧ i = .int .i64 k ∧ s = .int .i64 (pcSum q [x0, x1, x2] [y0, y1, y2] [u0, u1, u2] [v0, v1, v2] k) ∧ Hid (Below wz.heap.size wz W)) (fun _ i _ => q - (intOf i).toNat)
          case atStart => exact ⟨0, by omega, rfl, rfl, (show Hid _ by rw [HWZ.out]; exact Below.refl _ _)⟩
          case round =>
            obtain ⟨k, hk, rfl, rfl, BW⟩ := hrel
            have pb := pcSum_bd q [x0, x1, x2] [y0, y1, y2] [u0, u1, u2] [v0, v1, v2] k
            have bb := bitN_bd (chkB q [x0, x1, x2] [y0, y1, y2] [u0, u1, u2] [v0, v1, v2] k)
            by_cases hlt : k < q
            · have HS : Hid (pcSum q [x0, x1, x2] [y0, y1, y2] [u0, u1, u2] [v0, v1, v2] (k + 1) = pcSum q [x0, x1, x2] [y0, y1, y2] [u0, u1, u2] [v0, v1, v2] k + bitN (chkB q [x0, x1, x2] [y0, y1, y2] [u0, u1, u2] [v0, v1, v2] k)) := rfl
              have BW1 : Hid (Below w1.heap.size w1 wr) := by show _; rw [← HWZ.out]; exact BW.out
              go_wp2_with (first | (go_at_call 49; refine (i_checked _ _ _ _ _ _ _ _ _ _ _ _ _ x0 x1 x2 y0 y1 y2 u0 u1 u2 v0 v1 v2 _ _ (J0.out.below BW1.out) (J1.out.below BW1.out) (J2.out.below BW1.out) (J3.out.below BW1.out) ⟨hp1, hp2⟩ ⟨⟨by omega, by omega⟩, ⟨by omega, by omega⟩, ⟨by omega, by omega⟩⟩ ⟨⟨by omega, by omega⟩, ⟨by omega, by omega⟩, ⟨by omega, by omega⟩⟩ ⟨⟨by omega, by omega⟩, ⟨by omega, by omega⟩, ⟨by omega, by omega⟩⟩ ⟨⟨by omega, by omega⟩, ⟨by omega, by omega⟩, ⟨by omega, by omega⟩⟩ ⟨by omega, by omega⟩).mono ?_; rintro e w9 ⟨rfl, hb9⟩) | (go_at_call 48; refine (i_bit _ _).mono ?_; rintro e w' ⟨rfl, rfl⟩))
              go_roundw
              case rel => exact ⟨k + 1, by omega, by go_num, by rw [HS.out], (show Hid _ from bel_trans BW.out hb9)⟩
              case measure => simp [intOf]; omega
            · obtain rfl : k = q := by omega
              have BW1 : Hid (Below w1.heap.size w1 wr) := by show _; rw [← HWZ.out]; exact BW.out
              go_wp2
              go_ret2
              exact ⟨by first | rfl | simp, bel_trans HH.out BW1.out⟩
set_option maxHeartbeats 4000000 in
theorem s_PassingChecks (p : Int) (a0 : Option Addr) (n0 cap0 : Nat) (zs : List Int) (a1 : Option Addr) (n1 cap1 : Nat) (zt : List Int) (a2 : Option Addr) (n2 cap2 : Nat) (zu : List Int) (a3 : Option Addr) (n3 cap3 : Nat) (zv : List Int) (w : World) (hp : Fits p) (i0 : Ints w a0 n0 cap0 zs) (i1 : Ints w a1 n1 cap1 zt) (i2 : Ints w a2 n2 cap2 zu) (i3 : Ints w a3 n3 cap3 zv) :
    Calls Try.prog 11 #[.int .i64 p, .slice a0 n0 cap0, .slice a1 n1 cap1, .slice a2 n2 cap2, .slice a3 n3 cap3] w fun e w' => e = .returned (.tuple #[.int .i64 (passingChecks p zs zt zu zv).1, .bool (passingChecks p zs zt zu zv).2]) ∧ Below w.heap.size w w' := by
  unfold passingChecks
  cases h0 : fourB p zs zt zu zv with
  | false =>
    go_enter Try.func11, Try.ntmps11
    go_wp2_with (go_at_call 50; refine (s_trFour _ _ _ _ _ _ _ _ _ _ _ _ _ _ _ _ _ _ (by assumption) (by assumption) (by assumption) (by assumption)).mono ?_; rintro e w' ⟨rfl, rfl⟩)
    go_ret2
    exact ⟨rfl, by (repeat (first | exact Below.refl _ _ | assumption | refine bel_trans ?_ (bel_alloc _ _) | refine bel_set ?_ (by first | (dsimp only; omega) | (simp; omega) | simp) _ | refine bel_trans ?_ (bel_drewN _ _) | refine bel_trans ?_ (bel_drew _) | refine bel_trans ?_ (by assumption)))⟩
  | true =>
    have hf := h0
    obtain ⟨h0, hf⟩ := Bool.and_eq_true_iff.1 hf
    obtain ⟨h1, hf⟩ := Bool.and_eq_true_iff.1 hf
    obtain ⟨h2, h3⟩ := Bool.and_eq_true_iff.1 hf
    obtain ⟨hp1, hp2⟩ := lnB_p h3
    obtain ⟨x0, x1, x2, rfl, ⟨xa, xb⟩, ⟨xc, xd⟩, ⟨xe, xf⟩⟩ := ln3 h0
    obtain ⟨y0, y1, y2, rfl, ⟨ya, yb⟩, ⟨yc, yd⟩, ⟨ye, yf⟩⟩ := ln3 h1
    obtain ⟨u0, u1, u2, rfl, ⟨ua, ub⟩, ⟨uc, ud⟩, ⟨ue, uf⟩⟩ := ln3 h2
    obtain ⟨v0, v1, v2, rfl, ⟨va, vb⟩, ⟨vc, vd⟩, ⟨ve, vf⟩⟩ := ln3 h3
    obtain rfl : n0 = 3 := i0.three.1
    obtain rfl : n1 = 3 := i1.three.1
    obtain rfl : n2 = 3 := i2.three.1
    obtain rfl : n3 = 3 := i3.three.1
    have hxy : Hid (∀ i, i < 3 → -1000000 ≤ nth [x0, x1, x2] i ∧ 0 ≤ nth [x0, x1, x2] i + nth [y0, y1, y2] i ∧ nth [x0, x1, x2] i ≤ 1000000 ∧ nth [y0, y1, y2] i ≤ 1000000) := by
      intro i hi
      rcases (show i = 0 ∨ i = 1 ∨ i = 2 by omega) with rfl | rfl | rfl <;> simp [nth] <;> omega
    have huv : Hid (∀ i, i < 3 → -1000000 ≤ nth [u0, u1, u2] i ∧ 0 ≤ nth [u0, u1, u2] i + nth [v0, v1, v2] i ∧ nth [u0, u1, u2] i ≤ 1000000 ∧ nth [v0, v1, v2] i ≤ 1000000) := by
      intro i hi
      rcases (show i = 0 ∨ i = 1 ∨ i = 2 by omega) with rfl | rfl | rfl <;> simp [nth] <;> omega
    obtain ⟨xy0, xy0'⟩ := emod_bd (n := x0 + y0) (p := p) (by omega)
    obtain ⟨xy1, xy1'⟩ := emod_bd (n := x1 + y1) (p := p) (by omega)
    obtain ⟨xy2, xy2'⟩ := emod_bd (n := x2 + y2) (p := p) (by omega)
    obtain ⟨uv0, uv0'⟩ := emod_bd (n := u0 + v0) (p := p) (by omega)
    obtain ⟨uv1, uv1'⟩ := emod_bd (n := u1 + v1) (p := p) (by omega)
    obtain ⟨uv2, uv2'⟩ := emod_bd (n := u2 + v2) (p := p) (by omega)
    obtain ⟨q, rfl⟩ : ∃ q : Nat, p = q := ⟨p.toNat, by omega⟩
    have HE : Hid (∀ r : Int, decide (chkV q ((x0 + y0) % q) ((x1 + y1) % q) ((x2 + y2) % q) ((u0 + v0) % q) ((u1 + v1) % q) ((u2 + v2) % q) r % q = 0) = chkB q [x0, x1, x2] [y0, y1, y2] [u0, u1, u2] [v0, v1, v2] r) := by
      intro r
      show _ = decide (chkV q (x0 + y0) (x1 + y1) (x2 + y2) (u0 + v0) (u1 + v1) (u2 + v2) r % q = 0)
      rw [chkV_mod]
    go_enter Try.func11, Try.ntmps11
    go_wp2_with (go_at_call 50; refine (s_trFour _ _ _ _ _ _ _ _ _ _ _ _ _ _ _ _ _ _ (by assumption) (by assumption) (by assumption) (by assumption)).mono ?_; rintro e w' ⟨rfl, rfl⟩)
    go_loopw [12, 13] (fun s i W => ∃ k : Nat, k ≤ q ∧ i = .int .i64 k ∧ s = .int .i64 (pcSum q [x0, x1, x2] [y0, y1, y2] [u0, u1, u2] [v0, v1, v2] k) ∧ Hid (Below w.heap.size w W)) (fun _ i _ => q - (intOf i).toNat)
    case atStart => exact ⟨0, by omega, rfl, rfl, Below.refl _ _⟩
    case round =>
      obtain ⟨k, hk, rfl, rfl, BW⟩ := hrel
      have pb := pcSum_bd q [x0, x1, x2] [y0, y1, y2] [u0, u1, u2] [v0, v1, v2] k
      by_cases hlt : k < q
      · have hlti : (k : Int) < (q : Int) := by omega
        go_wp2_with fail
        refine (s_trSum _ _ _ _ _ _ _ [x0, x1, x2] [y0, y1, y2] _ (i0.below BW.out) (i1.below BW.out) ⟨hp1, hp2⟩ (by omega) (by omega) hxy).mono ?_; rintro e w1 ⟨ra, rc, rfl, hm1, hb1⟩
        have j1 : Ints w1 ra 3 rc [(x0 + y0) % (q : Int), (x1 + y1) % (q : Int), (x2 + y2) % (q : Int)] := hm1.ints
        have B1 := bel_trans BW.out hb1
        go_wp2_with fail
        refine (s_trSum _ _ _ _ _ _ _ [u0, u1, u2] [v0, v1, v2] _ (i2.below B1) (i3.below B1) ⟨hp1, hp2⟩ (by omega) (by omega) huv).mono ?_; rintro e w2 ⟨qa, qc, rfl, hm2, hb2⟩
        have j2 : Ints w2 qa 3 qc [(u0 + v0) % (q : Int), (u1 + v1) % (q : Int), (u2 + v2) % (q : Int)] := hm2.ints
        replace j1 := j1.below hb2
        go_wp2_with fail
        refine (s_trPasses _ _ _ _ _ _ _ _ _ _ _ _ _ _ _ j1 j2 ⟨hp1, hp2⟩ ⟨⟨by omega, by omega⟩, ⟨by omega, by omega⟩, ⟨by omega, by omega⟩⟩ ⟨⟨by omega, by omega⟩, ⟨by omega, by omega⟩, ⟨by omega, by omega⟩⟩ ⟨by omega, by omega⟩).mono ?_; rintro e w3 ⟨rfl, hb3⟩
        rw [HE.out]
        have HB3 := Lib.hid (bel_trans (bel_trans B1 hb2) hb3)
        clear hb1 hb2 hb3 hm1 hm2 j1 j2 B1 BW
        cases hc : chkB q [x0, x1, x2] [y0, y1, y2] [u0, u1, u2] [v0, v1, v2] k with
        | false =>
          have HS : Hid (pcSum q [x0, x1, x2] [y0, y1, y2] [u0, u1, u2] [v0, v1, v2] (k + 1) = pcSum q [x0, x1, x2] [y0, y1, y2] [u0, u1, u2] [v0, v1, v2] k) := by show _ = _; rw [pcSum, hc]; simp [bitN]
          go_wp2
          go_roundw
          case rel => exact ⟨k + 1, by omega, by go_num, by rw [HS.out], HB3⟩
          case measure => simp [intOf]; omega
        | true =>
          have HS : Hid (pcSum q [x0, x1, x2] [y0, y1, y2] [u0, u1, u2] [v0, v1, v2] (k + 1) = pcSum q [x0, x1, x2] [y0, y1, y2] [u0, u1, u2] [v0, v1, v2] k + 1) := by show _ = _; rw [pcSum, hc]; simp [bitN]
          go_wp2
          go_roundw
          case rel => exact ⟨k + 1, by omega, by go_num, by rw [HS.out], HB3⟩
          case measure => simp [intOf]; omega
      · obtain rfl : k = q := by omega
        go_wp2
        go_ret2
        exact ⟨by first | rfl | simp, BW.out⟩
end Go.Proofs.Ytfandnakenpfnaa
