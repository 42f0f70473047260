/-
  Contracts: CheckTriple, PassingChecks.
-/
import Derived.Test.YtfandnakenpfnaaM3
namespace Go.Proofs.Ytfandnakenpfnaa
open Go.RowKit
set_option linter.unusedVariables false
set_option linter.unusedSimpArgs false

theorem cg_mul {p a b c d : Int} (h : a % p = b % p) (k : c % p = d % p) : (a * c) % p = (b * d) % p := by rw [Int.mul_emod, h, k, ← Int.mul_emod]
theorem cg_sub {p a b c d : Int} (h : a % p = b % p) (k : c % p = d % p) : (a - c) % p = (b - d) % p := by rw [Int.sub_emod, h, k, ← Int.sub_emod]
theorem cg_add {p a b c d : Int} (h : a % p = b % p) (k : c % p = d % p) : (a + c) % p = (b + d) % p := by rw [Int.add_emod, h, k, ← Int.add_emod]
theorem cg_mod (p a : Int) : (a % p) % p = a % p := Int.emod_emod_of_dvd _ (Int.dvd_refl p)
/-- What a check asks to be 0, of the sums. -/
def chkO (p a f r : Int) : Int := (r * a - f) % p
def chkQ (p b g : Int) : Int := (b - g) % p
def chkV (p a b c f g h r : Int) : Int := r * c - h - chkQ p b g * f - chkO p a f r * g - chkQ p b g * chkO p a f r
theorem chkV_mod (p a b c f g h r : Int) : chkV p (a % p) (b % p) (c % p) (f % p) (g % p) (h % p) r % p = chkV p a b c f g h r % p := by
  have e1 : chkO p (a % p) (f % p) r = chkO p a f r := cg_sub (cg_mul rfl (cg_mod p a)) (cg_mod p f)
  have e2 : chkQ p (b % p) (g % p) = chkQ p b g := cg_sub (cg_mod p b) (cg_mod p g)
  unfold chkV
  rw [e1, e2]
  exact cg_sub (cg_sub (cg_sub (cg_sub (cg_mul rfl (cg_mod p c)) (cg_mod p h)) (cg_mul rfl (cg_mod p f))) (cg_mul rfl (cg_mod p g))) rfl
def chkB (p : Int) (s t u v : List Int) (r : Int) : Bool :=
  decide (chkV p (nth s 0 + nth t 0) (nth s 1 + nth t 1) (nth s 2 + nth t 2) (nth u 0 + nth v 0) (nth u 1 + nth v 1) (nth u 2 + nth v 2) r % p = 0)
def fourB (p : Int) (s t u v : List Int) : Bool := lnB p s 3 && (lnB p t 3 && (lnB p u 3 && lnB p v 3))
def checkTriple (p : Int) (s t u v : List Int) (r : Int) : Bool × Bool := if fourB p s t u v && elB p r then (chkB p s t u v r, true) else (false, false)
def pcSum (p : Int) (s t u v : List Int) : Nat → Int
  | 0 => 0
  | n + 1 => pcSum p s t u v n + bitN (chkB p s t u v n)
theorem pcSum_bd (p : Int) (s t u v : List Int) (n : Nat) : 0 ≤ pcSum p s t u v n ∧ pcSum p s t u v n ≤ n := by
  induction n with
  | zero => simp [pcSum]
  | succ n ih => have := bitN_bd (chkB p s t u v n); rw [pcSum]; omega
def passingChecks (p : Int) (s t u v : List Int) : Int × Bool := if fourB p s t u v then (pcSum p s t u v p.toNat, true) else (0, false)

set_option maxHeartbeats 2000000 in
theorem i_checked (p : Int) (a0 : Option Addr) (n0 cap0 : Nat) (a1 : Option Addr) (n1 cap1 : Nat) (a2 : Option Addr) (n2 cap2 : Nat) (a3 : Option Addr) (n3 cap3 : Nat) (x0 x1 x2 y0 y1 y2 u0 u1 u2 v0 v1 v2 r : Int) (w : World) (i0 : Ints w a0 n0 cap0 [x0, x1, x2]) (i1 : Ints w a1 n1 cap1 [y0, y1, y2]) (i2 : Ints w a2 n2 cap2 [u0, u1, u2]) (i3 : Ints w a3 n3 cap3 [v0, v1, v2]) (hp : 2 ≤ p ∧ p ≤ 251) (hx : (0 ≤ x0 ∧ x0 ≤ 250) ∧ (0 ≤ x1 ∧ x1 ≤ 250) ∧ (0 ≤ x2 ∧ x2 ≤ 250)) (hy : (0 ≤ y0 ∧ y0 ≤ 250) ∧ (0 ≤ y1 ∧ y1 ≤ 250) ∧ (0 ≤ y2 ∧ y2 ≤ 250)) (hu : (0 ≤ u0 ∧ u0 ≤ 250) ∧ (0 ≤ u1 ∧ u1 ≤ 250) ∧ (0 ≤ u2 ∧ u2 ≤ 250)) (hv : (0 ≤ v0 ∧ v0 ≤ 250) ∧ (0 ≤ v1 ∧ v1 ≤ 250) ∧ (0 ≤ v2 ∧ v2 ≤ 250)) (hr : 0 ≤ r ∧ r ≤ 250) :
    Calls Try.prog 49 #[.int .i64 p, .slice a0 n0 cap0, .slice a1 n1 cap1, .slice a2 n2 cap2, .slice a3 n3 cap3, .int .i64 r] w fun e w' => e = .returned (.bool (chkB p [x0, x1, x2] [y0, y1, y2] [u0, u1, u2] [v0, v1, v2] r)) ∧ Below w.heap.size w w' := by
  obtain ⟨hp1, hp2⟩ := hp; obtain ⟨r1, r2⟩ := hr
  have bdx := hx; obtain ⟨⟨xa, xb⟩, ⟨xc, xd⟩, ⟨xe, xf⟩⟩ := bdx
  have bdy := hy; obtain ⟨⟨ya, yb⟩, ⟨yc, yd⟩, ⟨ye, yf⟩⟩ := bdy
  have bdu := hu; obtain ⟨⟨ua, ub⟩, ⟨uc, ud⟩, ⟨ue, uf⟩⟩ := bdu
  have bdv := hv; obtain ⟨⟨va, vb⟩, ⟨vc, vd⟩, ⟨ve, vf⟩⟩ := bdv
  obtain ⟨m1, m2⟩ := mul_bd (a := r) (b := x0 + y0) 250 500 (by omega) (by omega) (by omega) (by omega)
  obtain ⟨o1, o2⟩ := emod_bd (n := r * (x0 + y0) - (u0 + v0)) (p := p) (by omega)
  obtain ⟨q1, q2⟩ := emod_bd (n := (x1 + y1) - (u1 + v1)) (p := p) (by omega)
  have HO : Hid (chkO p (x0 + y0) (u0 + v0) r = (r * (x0 + y0) - (u0 + v0)) % p) := rfl
  have HQ : Hid (chkQ p (x1 + y1) (u1 + v1) = ((x1 + y1) - (u1 + v1)) % p) := rfl
  obtain ⟨O, hO⟩ : ∃ O, O = (r * (x0 + y0) - (u0 + v0)) % p := ⟨_, rfl⟩
  obtain ⟨Q, hQ⟩ : ∃ Q, Q = ((x1 + y1) - (u1 + v1)) % p := ⟨_, rfl⟩
  rw [← hO] at o1 o2; rw [← hQ] at q1 q2
  have HO2 := Lib.hid hO; have HQ2 := Lib.hid hQ; clear hO hQ
  obtain ⟨m3, m4⟩ := mul_bd (a := r) (b := x2 + y2) 250 500 (by omega) (by omega) (by omega) (by omega)
  obtain ⟨m5, m6⟩ := mul_bd (a := Q) (b := u0 + v0) 251 500 (by omega) (by omega) (by omega) (by omega)
  obtain ⟨m7, m8⟩ := mul_bd (a := O) (b := u1 + v1) 251 500 (by omega) (by omega) (by omega) (by omega)
  obtain ⟨m9, m10⟩ := mul_bd (a := Q) (b := O) 251 251 (by omega) (by omega) (by omega) (by omega)
  have HE : Hid (decide ((r * (x2 + y2) - (u2 + v2) - Q * (u0 + v0) - O * (u1 + v1) - Q * O) % p = 0) = chkB p [x0, x1, x2] [y0, y1, y2] [u0, u1, u2] [v0, v1, v2] r) := by
    show _ = decide (chkV p (x0 + y0) (x1 + y1) (x2 + y2) (u0 + v0) (u1 + v1) (u2 + v2) r % p = 0)
    unfold chkV; rw [HO.out, HQ.out, ← HO2.out, ← HQ2.out]
  go_enter Try.func49, Try.ntmps49
  go_wp2_with fail
  refine (i_sums _ _ _ _ _ _ x0 x1 x2 y0 y1 y2 _ i0 i1 hx hy).mono ?_; rintro e w1 ⟨rfl, hb⟩; replace i2 := i2.below hb; replace i3 := i3.below hb; have HB1 := Lib.hid hb; clear hb
  go_wp2_with fail
  refine (i_sums _ _ _ _ _ _ u0 u1 u2 v0 v1 v2 _ i2 i3 hu hv).mono ?_; rintro e w2 ⟨rfl, hb⟩; have HB2 := Lib.hid (bel_trans HB1.out hb); clear hb
  go_wp2_with fail
  refine (i_mod _ _ _ (by omega) (by omega) (by omega) (by omega)).mono ?_; rintro e w3 ⟨rfl, rfl⟩; rw [← HO2.out]
  go_wp2_with fail
  refine (i_mod _ _ _ (by omega) (by omega) (by omega) (by omega)).mono ?_; rintro e w3 ⟨rfl, rfl⟩; rw [← HQ2.out]
  go_wp2_with (go_at_call 54; refine (i_mod _ _ _ (by omega) (by omega) (by omega) (by omega)).mono ?_; rintro e w' ⟨rfl, rfl⟩)
  go_ret
  exact ⟨by first | rfl | exact (ret_bool HE.out) | (refine ret_bool (Eq.trans ?_ HE.out); rw [Bool.eq_iff_iff]; simp), HB2.out⟩
set_option maxHeartbeats 2000000 in
theorem s_trPasses (p : Int) (a0 : Option Addr) (n0 cap0 : Nat) (a1 : Option Addr) (n1 cap1 : Nat) (x0 x1 x2 u0 u1 u2 r : Int) (w : World) (i0 : Ints w a0 n0 cap0 [x0, x1, x2]) (i1 : Ints w a1 n1 cap1 [u0, u1, u2]) (hp : 2 ≤ p ∧ p ≤ 251)
    (hx : (0 ≤ x0 ∧ x0 ≤ 250) ∧ (0 ≤ x1 ∧ x1 ≤ 250) ∧ (0 ≤ x2 ∧ x2 ≤ 250)) (hu : (0 ≤ u0 ∧ u0 ≤ 250) ∧ (0 ≤ u1 ∧ u1 ≤ 250) ∧ (0 ≤ u2 ∧ u2 ≤ 250)) (hr : 0 ≤ r ∧ r ≤ 250) :
    Calls Try.prog 51 #[.int .i64 p, .slice a0 n0 cap0, .slice a1 n1 cap1, .int .i64 r] w fun e w' => e = .returned (.bool (decide (chkV p x0 x1 x2 u0 u1 u2 r % p = 0))) ∧ Below w.heap.size w w' := by
  obtain ⟨hp1, hp2⟩ := hp; obtain ⟨r1, r2⟩ := hr
  have bdx := hx; obtain ⟨⟨xa, xb⟩, ⟨xc, xd⟩, ⟨xe, xf⟩⟩ := bdx
  have bdu := hu; obtain ⟨⟨ua, ub⟩, ⟨uc, ud⟩, ⟨ue, uf⟩⟩ := bdu
  obtain ⟨m1, m2⟩ := mul_bd (a := r) (b := x0) 250 250 (by omega) (by omega) (by omega) (by omega)
  obtain ⟨o1, o2⟩ := emod_bd (n := r * (x0) - (u0)) (p := p) (by omega)
  obtain ⟨q1, q2⟩ := emod_bd (n := (x1) - (u1)) (p := p) (by omega)
  have HO : Hid (chkO p (x0) (u0) r = (r * (x0) - (u0)) % p) := rfl
  have HQ : Hid (chkQ p (x1) (u1) = ((x1) - (u1)) % p) := rfl
  obtain ⟨O, hO⟩ : ∃ O, O = (r * (x0) - (u0)) % p := ⟨_, rfl⟩
  obtain ⟨Q, hQ⟩ : ∃ Q, Q = ((x1) - (u1)) % p := ⟨_, rfl⟩
  rw [← hO] at o1 o2; rw [← hQ] at q1 q2
  have HO2 := Lib.hid hO; have HQ2 := Lib.hid hQ; clear hO hQ
  obtain ⟨m3, m4⟩ := mul_bd (a := r) (b := x2) 250 250 (by omega) (by omega) (by omega) (by omega)
  obtain ⟨m5, m6⟩ := mul_bd (a := Q) (b := u0) 251 250 (by omega) (by omega) (by omega) (by omega)
  obtain ⟨m7, m8⟩ := mul_bd (a := O) (b := u1) 251 250 (by omega) (by omega) (by omega) (by omega)
  obtain ⟨m9, m10⟩ := mul_bd (a := Q) (b := O) 251 251 (by omega) (by omega) (by omega) (by omega)
  have e100 : IntKind.i64.wrap (r * x0) = r * x0 := IntWalk.i64_in _ (by omega)
  have e101 : IntKind.i64.wrap (r * x0 - u0) = r * x0 - u0 := IntWalk.i64_in _ (by omega)
  have e102 : IntKind.i64.wrap (x1 - u1) = x1 - u1 := IntWalk.i64_in _ (by omega)
  have e103 : IntKind.i64.wrap (r * x2) = r * x2 := IntWalk.i64_in _ (by omega)
  have e104 : IntKind.i64.wrap (r * x2 - u2) = r * x2 - u2 := IntWalk.i64_in _ (by omega)
  have e105 : IntKind.i64.wrap (Q * u0) = Q * u0 := IntWalk.i64_in _ (by omega)
  have e106 : IntKind.i64.wrap (r * x2 - u2 - Q * u0) = r * x2 - u2 - Q * u0 := IntWalk.i64_in _ (by omega)
  have e107 : IntKind.i64.wrap (O * u1) = O * u1 := IntWalk.i64_in _ (by omega)
  have e108 : IntKind.i64.wrap (r * x2 - u2 - Q * u0 - O * u1) = r * x2 - u2 - Q * u0 - O * u1 := IntWalk.i64_in _ (by omega)
  have e109 : IntKind.i64.wrap (Q * O) = Q * O := IntWalk.i64_in _ (by omega)
  have e110 : IntKind.i64.wrap (r * x2 - u2 - Q * u0 - O * u1 - Q * O) = r * x2 - u2 - Q * u0 - O * u1 - Q * O := IntWalk.i64_in _ (by omega)
  have HE : Hid (decide ((r * x2 - u2 - Q * u0 - O * u1 - Q * O) % p = 0) = decide (chkV p x0 x1 x2 u0 u1 u2 r % p = 0)) := by
    show _ = _; unfold chkV; rw [HO.out, HQ.out, ← HO2.out, ← HQ2.out]
  obtain ⟨rfl, b, off, rfl, c0, c1, c2⟩ := i0.three
  obtain ⟨rfl, b', off', rfl, d0, d1, d2⟩ := i1.three
  clear i0 i1
  go_enter Try.func51, Try.ntmps51
  go_wp2
  go_quiet ((go_at_call 59; first | exact Calls.quiet_of_same ((s_btMod _ _ _ (by omega) (by omega) (by omega) (by omega)).mono fun _ _ h => ⟨h.1, h.2.symm⟩) | (go_simp; exact quiet_add_left (s_btMod _ _ _ (by omega) (by omega) (by omega) (by omega))) | exact quiet_add_left (s_btMod _ _ _ (by omega) (by omega) (by omega) (by omega))))
  simp only [← HO2.out]
  go_wp2
  go_quiet ((go_at_call 59; first | exact Calls.quiet_of_same ((s_btMod _ _ _ (by omega) (by omega) (by omega) (by omega)).mono fun _ _ h => ⟨h.1, h.2.symm⟩) | (go_simp; exact quiet_add_left (s_btMod _ _ _ (by omega) (by omega) (by omega) (by omega))) | exact quiet_add_left (s_btMod _ _ _ (by omega) (by omega) (by omega) (by omega))))
  simp only [← HQ2.out]
  go_wp2
  go_quiet ((go_at_call 59; first | exact Calls.quiet_of_same ((s_btMod _ _ _ (by omega) (by omega) (by omega) (by omega)).mono fun _ _ h => ⟨h.1, h.2.symm⟩) | (go_simp; exact quiet_add_left (s_btMod _ _ _ (by omega) (by omega) (by omega) (by omega))) | exact quiet_add_left (s_btMod _ _ _ (by omega) (by omega) (by omega) (by omega))))
  go_wp2
  go_ret
  exact ⟨by first | rfl | exact (ret_bool HE.out) | (refine ret_bool (Eq.trans ?_ HE.out); rw [Bool.eq_iff_iff]; simp), by (repeat (first | exact Below.refl _ _ | assumption | refine bel_trans ?_ (bel_alloc _ _) | refine bel_set ?_ (by first | (dsimp only; omega) | (simp; omega) | simp) _ | refine bel_trans ?_ (bel_drewN _ _) | refine bel_trans ?_ (bel_drew _) | refine bel_trans ?_ (by assumption)))⟩
set_option maxHeartbeats 1000000 in
theorem s_trFour (p : Int) (a0 : Option Addr) (n0 cap0 : Nat) (a1 : Option Addr) (n1 cap1 : Nat) (a2 : Option Addr) (n2 cap2 : Nat) (a3 : Option Addr) (n3 cap3 : Nat) (zs zt zu zv : List Int) (w : World) (i0 : Ints w a0 n0 cap0 zs) (i1 : Ints w a1 n1 cap1 zt) (i2 : Ints w a2 n2 cap2 zu) (i3 : Ints w a3 n3 cap3 zv) :
    Calls Try.prog 50 #[.int .i64 p, .slice a0 n0 cap0, .slice a1 n1 cap1, .slice a2 n2 cap2, .slice a3 n3 cap3] w fun e w' => e = .returned (.bool (fourB p zs zt zu zv)) ∧ w = w' := by
  unfold fourB
  cases h0 : lnB p zs 3 with
  | false =>
    go_enter Try.func50, Try.ntmps50
    go_wp2_with (go_at_call 55; refine (s_trShares _ _ _ _ _ _ (by assumption)).mono ?_; rintro e w' ⟨rfl, rfl⟩)
    go_ret
    exact ⟨rfl, rfl⟩
  | true =>
    cases h1 : lnB p zt 3 with
    | false =>
      go_enter Try.func50, Try.ntmps50
      go_wp2_with (go_at_call 55; refine (s_trShares _ _ _ _ _ _ (by assumption)).mono ?_; rintro e w' ⟨rfl, rfl⟩)
      go_ret
      exact ⟨rfl, rfl⟩
    | true =>
      cases h2 : lnB p zu 3 with
      | false =>
        go_enter Try.func50, Try.ntmps50
        go_wp2_with (go_at_call 55; refine (s_trShares _ _ _ _ _ _ (by assumption)).mono ?_; rintro e w' ⟨rfl, rfl⟩)
        go_ret
        exact ⟨rfl, rfl⟩
      | true =>
        cases h3 : lnB p zv 3 with
        | false =>
          go_enter Try.func50, Try.ntmps50
          go_wp2_with (go_at_call 55; refine (s_trShares _ _ _ _ _ _ (by assumption)).mono ?_; rintro e w' ⟨rfl, rfl⟩)
          go_ret
          exact ⟨rfl, rfl⟩
        | true =>
          go_enter Try.func50, Try.ntmps50
          go_wp2_with (go_at_call 55; refine (s_trShares _ _ _ _ _ _ (by assumption)).mono ?_; rintro e w' ⟨rfl, rfl⟩)
          go_ret
          exact ⟨rfl, rfl⟩
set_option maxHeartbeats 4000000 in
theorem i_CheckTriple (p : Int) (a0 : Option Addr) (n0 cap0 : Nat) (zs : List Int) (a1 : Option Addr) (n1 cap1 : Nat) (zt : List Int) (a2 : Option Addr) (n2 cap2 : Nat) (zu : List Int) (a3 : Option Addr) (n3 cap3 : Nat) (zv : List Int) (r : Int) (w : World) (hp : Fits p) (i0 : Ints w a0 n0 cap0 zs) (i1 : Ints w a1 n1 cap1 zt) (i2 : Ints w a2 n2 cap2 zu) (i3 : Ints w a3 n3 cap3 zv) (hr : Fits r) :
    Calls Try.prog 25 #[.int .i64 p, .slice a0 n0 cap0, .slice a1 n1 cap1, .slice a2 n2 cap2, .slice a3 n3 cap3, .int .i64 r] w fun e w' => e = .returned (.tuple #[.bool (checkTriple p zs zt zu zv r).1, .bool (checkTriple p zs zt zu zv r).2]) ∧ Below w.heap.size w w' := by
  unfold checkTriple fourB
  cases h0 : lnB p zs 3 with
  | false =>
    go_enter Try.func25, Try.ntmps25
    go_wp2_with (first | (go_at_call 47; refine (i_isTripleShares _ _ _ _ _ _ (by assumption)).mono ?_; rintro e w' ⟨rfl, hb⟩; replace i0 := i0.below hb; replace i1 := i1.below hb; replace i2 := i2.below hb; replace i3 := i3.below hb) | (go_at_call 61; refine (i_isElement _ _ _).mono ?_; rintro e w' ⟨rfl, rfl⟩))
    go_ret2
    exact ⟨rfl, by (repeat (first | exact Below.refl _ _ | assumption | refine bel_trans ?_ (bel_alloc _ _) | refine bel_set ?_ (by first | (dsimp only; omega) | (simp; omega) | simp) _ | refine bel_trans ?_ (bel_drewN _ _) | refine bel_trans ?_ (bel_drew _) | refine bel_trans ?_ (by assumption)))⟩
  | true =>
    cases h1 : lnB p zt 3 with
    | false =>
      go_enter Try.func25, Try.ntmps25
      go_wp2_with (first | (go_at_call 47; refine (i_isTripleShares _ _ _ _ _ _ (by assumption)).mono ?_; rintro e w' ⟨rfl, hb⟩; replace i0 := i0.below hb; replace i1 := i1.below hb; replace i2 := i2.below hb; replace i3 := i3.below hb) | (go_at_call 61; refine (i_isElement _ _ _).mono ?_; rintro e w' ⟨rfl, rfl⟩))
      go_ret2
      exact ⟨rfl, by (repeat (first | exact Below.refl _ _ | assumption | refine bel_trans ?_ (bel_alloc _ _) | refine bel_set ?_ (by first | (dsimp only; omega) | (simp; omega) | simp) _ | refine bel_trans ?_ (bel_drewN _ _) | refine bel_trans ?_ (bel_drew _) | refine bel_trans ?_ (by assumption)))⟩
    | true =>
      cases h2 : lnB p zu 3 with
      | false =>
        go_enter Try.func25, Try.ntmps25
        go_wp2_with (first | (go_at_call 47; refine (i_isTripleShares _ _ _ _ _ _ (by assumption)).mono ?_; rintro e w' ⟨rfl, hb⟩; replace i0 := i0.below hb; replace i1 := i1.below hb; replace i2 := i2.below hb; replace i3 := i3.below hb) | (go_at_call 61; refine (i_isElement _ _ _).mono ?_; rintro e w' ⟨rfl, rfl⟩))
        go_ret2
        exact ⟨rfl, by (repeat (first | exact Below.refl _ _ | assumption | refine bel_trans ?_ (bel_alloc _ _) | refine bel_set ?_ (by first | (dsimp only; omega) | (simp; omega) | simp) _ | refine bel_trans ?_ (bel_drewN _ _) | refine bel_trans ?_ (bel_drew _) | refine bel_trans ?_ (by assumption)))⟩
      | true =>
        cases h3 : lnB p zv 3 with
        | false =>
          go_enter Try.func25, Try.ntmps25
          go_wp2_with (first | (go_at_call 47; refine (i_isTripleShares _ _ _ _ _ _ (by assumption)).mono ?_; rintro e w' ⟨rfl, hb⟩; replace i0 := i0.below hb; replace i1 := i1.below hb; replace i2 := i2.below hb; replace i3 := i3.below hb) | (go_at_call 61; refine (i_isElement _ _ _).mono ?_; rintro e w' ⟨rfl, rfl⟩))
          go_ret2
          exact ⟨rfl, by (repeat (first | exact Below.refl _ _ | assumption | refine bel_trans ?_ (bel_alloc _ _) | refine bel_set ?_ (by first | (dsimp only; omega) | (simp; omega) | simp) _ | refine bel_trans ?_ (bel_drewN _ _) | refine bel_trans ?_ (bel_drew _) | refine bel_trans ?_ (by assumption)))⟩
        | true =>
          cases h4 : elB p r with
          | false =>
            go_enter Try.func25, Try.ntmps25
            go_wp2_with (first | (go_at_call 47; refine (i_isTripleShares _ _ _ _ _ _ (by assumption)).mono ?_; rintro e w' ⟨rfl, hb⟩; replace i0 := i0.below hb; replace i1 := i1.below hb; replace i2 := i2.below hb; replace i3 := i3.below hb) | (go_at_call 61; refine (i_isElement _ _ _).mono ?_; rintro e w' ⟨rfl, rfl⟩))
            go_ret2
            exact ⟨rfl, by (repeat (first | exact Below.refl _ _ | assumption | refine bel_trans ?_ (bel_alloc _ _) | refine bel_set ?_ (by first | (dsimp only; omega) | (simp; omega) | simp) _ | refine bel_trans ?_ (bel_drewN _ _) | refine bel_trans ?_ (bel_drew _) | refine bel_trans ?_ (by assumption)))⟩
          | true =>
            obtain ⟨hp1, hp2⟩ := elB_p h4
            have hr2 := (elB_iff.1 h4).2
            obtain ⟨x0, x1, x2, rfl, ⟨xa, xb⟩, ⟨xc, xd⟩, ⟨xe, xf⟩⟩ := ln3 h0
            obtain ⟨y0, y1, y2, rfl, ⟨ya, yb⟩, ⟨yc, yd⟩, ⟨ye, yf⟩⟩ := ln3 h1
            obtain ⟨u0, u1, u2, rfl, ⟨ua, ub⟩, ⟨uc, ud⟩, ⟨ue, uf⟩⟩ := ln3 h2
            obtain ⟨v0, v1, v2, rfl, ⟨va, vb⟩, ⟨vc, vd⟩, ⟨ve, vf⟩⟩ := ln3 h3
            go_enter Try.func25, Try.ntmps25
            go_wp2_with (first | (go_at_call 47; refine (i_isTripleShares _ _ _ _ _ _ (by assumption)).mono ?_; rintro e w' ⟨rfl, hb⟩; replace i0 := i0.below hb; replace i1 := i1.below hb; replace i2 := i2.below hb; replace i3 := i3.below hb) | (go_at_call 61; refine (i_isElement _ _ _).mono ?_; rintro e w' ⟨rfl, rfl⟩) | (go_at_call 49; refine (i_checked _ _ _ _ _ _ _ _ _ _ _ _ _ x0 x1 x2 y0 y1 y2 u0 u1 u2 v0 v1 v2 _ _ (by assumption) (by assumption) (by assumption) (by assumption) ⟨hp1, hp2⟩ ⟨⟨by omega, by omega⟩, ⟨by omega, by omega⟩, ⟨by omega, by omega⟩⟩ ⟨⟨by omega, by omega⟩, ⟨by omega, by omega⟩, ⟨by omega, by omega⟩⟩ ⟨⟨by omega, by omega⟩, ⟨by omega, by omega⟩, ⟨by omega, by omega⟩⟩ ⟨⟨by omega, by omega⟩, ⟨by omega, by omega⟩, ⟨by omega, by omega⟩⟩ ⟨by omega, by omega⟩).mono ?_; rintro e w' ⟨rfl, hb⟩))
            go_ret2
            exact ⟨by first | rfl | (simp; done), by (repeat (first | exact Below.refl _ _ | assumption | refine bel_trans ?_ (bel_alloc _ _) | refine bel_set ?_ (by first | (dsimp only; omega) | (simp; omega) | simp) _ | refine bel_trans ?_ (bel_drewN _ _) | refine bel_trans ?_ (bel_drew _) | refine bel_trans ?_ (by assumption)))⟩
set_option maxHeartbeats 4000000 in
theorem s_CheckTriple (p : Int) (a0 : Option Addr) (n0 cap0 : Nat) (zs : List Int) (a1 : Option Addr) (n1 cap1 : Nat) (zt : List Int) (a2 : Option Addr) (n2 cap2 : Nat) (zu : List Int) (a3 : Option Addr) (n3 cap3 : Nat) (zv : List Int) (r : Int) (w : World) (hp : Fits p) (i0 : Ints w a0 n0 cap0 zs) (i1 : Ints w a1 n1 cap1 zt) (i2 : Ints w a2 n2 cap2 zu) (i3 : Ints w a3 n3 cap3 zv) (hr : Fits r) :
    Calls Try.prog 26 #[.int .i64 p, .slice a0 n0 cap0, .slice a1 n1 cap1, .slice a2 n2 cap2, .slice a3 n3 cap3, .int .i64 r] w fun e w' => e = .returned (.tuple #[.bool (checkTriple p zs zt zu zv r).1, .bool (checkTriple p zs zt zu zv r).2]) ∧ Below w.heap.size w w' := by
  have hV : (fourB p zs zt zu zv && elB p r) = (fourB p zs zt zu zv && inB r 0 (p - 1)) := by
    cases hf : fourB p zs zt zu zv with
    | false => rfl
    | true =>
      unfold elB
      rw [Bool.true_and, Bool.true_and]
      have h0 := (Bool.and_eq_true_iff.1 hf).1
      have : prB p = true := (Bool.and_eq_true_iff.1 (lnB_iff.1 h0).1).1
      rw [this, Bool.true_and]
  unfold checkTriple; rw [hV]; clear hV
  cases h0 : fourB p zs zt zu zv with
  | false =>
    have hpp : fourB p zs zt zu zv = true → 2 ≤ p ∧ p ≤ 251 := fun hf => lnB_p (Bool.and_eq_true_iff.1 hf).1
    have hp1 : fourB p zs zt zu zv = true → 2 ≤ p := fun h => (hpp h).1
    have hp2 : fourB p zs zt zu zv = true → p ≤ 251 := fun h => (hpp h).2
    clear hpp
    try (replace hp1 := hp1 h0; replace hp2 := hp2 h0)
    go_enter Try.func26, Try.ntmps26
    go_wp2_with (first | (go_at_call 50; refine (s_trFour _ _ _ _ _ _ _ _ _ _ _ _ _ _ _ _ _ _ (by assumption) (by assumption) (by assumption) (by assumption)).mono ?_; rintro e w' ⟨rfl, rfl⟩) | (go_at_call 65; refine (s_l1In _ _ _ _).mono ?_; rintro e w' ⟨rfl, rfl⟩))
    go_ret2
    exact ⟨rfl, by (repeat (first | exact Below.refl _ _ | assumption | refine bel_trans ?_ (bel_alloc _ _) | refine bel_set ?_ (by first | (dsimp only; omega) | (simp; omega) | simp) _ | refine bel_trans ?_ (bel_drewN _ _) | refine bel_trans ?_ (bel_drew _) | refine bel_trans ?_ (by assumption)))⟩
  | true =>
    cases h4 : inB r 0 (p - 1) with
    | false =>
      have hpp : fourB p zs zt zu zv = true → 2 ≤ p ∧ p ≤ 251 := fun hf => lnB_p (Bool.and_eq_true_iff.1 hf).1
      have hp1 : fourB p zs zt zu zv = true → 2 ≤ p := fun h => (hpp h).1
      have hp2 : fourB p zs zt zu zv = true → p ≤ 251 := fun h => (hpp h).2
      clear hpp
      try (replace hp1 := hp1 h0; replace hp2 := hp2 h0)
      go_enter Try.func26, Try.ntmps26
      go_wp2_with (first | (go_at_call 50; refine (s_trFour _ _ _ _ _ _ _ _ _ _ _ _ _ _ _ _ _ _ (by assumption) (by assumption) (by assumption) (by assumption)).mono ?_; rintro e w' ⟨rfl, rfl⟩) | (go_at_call 65; refine (s_l1In _ _ _ _).mono ?_; rintro e w' ⟨rfl, rfl⟩))
      go_ret2
      exact ⟨rfl, by (repeat (first | exact Below.refl _ _ | assumption | refine bel_trans ?_ (bel_alloc _ _) | refine bel_set ?_ (by first | (dsimp only; omega) | (simp; omega) | simp) _ | refine bel_trans ?_ (bel_drewN _ _) | refine bel_trans ?_ (bel_drew _) | refine bel_trans ?_ (by assumption)))⟩
    | true =>
      have hf := h0
      obtain ⟨h0, hf⟩ := Bool.and_eq_true_iff.1 hf
      obtain ⟨h1, hf⟩ := Bool.and_eq_true_iff.1 hf
      obtain ⟨h2, h3⟩ := Bool.and_eq_true_iff.1 hf
      obtain ⟨hp1, hp2⟩ := lnB_p h3
      have hr2 := inB_iff.1 h4
      obtain ⟨x0, x1, x2, rfl, ⟨xa, xb⟩, ⟨xc, xd⟩, ⟨xe, xf⟩⟩ := ln3 h0
      obtain ⟨y0, y1, y2, rfl, ⟨ya, yb⟩, ⟨yc, yd⟩, ⟨ye, yf⟩⟩ := ln3 h1
      obtain ⟨u0, u1, u2, rfl, ⟨ua, ub⟩, ⟨uc, ud⟩, ⟨ue, uf⟩⟩ := ln3 h2
      obtain ⟨v0, v1, v2, rfl, ⟨va, vb⟩, ⟨vc, vd⟩, ⟨ve, vf⟩⟩ := ln3 h3
      obtain rfl : n0 = 3 := i0.three.1
      obtain rfl : n1 = 3 := i1.three.1
      obtain rfl : n2 = 3 := i2.three.1
      obtain rfl : n3 = 3 := i3.three.1
      have hxy : Hid (∀ i, i < 3 → -1000000 ≤ nth [x0, x1, x2] i ∧ 0 ≤ nth [x0, x1, x2] i + nth [y0, y1, y2] i ∧ nth [x0, x1, x2] i ≤ 1000000 ∧ nth [y0, y1, y2] i ≤ 1000000) := by
        intro i hi
        rcases (show i = 0 ∨ i = 1 ∨ i = 2 by omega) with rfl | rfl | rfl <;> simp [nth] <;> omega
      have huv : Hid (∀ i, i < 3 → -1000000 ≤ nth [u0, u1, u2] i ∧ 0 ≤ nth [u0, u1, u2] i + nth [v0, v1, v2] i ∧ nth [u0, u1, u2] i ≤ 1000000 ∧ nth [v0, v1, v2] i ≤ 1000000) := by
        intro i hi
        rcases (show i = 0 ∨ i = 1 ∨ i = 2 by omega) with rfl | rfl | rfl <;> simp [nth] <;> omega
      obtain ⟨xy0, xy0'⟩ := emod_bd (n := x0 + y0) (p := p) (by omega)
      obtain ⟨xy1, xy1'⟩ := emod_bd (n := x1 + y1) (p := p) (by omega)
      obtain ⟨xy2, xy2'⟩ := emod_bd (n := x2 + y2) (p := p) (by omega)
      obtain ⟨uv0, uv0'⟩ := emod_bd (n := u0 + v0) (p := p) (by omega)
      obtain ⟨uv1, uv1'⟩ := emod_bd (n := u1 + v1) (p := p) (by omega)
      obtain ⟨uv2, uv2'⟩ := emod_bd (n := u2 + v2) (p := p) (by omega)
      have HE : Hid (decide (chkV p ((x0 + y0) % p) ((x1 + y1) % p) ((x2 + y2) % p) ((u0 + v0) % p) ((u1 + v1) % p) ((u2 + v2) % p) r % p = 0) = chkB p [x0, x1, x2] [y0, y1, y2] [u0, u1, u2] [v0, v1, v2] r) := by
        show _ = decide (chkV p (x0 + y0) (x1 + y1) (x2 + y2) (u0 + v0) (u1 + v1) (u2 + v2) r % p = 0)
        rw [chkV_mod]
      go_enter Try.func26, Try.ntmps26
      go_wp2_with (first | (go_at_call 50; refine (s_trFour _ _ _ _ _ _ _ _ _ _ _ _ _ _ _ _ _ _ (by assumption) (by assumption) (by assumption) (by assumption)).mono ?_; rintro e w' ⟨rfl, rfl⟩) | (go_at_call 65; refine (s_l1In _ _ _ _).mono ?_; rintro e w' ⟨rfl, rfl⟩))
      refine (s_trSum _ _ _ _ _ _ _ [x0, x1, x2] [y0, y1, y2] _ i0 i1 ⟨hp1, hp2⟩ (by omega) (by omega) hxy).mono ?_; rintro e w1 ⟨ra, rc, rfl, hm1, hb1⟩
      have j1 : Ints w1 ra 3 rc [(x0 + y0) % p, (x1 + y1) % p, (x2 + y2) % p] := hm1.ints
      replace i2 := i2.below hb1; replace i3 := i3.below hb1
      go_wp2_with fail
      refine (s_trSum _ _ _ _ _ _ _ [u0, u1, u2] [v0, v1, v2] _ i2 i3 ⟨hp1, hp2⟩ (by omega) (by omega) huv).mono ?_; rintro e w2 ⟨qa, qc, rfl, hm2, hb2⟩
      have j2 : Ints w2 qa 3 qc [(u0 + v0) % p, (u1 + v1) % p, (u2 + v2) % p] := hm2.ints
      replace j1 := j1.below hb2
      go_wp2_with fail
      refine (s_trPasses _ _ _ _ _ _ _ _ _ _ _ _ _ _ _ j1 j2 ⟨hp1, hp2⟩ ⟨⟨by omega, by omega⟩, ⟨by omega, by omega⟩, ⟨by omega, by omega⟩⟩ ⟨⟨by omega, by omega⟩, ⟨by omega, by omega⟩, ⟨by omega, by omega⟩⟩ ⟨by omega, by omega⟩).mono ?_; rintro e w3 ⟨rfl, hb3⟩
      rw [HE.out]
      go_wp2
      go_ret2
      exact ⟨by first | rfl | (simp; done), by (repeat (first | exact Below.refl _ _ | assumption | refine bel_trans ?_ (bel_alloc _ _) | refine bel_set ?_ (by first | (dsimp only; omega) | (simp; omega) | simp) _ | refine bel_trans ?_ (bel_drewN _ _) | refine bel_trans ?_ (bel_drew _) | refine bel_trans ?_ (by assumption)))⟩
end Go.Proofs.Ytfandnakenpfnaa
