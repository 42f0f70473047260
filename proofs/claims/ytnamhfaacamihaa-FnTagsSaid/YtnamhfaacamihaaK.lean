/-
  Contracts of CheatingKeys, the program's and the reference's, and its law.
-/
import Derived.Test.YtnamhfaacamihaaU
import Derived.Test.YtnamhfaacamihaaT2
namespace Go.Proofs.Ytnamhfaacamihaa
open Go.RowKit
set_option linter.unusedVariables false
set_option linter.unusedSimpArgs false

/-- Two tags hold with one key. -/
def cheat (p v t v' t' d : Int) : Bool := decide ((t - v * d) % p = (t' - v' * d) % p)
/-- All such numbers below n. -/
def cheats (p v t v' t' : Int) : Nat → List Int
  | 0 => []
  | n + 1 => cheats p v t v' t' n ++ if cheat p v t v' t' n then [(n : Int)] else []
theorem cheats_fit (p v t v' t' : Int) (n : Nat) (hn : n ≤ 1000000) : ∀ x ∈ cheats p v t v' t' n, Fits x := by
  induction n with
  | zero => simp [cheats]
  | succ n ih =>
    intro x hx
    rw [cheats, List.mem_append] at hx
    rcases hx with hx | hx
    · exact ih (by omega) x hx
    · split at hx
      · simp at hx; subst hx; unfold Fits; omega
      · simp at hx
theorem cheats_len (p v t v' t' : Int) (n : Nat) : (cheats p v t v' t' n).length ≤ n := by
  induction n with
  | zero => simp [cheats]
  | succ n ih => rw [cheats, List.length_append]; split <;> simp <;> omega
theorem cheat_eq (p v t v' t' d : Int) : tagOk p d ((t - v * d) % p) v' t' = cheat p v t v' t' d := by
  unfold tagOk cheat
  rw [decide_eq_decide]
  have e : (v' * d + (t - v * d) % p - t') % p = ((t - v * d) - (t' - v' * d)) % p := by
    rw [show v' * d + (t - v * d) % p - t' = (t - v * d) % p - (t' - v' * d) by omega, Int.emod_sub_emod]
  rw [e, Int.emod_eq_emod_iff_emod_sub_eq_zero]
def cheatKeys (p v t v' t' : Int) : List Int × Bool := if elB p v && elB p t && (elB p v' && elB p t') then (cheats p v t v' t' p.toNat, true) else ([], false)
theorem cheatKeys_fit (p v t v' t' : Int) : ∀ x ∈ (cheatKeys p v t v' t').1, Fits x := by
  unfold cheatKeys
  split
  · rename_i h
    have hp := elB_p (Bool.and_eq_true_iff.1 (Bool.and_eq_true_iff.1 h).1).1
    exact cheats_fit _ _ _ _ _ _ (by omega)
  · simp
theorem cheatKeys_len (p v t v' t' : Int) : (cheatKeys p v t v' t').1.length ≤ 251 := by
  unfold cheatKeys
  split
  · rename_i h
    have hp := elB_p (Bool.and_eq_true_iff.1 (Bool.and_eq_true_iff.1 h).1).1
    have := cheats_len p v t v' t' p.toNat
    show (cheats p v t v' t' p.toNat).length ≤ 251
    omega
  · simp

set_option maxHeartbeats 1000000 in
theorem i_CheatingKeys (p v t v' t' : Int) (w : World) :
    Calls Try.prog 29 #[.int .i64 p, .agg #[.int .i64 v, .int .i64 t], .agg #[.int .i64 v', .int .i64 t']] w fun e w' =>
      ∃ r : Value, e = .returned (.tuple #[r, .bool (cheatKeys p v t v' t').2]) ∧ w'.ownsRow w.heap.size 3 1 r (cheatKeys p v t v' t').1.length (ivs (cheatKeys p v t v' t').1) ∧ Below w.heap.size w w' := by
  unfold cheatKeys
  cases h1 : (elB p v && elB p t) with
  | false =>
    go_enter Try.func29, Try.ntmps29
    go_wp2_with (go_at_call 56; refine (i_isTagged _ _ _ _).mono ?_; rintro e w' ⟨rfl, hb⟩; (first | (have H := boxes2 hb; obtain ⟨b0, b1⟩ := H) | (have H := And.intro (b0.on hb) (b1.on hb); clear b0 b1; obtain ⟨b0, b1⟩ := H)); have k0 := b0; obtain ⟨k00, k01, k02, k03⟩ := k0; have k1 := b1; obtain ⟨k10, k11, k12, k13⟩ := k1)
    go_ret2
    exact ⟨_, rfl, World.ownsRow_nil _ _ _ _, by (repeat (first | exact Below.refl _ _ | assumption | refine bel_trans ?_ (bel_alloc _ _) | refine bel_set ?_ (by first | (dsimp only; omega) | (simp; omega) | simp) _ | refine bel_trans ?_ (bel_drewN _ _) | refine bel_trans ?_ (bel_drew _) | refine bel_trans ?_ (by assumption)))⟩
  | true =>
    cases h2 : (elB p v' && elB p t') with
    | false =>
      go_enter Try.func29, Try.ntmps29
      go_wp2_with (go_at_call 56; refine (i_isTagged _ _ _ _).mono ?_; rintro e w' ⟨rfl, hb⟩; (first | (have H := boxes2 hb; obtain ⟨b0, b1⟩ := H) | (have H := And.intro (b0.on hb) (b1.on hb); clear b0 b1; obtain ⟨b0, b1⟩ := H)); have k0 := b0; obtain ⟨k00, k01, k02, k03⟩ := k0; have k1 := b1; obtain ⟨k10, k11, k12, k13⟩ := k1)
      go_ret2
      exact ⟨_, rfl, World.ownsRow_nil _ _ _ _, by (repeat (first | exact Below.refl _ _ | assumption | refine bel_trans ?_ (bel_alloc _ _) | refine bel_set ?_ (by first | (dsimp only; omega) | (simp; omega) | simp) _ | refine bel_trans ?_ (bel_drewN _ _) | refine bel_trans ?_ (bel_drew _) | refine bel_trans ?_ (by assumption)))⟩
    | true =>
      obtain ⟨hp1, hp2⟩ := elB_p (Bool.and_eq_true_iff.1 h1).1
      obtain ⟨hv1, hv2⟩ := (elB_iff.1 (Bool.and_eq_true_iff.1 h1).1).2
      obtain ⟨ht1, ht2⟩ := (elB_iff.1 (Bool.and_eq_true_iff.1 h1).2).2
      obtain ⟨hv3, hv4⟩ := (elB_iff.1 (Bool.and_eq_true_iff.1 h2).1).2
      obtain ⟨ht3, ht4⟩ := (elB_iff.1 (Bool.and_eq_true_iff.1 h2).2).2
      obtain ⟨q, rfl⟩ : ∃ q : Nat, p = q := ⟨p.toNat, by omega⟩
      go_enter Try.func29, Try.ntmps29
      go_wp2_with fail
      refine (i_isTagged _ _ _ _).mono ?_; rintro e w1 ⟨rfl, hb1⟩; have t1 := boxes2 hb1; obtain ⟨⟨k0, k1, k2, k3⟩, ⟨k4, k5, k6, k7⟩⟩ := t1
      have T1 : Two w.heap.size (.int .i64 v) (.int .i64 t) (.int .i64 v') (.int .i64 t') w1 := ⟨k0, k1, k4, k5, lt_of_cell k4⟩
      go_wp2_with fail
      refine (i_isTagged _ _ _ _).mono ?_; rintro e w2 ⟨rfl, hb2⟩
      have T2 := Lib.hid (Two.on T1 hb2); clear T1 k0 k1 k2 k3 k4 k5 k6 k7
      have B2 := Lib.hid (bel_trans (bel_trans (bel_alloc w _) (bel_alloc _ _)) (bel_trans hb1 hb2)); clear hb1 hb2
      go_wp2
      go_loopw [8, 22] (fun r i W => ∃ k : Nat, k ≤ q ∧ i = .int .i64 k ∧ Hid (W.ownsRow (w.heap.size + 2) 3 1 r (cheats q v t v' t' k).length (ivs (cheats q v t v' t' k))) ∧ Hid (Two w.heap.size (.int .i64 v) (.int .i64 t) (.int .i64 v') (.int .i64 t') W) ∧ Hid (Below w.heap.size w W)) (fun _ i _ => q - (intOf i).toNat)
      case atStart => exact ⟨0, by omega, rfl, (show Hid _ from World.ownsRow_lit w2 #[] 0 (by have := T2.out.2.2.2.2; omega) (by decide) rfl), (show Hid _ from Two.alloc T2.out _), (show Hid _ from bel_trans B2.out (bel_alloc _ _))⟩
      case round =>
        clear T2 B2
        obtain ⟨k, hk, rfl, HO, HT, HB⟩ := hrel
        by_cases hlt : k < q
        · obtain ⟨wo, rfl⟩ : ∃ wo : World, wo = wr := ⟨_, rfl⟩
          have hlti : (k : Int) < (q : Int) := by omega
          obtain ⟨m1, m2⟩ := mul_bd (a := v) (b := k) 251 251 (by omega) (by omega) (by omega) (by omega)
          have e1 : IntKind.i64.wrap (v * k) = v * k := IntWalk.i64_in _ (by omega)
          have e2 : IntKind.i64.wrap (t - v * k) = t - v * k := IntWalk.i64_in _ (by omega)
          obtain ⟨r1, r2⟩ := emod_bd (n := t - v * k) (p := q) (by omega)
          have HE := Lib.hid (cheat_eq q v t v' t' k)
          obtain ⟨k0, k1, k2, k3, k4⟩ := HT.out
          go_wp2_with fail
          go_region_held3 (fun W => W.cell? ⟨w.heap.size, 0, none⟩ = some (.int .i64 v) ∧ W.cell? ⟨w.heap.size, 1, none⟩ = some (.int .i64 t) ∧ W.cell? ⟨w.heap.size + 1, 0, none⟩ = some (.int .i64 v') ∧ W.cell? ⟨w.heap.size + 1, 1, none⟩ = some (.int .i64 t') ∧ w.heap.size + 1 < W.heap.size) (first | assumption | exact HT.out) (first | (go_at_call 60; refine (i_mod _ _ _ (by omega) (by omega) (by omega) (by omega)).mono ?_; rintro e w' ⟨rfl, rfl⟩) | (go_at_call 57; refine (i_holds _ _ _ _ _ _ ⟨by omega, by omega⟩ ⟨by omega, by omega⟩ ⟨by omega, by omega⟩ ⟨by omega, by omega⟩ ⟨by omega, by omega⟩).mono ?_; rintro e w3 ⟨rfl, hb3⟩; have h4 := Two.on (by assumption) hb3))
          rw [HE.out]
          have B3 := bel_trans (bel_drew wo) hb3
          have HB3 := Lib.hid (bel_trans HB.out B3)
          have HO3 := Lib.hid (ownsRow_below HO.out B3)
          have HT3 := Lib.hid h4
          have hz3 := h4.2.2.2.2
          clear HB HO HT HE hb3 h4 B3 k0 k1 k2 k3 k4
          have hcl := cheats_len q v t v' t' k
          cases hch : cheat q v t v' t' k with
          | false =>
            have HC : Hid (cheats q v t v' t' (k + 1) = cheats q v t v' t' k) := by show _ = _; rw [cheats, hch]; simp
            go_wp2
            go_roundw
            case rel => exact ⟨k + 1, by omega, by go_num, by rw [HC.out]; exact HO3, HT3, HB3⟩
            case measure => simp [intOf]; omega
          | true =>
            have HC : Hid (cheats q v t v' t' (k + 1) = cheats q v t v' t' k ++ [(k : Int)]) := by show _ = _; rw [cheats, hch]; simp
            go_wp2_with (at_builtin; refine wp_app w3 (w.heap.size + 2) _ _ _ k _ _ rfl _ _ rfl rfl rfl rfl HO3.out (by omega) (by omega) ?_; intro v9 w9 hv9 hb9 hg9)
            clear hg9
            go_roundw
            case rel => exact ⟨k + 1, by omega, by go_num, by rw [HC.out, List.length_append]; exact hv9, Two.onB HT3.out hb9 (by omega), HB3.out.trans (hb9.mono (by omega))⟩
            case measure => simp [intOf]; omega
        · obtain rfl : k = q := by omega
          have HF := Lib.hid (ownsRow_base HO.out (show w.heap.size ≤ w.heap.size + 2 by omega))
          clear HO
          go_wp2
          go_ret2
          exact ⟨_, rfl, by simpa using HF.out, HB.out⟩

set_option maxHeartbeats 1000000 in
theorem s_CheatingKeys (p v t v' t' : Int) (w : World) (fv : Fits v) (ft : Fits t) (fv' : Fits v') (ft' : Fits t') :
    Calls Try.prog 28 #[.int .i64 p, .agg #[.int .i64 v, .int .i64 t], .agg #[.int .i64 v', .int .i64 t']] w fun e w' =>
      ∃ r : Value, e = .returned (.tuple #[r, .bool (cheatKeys p v t v' t').2]) ∧ w'.ownsRow w.heap.size 3 1 r (cheatKeys p v t v' t').1.length (ivs (cheatKeys p v t v' t').1) ∧ Below w.heap.size w w' := by
  unfold cheatKeys
  cases h1 : (elB p v && elB p t) with
  | false =>
    go_enter Try.func28, Try.ntmps28
    go_wp2_with (go_at_call 53; refine (s_tgGood _ _ _ _ (by assumption) (by assumption)).mono ?_; rintro e w' ⟨rfl, hb⟩; (first | (have H := boxes2 hb; obtain ⟨b0, b1⟩ := H) | (have H := And.intro (b0.on hb) (b1.on hb); clear b0 b1; obtain ⟨b0, b1⟩ := H)); have k0 := b0; obtain ⟨k00, k01, k02, k03⟩ := k0; have k1 := b1; obtain ⟨k10, k11, k12, k13⟩ := k1)
    go_ret2
    exact ⟨_, rfl, World.ownsRow_nil _ _ _ _, by (repeat (first | exact Below.refl _ _ | assumption | refine bel_trans ?_ (bel_alloc _ _) | refine bel_set ?_ (by first | (dsimp only; omega) | (simp; omega) | simp) _ | refine bel_trans ?_ (bel_drewN _ _) | refine bel_trans ?_ (bel_drew _) | refine bel_trans ?_ (by assumption)))⟩
  | true =>
    cases h2 : (elB p v' && elB p t') with
    | false =>
      go_enter Try.func28, Try.ntmps28
      go_wp2_with fail
      refine (s_tgGood _ _ _ _ fv ft).mono ?_; rintro e w1 ⟨rfl, hb1⟩; have t1 := boxes2 hb1; obtain ⟨⟨k0, k1, k2, k3⟩, ⟨k4, k5, k6, k7⟩⟩ := t1
      go_wp2_with fail
      refine (s_tgGood _ _ _ _ fv' ft').mono ?_; rintro e w2 ⟨rfl, hb2⟩
      go_wp2
      go_ret2
      exact ⟨_, rfl, World.ownsRow_nil _ _ _ _, by (repeat (first | exact Below.refl _ _ | assumption | refine bel_trans ?_ (bel_alloc _ _) | refine bel_set ?_ (by first | (dsimp only; omega) | (simp; omega) | simp) _ | refine bel_trans ?_ (bel_drewN _ _) | refine bel_trans ?_ (bel_drew _) | refine bel_trans ?_ (by assumption)))⟩
    | true =>
      obtain ⟨hp1, hp2⟩ := elB_p (Bool.and_eq_true_iff.1 h1).1
      obtain ⟨hv1, hv2⟩ := (elB_iff.1 (Bool.and_eq_true_iff.1 h1).1).2
      obtain ⟨ht1, ht2⟩ := (elB_iff.1 (Bool.and_eq_true_iff.1 h1).2).2
      obtain ⟨hv3, hv4⟩ := (elB_iff.1 (Bool.and_eq_true_iff.1 h2).1).2
      obtain ⟨ht3, ht4⟩ := (elB_iff.1 (Bool.and_eq_true_iff.1 h2).2).2
      obtain ⟨q, rfl⟩ : ∃ q : Nat, p = q := ⟨p.toNat, by omega⟩
      go_enter Try.func28, Try.ntmps28
      go_wp2_with fail
      refine (s_tgGood _ _ _ _ fv ft).mono ?_; rintro e w1 ⟨rfl, hb1⟩; have t1 := boxes2 hb1; obtain ⟨⟨k0, k1, k2, k3⟩, ⟨k4, k5, k6, k7⟩⟩ := t1
      have T1 : Two w.heap.size (.int .i64 v) (.int .i64 t) (.int .i64 v') (.int .i64 t') w1 := ⟨k0, k1, k4, k5, lt_of_cell k4⟩
      go_wp2_with fail
      refine (s_tgGood _ _ _ _ fv' ft').mono ?_; rintro e w2 ⟨rfl, hb2⟩
      have T2 := Lib.hid (Two.on T1 hb2); clear T1 k0 k1 k2 k3 k4 k5 k6 k7
      have B2 := Lib.hid (bel_trans (bel_trans (bel_alloc w _) (bel_alloc _ _)) (bel_trans hb1 hb2)); clear hb1 hb2
      go_wp2
      go_loopw [8, 9] (fun r i W => ∃ k : Nat, k ≤ q ∧ i = .int .i64 k ∧ Hid (W.ownsRow (w.heap.size + 2) 3 1 r (cheats q v t v' t' k).length (ivs (cheats q v t v' t' k))) ∧ Hid (Two w.heap.size (.int .i64 v) (.int .i64 t) (.int .i64 v') (.int .i64 t') W) ∧ Hid (Below w.heap.size w W)) (fun _ i _ => q - (intOf i).toNat)
      case atStart => exact ⟨0, by omega, rfl, (show Hid _ from World.ownsRow_nil _ _ _ _), T2, B2⟩
      case round =>
        clear T2 B2
        obtain ⟨k, hk, rfl, HO, HT, HB⟩ := hrel
        by_cases hlt : k < q
        · obtain ⟨wo, rfl⟩ : ∃ wo : World, wo = wr := ⟨_, rfl⟩
          have hlti : (k : Int) < (q : Int) := by omega
          obtain ⟨m1, m2⟩ := mul_bd (a := v) (b := k) 251 251 (by omega) (by omega) (by omega) (by omega)
          obtain ⟨m3, m4⟩ := mul_bd (a := v') (b := k) 251 251 (by omega) (by omega) (by omega) (by omega)
          have e1 : IntKind.i64.wrap (v * k) = v * k := IntWalk.i64_in _ (by omega)
          have e2 : IntKind.i64.wrap (t - v * k) = t - v * k := IntWalk.i64_in _ (by omega)
          have e3 : IntKind.i64.wrap (v' * k) = v' * k := IntWalk.i64_in _ (by omega)
          have e4 : IntKind.i64.wrap (t' - v' * k) = t' - v' * k := IntWalk.i64_in _ (by omega)
          obtain ⟨k0, k1, k2, k3, k4⟩ := HT.out
          have hcl := cheats_len q v t v' t' k
          have hz3 := k4
          cases hch : cheat q v t v' t' k with
          | false =>
            have HC : Hid (cheats q v t v' t' (k + 1) = cheats q v t v' t' k) := by show _ = _; rw [cheats, hch]; simp
            have hd : ((t - v * k) % (q : Int) == (t' - v' * k) % (q : Int)) = false := by
              rw [← hch]; unfold cheat; rw [Bool.eq_iff_iff]; simp
            go_wp2_with fail
            go_quiet ((go_at_call 58; exact Calls.quiet_of_same ((s_btMod _ _ _ (by omega) (by omega) (by omega) (by omega)).mono fun _ _ h => ⟨h.1, h.2.symm⟩)))
            go_wp2
            go_roundw
            case rel => exact ⟨k + 1, by omega, by go_num, by rw [HC.out]; exact HO, HT, (show Hid _ from below_drewN HB.out _)⟩
            case measure => simp [intOf]; omega
          | true =>
            have HC : Hid (cheats q v t v' t' (k + 1) = cheats q v t v' t' k ++ [(k : Int)]) := by show _ = _; rw [cheats, hch]; simp
            have hd : ((t - v * k) % (q : Int) == (t' - v' * k) % (q : Int)) = true := by
              rw [← hch]; unfold cheat; rw [Bool.eq_iff_iff]; simp
            go_wp2_with fail
            go_quiet ((go_at_call 58; exact Calls.quiet_of_same ((s_btMod _ _ _ (by omega) (by omega) (by omega) (by omega)).mono fun _ _ h => ⟨h.1, h.2.symm⟩)))
            have HO3 := Lib.hid (ownsRow_below HO.out (bel_drewN wo nq))
            have HT3 := Lib.hid (Two.on HT.out (bel_drewN wo nq))
            have HB3 := Lib.hid (bel_trans HB.out (bel_drewN wo nq))
            have hz4 : w.heap.size + 1 < (wo.drewN nq).heap.size := hz3
            clear HO HT HB k0 k1 k2 k3 k4 hz3 hch hd
            generalize wo.drewN nq = w3 at *
            go_wp2_with (at_builtin; refine wp_app w3 (w.heap.size + 2) _ _ _ k _ _ rfl _ _ rfl rfl rfl rfl HO3.out (by omega) (by omega) ?_; intro v9 w9 hv9 hb9 hg9)
            clear hg9
            go_roundw
            case rel => exact ⟨k + 1, by omega, by go_num, by rw [HC.out, List.length_append]; exact hv9, Two.onB HT3.out hb9 (by omega), HB3.out.trans (hb9.mono (by omega))⟩
            case measure => simp [intOf]; omega
        · obtain rfl : k = q := by omega
          have HF := Lib.hid (ownsRow_base HO.out (show w.heap.size ≤ w.heap.size + 2 by omega))
          clear HO
          go_wp2
          go_ret2
          exact ⟨_, rfl, by simpa using HF.out, HB.out⟩

set_option maxHeartbeats 2000000 in
theorem law_FnExactCheatingKeys (p v t v' t' : Int) (w : World) (hp : Fits p) (hv : Fits v) (ht : Fits t) (hv' : Fits v') (ht' : Fits t') :
    Calls Try.prog 9 #[.int .i64 p, .agg #[.int .i64 v, .int .i64 t], .agg #[.int .i64 v', .int .i64 t']] w fun e w' => e = .returned (.bool true) ∧ Below w.heap.size w w' := by
  have hcf := cheatKeys_fit p v t v' t'
  have hcl := cheatKeys_len p v t v' t'
  obtain ⟨xs, hxs⟩ : ∃ xs, xs = (cheatKeys p v t v' t').1 := ⟨_, rfl⟩
  obtain ⟨ok, hok⟩ : ∃ ok, ok = (cheatKeys p v t v' t').2 := ⟨_, rfl⟩
  have HS := fun (W : World) => s_CheatingKeys p v t v' t' W hv ht hv' ht'
  have HI := fun (W : World) => i_CheatingKeys p v t v' t' W
  rw [← hxs] at hcf hcl
  simp only [← hxs, ← hok] at HS HI
  have HS := Lib.hid HS; have HI := Lib.hid HI; have HCF := Lib.hid hcf
  clear hcf hxs hok
  go_enter Try.func9, Try.ntmps9
  go_wp2_with fail
  go_region_held3 (fun W => W.cell? ⟨w.heap.size, 0, none⟩ = some (.int .i64 v) ∧ W.cell? ⟨w.heap.size, 1, none⟩ = some (.int .i64 t) ∧ W.cell? ⟨w.heap.size + 1, 0, none⟩ = some (.int .i64 v') ∧ W.cell? ⟨w.heap.size + 1, 1, none⟩ = some (.int .i64 t') ∧ w.heap.size + 1 < W.heap.size) (first | assumption | (simp [go_sem]; done)) (first | (go_at_call 15; refine (l_toTagged _ _ _).mono ?_; rintro e w1 ⟨rfl, hb⟩; have h4 := Two.on (by assumption) hb; have hz := hb.size) | (go_at_call 28; refine (HS.out _).mono ?_; rintro e w2 ⟨r2, rfl, ho2, hb⟩; have h4 := Two.on (by assumption) hb; have hz := hb.size))
  obtain ⟨a0, c0, hr, o0⟩ := OwnI.of ho2 (by omega) HCF.out
  subst hr
  have hT2 := h4
  have b02 : Below w.heap.size w w2 := by (repeat (first | exact Below.refl _ _ | assumption | refine bel_trans ?_ (bel_alloc _ _) | refine bel_set ?_ (by first | (dsimp only; omega) | (simp; omega) | simp) _ | refine bel_trans ?_ (bel_drewN _ _) | refine bel_trans ?_ (bel_drew _) | refine bel_trans ?_ (by assumption)))
  clear ho2 h4
  go_wp2_with fail
  go_region_held3 (fun W => W.cell? ⟨w.heap.size, 0, none⟩ = some (.int .i64 v) ∧ W.cell? ⟨w.heap.size, 1, none⟩ = some (.int .i64 t) ∧ W.cell? ⟨w.heap.size + 1, 0, none⟩ = some (.int .i64 v') ∧ W.cell? ⟨w.heap.size + 1, 1, none⟩ = some (.int .i64 t') ∧ w.heap.size + 1 < W.heap.size) (first | assumption | exact hT2) (first | (go_at_call 15; refine (l_toTagged _ _ _).mono ?_; rintro e w1 ⟨rfl, hb⟩; have h4 := Two.on (by assumption) hb; have hz := hb.size) | (go_at_call 29; refine (HI.out _).mono ?_; rintro e w3 ⟨r3, rfl, ho3, hb⟩; have h4 := Two.on (by assumption) hb; have hz := hb.size))
  obtain ⟨a1, c1, hr, o1⟩ := OwnI.of ho3 (by omega) HCF.out
  subst hr
  have hT3 := h4
  have b23 : Below w2.heap.size w2 w3 := by (repeat (first | exact Below.refl _ _ | assumption | refine bel_trans ?_ (bel_alloc _ _) | refine bel_set ?_ (by first | (dsimp only; omega) | (simp; omega) | simp) _ | refine bel_trans ?_ (bel_drewN _ _) | refine bel_trans ?_ (bel_drew _) | refine bel_trans ?_ (by assumption)))
  have o1' := o1.base (B' := w2.heap.size) (by simp only [size_drew'] at *; omega)
  have hsz := hT2.2.2.2.2
  clear ho3 h4 o1
  go_wp2_with fail
  refine (l_eqIntS _ _ _ _ _ xs _ o1'.ints (o0.ints.below b23)).mono ?_; rintro e w4 ⟨rfl, hb4⟩
  have b24 := bel_trans b23 hb4
  have o4 := o1'.below hb4
  go_wp2_with fail
  refine (l_markIntS _ _ _ w2.heap.size xs 1 _ o4 (by omega) (by omega)).mono ?_; rintro e w5 ⟨rfl, o5, hb5⟩
  have b25 := b24.trans hb5
  have hT5 := Two.onB (Two.on hT3 hb4) hb5 (by omega)
  have HO5 := Lib.hid o5
  clear o4 o1' o5
  go_wp2_with fail
  refine (l_heldIntS _ _ _ 1 _ HO5.out.ints (by omega) (by omega)).mono ?_; rintro e w6 ⟨rfl, rfl⟩
  go_wp2_with fail
  go_region_held3 (fun W => W.cell? ⟨w.heap.size, 0, none⟩ = some (.int .i64 v) ∧ W.cell? ⟨w.heap.size, 1, none⟩ = some (.int .i64 t) ∧ W.cell? ⟨w.heap.size + 1, 0, none⟩ = some (.int .i64 v') ∧ W.cell? ⟨w.heap.size + 1, 1, none⟩ = some (.int .i64 t') ∧ w.heap.size + 1 < W.heap.size) (first | assumption | exact hT5) (first | (go_at_call 15; refine (l_toTagged _ _ _).mono ?_; rintro e w1 ⟨rfl, hb⟩; have h4 := Two.on (by assumption) hb; have hz := hb.size) | (go_at_call 29; refine (HI.out _).mono ?_; rintro e w7 ⟨r7, rfl, ho7, hb⟩; have h4 := Two.on (by assumption) hb; have hz := hb.size))
  obtain ⟨a2, c2, hr, o7⟩ := OwnI.of ho7 (by omega) HCF.out
  subst hr
  have b57 : Below w5.heap.size w5 w7 := by (repeat (first | exact Below.refl _ _ | assumption | refine bel_trans ?_ (bel_alloc _ _) | refine bel_set ?_ (by first | (dsimp only; omega) | (simp; omega) | simp) _ | refine bel_trans ?_ (bel_drewN _ _) | refine bel_trans ?_ (bel_drew _) | refine bel_trans ?_ (by assumption)))
  have b27 : Below w2.heap.size w2 w7 := bel_trans b25 b57
  clear ho7 h4
  go_wp2_with fail
  refine (l_eqIntS _ _ _ _ _ xs _ o7.ints (o0.ints.below b27)).mono ?_; rintro e w8 ⟨rfl, hb8⟩
  go_wp2_with fail
  refine (l_heldIntS _ _ _ 1 _ (HO5.out.ints.below (bel_trans b57 hb8)) (by omega) (by omega)).mono ?_; rintro e w9 ⟨rfl, rfl⟩
  go_wp2
  go_ret
  exact ⟨rfl, bel_trans (bel_trans b02 b27) hb8⟩
end Go.Proofs.Ytnamhfaacamihaa
