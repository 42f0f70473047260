/-
  RefreshHolders, both ways.
-/
import Derived.Test.YtfichpppjpgahaaHf
namespace Go.Proofs.Ytfichpppjpgahaa
open Go.RowKit
set_option linter.unusedVariables false
set_option linter.unusedSimpArgs false
set_option maxRecDepth 20000

def keyB (key : Int) : Bool := inB key 0 1000000000
theorem keyB_iff {key : Int} : keyB key = true ↔ 0 ≤ key ∧ key ≤ 1000000000 := inB_iff
set_option maxHeartbeats 400000 in
theorem i_isKey (x : Int) (w : World) : Calls Try.prog 124 #[.int .i64 x] w fun e w' => e = .returned (.bool (keyB x)) ∧ w = w' := by
  go_enter Try.func124, Try.ntmps124
  go_wp2_with (go_at_call 64; refine (i_within _ _ _ _).mono ?_; rintro e w' ⟨rfl, rfl⟩)
  go_ret
  exact ⟨rfl, rfl⟩
set_option maxHeartbeats 400000 in
theorem s_otKey (x : Int) (w : World) : Calls Try.prog 84 #[.int .i64 x] w fun e w' => e = .returned (.bool (keyB x)) ∧ w = w' := by
  go_enter Try.func84, Try.ntmps84
  go_wp2_with (go_at_call 57; refine (s_l1In _ _ _ _).mono ?_; rintro e w' ⟨rfl, rfl⟩)
  go_ret
  exact ⟨rfl, rfl⟩
/-- As many holders as there can be, a threshold. -/
def thB (p : Int) (n : Nat) (t : Int) : Bool := prB p && (inB n 1 10 && (decide ((n : Int) < p) && inB t 1 n))
def zerosL (p key : Int) (n : Nat) (t : Int) : List Int := spL p (cfL p key 0 (t.toNat - 1)) n
def refreshHolders (p key : Int) (ys : List Int) (t : Int) : List Int × Bool := if thB p ys.length t && (keyB key && elsB p ys) then (suL p ys (zerosL p key ys.length t) ys.length, true) else ([], false)
theorem thB_iff {p : Int} {n : Nat} {t : Int} : thB p n t = true ↔ prB p = true ∧ (1 ≤ n ∧ n ≤ 10) ∧ (n : Int) < p ∧ 1 ≤ t ∧ t ≤ n := by
  unfold thB
  simp only [Bool.and_eq_true, inB_iff, decide_eq_true_iff]
  constructor
  · rintro ⟨h1, h2, h3, h4⟩; exact ⟨h1, by omega, h3, h4⟩
  · rintro ⟨h1, h2, h3, h4⟩; exact ⟨h1, by omega, h3, h4⟩
def splitZero (p key : Int) (n : Nat) (t : Int) : List Int × Bool := if thB p n t && keyB key then (zerosL p key n t, true) else ([], false)
set_option maxHeartbeats 2000000 in
theorem i_SplitThreshold (p key t : Int) (n : Nat) (w : World) (hn : n ≤ 100000) (hpf : -1000 ≤ p ∧ p ≤ 1000) :
    Calls Try.prog 81 #[.int .i64 p, .int .i64 key, .int .i64 0, .int .i64 n, .int .i64 t] w (SliceOk (splitZero p key n t).1 (splitZero p key n t).2 w) := by
  obtain ⟨hpf1, hpf2⟩ := hpf
  have e1 : IntKind.i64.wrap (p - 1) = p - 1 := IntWalk.i64_in _ (by omega)
  have HE := Lib.hid (fun W => i_isElement p 0 W)
  have HK := Lib.hid (fun W => i_isKey key W)
  have HN := Lib.hid (fun W x => i_within (n : Int) 1 x W)
  have HT := Lib.hid (fun W => i_within t 1 (n : Int) W)
  have tok : True := trivial
  unfold splitZero
  cases hp : prB p with
  | false =>
    have hel : elB p 0 = false := by unfold elB; rw [hp]; rfl
    have hth : thB p n t = false := by unfold thB; rw [hp]; rfl
    rw [hel] at HE
    rw [hth]
    clear hel hth
    go_enter Try.func81, Try.ntmps81
    go_wp2_with (go_at_call 53; refine (HE.out _).mono ?_; rintro e w1 ⟨rfl, rfl⟩)
    go_ret2
    exact ⟨_, _, rfl, Mine.nil, Below.refl _ _⟩
  | true =>
    obtain ⟨hp1, hp2⟩ := prB_lo hp
    have hel : elB p 0 = true := elB_iff.2 ⟨hp, by omega⟩
    rw [hel] at HE
    clear hel
    cases hk : keyB key with
    | false =>
      rw [hk] at HK
      rw [Bool.and_false]
      go_enter Try.func81, Try.ntmps81
      go_wp2_with (first | (go_at_call 53; refine (HE.out _).mono ?_; rintro e w1 ⟨rfl, rfl⟩) | (go_at_call 124; refine (HK.out _).mono ?_; rintro e w1 ⟨rfl, rfl⟩))
      go_ret2
      exact ⟨_, _, rfl, Mine.nil, Below.refl _ _⟩
    | true =>
      rw [hk] at HK
      rw [Bool.and_true]
      by_cases h10 : 10 ≤ p - 1
      all_goals
        by_cases hn1 : 1 ≤ n ∧ (n : Int) ≤ min 10 (p - 1)
        · have hin : ∀ x, x = min 10 (p - 1) → inB n 1 x = true := fun x hx => inB_iff.2 (by omega)
          have hin2 : inB n 1 (min 10 (p - 1)) = true := hin _ rfl
          cases ht : inB t 1 (n : Int) with
          | false =>
            rw [ht] at HT
            have hth : thB p n t = false := by unfold thB; rw [ht]; cases prB p <;> cases inB (n : Int) 1 10 <;> cases decide ((n : Int) < p) <;> rfl
            rw [hth]
            have HNN : Hid (∀ W x, x = min 10 (p - 1) → Calls Try.prog 64 #[.int .i64 n, .int .i64 1, .int .i64 x] W fun e w' => e = .returned (.bool true) ∧ W = w') := fun W x hx => by have := HN.out W x; rw [hx, hin2] at this; rw [hx]; exact this
            clear hth hin hin2 HN
            go_enter Try.func81, Try.ntmps81
            go_wp2_with (first | (go_at_call 53; refine (HE.out _).mono ?_; rintro e w1 ⟨rfl, rfl⟩) | (go_at_call 124; refine (HK.out _).mono ?_; rintro e w1 ⟨rfl, rfl⟩) | (go_at_call 64; first | (have t0 := tok; clear t0 tok; refine (HNN.out _ _ (by first | rfl | omega | (split <;> omega) | (simp; omega))).mono ?_; rintro e w1 ⟨rfl, rfl⟩) | (refine (HT.out _).mono ?_; rintro e w1 ⟨rfl, rfl⟩)))
            go_ret2
            exact ⟨_, _, rfl, Mine.nil, Below.refl _ _⟩
          | true =>
            rw [ht] at HT
            obtain ⟨t1, t2⟩ := inB_iff.1 ht
            have hth : thB p n t = true := thB_iff.2 ⟨hp, by omega, by omega, t1, t2⟩
            rw [hth, if_pos rfl]
            have HNN : Hid (∀ W x, x = min 10 (p - 1) → Calls Try.prog 64 #[.int .i64 n, .int .i64 1, .int .i64 x] W fun e w' => e = .returned (.bool true) ∧ W = w') := fun W x hx => by have := HN.out W x; rw [hx, hin2] at this; rw [hx]; exact this
            obtain ⟨k1, k2⟩ := keyB_iff.1 hk
            have HS := Lib.hid (fun W => i_splitThreshold p key 0 n (t.toNat - 1) W ⟨hp1, hp2⟩ ⟨k1, k2⟩ (by omega) (by omega) (by omega) t (by omega))
            have HZ := Lib.hid (show (zerosL p key n t).length = n from spL_len _ _ _)
            have HS2 : Hid (∀ W, Calls Try.prog 125 #[.int .i64 p, .int .i64 key, .int .i64 0, .int .i64 n, .int .i64 t] W fun e w' => ∃ r c, e = .returned (.slice r n c) ∧ Mine w' W.heap.size r n c (zerosL p key n t) ∧ Below W.heap.size W w') := HS.out
            clear hth hin hin2 HN HS
            go_enter Try.func81, Try.ntmps81
            go_wp2_with (first | (go_at_call 53; refine (HE.out _).mono ?_; rintro e w1 ⟨rfl, rfl⟩) | (go_at_call 124; refine (HK.out _).mono ?_; rintro e w1 ⟨rfl, rfl⟩) | (go_at_call 64; first | (have t0 := tok; clear t0 tok; refine (HNN.out _ _ (by first | rfl | omega | (split <;> omega) | (simp; omega))).mono ?_; rintro e w1 ⟨rfl, rfl⟩) | (refine (HT.out _).mono ?_; rintro e w1 ⟨rfl, rfl⟩)) | (go_at_call 125; refine (HS2.out _).mono ?_; rintro e w1 ⟨r, c, rfl, hm, hb⟩))
            go_ret2
            exact ⟨_, _, by rw [HZ.out]; rfl, by rw [HZ.out]; exact hm, hb⟩
        · have hin2 : inB n 1 (min 10 (p - 1)) = false := inB_no.2 (fun q => hn1 (by omega))
          have hth : thB p n t = false := by
            cases h : thB p n t with
            | false => rfl
            | true =>
              obtain ⟨_, _, _, _, _⟩ := thB_iff.1 h
              exact absurd (by omega) hn1
          rw [hth]
          have HNN : Hid (∀ W x, x = min 10 (p - 1) → Calls Try.prog 64 #[.int .i64 n, .int .i64 1, .int .i64 x] W fun e w' => e = .returned (.bool false) ∧ W = w') := fun W x hx => by have := HN.out W x; rw [hx, hin2] at this; rw [hx]; exact this
          clear hth hin2 HN hn1
          go_enter Try.func81, Try.ntmps81
          go_wp2_with (first | (go_at_call 53; refine (HE.out _).mono ?_; rintro e w1 ⟨rfl, rfl⟩) | (go_at_call 124; refine (HK.out _).mono ?_; rintro e w1 ⟨rfl, rfl⟩) | (go_at_call 64; refine (HNN.out _ _ (by first | rfl | omega | (split <;> omega) | (simp; omega))).mono ?_; rintro e w1 ⟨rfl, rfl⟩))
          go_ret2
          exact ⟨_, _, rfl, Mine.nil, Below.refl _ _⟩
theorem refresh_add {p key : Int} {ys : List Int} {t : Int} (h : (thB p ys.length t && keyB key) = true) : addHolders p ys (zerosL p key ys.length t) = refreshHolders p key ys t := by
  rw [Bool.and_eq_true] at h
  obtain ⟨h1, h2⟩ := h
  obtain ⟨hp, hn, hnp, ht1, ht2⟩ := thB_iff.1 h1
  obtain ⟨hp1, hp2⟩ := prB_lo hp
  have hz : (zerosL p key ys.length t).length = ys.length := spL_len _ _ _
  have he : elsB p (zerosL p key ys.length t) = true := by
    unfold elsB; rw [hp, Bool.true_and]
    exact allIn_iff.2 fun i hi => inB_iff.2 (by have := (spL_res hp1 (cfL p key 0 (t.toNat - 1)) ys.length).at (i := i) (by rw [spL_len, ← hz]; exact hi); unfold zerosL; omega)
  unfold addHolders refreshHolders
  rw [h1, h2, he, hz, decide_eq_true rfl, decide_eq_true (show ys.length ≤ 10 by omega)]
  cases elsB p ys <;> rfl
theorem refresh_no {p key : Int} {ys : List Int} {t : Int} (h : (thB p ys.length t && keyB key) = false) : refreshHolders p key ys t = ([], false) := by
  unfold refreshHolders
  cases h1 : thB p ys.length t with
  | false => rfl
  | true => rw [h1] at h; rw [show keyB key = false from h]; rfl
set_option maxHeartbeats 2000000 in
theorem i_RefreshHolders (p key t : Int) (a : Option Addr) (n cap : Nat) (ys : List Int) (w : World) (h : Ints w a n cap ys) (hn : n ≤ 100000) (hpf : -1000 ≤ p ∧ p ≤ 1000) :
    Calls Try.prog 26 #[.int .i64 p, .int .i64 key, .slice a n cap, .int .i64 t] w (SliceOk (refreshHolders p key ys t).1 (refreshHolders p key ys t).2 w) := by
  have hly := h.len.out
  have HY := Lib.hid h
  have HS := Lib.hid (i_SplitThreshold p key t n w hn hpf)
  unfold splitZero at HS
  clear h
  cases hc : (thB p ys.length t && keyB key) with
  | false =>
    rw [refresh_no hc]
    rw [hly] at hc
    rw [hc] at HS
    clear hly hc
    go_enter Try.func26, Try.ntmps26
    go_wp2_with (go_at_call 81; refine HS.out.mono ?_; rintro e w1 ⟨r, c, rfl, hm, hb⟩)
    go_ret2
    exact ⟨_, _, rfl, Mine.nil, hb⟩
  | true =>
    have hR := refresh_add hc
    rw [hly] at hc hR
    rw [← hR]
    rw [hc, if_pos rfl] at HS
    have hn10 : n ≤ 10 := by
      rw [Bool.and_eq_true] at hc
      obtain ⟨_, h2, _⟩ := thB_iff.1 hc.1
      omega
    clear hly hc hR
    go_enter Try.func26, Try.ntmps26
    go_wp2_with fail
    refine HS.out.mono ?_; rintro e w1 ⟨r, c, rfl, hm, hb⟩
    have HC := Lib.hid (i_AddShares p a n cap ys r _ c _ _ (HY.out.below hb) hm.ints hn10)
    have HB := Lib.hid hb; have hz := hb.size
    clear hm hb
    go_wp2_with (go_at_call 82; refine HC.out.mono ?_; rintro e w2 ⟨r2, c2, rfl, hm2, hb2⟩)
    go_ret2
    exact ⟨_, _, rfl, hm2.base hz, bel_trans HB.out hb2⟩
set_option maxHeartbeats 1000000 in
theorem s_thHolders (p t : Int) (n : Nat) (w : World) (hn : n ≤ 100000) :
    Calls Try.prog 83 #[.int .i64 p, .int .i64 n, .int .i64 t] w fun e w' => e = .returned (.bool (thB p n t)) ∧ w = w' := by
  have HP := Lib.hid (fun W => s_fpGood p W)
  have HN := Lib.hid (fun W => s_l1In (n : Int) 1 10 W)
  have HT := Lib.hid (fun W => s_l1In t 1 (n : Int) W)
  have tok : True := trivial
  unfold thB
  cases h1 : prB p with
  | false =>
    rw [h1] at HP
    go_enter Try.func83, Try.ntmps83
    go_wp2_with (go_at_call 112; refine (HP.out _).mono ?_; rintro e w1 ⟨rfl, rfl⟩)
    go_ret
    exact ⟨rfl, rfl⟩
  | true =>
    rw [h1] at HP
    cases h2 : inB (n : Int) 1 10 with
    | false =>
      rw [h2] at HN
      go_enter Try.func83, Try.ntmps83
      go_wp2_with (first | (go_at_call 112; refine (HP.out _).mono ?_; rintro e w1 ⟨rfl, rfl⟩) | (go_at_call 57; refine (HN.out _).mono ?_; rintro e w1 ⟨rfl, rfl⟩))
      go_ret
      exact ⟨rfl, rfl⟩
    | true =>
      rw [h2] at HN
      by_cases h3 : (n : Int) < p
      · rw [decide_eq_true h3]
        go_enter Try.func83, Try.ntmps83
        go_wp2_with (first | (go_at_call 112; refine (HP.out _).mono ?_; rintro e w1 ⟨rfl, rfl⟩) | (go_at_call 57; first | (have t0 := tok; clear t0 tok; refine (HN.out _).mono ?_; rintro e w1 ⟨rfl, rfl⟩) | (refine (HT.out _).mono ?_; rintro e w1 ⟨rfl, rfl⟩)))
        go_ret
        exact ⟨rfl, rfl⟩
      · rw [decide_eq_false h3]
        have h3d : decide ((n : Int) < p) = false := decide_eq_false h3
        go_enter Try.func83, Try.ntmps83
        go_wp2_with (first | (go_at_call 112; refine (HP.out _).mono ?_; rintro e w1 ⟨rfl, rfl⟩) | (go_at_call 57; refine (HN.out _).mono ?_; rintro e w1 ⟨rfl, rfl⟩))
        go_ret
        exact ⟨by first | rfl | (simp [h3d]; done), rfl⟩
set_option maxHeartbeats 2000000 in
theorem s_RefreshHolders (p key t : Int) (a : Option Addr) (n cap : Nat) (ys : List Int) (w : World) (h : Ints w a n cap ys) (hn : n ≤ 100000) :
    Calls Try.prog 27 #[.int .i64 p, .int .i64 key, .slice a n cap, .int .i64 t] w (SliceOk (refreshHolders p key ys t).1 (refreshHolders p key ys t).2 w) := by
  have hly := h.len.out
  have HY := Lib.hid h
  have HT := Lib.hid (fun W => s_thHolders p t n W hn)
  have HK := Lib.hid (fun W => s_otKey key W)
  have HE := Lib.hid (s_fpIn p a n cap ys w h)
  clear h
  cases h1 : thB p n t with
  | false =>
    have hR : refreshHolders p key ys t = ([], false) := refresh_no (by rw [hly, h1]; rfl)
    rw [hR]
    rw [h1] at HT
    clear hly hR
    go_enter Try.func27, Try.ntmps27
    go_wp2_with (go_at_call 83; refine (HT.out _).mono ?_; rintro e w1 ⟨rfl, rfl⟩)
    go_ret2
    exact ⟨_, _, rfl, Mine.nil, Below.refl _ _⟩
  | true =>
    rw [h1] at HT
    cases h2 : keyB key with
    | false =>
      have hR : refreshHolders p key ys t = ([], false) := refresh_no (by rw [h2, Bool.and_false])
      rw [hR]
      rw [h2] at HK
      clear hly hR
      go_enter Try.func27, Try.ntmps27
      go_wp2_with (first | (go_at_call 83; refine (HT.out _).mono ?_; rintro e w1 ⟨rfl, rfl⟩) | (go_at_call 84; refine (HK.out _).mono ?_; rintro e w1 ⟨rfl, rfl⟩))
      go_ret2
      exact ⟨_, _, rfl, Mine.nil, Below.refl _ _⟩
    | true =>
      rw [h2] at HK
      cases h3 : elsB p ys with
      | false =>
        have hR : refreshHolders p key ys t = ([], false) := by unfold refreshHolders; rw [h3, Bool.and_false, Bool.and_false]; rfl
        rw [hR]
        rw [h3] at HE
        clear hly hR
        go_enter Try.func27, Try.ntmps27
        go_wp2_with (first | (go_at_call 83; refine (HT.out _).mono ?_; rintro e w1 ⟨rfl, rfl⟩) | (go_at_call 84; refine (HK.out _).mono ?_; rintro e w1 ⟨rfl, rfl⟩) | (go_at_call 69; refine HE.out.mono ?_; rintro e w1 ⟨rfl, rfl⟩))
        go_ret2
        exact ⟨_, _, rfl, Mine.nil, Below.refl _ _⟩
      | true =>
        rw [h3] at HE
        have hR := refresh_add (p := p) (key := key) (ys := ys) (t := t) (by rw [hly, h1, h2]; rfl)
        rw [hly] at hR
        rw [← hR]
        obtain ⟨hp, hn1, hnp, ht1, ht2⟩ := thB_iff.1 h1
        obtain ⟨hp1, hp2⟩ := prB_lo hp
        obtain ⟨k1, k2⟩ := keyB_iff.1 h2
        have HS : Hid (∀ W, Calls Try.prog 85 #[.int .i64 p, .int .i64 key, .int .i64 0, .int .i64 n, .int .i64 t] W fun e w' => ∃ r c, e = .returned (.slice r n c) ∧ Mine w' W.heap.size r n c (zerosL p key n t) ∧ Below W.heap.size W w') := fun W =>
          s_thSplit p key 0 n (t.toNat - 1) W ⟨hp1, hp2⟩ ⟨k1, k2⟩ (by omega) (by omega) (by omega) t (by omega)
        clear hly hR
        go_enter Try.func27, Try.ntmps27
        go_wp2_with (first | (go_at_call 83; refine (HT.out _).mono ?_; rintro e w1 ⟨rfl, rfl⟩) | (go_at_call 84; refine (HK.out _).mono ?_; rintro e w1 ⟨rfl, rfl⟩) | (go_at_call 69; refine HE.out.mono ?_; rintro e w1 ⟨rfl, rfl⟩) | (go_at_call 85; refine (HS.out _).mono ?_; rintro e w1 ⟨r, c, rfl, hm, hb⟩; have hz := hb.size) | (go_at_call 30; refine (s_AddHolders p a n cap ys r n c _ _ (HY.out.below hb) hm.ints).mono ?_; rintro e w2 ⟨r2, c2, rfl, hm2, hb2⟩))
        go_ret2
        exact ⟨_, _, rfl, hm2.base hz, bel_trans hb hb2⟩
end Go.Proofs.Ytfichpppjpgahaa
