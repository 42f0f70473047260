/-
  Seed columns, rows of columns: both sides; SeedColumns, ReceiverRows.
-/
import Derived.Test.YtfejpmfcognikaaE
namespace Go.Proofs.Ytfejpmfcognikaa
open Go.RowKit
set_option linter.unusedVariables false
set_option linter.unusedSimpArgs false

/-- A slice of rows handed back, in memory of the call's own. -/
def RowsRet (X : List (List Int)) (w : World) (e : Ending) (w' : World) : Prop :=
  ∃ r c, e = .returned (.slice r X.length c) ∧ MineR w' w.heap.size w'.heap.size r X.length c X ∧ Below w.heap.size w w'
/-- The same with a bool. -/
def RowsRetB (X : List (List Int) × Bool) (w : World) (e : Ending) (w' : World) : Prop :=
  ∃ r c, e = .returned (.tuple #[.slice r X.1.length c, .bool X.2]) ∧ MineR w' w.heap.size w'.heap.size r X.1.length c X.1 ∧ Below w.heap.size w w'
theorem RowsRetB.no {w w' : World} (hb : Below w.heap.size w w') : RowsRetB ([], false) w (.returned (.tuple #[.slice none 0 0, .bool false])) w' :=
  ⟨none, 0, rfl, MineR.nil' (Nat.le_refl _), hb⟩
theorem RowsRetB.yes {w w0 w' : World} {X : List (List Int)} {r : Option Addr} {c : Nat} (hm : MineR w' w0.heap.size w'.heap.size r X.length c X) (h0 : w.heap.size ≤ w0.heap.size) (hb : Below w.heap.size w w') : RowsRetB (X, true) w (.returned (.tuple #[.slice r X.length c, .bool true])) w' :=
  ⟨r, c, rfl, hm.wider h0 (Nat.le_refl _) (Nat.le_refl _), hb⟩

set_option maxHeartbeats 400000 in
theorem s_oxSeed (key i side : Int) (m : Nat) (w : World) (hk : 0 ≤ key ∧ key ≤ 1000000000) (hi : 0 ≤ i ∧ i ≤ 1000) (hs : 0 ≤ side ∧ side ≤ 1000) (hm : m ≤ 1000) :
    Calls Try.prog 120 #[.int .i64 key, .int .i64 i, .int .i64 side, .int .i64 m] w fun e w' => ∃ r c, e = .returned (.slice r m c) ∧ Mine w' w.heap.size r m c (seedC key i side m) ∧ Below w.heap.size w w' := by
  have HSM := Lib.hid (small4' (a := key) (b := i) (c := side) (d := 31) (by omega) (by omega) (by omega) (by omega))
  obtain ⟨hk1, hk2⟩ := hk; obtain ⟨hs1, hs2⟩ := hs; obtain ⟨hi1, hi2⟩ := hi
  go_enter Try.func120, Try.ntmps120
  go_wp2_with fail
  refine (s_dgBits _ _ _ [key, i, side, 31] m _ (by exact Ints.lit4 rfl (by unfold Fits; omega) (by unfold Fits; omega) (by unfold Fits; omega) (by unfold Fits; omega)) (by omega) HSM.out (by omega)).mono ?_; rintro e w2 ⟨r, c, rfl, ho, hb⟩
  have hm2 := Lib.hid (ho.mine.base (B' := w.heap.size) (by simp))
  clear ho
  go_wp2
  go_ret
  exact ⟨_, _, rfl, hm2.out, bel_trans (bel_alloc w _) hb⟩
set_option maxHeartbeats 2000000 in
theorem i_seedColumns (key side : Int) (k m : Nat) (w : World) (hk : 0 ≤ key ∧ key ≤ 1000000000) (hs : 0 ≤ side ∧ side ≤ 1000) (hk8 : k ≤ 1000) (hm : m ≤ 1000) :
    Calls Try.prog 56 #[.int .i64 key, .int .i64 k, .int .i64 m, .int .i64 side] w fun e w' => RowsRet (seedCs key side m k) w e w' := by
  obtain ⟨hk1, hk2⟩ := hk; obtain ⟨hs1, hs2⟩ := hs
  go_enter Try.func56, Try.ntmps56
  go_wp2
  go_loopw [9, 13] (fun v i wr => ∃ t : Nat, t ≤ k ∧ i = .int .i64 t ∧ Hid (OwnR 23 wr w.heap.size v t (seedCs key side m t)) ∧ Hid (Below w.heap.size w wr)) (fun _ i _ => k - (intOf i).toNat)
  case atStart => exact ⟨0, by omega, rfl, (show Hid _ from OwnR.lit (Nat.le_refl _) rfl), (show Hid _ from bel_alloc w _)⟩
  case round =>
    obtain ⟨t, ht, rfl, HO, HB⟩ := hrel
    obtain ⟨wo, rfl⟩ : ∃ wo : World, wo = wr := ⟨_, rfl⟩
    by_cases hlt : t < k
    · have HL := Lib.hid (seedCs_succ key side m t)
      have HSM := Lib.hid (small4' (a := key) (b := t) (c := side) (d := 31) (by omega) (by omega) (by omega) (by omega))
      have hz := HB.out.size

      go_wp2_with fail
      refine (i_bitsFrom _ _ _ [key, (t : Int), side, 31] m _ (by exact Ints.lit4 rfl (by unfold Fits; omega) (by unfold Fits; omega) (by unfold Fits; omega) (by unfold Fits; omega)) (by omega) HSM.out (by omega)).mono ?_; rintro e w2 ⟨r, c, rfl, ho, hb⟩
      have hm2 := Lib.hid (ho.mine.base (B' := wo.heap.size) (by simp))
      have HBX := Lib.hid (bel_trans (bel_alloc wo _) hb)
      clear ho hb
      go_wp2_with (at_builtin; refine wp_appR wo w2 w.heap.size t _ _ r m c (seedC key t side m) _ _ rfl _ _ rfl rfl rfl rfl HO.out HBX.out hm2.out hz (by omega) ?_; intro v9 w9 hv9 hb9)
      go_roundw
      case rel => exact ⟨t + 1, by omega, by go_num, (by rw [HL.out]; exact hv9), (show Hid _ from HB.out.trans ((HBX.out.mono hz).trans hb9))⟩
      case measure => simp [intOf]; omega
    · obtain rfl : t = k := by omega
      obtain ⟨a, c, hv, hm⟩ := HO.out.mine (by omega) HB.out.size
      subst hv
      have HM := Lib.hid hm; clear hm HO
      go_wp2
      go_ret
      unfold RowsRet
      rw [seedCs_len]
      exact ⟨_, _, rfl, HM.out, HB.out⟩

set_option maxHeartbeats 2000000 in
theorem s_oxSeeds (key side : Int) (k m : Nat) (w : World) (hk : 0 ≤ key ∧ key ≤ 1000000000) (hs : 0 ≤ side ∧ side ≤ 1000) (hk8 : k ≤ 1000) (hm : m ≤ 1000) :
    Calls Try.prog 88 #[.int .i64 key, .int .i64 k, .int .i64 m, .int .i64 side] w fun e w' => RowsRet (seedCs key side m k) w e w' := by
  obtain ⟨hk1, hk2⟩ := hk; obtain ⟨hs1, hs2⟩ := hs
  go_enter Try.func88, Try.ntmps88
  go_wp2
  go_loopw [9, 10] (fun v i wr => ∃ t : Nat, t ≤ k ∧ i = .int .i64 t ∧ Hid (OwnR 23 wr w.heap.size v t (seedCs key side m t)) ∧ Hid (Below w.heap.size w wr)) (fun _ i _ => k - (intOf i).toNat)
  case atStart => exact ⟨0, by omega, rfl, (show Hid _ from OwnR.nil), (show Hid _ from Below.refl _ _)⟩
  case round =>
    obtain ⟨t, ht, rfl, HO, HB⟩ := hrel
    obtain ⟨wo, rfl⟩ : ∃ wo : World, wo = wr := ⟨_, rfl⟩
    by_cases hlt : t < k
    · have HL := Lib.hid (seedCs_succ key side m t)
      have HSM := Lib.hid (small4' (a := key) (b := t) (c := side) (d := 31) (by omega) (by omega) (by omega) (by omega))
      have hz := HB.out.size

      go_wp2_with fail
      refine (s_oxSeed _ _ _ m _ (by omega) (by omega) (by omega) (by omega)).mono ?_; rintro e w2 ⟨r, c, rfl, hm1, hb⟩
      have hm2 := Lib.hid hm1
      have HBX := Lib.hid hb
      clear hm1 hb
      go_wp2_with (at_builtin; refine wp_appR wo w2 w.heap.size t _ _ r m c (seedC key t side m) _ _ rfl _ _ rfl rfl rfl rfl HO.out HBX.out hm2.out hz (by omega) ?_; intro v9 w9 hv9 hb9)
      go_roundw
      case rel => exact ⟨t + 1, by omega, by go_num, (by rw [HL.out]; exact hv9), (show Hid _ from HB.out.trans ((HBX.out.mono hz).trans hb9))⟩
      case measure => simp [intOf]; omega
    · obtain rfl : t = k := by omega
      obtain ⟨a, c, hv, hm⟩ := HO.out.mine (by omega) HB.out.size
      subst hv
      have HM := Lib.hid hm; clear hm HO
      go_wp2
      go_ret
      unfold RowsRet
      rw [seedCs_len]
      exact ⟨_, _, rfl, HM.out, HB.out⟩

set_option maxHeartbeats 4000000 in
theorem i_rowsOf (a : Option Addr) (n cap : Nat) (xss : List (List Int)) (m : Nat) (w : World) (h : Rws w a n cap xss) (hn : n ≤ 1000) (hm : m ≤ 1000) (hl : Hid (∀ i, i < n → m ≤ (rowN xss i).length)) :
    Calls Try.prog 55 #[.slice a n cap, .int .i64 m] w fun e w' => RowsRet (turnL xss n m) w e w' := by
  have HH := Lib.hid h; clear h
  go_enter Try.func55, Try.ntmps55
  go_wp2
  go_loopw [5, 12] (fun v i wr => ∃ j : Nat, j ≤ m ∧ i = .int .i64 j ∧ Hid (OwnR 23 wr w.heap.size v j (turnL xss n j)) ∧ Hid (Below w.heap.size w wr)) (fun _ i _ => m - (intOf i).toNat)
  case atStart => exact ⟨0, by omega, rfl, (show Hid _ from OwnR.lit (Nat.le_refl _) rfl), (show Hid _ from bel_alloc w _)⟩
  case round =>
    obtain ⟨j, hj, rfl, HO, HB⟩ := hrel
    obtain ⟨wo, rfl⟩ : ∃ wo : World, wo = wr := ⟨_, rfl⟩
    by_cases hlt : j < m
    · have HL := Lib.hid (turnL_succ xss n j)
      have hz := HB.out.size
      go_wp2
      go_loopw [7, 18] (fun v i W => ∃ t : Nat, t ≤ n ∧ i = .int .i64 t ∧ Hid (W.ownsRow wo.heap.size 3 1 v t (ivs (colAt xss j t))) ∧ Hid (Below wo.heap.size wo W)) (fun _ i _ => n - (intOf i).toNat)
      case atStart => exact ⟨0, by omega, rfl, (show Hid _ from World.ownsRow_lit wo #[] 0 (Nat.le_refl _) (by decide) rfl), (show Hid _ from bel_alloc wo _)⟩
      case round =>
        obtain ⟨t, ht, rfl, HI, HC⟩ := hrel
        obtain ⟨wi, rfl⟩ : ∃ wi : World, wi = wr := ⟨_, rfl⟩
        have hz2 := HC.out.size
        by_cases hlti : t < n
        · have HLI := Lib.hid (colAt_succ xss j t)
          obtain ⟨b, off, r, q, c, rfl, hbl, hc, hri⟩ := (HH.out.below (bel_trans HB.out HC.out)).at hlti
          have hq : j < q := by have := hl.out t hlti; rw [hri.len.out] at this; omega
          obtain ⟨b2, off2, rfl, _, hc2⟩ := hri.at hq
          have hqi : (j : Int) < (q : Int) := by omega
          clear hri
          go_wp2_with (at_builtin; refine wp_app wi wo.heap.size t _ _ (nth (rowN xss t) j) _ _ rfl _ _ rfl rfl rfl rfl HI.out hz2 (by omega) ?_; intro v9 w9 hv9 hb9 hg9)
          clear hg9
          go_roundw
          case rel => exact ⟨t + 1, by omega, by go_num, by rw [HLI.out]; exact hv9, HC.out.trans hb9⟩
          case measure => simp [intOf]; omega
        · obtain rfl : t = n := by omega
          obtain ⟨r, c, hv, hmr⟩ := Mine.of HI.out (by omega) (by
            intro x hx
            obtain ⟨q, hq, rfl⟩ := mem_nth hx
            rw [colAt_len] at hq
            rw [nth_colAt hq]
            obtain ⟨_, _, _, _, _, _, _, _, hri⟩ := HH.out.at hq
            exact hri.fit (by have := hl.out q hq; rw [hri.len.out] at this; omega))
          subst hv
          have HM := Lib.hid hmr; clear hmr HI
          go_wp2_with (at_builtin; refine wp_appR wo wi w.heap.size j _ _ r t c (colAt xss j t) _ _ rfl _ _ rfl rfl rfl rfl HO.out HC.out HM.out hz (by omega) ?_; intro v9 w9 hv9 hb9)
          go_roundw
          case rel => exact ⟨j + 1, by omega, by go_num, (by rw [HL.out]; exact hv9), (show Hid _ from HB.out.trans ((HC.out.mono hz).trans hb9))⟩
          case measure => simp [intOf]; omega
    · obtain rfl : j = m := by omega
      obtain ⟨a2, c, hv, hm2⟩ := HO.out.mine (by omega) HB.out.size
      subst hv
      have HM := Lib.hid hm2; clear hm2 HO
      go_wp2
      go_ret
      unfold RowsRet
      rw [turnL_len]
      exact ⟨_, _, rfl, HM.out, HB.out⟩

set_option maxHeartbeats 4000000 in
theorem s_oxTurn (a : Option Addr) (n cap : Nat) (xss : List (List Int)) (m : Nat) (w : World) (h : Rws w a n cap xss) (hn : n ≤ 1000) (hm : m ≤ 1000) (hl : Hid (∀ i, i < n → m ≤ (rowN xss i).length)) :
    Calls Try.prog 89 #[.slice a n cap, .int .i64 m] w fun e w' => RowsRet (turnL xss n m) w e w' := by
  have HH := Lib.hid h; clear h
  go_enter Try.func89, Try.ntmps89
  go_wp2
  go_loopw [5, 6] (fun v i wr => ∃ j : Nat, j ≤ m ∧ i = .int .i64 j ∧ Hid (OwnR 23 wr w.heap.size v j (turnL xss n j)) ∧ Hid (Below w.heap.size w wr)) (fun _ i _ => m - (intOf i).toNat)
  case atStart => exact ⟨0, by omega, rfl, (show Hid _ from OwnR.nil), (show Hid _ from Below.refl _ _)⟩
  case round =>
    obtain ⟨j, hj, rfl, HO, HB⟩ := hrel
    obtain ⟨wo, rfl⟩ : ∃ wo : World, wo = wr := ⟨_, rfl⟩
    by_cases hlt : j < m
    · have HL := Lib.hid (turnL_succ xss n j)
      have hz := HB.out.size
      go_wp2
      go_loopw [7, 17] (fun v i W => ∃ t : Nat, t ≤ n ∧ i = .int .i64 t ∧ Hid (W.ownsRow wo.heap.size 3 1 v t (ivs (colAt xss j t))) ∧ Hid (Below wo.heap.size wo W)) (fun _ i _ => n - (intOf i).toNat)
      case atStart => exact ⟨0, by omega, rfl, (show Hid _ from World.ownsRow_nil _ _ _ _), (show Hid _ from Below.refl _ _)⟩
      case round =>
        obtain ⟨t, ht, rfl, HI, HC⟩ := hrel
        obtain ⟨wi, rfl⟩ : ∃ wi : World, wi = wr := ⟨_, rfl⟩
        have hz2 := HC.out.size
        by_cases hlti : t < n
        · have HLI := Lib.hid (colAt_succ xss j t)
          obtain ⟨b, off, r, q, c, rfl, hbl, hc, hri⟩ := (HH.out.below (bel_trans HB.out HC.out)).at hlti
          have hq : j < q := by have := hl.out t hlti; rw [hri.len.out] at this; omega
          obtain ⟨b2, off2, rfl, _, hc2⟩ := hri.at hq
          have hqi : (j : Int) < (q : Int) := by omega
          clear hri
          go_wp2_with (at_builtin; refine wp_app wi wo.heap.size t _ _ (nth (rowN xss t) j) _ _ rfl _ _ rfl rfl rfl rfl HI.out hz2 (by omega) ?_; intro v9 w9 hv9 hb9 hg9)
          clear hg9
          go_roundw
          case rel => exact ⟨t + 1, by omega, by go_num, by rw [HLI.out]; exact hv9, HC.out.trans hb9⟩
          case measure => simp [intOf]; omega
        · obtain rfl : t = n := by omega
          obtain ⟨r, c, hv, hmr⟩ := Mine.of HI.out (by omega) (by
            intro x hx
            obtain ⟨q, hq, rfl⟩ := mem_nth hx
            rw [colAt_len] at hq
            rw [nth_colAt hq]
            obtain ⟨_, _, _, _, _, _, _, _, hri⟩ := HH.out.at hq
            exact hri.fit (by have := hl.out q hq; rw [hri.len.out] at this; omega))
          subst hv
          have HM := Lib.hid hmr; clear hmr HI
          go_wp2_with (at_builtin; refine wp_appR wo wi w.heap.size j _ _ r t c (colAt xss j t) _ _ rfl _ _ rfl rfl rfl rfl HO.out HC.out HM.out hz (by omega) ?_; intro v9 w9 hv9 hb9)
          go_roundw
          case rel => exact ⟨j + 1, by omega, by go_num, (by rw [HL.out]; exact hv9), (show Hid _ from HB.out.trans ((HC.out.mono hz).trans hb9))⟩
          case measure => simp [intOf]; omega
    · obtain rfl : j = m := by omega
      obtain ⟨a2, c, hv, hm2⟩ := HO.out.mine (by omega) HB.out.size
      subst hv
      have HM := Lib.hid hm2; clear hm2 HO
      go_wp2
      go_ret
      unfold RowsRet
      rw [turnL_len]
      exact ⟨_, _, rfl, HM.out, HB.out⟩

def seedColumns (key k m side : Int) : List (List Int) × Bool := if keyE key && (inB k 1 8 && (inB m 0 24 && inB side 0 1)) then (seedCs key side m.toNat k.toNat, true) else ([], false)
theorem seedColumns_len (key k m side : Int) : (seedColumns key k m side).1.length ≤ 1000 ∧ pre (seedColumns key k m side).1 (seedColumns key k m side).1.length ≤ 100000 := by
  unfold seedColumns
  split
  · rename_i h
    simp only [Bool.and_eq_true] at h
    have h1 := inB_iff.1 h.2.1; have h2 := inB_iff.1 h.2.2.1
    show (seedCs key side m.toNat k.toNat).length ≤ 1000 ∧ pre (seedCs key side m.toNat k.toNat) (seedCs key side m.toNat k.toNat).length ≤ 100000
    rw [seedCs_len]
    have := pre_le (seedCs key side m.toNat k.toNat) k.toNat 24 (fun i hi => by rw [rowN_seedCs hi, seedC_len]; omega)
    omega
  · simp [pre]
def receiverRows (key k m : Int) : List (List Int) × Bool := if keyE key && (inB k 1 8 && inB m 0 24) then (turnL (seedCs key 0 m.toNat k.toNat) k.toNat m.toNat, true) else ([], false)
theorem receiverRows_len (key k m : Int) : (receiverRows key k m).1.length ≤ 1000 ∧ pre (receiverRows key k m).1 (receiverRows key k m).1.length ≤ 100000 := by
  unfold receiverRows
  split
  · rename_i h
    simp only [Bool.and_eq_true] at h
    have h1 := inB_iff.1 h.2.1; have h2 := inB_iff.1 h.2.2
    show (turnL (seedCs key 0 m.toNat k.toNat) k.toNat m.toNat).length ≤ 1000 ∧ pre (turnL (seedCs key 0 m.toNat k.toNat) k.toNat m.toNat) (turnL (seedCs key 0 m.toNat k.toNat) k.toNat m.toNat).length ≤ 100000
    rw [turnL_len]
    have := pre_le (turnL (seedCs key 0 m.toNat k.toNat) k.toNat m.toNat) m.toNat 8 (fun i hi => by rw [rowN_turnL hi, colAt_len]; omega)
    omega
  · simp [pre]
set_option maxHeartbeats 1000000 in
theorem s_oxKey (key k m : Int) (w : World) : Calls Try.prog 78 #[.int .i64 key, .int .i64 k, .int .i64 m] w fun e w' => e = .returned (.bool (keyE key && (inB k 1 8 && inB m 0 24))) ∧ w = w' := by
  cases h1 : keyE key with
  | false =>
    go_enter Try.func78, Try.ntmps78
    go_wp2_with (first | (go_at_call 82; refine (s_shKey _ _).mono ?_; rintro e w' ⟨rfl, rfl⟩) | (go_at_call 87; refine (s_l1In _ _ _ _).mono ?_; rintro e w' ⟨rfl, rfl⟩))
    all_goals
      go_ret
      exact ⟨rfl, rfl⟩
  | true =>
    cases h2 : inB k 1 8 with
    | false =>
      go_enter Try.func78, Try.ntmps78
      go_wp2_with (first | (go_at_call 82; refine (s_shKey _ _).mono ?_; rintro e w' ⟨rfl, rfl⟩) | (go_at_call 87; refine (s_l1In _ _ _ _).mono ?_; rintro e w' ⟨rfl, rfl⟩))
      all_goals
        go_ret
        exact ⟨rfl, rfl⟩
    | true =>
      cases h3 : inB m 0 24 with
      | false =>
        go_enter Try.func78, Try.ntmps78
        go_wp2_with (first | (go_at_call 82; refine (s_shKey _ _).mono ?_; rintro e w' ⟨rfl, rfl⟩) | (go_at_call 87; refine (s_l1In _ _ _ _).mono ?_; rintro e w' ⟨rfl, rfl⟩))
        all_goals
          go_ret
          exact ⟨rfl, rfl⟩
      | true =>
        go_enter Try.func78, Try.ntmps78
        go_wp2_with (first | (go_at_call 82; refine (s_shKey _ _).mono ?_; rintro e w' ⟨rfl, rfl⟩) | (go_at_call 87; refine (s_l1In _ _ _ _).mono ?_; rintro e w' ⟨rfl, rfl⟩))
        all_goals
          go_ret
          exact ⟨rfl, rfl⟩
set_option maxHeartbeats 1000000 in
theorem i_SeedColumns (key k m side : Int) (w : World) (hkey : Fits key) (hk : Fits k) (hm : Fits m) (hside : Fits side) :
    Calls Try.prog 28 #[.int .i64 key, .int .i64 k, .int .i64 m, .int .i64 side] w fun e w' => RowsRetB (seedColumns key k m side) w e w' := by
  unfold seedColumns
  cases h1 : keyE key with
  | false =>
    go_enter Try.func28, Try.ntmps28
    go_wp2_with (first | (go_at_call 41; refine (i_isKeyE _ _).mono ?_; rintro e w' ⟨rfl, rfl⟩) | (go_at_call 45; refine (i_isColumns _ _).mono ?_; rintro e w' ⟨rfl, rfl⟩) | (go_at_call 54; refine (i_isTransfers _ _).mono ?_; rintro e w' ⟨rfl, rfl⟩) | (go_at_call 66; refine (i_bit01 _ _).mono ?_; rintro e w' ⟨rfl, rfl⟩))
    all_goals
      go_ret2
      exact RowsRetB.no (Below.refl _ _)
  | true =>
    obtain ⟨q1, q2⟩ := inB_iff.1 h1
    cases h2 : inB k 1 8 with
    | false =>
      go_enter Try.func28, Try.ntmps28
      go_wp2_with (first | (go_at_call 41; refine (i_isKeyE _ _).mono ?_; rintro e w' ⟨rfl, rfl⟩) | (go_at_call 45; refine (i_isColumns _ _).mono ?_; rintro e w' ⟨rfl, rfl⟩) | (go_at_call 54; refine (i_isTransfers _ _).mono ?_; rintro e w' ⟨rfl, rfl⟩) | (go_at_call 66; refine (i_bit01 _ _).mono ?_; rintro e w' ⟨rfl, rfl⟩))
      all_goals
        go_ret2
        exact RowsRetB.no (Below.refl _ _)
    | true =>
      obtain ⟨k1, k2⟩ := inB_iff.1 h2
      cases h3 : inB m 0 24 with
      | false =>
        go_enter Try.func28, Try.ntmps28
        go_wp2_with (first | (go_at_call 41; refine (i_isKeyE _ _).mono ?_; rintro e w' ⟨rfl, rfl⟩) | (go_at_call 45; refine (i_isColumns _ _).mono ?_; rintro e w' ⟨rfl, rfl⟩) | (go_at_call 54; refine (i_isTransfers _ _).mono ?_; rintro e w' ⟨rfl, rfl⟩) | (go_at_call 66; refine (i_bit01 _ _).mono ?_; rintro e w' ⟨rfl, rfl⟩))
        all_goals
          go_ret2
          exact RowsRetB.no (Below.refl _ _)
      | true =>
        obtain ⟨m1, m2⟩ := inB_iff.1 h3
        cases h4 : inB side 0 1 with
        | false =>
          go_enter Try.func28, Try.ntmps28
          go_wp2_with (first | (go_at_call 41; refine (i_isKeyE _ _).mono ?_; rintro e w' ⟨rfl, rfl⟩) | (go_at_call 45; refine (i_isColumns _ _).mono ?_; rintro e w' ⟨rfl, rfl⟩) | (go_at_call 54; refine (i_isTransfers _ _).mono ?_; rintro e w' ⟨rfl, rfl⟩) | (go_at_call 66; refine (i_bit01 _ _).mono ?_; rintro e w' ⟨rfl, rfl⟩))
          all_goals
            go_ret2
            exact RowsRetB.no (Below.refl _ _)
        | true =>
          obtain ⟨s1, s2⟩ := inB_iff.1 h4
          obtain ⟨kN, rfl⟩ : ∃ kN : Nat, k = kN := ⟨k.toNat, by omega⟩
          obtain ⟨mN, rfl⟩ : ∃ mN : Nat, m = mN := ⟨m.toNat, by omega⟩
          show Calls _ _ _ _ fun e w' => RowsRetB (seedCs key side mN kN, true) w e w'
          go_enter Try.func28, Try.ntmps28
          go_wp2_with (first | (go_at_call 41; refine (i_isKeyE _ _).mono ?_; rintro e w' ⟨rfl, rfl⟩) | (go_at_call 45; refine (i_isColumns _ _).mono ?_; rintro e w' ⟨rfl, rfl⟩) | (go_at_call 54; refine (i_isTransfers _ _).mono ?_; rintro e w' ⟨rfl, rfl⟩) | (go_at_call 66; refine (i_bit01 _ _).mono ?_; rintro e w' ⟨rfl, rfl⟩) | (go_at_call 56; refine (i_seedColumns key side kN mN _ ⟨q1, q2⟩ (by omega) (by omega) (by omega)).mono ?_; rintro e w' ⟨r, c, rfl, hm, hb⟩))
          go_ret2
          exact RowsRetB.yes hm (Nat.le_refl _) hb
theorem sc_f {key k m side : Int} (h : (keyE key && (inB k 1 8 && inB m 0 24)) = false) : seedColumns key k m side = ([], false) := by
  unfold seedColumns
  refine if_neg fun q => ?_
  simp only [Bool.and_eq_true] at q
  simp only [q.1, q.2.1, q.2.2.1] at h
  cases h
theorem sc_f2 {key k m side : Int} (h : inB side 0 1 = false) : seedColumns key k m side = ([], false) := by
  unfold seedColumns
  refine if_neg fun q => ?_
  simp only [Bool.and_eq_true] at q
  rw [h] at q; cases q.2.2.2
theorem sc_t {key side : Int} {kN mN : Nat} (h : (keyE key && (inB (kN : Int) 1 8 && inB (mN : Int) 0 24)) = true) (h2 : inB side 0 1 = true) : seedColumns key kN mN side = (seedCs key side mN kN, true) := by
  unfold seedColumns
  simp only [Bool.and_eq_true] at h
  simp only [h.1, h.2.1, h.2.2, h2]
  rfl
set_option maxHeartbeats 1000000 in
theorem s_SeedColumns (key k m side : Int) (w : World) (hkey : Fits key) (hk : Fits k) (hm : Fits m) (hside : Fits side) :
    Calls Try.prog 29 #[.int .i64 key, .int .i64 k, .int .i64 m, .int .i64 side] w fun e w' => RowsRetB (seedColumns key k m side) w e w' := by
  cases h1 : (keyE key && (inB k 1 8 && inB m 0 24)) with
  | false =>
    rw [sc_f h1]
    go_enter Try.func29, Try.ntmps29
    go_wp2_with (first | (go_at_call 78; refine (s_oxKey _ _ _ _).mono ?_; rintro e w' ⟨rfl, rfl⟩) | (go_at_call 87; refine (s_l1In _ _ _ _).mono ?_; rintro e w' ⟨rfl, rfl⟩))
    all_goals
      go_ret2
      exact RowsRetB.no (Below.refl _ _)
  | true =>
    cases h2 : inB side 0 1 with
    | false =>
      rw [sc_f2 h2]
      go_enter Try.func29, Try.ntmps29
      go_wp2_with (first | (go_at_call 78; refine (s_oxKey _ _ _ _).mono ?_; rintro e w' ⟨rfl, rfl⟩) | (go_at_call 87; refine (s_l1In _ _ _ _).mono ?_; rintro e w' ⟨rfl, rfl⟩))
      all_goals
        go_ret2
        exact RowsRetB.no (Below.refl _ _)
    | true =>
      have h1' := h1
      simp only [Bool.and_eq_true] at h1'
      obtain ⟨q1, q2⟩ := inB_iff.1 h1'.1; obtain ⟨k1, k2⟩ := inB_iff.1 h1'.2.1; obtain ⟨m1, m2⟩ := inB_iff.1 h1'.2.2; obtain ⟨s1, s2⟩ := inB_iff.1 h2
      obtain ⟨kN, rfl⟩ : ∃ kN : Nat, k = kN := ⟨k.toNat, by omega⟩
      obtain ⟨mN, rfl⟩ : ∃ mN : Nat, m = mN := ⟨m.toNat, by omega⟩
      rw [sc_t h1 h2]
      clear h1'
      go_enter Try.func29, Try.ntmps29
      go_wp2_with (first | (go_at_call 78; refine (s_oxKey _ _ _ _).mono ?_; rintro e w' ⟨rfl, rfl⟩) | (go_at_call 87; refine (s_l1In _ _ _ _).mono ?_; rintro e w' ⟨rfl, rfl⟩) | (go_at_call 88; refine (s_oxSeeds key side kN mN _ ⟨q1, q2⟩ (by omega) (by omega) (by omega)).mono ?_; rintro e w' ⟨r, c, rfl, hm', hb⟩))
      go_ret2
      exact RowsRetB.yes hm' (Nat.le_refl _) hb
set_option maxHeartbeats 1000000 in
theorem i_ReceiverRows (key k m : Int) (w : World) (hkey : Fits key) (hk : Fits k) (hm : Fits m) :
    Calls Try.prog 14 #[.int .i64 key, .int .i64 k, .int .i64 m] w fun e w' => RowsRetB (receiverRows key k m) w e w' := by
  unfold receiverRows
  cases h1 : keyE key with
  | false =>
    go_enter Try.func14, Try.ntmps14
    go_wp2_with (first | (go_at_call 41; refine (i_isKeyE _ _).mono ?_; rintro e w' ⟨rfl, rfl⟩) | (go_at_call 45; refine (i_isColumns _ _).mono ?_; rintro e w' ⟨rfl, rfl⟩) | (go_at_call 54; refine (i_isTransfers _ _).mono ?_; rintro e w' ⟨rfl, rfl⟩))
    all_goals
      go_ret2
      exact RowsRetB.no (Below.refl _ _)
  | true =>
    obtain ⟨q1, q2⟩ := inB_iff.1 h1
    cases h2 : inB k 1 8 with
    | false =>
      go_enter Try.func14, Try.ntmps14
      go_wp2_with (first | (go_at_call 41; refine (i_isKeyE _ _).mono ?_; rintro e w' ⟨rfl, rfl⟩) | (go_at_call 45; refine (i_isColumns _ _).mono ?_; rintro e w' ⟨rfl, rfl⟩) | (go_at_call 54; refine (i_isTransfers _ _).mono ?_; rintro e w' ⟨rfl, rfl⟩))
      all_goals
        go_ret2
        exact RowsRetB.no (Below.refl _ _)
    | true =>
      obtain ⟨k1, k2⟩ := inB_iff.1 h2
      cases h3 : inB m 0 24 with
      | false =>
        go_enter Try.func14, Try.ntmps14
        go_wp2_with (first | (go_at_call 41; refine (i_isKeyE _ _).mono ?_; rintro e w' ⟨rfl, rfl⟩) | (go_at_call 45; refine (i_isColumns _ _).mono ?_; rintro e w' ⟨rfl, rfl⟩) | (go_at_call 54; refine (i_isTransfers _ _).mono ?_; rintro e w' ⟨rfl, rfl⟩))
        all_goals
          go_ret2
          exact RowsRetB.no (Below.refl _ _)
      | true =>
        obtain ⟨m1, m2⟩ := inB_iff.1 h3
        obtain ⟨kN, rfl⟩ : ∃ kN : Nat, k = kN := ⟨k.toNat, by omega⟩
        obtain ⟨mN, rfl⟩ : ∃ mN : Nat, m = mN := ⟨m.toNat, by omega⟩
        show Calls _ _ _ _ fun e w' => RowsRetB (turnL (seedCs key 0 mN kN) kN mN, true) w e w'
        go_enter Try.func14, Try.ntmps14
        go_wp2_with (first | (go_at_call 41; refine (i_isKeyE _ _).mono ?_; rintro e w' ⟨rfl, rfl⟩) | (go_at_call 45; refine (i_isColumns _ _).mono ?_; rintro e w' ⟨rfl, rfl⟩) | (go_at_call 54; refine (i_isTransfers _ _).mono ?_; rintro e w' ⟨rfl, rfl⟩) | (go_at_call 56; refine (i_seedColumns key 0 kN mN _ ⟨q1, q2⟩ (by omega) (by omega) (by omega)).mono ?_; rintro e w1 ⟨r, c, rfl, hm1, hb1⟩; rw [seedCs_len] at hm1 ⊢; have HM1 := Lib.hid hm1; clear hm1) | (go_at_call 55; refine (i_rowsOf _ kN _ (seedCs key 0 mN kN) mN _ HM1.out.rows (by omega) (by omega) (show Hid _ from fun i hi => by rw [rowN_seedCs hi, seedC_len]; exact Nat.le_refl _)).mono ?_; rintro e w2 ⟨r2, c2, rfl, hm2, hb2⟩))
        go_ret2
        exact RowsRetB.yes hm2 hb1.size (bel_trans hb1 hb2)
set_option maxHeartbeats 1000000 in
theorem s_ReceiverRows (key k m : Int) (w : World) (hkey : Fits key) (hk : Fits k) (hm : Fits m) :
    Calls Try.prog 31 #[.int .i64 key, .int .i64 k, .int .i64 m] w fun e w' => RowsRetB (receiverRows key k m) w e w' := by
  unfold receiverRows
  cases h1 : keyE key with
  | false =>
    go_enter Try.func31, Try.ntmps31
    go_wp2_with (first | (go_at_call 78; refine (s_oxKey _ _ _ _).mono ?_; rintro e w' ⟨rfl, rfl⟩; (try rw [h1]); (try rw [h2]); (try rw [h3])))
    all_goals
      go_ret2
      exact RowsRetB.no (Below.refl _ _)
  | true =>
    obtain ⟨q1, q2⟩ := inB_iff.1 h1
    cases h2 : inB k 1 8 with
    | false =>
      go_enter Try.func31, Try.ntmps31
      go_wp2_with (first | (go_at_call 78; refine (s_oxKey _ _ _ _).mono ?_; rintro e w' ⟨rfl, rfl⟩; (try rw [h1]); (try rw [h2]); (try rw [h3])))
      all_goals
        go_ret2
        exact RowsRetB.no (Below.refl _ _)
    | true =>
      obtain ⟨k1, k2⟩ := inB_iff.1 h2
      cases h3 : inB m 0 24 with
      | false =>
        go_enter Try.func31, Try.ntmps31
        go_wp2_with (first | (go_at_call 78; refine (s_oxKey _ _ _ _).mono ?_; rintro e w' ⟨rfl, rfl⟩; (try rw [h1]); (try rw [h2]); (try rw [h3])))
        all_goals
          go_ret2
          exact RowsRetB.no (Below.refl _ _)
      | true =>
        obtain ⟨m1, m2⟩ := inB_iff.1 h3
        obtain ⟨kN, rfl⟩ : ∃ kN : Nat, k = kN := ⟨k.toNat, by omega⟩
        obtain ⟨mN, rfl⟩ : ∃ mN : Nat, m = mN := ⟨m.toNat, by omega⟩
        show Calls _ _ _ _ fun e w' => RowsRetB (turnL (seedCs key 0 mN kN) kN mN, true) w e w'
        go_enter Try.func31, Try.ntmps31
        go_wp2_with (first |(go_at_call 78; refine (s_oxKey _ _ _ _).mono ?_; rintro e w' ⟨rfl, rfl⟩; (try rw [h1]); (try rw [h2]); (try rw [h3])) | (go_at_call 88; refine (s_oxSeeds key 0 kN mN _ ⟨q1, q2⟩ (by omega) (by omega) (by omega)).mono ?_; rintro e w1 ⟨r, c, rfl, hm1, hb1⟩; rw [seedCs_len] at hm1 ⊢; have HM1 := Lib.hid hm1; clear hm1) | (go_at_call 89; refine (s_oxTurn _ kN _ (seedCs key 0 mN kN) mN _ HM1.out.rows (by omega) (by omega) (show Hid _ from fun i hi => by rw [rowN_seedCs hi, seedC_len]; exact Nat.le_refl _)).mono ?_; rintro e w2 ⟨r2, c2, rfl, hm2, hb2⟩))
        go_ret2
        exact RowsRetB.yes hm2 hb1.size (bel_trans hb1 hb2)
end Go.Proofs.Ytfejpmfcognikaa
