/-
  Contracts of digests: what both sides compute, as one plain function.
-/
import Derived.Test.YtfichpppjpgahaaD
namespace Go.Proofs.Ytfichpppjpgahaa
open Go.RowKit
set_option linter.unusedVariables false
set_option linter.unusedSimpArgs false

/-- One step of a digest, and the digest. -/
def dgStep (a x : Int) : Int := ((25214 * a + x + 17) % 1000003) * ((25214 * a + x + 17) % 1000003 / 64 + 5) % 1000003
def dgAt (L : List Int) (a0 : Int) : Nat → Int
  | 0 => a0
  | k + 1 => dgStep (dgAt L a0 k) (nth L k)
def dgMix (l : List Int) : Int := dgAt (l ++ [8, 1]) (40503 + l.length) (l.length + 2) % 65536
theorem dgStep_bd (a x : Int) : 0 ≤ dgStep a x ∧ dgStep a x ≤ 1000002 := by unfold dgStep; omega
theorem dgAt_bd (L : List Int) (a0 : Int) (h : 0 ≤ a0 ∧ a0 ≤ 1000002) (k : Nat) : 0 ≤ dgAt L a0 k ∧ dgAt L a0 k ≤ 1000002 := by
  cases k with
  | zero => exact h
  | succ k => exact dgStep_bd _ _
theorem dgMix_bd (l : List Int) : 0 ≤ dgMix l ∧ dgMix l ≤ 65535 := by unfold dgMix; omega
/-- Numbers of a size that no digest's step leaves an int. -/
def Small (x : Int) : Prop := -1000000000000 ≤ x ∧ x ≤ 1000000000000
theorem Small.fits {x : Int} (h : Small x) : Fits x := by unfold Small at h; unfold Fits; omega
theorem nth_app8 {xs : List Int} {k : Nat} (hk : k < xs.length + 2) (hs : ∀ x ∈ xs, Small x) : Small (nth (xs ++ [8, 1]) k) := by
  have : nth (xs ++ [8, 1]) k ∈ xs ++ [8, 1] := nth_mem (by simp; omega)
  rcases List.mem_append.1 this with h | h
  · exact hs _ h
  · simp at h; rcases h with h | h <;> rw [h] <;> unfold Small <;> omega

set_option maxHeartbeats 2000000 in
theorem i_digest (a : Option Addr) (n cap : Nat) (xs : List Int) (w : World) (h : Ints w a n cap xs) (hn : n ≤ 1000) (hs : ∀ x ∈ xs, Small x) :
    Calls Try.prog 146 #[.slice a n cap] w fun e w' => e = .returned (.int .i64 (dgMix xs)) ∧ Below w.heap.size w w' := by
  have hl := h.len
  have HS := Lib.hid hs; clear hs
  go_enter Try.func146, Try.ntmps146
  go_wp2_with fail
  refine (g_Clone _ _ _ xs _ h (by omega)).mono ?_; rintro e w1 ⟨r, c, rfl, ho, hb1⟩
  have hz1 := hb1.size
  have HFT : Hid (∀ x ∈ xs ++ [8, 1], Fits x) := fun x hx => by
    rcases List.mem_append.1 hx with k | k
    · exact (HS.out x k).fits
    · simp at k; rcases k with k | k <;> rw [k] <;> unfold Fits <;> omega
  go_wp2_with (at_builtin; refine wp_apps (w1.alloc (.cells #[.int .i64 8, .int .i64 1] 3)) w.heap.size n _ xs [8, 1] _ _ _ rfl _ _ rfl rfl rfl (by exact Ints.lit2 rfl (by unfold Fits; omega) (by unfold Fits; omega)) (ho.own.alloc _) (by simp; omega) (by omega) ?_; intro v9 w9 hv9 hb9 hg9; obtain ⟨r2, c2, hr, ho2⟩ := OwnI.of hv9 (by omega) HFT.out; subst hr)
  have HB := Lib.hid (hb1.trans (((Below.refl w.heap.size w1).alloc hz1 (.cells #[.int .i64 8, .int .i64 1] 3)).trans hb9))
  have HI := Lib.hid ho2.ints
  clear hv9 hb9 hg9 ho ho2 hb1 HFT h
  go_loop [3, 14] (fun s i => ∃ k : Nat, k ≤ n + 2 ∧ i = .int .i64 k ∧ s = .int .i64 (dgAt (xs ++ [8, 1]) (40503 + n) k)) (fun _ i => n + 2 - (intOf i).toNat)
  case atStart => exact ⟨0, by omega, rfl, rfl⟩
  case round =>
    obtain ⟨k, hk, rfl, rfl⟩ := hrel
    have ab := dgAt_bd (xs ++ [8, 1]) (40503 + n) (by omega) k
    by_cases hlt : k < n + 2
    · obtain ⟨b, off, rfl, hbl, hc⟩ := HI.out.at hlt
      have xb := nth_app8 (xs := xs) (k := k) (by rw [hl.out]; exact hlt) HS.out
      unfold Small at xb
      have HK : Hid (dgAt (xs ++ [8, 1]) (40503 + n) (k + 1) = dgStep (dgAt (xs ++ [8, 1]) (40503 + n) k) (nth (xs ++ [8, 1]) k)) := rfl
      obtain ⟨A, hA⟩ : ∃ A, A = dgAt (xs ++ [8, 1]) (40503 + n) k := ⟨_, rfl⟩
      obtain ⟨X, hX⟩ : ∃ X, X = nth (xs ++ [8, 1]) k := ⟨_, rfl⟩
      rw [← hA] at ab ⊢; rw [← hX] at xb hc
      unfold dgStep at HK
      rw [← hA, ← hX] at HK
      clear hA hX
      obtain ⟨ab1, ab2⟩ := ab; obtain ⟨xb1, xb2⟩ := xb
      obtain ⟨tb1, tb2⟩ := tmod_bd (n := 25214 * A + X + 17) (p := 1000003) (by omega)
      have et : ((25214 * A + X + 17).tmod 1000003 + 1000003) % 1000003 = (25214 * A + X + 17) % 1000003 := tmod_add (by omega)
      obtain ⟨rb1, rb2⟩ := emod_bd (n := 25214 * A + X + 17) (p := 1000003) (by omega)
      have qb : 0 ≤ (25214 * A + X + 17) % 1000003 / 64 ∧ (25214 * A + X + 17) % 1000003 / 64 ≤ 15626 := by omega
      obtain ⟨qb1, qb2⟩ := qb
      obtain ⟨mb1, mb2⟩ := mul_bd (a := (25214 * A + X + 17) % 1000003) (b := (25214 * A + X + 17) % 1000003 / 64 + 5) 1000003 15631 (by omega) (by omega) (by omega) (by omega)
      go_wp2
      go_round
      case rel => exact ⟨k + 1, by omega, by go_num, by rw [HK.out]⟩
      case measure => simp [intOf]; omega
    · obtain rfl : k = n + 2 := by omega
      have HM : Hid (dgMix xs = dgAt (xs ++ [8, 1]) (40503 + n) (n + 2) % 65536) := by show _ = _; unfold dgMix; rw [hl.out]
      obtain ⟨ab1, ab2⟩ := ab
      go_wp2
      go_ret
      exact ⟨ret_int HM.out.symm, HB.out⟩
set_option maxHeartbeats 2000000 in
theorem s_digest (a : Option Addr) (n cap : Nat) (xs : List Int) (w : World) (h : Ints w a n cap xs) (hn : n ≤ 1000) (hs : ∀ x ∈ xs, Small x) :
    Calls Try.prog 142 #[.slice a n cap] w fun e w' => e = .returned (.int .i64 (dgMix xs)) ∧ Below w.heap.size w w' := by
  have hl := h.len
  have HS := Lib.hid hs; clear hs
  go_enter Try.func142, Try.ntmps142
  go_wp2_with fail
  refine (s_l1Own _ _ _ xs _ h (by omega)).mono ?_; rintro e w1 ⟨r, c, rfl, ho, hb1⟩
  have hz1 := hb1.size
  have HFT : Hid (∀ x ∈ xs ++ [8, 1], Fits x) := fun x hx => by
    rcases List.mem_append.1 hx with k | k
    · exact (HS.out x k).fits
    · simp at k; rcases k with k | k <;> rw [k] <;> unfold Fits <;> omega
  go_wp2_with (at_builtin; refine wp_apps (w1.alloc (.cells #[.int .i64 8, .int .i64 1] 3)) w.heap.size n _ xs [8, 1] _ _ _ rfl _ _ rfl rfl rfl (by exact Ints.lit2 rfl (by unfold Fits; omega) (by unfold Fits; omega)) (ho.own.alloc _) (by simp; omega) (by omega) ?_; intro v9 w9 hv9 hb9 hg9; obtain ⟨r2, c2, hr, ho2⟩ := OwnI.of hv9 (by omega) HFT.out; subst hr)
  have HB := Lib.hid (hb1.trans (((Below.refl w.heap.size w1).alloc hz1 (.cells #[.int .i64 8, .int .i64 1] 3)).trans hb9))
  have HI := Lib.hid ho2.ints
  clear hv9 hb9 hg9 ho ho2 hb1 HFT h
  go_loop [3, 14] (fun s i => ∃ k : Nat, k ≤ n + 2 ∧ i = .int .i64 k ∧ s = .int .i64 (dgAt (xs ++ [8, 1]) (40503 + n) k)) (fun _ i => n + 2 - (intOf i).toNat)
  case atStart => exact ⟨0, by omega, rfl, rfl⟩
  case round =>
    obtain ⟨k, hk, rfl, rfl⟩ := hrel
    have ab := dgAt_bd (xs ++ [8, 1]) (40503 + n) (by omega) k
    by_cases hlt : k < n + 2
    · obtain ⟨b, off, rfl, hbl, hc⟩ := HI.out.at hlt
      have xb := nth_app8 (xs := xs) (k := k) (by rw [hl.out]; exact hlt) HS.out
      unfold Small at xb
      have HK : Hid (dgAt (xs ++ [8, 1]) (40503 + n) (k + 1) = dgStep (dgAt (xs ++ [8, 1]) (40503 + n) k) (nth (xs ++ [8, 1]) k)) := rfl
      obtain ⟨A, hA⟩ : ∃ A, A = dgAt (xs ++ [8, 1]) (40503 + n) k := ⟨_, rfl⟩
      obtain ⟨X, hX⟩ : ∃ X, X = nth (xs ++ [8, 1]) k := ⟨_, rfl⟩
      rw [← hA] at ab ⊢; rw [← hX] at xb hc
      unfold dgStep at HK
      rw [← hA, ← hX] at HK
      clear hA hX
      obtain ⟨ab1, ab2⟩ := ab; obtain ⟨xb1, xb2⟩ := xb
      obtain ⟨rb1, rb2⟩ := emod_bd (n := 25214 * A + X + 17) (p := 1000003) (by omega)
      have qb : 0 ≤ (25214 * A + X + 17) % 1000003 / 64 ∧ (25214 * A + X + 17) % 1000003 / 64 ≤ 15626 := by omega
      obtain ⟨qb1, qb2⟩ := qb
      obtain ⟨mb1, mb2⟩ := mul_bd (a := (25214 * A + X + 17) % 1000003) (b := (25214 * A + X + 17) % 1000003 / 64 + 5) 1000003 15631 (by omega) (by omega) (by omega) (by omega)
      go_wp2_with (go_at_call 51; refine (s_btMod _ _ _ (by omega) (by omega) (by omega) (by omega)).mono ?_; rintro e w' ⟨rfl, rfl⟩)
      go_round
      case rel => exact ⟨k + 1, by omega, by go_num, by rw [HK.out]⟩
      case measure => simp [intOf]; omega
    · obtain rfl : k = n + 2 := by omega
      have HM : Hid (dgMix xs = dgAt (xs ++ [8, 1]) (40503 + n) (n + 2) % 65536) := by show _ = _; unfold dgMix; rw [hl.out]
      obtain ⟨ab1, ab2⟩ := ab
      go_wp2
      go_ret
      exact ⟨ret_int HM.out.symm, HB.out⟩

set_option maxHeartbeats 400000 in
theorem i_with (a : Option Addr) (n cap : Nat) (xs : List Int) (a' : Option Addr) (n' cap' : Nat) (ys : List Int) (w : World) (h : Ints w a n cap xs) (h' : Ints w a' n' cap' ys) (hn : n ≤ 1000000) (hn' : n' ≤ 1000000) :
    Calls Try.prog 121 #[.slice a n cap, .slice a' n' cap'] w fun e w' => ∃ r c, e = .returned (.slice r (n + n') c) ∧ Ints w' r (n + n') c (xs ++ ys) ∧ Below w.heap.size w w' := by
  have hf := h.wf; have hf' := h'.wf
  have HFT : Hid (∀ x ∈ xs ++ ys, Fits x) := fun x hx => by
    rcases List.mem_append.1 hx with k | k
    · exact hf.out x k
    · exact hf'.out x k
  go_enter Try.func121, Try.ntmps121
  go_wp2_with fail
  refine (g_Clone _ _ _ xs _ h (by omega)).mono ?_; rintro e w1 ⟨r, c, rfl, ho, hb1⟩
  have hz1 := hb1.size
  go_wp2_with (at_builtin; refine wp_apps w1 w.heap.size n _ xs ys _ _ _ rfl _ _ rfl rfl rfl (h'.below hb1) ho.own hz1 (by omega) ?_; intro v9 w9 hv9 hb9 hg9; obtain ⟨r2, c2, hr, ho2⟩ := OwnI.of hv9 (by omega) HFT.out; subst hr)
  go_ret
  exact ⟨_, _, rfl, ho2.ints, hb1.trans hb9⟩
set_option maxHeartbeats 400000 in
theorem s_dgWith (a : Option Addr) (n cap : Nat) (xs : List Int) (m : Int) (w : World) (h : Ints w a n cap xs) (hm : Fits m) (hn : n ≤ 1000000) :
    Calls Try.prog 143 #[.slice a n cap, .int .i64 m] w fun e w' => ∃ r c, e = .returned (.slice r (n + 1) c) ∧ Ints w' r (n + 1) c (xs ++ [m]) ∧ Below w.heap.size w w' := by
  have hf := h.wf
  have HFT : Hid (∀ x ∈ xs ++ [m], Fits x) := fun x hx => by
    rcases List.mem_append.1 hx with k | k
    · exact hf.out x k
    · simp at k; rw [k]; exact hm
  go_enter Try.func143, Try.ntmps143
  go_wp2_with fail
  refine (s_l1Own _ _ _ xs _ h (by omega)).mono ?_; rintro e w1 ⟨r, c, rfl, ho, hb1⟩
  have hz1 := hb1.size
  go_wp2_with (at_builtin; refine wp_app w1 w.heap.size n _ xs m _ _ rfl _ _ rfl rfl rfl rfl ho.own hz1 (by omega) ?_; intro v9 w9 hv9 hb9 hg9; obtain ⟨r2, c2, hr, ho2⟩ := OwnI.of hv9 (by omega) HFT.out; subst hr)
  go_ret
  exact ⟨_, _, rfl, ho2.ints, hb1.trans hb9⟩
/-- A number below n, derived from a list. -/
def numFrom (l : List Int) (n : Int) : Int := dgMix (l ++ [n]) % n
theorem numFrom_bd (l : List Int) (n : Int) (h : 1 ≤ n) : 0 ≤ numFrom l n ∧ numFrom l n ≤ n - 1 := by
  have := emod_bd (n := dgMix (l ++ [n])) (p := n) h
  unfold numFrom; omega
theorem small_snoc {xs : List Int} {m : Int} (h : ∀ x ∈ xs, Small x) (hm : Small m) : ∀ x ∈ xs ++ [m], Small x := fun x hx => by
  rcases List.mem_append.1 hx with k | k
  · exact h x k
  · simp at k; rw [k]; exact hm
set_option maxHeartbeats 400000 in
theorem i_numberFrom (a : Option Addr) (n cap : Nat) (xs : List Int) (m : Int) (w : World) (h : Ints w a n cap xs) (hn : n ≤ 900) (hs : ∀ x ∈ xs, Small x) (hm : 1 ≤ m) (hm2 : m ≤ 1000000) :
    Calls Try.prog 140 #[.slice a n cap, .int .i64 m] w fun e w' => e = .returned (.int .i64 (numFrom xs m)) ∧ Below w.heap.size w w' := by
  have HS := Lib.hid (small_snoc hs (m := m) (by unfold Small; omega)); clear hs
  obtain ⟨d1, d2⟩ := dgMix_bd (xs ++ [m])
  have hm0 : ¬ m = 0 := by omega
  go_enter Try.func140, Try.ntmps140
  go_wp2_with fail
  refine (i_with _ _ _ xs _ _ _ [m] _ (h.alloc _) (by exact Ints.lit1 (by simp) (by unfold Fits; omega)) (by omega) (by omega)).mono ?_; rintro e w1 ⟨r, c, rfl, hi, hb1⟩
  go_wp2_with fail
  refine (i_digest _ _ _ _ _ hi (by omega) HS.out).mono ?_; rintro e w2 ⟨rfl, hb2⟩
  go_wp2
  go_ret
  exact ⟨rfl, by (repeat (first | exact Below.refl _ _ | assumption | refine bel_trans ?_ (bel_alloc _ _) | refine bel_set ?_ (by first | (dsimp only; omega) | (simp; omega) | simp) _ | refine bel_trans ?_ (bel_drewN _ _) | refine bel_trans ?_ (bel_drew _) | refine bel_trans ?_ (by assumption)))⟩
set_option maxHeartbeats 400000 in
theorem s_dgBelow (a : Option Addr) (n cap : Nat) (xs : List Int) (m : Int) (w : World) (h : Ints w a n cap xs) (hn : n ≤ 900) (hs : ∀ x ∈ xs, Small x) (hm : 1 ≤ m) (hm2 : m ≤ 1000000) :
    Calls Try.prog 128 #[.slice a n cap, .int .i64 m] w fun e w' => e = .returned (.int .i64 (numFrom xs m)) ∧ Below w.heap.size w w' := by
  have HS := Lib.hid (small_snoc hs (m := m) (by unfold Small; omega)); clear hs
  obtain ⟨d1, d2⟩ := dgMix_bd (xs ++ [m])
  have hm0 : ¬ m = 0 := by omega
  go_enter Try.func128, Try.ntmps128
  go_wp2_with fail
  refine (s_dgWith _ _ _ xs m _ h (by unfold Fits; omega) (by omega)).mono ?_; rintro e w1 ⟨r, c, rfl, hi, hb1⟩
  go_wp2_with fail
  refine (s_digest _ _ _ _ _ hi (by omega) HS.out).mono ?_; rintro e w2 ⟨rfl, hb2⟩
  go_wp2
  go_ret
  exact ⟨rfl, by (repeat (first | exact Below.refl _ _ | assumption | refine bel_trans ?_ (bel_alloc _ _) | refine bel_set ?_ (by first | (dsimp only; omega) | (simp; omega) | simp) _ | refine bel_trans ?_ (bel_drewN _ _) | refine bel_trans ?_ (bel_drew _) | refine bel_trans ?_ (by assumption)))⟩
end Go.Proofs.Ytfichpppjpgahaa
