/-
  A polynomial times x + a: the stages of the loop; the reference's fpTimes.
-/
import Derived.Test.YtfichpppjpgahaaLh
namespace Go.Proofs.Ytfichpppjpgahaa
open Go.RowKit
set_option linter.unusedVariables false
set_option linter.unusedSimpArgs false

/-- The factor before place j. -/
def pvL (l : List Int) (j : Nat) : Int := if j = 0 then 0 else nth l (j - 1)
/-- What stands at place j behind i rounds. -/
def stg (p a : Int) (l : List Int) (i j : Nat) : Int := if j < i then (pvL l j % p + nth l j * a) % p else if j = i then pvL l j % p else 0
theorem nth_consS (c : Int) (cs : List Int) (j : Nat) : nth (c :: cs) (j + 1) = nth cs j := by simp [nth]
theorem nth_cons0 (c : Int) (cs : List Int) : nth (c :: cs) 0 = c := by simp [nth]
theorem nth_mxGo (p a : Int) : ∀ (l : List Int) (prev : Int) (j : Nat), j ≤ l.length → nth (mxGo p a prev l) j = if j < l.length then ((if j = 0 then prev else nth l (j - 1)) % p + nth l j * a) % p else (if j = 0 then prev else nth l (j - 1)) % p
  | [], prev, j, h => by
    obtain rfl : j = 0 := by simpa using h
    simp [mxGo, nth]
  | c :: cs, prev, 0, h => by simp [mxGo, nth_cons0]
  | c :: cs, prev, j + 1, h => by
    rw [mxGo, nth_consS, nth_mxGo p a cs c j (by simpa using h)]
    have e : (if j = 0 then c else nth cs (j - 1)) = nth (c :: cs) j := by
      cases j with
      | zero => simp [nth_cons0]
      | succ j => simp [nth_consS]
    simp only [e, nth_consS, List.length_cons, Nat.add_lt_add_iff_right, Nat.add_one_ne_zero, if_false, Nat.add_sub_cancel]
theorem stg_end (p a : Int) (l : List Int) (j : Nat) (h : j ≤ l.length) : stg p a l l.length j = nth (mx p a l) j := by
  unfold mx
  rw [nth_mxGo p a l 0 j h]
  unfold stg pvL
  by_cases h1 : j < l.length
  · rw [if_pos h1, if_pos h1]
  · have : j = l.length := by omega
    rw [if_neg h1, if_neg h1, if_pos this]
theorem stg_0 (p a : Int) (l : List Int) (j : Nat) : stg p a l 0 j = 0 := by
  unfold stg pvL
  rw [if_neg (by omega)]
  split
  · rename_i h; subst h; simp
  · rfl
theorem stg_bd {p : Int} (hp : 2 ≤ p) (a : Int) (l : List Int) (i j : Nat) : 0 ≤ stg p a l i j ∧ stg p a l i j < p := by
  unfold stg
  split
  · exact ⟨Int.emod_nonneg _ (by omega), Int.emod_lt_of_pos _ (by omega)⟩
  · split
    · exact ⟨Int.emod_nonneg _ (by omega), Int.emod_lt_of_pos _ (by omega)⟩
    · exact ⟨Int.le_refl _, by omega⟩
theorem stg_lo (p a : Int) (l : List Int) (i : Nat) : (stg p a l i i + nth l i * a) % p = stg p a l (i + 1) i := by
  unfold stg
  rw [if_neg (by omega), if_pos rfl, if_pos (by omega)]
theorem stg_hi (p a : Int) (l : List Int) (i : Nat) : (stg p a l i (i + 1) + nth l i) % p = stg p a l (i + 1) (i + 1) := by
  unfold stg
  rw [if_neg (by omega), if_neg (by omega), if_neg (by omega), if_pos rfl, Int.zero_add]
  unfold pvL
  rw [if_neg (by omega), Nat.add_sub_cancel]
theorem stg_other (p a : Int) (l : List Int) (i j : Nat) (h : j ≠ i) (h' : j ≠ i + 1) : stg p a l i j = stg p a l (i + 1) j := by
  unfold stg
  by_cases h1 : j < i
  · rw [if_pos h1, if_pos (by omega)]
  · rw [if_neg h1, if_neg h, if_neg (by omega), if_neg h']
theorem nth_rep (n j : Nat) : nth (List.replicate n 0) j = 0 := by
  unfold nth
  rw [List.getD_eq_getElem?_getD, List.getElem?_replicate]
  split <;> rfl
theorem mx_len (p a : Int) (l : List Int) : (mx p a l).length = l.length + 1 := mxGo_len p a l 0
set_option maxHeartbeats 2000000 in
theorem s_fpTimes (p q : Int) (a : Option Addr) (n cap : Nat) (l : List Int) (w : World) (h : Ints w a n cap l) (hp : 2 ≤ p ∧ p ≤ 251) (hq : 0 ≤ q ∧ q ≤ 251) (hl : Hid (∀ i, i < n → 0 ≤ nth l i ∧ nth l i ≤ 250)) (hn : n ≤ 1000) :
    Calls Try.prog 52 #[.int .i64 p, .slice a n cap, .int .i64 q] w fun e w' => ∃ r c, e = .returned (.slice r (n + 1) c) ∧ OwnI 3 w' w.heap.size r (n + 1) c (mx p q l) ∧ Below w.heap.size w w' := by
  obtain ⟨hp1, hp2⟩ := hp; obtain ⟨hq1, hq2⟩ := hq
  obtain ⟨i0, hi, hz0, hz1, hz2⟩ := info_parts info_int
  have hlen := Lib.hid h.len.out
  go_enter Try.func52, Try.ntmps52
  go_wp2_with (at_make; refine wpList_make_full _ rfl _ _ 24 rfl w.heap.size 3 i0 (.int .i64 0) 1 Try.underlying24 hi hz0 hz1 _ _ _ _ (n + 1) rfl rfl rfl rfl ?b1 ?b2 ?b3 ?_)
  case b1 => rw [hz2]; omega
  case b2 => unfold maxLen; omega
  case b3 => exact Nat.le_refl _
  intro w1 hown hgrow
  have hb1 : Below w.heap.size w w1 := (Below.refl _ _).grown hgrow (Nat.le_refl _) (fun k hk => by cases hk)
  try simp only [Nat.mul_one, Value.cells] at hown
  rw [made_ivs] at hown
  obtain ⟨a', cap', hv, ho⟩ := OwnI.of hown (by omega) (fun x hx => by rw [List.eq_of_mem_replicate hx]; unfold Fits; omega)
  simp only [Value.slice.injEq] at hv
  obtain ⟨rfl, _, rfl⟩ := hv
  clear hown hgrow hi hz0 hz1 hz2
  have HO := Lib.hid ho; clear ho
  have HB := Lib.hid hb1; clear hb1
  go_wp2
  go_loopw [16] (fun i wr => ∃ k : Nat, k ≤ n ∧ i = .int .i64 k ∧ Hid (∃ ys, OwnI 3 wr w.heap.size (some ⟨w.heap.size, 0, none⟩) (n + 1) (n + 1) ys ∧ ∀ j, j ≤ n → nth ys j = stg p q l k j) ∧ Hid (Below w.heap.size w wr)) (fun i _ => n - (intOf i).toNat)
  case atStart => exact ⟨0, by omega, rfl, ⟨_, HO.out, fun j hj => by rw [nth_rep, stg_0]⟩, HB.out⟩
  case round =>
    obtain ⟨k, hk, rfl, HY, BW⟩ := hrel
    clear HO HB
    obtain ⟨ys, hy, hjs⟩ := HY.out
    have hyl := hy.ints.len
    by_cases hlt : k < n
    · obtain ⟨b, off, rfl, hbl, hc⟩ := (h.below BW.out).at hlt
      obtain ⟨g, e, hBg, hgl, hcA, hfA⟩ := hy.at (i := k) (by omega)
      simp only [Option.some.injEq, Addr.mk.injEq] at e
      obtain ⟨rfl, _, _⟩ := e
      rw [hjs k (by omega)] at hcA
      obtain ⟨c1, c2⟩ := hl.out k hlt
      obtain ⟨q1, q2⟩ := mul_bd (a := nth l k) (b := q) 250 251 (by omega) (by omega) (by omega) (by omega)
      obtain ⟨s1, s2⟩ := stg_bd hp1 q l k k
      obtain ⟨s3, s4⟩ := stg_bd hp1 q l k (k + 1)
      have e1 := emod_bd (n := stg p q l k k + nth l k * q) (p := p) (by omega)
      have e2 := emod_bd (n := stg p q l k (k + 1) + nth l k) (p := p) (by omega)
      have hy1 := hy.set (i := k) (by omega) ((stg p q l k k + nth l k * q) % p) (by unfold Fits; omega)
      obtain ⟨g, e, _, _, hcB, hfB⟩ := hy1.at (i := k + 1) (by omega)
      simp only [Option.some.injEq, Addr.mk.injEq] at e
      obtain ⟨rfl, _, _⟩ := e
      rw [nth_set (by rw [hyl.out]; omega), if_neg (by omega), hjs (k + 1) (by omega)] at hcB
      have HY2 := Lib.hid (hy1.set (i := k + 1) (by omega) ((stg p q l k (k + 1) + nth l k) % p) (by unfold Fits; omega))
      have HJ := Lib.hid hjs
      clear hy hy1 hjs HY
      go_wp2
      go_roundw
      case rel => exact ⟨k + 1, by omega, by go_num, (show Hid _ from ⟨_, HY2.out, fun j hj => by
          rw [nth_set (by rw [List.length_set, hyl.out]; omega)]
          by_cases ej : j = k + 1
          · rw [if_pos ej, ej]; exact stg_hi p q l k
          · rw [if_neg ej, nth_set (by rw [hyl.out]; omega)]
            by_cases ek : j = k
            · rw [if_pos ek, ek]; exact stg_lo p q l k
            · rw [if_neg ek, HJ.out j hj]; exact stg_other p q l k j ek ej⟩), (show Hid _ from (BW.out.setCell (Nat.le_refl _) _).setCell (Nat.le_refl _) _)⟩
      case measure => simp [intOf]; omega
    · obtain rfl : k = n := by omega
      obtain rfl : ys = mx p q l := eq_of_nth (by rw [hyl.out, mx_len, hlen.out]) (fun j hj => by
        rw [hyl.out] at hj
        rw [hjs j (by omega), ← stg_end p q l j (by rw [hlen.out]; omega), hlen.out])
      have H := Lib.hid hy; clear hy hjs HY
      go_wp2
      go_ret
      exact ⟨_, _, rfl, H.out, BW.out⟩
end Go.Proofs.Ytfichpppjpgahaa
