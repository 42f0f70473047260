/-
  Contract: slices.Repeat of one number.
-/
import Derived.Test.YtfichpppjpgahaaLi
import Derived.Deep.RegionLaw
import Derived.BigRegion
import Derived.Laws.CopyOwn
namespace Go.Proofs.Ytfichpppjpgahaa
open Go.RowKit
set_option linter.unusedVariables false
set_option linter.unusedSimpArgs false
set_option maxRecDepth 10000

set_option maxHeartbeats 4000000 in
theorem g_Mul64 (n : Nat) (w : World) (hn : n ≤ 16) :
    Calls Try.prog 148 #[.int .u64 1, .int .u64 n] w fun e w' => e = .returned (.tuple #[.int .u64 0, .int .u64 n]) ∧ w = w' := by
  have hc : n = 0 ∨ n = 1 ∨ n = 2 ∨ n = 3 ∨ n = 4 ∨ n = 5 ∨ n = 6 ∨ n = 7 ∨ n = 8 ∨ n = 9 ∨ n = 10 ∨ n = 11 ∨ n = 12 ∨ n = 13 ∨ n = 14 ∨ n = 15 ∨ n = 16 := by omega
  rcases hc with rfl | rfl | rfl | rfl | rfl | rfl | rfl | rfl | rfl | rfl | rfl | rfl | rfl | rfl | rfl | rfl | rfl
  all_goals
    go_enter Try.func148, Try.ntmps148
    go_wp2
    go_ret2
    exact ⟨rfl, rfl⟩
set_option maxHeartbeats 4000000 in
theorem g_Mul (n : Nat) (w : World) (hn : n ≤ 16) :
    Calls Try.prog 144 #[.int .u64 1, .int .u64 n] w fun e w' => e = .returned (.tuple #[.int .u64 0, .int .u64 n]) ∧ w = w' := by
  go_enter Try.func144, Try.ntmps144
  go_wp2_with (go_at_call 148; refine (g_Mul64 n _ hn).mono ?_; rintro e w1 ⟨rfl, rfl⟩)
  go_ret2
  exact ⟨rfl, rfl⟩
/-- m ones, then zeros up to n. -/
def rep1 (m n : Nat) : List Int := List.replicate m 1 ++ List.replicate (n - m) 0
theorem rep1_len {m n : Nat} (h : m ≤ n) : (rep1 m n).length = n := by simp [rep1]; omega
theorem rep1_all (n : Nat) : rep1 n n = List.replicate n 1 := by simp [rep1]
theorem rep1_none (n : Nat) : rep1 0 n = List.replicate n 0 := by simp [rep1]
theorem nth_rep1' {m n j : Nat} (hj : j < m) : nth (rep1 m n) j = 1 := by
  unfold nth rep1
  rw [List.getD_eq_getElem?_getD, List.getElem?_append_left (by simpa using hj), List.getElem?_replicate, if_pos hj]; rfl
theorem rep1_splice {m n c : Nat} (h : m + c ≤ n) : splice (ivs (rep1 m n)) m (ivs (List.replicate c 1)) = ivs (rep1 (m + c) n) := by
  unfold splice rep1 ivs
  simp only [List.map_append, List.map_replicate, List.length_replicate, List.take_append, List.drop_append]
  rw [← List.replicate_append_replicate, List.append_assoc, List.append_assoc]
  rw [show List.take m (List.replicate m (Value.int IntKind.i64 1)) = List.replicate m (Value.int IntKind.i64 1) by simp, show m - m = 0 by omega, List.take_zero, List.nil_append]
  rw [show List.drop (m + c) (List.replicate m (Value.int IntKind.i64 1)) = [] by simp, List.nil_append, List.drop_replicate, show n - m - (m + c - m) = n - (m + c) by omega]
theorem row_of_owns {w : World} {B g n : Nat} {E : TypeId} {xs : List Int} (h : w.ownsRow B E 1 (.slice (some ⟨g, 0, none⟩) n n) n (ivs xs)) : w.heap[g]? = some (.cells (ivs xs).toArray E (0, 0)) := by
  obtain ⟨hl, h2⟩ := h
  rcases h2 with ⟨hv, _⟩ | ⟨g', cap', cur, hv, _, hh, h1, _, h3, h4⟩
  · simp at hv
  · simp only [Value.slice.injEq, Option.some.injEq, Addr.mk.injEq] at hv
    obtain ⟨⟨rfl, _⟩, _, rfl⟩ := hv
    rw [hh]
    congr 2
    rw [← h4, List.take_of_length_le (by simp at h3 ⊢; omega)]
theorem owns_of_row {w : World} {B g n : Nat} {E : TypeId} {xs : List Int} (h : w.heap[g]? = some (.cells (ivs xs).toArray E (0, 0))) (hB : B ≤ g) (hl : xs.length = n) (hn : n ≤ 1000000) : w.ownsRow B E 1 (.slice (some ⟨g, 0, none⟩) n n) n (ivs xs) :=
  ⟨by rw [ivs_len, hl, Nat.mul_one], .inr ⟨g, n, _, rfl, hB, h, Nat.le_refl _, by unfold maxLen; omega, by simp [ivs_len, hl], by simp [List.take_of_length_le, ivs_len, hl]⟩⟩
theorem cell_of_row {w : World} {g : Nat} {E : TypeId} {xs : List Int} (h : w.heap[g]? = some (.cells (ivs xs).toArray E (0, 0))) {j : Nat} (hj : j < xs.length) (hl : xs.length ≤ 1000000) : w.cell? ⟨g, j, none⟩ = some (.int .i64 (nth xs j)) := by
  have ho := owns_of_row (B := g) (n := xs.length) h (Nat.le_refl _) rfl hl
  rw [World.ownsRow.cellAt ho j (by omega)]
  simp [ivs, nth, hj]
theorem reps_cell {w : World} {g o c : Nat} (h : ∀ j, j < c → w.cell? ⟨g, o + j, none⟩ = some (.int .i64 1)) : ∀ j v, (ivs (List.replicate c 1))[j]? = some v → w.cell? (Addr.add ⟨g, o, none⟩ j) = some v := by
  intro j v hv
  have hj : j < c := by
    rcases Nat.lt_or_ge j c with q | q
    · exact q
    · rw [List.getElem?_eq_none (by simpa [ivs] using q)] at hv; cases hv
  have hv' : v = .int .i64 1 := by
    simp [ivs, List.getElem?_replicate, hj] at hv
    exact hv.symm
  subst hv'
  by_cases hj0 : j = 0
  · subst hj0; simpa [Addr.add] using h 0 hj
  · simpa [Addr.add, hj0] using h j hj
theorem ones_ok (c : Nat) : ∀ v ∈ ivs (List.replicate c 1), v.oneCell' = true := by
  intro v hv
  simp [ivs] at hv
  obtain ⟨_, rfl⟩ := hv
  rfl
set_option maxHeartbeats 4000000 in
theorem g_Repeat (a : Option Addr) (cap n : Nat) (w : World) (h : Ints w a 1 cap [1]) (hn : n ≤ 16) :
    Calls Try.prog 134 #[.slice a 1 cap, .int .i64 n] w fun e w' => ∃ r, e = .returned (.slice r n n) ∧ OwnI 3 w' w.heap.size r n n (List.replicate n 1) ∧ Below w.heap.size w w' := by
  obtain ⟨i0, hi, hz0, hz1, hz2⟩ := info_parts info_int
  have hsz : (Try.prog.info? 3).map (·.size) = some 1 := by kernel_rfl
  obtain ⟨sb, so, rfl, hsl, hsc⟩ := h.at (i := 0) (by omega)
  have hn0 : ¬ (n : Int) < 0 := by omega
  have hn1 : ¬ (9223372036854775807 : Int) < (n : Int) := by omega
  have e0 : IntKind.u64.wrap (n : Int) = n := IntWalk.u64_in _ (by omega)
  have e1 : IntKind.i64.wrap (n : Int) = n := IntWalk.i64_in _ (by omega)
  go_enter Try.func134, Try.ntmps134
  go_wp2_with (first | (go_at_call 144; refine (g_Mul n _ hn).mono ?_; rintro e w1 ⟨rfl, rfl⟩) | (at_make; refine wpList_make_full _ rfl _ _ 24 rfl w.heap.size 3 i0 (.int .i64 0) 1 Try.underlying24 hi hz0 hz1 _ _ _ _ n rfl rfl rfl rfl ?b1 ?b2 ?b3 ?_))
  case b1 => rw [hz2]; omega
  case b2 => unfold maxLen; omega
  case b3 => exact Nat.le_refl _
  intro w1 hown hgrow
  have hb1 : Below w.heap.size w w1 := (Below.refl _ _).grown hgrow (Nat.le_refl _) (fun k hk => by cases hk)
  try simp only [Nat.mul_one, Value.cells] at hown
  rw [made_ivs] at hown
  rw [show List.replicate n (0 : Int) = rep1 0 n from (rep1_none n).symm] at hown
  have hrow := row_of_owns hown
  clear hown hgrow hi hz0 hz1 hz2
  obtain ⟨c, hc⟩ : ∃ c, c = Nat.min 1 n := ⟨_, rfl⟩
  have hcl : (ivs (List.replicate c 1)).length = c := by simp [ivs]
  have hc1 : c ≤ 1 ∧ c ≤ n ∧ (0 < n → 0 < c) := by subst hc; simp only [Nat.min_def]; split <;> omega
  obtain ⟨hc1, hc2, hc3⟩ := hc1
  have hrl : (ivs (rep1 0 n)).length = n := by rw [ivs_len, rep1_len (Nat.zero_le _)]
  have HCC := Lib.hid hc; clear hc
  have hsc1 := cell_on hsc hb1
  have hcs := reps_cell (w := w1) (g := sb) (o := so) (c := c) (fun j hj => by obtain rfl : j = 0 := (by omega); exact hsc1)
  go_wp2_with (with_reducible refine wpList_copy_splice rfl _ _ 24 24 rfl 3 Try.underlying24 hsz _ _ n n 1 cap rfl rfl w.heap.size 0 (ivs (rep1 0 n)) 3 hrow (ivs (List.replicate c 1)) (hcl.trans HCC.out) (fun _ => ⟨rfl, _, rfl, hcs⟩) (by omega) (ones_ok c) w.heap.size w hb1 (Nat.le_refl _) ?_; intro w2 HG2 hB2; rw [hcl])
  have HG := HG2
  rw [rep1_splice (by omega)] at HG
  rw [show 0 + c = c by omega] at HG
  have HB := Lib.hid hB2
  clear HG2 hcs hcl hrow hb1 hsc1 HCC hB2
  go_wp2
  go_loopw [8] (fun i wr => ∃ k : Nat, k ≤ n ∧ (0 < n → 0 < k) ∧ i = .int .i64 k ∧ Hid (wr.heap[w.heap.size]? = some (.cells (ivs (rep1 k n)).toArray 3 (0, 0))) ∧ Hid (Below w.heap.size w wr)) (fun i _ => n - (intOf i).toNat)
  case atStart => exact ⟨c, by omega, hc3, rfl, HG, HB⟩
  case round =>
    clear HG HB hc1 hc2 hc3
    obtain ⟨k, hk, hk0, rfl, HG, HB⟩ := hrel
    by_cases hlt : k < n
    · have hlti : (k : Int) < (n : Int) := by omega
      obtain ⟨c, hc⟩ : ∃ c, c = Nat.min k (n - k) := ⟨_, rfl⟩
      have hcl : (ivs (List.replicate c 1)).length = c := by simp [ivs]
      have hc1 : c ≤ k ∧ c ≤ n - k ∧ 0 < c := by subst hc; simp only [Nat.min_def]; split <;> omega
      obtain ⟨hc1, hc2, hc3⟩ := hc1
      have hrl : (ivs (rep1 k n)).length = n := by rw [ivs_len, rep1_len (by omega)]
      have hi1 : (0 : Int) ≤ (k : Int) := by omega
      have hi2 : (k : Int) ≤ (n : Int) := by omega
      have hi3 : ¬ n = k := by omega
      have hi4 : ((n : Int) - (k : Int)).toNat = n - k := by omega
      have e1 : IntKind.i64.wrap ((k : Int) + c) = ((k + c : Nat) : Int) := by rw [IntWalk.i64_in _ (by omega)]; omega
      have HC := Lib.hid (reps_cell (w := wr.drew) (g := w.heap.size) (o := 0) (c := c) (fun j hj => by rw [Nat.zero_add, cell_of_row (heap_of_below (bel_drew wr) HG.out) (by rw [rep1_len hk]; omega) (by rw [rep1_len hk]; omega), nth_rep1' (by omega)]))
      have HS := Lib.hid (rep1_splice (m := k) (n := n) (c := c) (by omega))
      have HCC := Lib.hid hc; clear hc
      have hsl := lt_of_cell (cell_of_row HG.out (j := 0) (by rw [rep1_len hk]; omega) (by rw [rep1_len hk]; omega))
      go_wp2
      go_region_law (first | (refine step_copy_splice (by rfl) _ _ 24 24 (by rfl) 3 Try.underlying24 hsz (some ⟨w.heap.size, k, none⟩) (some ⟨w.heap.size, 0, none⟩) (n - k) (n - k) k n (by first | go_simp | trace_state) (by first | go_simp | trace_state) w.heap.size k (ivs (rep1 k n)) 3 (by exact heap_of_below (bel_drew wr) HG.out) (ivs (List.replicate c 1)) (hcl.trans HCC.out) (by intro _; exact ⟨rfl, _, rfl, HC.out⟩) (by omega) (ones_ok c) w.heap.size w (by exact bel_trans HB.out (bel_drew wr)) (Nat.le_refl _) ?_; intro w4 HG4 hB4; rw [hcl]))
      try rw [HS.out] at HG4
      have HB4 := Lib.hid hB4
      clear hB4 HS HC HB HG
      go_simp
      go_wp2
      go_roundw
      case rel => exact ⟨k + c, by omega, by omega, by go_num, HG4, HB4⟩
      case measure => simp [intOf]; omega
    · obtain rfl : k = n := by omega
      have hlti : ¬ (k : Int) < (k : Int) := by omega
      go_wp2
      rw [rep1_all] at HG
      have ho := owns_of_row (B := w.heap.size) (n := k) HG.out (Nat.le_refl _) (by simp) (by omega)
      obtain ⟨r9, c9, hv, hm⟩ := OwnI.of ho (by omega) (fun x hx => by rw [List.eq_of_mem_replicate hx]; unfold Fits; omega)
      simp only [Value.slice.injEq] at hv
      obtain ⟨rfl, _, rfl⟩ := hv
      go_ret
      exact ⟨_, rfl, hm, HB.out⟩
end Go.Proofs.Ytfichpppjpgahaa
