/-
  Contracts of the laws' own helpers on slices of tagged values: sizes, copies, comparisons, marks.
-/
import Derived.Test.YtnamhfaacamihaaRec
import Derived.Test.YtnamhfaacamihaaT
import Derived.Deep.RegionHeld3
namespace Go.Proofs.Ytnamhfaacamihaa
open Go.RowKit
set_option linter.unusedVariables false
set_option linter.unusedSimpArgs false

/-- What the size's count says. -/
def SzK (K : Nat) (w : World) (a : Option Addr) (n cap : Nat) (zs : List Int) (left l' : Int) : Prop := l' = -1 ∨ (0 ≤ l' ∧ l' ≤ left ∧ Recs K w a n cap zs ∧ (n : Int) ≤ left ∧ n ≤ 1048576)
set_option maxHeartbeats 1000000 in
theorem l_szTaggedS (a : Option Addr) (n cap : Nat) (zs : List Int) (left : Int) (w : World) (h : RecsIn 2 w a n cap zs) (h0 : 0 ≤ left) (h1 : left ≤ 1048576) :
    Calls Try.prog 36 #[.slice a n cap, .int .i64 left] w fun e w' => ∃ l' : Int, e = .returned (.int .i64 l') ∧ w = w' ∧ SzK 2 w a n cap zs left l' := by
  obtain ⟨hn1, hn2⟩ := h
  by_cases hn : (n : Int) ≤ left
  · have HR := Lib.hid (hn2 (by omega)); clear hn2
    go_enter Try.func36, Try.ntmps36
    go_wp2
    go_ret
    exact ⟨_, rfl, rfl, Or.inr ⟨by omega, by omega, HR.out, hn, by omega⟩⟩
  · clear hn2
    go_enter Try.func36, Try.ntmps36
    go_wp2
    go_ret
    exact ⟨_, rfl, rfl, Or.inl rfl⟩
theorem info_tg : (Try.prog.info? 26).map (fun i => (i.zero, i.size, i.bytes)) = some (some (.agg #[.int .i64 0, .int .i64 0]), 2, 16) := by kernel_rfl
set_option maxHeartbeats 2000000 in
theorem l_convP (a : Option Addr) (n cap : Nat) (zs : List Int) (w : World) (h : Recs 2 w a n cap zs) (hn : n ≤ 1048576) :
    Calls Try.prog 38 #[.slice a n cap] w fun e w' => ∃ a' cap', e = .returned (.slice a' n cap') ∧ MineK 2 w' w.heap.size a' n cap' zs ∧ Below w.heap.size w w' := by
  obtain ⟨i0, hi, hz0, hz1, hz2⟩ := info_parts info_tg
  go_enter Try.func38, Try.ntmps38
  go_wp2_with (at_make; refine wpList_make_full _ rfl _ _ 50 rfl w.heap.size 26 i0 (.agg #[.int .i64 0, .int .i64 0]) 2 Try.underlying50 hi hz0 hz1 _ _ _ _ n rfl rfl rfl rfl ?b1 ?b2 ?b3 ?_)
  case b1 => rw [hz2]; omega
  case b2 => unfold maxLen; omega
  case b3 => exact Nat.le_refl _
  intro w1 hown hgrow
  have hb1 : Below w.heap.size w w1 := (Below.refl _ _).grown hgrow (Nat.le_refl _) (fun k hk => by cases hk)
  (try simp only [Value.cells] at hown)
  rw [madeK 2 (n * 2) #[.int .i64 0, .int .i64 0] rfl (by omega)] at hown
  obtain ⟨a', cap', hv, ho⟩ := MineK.of hown (by omega) (by omega) (fun x hx => by rw [List.eq_of_mem_replicate hx]; unfold Fits; omega)
  simp only [Value.slice.injEq] at hv
  obtain ⟨rfl, _, rfl⟩ := hv
  have hlen := Lib.hid h.len
  clear hown hgrow hi hz0 hz1 hz2
  have HO := Lib.hid ho; clear ho
  have HB := Lib.hid hb1; clear hb1
  go_wp2
  go_loopw [4] (fun i wr => ∃ k : Nat, k ≤ n ∧ i = .int .i64 k ∧ Hid (∃ ys, MineK 2 wr w.heap.size (some ⟨w.heap.size, 0, none⟩) n n ys ∧ ∀ j, j < k * 2 → nth ys j = nth zs j) ∧ Hid (Below w.heap.size w wr)) (fun i _ => n - (intOf i).toNat)
  case atStart => exact ⟨0, by omega, rfl, ⟨_, HO.out, fun j hj => by omega⟩, HB.out⟩
  case round =>
    obtain ⟨k, hk, rfl, HY, BW⟩ := hrel
    clear HO HB
    by_cases hlt : k < n
    · obtain ⟨b, off, rfl, hbl, hc0, hc1⟩ := (h.below BW.out).at2 hlt
      obtain ⟨ys, hy, hjs⟩ := HY.out
      have HJ := Lib.hid hjs; clear hjs
      have HF := Lib.hid (And.intro (h.fit hlt (j := 0) (by omega)) (h.fit hlt (j := 1) (by omega)))
      have HYY := Lib.hid hy; clear hy HY
      go_wp2_with (go_at_call 15; refine (l_toTagged _ _ _).mono ?_; rintro e w2 ⟨rfl, hb2⟩; have HY2 := Lib.hid (HYY.out.below hb2); have hm := HY2.out.at2 hlt; obtain ⟨_, _, e1, m1, m2, m3, m4, m5, m6⟩ := hm; (simp only [Option.some.injEq, Addr.mk.injEq] at e1); obtain ⟨rfl, rfl, _⟩ := e1; (simp only [Nat.zero_add] at m3 m4 m5 m6); have BW2 := Lib.hid (bel_trans BW.out hb2); clear hb2 HYY BW)
      go_roundw
      case rel =>
        have g1 := HY2.out.set (q := k * 2) (by omega) (fld 2 zs k 0) HF.out.1
        have g2 := g1.set (q := k * 2 + 1) (by omega) (fld 2 zs k 1) HF.out.2
        simp only [Nat.zero_add] at g2
        refine ⟨k + 1, by omega, by go_num, (show Hid _ from ⟨_, g2, fun j hj => ?_⟩), (show Hid _ from (BW2.out.setCell (by exact Nat.le_refl _) _).setCell (by exact Nat.le_refl _) _)⟩
        have hyl := HY2.out.recs.len
        rw [nth_set (by rw [List.length_set, hyl]; omega), nth_set (by rw [hyl]; omega)]
        by_cases e1 : j = k * 2 + 1
        · subst e1; rw [if_pos rfl]; rfl
        · rw [if_neg e1]
          by_cases e2 : j = k * 2
          · subst e2; rw [if_pos rfl]; rfl
          · rw [if_neg e2]; exact HJ.out j (by omega)
      case measure => simp [intOf]; omega
    · obtain rfl : k = n := by omega
      obtain ⟨ys, hy, hjs⟩ := HY.out
      have hyl := hy.recs.len
      obtain rfl : ys = zs := eq_of_nth (by rw [hyl, hlen.out]) (fun j hj => hjs j (by rw [← hyl]; exact hj))
      have H := Lib.hid hy; clear hy hjs HY
      go_wp2
      go_ret
      exact ⟨_, _, rfl, H.out, BW.out⟩
set_option maxHeartbeats 400000 in
theorem l_eqTg (x0 x1 : Int) (w : World) :
    Calls Try.prog 21 #[.agg #[.int .i64 x0, .int .i64 x1], .agg #[.int .i64 x0, .int .i64 x1]] w fun e w' => e = .returned (.bool true) ∧ Below w.heap.size w w' := by
  go_enter Try.func21, Try.ntmps21
  go_wp2
  go_ret
  exact ⟨rfl, by (repeat (first | exact Below.refl _ _ | assumption | refine bel_trans ?_ (bel_alloc _ _) | refine bel_set ?_ (by first | (dsimp only; omega) | (simp; omega) | simp) _ | refine bel_trans ?_ (bel_drewN _ _) | refine bel_trans ?_ (bel_drew _) | refine bel_trans ?_ (by assumption)))⟩
set_option maxHeartbeats 2000000 in
theorem l_eqP (a a' : Option Addr) (n cap cap' : Nat) (zs : List Int) (w : World) (h : Recs 2 w a n cap zs) (h' : Recs 2 w a' n cap' zs) :
    Calls Try.prog 40 #[.slice a n cap, .slice a' n cap'] w fun e w' => e = .returned (.bool true) ∧ Below w.heap.size w w' := by
  have hs := h.small
  go_enter Try.func40, Try.ntmps40
  go_wp2
  go_loopw [5] (fun i wr => ∃ k : Nat, k ≤ n ∧ i = .int .i64 k ∧ Hid (Below w.heap.size w wr)) (fun i _ => n - (intOf i).toNat)
  case atStart => exact ⟨0, by omega, rfl, Below.refl _ _⟩
  case round =>
    obtain ⟨k, hk, rfl, BW⟩ := hrel
    by_cases hlt : k < n
    · obtain ⟨b, off, rfl, hbl, hc0, hc1⟩ := (h.below BW.out).at2 hlt
      obtain ⟨b', off', rfl, hbl', hc0', hc1'⟩ := (h'.below BW.out).at2 hlt
      have hlti : (k : Int) < (n : Int) := by omega
      go_wp2
      go_region_held3 (fun W => W.cell? ⟨b, off + k * 2, none⟩ = some (.int .i64 (fld 2 zs k 0)) ∧ W.cell? ⟨b, off + k * 2 + 1, none⟩ = some (.int .i64 (fld 2 zs k 1)) ∧ W.cell? ⟨b', off' + k * 2, none⟩ = some (.int .i64 (fld 2 zs k 0)) ∧ W.cell? ⟨b', off' + k * 2 + 1, none⟩ = some (.int .i64 (fld 2 zs k 1))) (go_keep) (first | (go_at_call 21; refine (l_eqTg _ _ _).mono ?_; rintro e w2 ⟨rfl, hb1⟩; have hb2 := bel_trans (bel_drew _) hb1; clear hb1; have k1 := cell_on hc0 hb2; have k2 := cell_on hc1 hb2; have k3 := cell_on hc0' hb2; have k4 := cell_on hc1' hb2))
      go_wp2
      go_roundw
      case rel => exact ⟨k + 1, by omega, by go_num, (show Hid _ from bel_trans BW.out (by first | exact hb2 | (repeat (first | exact Below.refl _ _ | assumption | refine bel_trans ?_ (bel_alloc _ _) | refine bel_set ?_ (by first | (dsimp only; omega) | (simp; omega) | simp) _ | refine bel_trans ?_ (bel_drewN _ _) | refine bel_trans ?_ (bel_drew _) | refine bel_trans ?_ (by assumption)))))⟩
      case measure => simp [intOf]; omega
    · obtain rfl : k = n := by omega
      go_wp2
      go_ret
      exact ⟨rfl, BW.out⟩
set_option maxHeartbeats 2000000 in
theorem l_markP (a : Option Addr) (n cap B : Nat) (zs : List Int) (k0 : Int) (w : World) (h : MineK 2 w B a n cap zs) (hk0 : -1000000000000 ≤ k0) (hk1 : k0 ≤ 1000000000000) :
    Calls Try.prog 43 #[.slice a n cap, .int .i64 k0] w fun e w' => e = .returned (.int .i64 (k0 + (n * 2 : Nat))) ∧ MineK 2 w' B a n cap (marks k0 (n * 2)) ∧ OnlyM a (n * 2) w w' := by
  have hs := h.small
  have hs2 := h.mine.ints.small
  have HO := Lib.hid h; clear h
  go_enter Try.func43, Try.ntmps43
  go_wp2
  go_loopw [1, 5] (fun s1 i wr => ∃ k : Nat, k ≤ n ∧ i = .int .i64 k ∧ s1 = .int .i64 (k0 + (k * 2 : Nat)) ∧ Hid (∃ ys, MineK 2 wr B a n cap ys ∧ ∀ j, j < k * 2 → nth ys j = k0 + j) ∧ Hid (OnlyM a (n * 2) w wr)) (fun _ i _ => n - (intOf i).toNat)
  case atStart => exact ⟨0, by omega, rfl, by simp, ⟨_, HO.out, fun j hj => by omega⟩, OnlyM.refl _ _ _⟩
  case round =>
    obtain ⟨k, hk, rfl, rfl, HY, BW⟩ := hrel
    clear HO
    by_cases hlt : k < n
    · obtain ⟨ys, hy, hjs⟩ := HY.out
      obtain ⟨g, off, rfl, hBg, hgl, hc0, hc1, hf0, hf1⟩ := hy.at2 hlt
      have hy1 := hy.set (q := k * 2) (by omega) (k0 + (k * 2 : Nat)) (by unfold Fits; omega)
      have hy2 := hy1.set (q := k * 2 + 1) (by omega) (k0 + (k * 2 : Nat) + 1) (by unfold Fits; omega)
      have HJ := Lib.hid hjs; clear hjs
      have HY2 := Lib.hid hy2; clear hy2 hy1
      have hyl := Lib.hid hy.recs.len
      clear hy HY
      go_wp2
      go_roundw
      case rel => exact ⟨k + 1, by omega, by go_num, by first | go_num | (simp; omega), (show Hid _ from ⟨_, HY2.out, fun j hj => by
          rw [nth_set (by rw [List.length_set, hyl.out]; omega), nth_set (by rw [hyl.out]; omega)]
          by_cases e1 : j = k * 2 + 1
          · rw [if_pos e1, e1]; simp; omega
          · rw [if_neg e1]
            by_cases e2 : j = k * 2
            · rw [if_pos e2, e2]
            · rw [if_neg e2]; exact HJ.out j (by omega)⟩), (show Hid _ from (BW.out.setCell (by omega) _).setCell (by omega) _)⟩
      case measure => simp [intOf]; omega
    · obtain rfl : k = n := by omega
      obtain ⟨ys, hy, hjs⟩ := HY.out
      have hyl := hy.recs.len
      obtain rfl : ys = marks k0 (k * 2) := eq_of_nth (by rw [hyl, marks_len]) (fun j hj => by rw [hyl] at hj; rw [hjs j hj, nth_marks hj])
      have H := Lib.hid hy; clear hy hjs HY
      go_wp2
      go_ret
      exact ⟨rfl, H.out, BW.out⟩
end Go.Proofs.Ytnamhfaacamihaa
