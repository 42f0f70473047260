/-
  Contracts of the laws' own helpers on slices of ints: copies, comparisons, marks.
-/
import Derived.Test.YtmkcanbaleecfaaA
import Derived.Test.YtmkcanbaleecfaaOwn
namespace Go.Proofs.Ytmkcanbaleecfaa
open Go.RowKit
set_option linter.unusedVariables false
set_option linter.unusedSimpArgs false

theorem info_int : (Try.prog.info? 3).map (fun i => (i.zero, i.size, i.bytes)) = some (some (.int .i64 0), 1, 8) := by kernel_rfl

theorem made_ivs (n : Nat) : (madeCells #[Value.int .i64 0] n).toList = ivs (List.replicate n 0) := by
  rw [toList_madeCells_one]; simp [ivs]

/-- 'append(out, u)' onto a slice of the call's own: the walk's law, at ints. -/
theorem wp_app {ops : Array Oper} {rest : List Oper} {o : Oper} {a : Act} {Q : Exit → Act → World → Prop} (w : World) (B n : Nat) (v : Value) (xs : List Int) (u : Int) (t : TypeId) (m : Nat)
    (hg : o.guard = none) (s x : Operand) (ho : o.op = .call { callee := .builtin .append, args := #[s, x], argTypes := #[23, 23] })
    (hs : a.eval s = v) (hx : a.eval x = .slice (some ⟨m, 0, none⟩) 1 1) (hm : m = w.heap.size)
    (hown : w.ownsRow B 3 1 v n (ivs xs)) (hB : B ≤ w.heap.size) (hn : n ≤ 1000000000000)
    (h : ∀ v' w', w'.ownsRow B 3 1 v' (n + 1) (ivs (xs ++ [u])) → Below B w w' → (w.alloc (.cells #[.int .i64 u] t)).grownBy w' v.ownBlock → wpList Try.prog ops Q rest (a.put o.dst v') w') :
    wpList Try.prog ops Q (o :: rest) a (w.alloc (.cells #[.int .i64 u] t)) := by
  obtain ⟨i0, hi, hz0, hz1, hz2⟩ := info_parts info_int
  subst hm
  refine wpList_append_own _ hg s x 23 ho B 3 i0 (.int .i64 0) 1 8 Try.underlying23 hi hz0 hz1 hz2 rfl (by decide) v n (ivs xs) hs (hown.alloc _) ⟨w.heap.size, 0, none⟩ 1 1 [.int .i64 u] hx rfl ?_ ?_ (by unfold maxLen; omega) (by omega) (by simp; omega) ?_
  · intro j c hj
    match j, hj with
    | 0, hj =>
      simp at hj; subst hj
      simp [Addr.add, World.cell?_alloc_at]
  · intro c hc; simp at hc; subst hc; rfl
  · intro v' w' h1 h2 _
    rw [← ivs_snoc] at h1
    exact h v' w' h1 (((Below.refl B w).alloc hB _).trans (below_grown_own (hown.alloc _) h2 (by simp; omega))) h2

set_option maxHeartbeats 1000000 in
theorem l_toIntS (a : Option Addr) (n cap : Nat) (xs : List Int) (w : World) (h : Ints w a n cap xs) :
    Calls Try.prog 16 #[.slice a n cap] w fun e w' => ∃ a' cap', e = .returned (.slice a' n cap') ∧ OwnI 3 w' w.heap.size a' n cap' xs ∧ Below w.heap.size w w' := by
  obtain ⟨i0, hi, hz0, hz1, hz2⟩ := info_parts info_int
  have hs := h.small
  go_enter Try.func16, Try.ntmps16
  go_wp2_with (at_make; refine wpList_make_full _ rfl _ _ 23 rfl w.heap.size 3 i0 (.int .i64 0) 1 Try.underlying23 hi hz0 hz1 _ _ _ _ n rfl rfl rfl rfl ?b1 ?b2 ?b3 ?_)
  case b1 => rw [hz2]; omega
  case b2 => unfold maxLen; omega
  case b3 => exact Nat.le_refl _
  intro w1 hown hgrow
  have hb1 : Below w.heap.size w w1 := (Below.refl _ _).grown hgrow (Nat.le_refl _) (fun k hk => by cases hk)
  try simp only [Nat.mul_one, Value.cells] at hown
  rw [made_ivs] at hown
  obtain ⟨a', cap', hv, ho⟩ := OwnI.of hown hs (fun x hx => by rw [List.eq_of_mem_replicate hx]; unfold Fits; omega)
  simp only [Value.slice.injEq] at hv
  obtain ⟨rfl, _, rfl⟩ := hv
  have hlen := h.len
  clear hown hgrow hi hz0 hz1 hz2
  have HO := Lib.hid ho; clear ho
  have HB := Lib.hid hb1; clear hb1
  go_wp2
  go_loopw [4] (fun i wr => ∃ k : Nat, k ≤ n ∧ i = .int .i64 k ∧ Hid (∃ ys, OwnI 3 wr w.heap.size (some ⟨w.heap.size, 0, none⟩) n n ys ∧ ∀ j, j < k → nth ys j = nth xs j) ∧ Hid (Below w.heap.size w wr)) (fun i _ => n - (intOf i).toNat)
  case atStart => exact ⟨0, by omega, rfl, ⟨_, HO.out, fun j hj => by omega⟩, HB.out⟩
  case round =>
    obtain ⟨k, hk, rfl, HY, BW⟩ := hrel
    clear HO HB
    by_cases hlt : k < n
    · obtain ⟨b, off, rfl, hbl, hc⟩ := (h.below BW.out).at hlt
      obtain ⟨ys, hy, hjs⟩ := HY.out
      obtain ⟨g, e, hBg, hgl, hc2, hf2⟩ := hy.at hlt
      simp only [Option.some.injEq, Addr.mk.injEq] at e
      obtain ⟨rfl, _, _⟩ := e
      have hy2 := hy.set hlt (nth xs k) (h.fit hlt)
      have HJ := Lib.hid hjs; clear hjs
      have HY2 := Lib.hid hy2; clear hy2
      have hyl := hy.ints.len
      clear hy HY
      go_wp2
      go_roundw
      case rel => exact ⟨k + 1, by omega, by go_num, (show Hid _ from ⟨_, HY2.out, fun j hj => by
          rw [nth_set (by rw [hyl.out]; exact hlt)]
          by_cases ej : j = k
          · rw [if_pos ej, ej]
          · rw [if_neg ej]; exact HJ.out j (by omega)⟩), (show Hid _ from BW.out.setCell (by exact Nat.le_refl _) _)⟩
      case measure => simp [intOf]; omega
    · obtain rfl : k = n := by omega
      obtain ⟨ys, hy, hjs⟩ := HY.out
      have hyl := hy.ints.len
      obtain rfl : ys = xs := eq_of_nth (by rw [hyl.out, hlen.out]) (fun j hj => hjs j (by rw [← hyl.out]; exact hj))
      have H := Lib.hid hy; clear hy hjs HY
      go_wp2
      go_ret
      exact ⟨_, _, rfl, H.out, BW.out⟩

set_option maxHeartbeats 1000000 in
theorem l_eqIntS (a a' : Option Addr) (n cap cap' : Nat) (xs : List Int) (w : World) (h : Ints w a n cap xs) (h' : Ints w a' n cap' xs) :
    Calls Try.prog 18 #[.slice a n cap, .slice a' n cap'] w fun e w' => e = .returned (.bool true) ∧ Below w.heap.size w w' := by
  have hs := h.small
  go_enter Try.func18, Try.ntmps18
  go_wp2
  go_loopw [5] (fun i wr => ∃ k : Nat, k ≤ n ∧ i = .int .i64 k ∧ Hid (Below w.heap.size w wr)) (fun i _ => n - (intOf i).toNat)
  case atStart => exact ⟨0, by omega, rfl, Below.refl _ _⟩
  case round =>
    obtain ⟨k, hk, rfl, BW⟩ := hrel
    by_cases hlt : k < n
    · obtain ⟨b, off, rfl, hbl, hc⟩ := (h.below BW.out).at hlt
      obtain ⟨b', off', rfl, hbl', hc'⟩ := (h'.below BW.out).at hlt
      have hlti : (k : Int) < (n : Int) := by omega
      go_wp2
      go_quiet (fail)
      go_wp2
      go_roundw
      case rel => exact ⟨k + 1, by omega, by go_num, (show Hid _ from below_drewN BW.out _)⟩
      case measure => simp [intOf]; omega
    · obtain rfl : k = n := by omega
      go_wp2
      go_ret
      exact ⟨rfl, BW.out⟩

set_option maxHeartbeats 1000000 in
theorem l_markIntSo (a : Option Addr) (n cap B : Nat) (xs : List Int) (k0 : Int) (w : World) (h : OwnI 3 w B a n cap xs) (hk0 : -1000000000000 ≤ k0) (hk1 : k0 ≤ 1000000000000) :
    Calls Try.prog 20 #[.slice a n cap, .int .i64 k0] w fun e w' => e = .returned (.int .i64 (k0 + n)) ∧ OwnI 3 w' B a n cap (marks k0 n) ∧ Only a w w' := by
  have hs := h.ints.small
  have HO := Lib.hid h; clear h
  go_enter Try.func20, Try.ntmps20
  go_wp2
  go_loopw [1, 5] (fun s1 i wr => ∃ k : Nat, k ≤ n ∧ i = .int .i64 k ∧ s1 = .int .i64 (k0 + k) ∧ Hid (∃ ys, OwnI 3 wr B a n cap ys ∧ ∀ j, j < k → nth ys j = k0 + j) ∧ Hid (Only a w wr)) (fun _ i _ => n - (intOf i).toNat)
  case atStart => exact ⟨0, by omega, rfl, by simp, ⟨_, HO.out, fun j hj => by omega⟩, Only.refl _ _⟩
  case round =>
    obtain ⟨k, hk, rfl, rfl, HY, BW⟩ := hrel
    clear HO
    by_cases hlt : k < n
    · obtain ⟨ys, hy, hjs⟩ := HY.out
      obtain ⟨g, rfl, hBg, hgl, hc2, hf2⟩ := hy.at hlt
      have hy2 := hy.set hlt (k0 + k) (by unfold Fits; omega)
      have HJ := Lib.hid hjs; clear hjs
      have HY2 := Lib.hid hy2; clear hy2
      have hyl := hy.ints.len
      clear hy HY
      go_wp2
      go_roundw
      case rel => exact ⟨k + 1, by omega, by go_num, by first | go_num | (simp; omega), (show Hid _ from ⟨_, HY2.out, fun j hj => by
          rw [nth_set (by rw [hyl.out]; exact hlt)]
          by_cases ej : j = k
          · rw [if_pos ej, ej]
          · rw [if_neg ej]; exact HJ.out j (by omega)⟩), (show Hid _ from BW.out.setCell _)⟩
      case measure => simp [intOf]; omega
    · obtain rfl : k = n := by omega
      obtain ⟨ys, hy, hjs⟩ := HY.out
      have hyl := hy.ints.len
      obtain rfl : ys = marks k0 k := eq_of_nth (by rw [hyl.out, marks_len]) (fun j hj => by rw [hyl.out] at hj; rw [hjs j hj, nth_marks hj])
      have H := Lib.hid hy; clear hy hjs HY
      go_wp2
      go_ret
      exact ⟨rfl, H.out, BW.out⟩

theorem l_markIntS (a : Option Addr) (n cap B : Nat) (xs : List Int) (k0 : Int) (w : World) (h : OwnI 3 w B a n cap xs) (hk0 : -1000000000000 ≤ k0) (hk1 : k0 ≤ 1000000000000) :
    Calls Try.prog 20 #[.slice a n cap, .int .i64 k0] w fun e w' => e = .returned (.int .i64 (k0 + n)) ∧ OwnI 3 w' B a n cap (marks k0 n) ∧ Below B w w' := by
  refine (l_markIntSo a n cap B xs k0 w h hk0 hk1).mono fun e w' ⟨he, ho, hl⟩ => ⟨he, ho, ?_⟩
  exact Below.only (Below.refl B w) hl h.place (Nat.le_refl _)

set_option maxHeartbeats 1000000 in
theorem l_mark (a : Option Addr) (n cap B : Nat) (xs : List Int) (k0 : Int) (w : World) (h : Mine w B a n cap xs) (hk0 : -1000000000000 ≤ k0) (hk1 : k0 ≤ 1000000000000) :
    Calls Try.prog 20 #[.slice a n cap, .int .i64 k0] w fun e w' => e = .returned (.int .i64 (k0 + n)) ∧ Mine w' B a n cap (marks k0 n) ∧ OnlyM a n w w' := by
  have hs := h.ints.small
  have HO := Lib.hid h; clear h
  go_enter Try.func20, Try.ntmps20
  go_wp2
  go_loopw [1, 5] (fun s1 i wr => ∃ k : Nat, k ≤ n ∧ i = .int .i64 k ∧ s1 = .int .i64 (k0 + k) ∧ Hid (∃ ys, Mine wr B a n cap ys ∧ ∀ j, j < k → nth ys j = k0 + j) ∧ Hid (OnlyM a n w wr)) (fun _ i _ => n - (intOf i).toNat)
  case atStart => exact ⟨0, by omega, rfl, by simp, ⟨_, HO.out, fun j hj => by omega⟩, OnlyM.refl _ _ _⟩
  case round =>
    obtain ⟨k, hk, rfl, rfl, HY, BW⟩ := hrel
    clear HO
    by_cases hlt : k < n
    · obtain ⟨ys, hy, hjs⟩ := HY.out
      obtain ⟨g, off, rfl, hBg, hgl, hc2, hf2⟩ := hy.at hlt
      have hy2 := hy.set hlt (k0 + k) (by unfold Fits; omega)
      have HJ := Lib.hid hjs; clear hjs
      have HY2 := Lib.hid hy2; clear hy2
      have hyl := hy.ints.len
      clear hy HY
      go_wp2
      go_roundw
      case rel => exact ⟨k + 1, by omega, by go_num, by first | go_num | (simp; omega), (show Hid _ from ⟨_, HY2.out, fun j hj => by
          rw [nth_set (by rw [hyl.out]; exact hlt)]
          by_cases ej : j = k
          · rw [if_pos ej, ej]
          · rw [if_neg ej]; exact HJ.out j (by omega)⟩), (show Hid _ from BW.out.setCell (by omega) _)⟩
      case measure => simp [intOf]; omega
    · obtain rfl : k = n := by omega
      obtain ⟨ys, hy, hjs⟩ := HY.out
      have hyl := hy.ints.len
      obtain rfl : ys = marks k0 k := eq_of_nth (by rw [hyl.out, marks_len]) (fun j hj => by rw [hyl.out] at hj; rw [hjs j hj, nth_marks hj])
      have H := Lib.hid hy; clear hy hjs HY
      go_wp2
      go_ret
      exact ⟨rfl, H.out, BW.out⟩

theorem l_conv (a : Option Addr) (n cap : Nat) (xs : List Int) (w : World) (h : Ints w a n cap xs) :
    Calls Try.prog 16 #[.slice a n cap] w fun e w' => ∃ a' cap', e = .returned (.slice a' n cap') ∧ Mine w' w.heap.size a' n cap' xs ∧ Below w.heap.size w w' :=
  (l_toIntS a n cap xs w h).mono fun _ _ ⟨a', c', he, ho, hb⟩ => ⟨a', c', he, ho.mine, hb⟩

set_option maxHeartbeats 1000000 in
theorem l_heldIntS (a : Option Addr) (n cap : Nat) (k0 : Int) (w : World) (h : Ints w a n cap (marks k0 n)) (hk0 : -1000000000000 ≤ k0) (hk1 : k0 ≤ 1000000000000) :
    Calls Try.prog 21 #[.slice a n cap, .int .i64 k0] w fun e w' => e = .returned (.int .i64 (k0 + n)) ∧ w = w' := by
  have hs := h.small
  go_enter Try.func21, Try.ntmps21
  go_wp2
  go_loop [1, 5] (fun s1 i => ∃ k : Nat, k ≤ n ∧ i = .int .i64 k ∧ s1 = .int .i64 (k0 + k)) (fun _ i => n - (intOf i).toNat)
  case atStart => exact ⟨0, by omega, rfl, by simp⟩
  case round =>
    obtain ⟨k, hk, rfl, rfl⟩ := hrel
    by_cases hlt : k < n
    · obtain ⟨b, off, rfl, hbl, hc⟩ := h.at hlt
      rw [nth_marks hlt] at hc
      go_wp2
      go_round
      case rel => exact ⟨k + 1, by omega, by go_num, by first | go_num | (simp; omega)⟩
      case measure => simp [intOf]; omega
    · obtain rfl : k = n := by omega
      go_wp2
      go_ret
      exact ⟨rfl, rfl⟩
end Go.Proofs.Ytmkcanbaleecfaa
