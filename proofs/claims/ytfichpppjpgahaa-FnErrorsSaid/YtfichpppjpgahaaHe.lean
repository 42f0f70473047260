/-
  Sums of shares; shares of a value.
-/
import Derived.Test.YtfichpppjpgahaaHd
import Derived.Test.YtfichpppjpgahaaDu
import Derived.Test.YtfichpppjpgahaaD2
import Derived.Test.YtfichpppjpgahaaSt
namespace Go.Proofs.Ytfichpppjpgahaa
open Go.RowKit
set_option linter.unusedVariables false
set_option linter.unusedSimpArgs false
set_option maxRecDepth 20000

/-- The sums of the first shares. -/
def suL (p : Int) (xs ys : List Int) : Nat → List Int
  | 0 => []
  | m + 1 => suL p xs ys m ++ [(nth xs m + nth ys m) % p]
theorem suL_len (p : Int) (xs ys : List Int) : ∀ m, (suL p xs ys m).length = m
  | 0 => rfl
  | m + 1 => by rw [suL, List.length_append, suL_len]; rfl
theorem suL_res {p : Int} (hp : 2 ≤ p) (xs ys : List Int) : ∀ m, Res p (suL p xs ys m)
  | 0 => by intro x hx; simp [suL] at hx
  | m + 1 => by
    intro x hx
    rw [suL, List.mem_append] at hx
    rcases hx with hx | hx
    · exact suL_res hp xs ys m x hx
    · simp at hx; subst hx
      exact ⟨Int.emod_nonneg _ (by omega), Int.emod_lt_of_pos _ (by omega)⟩
theorem nth_snocH (l : List Int) (x : Int) (i : Nat) : nth (l ++ [x]) i = if i = l.length then x else nth l i := by
  unfold nth
  simp only [List.getD_eq_getElem?_getD]
  split
  · rename_i h; subst h; simp
  · rename_i h
    rcases Nat.lt_or_ge i l.length with k | k
    · rw [List.getElem?_append_left k]
    · rw [List.getElem?_eq_none (by simp; omega), List.getElem?_eq_none (by omega)]
theorem nth_suL {p : Int} {xs ys : List Int} : ∀ {m i : Nat}, i < m → nth (suL p xs ys m) i = (nth xs i + nth ys i) % p
  | m + 1, i, h => by
    rw [suL, nth_snocH, suL_len]
    split
    · rename_i e; rw [e]
    · exact nth_suL (by omega)
theorem Res.fits {p : Int} (hp : p ≤ 100000) {l : List Int} (h : Res p l) : ∀ x ∈ l, Fits x := fun x hx => by have := h x hx; unfold Fits; omega
def addHolders (p : Int) (xs ys : List Int) : List Int × Bool := if elsB p xs && (elsB p ys && (decide (xs.length = ys.length) && decide (xs.length ≤ 10))) then (suL p xs ys xs.length, true) else ([], false)
set_option maxHeartbeats 1000000 in
theorem i_areShares (p : Int) (a : Option Addr) (n cap : Nat) (xs : List Int) (w : World) (h : Ints w a n cap xs) :
    Calls Try.prog 141 #[.int .i64 p, .slice a n cap] w fun e w' => e = .returned (.bool (elsB p xs && decide (n ≤ 40))) ∧ Below w.heap.size w w' := by
  have HE := Lib.hid (i_areElements p a n cap xs w h)
  clear h
  cases h1 : elsB p xs with
  | false =>
    rw [h1] at HE
    go_enter Try.func141, Try.ntmps141
    go_wp2_with (go_at_call 54; refine HE.out.mono ?_; rintro e w1 ⟨rfl, hb1⟩)
    go_ret
    exact ⟨rfl, hb1⟩
  | true =>
    rw [h1] at HE
    by_cases h2 : n ≤ 40
    · have h2i : (n : Int) ≤ 40 := by omega
      rw [decide_eq_true h2]
      go_enter Try.func141, Try.ntmps141
      go_wp2_with (go_at_call 54; refine HE.out.mono ?_; rintro e w1 ⟨rfl, hb1⟩)
      go_ret
      exact ⟨by first | rfl | (simp [h2i]; done), hb1⟩
    · have h2i : decide ((n : Int) ≤ 40) = false := decide_eq_false (by omega)
      rw [decide_eq_false h2]
      go_enter Try.func141, Try.ntmps141
      go_wp2_with (go_at_call 54; refine HE.out.mono ?_; rintro e w1 ⟨rfl, hb1⟩)
      go_ret
      exact ⟨by first | rfl | (simp [h2i]; done), hb1⟩
theorem i_add1 (x y : Int) (w : World) (h : -100000 ≤ x ∧ x ≤ 100000) (h' : -100000 ≤ y ∧ y ≤ 100000) : Calls Try.prog 127 #[.int .i64 x, .int .i64 y] w fun e w' => e = .returned (.int .i64 (x + y)) ∧ w = w' := by
  obtain ⟨h1, h2⟩ := h; obtain ⟨h3, h4⟩ := h'
  go_enter Try.func127, Try.ntmps127
  go_wp2
  go_ret
  exact ⟨rfl, rfl⟩
set_option maxHeartbeats 4000000 in
theorem i_combined (p : Int) (a : Option Addr) (n cap : Nat) (xs : List Int) (a' : Option Addr) (n' cap' : Nat) (ys : List Int) (w : World) (h : Ints w a n cap xs) (h' : Ints w a' n' cap' ys) (hn : n ≤ 10) :
    Calls Try.prog 126 #[.int .i64 p, .slice a n cap, .slice a' n' cap', .func (.func 127) #[] #[]] w (SliceOk (addHolders p xs ys).1 (addHolders p xs ys).2 w) := by
  have hlx := h.len.out; have hly := h'.len.out
  have HX := Lib.hid h; have HY := Lib.hid h'
  have H1 := Lib.hid (i_areShares p a n cap xs w h)
  have H2 := Lib.hid (fun W hW => i_areShares p a' n' cap' ys W (HY.out.below hW))
  have hs' := h'.small
  unfold addHolders
  rw [hlx, hly]
  clear h h' hly
  cases h1 : elsB p xs with
  | false =>
    rw [h1] at H1
    go_enter Try.func126, Try.ntmps126
    go_wp2_with (go_at_call 141; refine H1.out.mono ?_; rintro e w1 ⟨rfl, hb1⟩)
    go_ret2
    exact ⟨_, _, rfl, Mine.nil, hb1⟩
  | true =>
    rw [h1, decide_eq_true (show n ≤ 40 by omega)] at H1
    have tok : True := trivial
    cases h2 : elsB p ys with
    | false =>
      rw [h2] at H2
      go_enter Try.func126, Try.ntmps126
      go_wp2_with (go_at_call 141; first | (have t0 := tok; clear t0 tok; refine H1.out.mono ?_; rintro e w1 ⟨rfl, hb1⟩) | (refine (H2.out _ hb1).mono ?_; rintro e w2 ⟨rfl, hb2⟩))
      go_ret2
      exact ⟨_, _, rfl, Mine.nil, bel_trans hb1 hb2⟩
    | true =>
      rw [h2] at H2
      by_cases h40 : n' ≤ 40
      · rw [decide_eq_true h40] at H2
        by_cases hnn : n = n'
        · subst hnn
          rw [decide_eq_true rfl, decide_eq_true hn]
          obtain ⟨hp1, hp2⟩ := elsB_p h1
          have HXB := Lib.hid (fun i (hi : i < n) => elsB_nth h1 (i := i) (by rw [hlx]; exact hi))
          have HYB := Lib.hid (fun i (hi : i < n) => elsB_nth h2 (i := i) (by rw [HY.out.len.out]; exact hi))
          have HSL := Lib.hid (suL_len p xs ys n)
          have eA : ∀ args w, (callFunc 127 args).run Try.prog w = .ok (.enter 127 args) w := enters_of Try.func127 (by kernel_rfl) rfl
          have hp0 : ¬ p = 0 := by omega
          clear hlx h1 h2
          go_enter Try.func126, Try.ntmps126
          go_wp2_with (go_at_call 141; first | (have t0 := tok; clear t0 tok; refine H1.out.mono ?_; rintro e w1 ⟨rfl, hb1⟩) | (refine (H2.out _ hb1).mono ?_; rintro e w2 ⟨rfl, hb2⟩))
          have HB2 := Lib.hid (bel_trans hb1 hb2); clear hb1 hb2
          have hz2 := HB2.out.size
          go_loopw [10, 32] (fun v i W => ∃ k : Nat, k ≤ n ∧ i = .int .i64 k ∧ Hid (W.ownsRow w2.heap.size 3 1 v k (ivs (suL p xs ys k))) ∧ Hid (Below w2.heap.size w2 W)) (fun _ i _ => n - (intOf i).toNat)
          case atStart => exact ⟨0, by omega, rfl, (show Hid _ from World.ownsRow_lit w2 #[] 0 (Nat.le_refl _) (by decide) rfl), (show Hid _ from bel_alloc w2 _)⟩
          case round =>
            obtain ⟨k, hk, rfl, HO, HC⟩ := hrel
            obtain ⟨wk, rfl⟩ : ∃ wk : World, wk = wr := ⟨_, rfl⟩
            have hzk := HC.out.size
            by_cases hlt : k < n
            · obtain ⟨b, off, rfl, hbl, hcw⟩ := (HX.out.below HB2.out).at hlt
              obtain ⟨b2, off2, rfl, hbl2, hcw2⟩ := (HY.out.below HB2.out).at hlt
              have hc := cell_on hcw HC.out; have hc2 := cell_on hcw2 HC.out
              clear hcw hcw2
              obtain ⟨x1, x2⟩ := HXB.out k hlt
              obtain ⟨y1, y2⟩ := HYB.out k hlt
              have hki : (k : Int) < (n : Int) := by omega
              have em := emod_bd (n := nth xs k + nth ys k) (p := p) (by omega)
              have t1 : (nth xs k + nth ys k).tmod p = (nth xs k + nth ys k) % p := Int.tmod_eq_emod_of_nonneg (by omega)
              have t2 : IntKind.i64.wrap ((nth xs k + nth ys k) % p + p) = (nth xs k + nth ys k) % p + p := IntWalk.i64_in _ (by omega)
              have t3 : ((nth xs k + nth ys k) % p + p).tmod p = (nth xs k + nth ys k) % p := by
                rw [Int.tmod_eq_emod_of_nonneg (by omega), Int.add_emod_right, Int.emod_emod]
              have HSS : Hid (suL p xs ys (k + 1) = suL p xs ys k ++ [(nth xs k + nth ys k) % p]) := by show _ = _; rfl
              go_wp2_with fail
              go_region_held3 (fun W => W.cell? ⟨b, off + k, none⟩ = some (.int .i64 (nth xs k)) ∧ W.cell? ⟨b2, off2 + k, none⟩ = some (.int .i64 (nth ys k))) (first | exact ⟨(hb9.cell (p := ⟨b, off + k, none⟩) hbl).trans (cell_on hc (by (repeat (first | exact Below.refl _ _ | assumption | refine bel_trans ?_ (bel_alloc _ _) | refine bel_set ?_ (by first | (dsimp only; omega) | (simp; omega) | simp) _ | refine bel_trans ?_ (bel_drewN _ _) | refine bel_trans ?_ (bel_drew _) | refine bel_trans ?_ (by assumption))))), (hb9.cell (p := ⟨b2, off2 + k, none⟩) hbl2).trans (cell_on hc2 (by (repeat (first | exact Below.refl _ _ | assumption | refine bel_trans ?_ (bel_alloc _ _) | refine bel_set ?_ (by first | (dsimp only; omega) | (simp; omega) | simp) _ | refine bel_trans ?_ (bel_drewN _ _) | refine bel_trans ?_ (bel_drew _) | refine bel_trans ?_ (by assumption)))))⟩ | exact ⟨cell_on hc (by (repeat (first | exact Below.refl _ _ | assumption | refine bel_trans ?_ (bel_alloc _ _) | refine bel_set ?_ (by first | (dsimp only; omega) | (simp; omega) | simp) _ | refine bel_trans ?_ (bel_drewN _ _) | refine bel_trans ?_ (bel_drew _) | refine bel_trans ?_ (by assumption)))), cell_on hc2 (by (repeat (first | exact Below.refl _ _ | assumption | refine bel_trans ?_ (bel_alloc _ _) | refine bel_set ?_ (by first | (dsimp only; omega) | (simp; omega) | simp) _ | refine bel_trans ?_ (bel_drewN _ _) | refine bel_trans ?_ (bel_drew _) | refine bel_trans ?_ (by assumption))))⟩) (first
                | (go_at_fn 127; refine (i_add1 _ _ _ (by omega) (by omega)).mono ?_; rintro e w3 ⟨rfl, rfl⟩)
                | (refine step_app wk w2.heap.size k _ (suL p xs ys k) ((nth xs k + nth ys k) % p) _ (by rfl) _ _ (by rfl) (by rfl) (by rfl) (by simp [World.cell?_alloc_at]) HO.out (by (repeat (first | exact Below.refl _ _ | assumption | refine bel_trans ?_ (bel_alloc _ _) | refine bel_set ?_ (by first | (dsimp only; omega) | (simp; omega) | simp) _ | refine bel_trans ?_ (bel_drewN _ _) | refine bel_trans ?_ (bel_drew _) | refine bel_trans ?_ (by assumption)))) hzk (by omega) ?_; intro v9 w9 hv9 hb9 hg9))
              all_goals
                go_wp2
                go_roundw
                case rel => exact ⟨k + 1, by omega, by go_num, (show Hid _ from by rw [HSS.out]; exact hv9), (show Hid _ from HC.out.trans ((show Below w2.heap.size wk _ from Below.mono (by (repeat (first | exact Below.refl _ _ | assumption | refine bel_trans ?_ (bel_alloc _ _) | refine bel_set ?_ (by first | (dsimp only; omega) | (simp; omega) | simp) _ | refine bel_trans ?_ (bel_drewN _ _) | refine bel_trans ?_ (bel_drew _) | refine bel_trans ?_ (by assumption)))) hzk).trans hb9))⟩
                case measure => first | (simp [intOf]; done) | (simp [intOf]; omega)
            · obtain rfl : k = n := by omega
              obtain ⟨r, c, hv, hmr⟩ := Mine.of HO.out (by omega) (Res.fits (by omega) (suL_res hp1 xs ys k))
              subst hv
              have HM := Lib.hid (hmr.base hz2); clear hmr HO
              go_wp2
              go_ret2
              exact ⟨_, _, by rw [HSL.out]; rfl, by rw [HSL.out]; exact HM.out, bel_trans HB2.out HC.out⟩
        · have hnni : ((n : Int) == (n' : Int)) = false := by rw [beq_eq_false_iff_ne]; omega
          have hnni2 : ((n : Int) != (n' : Int)) = true := by rw [bne, hnni]; rfl
          rw [decide_eq_false hnn]
          go_enter Try.func126, Try.ntmps126
          go_wp2_with (go_at_call 141; first | (have t0 := tok; clear t0 tok; refine H1.out.mono ?_; rintro e w1 ⟨rfl, hb1⟩) | (refine (H2.out _ hb1).mono ?_; rintro e w2 ⟨rfl, hb2⟩))
          go_ret2
          exact ⟨_, _, rfl, Mine.nil, bel_trans hb1 hb2⟩
      · rw [decide_eq_false h40] at H2
        rw [decide_eq_false (show ¬ n = n' by omega)]
        go_enter Try.func126, Try.ntmps126
        go_wp2_with (go_at_call 141; first | (have t0 := tok; clear t0 tok; refine H1.out.mono ?_; rintro e w1 ⟨rfl, hb1⟩) | (refine (H2.out _ hb1).mono ?_; rintro e w2 ⟨rfl, hb2⟩))
        go_ret2
        exact ⟨_, _, rfl, Mine.nil, bel_trans hb1 hb2⟩
set_option maxHeartbeats 1000000 in
theorem i_AddShares (p : Int) (a : Option Addr) (n cap : Nat) (xs : List Int) (a' : Option Addr) (n' cap' : Nat) (ys : List Int) (w : World) (h : Ints w a n cap xs) (h' : Ints w a' n' cap' ys) (hn : n ≤ 10) :
    Calls Try.prog 82 #[.int .i64 p, .slice a n cap, .slice a' n' cap'] w (SliceOk (addHolders p xs ys).1 (addHolders p xs ys).2 w) := by
  have HC := Lib.hid (i_combined p a n cap xs a' n' cap' ys w h h' hn)
  go_enter Try.func82, Try.ntmps82
  go_wp2_with (go_at_call 126; refine HC.out.mono ?_; rintro e w1 ⟨r, c, rfl, hm, hb⟩)
  go_ret2
  exact ⟨_, _, rfl, hm, hb⟩
set_option maxHeartbeats 1000000 in
theorem i_AddHolders (p : Int) (a : Option Addr) (n cap : Nat) (xs : List Int) (a' : Option Addr) (n' cap' : Nat) (ys : List Int) (w : World) (h : Ints w a n cap xs) (h' : Ints w a' n' cap' ys) :
    Calls Try.prog 29 #[.int .i64 p, .slice a n cap, .slice a' n' cap'] w (SliceOk (addHolders p xs ys).1 (addHolders p xs ys).2 w) := by
  have hlx := h.len.out
  have hs := h.small
  by_cases hn : n ≤ 10
  · have hni : ¬ (10 : Int) < (n : Int) := by omega
    have HC := Lib.hid (i_AddShares p a n cap xs a' n' cap' ys w h h' hn)
    clear hlx h h'
    go_enter Try.func29, Try.ntmps29
    go_wp2_with (go_at_call 82; refine HC.out.mono ?_; rintro e w1 ⟨r, c, rfl, hm, hb⟩)
    go_ret2
    exact ⟨_, _, rfl, hm, hb⟩
  · have hni : (10 : Int) < (n : Int) := by omega
    have HR : Hid (addHolders p xs ys = ([], false)) := by
      show _ = _
      unfold addHolders
      rw [hlx, decide_eq_false hn]
      cases elsB p xs <;> cases elsB p ys <;> cases decide (n = ys.length) <;> rfl
    rw [HR.out]
    clear hlx h h'
    go_enter Try.func29, Try.ntmps29
    go_wp2
    go_ret2
    exact ⟨_, _, rfl, Mine.nil, Below.refl _ _⟩
set_option maxHeartbeats 4000000 in
theorem s_AddHolders (p : Int) (a : Option Addr) (n cap : Nat) (xs : List Int) (a' : Option Addr) (n' cap' : Nat) (ys : List Int) (w : World) (h : Ints w a n cap xs) (h' : Ints w a' n' cap' ys) :
    Calls Try.prog 30 #[.int .i64 p, .slice a n cap, .slice a' n' cap'] w (SliceOk (addHolders p xs ys).1 (addHolders p xs ys).2 w) := by
  have hlx := h.len.out; have hly := h'.len.out
  have HX := Lib.hid h; have HY := Lib.hid h'
  have H1 := Lib.hid (s_fpIn p a n cap xs w h)
  have H2 := Lib.hid (s_fpIn p a' n' cap' ys w h')
  have hs := h.small; have hs' := h'.small
  unfold addHolders
  rw [hlx, hly]
  clear h h' hly
  have tok : True := trivial
  cases h1 : elsB p xs with
  | false =>
    rw [h1] at H1
    go_enter Try.func30, Try.ntmps30
    go_wp2_with (go_at_call 69; refine H1.out.mono ?_; rintro e w1 ⟨rfl, rfl⟩)
    go_ret2
    exact ⟨_, _, rfl, Mine.nil, Below.refl _ _⟩
  | true =>
    rw [h1] at H1
    cases h2 : elsB p ys with
    | false =>
      rw [h2] at H2
      go_enter Try.func30, Try.ntmps30
      go_wp2_with (go_at_call 69; first | (have t0 := tok; clear t0 tok; refine H1.out.mono ?_; rintro e w1 ⟨rfl, rfl⟩) | (refine H2.out.mono ?_; rintro e w2 ⟨rfl, rfl⟩))
      go_ret2
      exact ⟨_, _, rfl, Mine.nil, Below.refl _ _⟩
    | true =>
      rw [h2] at H2
      by_cases hnn : n = n'
      · subst hnn
        by_cases hn : n ≤ 10
        · have hni : ¬ (10 : Int) < (n : Int) := by omega
          rw [decide_eq_true rfl, decide_eq_true hn]
          obtain ⟨hp1, hp2⟩ := elsB_p h1
          have HXB := Lib.hid (fun i (hi : i < n) => elsB_nth h1 (i := i) (by rw [hlx]; exact hi))
          have HYB := Lib.hid (fun i (hi : i < n) => elsB_nth h2 (i := i) (by rw [HY.out.len.out]; exact hi))
          have HSL := Lib.hid (suL_len p xs ys n)
          clear hlx h1 h2
          go_enter Try.func30, Try.ntmps30
          go_wp2_with (go_at_call 69; first | (have t0 := tok; clear t0 tok; refine H1.out.mono ?_; rintro e w1 ⟨rfl, rfl⟩) | (refine H2.out.mono ?_; rintro e w2 ⟨rfl, rfl⟩))
          go_loopw [8, 35] (fun v i W => ∃ k : Nat, k ≤ n ∧ i = .int .i64 k ∧ Hid (W.ownsRow w.heap.size 3 1 v k (ivs (suL p xs ys k))) ∧ Hid (Below w.heap.size w W)) (fun _ i _ => n - (intOf i).toNat)
          case atStart => exact ⟨0, by omega, rfl, (show Hid _ from World.ownsRow_nil _ _ _ _), (show Hid _ from Below.refl _ _)⟩
          case round =>
            obtain ⟨k, hk, rfl, HO, HC⟩ := hrel
            obtain ⟨wk, rfl⟩ : ∃ wk : World, wk = wr := ⟨_, rfl⟩
            have hzk := HC.out.size
            by_cases hlt : k < n
            · obtain ⟨b, off, rfl, hbl, hc⟩ := (HX.out.below HC.out).at hlt
              obtain ⟨b2, off2, rfl, hbl2, hc2⟩ := (HY.out.below HC.out).at hlt
              obtain ⟨x1, x2⟩ := HXB.out k hlt
              obtain ⟨y1, y2⟩ := HYB.out k hlt
              have hki : (k : Int) < (n : Int) := by omega
              have em := emod_bd (n := nth xs k + nth ys k) (p := p) (by omega)
              have HSS : Hid (suL p xs ys (k + 1) = suL p xs ys k ++ [(nth xs k + nth ys k) % p]) := by show _ = _; rfl
              go_wp2_with (at_builtin; refine wp_app wk w.heap.size k _ (suL p xs ys k) ((nth xs k + nth ys k) % p) _ _ rfl _ _ rfl rfl rfl rfl HO.out hzk (by omega) ?_; intro v9 w9 hv9 hb9 hg9)
              clear hg9
              go_roundw
              case rel => exact ⟨k + 1, by omega, by go_num, (show Hid _ from by rw [HSS.out]; exact hv9), HC.out.trans hb9⟩
              case measure => first | (simp [intOf]; done) | (simp [intOf]; omega)
            · obtain rfl : k = n := by omega
              obtain ⟨r, c, hv, hmr⟩ := Mine.of HO.out (by omega) (Res.fits (by omega) (suL_res hp1 xs ys k))
              subst hv
              have HM := Lib.hid hmr; clear hmr HO
              go_wp2
              go_ret2
              exact ⟨_, _, by rw [HSL.out]; rfl, by rw [HSL.out]; exact HM.out, HC.out⟩
        · have hni : (10 : Int) < (n : Int) := by omega
          rw [decide_eq_true rfl, decide_eq_false hn]
          go_enter Try.func30, Try.ntmps30
          go_wp2_with (go_at_call 69; first | (have t0 := tok; clear t0 tok; refine H1.out.mono ?_; rintro e w1 ⟨rfl, rfl⟩) | (refine H2.out.mono ?_; rintro e w2 ⟨rfl, rfl⟩))
          go_ret2
          exact ⟨_, _, rfl, Mine.nil, Below.refl _ _⟩
      · have hnni : ((n : Int) == (n' : Int)) = false := by rw [beq_eq_false_iff_ne]; omega
        have hnni2 : ((n : Int) != (n' : Int)) = true := by rw [bne, hnni]; rfl
        rw [decide_eq_false hnn]
        go_enter Try.func30, Try.ntmps30
        go_wp2_with (go_at_call 69; first | (have t0 := tok; clear t0 tok; refine H1.out.mono ?_; rintro e w1 ⟨rfl, rfl⟩) | (refine H2.out.mono ?_; rintro e w2 ⟨rfl, rfl⟩))
        go_ret2
        exact ⟨_, _, rfl, Mine.nil, Below.refl _ _⟩
end Go.Proofs.Ytfichpppjpgahaa
