/-
  Contracts of the small functions of numbers.
-/
import Derived.Test.YtfichpppjpgahaaRows
import Derived.Test.YtfichpppjpgahaaPlain
import Derived.WalkKit
import Derived.WalkSpells
import Derived.WalkLawsBesides
import Derived.Shelf.Abstract
namespace Go.Proofs.Ytfichpppjpgahaa
open Go.RowKit
set_option linter.unusedVariables false
set_option linter.unusedSimpArgs false

set_option maxHeartbeats 400000 in
theorem i_within (n lo hi : Int) (w : World) :
    Calls Try.prog 64 #[.int .i64 n, .int .i64 lo, .int .i64 hi] w fun e w' => e = .returned (.bool (inB n lo hi)) ∧ w = w' := by
  by_cases h1 : lo ≤ n
  · by_cases h2 : n ≤ hi
    · rw [show inB n lo hi = true from inB_iff.2 ⟨h1, h2⟩]
      go_enter Try.func64, Try.ntmps64
      go_wp2
      go_ret
      exact ⟨rfl, rfl⟩
    · rw [show inB n lo hi = false from inB_no.2 (by omega)]
      go_enter Try.func64, Try.ntmps64
      go_wp2
      go_ret
      exact ⟨rfl, rfl⟩
  · rw [show inB n lo hi = false from inB_no.2 (by omega)]
    go_enter Try.func64, Try.ntmps64
    go_wp2
    go_ret
    exact ⟨rfl, rfl⟩

set_option maxHeartbeats 1000000 in
theorem i_IsPrime (p : Int) (w : World) :
    Calls Try.prog 114 #[.int .i64 p] w fun e w' => e = .returned (.bool (prB p)) ∧ w = w' := by
  by_cases h1 : 2 ≤ p ∧ p ≤ 251
  · have hin : inB p 2 251 = true := inB_iff.2 h1
    obtain ⟨hp1, hp2⟩ := h1
    go_enter Try.func114, Try.ntmps114
    go_wp2_with (go_at_call 64; refine (i_within _ _ _ _).mono ?_; rintro e w' ⟨rfl, rfl⟩)
    go_loop [3] (fun d => ∃ n : Nat, 2 ≤ n ∧ n ≤ 16 ∧ d = .int .i64 n ∧ ∀ k : Nat, 2 ≤ k → k < n → p % k ≠ 0) (fun d => 20 - (intOf d).toNat)
    case atStart => exact ⟨2, by omega, by omega, rfl, fun k _ _ => by omega⟩
    case round =>
      obtain ⟨n, hn1, hn2, rfl, hall⟩ := hrel
      have H := Lib.hid hall; clear hall
      obtain ⟨hq1, hq2⟩ := mul_bd (a := n) (b := n) 16 16 (by omega) (by omega) (by omega) (by omega)
      by_cases hsq : (n : Int) * n ≤ p
      · have hn15 := sq_le (Int.natCast_nonneg n) hsq hp2
        by_cases hmod : p % (n : Int) = 0
        · have hf := prB_div hn1 hsq hp2 hmod
          go_wp2
          go_ret
          exact ⟨rfl, rfl⟩
        · go_wp2
          go_round
          case rel => exact ⟨n + 1, by omega, by omega, by go_num, fun k hk1 hk2 => by
            rcases Nat.lt_or_ge k n with g | g
            · exact H.out k hk1 g
            · obtain rfl : k = n := by omega
              exact hmod⟩
          case measure => simp [intOf]; omega
      · have hy := prB_yes hp1 hp2 n (by omega) H.out
        go_wp2
        go_ret
        exact ⟨rfl, rfl⟩
  · have hin : inB p 2 251 = false := inB_no.2 h1
    rw [prB_no h1]
    go_enter Try.func114, Try.ntmps114
    go_wp2_with (go_at_call 64; refine (i_within _ _ _ _).mono ?_; rintro e w' ⟨rfl, rfl⟩)
    go_ret
    exact ⟨rfl, rfl⟩

set_option maxHeartbeats 400000 in
theorem s_l1In (n lo hi : Int) (w : World) :
    Calls Try.prog 57 #[.int .i64 n, .int .i64 lo, .int .i64 hi] w fun e w' => e = .returned (.bool (inB n lo hi)) ∧ w = w' := by
  by_cases h1 : lo ≤ n
  · by_cases h2 : n ≤ hi
    · rw [show inB n lo hi = true from inB_iff.2 ⟨h1, h2⟩]
      go_enter Try.func57, Try.ntmps57
      go_wp2
      go_ret
      exact ⟨rfl, rfl⟩
    · rw [show inB n lo hi = false from inB_no.2 (by omega)]
      go_enter Try.func57, Try.ntmps57
      go_wp2
      go_ret
      exact ⟨rfl, rfl⟩
  · rw [show inB n lo hi = false from inB_no.2 (by omega)]
    go_enter Try.func57, Try.ntmps57
    go_wp2
    go_ret
    exact ⟨rfl, rfl⟩

set_option maxHeartbeats 1000000 in
theorem s_fpGood (p : Int) (w : World) :
    Calls Try.prog 112 #[.int .i64 p] w fun e w' => e = .returned (.bool (prB p)) ∧ w = w' := by
  by_cases h1 : 2 ≤ p ∧ p ≤ 251
  · have hin : inB p 2 251 = true := inB_iff.2 h1
    obtain ⟨hp1, hp2⟩ := h1
    go_enter Try.func112, Try.ntmps112
    go_wp2_with (go_at_call 57; refine (s_l1In _ _ _ _).mono ?_; rintro e w' ⟨rfl, rfl⟩)
    go_loop [3] (fun d => ∃ n : Nat, 2 ≤ n ∧ n ≤ 16 ∧ d = .int .i64 n ∧ ∀ k : Nat, 2 ≤ k → k < n → p % k ≠ 0) (fun d => 20 - (intOf d).toNat)
    case atStart => exact ⟨2, by omega, by omega, rfl, fun k _ _ => by omega⟩
    case round =>
      obtain ⟨n, hn1, hn2, rfl, hall⟩ := hrel
      have H := Lib.hid hall; clear hall
      obtain ⟨hq1, hq2⟩ := mul_bd (a := n) (b := n) 16 16 (by omega) (by omega) (by omega) (by omega)
      by_cases hsq : (n : Int) * n ≤ p
      · have hn15 := sq_le (Int.natCast_nonneg n) hsq hp2
        by_cases hmod : p % (n : Int) = 0
        · have hf := prB_div hn1 hsq hp2 hmod
          go_wp2
          go_ret
          exact ⟨rfl, rfl⟩
        · go_wp2
          go_round
          case rel => exact ⟨n + 1, by omega, by omega, by go_num, fun k hk1 hk2 => by
            rcases Nat.lt_or_ge k n with g | g
            · exact H.out k hk1 g
            · obtain rfl : k = n := by omega
              exact hmod⟩
          case measure => simp [intOf]; omega
      · have hy := prB_yes hp1 hp2 n (by omega) H.out
        go_wp2
        go_ret
        exact ⟨rfl, rfl⟩
  · have hin : inB p 2 251 = false := inB_no.2 h1
    rw [prB_no h1]
    go_enter Try.func112, Try.ntmps112
    go_wp2_with (go_at_call 57; refine (s_l1In _ _ _ _).mono ?_; rintro e w' ⟨rfl, rfl⟩)
    go_ret
    exact ⟨rfl, rfl⟩

set_option maxHeartbeats 400000 in
theorem i_isElement (p a : Int) (w : World) :
    Calls Try.prog 53 #[.int .i64 p, .int .i64 a] w fun e w' => e = .returned (.bool (elB p a)) ∧ w = w' := by
  unfold elB
  cases h1 : prB p with
  | true =>
    have hp := prB_lo h1
    go_enter Try.func53, Try.ntmps53
    go_wp2_with (first | (go_at_call 114; refine (i_IsPrime _ _).mono ?_; rintro e w' ⟨rfl, rfl⟩) | (go_at_call 64; refine (i_within _ _ _ _).mono ?_; rintro e w' ⟨rfl, rfl⟩))
    go_ret
    exact ⟨rfl, rfl⟩
  | false =>
    go_enter Try.func53, Try.ntmps53
    go_wp2_with (first | (go_at_call 114; refine (i_IsPrime _ _).mono ?_; rintro e w' ⟨rfl, rfl⟩) | (go_at_call 64; refine (i_within _ _ _ _).mono ?_; rintro e w' ⟨rfl, rfl⟩))
    go_ret
    exact ⟨rfl, rfl⟩

set_option maxHeartbeats 1000000 in
theorem s_l1All (a : Option Addr) (n cap : Nat) (xs : List Int) (lo hi : Int) (w : World) (h : Ints w a n cap xs) :
    Calls Try.prog 70 #[.slice a n cap, .int .i64 lo, .int .i64 hi] w fun e w' => e = .returned (.bool (allIn xs lo hi)) ∧ w = w' := by
  have hs := h.small
  go_enter Try.func70, Try.ntmps70
  go_wp2
  go_loop [11] (fun i => ∃ k : Nat, k ≤ n ∧ i = .int .i64 k ∧ Hid (∀ j, j < k → inB (nth xs j) lo hi = true)) (fun i => n - (intOf i).toNat)
  case atStart => exact ⟨0, by omega, rfl, fun j hj => by omega⟩
  case round =>
    obtain ⟨k, hk, rfl, H⟩ := hrel
    by_cases hlt : k < n
    · obtain ⟨b, off, rfl, hbl, hc⟩ := h.at hlt
      cases hin : inB (nth xs k) lo hi with
      | true =>
        go_wp2_with (go_at_call 57; refine (s_l1In _ _ _ _).mono ?_; rintro e w' ⟨rfl, rfl⟩)
        go_round
        case rel => exact ⟨k + 1, by omega, by go_num, fun j hj => by
            rcases Nat.lt_or_ge j k with g | g
            · exact H.out j g
            · obtain rfl : j = k := by omega
              exact hin⟩
        case measure => simp [intOf]; omega
      | false =>
        have hr := allIn_no (xs := xs) (i := k) (by rw [h.len.out]; exact hlt) hin
        go_wp2_with (go_at_call 57; refine (s_l1In _ _ _ _).mono ?_; rintro e w' ⟨rfl, rfl⟩)
        go_ret
        exact ⟨by first | rfl | (rw [hr]; rfl), rfl⟩
    · obtain rfl : k = n := by omega
      have hr : allIn xs lo hi = true := allIn_iff.2 (by rw [h.len.out]; exact H.out)
      go_wp2
      go_ret
      exact ⟨by first | rfl | (rw [hr]; rfl), rfl⟩

set_option maxHeartbeats 400000 in
theorem s_fpIn (p : Int) (a : Option Addr) (n cap : Nat) (xs : List Int) (w : World) (h : Ints w a n cap xs) :
    Calls Try.prog 69 #[.int .i64 p, .slice a n cap] w fun e w' => e = .returned (.bool (elsB p xs)) ∧ w = w' := by
  unfold elsB
  cases h1 : prB p with
  | true =>
    have hp := prB_lo h1
    go_enter Try.func69, Try.ntmps69
    go_wp2_with (first | (go_at_call 112; refine (s_fpGood _ _).mono ?_; rintro e w' ⟨rfl, rfl⟩) | (go_at_call 70; refine (s_l1All _ _ _ _ _ _ _ h).mono ?_; rintro e w' ⟨rfl, rfl⟩))
    go_ret
    exact ⟨rfl, rfl⟩
  | false =>
    go_enter Try.func69, Try.ntmps69
    go_wp2_with (first | (go_at_call 112; refine (s_fpGood _ _).mono ?_; rintro e w' ⟨rfl, rfl⟩))
    go_ret
    exact ⟨rfl, rfl⟩

set_option maxHeartbeats 1000000 in
theorem g_IndexFunc (a : Option Addr) (n cap : Nat) (xs : List Int) (p : Int → Bool) (g : Nat) (lb : Array Value) (eg : ∀ args w, (callFunc g args).run Try.prog w = .ok (.enter g args) w) (w : World) (h : Ints w a n cap xs)
    (hp : Hid (∀ (W : World) (x : Int), Below w.heap.size w W → Fits x → Calls Try.prog g (#[.int .i64 x] ++ lb) W fun e w' => e = .returned (.bool (p x)) ∧ Below w.heap.size w w')) :
    Calls Try.prog 145 #[.slice a n cap, .func (.func g) #[] lb] w fun e w' => (∃ r : Int, e = .returned (.int .i64 r) ∧ xs.any p = decide (0 ≤ r)) ∧ Below w.heap.size w w' := by
  have hs := h.small
  go_enter Try.func145, Try.ntmps145
  go_wp2
  go_loopw [8] (fun i wr => ∃ k : Nat, k ≤ n ∧ i = .int .i64 k ∧ Hid (∀ j, j < k → p (nth xs j) = false) ∧ Hid (Below w.heap.size w wr)) (fun i _ => n - (intOf i).toNat)
  case atStart => exact ⟨0, by omega, rfl, fun j hj => by omega, Below.refl _ _⟩
  case round =>
    obtain ⟨k, hk, rfl, H, BW⟩ := hrel
    by_cases hlt : k < n
    · obtain ⟨b, off, rfl, hbl, hc⟩ := (h.below BW.out).at hlt
      have hcall := hp.out wr (nth xs k) BW.out (h.fit hlt)
      cases hin : p (nth xs k) with
      | false =>
        rw [hin] at hcall
        have HC := Lib.hid hcall; clear hcall
        go_wp2_with (go_at_fn g; refine HC.out.mono ?_; rintro e w' ⟨rfl, hb'⟩)
        go_roundw
        case rel => exact ⟨k + 1, by omega, by go_num, (show Hid _ from fun j hj => by
            rcases Nat.lt_or_ge j k with g | g
            · exact H.out j g
            · obtain rfl : j = k := by omega
              exact hin), hb'⟩
        case measure => simp [intOf]; omega
      | true =>
        rw [hin] at hcall
        have HC := Lib.hid hcall; clear hcall
        have hr : xs.any p = true := any_yes (xs := xs) (p := p) (i := k) (by rw [h.len.out]; exact hlt) hin
        go_wp2_with (go_at_fn g; refine HC.out.mono ?_; rintro e w' ⟨rfl, hb'⟩)
        go_ret
        exact ⟨⟨_, rfl, by rw [hr]; simp⟩, hb'⟩
    · obtain rfl : k = n := by omega
      have hr : xs.any p = false := any_no (by rw [h.len.out]; exact H.out)
      go_wp2
      go_ret
      exact ⟨⟨_, rfl, by rw [hr]; simp⟩, BW.out⟩

set_option maxHeartbeats 1000000 in
theorem g_ContainsFunc (a : Option Addr) (n cap : Nat) (xs : List Int) (p : Int → Bool) (g : Nat) (lb : Array Value) (eg : ∀ args w, (callFunc g args).run Try.prog w = .ok (.enter g args) w) (w : World) (h : Ints w a n cap xs)
    (hp : Hid (∀ (W : World) (x : Int), Below w.heap.size w W → Fits x → Calls Try.prog g (#[.int .i64 x] ++ lb) W fun e w' => e = .returned (.bool (p x)) ∧ Below w.heap.size w w')) :
    Calls Try.prog 138 #[.slice a n cap, .func (.func g) #[] lb] w fun e w' => e = .returned (.bool (xs.any p)) ∧ Below w.heap.size w w' := by
  go_enter Try.func138, Try.ntmps138
  go_wp2_with (go_at_call 145; refine (g_IndexFunc _ _ _ _ p g lb eg _ h hp).mono ?_; rintro e w' ⟨⟨r, rfl, hr⟩, hb'⟩)
  go_ret
  exact ⟨ret_bool hr.symm, hb'⟩

set_option maxHeartbeats 1000000 in
theorem i_areAll1 (x : Int) (b : Nat) (q : Bool) (g : Nat) (lb : Array Value) (eg : ∀ args w, (callFunc g args).run Try.prog w = .ok (.enter g args) w) (w : World)
    (hc : w.cell? ⟨b, 0, none⟩ = some (.func (.func g) #[] lb)) (R : World → Prop) (hp : Hid (Calls Try.prog g (#[.int .i64 x] ++ lb) w fun e w' => e = .returned (.bool q) ∧ R w')) :
    Calls Try.prog 139 #[.int .i64 x, .pointer (some ⟨b, 0, none⟩)] w fun e w' => e = .returned (.bool (!q)) ∧ R w' := by
  go_enter Try.func139, Try.ntmps139
  go_wp2_with (go_at_fn g; refine hp.out.mono ?_; rintro e w' ⟨rfl, hb'⟩)
  go_ret
  exact ⟨rfl, hb'⟩

set_option maxHeartbeats 1000000 in
theorem i_areAll (a : Option Addr) (n cap : Nat) (xs : List Int) (p : Int → Bool) (g : Nat) (lb : Array Value) (eg : ∀ args w, (callFunc g args).run Try.prog w = .ok (.enter g args) w) (w : World) (h : Ints w a n cap xs)
    (hp : Hid (∀ (W : World) (x : Int), Below w.heap.size w W → Fits x → Calls Try.prog g (#[.int .i64 x] ++ lb) W fun e w' => e = .returned (.bool (p x)) ∧ W = w')) :
    Calls Try.prog 115 #[.slice a n cap, .func (.func g) #[] lb] w fun e w' => e = .returned (.bool (xs.all p)) ∧ Below w.heap.size w w' := by
  have eA : ∀ args w, (callFunc 139 args).run Try.prog w = .ok (.enter 139 args) w := enters_of Try.func139 (by kernel_rfl) rfl
  have hg := g_ContainsFunc a n cap xs (fun x => !p x) 139 #[.pointer (some ⟨w.heap.size, 0, none⟩)] eA (w.alloc (.cells #[.func (.func g) #[] lb] 75)) (h.alloc _) (fun W x hW hx => by
    have hc : W.cell? ⟨w.heap.size, 0, none⟩ = some (.func (.func g) #[] lb) := by
      rw [hW.cell (p := ⟨w.heap.size, 0, none⟩) (by simp)]
      exact World.cell?_alloc_at _ _ _ _ rfl
    refine (i_areAll1 x w.heap.size (p x) g lb eg W hc (fun w' => W = w') (hp.out W x (((Below.refl _ _).alloc (Nat.le_refl _) _).trans (hW.mono (by simp))) hx)).mono fun e w' ⟨he, hw⟩ => ⟨he, hw ▸ hW⟩)
  have HG := Lib.hid hg; clear hg
  have hall : (!xs.any fun x => !p x) = xs.all p := by simp [List.all_eq_not_any_not]
  clear hp eg
  go_enter Try.func115, Try.ntmps115
  go_wp2_with (go_at_call 138; refine HG.out.mono ?_; rintro e w' ⟨rfl, hb'⟩)
  go_ret
  exact ⟨by first | rfl | exact ret_bool hall, ((Below.refl _ _).alloc (Nat.le_refl _) _).trans (hb'.mono (by simp))⟩

set_option maxHeartbeats 1000000 in
theorem i_areElements1 (x p : Int) (b : Nat) (w : World) (hc : w.cell? ⟨b, 0, none⟩ = some (.int .i64 p)) (hp : 2 ≤ p ∧ p ≤ 251) :
    Calls Try.prog 116 #[.int .i64 x, .pointer (some ⟨b, 0, none⟩)] w fun e w' => e = .returned (.bool (inB x 0 (p - 1))) ∧ w = w' := by
  obtain ⟨hp1, hp2⟩ := hp
  go_enter Try.func116, Try.ntmps116
  go_wp2_with (go_at_call 64; refine (i_within _ _ _ _).mono ?_; rintro e w' ⟨rfl, rfl⟩)
  go_ret
  exact ⟨rfl, rfl⟩

set_option maxHeartbeats 1000000 in
theorem i_areElements (p : Int) (a : Option Addr) (n cap : Nat) (xs : List Int) (w : World) (h : Ints w a n cap xs) :
    Calls Try.prog 54 #[.int .i64 p, .slice a n cap] w fun e w' => e = .returned (.bool (elsB p xs)) ∧ Below w.heap.size w w' := by
  unfold elsB
  cases h1 : prB p with
  | true =>
    have hp := prB_lo h1
    have eA : ∀ args w, (callFunc 116 args).run Try.prog w = .ok (.enter 116 args) w := enters_of Try.func116 (by kernel_rfl) rfl
    have hg := i_areAll a n cap xs (fun x => inB x 0 (p - 1)) 116 #[.pointer (some ⟨w.heap.size, 0, none⟩)] eA (w.alloc (.cells #[.int .i64 p] 3)) (h.alloc _) (fun W x hW hx =>
      i_areElements1 x p w.heap.size W (by
        rw [hW.cell (p := ⟨w.heap.size, 0, none⟩) (by simp)]
        exact World.cell?_alloc_at _ _ _ _ rfl) hp)
    have HG := Lib.hid hg; clear hg
    go_enter Try.func54, Try.ntmps54
    go_wp2_with (first | (go_at_call 114; refine (i_IsPrime _ _).mono ?_; rintro e w' ⟨rfl, rfl⟩) | (go_at_call 115; refine HG.out.mono ?_; rintro e w' ⟨rfl, hb'⟩))
    go_ret
    exact ⟨rfl, ((Below.refl _ _).alloc (Nat.le_refl _) _).trans (hb'.mono (by simp))⟩
  | false =>
    go_enter Try.func54, Try.ntmps54
    go_wp2_with (first | (go_at_call 114; refine (i_IsPrime _ _).mono ?_; rintro e w' ⟨rfl, rfl⟩))
    go_ret
    exact ⟨rfl, (Below.refl _ _).alloc (Nat.le_refl _) _⟩
set_option maxHeartbeats 400000 in
theorem s_btMod (p n : Int) (w : World) (hp : 1 ≤ p) (hp2 : p ≤ 1000000000) (hn : -4000000000000000000 ≤ n) (hn2 : n ≤ 4000000000000000000) :
    Calls Try.prog 51 #[.int .i64 n, .int .i64 p] w fun e w' => e = .returned (.int .i64 (n % p)) ∧ w = w' := by
  have hb := tmod_bd (n := n) hp
  have H := Lib.hid (tmod_add (n := n) hp)
  obtain ⟨hb1, hb2⟩ := hb
  go_enter Try.func51, Try.ntmps51
  go_wp2
  go_ret
  exact ⟨by first | rfl | exact ret_int H.out, rfl⟩

end Go.Proofs.Ytfichpppjpgahaa
