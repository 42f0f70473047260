/-
  Contracts: inputs of a circuit; the shares of all inputs, both sides.
-/
import Derived.Test.YtfejpmfcognikaaC5
import Derived.Test.YtfejpmfcognikaaE
import Derived.Test.YtfejpmfcognikaaDb
import Derived.Test.YtfejpmfcognikaaDu
namespace Go.Proofs.Ytfejpmfcognikaa
open Go.RowKit
set_option linter.unusedVariables false
set_option linter.unusedSimpArgs false
set_option maxRecDepth 10000

/-- Inputs of a valid circuit. -/
def askB (i0 i1 : Int) (gs : List Int) (gn : Nat) (os us vs : List Int) : Bool := circB i0 i1 gs gn os && (bitsB us && (bitsB vs && (decide ((us.length : Int) = i0) && decide ((vs.length : Int) = i1))))
theorem askB_iff {i0 i1 : Int} {gs os us vs : List Int} {gn : Nat} : askB i0 i1 gs gn os us vs = true ↔ circB i0 i1 gs gn os = true ∧ bitsB us = true ∧ bitsB vs = true ∧ (us.length : Int) = i0 ∧ (vs.length : Int) = i1 := by
  unfold askB; simp only [Bool.and_eq_true, decide_eq_true_iff]
theorem askB_no {i0 i1 : Int} {gs os us vs : List Int} {gn : Nat} (h : ¬ (circB i0 i1 gs gn os = true ∧ bitsB us = true ∧ bitsB vs = true ∧ (us.length : Int) = i0 ∧ (vs.length : Int) = i1)) : askB i0 i1 gs gn os us vs = false := by
  cases k : askB i0 i1 gs gn os us vs with
  | false => rfl
  | true => exact absurd (askB_iff.1 k) h
theorem circB_in {i0 i1 : Int} {gs os : List Int} {gn : Nat} (h : circB i0 i1 gs gn os = true) : (0 ≤ i0 ∧ i0 ≤ 20) ∧ (0 ≤ i1 ∧ i1 ≤ 20) ∧ gn ≤ 300 ∧ os.length ≤ 40 := circS_iff.1 (circB_iff.1 h).1
theorem nth_bitsLc {l : List Int} {n k : Nat} (h : k < n) : nth (bitsL l n) k = bitAt l k := by simp [nth, bitsL, h]
theorem bitsB_nthc {xs : List Int} {i : Nat} (h : bitsB xs = true) (hi : i < xs.length) : 0 ≤ nth xs i ∧ nth xs i ≤ 1 := inB_iff.1 (allIn_iff.1 h i hi)
theorem bits_pair {xs l : List Int} {n : Nat} (h : bitsB xs = true) (hl : xs.length = n) : Hid (∀ i, i < n → (0 ≤ nth xs i ∧ nth xs i ≤ 1) ∧ (0 ≤ nth (bitsL l n) i ∧ nth (bitsL l n) i ≤ 1)) := fun i hi => by
  refine ⟨bitsB_nthc h (by omega), ?_⟩
  rw [nth_bitsLc hi]; exact bitAt_bd _ _
theorem lit2_cells {W : World} {m : Nat} {a b : Int} (h0 : W.cell? ⟨m, 0, none⟩ = some (.int .i64 a)) (h1 : W.cell? ⟨m, 1, none⟩ = some (.int .i64 b)) (ha : Fits a) (hb : Fits b) :
    Ints W (some ⟨m, 0, none⟩) 2 2 [a, b] := by
  have hl := lt_of_cell h0
  refine ⟨rfl, Nat.le_refl _, by omega, by omega, fun i hi => ⟨m, 0, rfl, hl, ?_⟩, fun x hx => by simp at hx; rcases hx with rfl | rfl <;> assumption, fun e => by cases e⟩
  match i, hi with
  | 0, _ => simpa [nth] using h0
  | 1, _ => simpa [nth] using h1
theorem small2 {key k : Int} (hk : 0 ≤ key ∧ key ≤ 1000000000) (h2 : 0 ≤ k ∧ k ≤ 1000) : ∀ x ∈ [key, k], Small x := fun x hx => by
  simp at hx
  rcases hx with rfl | rfl <;> unfold Small <;> omega
/-- The shares of all inputs. -/
def shU (key : Int) (us vs : List Int) : List Int := xrL us (bitsL [key, 221] us.length) us.length ++ bitsL [key, 222] vs.length
def shV (key : Int) (us vs : List Int) : List Int := bitsL [key, 221] us.length ++ xrL vs (bitsL [key, 222] vs.length) vs.length
theorem fits_app {xs ys : List Int} (h : ∀ x ∈ xs, Fits x) (k : ∀ x ∈ ys, Fits x) : ∀ x ∈ xs ++ ys, Fits x := fun x hx => by
  rcases List.mem_append.1 hx with q | q
  · exact h x q
  · exact k x q
theorem shU_fit (key : Int) (us vs : List Int) : ∀ x ∈ shU key us vs, Fits x := fits_app (xrL_fit _ _ _) (bitsL_fit _ _)
theorem shV_fit (key : Int) (us vs : List Int) : ∀ x ∈ shV key us vs, Fits x := fits_app (bitsL_fit _ _) (xrL_fit _ _ _)
theorem xrL_lenc (xs ys : List Int) (n : Nat) : (xrL xs ys n).length = n := by simp [xrL]
theorem bitsL_lenc (l : List Int) (n : Nat) : (bitsL l n).length = n := by simp [bitsL]
theorem shU_len (key : Int) (us vs : List Int) : (shU key us vs).length = us.length + vs.length := by unfold shU; rw [List.length_append, xrL_lenc, bitsL_lenc]
theorem shV_len (key : Int) (us vs : List Int) : (shV key us vs).length = us.length + vs.length := by unfold shV; rw [List.length_append, xrL_lenc, bitsL_lenc]
/-- 'append(out, src...)' onto a slice of the call's own: and where the row then lies. -/
theorem wp_appsK {ops : Array Oper} {rest : List Oper} {o : Oper} {a : Act} {Q : Exit → Act → World → Prop} (w : World) (B n : Nat) (v : Value) (xs ys : List Int) (ad : Option Addr) (m cap : Nat)
    (hg : o.guard = none) (s x : Operand) (ho : o.op = .call { callee := .builtin .append, args := #[s, x], argTypes := #[23, 23] })
    (hs : a.eval s = v) (hx : a.eval x = .slice ad m cap) (hy : Ints w ad m cap ys)
    (hown : w.ownsRow B 3 1 v n (ivs xs)) (hB : B ≤ w.heap.size) (hn : n + m ≤ 1000000000000)
    (h : ∀ v' w', w'.ownsRow B 3 1 v' (n + m) (ivs (xs ++ ys)) → Below B w w' → w.grownBy w' v.ownBlock → (v'.ownBlock = v.ownBlock ∨ v'.ownBlock = some w.heap.size) → wpList Try.prog ops Q rest (a.put o.dst v') w') :
    wpList Try.prog ops Q (o :: rest) a w := by
  obtain ⟨i0, hi, hz0, hz1, hz2⟩ := info_parts info_int
  have hlen := hy.len.out
  cases ad with
  | none =>
    have hc := hy.nilc.out rfl
    have hnc := hy.ncap
    obtain rfl : cap = 0 := hc
    obtain rfl : m = 0 := by omega
    obtain rfl : ys = [] := List.length_eq_zero_iff.1 hlen
    refine wpList_append_own_none hg s x 23 ho B 3 i0 1 Try.underlying23 hi v n (ivs xs) hs hown hx ?_
    refine h v w (by simpa using hown) (Below.refl _ _) ⟨rfl, rfl, rfl, Nat.le_refl _, fun _ _ _ => rfl⟩ (.inl rfl)
  | some ad =>
    refine wpList_append_own_at _ hg s x 23 ho B 3 i0 (.int .i64 0) 1 8 Try.underlying23 hi hz0 hz1 hz2 rfl (by decide) v n (ivs xs) hs hown ad m cap (ivs ys) hx (by rw [ivs_len, hlen]; omega) ?_ ?_ (by unfold maxLen; omega) (by omega) hB ?_
    · intro j c hj
      have hjm : j < m := by
        rcases Nat.lt_or_ge j m with k | k
        · exact k
        · rw [List.getElem?_eq_none (by rw [ivs_len, hlen]; exact k)] at hj; cases hj
      obtain ⟨b, off, e, _, hcell⟩ := hy.at hjm
      simp only [Option.some.injEq] at e
      subst e
      have e2 : (⟨b, off, none⟩ : Addr).add j = ⟨b, off + j, none⟩ := by
        unfold Addr.add; split
        · rename_i h0; subst h0; rfl
        · rfl
      rw [e2, hcell]
      simp only [ivs, List.getElem?_map] at hj
      rw [List.getElem?_eq_getElem (by omega)] at hj
      simp only [Option.map_some, Option.some.injEq] at hj
      rw [← hj, nth_get (by omega)]
    · intro c hc
      simp only [ivs, List.mem_map] at hc
      obtain ⟨q, _, rfl⟩ := hc
      rfl
    · intro v' w' h1 h2 _ h4
      rw [← ivs_app] at h1
      exact h v' w' h1 (below_grown_own hown h2 hB) h2 h4
theorem Ints.onX {w w' : World} {X : Nat} {a : Option Addr} {n cap : Nat} {xs : List Int} (h : Ints w a n cap xs) (hb : Below X w w') (hp : ∀ g o, 0 < n → a = some ⟨g, o, none⟩ → g < X) : Ints w' a n cap xs := by
  refine ⟨h.len, h.ncap, h.small, h.capm, fun i hi => ?_, h.wf, h.nilc⟩
  obtain ⟨b, off, e, hl, hc⟩ := h.cell.out i hi
  exact ⟨b, off, e, Nat.lt_of_lt_of_le hl hb.size, (hb.cell (p := ⟨b, off + i, none⟩) (hp b off (by omega) e)).trans hc⟩
theorem ownsRow_keptNe {E : TypeId} {w w' : World} {B s n : Nat} {v : Value} {xs : List Value} {o : Option Nat} (h : w.ownsRow B E s v n xs) (k : w.grownBy w' o) (hne : ∀ g, v.ownBlock = some g → o ≠ some g) : w'.ownsRow B E s v n xs :=
  h.kept k (by
    cases hb : v.ownBlock with
    | none => exact .inl rfl
    | some g => exact .inr (fun e => hne g hb e.symm))
set_option maxHeartbeats 1000000 in
theorem i_AreBits (a : Option Addr) (n cap : Nat) (xs : List Int) (w : World) (h : Ints w a n cap xs) :
    Calls Try.prog 97 #[.slice a n cap] w fun e w' => e = .returned (.bool (decide ((xs.length : Int) ≤ 64) && bitsB xs)) ∧ Below w.heap.size w w' := by
  have hl := h.len.out
  rw [hl]
  by_cases h1 : (n : Int) ≤ 64
  · rw [decide_eq_true h1]
    go_enter Try.func97, Try.ntmps97
    go_wp2_with (go_at_call 109; refine (i_allBits _ _ _ _ _ h).mono ?_; rintro e w' ⟨rfl, hb⟩)
    go_ret
    exact ⟨rfl, hb⟩
  · rw [decide_eq_false h1]
    go_enter Try.func97, Try.ntmps97
    go_wp2
    go_ret
    exact ⟨rfl, Below.refl _ _⟩
theorem s_btGoodB (a : Option Addr) (n cap : Nat) (xs : List Int) (most : Int) (w : World) (h : Ints w a n cap xs) :
    Calls Try.prog 104 #[.slice a n cap, .int .i64 most] w fun e w' => e = .returned (.bool (decide ((xs.length : Int) ≤ most) && bitsB xs)) ∧ Below w.heap.size w w' :=
  (s_btGood a n cap xs most w h).mono fun e w' ⟨h1, h2⟩ => ⟨h1, h2 ▸ Below.refl _ _⟩

set_option maxHeartbeats 2000000 in
theorem s_btXorO (a a' : Option Addr) (n n' cap cap' : Nat) (xs ys : List Int) (w : World) (h : Ints w a n cap xs) (h' : Ints w a' n' cap' ys) (hn : n ≤ n') (hs : n ≤ 100000)
    (hx : Hid (∀ i, i < n → (0 ≤ nth xs i ∧ nth xs i ≤ 1) ∧ (0 ≤ nth ys i ∧ nth ys i ≤ 1))) :
    Calls Try.prog 96 #[.slice a n cap, .slice a' n' cap'] w fun e w' => ∃ r c, e = .returned (.slice r n c) ∧ OwnI 3 w' w.heap.size r n c (xrL xs ys n) ∧ Below w.heap.size w w' := by
  have HFT := Lib.hid (xrL_fit xs ys n)
  go_enter Try.func96, Try.ntmps96
  go_wp2
  go_loopw [5, 10] (fun v i wr => ∃ k : Nat, k ≤ n ∧ i = .int .i64 k ∧ Hid (wr.ownsRow w.heap.size 3 1 v k (ivs (xrL xs ys k))) ∧ Hid (Below w.heap.size w wr)) (fun _ i _ => n - (intOf i).toNat)
  case atStart => exact ⟨0, by omega, rfl, World.ownsRow_nil _ _ _ _, Below.refl _ _⟩
  case round =>
    obtain ⟨k, hk, rfl, HO, HB⟩ := hrel
    by_cases hlt : k < n
    · obtain ⟨b, off, rfl, hbl, hc⟩ := (h.below HB.out).at hlt
      obtain ⟨b', off', rfl, hbl', hc'⟩ := (h'.below HB.out).at (i := k) (by omega)
      have hlti : (k : Int) < (n' : Int) := by omega
      have hxe := xr_eq (hx.out k hlt).1 (hx.out k hlt).2
      have hz := HB.out.size
      have HS : Hid (xrL xs ys (k + 1) = xrL xs ys k ++ [xr (nth xs k) (nth ys k)]) := xrL_succ xs ys k
      go_wp2_with (at_builtin; (try rw [hxe]); refine wp_app wr w.heap.size _ _ _ (xr (nth xs k) (nth ys k)) _ _ rfl _ _ rfl rfl rfl rfl HO.out hz (by omega) ?_; intro v9 w9 hv9 hb9 hg9)
      clear hg9
      go_roundw
      case rel => exact ⟨k + 1, by omega, by go_num, by rw [HS.out]; exact hv9, HB.out.trans hb9⟩
      case measure => simp [intOf]; omega
    · obtain rfl : k = n := by omega
      go_wp2
      obtain ⟨r, c, hv, hm⟩ := OwnI.of HO.out (by omega) HFT.out
      subst hv
      go_ret
      exact ⟨_, _, rfl, hm, HB.out⟩
set_option maxHeartbeats 2000000 in
theorem i_xoredO (a a' : Option Addr) (n n' cap cap' : Nat) (xs ys : List Int) (w : World) (h : Ints w a n cap xs) (h' : Ints w a' n' cap' ys) (hn : n ≤ n') (hs : n ≤ 100000)
    (hx : Hid (∀ i, i < n → (0 ≤ nth xs i ∧ nth xs i ≤ 1) ∧ (0 ≤ nth ys i ∧ nth ys i ≤ 1))) :
    Calls Try.prog 60 #[.slice a n cap, .slice a' n' cap'] w fun e w' => ∃ r c, e = .returned (.slice r n c) ∧ OwnI 3 w' w.heap.size r n c (xrL xs ys n) ∧ Below w.heap.size w w' := by
  have HFT := Lib.hid (xrL_fit xs ys n)
  go_enter Try.func60, Try.ntmps60
  go_wp2
  go_loopw [5, 10] (fun v i wr => ∃ k : Nat, k ≤ n ∧ i = .int .i64 k ∧ Hid (wr.ownsRow w.heap.size 3 1 v k (ivs (xrL xs ys k))) ∧ Hid (Below w.heap.size w wr)) (fun _ i _ => n - (intOf i).toNat)
  case atStart => exact ⟨0, by omega, rfl, (show Hid _ from World.ownsRow_lit w #[] 0 (Nat.le_refl _) (by decide) rfl), (show Hid _ from bel_alloc w _)⟩
  case round =>
    obtain ⟨k, hk, rfl, HO, HB⟩ := hrel
    obtain ⟨wo, rfl⟩ : ∃ wo : World, wo = wr := ⟨_, rfl⟩
    by_cases hlt : k < n
    · obtain ⟨b, off, rfl, hbl, hc⟩ := h.at hlt
      obtain ⟨b', off', rfl, hbl', hc'⟩ := h'.at (i := k) (by omega)
      replace hc := cell_on hc HB.out
      replace hc' := cell_on hc' HB.out
      have hlti : (k : Int) < (n' : Int) := by omega
      have hlt0 : (k : Int) < (n : Int) := by omega
      have hxe := xr_eq (hx.out k hlt).1 (hx.out k hlt).2
      have hz := HB.out.size
      have HS : Hid (xrL xs ys (k + 1) = xrL xs ys k ++ [xr (nth xs k) (nth ys k)]) := xrL_succ xs ys k
      go_wp2_with fail
      go_region_held3 (fun W => W.cell? ⟨b, off + k, none⟩ = some (.int .i64 (nth xs k)) ∧ W.cell? ⟨b', off' + k, none⟩ = some (.int .i64 (nth ys k))) (first | exact ⟨(hb9.cell (p := ⟨b, off + k, none⟩) hbl).trans (cell_on hc (by (repeat (first | exact Below.refl _ _ | assumption | refine bel_trans ?_ (bel_alloc _ _) | refine bel_set ?_ (by first | (dsimp only; omega) | (simp; omega) | simp) _ | refine bel_trans ?_ (bel_drewN _ _) | refine bel_trans ?_ (bel_drew _) | refine bel_trans ?_ (by assumption))))), (hb9.cell (p := ⟨b', off' + k, none⟩) hbl').trans (cell_on hc' (by (repeat (first | exact Below.refl _ _ | assumption | refine bel_trans ?_ (bel_alloc _ _) | refine bel_set ?_ (by first | (dsimp only; omega) | (simp; omega) | simp) _ | refine bel_trans ?_ (bel_drewN _ _) | refine bel_trans ?_ (bel_drew _) | refine bel_trans ?_ (by assumption)))))⟩ | exact ⟨cell_on hc (by (repeat (first | exact Below.refl _ _ | assumption | refine bel_trans ?_ (bel_alloc _ _) | refine bel_set ?_ (by first | (dsimp only; omega) | (simp; omega) | simp) _ | refine bel_trans ?_ (bel_drewN _ _) | refine bel_trans ?_ (bel_drew _) | refine bel_trans ?_ (by assumption)))), cell_on hc' (by (repeat (first | exact Below.refl _ _ | assumption | refine bel_trans ?_ (bel_alloc _ _) | refine bel_set ?_ (by first | (dsimp only; omega) | (simp; omega) | simp) _ | refine bel_trans ?_ (bel_drewN _ _) | refine bel_trans ?_ (bel_drew _) | refine bel_trans ?_ (by assumption))))⟩) ((refine step_app wo w.heap.size k _ (xrL xs ys k) (xr (nth xs k) (nth ys k)) _ (by rfl) _ _ (by rfl) (by rfl) (by rfl) (by rw [← hxe]; simp [World.cell?_alloc_at]) HO.out (by (repeat (first | exact Below.refl _ _ | assumption | refine bel_trans ?_ (bel_alloc _ _) | refine bel_set ?_ (by first | (dsimp only; omega) | (simp; omega) | simp) _ | refine bel_trans ?_ (bel_drewN _ _) | refine bel_trans ?_ (bel_drew _) | refine bel_trans ?_ (by assumption)))) hz (by omega) ?_; intro v9 w9 hv9 hb9 hg9))
      clear hg9
      go_wp2
      go_roundw
      case rel => exact ⟨k + 1, by omega, by go_num, by rw [HS.out]; exact hv9, HB.out.trans (((by (repeat (first | exact Below.refl _ _ | assumption | refine bel_trans ?_ (bel_alloc _ _) | refine bel_set ?_ (by first | (dsimp only; omega) | (simp; omega) | simp) _ | refine bel_trans ?_ (bel_drewN _ _) | refine bel_trans ?_ (bel_drew _) | refine bel_trans ?_ (by assumption))) : Below wo.heap.size wo _).mono hz).trans hb9)⟩
      case measure => simp [intOf]; omega
    · obtain rfl : k = n := by omega
      go_wp2
      obtain ⟨r, c, hv, hm⟩ := OwnI.of HO.out (by omega) HFT.out
      subst hv
      go_ret
      exact ⟨_, _, rfl, hm, HB.out⟩
set_option maxHeartbeats 4000000 in
theorem i_areInputs (i0 i1 : Int) (ga : Option Addr) (gn gc : Nat) (gs : List Int) (oa : Option Addr) (on oc : Nat) (os : List Int) (aa : Option Addr) (an ac : Nat) (us : List Int) (ba : Option Addr) (bn bc : Nat) (vs : List Int) (w : World) (h : Circ w ga gn gc gs oa on oc os) (ha : Ints w aa an ac us) (hb : Ints w ba bn bc vs) :
    Calls Try.prog 34 #[.agg #[.int .i64 i0, .int .i64 i1, .slice ga gn gc, .slice oa on oc], .slice aa an ac, .slice ba bn bc] w fun e w' => e = .returned (.bool (askB i0 i1 gs gn os us vs)) ∧ Below w.heap.size w w' := by
  have hla := ha.len.out; have hlb := hb.len.out
  have A0 := bel_alloc w (.cells #[.int .i64 i0, .int .i64 i1, .slice ga gn gc, .slice oa on oc] 25)
  have g0 := B4.new (w := w) (x0 := .int .i64 i0) (x1 := .int .i64 i1) (x2 := .slice ga gn gc) (x3 := .slice oa on oc) (t := 25)
  obtain ⟨c0, c1, c2, c3⟩ := g0
  replace h := h.below A0; replace ha := ha.below A0; replace hb := hb.below A0
  cases hc : circB i0 i1 gs gn os with
  | false =>
    rw [show askB i0 i1 gs gn os us vs = false by unfold askB; rw [hc]; rfl]
    clear hla hlb
    go_enter Try.func34, Try.ntmps34
    go_wp2_with fail
    refine (i_IsCircuit _ _ _ _ _ gs _ _ _ os _ h).mono ?_; rintro e w1 ⟨rfl, hb1⟩; rw [hc]
    go_wp2
    go_ret
    exact ⟨rfl, bel_trans A0 hb1⟩
  | true =>
    obtain ⟨hi0, hi1, hn, hon⟩ := circB_in hc
    cases hA : (decide ((us.length : Int) ≤ 64) && bitsB us) with
    | false =>
      have hno : askB i0 i1 gs gn os us vs = false := askB_no (fun q => by rw [q.2.1, Bool.and_true, decide_eq_false_iff_not] at hA; omega)
      rw [hno]; clear hno hla hlb
      go_enter Try.func34, Try.ntmps34
      go_wp2_with fail
      refine (i_IsCircuit _ _ _ _ _ gs _ _ _ os _ h).mono ?_; rintro e w1 ⟨rfl, hb1⟩; rw [hc]
      replace c0 := cell_on c0 hb1; replace c1 := cell_on c1 hb1; replace c2 := cell_on c2 hb1; replace c3 := cell_on c3 hb1
      go_wp2_with fail
      refine (i_AreBits _ _ _ us _ (ha.below hb1)).mono ?_; rintro e w2 ⟨rfl, hb2⟩; rw [hA]
      go_wp2
      go_ret
      exact ⟨rfl, bel_trans (bel_trans A0 hb1) hb2⟩
    | true =>
      obtain ⟨hA1, hA2⟩ := Bool.and_eq_true_iff.1 hA
      cases hBB : (decide ((vs.length : Int) ≤ 64) && bitsB vs) with
      | false =>
        have hno : askB i0 i1 gs gn os us vs = false := askB_no (fun q => by rw [q.2.2.1, Bool.and_true, decide_eq_false_iff_not] at hBB; omega)
        rw [hno]; clear hno hla hlb
        go_enter Try.func34, Try.ntmps34
        go_wp2_with fail
        refine (i_IsCircuit _ _ _ _ _ gs _ _ _ os _ h).mono ?_; rintro e w1 ⟨rfl, hb1⟩; rw [hc]
        replace c0 := cell_on c0 hb1; replace c1 := cell_on c1 hb1; replace c2 := cell_on c2 hb1; replace c3 := cell_on c3 hb1
        go_wp2_with fail
        refine (i_AreBits _ _ _ us _ (ha.below hb1)).mono ?_; rintro e w2 ⟨rfl, hb2⟩; rw [hA]
        replace c0 := cell_on c0 hb2; replace c1 := cell_on c1 hb2; replace c2 := cell_on c2 hb2; replace c3 := cell_on c3 hb2
        go_wp2_with fail
        refine (i_AreBits _ _ _ vs _ ((hb.below hb1).below hb2)).mono ?_; rintro e w3 ⟨rfl, hb3⟩; rw [hBB]
        replace c0 := cell_on c0 hb3; replace c1 := cell_on c1 hb3; replace c2 := cell_on c2 hb3; replace c3 := cell_on c3 hb3
        go_wp2
        go_ret
        exact ⟨by first | rfl | simp, bel_trans (bel_trans (bel_trans A0 hb1) hb2) hb3⟩
      | true =>
        obtain ⟨hB1, hB2⟩ := Bool.and_eq_true_iff.1 hBB
        by_cases h1 : (an : Int) = i0
        rotate_left
        · have hno : askB i0 i1 gs gn os us vs = false := askB_no (fun q => by have := q.2.2.2.1; rw [hla] at this; exact h1 this)
          rw [hno]; clear hno
          have h1b : ((an : Int) == i0) = false := by simpa using h1
          clear hla hlb
          go_enter Try.func34, Try.ntmps34
          go_wp2_with fail
          refine (i_IsCircuit _ _ _ _ _ gs _ _ _ os _ h).mono ?_; rintro e w1 ⟨rfl, hb1⟩; rw [hc]
          replace c0 := cell_on c0 hb1; replace c1 := cell_on c1 hb1; replace c2 := cell_on c2 hb1; replace c3 := cell_on c3 hb1
          go_wp2_with fail
          refine (i_AreBits _ _ _ us _ (ha.below hb1)).mono ?_; rintro e w2 ⟨rfl, hb2⟩; rw [hA]
          replace c0 := cell_on c0 hb2; replace c1 := cell_on c1 hb2; replace c2 := cell_on c2 hb2; replace c3 := cell_on c3 hb2
          go_wp2_with fail
          refine (i_AreBits _ _ _ vs _ ((hb.below hb1).below hb2)).mono ?_; rintro e w3 ⟨rfl, hb3⟩; rw [hBB]
          replace c0 := cell_on c0 hb3; replace c1 := cell_on c1 hb3; replace c2 := cell_on c2 hb3; replace c3 := cell_on c3 hb3
          go_wp2
          go_ret
          exact ⟨by first | rfl | simp, bel_trans (bel_trans (bel_trans A0 hb1) hb2) hb3⟩
        · by_cases h2 : (bn : Int) = i1
          rotate_left
          · have hno : askB i0 i1 gs gn os us vs = false := askB_no (fun q => by have := q.2.2.2.2; rw [hlb] at this; exact h2 this)
            rw [hno]; clear hno
            have h2b : ((bn : Int) == i1) = false := by simpa using h2
            have h1b : ((an : Int) == i0) = true := by simpa using h1
            clear hla hlb h1
            go_enter Try.func34, Try.ntmps34
            go_wp2_with fail
            refine (i_IsCircuit _ _ _ _ _ gs _ _ _ os _ h).mono ?_; rintro e w1 ⟨rfl, hb1⟩; rw [hc]
            replace c0 := cell_on c0 hb1; replace c1 := cell_on c1 hb1; replace c2 := cell_on c2 hb1; replace c3 := cell_on c3 hb1
            go_wp2_with fail
            refine (i_AreBits _ _ _ us _ (ha.below hb1)).mono ?_; rintro e w2 ⟨rfl, hb2⟩; rw [hA]
            replace c0 := cell_on c0 hb2; replace c1 := cell_on c1 hb2; replace c2 := cell_on c2 hb2; replace c3 := cell_on c3 hb2
            go_wp2_with fail
            refine (i_AreBits _ _ _ vs _ ((hb.below hb1).below hb2)).mono ?_; rintro e w3 ⟨rfl, hb3⟩; rw [hBB]
            replace c0 := cell_on c0 hb3; replace c1 := cell_on c1 hb3; replace c2 := cell_on c2 hb3; replace c3 := cell_on c3 hb3
            go_wp2
            go_ret
            exact ⟨by first | rfl | simp, bel_trans (bel_trans (bel_trans A0 hb1) hb2) hb3⟩
          · have hyes : askB i0 i1 gs gn os us vs = true := askB_iff.2 ⟨hc, hA2, hB2, by rw [hla]; exact h1, by rw [hlb]; exact h2⟩
            rw [hyes]; clear hyes
            have h2b : ((bn : Int) == i1) = true := by simpa using h2
            have h1b : ((an : Int) == i0) = true := by simpa using h1
            clear hla hlb h1 h2
            go_enter Try.func34, Try.ntmps34
            go_wp2_with fail
            refine (i_IsCircuit _ _ _ _ _ gs _ _ _ os _ h).mono ?_; rintro e w1 ⟨rfl, hb1⟩; rw [hc]
            replace c0 := cell_on c0 hb1; replace c1 := cell_on c1 hb1; replace c2 := cell_on c2 hb1; replace c3 := cell_on c3 hb1
            go_wp2_with fail
            refine (i_AreBits _ _ _ us _ (ha.below hb1)).mono ?_; rintro e w2 ⟨rfl, hb2⟩; rw [hA]
            replace c0 := cell_on c0 hb2; replace c1 := cell_on c1 hb2; replace c2 := cell_on c2 hb2; replace c3 := cell_on c3 hb2
            go_wp2_with fail
            refine (i_AreBits _ _ _ vs _ ((hb.below hb1).below hb2)).mono ?_; rintro e w3 ⟨rfl, hb3⟩; rw [hBB]
            replace c0 := cell_on c0 hb3; replace c1 := cell_on c1 hb3; replace c2 := cell_on c2 hb3; replace c3 := cell_on c3 hb3
            go_wp2
            go_ret
            exact ⟨by first | rfl | simp, bel_trans (bel_trans (bel_trans A0 hb1) hb2) hb3⟩
set_option maxHeartbeats 4000000 in
theorem s_ciAsked (i0 i1 : Int) (ga : Option Addr) (gn gc : Nat) (gs : List Int) (oa : Option Addr) (on oc : Nat) (os : List Int) (aa : Option Addr) (an ac : Nat) (us : List Int) (ba : Option Addr) (bn bc : Nat) (vs : List Int) (w : World) (h : Circ w ga gn gc gs oa on oc os) (ha : Ints w aa an ac us) (hb : Ints w ba bn bc vs) :
    Calls Try.prog 38 #[.agg #[.int .i64 i0, .int .i64 i1, .slice ga gn gc, .slice oa on oc], .slice aa an ac, .slice ba bn bc] w fun e w' => e = .returned (.bool (askB i0 i1 gs gn os us vs)) ∧ Below w.heap.size w w' := by
  have hla := ha.len.out; have hlb := hb.len.out
  have A0 := bel_alloc w (.cells #[.int .i64 i0, .int .i64 i1, .slice ga gn gc, .slice oa on oc] 25)
  have g0 := B4.new (w := w) (x0 := .int .i64 i0) (x1 := .int .i64 i1) (x2 := .slice ga gn gc) (x3 := .slice oa on oc) (t := 25)
  obtain ⟨c0, c1, c2, c3⟩ := g0
  replace h := h.below A0; replace ha := ha.below A0; replace hb := hb.below A0
  cases hc : circB i0 i1 gs gn os with
  | false =>
    rw [show askB i0 i1 gs gn os us vs = false by unfold askB; rw [hc]; rfl]
    clear hla hlb
    go_enter Try.func38, Try.ntmps38
    go_wp2_with fail
    refine (s_ciGood _ _ _ _ _ gs _ _ _ os _ h).mono ?_; rintro e w1 ⟨rfl, hb1⟩; rw [hc]
    go_wp2
    go_ret
    exact ⟨rfl, bel_trans A0 hb1⟩
  | true =>
    obtain ⟨hi0, hi1, hn, hon⟩ := circB_in hc
    cases hA : (decide ((us.length : Int) ≤ 20) && bitsB us) with
    | false =>
      have hno : askB i0 i1 gs gn os us vs = false := askB_no (fun q => by rw [q.2.1, Bool.and_true, decide_eq_false_iff_not] at hA; omega)
      rw [hno]; clear hno hla hlb
      go_enter Try.func38, Try.ntmps38
      go_wp2_with fail
      refine (s_ciGood _ _ _ _ _ gs _ _ _ os _ h).mono ?_; rintro e w1 ⟨rfl, hb1⟩; rw [hc]
      replace c0 := cell_on c0 hb1; replace c1 := cell_on c1 hb1; replace c2 := cell_on c2 hb1; replace c3 := cell_on c3 hb1
      go_wp2_with fail
      refine (s_btGoodB _ _ _ us 20 _ (ha.below hb1)).mono ?_; rintro e w2 ⟨rfl, hb2⟩; rw [hA]
      go_wp2
      go_ret
      exact ⟨rfl, bel_trans (bel_trans A0 hb1) hb2⟩
    | true =>
      obtain ⟨hA1, hA2⟩ := Bool.and_eq_true_iff.1 hA
      cases hBB : (decide ((vs.length : Int) ≤ 20) && bitsB vs) with
      | false =>
        have hno : askB i0 i1 gs gn os us vs = false := askB_no (fun q => by rw [q.2.2.1, Bool.and_true, decide_eq_false_iff_not] at hBB; omega)
        rw [hno]; clear hno hla hlb
        go_enter Try.func38, Try.ntmps38
        go_wp2_with fail
        refine (s_ciGood _ _ _ _ _ gs _ _ _ os _ h).mono ?_; rintro e w1 ⟨rfl, hb1⟩; rw [hc]
        replace c0 := cell_on c0 hb1; replace c1 := cell_on c1 hb1; replace c2 := cell_on c2 hb1; replace c3 := cell_on c3 hb1
        go_wp2_with fail
        refine (s_btGoodB _ _ _ us 20 _ (ha.below hb1)).mono ?_; rintro e w2 ⟨rfl, hb2⟩; rw [hA]
        replace c0 := cell_on c0 hb2; replace c1 := cell_on c1 hb2; replace c2 := cell_on c2 hb2; replace c3 := cell_on c3 hb2
        go_wp2_with fail
        refine (s_btGoodB _ _ _ vs 20 _ ((hb.below hb1).below hb2)).mono ?_; rintro e w3 ⟨rfl, hb3⟩; rw [hBB]
        replace c0 := cell_on c0 hb3; replace c1 := cell_on c1 hb3; replace c2 := cell_on c2 hb3; replace c3 := cell_on c3 hb3
        go_wp2
        go_ret
        exact ⟨by first | rfl | simp, bel_trans (bel_trans (bel_trans A0 hb1) hb2) hb3⟩
      | true =>
        obtain ⟨hB1, hB2⟩ := Bool.and_eq_true_iff.1 hBB
        by_cases h1 : (an : Int) = i0
        rotate_left
        · have hno : askB i0 i1 gs gn os us vs = false := askB_no (fun q => by have := q.2.2.2.1; rw [hla] at this; exact h1 this)
          rw [hno]; clear hno
          have h1b : ((an : Int) == i0) = false := by simpa using h1
          clear hla hlb
          go_enter Try.func38, Try.ntmps38
          go_wp2_with fail
          refine (s_ciGood _ _ _ _ _ gs _ _ _ os _ h).mono ?_; rintro e w1 ⟨rfl, hb1⟩; rw [hc]
          replace c0 := cell_on c0 hb1; replace c1 := cell_on c1 hb1; replace c2 := cell_on c2 hb1; replace c3 := cell_on c3 hb1
          go_wp2_with fail
          refine (s_btGoodB _ _ _ us 20 _ (ha.below hb1)).mono ?_; rintro e w2 ⟨rfl, hb2⟩; rw [hA]
          replace c0 := cell_on c0 hb2; replace c1 := cell_on c1 hb2; replace c2 := cell_on c2 hb2; replace c3 := cell_on c3 hb2
          go_wp2_with fail
          refine (s_btGoodB _ _ _ vs 20 _ ((hb.below hb1).below hb2)).mono ?_; rintro e w3 ⟨rfl, hb3⟩; rw [hBB]
          replace c0 := cell_on c0 hb3; replace c1 := cell_on c1 hb3; replace c2 := cell_on c2 hb3; replace c3 := cell_on c3 hb3
          go_wp2
          go_ret
          exact ⟨by first | rfl | simp, bel_trans (bel_trans (bel_trans A0 hb1) hb2) hb3⟩
        · by_cases h2 : (bn : Int) = i1
          rotate_left
          · have hno : askB i0 i1 gs gn os us vs = false := askB_no (fun q => by have := q.2.2.2.2; rw [hlb] at this; exact h2 this)
            rw [hno]; clear hno
            have h2b : ((bn : Int) == i1) = false := by simpa using h2
            have h1b : ((an : Int) == i0) = true := by simpa using h1
            clear hla hlb h1
            go_enter Try.func38, Try.ntmps38
            go_wp2_with fail
            refine (s_ciGood _ _ _ _ _ gs _ _ _ os _ h).mono ?_; rintro e w1 ⟨rfl, hb1⟩; rw [hc]
            replace c0 := cell_on c0 hb1; replace c1 := cell_on c1 hb1; replace c2 := cell_on c2 hb1; replace c3 := cell_on c3 hb1
            go_wp2_with fail
            refine (s_btGoodB _ _ _ us 20 _ (ha.below hb1)).mono ?_; rintro e w2 ⟨rfl, hb2⟩; rw [hA]
            replace c0 := cell_on c0 hb2; replace c1 := cell_on c1 hb2; replace c2 := cell_on c2 hb2; replace c3 := cell_on c3 hb2
            go_wp2_with fail
            refine (s_btGoodB _ _ _ vs 20 _ ((hb.below hb1).below hb2)).mono ?_; rintro e w3 ⟨rfl, hb3⟩; rw [hBB]
            replace c0 := cell_on c0 hb3; replace c1 := cell_on c1 hb3; replace c2 := cell_on c2 hb3; replace c3 := cell_on c3 hb3
            go_wp2
            go_ret
            exact ⟨by first | rfl | simp, bel_trans (bel_trans (bel_trans A0 hb1) hb2) hb3⟩
          · have hyes : askB i0 i1 gs gn os us vs = true := askB_iff.2 ⟨hc, hA2, hB2, by rw [hla]; exact h1, by rw [hlb]; exact h2⟩
            rw [hyes]; clear hyes
            have h2b : ((bn : Int) == i1) = true := by simpa using h2
            have h1b : ((an : Int) == i0) = true := by simpa using h1
            clear hla hlb h1 h2
            go_enter Try.func38, Try.ntmps38
            go_wp2_with fail
            refine (s_ciGood _ _ _ _ _ gs _ _ _ os _ h).mono ?_; rintro e w1 ⟨rfl, hb1⟩; rw [hc]
            replace c0 := cell_on c0 hb1; replace c1 := cell_on c1 hb1; replace c2 := cell_on c2 hb1; replace c3 := cell_on c3 hb1
            go_wp2_with fail
            refine (s_btGoodB _ _ _ us 20 _ (ha.below hb1)).mono ?_; rintro e w2 ⟨rfl, hb2⟩; rw [hA]
            replace c0 := cell_on c0 hb2; replace c1 := cell_on c1 hb2; replace c2 := cell_on c2 hb2; replace c3 := cell_on c3 hb2
            go_wp2_with fail
            refine (s_btGoodB _ _ _ vs 20 _ ((hb.below hb1).below hb2)).mono ?_; rintro e w3 ⟨rfl, hb3⟩; rw [hBB]
            replace c0 := cell_on c0 hb3; replace c1 := cell_on c1 hb3; replace c2 := cell_on c2 hb3; replace c3 := cell_on c3 hb3
            go_wp2
            go_ret
            exact ⟨by first | rfl | simp, bel_trans (bel_trans (bel_trans A0 hb1) hb2) hb3⟩
set_option maxHeartbeats 1000000 in
theorem s_ciJoin (aa : Option Addr) (an ac : Nat) (us : List Int) (ba : Option Addr) (bn bc : Nat) (vs : List Int) (w : World) (ha : Ints w aa an ac us) (hb : Ints w ba bn bc vs) (hn : an + bn ≤ 1000000) :
    Calls Try.prog 40 #[.slice aa an ac, .slice ba bn bc] w fun e w' => ∃ r c, e = .returned (.slice r (an + bn) c) ∧ OwnI 3 w' w.heap.size r (an + bn) c (us ++ vs) ∧ Below w.heap.size w w' := by
  have hwa := ha.wf; have hwb := hb.wf
  go_enter Try.func40, Try.ntmps40
  go_wp2_with fail
  refine (s_l1Own _ _ _ us _ ha (by omega)).mono ?_; rintro e w1 ⟨r, c, rfl, hI, hb1⟩
  have hb' := hb.below hb1
  have hz := hb1.size
  go_wp2_with (at_builtin; refine wp_apps w1 w.heap.size an _ us vs _ _ _ rfl _ _ rfl rfl rfl hb' hI.own hz (by omega) ?_; intro v9 w9 hv9 hb9 hg9)
  clear hg9
  obtain ⟨r9, c9, rfl, hM⟩ := OwnI.of hv9 (by omega) (fits_app hwa.out hwb.out)
  have HM := Lib.hid hM; clear hM hv9
  go_wp2
  go_ret
  exact ⟨_, _, rfl, HM.out, hb1.trans hb9⟩
