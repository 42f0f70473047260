/-
  Plain laws: shares of all wires add up to their values, and each party gets its shares from what is opened.
-/
import Derived.Test.YtmkcanbaleecfaaSw
namespace Go.Proofs.Ytmkcanbaleecfaa
open Go.RowKit
set_option linter.unusedVariables false
set_option linter.unusedSimpArgs false
set_option maxRecDepth 10000

theorem nth_l {l m : List Int} {i : Nat} (h : i < l.length) : nth (l ++ m) i = nth l i := by
  unfold nth; simp only [List.getD_eq_getElem?_getD]; rw [List.getElem?_append_left h]
theorem nth_r {l m : List Int} {i : Nat} (h : l.length ≤ i) : nth (l ++ m) i = nth m (i - l.length) := by
  unfold nth; simp only [List.getD_eq_getElem?_getD]; rw [List.getElem?_append_right h]
theorem nth_last {l : List Int} {x : Int} {i : Nat} (h : i = l.length) : nth (l ++ [x]) i = x := by
  subst h; rw [nth_r (Nat.le_refl _)]; simp [nth]
theorem xr_z {a : Int} (h : 0 ≤ a ∧ a ≤ 1) : xr a 0 = a := by unfold xr; omega
theorem d_eq {u v s x : Int} : xr (xr (xr u v) s) (xr s x) = xr (xr u v) x := by unfold xr; omega
/-- A gate And with the shares of a triple. -/
theorem and_xor {a b s0 s1 s2 x y : Int} (ha : 0 ≤ a ∧ a ≤ 1) (hb : 0 ≤ b ∧ b ≤ 1) (h0 : 0 ≤ s0 ∧ s0 ≤ 1) (h1 : 0 ≤ s1 ∧ s1 ≤ 1) (h2 : 0 ≤ s2 ∧ s2 ≤ 1) (hx : 0 ≤ x ∧ x ≤ 1) (hy : 0 ≤ y ∧ y ≤ 1) :
    xr (andS 0 s0 s1 s2 (xr a x) (xr b y)) (andS 1 (xr s0 x) (xr s1 y) (xr s2 (x * y)) (xr a x) (xr b y)) = a * b := by
  rcases (show a = 0 ∨ a = 1 by omega) with rfl | rfl <;> rcases (show b = 0 ∨ b = 1 by omega) with rfl | rfl <;> rcases (show s0 = 0 ∨ s0 = 1 by omega) with rfl | rfl <;> rcases (show s1 = 0 ∨ s1 = 1 by omega) with rfl | rfl <;> rcases (show s2 = 0 ∨ s2 = 1 by omega) with rfl | rfl <;> rcases (show x = 0 ∨ x = 1 by omega) with rfl | rfl <;> rcases (show y = 0 ∨ y = 1 by omega) with rfl | rfl <;> rfl
/-- The law of a triple of bits. -/
theorem trip_law (key i : Int) : xr (nth (btA key i) 0) (nth (btB key i) 0) * xr (nth (btA key i) 1) (nth (btB key i) 1) = xr (nth (btA key i) 2) (nth (btB key i) 2) := by
  have b0 := bt_bd key i 0; have b1 := bt_bd key i 1; have b2 := bt_bd key i 2; have b3 := bt_bd key i 3; have b4 := bt_bd key i 4
  show xr (bt key i 2) (xr (bt key i 2) (bt key i 0)) * xr (bt key i 3) (xr (bt key i 3) (bt key i 1)) = xr (bt key i 4) (xr (bt key i 4) (bt key i 0 * bt key i 1))
  generalize bt key i 0 = x at *; generalize bt key i 1 = y at *; generalize bt key i 2 = s0 at *; generalize bt key i 3 = s1 at *; generalize bt key i 4 = s2 at *
  rcases (show x = 0 ∨ x = 1 by omega) with rfl | rfl <;> rcases (show y = 0 ∨ y = 1 by omega) with rfl | rfl <;> rcases (show s0 = 0 ∨ s0 = 1 by omega) with rfl | rfl <;> rcases (show s1 = 0 ∨ s1 = 1 by omega) with rfl | rfl <;> rcases (show s2 = 0 ∨ s2 = 1 by omega) with rfl | rfl <;> rfl
theorem btA_at (key i : Int) : nth (btA key i) 0 = bt key i 2 ∧ nth (btA key i) 1 = bt key i 3 ∧ nth (btA key i) 2 = bt key i 4 := ⟨rfl, rfl, rfl⟩
theorem btB_at (key i : Int) : nth (btB key i) 0 = xr (bt key i 2) (bt key i 0) ∧ nth (btB key i) 1 = xr (bt key i 3) (bt key i 1) ∧ nth (btB key i) 2 = xr (bt key i 4) (bt key i 0 * bt key i 1) := ⟨rfl, rfl, rfl⟩
theorem inB_lt {a own : Int} {n : Nat} (h : inB a 0 (own - 1) = true) (hn : own = (n : Int)) : a.toNat < n := by have := inB_iff.1 h; omega
/-- The values of a step of a run. -/
theorem step_xor (key : Int) (k : Nat) (K A B : Int) (u v o val : List Int) (n : Nat) (lu : u.length = n) (lv : v.length = n) (ll : val.length = n) (bu : bit1 u) (bv : bit1 v) (bl : bit1 val)
    (hx : ∀ j, j < n → xr (nth u j) (nth v j) = nth val j) (hg : gateB K A B (n : Int) = true) :
    ∀ j, j < n + 1 → xr (nth (runStep key k K A B (u, v, o)).1 j) (nth (runStep key k K A B (u, v, o)).2.1 j) = nth (val ++ [gval K A B val]) j := by
  have app : ∀ (x y z : Int), xr x y = z → ∀ j, j < n + 1 → xr (nth (u ++ [x]) j) (nth (v ++ [y]) j) = nth (val ++ [z]) j := by
    intro x y z h j hj
    by_cases e : j < n
    · rw [nth_l (by omega), nth_l (by omega), nth_l (by omega)]; exact hx j e
    · rw [nth_last (by omega), nth_last (by omega), nth_last (by omega)]; exact h
  unfold runStep
  by_cases h1 : K = 1
  · subst h1
    rw [gateB_01 (Or.inr rfl)] at hg
    obtain ⟨g1, g2⟩ := Bool.and_eq_true_iff.1 hg
    rw [if_pos rfl]
    refine app _ _ _ ?_
    generalize ((((u, v, o) : List Int × List Int × List Int).2.2.length / 3 : Nat) : Int) = i
    obtain ⟨a0, a1, a2⟩ := btA_at key i
    obtain ⟨b0, b1, b2⟩ := btB_at key i
    rw [a0, a1, a2, b0, b1, b2]
    simp only []
    rw [d_eq, d_eq, hx _ (inB_lt g1 rfl), hx _ (inB_lt g2 rfl)]
    rw [and_xor (bit1_at bl _) (bit1_at bl _) (bt_bd _ _ _) (bt_bd _ _ _) (bt_bd _ _ _) (bt_bd _ _ _) (bt_bd _ _ _)]
    unfold gval
    rw [if_neg (by omega), if_pos rfl]
  · rw [if_neg h1]
    refine app _ _ _ ?_
    unfold locS gval
    by_cases h0 : K = 0
    · subst h0
      rw [gateB_01 (Or.inl rfl)] at hg
      obtain ⟨g1, g2⟩ := Bool.and_eq_true_iff.1 hg
      rw [if_pos rfl, if_pos rfl, if_pos rfl]
      rw [← hx _ (inB_lt g1 rfl), ← hx _ (inB_lt g2 rfl)]
      simp only []
      unfold xr; omega
    · by_cases h2 : K = 2
      · subst h2
        rw [gateB_2] at hg
        obtain ⟨g1, g2⟩ := Bool.and_eq_true_iff.1 hg
        rw [if_neg h0, if_neg h0, if_neg h0, if_neg h1, if_pos rfl, if_pos rfl, if_pos rfl]
        rw [← hx _ (inB_lt g1 rfl)]
        have x1 := bit1_at bu A.toNat; have x2 := bit1_at bv A.toNat
        simp only []
        unfold xr; omega
      · rw [if_neg h0, if_neg h0, if_neg h0, if_neg h1, if_neg h2, if_neg h2, if_neg h2]; rfl
theorem shUV_xor (key : Int) {us vs : List Int} (hu : bit1 us) (hv : bit1 vs) : ∀ j, j < us.length + vs.length → xr (nth (shU key us vs) j) (nth (shV key us vs) j) = nth (us ++ vs) j := by
  intro j hj
  have l1 := xrL_lenc us (bitsL [key, 221] us.length) us.length
  have l2 := bitsL_lenc [key, 221] us.length
  unfold shU shV
  by_cases e : j < us.length
  · rw [nth_l (by omega), nth_l (by omega), nth_l e, nth_xrL e, nth_bitsLc e]
    have x1 := bit1_at hu j; have x2 := bitAt_bd [key, 221] j
    unfold xr; omega
  · rw [nth_r (by omega), nth_r (by omega), nth_r (by omega), l1, l2, nth_xrL (by omega), nth_bitsLc (by omega)]
    have x1 := bit1_at hv (j - us.length); have x2 := bitAt_bd [key, 222] (j - us.length)
    unfold xr; omega
/-- Shares of all wires add up to their values. -/
theorem run_xor (key : Int) {gs us vs : List Int} {gn : Nat} (hu : bitsB us = true) (hv : bitsB vs = true) (hgn : gn ≤ 300) (hG : gatesB (((us.length + vs.length : Nat)) : Int) gs gn = true) : ∀ k, k ≤ gn → ∀ j, j < us.length + vs.length + k → xr (nth (runR key gs us vs k).1 j) (nth (runR key gs us vs k).2.1 j) = nth (valS gs (us ++ vs) k) j
  | 0, _ => fun j hj => shUV_xor key (bit1.of hu) (bit1.of hv) j (by omega)
  | k + 1, hk => by
    have ih := run_xor key hu hv hgn hG k (by omega)
    obtain ⟨c, ok⟩ := runS_ok key (us := shU key us vs) (vs := shV key us vs) (gs := gs) (by rw [shU_len]) (by rw [shV_len]) (shU_bit hu) (shV_bit hv) k (by omega)
    have hg := gatesB_at hG (i := k) (by omega)
    have hl : (valS gs (us ++ vs) k).length = us.length + vs.length + k := by rw [valS_len, List.length_append]
    have hb : bit1 (valS gs (us ++ vs) k) := valS_bit (bit1.app (bit1.of hu) (bit1.of hv)) k
    rw [show (((us.length + vs.length : Nat)) : Int) + (k : Int) = (((us.length + vs.length + k : Nat)) : Int) by omega] at hg
    exact step_xor key k _ _ _ _ _ _ _ _ ok.lu ok.lv hl ok.bu ok.bv hb ih hg
/-- What is opened grows. -/
theorem runS_pre (key : Int) (gs us vs : List Int) (k : Nat) : ∀ n, k ≤ n → ∃ t, (runS key gs us vs n).2.2 = (runS key gs us vs k).2.2 ++ t
  | 0, h => by obtain rfl : k = 0 := by omega
               exact ⟨[], by simp⟩
  | n + 1, h => by
    by_cases e : k = n + 1
    · subst e; exact ⟨[], by simp⟩
    · obtain ⟨t, ht⟩ := runS_pre key gs us vs k n (by omega)
      show ∃ t, (runStep key n _ _ _ (runS key gs us vs n)).2.2 = _
      unfold runStep
      split
      · exact ⟨t ++ [_, _, _], by simp only []; rw [ht, List.append_assoc]⟩
      · exact ⟨t, ht⟩
/-- The shares of a party. -/
def side (p : Int) (R : List Int × List Int × List Int) : List Int := if p = 1 then R.2.1 else R.1
theorem fld_app {o t : List Int} {c j : Nat} (h : o.length = c * 3) : fld 3 (o ++ t) c j = nth t j := by
  unfold fld; rw [nth_r (by omega), h, Nat.add_sub_cancel_left]
/-- Each party gets its shares from what is opened. -/
theorem party_run (key p : Int) (hp : p = 0 ∨ p = 1) (gs us vs : List Int) (m gn : Nat) (hu : us.length = m) (hv : vs.length = m) (bu : bit1 us) (bv : bit1 vs) (hgn : gn ≤ 300) :
    ∀ k, k ≤ gn → pwRun key p gs (side p (us, vs, [])) (runS key gs us vs gn).2.2 k = (side p (runS key gs us vs k), (runS key gs us vs k).2.2.length / 3, true)
  | 0, _ => by simp [pwRun, runS]
  | k + 1, hk => by
    have ih := party_run key p hp gs us vs m gn hu hv bu bv hgn k (by omega)
    obtain ⟨c, ok⟩ := runS_ok key (us := us) (vs := vs) (gs := gs) hu hv bu bv k (by omega)
    obtain ⟨t, ht⟩ := runS_pre key gs us vs (k + 1) gn (by omega)
    have lo := ok.lo
    have hc : (runS key gs us vs k).2.2.length / 3 = c := by omega
    show pwStep key p k _ _ _ _ (pwRun key p gs _ _ k) = _
    rw [ih, ht]
    show pwStep key p k _ _ _ _ _ = (side p (runStep key k _ _ _ (runS key gs us vs k)), (runStep key k _ _ _ (runS key gs us vs k)).2.2.length / 3, true)
    rw [show (runS key gs us vs (k + 1)).2.2 = (runStep key k (fld 3 gs k 0) (fld 3 gs k 1) (fld 3 gs k 2) (runS key gs us vs k)).2.2 from rfl]
    unfold pwStep runStep
    rw [if_neg (by simp)]
    by_cases h1 : fld 3 gs k 0 = 1
    · rw [if_pos h1, if_pos h1]
      have f0 : ∀ d e : Int, fld 3 (((runS key gs us vs k).2.2 ++ [(k : Int), d, e]) ++ t) c 0 = k := fun d e => by rw [List.append_assoc, fld_app lo]; rfl
      have f1 : ∀ d e : Int, fld 3 (((runS key gs us vs k).2.2 ++ [(k : Int), d, e]) ++ t) c 1 = d := fun d e => by rw [List.append_assoc, fld_app lo]; rfl
      have f2 : ∀ d e : Int, fld 3 (((runS key gs us vs k).2.2 ++ [(k : Int), d, e]) ++ t) c 2 = e := fun d e => by rw [List.append_assoc, fld_app lo]; rfl
      have hl : ∀ d e : Int, ((runS key gs us vs k).2.2 ++ [(k : Int), d, e]).length / 3 = c + 1 := fun d e => by rw [List.length_append, lo]; simp only [List.length_cons, List.length_nil]; omega
      simp only [hc, f0, f1, f2, hl]
      rw [if_pos (by simp only [decide_true, Bool.true_and, Bool.and_eq_true]; exact ⟨inB_iff.2 (xr_bd _ _), inB_iff.2 (xr_bd _ _)⟩)]
      rcases hp with rfl | rfl <;> simp [side, pT]
    · rw [if_neg h1, if_neg h1]
      rcases hp with rfl | rfl <;> simp [side]
theorem pwAll_own {i0 i1 : Int} {gs os us vs : List Int} {gn : Nat} {key p : Int} (hp : p = 0 ∨ p = 1) (hA : askB i0 i1 gs gn os us vs = true) (hk : keyB key = true) :
    pwAll i0 i1 gs gn os key p (side p (shU key us vs, shV key us vs, [])) (runR key gs us vs gn).2.2 = (side p (runR key gs us vs gn), true) := by
  obtain ⟨hcc, hu, hv, e0, e1⟩ := askB_iff.1 hA
  have hgn := (circB_in hcc).2.2.1
  have lU := shU_len key us vs; have lV := shV_len key us vs
  have hr := party_run key p hp gs (shU key us vs) (shV key us vs) _ gn lU lV (shU_bit hu) (shV_bit hv) hgn gn (Nat.le_refl _)
  have hb : bit1 (side p (shU key us vs, shV key us vs, [])) := by unfold side; split; exact shV_bit hv; exact shU_bit hu
  have hok := pwRun_ok key p hp (gs := gs) (zs := (runR key gs us vs gn).2.2) hb gn (by unfold runR; rw [hr])
  refine pwAll_yes ⟨hcc, hk, ?_, ?_, ?_, ?_⟩ hr
  · rcases hp with rfl | rfl <;> exact inB_iff.2 (by omega)
  · exact allIn_iff.2 fun i hi => inB_iff.2 (bit1_at hb i)
  · rw [← e0, ← e1]; unfold side; split <;> simp only [lU, lV] <;> omega
  · have := hok.cnt; unfold runR at this ⊢; rw [hr] at this; exact this
/-- The outs of a run are those of the circuit. -/
theorem rs_ev {i0 i1 : Int} {gs os us vs : List Int} {gn : Nat} {key : Int} (hA : askB i0 i1 gs gn os us vs = true) (hk : keyB key = true) : rsAll i0 i1 gs gn os key us vs = evAll i0 i1 gs gn os us vs := by
  obtain ⟨hcc, hu, hv, e0, e1⟩ := askB_iff.1 hA
  have hgn := (circB_in hcc).2.2.1
  have ho := (outs_in hcc (n := us.length + vs.length + gn) (by omega)).out
  unfold rsAll evAll
  rw [hA, hk]
  simp only [Bool.and_self, if_true]
  refine Prod.ext ?_ rfl
  have hG : gatesB (((us.length + vs.length : Nat)) : Int) gs gn = true := by have := (circB_iff.1 hcc).2.1; rw [← e0, ← e1] at this; rw [show (((us.length + vs.length : Nat)) : Int) = (us.length : Int) + (vs.length : Int) by omega]; exact this
  have hx := run_xor key hu hv hgn hG gn (Nat.le_refl _)
  show xrL _ _ _ = pkL _ _ _
  unfold xrL
  conv => rhs; unfold pkL
  apply List.map_congr_left
  intro q hq
  have hq' := List.mem_range.1 hq
  have h2 := ho q hq'
  rw [nth_pkL hq', nth_pkL hq']
  exact hx _ (by omega)
end Go.Proofs.Ytmkcanbaleecfaa
