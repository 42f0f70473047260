/-
  Lists without a place; the share that is wrong.
-/
import Derived.Test.YtfichpppjpgahaaHa
import Derived.Test.YtfichpppjpgahaaD
import Derived.Deep.RegionHeld3
import Derived.Deep.AppendLies
namespace Go.Proofs.Ytfichpppjpgahaa
open Go.RowKit
set_option linter.unusedVariables false
set_option linter.unusedSimpArgs false
set_option maxRecDepth 20000

theorem step_apps {ops : Array Oper} {o : Oper} {a : Act} {w : World} {K : Act → World → Prop} {Q : Exit → Act → World → Prop} {E : Prop} (B n : Nat) (v : Value) (xs ys : List Int) (ad : Option Addr) (m cap : Nat)
    (hg : o.guard = none) (s x : Operand) (ho : o.op = .call { callee := .builtin .append, args := #[s, x], argTypes := #[24, 24] })
    (hs : a.eval s = v) (hx : a.eval x = .slice ad m cap) (hy : Ints w ad m cap ys)
    (hown : w.ownsRow B 3 1 v n (ivs xs)) (hB : B ≤ w.heap.size) (hn : n + m ≤ 1000000000000)
    (h : ∀ v' w', w'.ownsRow B 3 1 v' (n + m) (ivs (xs ++ ys)) → Below B w w' → K (a.put o.dst v') w') :
    if Region.wanted o (yielded ops a.tmps) = true then Oper.wp Try.prog o a w K Q else E := by
  have hw : Region.wanted o (yielded ops a.tmps) = true := by simp [Region.wanted, hg]
  rw [if_pos hw]
  obtain ⟨i0, hi, hz0, hz1, hz2⟩ := info_parts info_int
  have hlen := hy.len.out
  cases ad with
  | none =>
    have hc := hy.nilc.out rfl
    have hnc := hy.ncap
    obtain rfl : cap = 0 := hc
    obtain rfl : m = 0 := by omega
    obtain rfl : ys = [] := List.length_eq_zero_iff.1 hlen
    have hrun := run_append_owned_none (P := Try.prog) (w := w) B 24 o.type 3 i0 1 Try.underlying24 hi v n (ivs xs) hown
    unfold Oper.wp
    simp [execOp, ho, resolve, invoke, builtin, hs, hx, hrun, Result.andThen]
    exact h v w (by simpa using hown) (Below.refl _ _)
  | some ad =>
    refine wp_append_own w s x 24 ho B 3 i0 (.int .i64 0) 1 8 Try.underlying24 hi hz0 hz1 hz2 rfl (by decide) v n (ivs xs) hs hown ad m cap (ivs ys) hx (by rw [ivs_len, hlen]; omega) ?_ ?_ (by unfold maxLen; omega) (by omega) hB ?_
    · intro j c hj
      have hjm : j < m := by
        rcases Nat.lt_or_ge j m with k | k
        · exact k
        · rw [List.getElem?_eq_none (by rw [ivs_len, hlen]; exact k)] at hj; cases hj
      obtain ⟨b, off, e, _, hcell⟩ := hy.at hjm
      simp only [Option.some.injEq] at e
      subst e
      have e2 : (⟨b, off, none⟩ : Addr).add j = ⟨b, off + j, none⟩ := by
        unfold Addr.add; split
        · rename_i h0; subst h0; rfl
        · rfl
      rw [e2, hcell]
      simp only [ivs, List.getElem?_map] at hj
      rw [List.getElem?_eq_getElem (by omega)] at hj
      simp only [Option.map_some, Option.some.injEq] at hj
      rw [← hj, nth_get (by omega)]
    · intro c hc
      simp only [ivs, List.mem_map] at hc
      obtain ⟨q, _, rfl⟩ := hc
      rfl
    · intro v' w' h1 h2 _
      rw [← ivs_app] at h1
      exact h v' w' h1 (below_grown_own hown h2 hB)
theorem Ints.take3 {w : World} {b off n cap : Nat} {xs : List Int} (h : Ints w (some ⟨b, off, none⟩) n cap xs) {k : Nat} (hk : k ≤ n) : Ints w (some ⟨b, off, none⟩) k k (xs.take k) := by
  have t := h.take hk
  have hc := h.capm; have hn := h.ncap
  exact ⟨t.len, Nat.le_refl _, t.small, by omega, t.cell, t.wf, fun e => by cases e⟩
theorem wo_fit {w : World} {a : Option Addr} {n cap : Nat} {xs : List Int} (h : Ints w a n cap xs) (i : Nat) : ∀ x ∈ wo xs i, Fits x := fun x hx => by
  rw [wo_erase] at hx
  exact h.wf.out x (List.mem_of_mem_eraseIdx hx)
set_option maxHeartbeats 2000000 in
theorem i_left (a : Option Addr) (n cap i : Nat) (xs : List Int) (w : World) (h : Ints w a n cap xs) (hi : i < n) (hn : n ≤ 1000) :
    Calls Try.prog 74 #[.slice a n cap, .int .i64 i] w fun e w' => ∃ r c, e = .returned (.slice r (n - 1) c) ∧ Ints w' r (n - 1) c (wo xs i) ∧ Below w.heap.size w w' := by
  have HH := Lib.hid h
  have hnc := h.ncap; have hcm := h.capm
  have hlen := h.len.out
  obtain ⟨b, off, rfl, _, _⟩ := h.at (i := i) hi
  obtain ⟨m, hm⟩ : ∃ m : Nat, m = i + 1 := ⟨_, rfl⟩
  have i0 : (0 : Int) ≤ (i : Int) := by omega
  have i1 : (i : Int) ≤ (n : Int) := by omega
  have i2 : (i : Int) ≤ (cap : Int) := by omega
  have i3 : (m : Int) ≤ (n : Int) := by omega
  have i4 : (0 : Int) ≤ (m : Int) := by omega
  have i6 : (m : Int) ≤ (cap : Int) := by omega
  have i5 : IntKind.i64.wrap ((i : Int) + 1) = (m : Int) := by rw [show (i : Int) + 1 = (m : Int) by omega]; exact IntWalk.i64_in _ (by omega)
  have i7 : (i : Int) + 1 = (m : Int) := by omega
  have i8 : IntKind.i64.wrap (m : Int) = (m : Int) := IntWalk.i64_in _ (by omega)
  have hlen' : Hid (i + (n - m) = n - 1) := by show _ = _; omega
  have HD : Hid (xs.drop n = []) := by show _ = _; rw [List.drop_eq_nil_iff, hlen]; exact Nat.le_refl _
  have HW : Hid (wo xs i = xs.take i ++ xs.drop m) := by show _ = _; rw [hm]; rfl
  have HF := Lib.hid (wo_fit h i)
  have HT := Lib.hid (h.take (k := i) (by omega))
  have him : i < m := by omega
  clear h hlen hm
  by_cases hlast : n = m
  · obtain rfl : m = n := hlast.symm
    have HFT : Hid (∀ x ∈ xs.take i ++ [], Fits x) := by show ∀ x ∈ _, _; rw [← HD.out, ← HW.out]; exact HF.out
    by_cases hcap : cap = m
    · obtain rfl : m = cap := hcap.symm
      go_enter Try.func74, Try.ntmps74
      go_wp2_with fail
      go_region_held3 (fun W => True) (trivial) (first | (go_at_call 121; refine (i_with _ _ _ (xs.take i) _ _ _ [] _ ((HH.out.take3 (by omega)).below (by (repeat (first | exact Below.refl _ _ | assumption | refine bel_trans ?_ (bel_alloc _ _) | refine bel_set ?_ (by first | (dsimp only; omega) | (simp; omega) | simp) _ | refine bel_trans ?_ (bel_drewN _ _) | refine bel_trans ?_ (bel_drew _) | refine bel_trans ?_ (by assumption))))) (by exact Ints.empty (by omega)) (by omega) (by omega)).mono ?_; rintro e w1 ⟨r, c, rfl, ho, hb⟩))
      have HO := Lib.hid ho; have HB := Lib.hid (show Below w.heap.size w w1 by (repeat (first | exact Below.refl _ _ | assumption | refine bel_trans ?_ (bel_alloc _ _) | refine bel_set ?_ (by first | (dsimp only; omega) | (simp; omega) | simp) _ | refine bel_trans ?_ (bel_drewN _ _) | refine bel_trans ?_ (bel_drew _) | refine bel_trans ?_ (by assumption))))
      clear ho hb
      go_wp2
      go_ret
      rw [HW.out, HD.out]
      first | exact ⟨_, _, rfl, by rw [← hlen'.out]; exact HO.out, HB.out⟩ | exact ⟨_, _, by rw [← hlen'.out]; rfl, by rw [← hlen'.out]; exact HO.out, HB.out⟩ | (simp only [Nat.sub_self, Nat.add_zero] at HO hlen'; exact ⟨_, _, by rw [← hlen'.out]; rfl, by rw [← hlen'.out]; exact HO.out, HB.out⟩)
    · have hcap2 : True := trivial
      go_enter Try.func74, Try.ntmps74
      go_wp2_with fail
      go_region_held3 (fun W => True) (trivial) (first | (go_at_call 121; refine (i_with _ _ _ (xs.take i) _ _ _ [] _ ((HH.out.take3 (by omega)).below (by (repeat (first | exact Below.refl _ _ | assumption | refine bel_trans ?_ (bel_alloc _ _) | refine bel_set ?_ (by first | (dsimp only; omega) | (simp; omega) | simp) _ | refine bel_trans ?_ (bel_drewN _ _) | refine bel_trans ?_ (bel_drew _) | refine bel_trans ?_ (by assumption))))) (by exact Ints.empty (by omega)) (by omega) (by omega)).mono ?_; rintro e w1 ⟨r, c, rfl, ho, hb⟩))
      have HO := Lib.hid ho; have HB := Lib.hid (show Below w.heap.size w w1 by (repeat (first | exact Below.refl _ _ | assumption | refine bel_trans ?_ (bel_alloc _ _) | refine bel_set ?_ (by first | (dsimp only; omega) | (simp; omega) | simp) _ | refine bel_trans ?_ (bel_drewN _ _) | refine bel_trans ?_ (bel_drew _) | refine bel_trans ?_ (by assumption))))
      clear ho hb
      go_wp2
      go_ret
      rw [HW.out, HD.out]
      first | exact ⟨_, _, rfl, by rw [← hlen'.out]; exact HO.out, HB.out⟩ | exact ⟨_, _, by rw [← hlen'.out]; rfl, by rw [← hlen'.out]; exact HO.out, HB.out⟩ | (simp only [Nat.sub_self, Nat.add_zero] at HO hlen'; exact ⟨_, _, by rw [← hlen'.out]; rfl, by rw [← hlen'.out]; exact HO.out, HB.out⟩)
  · have hcap : ¬ cap = m := by omega
    have HDI := Lib.hid (HH.out.drop (k := m) (by omega))
    have HFT : Hid (∀ x ∈ xs.take i ++ xs.drop m, Fits x) := by show ∀ x ∈ _, _; rw [← HW.out]; exact HF.out
    go_enter Try.func74, Try.ntmps74
    go_wp2_with fail
    go_region_held3 (fun W => True) (trivial) (first | (go_at_call 121; refine (i_with _ _ _ (xs.take i) _ _ _ (xs.drop m) _ ((HH.out.take3 (by omega)).below (by (repeat (first | exact Below.refl _ _ | assumption | refine bel_trans ?_ (bel_alloc _ _) | refine bel_set ?_ (by first | (dsimp only; omega) | (simp; omega) | simp) _ | refine bel_trans ?_ (bel_drewN _ _) | refine bel_trans ?_ (bel_drew _) | refine bel_trans ?_ (by assumption))))) (HDI.out.below (by (repeat (first | exact Below.refl _ _ | assumption | refine bel_trans ?_ (bel_alloc _ _) | refine bel_set ?_ (by first | (dsimp only; omega) | (simp; omega) | simp) _ | refine bel_trans ?_ (bel_drewN _ _) | refine bel_trans ?_ (bel_drew _) | refine bel_trans ?_ (by assumption))))) (by omega) (by omega)).mono ?_; rintro e w1 ⟨r, c, rfl, ho, hb⟩))
    have HO := Lib.hid ho; have HB := Lib.hid (show Below w.heap.size w w1 by (repeat (first | exact Below.refl _ _ | assumption | refine bel_trans ?_ (bel_alloc _ _) | refine bel_set ?_ (by first | (dsimp only; omega) | (simp; omega) | simp) _ | refine bel_trans ?_ (bel_drewN _ _) | refine bel_trans ?_ (bel_drew _) | refine bel_trans ?_ (by assumption))))
    clear ho hb
    go_wp2
    go_ret
    rw [HW.out]
    first | exact ⟨_, _, rfl, by rw [← hlen'.out]; exact HO.out, HB.out⟩ | exact ⟨_, _, by rw [← hlen'.out]; rfl, by rw [← hlen'.out]; exact HO.out, HB.out⟩ | (simp only [Nat.sub_self, Nat.add_zero] at HO hlen'; exact ⟨_, _, by rw [← hlen'.out]; rfl, by rw [← hlen'.out]; exact HO.out, HB.out⟩)
set_option maxHeartbeats 2000000 in
theorem s_thWithout (a : Option Addr) (n cap i : Nat) (xs : List Int) (w : World) (h : Ints w a n cap xs) (hi : i < n) (hn : n ≤ 1000) :
    Calls Try.prog 77 #[.slice a n cap, .int .i64 i] w fun e w' => ∃ r c, e = .returned (.slice r (n - 1) c) ∧ Ints w' r (n - 1) c (wo xs i) ∧ Below w.heap.size w w' := by
  have HH := Lib.hid h
  have hnc := h.ncap; have hcm := h.capm
  have hlen := h.len.out
  obtain ⟨b, off, rfl, _, _⟩ := h.at (i := i) hi
  obtain ⟨m, hm⟩ : ∃ m : Nat, m = i + 1 := ⟨_, rfl⟩
  have i0 : (0 : Int) ≤ (i : Int) := by omega
  have i1 : (i : Int) ≤ (n : Int) := by omega
  have i2 : (i : Int) ≤ (cap : Int) := by omega
  have i3 : (m : Int) ≤ (n : Int) := by omega
  have i4 : (0 : Int) ≤ (m : Int) := by omega
  have i6 : (m : Int) ≤ (cap : Int) := by omega
  have i5 : IntKind.i64.wrap ((i : Int) + 1) = (m : Int) := by rw [show (i : Int) + 1 = (m : Int) by omega]; exact IntWalk.i64_in _ (by omega)
  have i7 : (i : Int) + 1 = (m : Int) := by omega
  have i8 : IntKind.i64.wrap (m : Int) = (m : Int) := IntWalk.i64_in _ (by omega)
  have hlen' : Hid (i + (n - m) = n - 1) := by show _ = _; omega
  have HD : Hid (xs.drop n = []) := by show _ = _; rw [List.drop_eq_nil_iff, hlen]; exact Nat.le_refl _
  have HW : Hid (wo xs i = xs.take i ++ xs.drop m) := by show _ = _; rw [hm]; rfl
  have HF := Lib.hid (wo_fit h i)
  have HT := Lib.hid (h.take (k := i) (by omega))
  have him : i < m := by omega
  clear h hlen hm
  by_cases hlast : n = m
  · obtain rfl : m = n := hlast.symm
    have HFT : Hid (∀ x ∈ xs.take i ++ [], Fits x) := by show ∀ x ∈ _, _; rw [← HD.out, ← HW.out]; exact HF.out
    by_cases hcap : cap = m
    · obtain rfl : m = cap := hcap.symm
      go_enter Try.func77, Try.ntmps77
      go_wp2_with fail
      go_region_held3 (fun W => True) (trivial) (first | (go_at_call 63; refine (s_l1Own _ _ _ (xs.take i) _ (HT.out.below (by (repeat (first | exact Below.refl _ _ | assumption | refine bel_trans ?_ (bel_alloc _ _) | refine bel_set ?_ (by first | (dsimp only; omega) | (simp; omega) | simp) _ | refine bel_trans ?_ (bel_drewN _ _) | refine bel_trans ?_ (bel_drew _) | refine bel_trans ?_ (by assumption))))) (by omega)).mono ?_; rintro e w1 ⟨r, c, rfl, ho, hb⟩) | (refine step_apps w.heap.size i _ (xs.take i) [] _ 0 _ (by rfl) _ _ (by rfl) (by rfl) (by rfl) (by exact Ints.empty (by omega)) (ownsRow_base ho.own (by first | exact Nat.le_refl _ | simp)) (by have := hb.size; simp at this; omega) (by omega) ?_; intro v9 w9 hv9 hb9; obtain ⟨r9, c9, e9, m9⟩ := OwnI.of hv9 (by omega) HFT.out; subst e9; have HB9 := (show Below w.heap.size w w1 by (repeat (first | exact Below.refl _ _ | assumption | refine bel_trans ?_ (bel_alloc _ _) | refine bel_set ?_ (by first | (dsimp only; omega) | (simp; omega) | simp) _ | refine bel_trans ?_ (bel_drewN _ _) | refine bel_trans ?_ (bel_drew _) | refine bel_trans ?_ (by assumption)))).trans hb9; clear hb hb9 ho hv9))
      have HO := Lib.hid m9.ints; have HB := Lib.hid HB9
      clear m9 HB9
      go_wp2
      go_ret
      rw [HW.out, HD.out]
      first | exact ⟨_, _, rfl, by rw [← hlen'.out]; exact HO.out, HB.out⟩ | exact ⟨_, _, by rw [← hlen'.out]; rfl, by rw [← hlen'.out]; exact HO.out, HB.out⟩ | (simp only [Nat.sub_self, Nat.add_zero] at HO hlen'; exact ⟨_, _, by rw [← hlen'.out]; rfl, by rw [← hlen'.out]; exact HO.out, HB.out⟩)
    · have hcap2 : True := trivial
      go_enter Try.func77, Try.ntmps77
      go_wp2_with fail
      go_region_held3 (fun W => True) (trivial) (first | (go_at_call 63; refine (s_l1Own _ _ _ (xs.take i) _ (HT.out.below (by (repeat (first | exact Below.refl _ _ | assumption | refine bel_trans ?_ (bel_alloc _ _) | refine bel_set ?_ (by first | (dsimp only; omega) | (simp; omega) | simp) _ | refine bel_trans ?_ (bel_drewN _ _) | refine bel_trans ?_ (bel_drew _) | refine bel_trans ?_ (by assumption))))) (by omega)).mono ?_; rintro e w1 ⟨r, c, rfl, ho, hb⟩) | (refine step_apps w.heap.size i _ (xs.take i) [] _ 0 _ (by rfl) _ _ (by rfl) (by rfl) (by rfl) (by exact Ints.empty (by omega)) (ownsRow_base ho.own (by first | exact Nat.le_refl _ | simp)) (by have := hb.size; simp at this; omega) (by omega) ?_; intro v9 w9 hv9 hb9; obtain ⟨r9, c9, e9, m9⟩ := OwnI.of hv9 (by omega) HFT.out; subst e9; have HB9 := (show Below w.heap.size w w1 by (repeat (first | exact Below.refl _ _ | assumption | refine bel_trans ?_ (bel_alloc _ _) | refine bel_set ?_ (by first | (dsimp only; omega) | (simp; omega) | simp) _ | refine bel_trans ?_ (bel_drewN _ _) | refine bel_trans ?_ (bel_drew _) | refine bel_trans ?_ (by assumption)))).trans hb9; clear hb hb9 ho hv9))
      have HO := Lib.hid m9.ints; have HB := Lib.hid HB9
      clear m9 HB9
      go_wp2
      go_ret
      rw [HW.out, HD.out]
      first | exact ⟨_, _, rfl, by rw [← hlen'.out]; exact HO.out, HB.out⟩ | exact ⟨_, _, by rw [← hlen'.out]; rfl, by rw [← hlen'.out]; exact HO.out, HB.out⟩ | (simp only [Nat.sub_self, Nat.add_zero] at HO hlen'; exact ⟨_, _, by rw [← hlen'.out]; rfl, by rw [← hlen'.out]; exact HO.out, HB.out⟩)
  · have hcap : ¬ cap = m := by omega
    have HDI := Lib.hid (HH.out.drop (k := m) (by omega))
    have HFT : Hid (∀ x ∈ xs.take i ++ xs.drop m, Fits x) := by show ∀ x ∈ _, _; rw [← HW.out]; exact HF.out
    go_enter Try.func77, Try.ntmps77
    go_wp2_with fail
    go_region_held3 (fun W => True) (trivial) (first | (go_at_call 63; refine (s_l1Own _ _ _ (xs.take i) _ (HT.out.below (by (repeat (first | exact Below.refl _ _ | assumption | refine bel_trans ?_ (bel_alloc _ _) | refine bel_set ?_ (by first | (dsimp only; omega) | (simp; omega) | simp) _ | refine bel_trans ?_ (bel_drewN _ _) | refine bel_trans ?_ (bel_drew _) | refine bel_trans ?_ (by assumption))))) (by omega)).mono ?_; rintro e w1 ⟨r, c, rfl, ho, hb⟩) | (refine step_apps w.heap.size i _ (xs.take i) (xs.drop m) _ (n - m) _ (by rfl) _ _ (by rfl) (by rfl) (by rfl) (HDI.out.below (by (repeat (first | exact Below.refl _ _ | assumption | refine bel_trans ?_ (bel_alloc _ _) | refine bel_set ?_ (by first | (dsimp only; omega) | (simp; omega) | simp) _ | refine bel_trans ?_ (bel_drewN _ _) | refine bel_trans ?_ (bel_drew _) | refine bel_trans ?_ (by assumption))))) (ownsRow_base ho.own (by first | exact Nat.le_refl _ | simp)) (by have := hb.size; simp at this; omega) (by omega) ?_; intro v9 w9 hv9 hb9; obtain ⟨r9, c9, e9, m9⟩ := OwnI.of hv9 (by omega) HFT.out; subst e9; have HB9 := (show Below w.heap.size w w1 by (repeat (first | exact Below.refl _ _ | assumption | refine bel_trans ?_ (bel_alloc _ _) | refine bel_set ?_ (by first | (dsimp only; omega) | (simp; omega) | simp) _ | refine bel_trans ?_ (bel_drewN _ _) | refine bel_trans ?_ (bel_drew _) | refine bel_trans ?_ (by assumption)))).trans hb9; clear hb hb9 ho hv9))
    have HO := Lib.hid m9.ints; have HB := Lib.hid HB9
    clear m9 HB9
    go_wp2
    go_ret
    rw [HW.out]
    first | exact ⟨_, _, rfl, by rw [← hlen'.out]; exact HO.out, HB.out⟩ | exact ⟨_, _, by rw [← hlen'.out]; rfl, by rw [← hlen'.out]; exact HO.out, HB.out⟩ | (simp only [Nat.sub_self, Nat.add_zero] at HO hlen'; exact ⟨_, _, by rw [← hlen'.out]; rfl, by rw [← hlen'.out]; exact HO.out, HB.out⟩)
end Go.Proofs.Ytfichpppjpgahaa
