/-
  Contracts: the degrees of the wires of an arithmetic circuit, both sides.
-/
import Derived.Test.YtfichpppjpgahaaBc
import Derived.Test.YtfichpppjpgahaaBd
import Derived.Test.YtfichpppjpgahaaCv
import Derived.BigQuiet
namespace Go.Proofs.Ytfichpppjpgahaa
open Go.RowKit
set_option linter.unusedVariables false
set_option linter.unusedSimpArgs false
set_option maxRecDepth 10000

theorem Ints.ofCell {w : World} {m : Nat} {x : Int} (hc : w.cell? ⟨m, 0, none⟩ = some (.int .i64 x)) (hf : Fits x) : Ints w (some ⟨m, 0, none⟩) 1 1 [x] :=
  ⟨rfl, Nat.le_refl _, by omega, by omega, fun i hi => ⟨m, 0, rfl, lt_of_cell hc, by obtain rfl : i = 0 := (by omega); exact hc⟩, fun y hy => by simp at hy; subst hy; exact hf, fun e => by cases e⟩
def dVal (C K A B : Int) (o : List Int) : Int := if K = 0 then max (nth o A.toNat) (nth o B.toNat) else if K = 1 then min (nth o A.toNat + nth o B.toNat) C else if K = 2 then nth o A.toNat else 0
theorem ads_step (C : Int) (gs : List Int) (n k : Nat) : ads C gs n (k + 1) = ads C gs n k ++ [dVal C (fld 3 gs k 0) (fld 3 gs k 1) (fld 3 gs k 2) (ads C gs n k)] := rfl
theorem ads_all {C : Int} (hC : 1 ≤ C) (gs : List Int) (n m : Nat) : ∀ x ∈ ads C gs n m, 0 ≤ x ∧ x ≤ C := by
  intro x hx
  obtain ⟨i, _, rfl⟩ := mem_nth hx
  exact ads_bd hC gs n m i
theorem cbd_fit {l : List Int} {C : Int} (hp : C ≤ 4000000) (h : ∀ x ∈ l, 0 ≤ x ∧ x ≤ C) : ∀ x ∈ l, Fits x := fun x hx => by have := h x hx; unfold Fits; omega
theorem nth_cbd {l : List Int} {C : Int} (hp : 0 ≤ C) (h : ∀ x ∈ l, 0 ≤ x ∧ x ≤ C) (i : Nat) : 0 ≤ nth l i ∧ nth l i ≤ C := by
  by_cases hi : i < l.length
  · exact h _ (nth_mem hi)
  · rw [nth_out (by omega)]; omega
theorem s_l1MostA (x y : Int) (w : World) : Calls Try.prog 97 #[.int .i64 x, .int .i64 y] w fun e w' => e = .returned (.int .i64 (max x y)) ∧ w = w' := by
  have h := s_l1Most x y w
  rw [show (if y < x then x else y) = max x y by split <;> omega] at h
  exact h
theorem s_l1LeastA (x y : Int) (w : World) :
    Calls Try.prog 123 #[.int .i64 x, .int .i64 y] w fun e w' => e = .returned (.int .i64 (min x y)) ∧ w = w' := by
  by_cases h : x < y
  · rw [show min x y = x by omega]
    go_enter Try.func123, Try.ntmps123
    go_wp2
    go_ret
    exact ⟨rfl, rfl⟩
  · rw [show min x y = y by omega]
    go_enter Try.func123, Try.ntmps123
    go_wp2
    go_ret
    exact ⟨rfl, rfl⟩
set_option maxHeartbeats 8000000 in
theorem i_degrees (p i0 i1 : Int) (ga : Option Addr) (gn gc : Nat) (gs : List Int) (oa : Option Addr) (on oc : Nat) (os : List Int) (N : Nat) (w : World) (h : Circ w ga gn gc gs oa on oc os) (hG : Hid (gatesA p (N : Int) gs gn = true)) (h0 : 0 ≤ i0 ∧ i0 ≤ 8) (h1 : 0 ≤ i1 ∧ i1 ≤ 8) (hN : i0 + i1 = N) (hs : gn ≤ 100000) :
    Calls Try.prog 90 #[.agg #[.int .i64 p, .int .i64 i0, .int .i64 i1, .slice ga gn gc, .slice oa on oc]] w fun e w' => ∃ r c, e = .returned (.slice r (N + gn) c) ∧ Mine w' w.heap.size r (N + gn) c (ads 1000001 gs N gn) ∧ Below w.heap.size w w' := by
  obtain ⟨h01, h02⟩ := h0; obtain ⟨h11, h12⟩ := h1
  have hN16 : N ≤ 16 := by omega
  have A0 := bel_alloc w (.cells #[.int .i64 p, .int .i64 i0, .int .i64 i1, .slice ga gn gc, .slice oa on oc] 48)
  have g0 := B5.new (w := w) (x0 := .int .i64 p) (x1 := .int .i64 i0) (x2 := .int .i64 i1) (x3 := .slice ga gn gc) (x4 := .slice oa on oc) (t := 48)
  have HBX := Lib.hid g0
  obtain ⟨c0, c1, c2, c3, c4⟩ := g0
  have hg := h.g
  have HV : Hid (∀ k, (∀ x ∈ ads 1000001 gs N k, 0 ≤ x ∧ x ≤ 1000001) ∧ (ads 1000001 gs N k).length = N + k) := fun k => ⟨ads_all (by omega) gs N k, by rw [ads_len]⟩
  clear h
  have zz : (w.alloc (.cells #[.int .i64 p, .int .i64 i0, .int .i64 i1, .slice ga gn gc, .slice oa on oc] 48)).heap.size = w.heap.size + 1 := by simp
  go_enter Try.func90, Try.ntmps90
  go_wp2_with fail
  refine (i_arInputs _ _ _ _ _ _ _ _ _ _ ⟨by omega, by omega⟩ ⟨by omega, by omega⟩).mono ?_; rintro e w1 ⟨rfl, hb1⟩; rw [hN]
  have hl1 : ((w.alloc (.cells #[.int .i64 p, .int .i64 i0, .int .i64 i1, .slice ga gn gc, .slice oa on oc] 48)).alloc (.cells #[.int .i64 1] 3)).cell? ⟨(w.alloc (.cells #[.int .i64 p, .int .i64 i0, .int .i64 i1, .slice ga gn gc, .slice oa on oc] 48)).heap.size, 0, none⟩ = some (.int .i64 1) := World.cell?_alloc_at _ _ _ _ rfl
  rw [zz] at hl1
  have BA := bel_alloc (w.alloc (.cells #[.int .i64 p, .int .i64 i0, .int .i64 i1, .slice ga gn gc, .slice oa on oc] 48)) (.cells #[.int .i64 1] 3)
  have hl2 := Ints.ofCell (cell_on hl1 hb1) (by unfold Fits; omega)
  have BB := bel_trans BA hb1
  go_wp2_with fail
  refine (g_Repeat _ _ N _ hl2 hN16).mono ?_; rintro e w2 ⟨r, rfl, hI, hb2⟩
  have BC := bel_trans BB hb2
  have HO := Lib.hid (ownsRow_base hI.own (show w.heap.size + 1 ≤ w1.heap.size by have := BB.size; simp at this; omega))
  have HB := Lib.hid (bel_trans A0 BC)
  replace c3 := cell_on c3 BC
  clear hI hb1 A0 zz c0 c1 c2 c4 hl1 hl2 BA BB hb2 BC HBX
  go_wp2
  go_loopw [3, 14] (fun v i wr => ∃ k : Nat, k ≤ gn ∧ i = .int .i64 k ∧ Hid (wr.ownsRow (w.heap.size + 1) 3 1 v (N + k) (ivs (ads 1000001 gs N k))) ∧ Hid (Below w.heap.size w wr) ∧ Hid (w.heap.size + 1 ≤ wr.heap.size)) (fun _ i _ => gn - (intOf i).toNat)
  case atStart => exact ⟨0, by omega, rfl, HO, HB, (by have := lt_of_cell c3; exact this)⟩
  case round =>
    clear HO HB c3
    obtain ⟨k, hk9, rfl, HO, HB, HZ⟩ := hrel
    by_cases hlt : k < gn
    · have hlti : (k : Int) < (gn : Int) := by omega
      obtain ⟨gb, go, rfl, gl, g0, g1, g2⟩ := (hg.below HB.out).at3 hlt
      have hgt : arB p (fld 3 gs k 0) (fld 3 gs k 1) (fld 3 gs k 2) (((N + k : Nat)) : Int) = true := by have := gatesA_at hG.out hlt; rw [show (((N + k : Nat)) : Int) = (N : Int) + (k : Int) by omega]; exact this
      have HS : Hid (ads 1000001 gs N (k + 1) = ads 1000001 gs N k ++ [dVal 1000001 (fld 3 gs k 0) (fld 3 gs k 1) (fld 3 gs k 2) (ads 1000001 gs N k)]) := ads_step 1000001 gs N k
      have HL : Hid ((∀ x ∈ ads 1000001 gs N k, 0 ≤ x ∧ x ≤ 1000001) ∧ (ads 1000001 gs N k).length = N + k) := HV.out k
      obtain ⟨n, hn⟩ : ∃ n, n = N + k := ⟨_, rfl⟩
      rw [← hn] at hgt HL HO
      generalize ads 1000001 gs N k = l at HS HL HO
      generalize fld 3 gs k 0 = K at hgt HS g0
      generalize fld 3 gs k 1 = A at hgt HS g1
      generalize fld 3 gs k 2 = B at hgt HS g2
      have hn9 : n ≤ 200000 := by omega
      have HNN := Lib.hid hn; clear hn
      obtain ⟨a1, k1, rfl, m1⟩ := Mine.of HO.out (by omega) (cbd_fit (by omega) HL.out.1)
      have A1 := bel_alloc wr (.cells #[.int .i64 K, .int .i64 A, .int .i64 B] 91)
      have GB := B3.new (w := wr) (x0 := .int .i64 K) (x1 := .int .i64 A) (x2 := .int .i64 B) (t := 91)
      have zA := A1.size
      have zB := HB.out.size
      have zD := HZ.out
      have HO1 := Lib.hid (ownsRow_below HO.out A1); have HB1 := Lib.hid (bel_trans HB.out A1)
      obtain ⟨b0, b1_, b2_⟩ := id GB
      by_cases hK0 : K = 0
      · subst hK0
        rw [arB_01 (Or.inl rfl)] at hgt
        obtain ⟨ga1, gb1⟩ := Bool.and_eq_true_iff.1 hgt
        obtain ⟨q, q', rfl, rfl, hq, hq', bb, off, rfl, hbl, hc, hd⟩ := m1.ints.wiresA ga1 gb1
        have hqi : (q : Int) < (n : Int) := by omega
        have hqi' : (q' : Int) < (n : Int) := by omega
        have qb := nth_cbd (by omega) HL.out.1 q
        have qb' := nth_cbd (by omega) HL.out.1 q'
        replace hc := cell_on hc A1; replace hd := cell_on hd A1
        have HN0 : Hid (ads 1000001 gs N (k + 1) = l ++ [max (nth l q) (nth l q')]) := by show _ = _; rw [HS.out]; unfold dVal; rw [if_pos rfl]; simp
        clear hgt ga1 gb1 HS m1 GB HL
        have e1 : True := trivial
        rcases (show nth l q < nth l q' ∨ nth l q' ≤ nth l q by omega) with hm | hm
        · have HN : Hid (ads 1000001 gs N (k + 1) = l ++ [nth l q']) := by show _ = _; rw [HN0.out, show max (nth l q) (nth l q') = nth l q' by omega]
          have hm2 : max (nth l q) (nth l q') = nth l q' := by omega
          clear HN0
          go_wp2_with fail
          go_quiet (fail)
          go_wp2_with (at_builtin; (try rw [e1]); go_loud (refine wp_app _ (w.heap.size + 1) _ _ _ (_) _ _ rfl _ _ rfl rfl rfl (by first | rfl | simp) (ownsRow_below HO1.out (by (repeat (first | exact Below.refl _ _ | assumption | refine bel_trans ?_ (bel_alloc _ _) | refine bel_set ?_ (by first | (dsimp only; omega) | (simp; omega) | simp) _ | refine bel_trans ?_ (bel_drewN _ _) | refine bel_trans ?_ (bel_drew _) | refine bel_trans ?_ (by assumption))))) (by first | omega | (simp; omega)) (by omega) ?_; intro v9 w9 hv9 hb9 hg9))
          clear hg9
          go_roundw
          case rel => exact ⟨k + 1, by omega, by go_num, by rw [show N + (k + 1) = n + 1 by have := HNN.out; omega, HN.out]; exact hv9, HB1.out.trans (((by (repeat (first | exact Below.refl _ _ | assumption | refine bel_trans ?_ (bel_alloc _ _) | refine bel_set ?_ (by first | (dsimp only; omega) | (simp; omega) | simp) _ | refine bel_trans ?_ (bel_drewN _ _) | refine bel_trans ?_ (bel_drew _) | refine bel_trans ?_ (by assumption))) : Below (wr.alloc (.cells #[.int .i64 0, .int .i64 q, .int .i64 q'] 91)).heap.size (wr.alloc (.cells #[.int .i64 0, .int .i64 q, .int .i64 q'] 91)) _).mono (by omega)).trans (hb9.mono (Nat.le_succ _))), (show Hid _ from by show _ ≤ _; have := hb9.size; simp at this; omega)⟩
          case measure => simp [intOf]; omega
        · have HN : Hid (ads 1000001 gs N (k + 1) = l ++ [nth l q]) := by show _ = _; rw [HN0.out, show max (nth l q) (nth l q') = nth l q by omega]
          have hm2 : max (nth l q) (nth l q') = nth l q := by omega
          clear HN0
          go_wp2_with fail
          go_quiet (fail)
          go_wp2_with (at_builtin; (try rw [e1]); go_loud (refine wp_app _ (w.heap.size + 1) _ _ _ (_) _ _ rfl _ _ rfl rfl rfl (by first | rfl | simp) (ownsRow_below HO1.out (by (repeat (first | exact Below.refl _ _ | assumption | refine bel_trans ?_ (bel_alloc _ _) | refine bel_set ?_ (by first | (dsimp only; omega) | (simp; omega) | simp) _ | refine bel_trans ?_ (bel_drewN _ _) | refine bel_trans ?_ (bel_drew _) | refine bel_trans ?_ (by assumption))))) (by first | omega | (simp; omega)) (by omega) ?_; intro v9 w9 hv9 hb9 hg9))
          clear hg9
          go_roundw
          case rel => exact ⟨k + 1, by omega, by go_num, by rw [show N + (k + 1) = n + 1 by have := HNN.out; omega, HN.out]; exact hv9, HB1.out.trans (((by (repeat (first | exact Below.refl _ _ | assumption | refine bel_trans ?_ (bel_alloc _ _) | refine bel_set ?_ (by first | (dsimp only; omega) | (simp; omega) | simp) _ | refine bel_trans ?_ (bel_drewN _ _) | refine bel_trans ?_ (bel_drew _) | refine bel_trans ?_ (by assumption))) : Below (wr.alloc (.cells #[.int .i64 0, .int .i64 q, .int .i64 q'] 91)).heap.size (wr.alloc (.cells #[.int .i64 0, .int .i64 q, .int .i64 q'] 91)) _).mono (by omega)).trans (hb9.mono (Nat.le_succ _))), (show Hid _ from by show _ ≤ _; have := hb9.size; simp at this; omega)⟩
          case measure => simp [intOf]; omega

      · by_cases hK1 : K = 1
        · subst hK1
          rw [arB_01 (Or.inr rfl)] at hgt
          obtain ⟨ga1, gb1⟩ := Bool.and_eq_true_iff.1 hgt
          obtain ⟨q, q', rfl, rfl, hq, hq', bb, off, rfl, hbl, hc, hd⟩ := m1.ints.wiresA ga1 gb1
          have hqi : (q : Int) < (n : Int) := by omega
          have hqi' : (q' : Int) < (n : Int) := by omega
          have qb := nth_cbd (by omega) HL.out.1 q
          have qb' := nth_cbd (by omega) HL.out.1 q'
          replace hc := cell_on hc A1; replace hd := cell_on hd A1
          have HN0 : Hid (ads 1000001 gs N (k + 1) = l ++ [min (nth l q + nth l q') 1000001]) := by show _ = _; rw [HS.out]; unfold dVal; rw [if_neg (by omega), if_pos rfl]; simp
          have e1 : IntKind.i64.wrap (nth l q + nth l q') = nth l q + nth l q' := IntWalk.i64_in _ (by omega)
          clear hgt ga1 gb1 HS m1 GB HL
          rcases (show ¬ 1000001 < nth l q + nth l q' ∨ 1000001 < nth l q + nth l q' by omega) with hm | hm
          · have HN : Hid (ads 1000001 gs N (k + 1) = l ++ [nth l q + nth l q']) := by show _ = _; rw [HN0.out, show min (nth l q + nth l q') 1000001 = nth l q + nth l q' by omega]
            have hm2 : min (nth l q + nth l q') 1000001 = nth l q + nth l q' := by omega
            clear HN0
            go_wp2_with fail
            go_quiet (fail)
            go_wp2_with (at_builtin; (try rw [e1]); go_loud (refine wp_app _ (w.heap.size + 1) _ _ _ (_) _ _ rfl _ _ rfl rfl rfl (by first | rfl | simp) (ownsRow_below HO1.out (by (repeat (first | exact Below.refl _ _ | assumption | refine bel_trans ?_ (bel_alloc _ _) | refine bel_set ?_ (by first | (dsimp only; omega) | (simp; omega) | simp) _ | refine bel_trans ?_ (bel_drewN _ _) | refine bel_trans ?_ (bel_drew _) | refine bel_trans ?_ (by assumption))))) (by first | omega | (simp; omega)) (by omega) ?_; intro v9 w9 hv9 hb9 hg9))
            clear hg9
            go_roundw
            case rel => exact ⟨k + 1, by omega, by go_num, by rw [show N + (k + 1) = n + 1 by have := HNN.out; omega, HN.out]; exact hv9, HB1.out.trans (((by (repeat (first | exact Below.refl _ _ | assumption | refine bel_trans ?_ (bel_alloc _ _) | refine bel_set ?_ (by first | (dsimp only; omega) | (simp; omega) | simp) _ | refine bel_trans ?_ (bel_drewN _ _) | refine bel_trans ?_ (bel_drew _) | refine bel_trans ?_ (by assumption))) : Below (wr.alloc (.cells #[.int .i64 1, .int .i64 q, .int .i64 q'] 91)).heap.size (wr.alloc (.cells #[.int .i64 1, .int .i64 q, .int .i64 q'] 91)) _).mono (by omega)).trans (hb9.mono (Nat.le_succ _))), (show Hid _ from by show _ ≤ _; have := hb9.size; simp at this; omega)⟩
            case measure => simp [intOf]; omega
          · have HN : Hid (ads 1000001 gs N (k + 1) = l ++ [1000001]) := by show _ = _; rw [HN0.out, show min (nth l q + nth l q') 1000001 = 1000001 by omega]
            have hm2 : min (nth l q + nth l q') 1000001 = 1000001 := by omega
            clear HN0
            go_wp2_with fail
            go_quiet (fail)
            go_wp2_with (at_builtin; (try rw [e1]); go_loud (refine wp_app _ (w.heap.size + 1) _ _ _ (_) _ _ rfl _ _ rfl rfl rfl (by first | rfl | simp) (ownsRow_below HO1.out (by (repeat (first | exact Below.refl _ _ | assumption | refine bel_trans ?_ (bel_alloc _ _) | refine bel_set ?_ (by first | (dsimp only; omega) | (simp; omega) | simp) _ | refine bel_trans ?_ (bel_drewN _ _) | refine bel_trans ?_ (bel_drew _) | refine bel_trans ?_ (by assumption))))) (by first | omega | (simp; omega)) (by omega) ?_; intro v9 w9 hv9 hb9 hg9))
            clear hg9
            go_roundw
            case rel => exact ⟨k + 1, by omega, by go_num, by rw [show N + (k + 1) = n + 1 by have := HNN.out; omega, HN.out]; exact hv9, HB1.out.trans (((by (repeat (first | exact Below.refl _ _ | assumption | refine bel_trans ?_ (bel_alloc _ _) | refine bel_set ?_ (by first | (dsimp only; omega) | (simp; omega) | simp) _ | refine bel_trans ?_ (bel_drewN _ _) | refine bel_trans ?_ (bel_drew _) | refine bel_trans ?_ (by assumption))) : Below (wr.alloc (.cells #[.int .i64 1, .int .i64 q, .int .i64 q'] 91)).heap.size (wr.alloc (.cells #[.int .i64 1, .int .i64 q, .int .i64 q'] 91)) _).mono (by omega)).trans (hb9.mono (Nat.le_succ _))), (show Hid _ from by show _ ≤ _; have := hb9.size; simp at this; omega)⟩
            case measure => simp [intOf]; omega

        · by_cases hK2 : K = 2
          · subst hK2
            rw [arB_2] at hgt
            obtain ⟨ga1, gb1⟩ := Bool.and_eq_true_iff.1 hgt
            obtain ⟨q, rfl, hq, bb, off, rfl, hbl, hc⟩ := m1.ints.wireA ga1
            have hqi : (q : Int) < (n : Int) := by omega
            have HN : Hid (ads 1000001 gs N (k + 1) = l ++ [nth l q]) := by show _ = _; rw [HS.out]; unfold dVal; rw [if_neg (by omega), if_neg (by omega), if_pos rfl]; simp
            replace hc := cell_on hc A1
            have e1 : True := trivial
            clear hgt ga1 gb1 HS m1 GB HL hK0 hK1
            go_wp2_with (at_builtin; (try rw [e1]); go_loud (refine wp_app _ (w.heap.size + 1) _ _ _ (_) _ _ rfl _ _ rfl rfl rfl (by first | rfl | simp) (ownsRow_below HO1.out (by (repeat (first | exact Below.refl _ _ | assumption | refine bel_trans ?_ (bel_alloc _ _) | refine bel_set ?_ (by first | (dsimp only; omega) | (simp; omega) | simp) _ | refine bel_trans ?_ (bel_drewN _ _) | refine bel_trans ?_ (bel_drew _) | refine bel_trans ?_ (by assumption))))) (by first | omega | (simp; omega)) (by omega) ?_; intro v9 w9 hv9 hb9 hg9))
            clear hg9
            go_roundw
            case rel => exact ⟨k + 1, by omega, by go_num, by rw [show N + (k + 1) = n + 1 by have := HNN.out; omega, HN.out]; exact hv9, HB1.out.trans (hb9.mono (Nat.le_succ _)), (show Hid _ from by show _ ≤ _; have := hb9.size; simp at this; omega)⟩
            case measure => simp [intOf]; omega
          · have k0b : (K == 0) = false := by simpa using hK0
            have k1b : (K == 1) = false := by simpa using hK1
            have k2b : (K == 2) = false := by simpa using hK2
            have HN : Hid (ads 1000001 gs N (k + 1) = l ++ [0]) := by show _ = _; rw [HS.out]; unfold dVal; rw [if_neg hK0, if_neg hK1, if_neg hK2]
            have e1 : True := trivial
            clear hgt HS m1 GB HL hK0 hK1 hK2
            go_wp2_with (at_builtin; (try rw [e1]); go_loud (refine wp_app _ (w.heap.size + 1) _ _ _ (_) _ _ rfl _ _ rfl rfl rfl (by first | rfl | simp) (ownsRow_below HO1.out (by (repeat (first | exact Below.refl _ _ | assumption | refine bel_trans ?_ (bel_alloc _ _) | refine bel_set ?_ (by first | (dsimp only; omega) | (simp; omega) | simp) _ | refine bel_trans ?_ (bel_drewN _ _) | refine bel_trans ?_ (bel_drew _) | refine bel_trans ?_ (by assumption))))) (by first | omega | (simp; omega)) (by omega) ?_; intro v9 w9 hv9 hb9 hg9))
            clear hg9
            go_roundw
            case rel => exact ⟨k + 1, by omega, by go_num, by rw [show N + (k + 1) = n + 1 by have := HNN.out; omega, HN.out]; exact hv9, HB1.out.trans (hb9.mono (Nat.le_succ _)), (show Hid _ from by show _ ≤ _; have := hb9.size; simp at this; omega)⟩
            case measure => simp [intOf]; omega
    · obtain rfl : k = gn := by omega
      have hlti : ¬ (k : Int) < (k : Int) := by omega
      go_wp2
      obtain ⟨r9, c9, hv, hm⟩ := OwnI.of HO.out (by omega) (cbd_fit (by omega) (HV.out k).1)
      subst hv
      go_ret
      exact ⟨_, _, rfl, hm.mine.base (by omega), HB.out⟩
set_option maxHeartbeats 8000000 in
theorem s_arDegrees (p i0 i1 : Int) (ga : Option Addr) (gn gc : Nat) (gs : List Int) (oa : Option Addr) (on oc : Nat) (os : List Int) (N : Nat) (w : World) (h : Circ w ga gn gc gs oa on oc os) (hG : Hid (gatesA p (N : Int) gs gn = true)) (h0 : 0 ≤ i0 ∧ i0 ≤ 8) (h1 : 0 ≤ i1 ∧ i1 ≤ 8) (hN : i0 + i1 = N) (hs : gn ≤ 100000) :
    Calls Try.prog 94 #[.agg #[.int .i64 p, .int .i64 i0, .int .i64 i1, .slice ga gn gc, .slice oa on oc]] w fun e w' => ∃ r c, e = .returned (.slice r (N + gn) c) ∧ Mine w' w.heap.size r (N + gn) c (ads 2000000 gs N gn) ∧ Below w.heap.size w w' := by
  obtain ⟨h01, h02⟩ := h0; obtain ⟨h11, h12⟩ := h1
  have hN16 : N ≤ 16 := by omega
  have A0 := bel_alloc w (.cells #[.int .i64 p, .int .i64 i0, .int .i64 i1, .slice ga gn gc, .slice oa on oc] 48)
  have g0 := B5.new (w := w) (x0 := .int .i64 p) (x1 := .int .i64 i0) (x2 := .int .i64 i1) (x3 := .slice ga gn gc) (x4 := .slice oa on oc) (t := 48)
  have HBX := Lib.hid g0
  obtain ⟨c0, c1, c2, c3, c4⟩ := g0
  have hg := h.g
  have HV : Hid (∀ k, (∀ x ∈ ads 2000000 gs N k, 0 ≤ x ∧ x ≤ 2000000) ∧ (ads 2000000 gs N k).length = N + k) := fun k => ⟨ads_all (by omega) gs N k, by rw [ads_len]⟩
  clear h
  have zz : (w.alloc (.cells #[.int .i64 p, .int .i64 i0, .int .i64 i1, .slice ga gn gc, .slice oa on oc] 48)).heap.size = w.heap.size + 1 := by simp
  go_enter Try.func94, Try.ntmps94
  go_wp2
  go_loopw [3, 4] (fun v i wr => ∃ j : Nat, j ≤ N ∧ i = .int .i64 j ∧ Hid (wr.ownsRow (w.heap.size + 1) 3 1 v j (ivs (List.replicate j 1))) ∧ Hid (Below w.heap.size w wr) ∧ Hid (B5 wr w.heap.size (.int .i64 p) (.int .i64 i0) (.int .i64 i1) (.slice ga gn gc) (.slice oa on oc))) (fun _ i _ => N - (intOf i).toNat)
  case atStart => exact ⟨0, by omega, rfl, World.ownsRow_nil _ _ _ _, A0, HBX.out⟩
  case round =>
   clear c0 c1 c2 c3 c4 zz A0 HBX
   obtain ⟨j, hj, rfl, HO, HB, HX⟩ := hrel
   obtain ⟨wo, rfl⟩ : ∃ wo : World, wo = wr := ⟨_, rfl⟩
   have hx := HX.out
   obtain ⟨c0, c1, c2, c3, c4⟩ := hx
   have hxl := HX.out.lt
   by_cases hlj : j < N
   · have hlji : (j : Int) < (N : Int) := by omega
     go_wp2_with fail
     refine (s_arInputs _ _ _ _ _ _ _ _ _ _ ⟨by omega, by omega⟩ ⟨by omega, by omega⟩).mono ?_; rintro e w1 ⟨rfl, hb1⟩; rw [hN]
     have hz1 := hb1.size
     have HO1 := Lib.hid (ownsRow_below HO.out hb1)
     have HX1 := Lib.hid (HX.out.on hb1)
     have HB1 := Lib.hid (bel_trans HB.out hb1)
     clear HO HX HB hb1 c0 c1 c2 c3 c4
     go_wp2_with (at_builtin; go_loud (refine wp_app _ (w.heap.size + 1) _ _ _ 1 _ _ rfl _ _ rfl rfl rfl (by first | rfl | simp) HO1.out (by omega) (by omega) ?_; intro v9 w9 hv9 hb9 hg9))
     clear hg9
     have HX9 : Hid (B5 w9 w.heap.size (.int .i64 p) (.int .i64 i0) (.int .i64 i1) (.slice ga gn gc) (.slice oa on oc)) := by
       have hx := HX1.out
       exact ⟨(hb9.cell (p := ⟨w.heap.size, 0, none⟩) (by simp)).trans hx.c0, (hb9.cell (p := ⟨w.heap.size, 1, none⟩) (by simp)).trans hx.c1, (hb9.cell (p := ⟨w.heap.size, 2, none⟩) (by simp)).trans hx.c2, (hb9.cell (p := ⟨w.heap.size, 3, none⟩) (by simp)).trans hx.c3, (hb9.cell (p := ⟨w.heap.size, 4, none⟩) (by simp)).trans hx.c4⟩
     go_roundw
     case rel => exact ⟨j + 1, by omega, by go_num, by rw [List.replicate_succ']; exact hv9, HB1.out.trans (hb9.mono (Nat.le_succ _)), HX9⟩
     case measure => simp [intOf]; omega
   · obtain rfl : j = N := by omega
     have hlji : ¬ (j : Int) < (j : Int) := by omega
     go_wp2_with fail
     refine (s_arInputs _ _ _ _ _ _ _ _ _ _ ⟨by omega, by omega⟩ ⟨by omega, by omega⟩).mono ?_; rintro e w1 ⟨rfl, hb1⟩; rw [hN]
     have hO1 := ownsRow_below HO.out hb1
     have hX1 := HX.out.on hb1
     have hB1 := bel_trans HB.out hb1
     obtain ⟨c0', c1', c2', c3', c4'⟩ := hX1
     clear HO HX HB hb1 c0 c1 c2 c3 c4 hxl
     have HO := Lib.hid hO1
     have HB := Lib.hid hB1
     have c3 := c3'
     clear hO1 hB1 c0' c1' c2' c3' c4'
     go_wp2
     go_loopw [3, 20] (fun v i wr => ∃ k : Nat, k ≤ gn ∧ i = .int .i64 k ∧ Hid (wr.ownsRow (w.heap.size + 1) 3 1 v (j + k) (ivs (ads 2000000 gs j k))) ∧ Hid (Below w.heap.size w wr) ∧ Hid (w.heap.size + 1 ≤ wr.heap.size)) (fun _ i _ => gn - (intOf i).toNat)
     case atStart => exact ⟨0, by omega, rfl, HO, HB, (by have := lt_of_cell c3; exact this)⟩
     case round =>
       clear HO HB c3
       obtain ⟨k, hk9, rfl, HO, HB, HZ⟩ := hrel
       by_cases hlt : k < gn
       · have hlti : (k : Int) < (gn : Int) := by omega
         obtain ⟨gb, go, rfl, gl, g0, g1, g2⟩ := (hg.below HB.out).at3 hlt
         have hgt : arB p (fld 3 gs k 0) (fld 3 gs k 1) (fld 3 gs k 2) (((j + k : Nat)) : Int) = true := by have := gatesA_at hG.out hlt; rw [show (((j + k : Nat)) : Int) = (j : Int) + (k : Int) by omega]; exact this
         have HS : Hid (ads 2000000 gs j (k + 1) = ads 2000000 gs j k ++ [dVal 2000000 (fld 3 gs k 0) (fld 3 gs k 1) (fld 3 gs k 2) (ads 2000000 gs j k)]) := ads_step 2000000 gs j k
         have HL : Hid ((∀ x ∈ ads 2000000 gs j k, 0 ≤ x ∧ x ≤ 2000000) ∧ (ads 2000000 gs j k).length = j + k) := HV.out k
         obtain ⟨n, hn⟩ : ∃ n, n = j + k := ⟨_, rfl⟩
         rw [← hn] at hgt HL HO
         generalize ads 2000000 gs j k = l at HS HL HO
         generalize fld 3 gs k 0 = K at hgt HS g0
         generalize fld 3 gs k 1 = A at hgt HS g1
         generalize fld 3 gs k 2 = B at hgt HS g2
         have hn9 : n ≤ 200000 := by omega
         have HNN := Lib.hid hn; clear hn
         obtain ⟨a1, k1, rfl, m1⟩ := Mine.of HO.out (by omega) (cbd_fit (by omega) HL.out.1)
         have A1 := bel_alloc wr (.cells #[.int .i64 K, .int .i64 A, .int .i64 B] 91)
         have GB := B3.new (w := wr) (x0 := .int .i64 K) (x1 := .int .i64 A) (x2 := .int .i64 B) (t := 91)
         have zA := A1.size
         have zB := HB.out.size
         have zD := HZ.out
         have HO1 := Lib.hid (ownsRow_below HO.out A1); have HB1 := Lib.hid (bel_trans HB.out A1)
         obtain ⟨b0, b1_, b2_⟩ := id GB
         by_cases hK0 : K = 0
         · subst hK0
           rw [arB_01 (Or.inl rfl)] at hgt
           obtain ⟨ga1, gb1⟩ := Bool.and_eq_true_iff.1 hgt
           obtain ⟨q, q', rfl, rfl, hq, hq', bb, off, rfl, hbl, hc, hd⟩ := m1.ints.wiresA ga1 gb1
           have hqi : (q : Int) < (n : Int) := by omega
           have hqi' : (q' : Int) < (n : Int) := by omega
           have qb := nth_cbd (by omega) HL.out.1 q
           have qb' := nth_cbd (by omega) HL.out.1 q'
           replace hc := cell_on hc A1; replace hd := cell_on hd A1
           have HN0 : Hid (ads 2000000 gs j (k + 1) = l ++ [max (nth l q) (nth l q')]) := by show _ = _; rw [HS.out]; unfold dVal; rw [if_pos rfl]; simp
           clear hgt ga1 gb1 HS m1 GB HL
           have e1 : (if nth l q' < nth l q then nth l q else nth l q') = max (nth l q) (nth l q') := by split <;> omega
           have HN := HN0
           go_wp2_with fail
           go_quiet ((first | (go_at_call 97; exact Calls.quiet_of_same ((s_l1MostA _ _ _).mono fun _ _ h => ⟨h.1, h.2.symm⟩))))
           go_wp2_with (at_builtin; (try rw [e1]); go_loud (refine wp_app _ (w.heap.size + 1) _ _ _ (_) _ _ rfl _ _ rfl rfl rfl (by first | rfl | simp) (ownsRow_below HO1.out (by (repeat (first | exact Below.refl _ _ | assumption | refine bel_trans ?_ (bel_alloc _ _) | refine bel_set ?_ (by first | (dsimp only; omega) | (simp; omega) | simp) _ | refine bel_trans ?_ (bel_drewN _ _) | refine bel_trans ?_ (bel_drew _) | refine bel_trans ?_ (by assumption))))) (by first | omega | (simp; omega)) (by omega) ?_; intro v9 w9 hv9 hb9 hg9))
           clear hg9
           go_roundw
           case rel => exact ⟨k + 1, by omega, by go_num, by rw [show j + (k + 1) = n + 1 by have := HNN.out; omega, HN.out]; exact hv9, HB1.out.trans (((by (repeat (first | exact Below.refl _ _ | assumption | refine bel_trans ?_ (bel_alloc _ _) | refine bel_set ?_ (by first | (dsimp only; omega) | (simp; omega) | simp) _ | refine bel_trans ?_ (bel_drewN _ _) | refine bel_trans ?_ (bel_drew _) | refine bel_trans ?_ (by assumption))) : Below (wr.alloc (.cells #[.int .i64 0, .int .i64 q, .int .i64 q'] 91)).heap.size (wr.alloc (.cells #[.int .i64 0, .int .i64 q, .int .i64 q'] 91)) _).mono (by omega)).trans (hb9.mono (Nat.le_succ _))), (show Hid _ from by show _ ≤ _; have := hb9.size; simp at this; omega)⟩
           case measure => simp [intOf]; omega

         · by_cases hK1 : K = 1
           · subst hK1
             rw [arB_01 (Or.inr rfl)] at hgt
             obtain ⟨ga1, gb1⟩ := Bool.and_eq_true_iff.1 hgt
             obtain ⟨q, q', rfl, rfl, hq, hq', bb, off, rfl, hbl, hc, hd⟩ := m1.ints.wiresA ga1 gb1
             have hqi : (q : Int) < (n : Int) := by omega
             have hqi' : (q' : Int) < (n : Int) := by omega
             have qb := nth_cbd (by omega) HL.out.1 q
             have qb' := nth_cbd (by omega) HL.out.1 q'
             replace hc := cell_on hc A1; replace hd := cell_on hd A1
             have HN0 : Hid (ads 2000000 gs j (k + 1) = l ++ [min (nth l q + nth l q') 2000000]) := by show _ = _; rw [HS.out]; unfold dVal; rw [if_neg (by omega), if_pos rfl]; simp
             have e1 : IntKind.i64.wrap (nth l q + nth l q') = nth l q + nth l q' := IntWalk.i64_in _ (by omega)
             clear hgt ga1 gb1 HS m1 GB HL
             have HN := HN0
             go_wp2_with fail
             go_quiet ((first | (go_at_call 123; exact Calls.quiet_of_same ((s_l1LeastA _ _ _).mono fun _ _ h => ⟨h.1, h.2.symm⟩))))
             go_wp2_with (at_builtin; (try rw [e1]); go_loud (refine wp_app _ (w.heap.size + 1) _ _ _ (_) _ _ rfl _ _ rfl rfl rfl (by first | rfl | simp) (ownsRow_below HO1.out (by (repeat (first | exact Below.refl _ _ | assumption | refine bel_trans ?_ (bel_alloc _ _) | refine bel_set ?_ (by first | (dsimp only; omega) | (simp; omega) | simp) _ | refine bel_trans ?_ (bel_drewN _ _) | refine bel_trans ?_ (bel_drew _) | refine bel_trans ?_ (by assumption))))) (by first | omega | (simp; omega)) (by omega) ?_; intro v9 w9 hv9 hb9 hg9))
             clear hg9
             go_roundw
             case rel => exact ⟨k + 1, by omega, by go_num, by rw [show j + (k + 1) = n + 1 by have := HNN.out; omega, HN.out]; exact hv9, HB1.out.trans (((by (repeat (first | exact Below.refl _ _ | assumption | refine bel_trans ?_ (bel_alloc _ _) | refine bel_set ?_ (by first | (dsimp only; omega) | (simp; omega) | simp) _ | refine bel_trans ?_ (bel_drewN _ _) | refine bel_trans ?_ (bel_drew _) | refine bel_trans ?_ (by assumption))) : Below (wr.alloc (.cells #[.int .i64 1, .int .i64 q, .int .i64 q'] 91)).heap.size (wr.alloc (.cells #[.int .i64 1, .int .i64 q, .int .i64 q'] 91)) _).mono (by omega)).trans (hb9.mono (Nat.le_succ _))), (show Hid _ from by show _ ≤ _; have := hb9.size; simp at this; omega)⟩
             case measure => simp [intOf]; omega

           · by_cases hK2 : K = 2
             · subst hK2
               rw [arB_2] at hgt
               obtain ⟨ga1, gb1⟩ := Bool.and_eq_true_iff.1 hgt
               obtain ⟨q, rfl, hq, bb, off, rfl, hbl, hc⟩ := m1.ints.wireA ga1
               have hqi : (q : Int) < (n : Int) := by omega
               have HN : Hid (ads 2000000 gs j (k + 1) = l ++ [nth l q]) := by show _ = _; rw [HS.out]; unfold dVal; rw [if_neg (by omega), if_neg (by omega), if_pos rfl]; simp
               replace hc := cell_on hc A1
               have e1 : True := trivial
               clear hgt ga1 gb1 HS m1 GB HL hK0 hK1
               go_wp2_with (at_builtin; (try rw [e1]); go_loud (refine wp_app _ (w.heap.size + 1) _ _ _ (_) _ _ rfl _ _ rfl rfl rfl (by first | rfl | simp) (ownsRow_below HO1.out (by (repeat (first | exact Below.refl _ _ | assumption | refine bel_trans ?_ (bel_alloc _ _) | refine bel_set ?_ (by first | (dsimp only; omega) | (simp; omega) | simp) _ | refine bel_trans ?_ (bel_drewN _ _) | refine bel_trans ?_ (bel_drew _) | refine bel_trans ?_ (by assumption))))) (by first | omega | (simp; omega)) (by omega) ?_; intro v9 w9 hv9 hb9 hg9))
               clear hg9
               go_roundw
               case rel => exact ⟨k + 1, by omega, by go_num, by rw [show j + (k + 1) = n + 1 by have := HNN.out; omega, HN.out]; exact hv9, HB1.out.trans (hb9.mono (Nat.le_succ _)), (show Hid _ from by show _ ≤ _; have := hb9.size; simp at this; omega)⟩
               case measure => simp [intOf]; omega
             · have k0b : (K == 0) = false := by simpa using hK0
               have k1b : (K == 1) = false := by simpa using hK1
               have k2b : (K == 2) = false := by simpa using hK2
               have HN : Hid (ads 2000000 gs j (k + 1) = l ++ [0]) := by show _ = _; rw [HS.out]; unfold dVal; rw [if_neg hK0, if_neg hK1, if_neg hK2]
               have e1 : True := trivial
               clear hgt HS m1 GB HL hK0 hK1 hK2
               go_wp2_with (at_builtin; (try rw [e1]); go_loud (refine wp_app _ (w.heap.size + 1) _ _ _ (_) _ _ rfl _ _ rfl rfl rfl (by first | rfl | simp) (ownsRow_below HO1.out (by (repeat (first | exact Below.refl _ _ | assumption | refine bel_trans ?_ (bel_alloc _ _) | refine bel_set ?_ (by first | (dsimp only; omega) | (simp; omega) | simp) _ | refine bel_trans ?_ (bel_drewN _ _) | refine bel_trans ?_ (bel_drew _) | refine bel_trans ?_ (by assumption))))) (by first | omega | (simp; omega)) (by omega) ?_; intro v9 w9 hv9 hb9 hg9))
               clear hg9
               go_roundw
               case rel => exact ⟨k + 1, by omega, by go_num, by rw [show j + (k + 1) = n + 1 by have := HNN.out; omega, HN.out]; exact hv9, HB1.out.trans (hb9.mono (Nat.le_succ _)), (show Hid _ from by show _ ≤ _; have := hb9.size; simp at this; omega)⟩
               case measure => simp [intOf]; omega
       · obtain rfl : k = gn := by omega
         have hlti : ¬ (k : Int) < (k : Int) := by omega
         go_wp2
         obtain ⟨r9, c9, hv, hm⟩ := OwnI.of HO.out (by omega) (cbd_fit (by omega) (HV.out k).1)
         subst hv
         go_ret
         exact ⟨_, _, rfl, hm.mine.base (by omega), HB.out⟩
end Go.Proofs.Ytfichpppjpgahaa
