/-
  Contracts: ProductDepth, both sides.
-/
import Derived.Test.YtfichpppjpgahaaBf
namespace Go.Proofs.Ytfichpppjpgahaa
open Go.RowKit
set_option linter.unusedVariables false
set_option linter.unusedSimpArgs false
set_option maxRecDepth 20000

def pVal (K A B : Int) (o : List Int) : Int := if K = 0 then max (nth o A.toNat) (nth o B.toNat) else if K = 1 then max (nth o A.toNat) (nth o B.toNat) + 1 else if K = 2 then nth o A.toNat else 0
/-- The numbers of products on the ways to all wires. -/
def pds (gs : List Int) (n : Nat) : Nat → List Int
  | 0 => List.replicate n 0
  | m + 1 => pds gs n m ++ [pVal (fld 3 gs m 0) (fld 3 gs m 1) (fld 3 gs m 2) (pds gs n m)]
theorem pds_len (gs : List Int) (n : Nat) : ∀ m, (pds gs n m).length = n + m
  | 0 => by simp [pds]
  | m + 1 => by rw [pds, List.length_append, pds_len gs n m]; rfl
theorem pds_bd (gs : List Int) (n : Nat) : ∀ m i, 0 ≤ nth (pds gs n m) i ∧ nth (pds gs n m) i ≤ m
  | 0, i => by rw [pds, nth_rep]; omega
  | m + 1, i => by
    rw [pds, nth_snoc]
    have h1 := pds_bd gs n m (fld 3 gs m 1).toNat
    have h2 := pds_bd gs n m (fld 3 gs m 2).toNat
    have h3 := pds_bd gs n m i
    split
    · unfold pVal
      split
      · omega
      · split
        · omega
        · split <;> omega
    · omega
theorem pds_all (gs : List Int) (n m : Nat) : ∀ x ∈ pds gs n m, 0 ≤ x ∧ x ≤ m := by
  intro x hx
  obtain ⟨i, _, rfl⟩ := mem_nth hx
  exact pds_bd gs n m i
/-- The greatest of the outs. -/
def mst (l os : List Int) : Nat → Int
  | 0 => 0
  | j + 1 => max (mst l os j) (nth l (nth os j).toNat)
theorem mst_bd {l os : List Int} {C : Int} (hC : 0 ≤ C) (h : ∀ i, 0 ≤ nth l i ∧ nth l i ≤ C) : ∀ j, 0 ≤ mst l os j ∧ mst l os j ≤ C
  | 0 => by unfold mst; omega
  | j + 1 => by have := mst_bd hC h (os := os) j; have := h (nth os j).toNat; unfold mst; omega
def pdAll (p i0 i1 : Int) (gs : List Int) (gn : Nat) (os : List Int) : Int × Bool := if arC p i0 i1 gs gn os then (mst (pds gs (i0 + i1).toNat gn) os os.length, true) else (0, false)
theorem i_bit0 (w : World) : Calls Try.prog 103 #[.bool false] w fun e w' => e = .returned (.int .i64 0) ∧ w' = w := by
  go_enter Try.func103, Try.ntmps103
  go_wp2
  go_ret
  exact ⟨rfl, rfl⟩
theorem i_bit1 (w : World) : Calls Try.prog 103 #[.bool true] w fun e w' => e = .returned (.int .i64 1) ∧ w' = w := by
  go_enter Try.func103, Try.ntmps103
  go_wp2
  go_ret
  exact ⟨rfl, rfl⟩
set_option maxHeartbeats 8000000 in
theorem i_ProductDepth (p i0 i1 : Int) (ga : Option Addr) (gn gc : Nat) (gs : List Int) (oa : Option Addr) (on oc : Nat) (os : List Int) (w : World) (h : Circ w ga gn gc gs oa on oc os) :
    Calls Try.prog 41 #[.agg #[.int .i64 p, .int .i64 i0, .int .i64 i1, .slice ga gn gc, .slice oa on oc]] w fun e w' => e = .returned (.tuple #[.int .i64 (pdAll p i0 i1 gs gn os).1, .bool (pdAll p i0 i1 gs gn os).2]) ∧ Below w.heap.size w w' := by
  have hlo := h.o.len.out
  have h0 := h
  have A0 := bel_alloc w (.cells #[.int .i64 p, .int .i64 i0, .int .i64 i1, .slice ga gn gc, .slice oa on oc] 48)
  have g0 := B5.new (w := w) (x0 := .int .i64 p) (x1 := .int .i64 i0) (x2 := .int .i64 i1) (x3 := .slice ga gn gc) (x4 := .slice oa on oc) (t := 48)
  obtain ⟨c0, c1, c2, c3, c4⟩ := g0
  have zz : (w.alloc (.cells #[.int .i64 p, .int .i64 i0, .int .i64 i1, .slice ga gn gc, .slice oa on oc] 48)).heap.size = w.heap.size + 1 := by simp
  obtain ⟨i00, hi, hz0, hz1, hz2⟩ := info_parts info_int
  replace h := h.below A0
  unfold pdAll
  cases hAK : arC p i0 i1 gs gn os with
  | false =>
    go_enter Try.func41, Try.ntmps41
    go_wp2_with fail
    refine (i_IsArith _ _ _ _ _ _ gs _ _ _ os _ h).mono ?_; rintro e w1 ⟨rfl, hb1⟩; rw [hAK]
    go_wp2
    go_ret2
    exact ⟨rfl, bel_trans A0 hb1⟩
  | true =>
    obtain ⟨hS, hGG, hOO⟩ := arC_iff.1 hAK
    obtain ⟨hpp, ⟨h01, h02⟩, ⟨h11, h12⟩, hn, hon⟩ := arS_iff.1 hS
    obtain ⟨N, hN⟩ : ∃ N : Nat, i0 + i1 = N := ⟨(i0 + i1).toNat, by omega⟩
    have HOU := arOuts (n := N + gn) hAK (by omega)
    rw [hlo] at HOU hon
    rw [hN] at hGG
    have hG := Lib.hid hGG
    have hNt : (i0 + i1).toNat = N := by omega
    rw [hNt, hlo]
    clear hS hGG hOO hpp hNt
    have hN16 : N ≤ 16 := by omega
    have HV : Hid (∀ k, k ≤ gn → (∀ x ∈ pds gs N k, 0 ≤ x ∧ x ≤ 100) ∧ (pds gs N k).length = N + k) := fun k hk => ⟨fun x hx => by have := pds_all gs N k x hx; omega, by rw [pds_len]⟩
    go_enter Try.func41, Try.ntmps41
    go_wp2_with fail
    refine (i_IsArith _ _ _ _ _ _ gs _ _ _ os _ h).mono ?_; rintro e w1 ⟨rfl, hb1⟩; rw [hAK]
    replace c0 := cell_on c0 hb1; replace c1 := cell_on c1 hb1; replace c2 := cell_on c2 hb1; replace c3 := cell_on c3 hb1; replace c4 := cell_on c4 hb1
    go_wp2_with fail
    refine (i_arInputs _ _ _ _ _ _ _ _ _ _ ⟨by omega, by omega⟩ ⟨by omega, by omega⟩).mono ?_; rintro e w2 ⟨rfl, hb2⟩; rw [hN]
    replace c0 := cell_on c0 hb2; replace c1 := cell_on c1 hb2; replace c2 := cell_on c2 hb2; replace c3 := cell_on c3 hb2; replace c4 := cell_on c4 hb2
    have zy := (bel_trans hb1 hb2).size
    rw [zz] at zy
    go_wp2_with (at_make; refine wpList_make_full _ rfl _ _ 24 rfl (w.heap.size + 1) 3 i00 (.int .i64 0) 1 Try.underlying24 hi hz0 hz1 _ _ _ _ N rfl rfl rfl rfl ?b1 ?b2 ?b3 ?_)
    case b1 => rw [hz2]; omega
    case b2 => unfold maxLen; omega
    case b3 => exact zy
    intro w3 hown hgrow
    have hb3 : Below w2.heap.size w2 w3 := (Below.refl _ _).grown hgrow (Nat.le_refl _) (fun k hk => by cases hk)
    try simp only [Nat.mul_one, Value.cells] at hown
    rw [made_ivs] at hown
    have HB := Lib.hid (bel_trans (bel_trans (bel_trans A0 hb1) hb2) hb3)
    have HO := Lib.hid hown
    have HH := Lib.hid (h.below (bel_trans (bel_trans hb1 hb2) hb3))
    have HGS : Hid (∀ W : World, Below w.heap.size w W → Recs 3 W ga gn gc gs) := fun W hW => h0.g.below hW
    have HOS : Hid (∀ W : World, Below w.heap.size w W → Ints W oa on oc os) := fun W hW => h0.o.below hW
    replace c0 := cell_on c0 hb3; replace c1 := cell_on c1 hb3; replace c2 := cell_on c2 hb3; replace c3 := cell_on c3 hb3; replace c4 := cell_on c4 hb3
    have HP := Lib.hid c4
    have BK := Lib.hid (bel_trans (bel_trans (bel_trans A0 hb1) hb2) hb3)
    have zx := hb3.size
    clear h0 hown hgrow hi hz0 hz1 hz2 hb1 hb2 hb3 A0 zz c0 c1 c2 c4 h hAK
    go_wp2
    go_loopw [4, 20] (fun v i wr => ∃ k : Nat, k ≤ gn ∧ i = .int .i64 k ∧ Hid (wr.ownsRow (w.heap.size + 1) 3 1 v (N + k) (ivs (pds gs N k))) ∧ Hid (Below w.heap.size w wr) ∧ Hid (w.heap.size + 1 ≤ wr.heap.size) ∧ Hid (wr.cell? ⟨w.heap.size, 4, none⟩ = some (.slice oa on oc))) (fun _ i _ => gn - (intOf i).toNat)
    case atStart => exact ⟨0, by omega, rfl, HO, HB, (show Hid _ from by show _ ≤ _; omega), HP⟩
    case round =>
      clear HO HB HP c3
      obtain ⟨k, hk9, rfl, HO, HB, HZ, HP⟩ := hrel
      by_cases hlt : k < gn
      · have hlti : (k : Int) < (gn : Int) := by omega
        obtain ⟨gb, go, rfl, gl, g0, g1, g2⟩ := (HGS.out wr HB.out).at3 hlt
        have hgt : arB p (fld 3 gs k 0) (fld 3 gs k 1) (fld 3 gs k 2) (((N + k : Nat)) : Int) = true := by have := gatesA_at hG.out hlt; rw [show (((N + k : Nat)) : Int) = (N : Int) + (k : Int) by omega]; exact this
        have HS : Hid (pds gs N (k + 1) = pds gs N k ++ [pVal (fld 3 gs k 0) (fld 3 gs k 1) (fld 3 gs k 2) (pds gs N k)]) := rfl
        have HL : Hid ((∀ x ∈ pds gs N k, 0 ≤ x ∧ x ≤ 100) ∧ (pds gs N k).length = N + k) := HV.out k hk9
        obtain ⟨n, hn'⟩ : ∃ n, n = N + k := ⟨_, rfl⟩
        rw [← hn'] at hgt HL HO
        generalize pds gs N k = l at HS HL HO
        generalize fld 3 gs k 0 = K at hgt HS g0
        generalize fld 3 gs k 1 = A at hgt HS g1
        generalize fld 3 gs k 2 = B at hgt HS g2
        have hn9 : n ≤ 200000 := by omega
        have HNN := Lib.hid hn'; clear hn'
        obtain ⟨a1, k1, rfl, m1⟩ := Mine.of HO.out (by omega) (cbd_fit (by omega) HL.out.1)
        have A1 := bel_alloc wr (.cells #[.int .i64 K, .int .i64 A, .int .i64 B] 91)
        have GB := B3.new (w := wr) (x0 := .int .i64 K) (x1 := .int .i64 A) (x2 := .int .i64 B) (t := 91)
        have zA := A1.size
        have zB := HB.out.size
        have zD := HZ.out
        have HP1 := Lib.hid (cell_on HP.out A1)
        have HO1 := Lib.hid (ownsRow_below HO.out A1); have HB1 := Lib.hid (bel_trans HB.out A1)
        obtain ⟨b0, b1_, b2_⟩ := id GB
        by_cases hK0 : K = 0
        · subst hK0
          rw [arB_01 (Or.inl rfl)] at hgt
          obtain ⟨ga1, gb1⟩ := Bool.and_eq_true_iff.1 hgt
          obtain ⟨q, q', rfl, rfl, hq, hq', bb, off, rfl, hbl, hc, hd⟩ := m1.ints.wiresA ga1 gb1
          have hqi : (q : Int) < (n : Int) := by omega
          have hqi' : (q' : Int) < (n : Int) := by omega
          have qb := nth_cbd (by omega) HL.out.1 q
          have qb' := nth_cbd (by omega) HL.out.1 q'
          replace hc := cell_on hc A1; replace hd := cell_on hd A1
          have HN0 : Hid (pds gs N (k + 1) = l ++ [max (nth l q) (nth l q')]) := by show _ = _; rw [HS.out]; unfold pVal; rw [if_pos rfl]; simp
          clear hgt ga1 gb1 HS m1 GB HL
          rcases (show nth l q < nth l q' ∨ nth l q' ≤ nth l q by omega) with hm | hm
          · have HN : Hid (pds gs N (k + 1) = l ++ [nth l q']) := by show _ = _; rw [HN0.out, show max (nth l q) (nth l q') = nth l q' by omega]
            have hm2 : max (nth l q) (nth l q') = nth l q' := by omega
            have e1 : IntKind.i64.wrap (nth l q') = nth l q' := IntWalk.i64_in _ (by omega)
            clear HN0
            go_wp2_with fail
            go_quiet ((first | (go_at_call 103; exact Calls.quiet_of_same (i_bit0 _))))
            go_wp2_with (at_builtin; (try rw [e1]); go_loud (refine wp_app _ (w.heap.size + 1) _ _ _ _ _ _ rfl _ _ rfl rfl rfl (by first | rfl | simp) (ownsRow_below HO1.out (by (repeat (first | exact Below.refl _ _ | assumption | refine bel_trans ?_ (bel_alloc _ _) | refine bel_set ?_ (by first | (dsimp only; omega) | (simp; omega) | simp) _ | refine bel_trans ?_ (bel_drewN _ _) | refine bel_trans ?_ (bel_drew _) | refine bel_trans ?_ (by assumption))))) (by first | omega | (simp; omega)) (by omega) ?_; intro v9 w9 hv9 hb9 hg9))
            clear hg9
            have hp9 := (hb9.cell (p := ⟨w.heap.size, 4, none⟩) (by simp)).trans HP1.out
            go_roundw
            case rel => exact ⟨k + 1, by omega, by go_num, by rw [show N + (k + 1) = n + 1 by have := HNN.out; omega, HN.out]; exact hv9, HB1.out.trans (((by (repeat (first | exact Below.refl _ _ | assumption | refine bel_trans ?_ (bel_alloc _ _) | refine bel_set ?_ (by first | (dsimp only; omega) | (simp; omega) | simp) _ | refine bel_trans ?_ (bel_drewN _ _) | refine bel_trans ?_ (bel_drew _) | refine bel_trans ?_ (by assumption))) : Below (wr.alloc (.cells #[.int .i64 0, .int .i64 q, .int .i64 q'] 91)).heap.size (wr.alloc (.cells #[.int .i64 0, .int .i64 q, .int .i64 q'] 91)) _).mono (by omega)).trans (hb9.mono (Nat.le_succ _))), (show Hid _ from by show _ ≤ _; have := hb9.size; simp at this; omega), hp9⟩
            case measure => simp [intOf]; omega
          · have HN : Hid (pds gs N (k + 1) = l ++ [nth l q]) := by show _ = _; rw [HN0.out, show max (nth l q) (nth l q') = nth l q by omega]
            have hm2 : max (nth l q) (nth l q') = nth l q := by omega
            have e1 : IntKind.i64.wrap (nth l q) = nth l q := IntWalk.i64_in _ (by omega)
            clear HN0
            go_wp2_with fail
            go_quiet ((first | (go_at_call 103; exact Calls.quiet_of_same (i_bit0 _))))
            go_wp2_with (at_builtin; (try rw [e1]); go_loud (refine wp_app _ (w.heap.size + 1) _ _ _ _ _ _ rfl _ _ rfl rfl rfl (by first | rfl | simp) (ownsRow_below HO1.out (by (repeat (first | exact Below.refl _ _ | assumption | refine bel_trans ?_ (bel_alloc _ _) | refine bel_set ?_ (by first | (dsimp only; omega) | (simp; omega) | simp) _ | refine bel_trans ?_ (bel_drewN _ _) | refine bel_trans ?_ (bel_drew _) | refine bel_trans ?_ (by assumption))))) (by first | omega | (simp; omega)) (by omega) ?_; intro v9 w9 hv9 hb9 hg9))
            clear hg9
            have hp9 := (hb9.cell (p := ⟨w.heap.size, 4, none⟩) (by simp)).trans HP1.out
            go_roundw
            case rel => exact ⟨k + 1, by omega, by go_num, by rw [show N + (k + 1) = n + 1 by have := HNN.out; omega, HN.out]; exact hv9, HB1.out.trans (((by (repeat (first | exact Below.refl _ _ | assumption | refine bel_trans ?_ (bel_alloc _ _) | refine bel_set ?_ (by first | (dsimp only; omega) | (simp; omega) | simp) _ | refine bel_trans ?_ (bel_drewN _ _) | refine bel_trans ?_ (bel_drew _) | refine bel_trans ?_ (by assumption))) : Below (wr.alloc (.cells #[.int .i64 0, .int .i64 q, .int .i64 q'] 91)).heap.size (wr.alloc (.cells #[.int .i64 0, .int .i64 q, .int .i64 q'] 91)) _).mono (by omega)).trans (hb9.mono (Nat.le_succ _))), (show Hid _ from by show _ ≤ _; have := hb9.size; simp at this; omega), hp9⟩
            case measure => simp [intOf]; omega

        · by_cases hK1 : K = 1
          · subst hK1
            rw [arB_01 (Or.inr rfl)] at hgt
            obtain ⟨ga1, gb1⟩ := Bool.and_eq_true_iff.1 hgt
            obtain ⟨q, q', rfl, rfl, hq, hq', bb, off, rfl, hbl, hc, hd⟩ := m1.ints.wiresA ga1 gb1
            have hqi : (q : Int) < (n : Int) := by omega
            have hqi' : (q' : Int) < (n : Int) := by omega
            have qb := nth_cbd (by omega) HL.out.1 q
            have qb' := nth_cbd (by omega) HL.out.1 q'
            replace hc := cell_on hc A1; replace hd := cell_on hd A1
            have HN0 : Hid (pds gs N (k + 1) = l ++ [max (nth l q) (nth l q') + 1]) := by show _ = _; rw [HS.out]; unfold pVal; rw [if_neg (by omega), if_pos rfl]; simp
            clear hgt ga1 gb1 HS m1 GB HL
            rcases (show nth l q < nth l q' ∨ nth l q' ≤ nth l q by omega) with hm | hm
            · have HN : Hid (pds gs N (k + 1) = l ++ [nth l q' + 1]) := by show _ = _; rw [HN0.out, show max (nth l q) (nth l q') = nth l q' by omega]
              have hm2 : max (nth l q) (nth l q') = nth l q' := by omega
              have e1 : IntKind.i64.wrap (nth l q' + 1) = nth l q' + 1 := IntWalk.i64_in _ (by omega)
              clear HN0
              go_wp2_with fail
              go_quiet ((first | (go_at_call 103; exact Calls.quiet_of_same (i_bit1 _))))
              go_wp2_with (at_builtin; (try rw [e1]); go_loud (refine wp_app _ (w.heap.size + 1) _ _ _ _ _ _ rfl _ _ rfl rfl rfl (by first | rfl | simp) (ownsRow_below HO1.out (by (repeat (first | exact Below.refl _ _ | assumption | refine bel_trans ?_ (bel_alloc _ _) | refine bel_set ?_ (by first | (dsimp only; omega) | (simp; omega) | simp) _ | refine bel_trans ?_ (bel_drewN _ _) | refine bel_trans ?_ (bel_drew _) | refine bel_trans ?_ (by assumption))))) (by first | omega | (simp; omega)) (by omega) ?_; intro v9 w9 hv9 hb9 hg9))
              clear hg9
              have hp9 := (hb9.cell (p := ⟨w.heap.size, 4, none⟩) (by simp)).trans HP1.out
              go_roundw
              case rel => exact ⟨k + 1, by omega, by go_num, by rw [show N + (k + 1) = n + 1 by have := HNN.out; omega, HN.out]; exact hv9, HB1.out.trans (((by (repeat (first | exact Below.refl _ _ | assumption | refine bel_trans ?_ (bel_alloc _ _) | refine bel_set ?_ (by first | (dsimp only; omega) | (simp; omega) | simp) _ | refine bel_trans ?_ (bel_drewN _ _) | refine bel_trans ?_ (bel_drew _) | refine bel_trans ?_ (by assumption))) : Below (wr.alloc (.cells #[.int .i64 1, .int .i64 q, .int .i64 q'] 91)).heap.size (wr.alloc (.cells #[.int .i64 1, .int .i64 q, .int .i64 q'] 91)) _).mono (by omega)).trans (hb9.mono (Nat.le_succ _))), (show Hid _ from by show _ ≤ _; have := hb9.size; simp at this; omega), hp9⟩
              case measure => simp [intOf]; omega
            · have HN : Hid (pds gs N (k + 1) = l ++ [nth l q + 1]) := by show _ = _; rw [HN0.out, show max (nth l q) (nth l q') = nth l q by omega]
              have hm2 : max (nth l q) (nth l q') = nth l q := by omega
              have e1 : IntKind.i64.wrap (nth l q + 1) = nth l q + 1 := IntWalk.i64_in _ (by omega)
              clear HN0
              go_wp2_with fail
              go_quiet ((first | (go_at_call 103; exact Calls.quiet_of_same (i_bit1 _))))
              go_wp2_with (at_builtin; (try rw [e1]); go_loud (refine wp_app _ (w.heap.size + 1) _ _ _ _ _ _ rfl _ _ rfl rfl rfl (by first | rfl | simp) (ownsRow_below HO1.out (by (repeat (first | exact Below.refl _ _ | assumption | refine bel_trans ?_ (bel_alloc _ _) | refine bel_set ?_ (by first | (dsimp only; omega) | (simp; omega) | simp) _ | refine bel_trans ?_ (bel_drewN _ _) | refine bel_trans ?_ (bel_drew _) | refine bel_trans ?_ (by assumption))))) (by first | omega | (simp; omega)) (by omega) ?_; intro v9 w9 hv9 hb9 hg9))
              clear hg9
              have hp9 := (hb9.cell (p := ⟨w.heap.size, 4, none⟩) (by simp)).trans HP1.out
              go_roundw
              case rel => exact ⟨k + 1, by omega, by go_num, by rw [show N + (k + 1) = n + 1 by have := HNN.out; omega, HN.out]; exact hv9, HB1.out.trans (((by (repeat (first | exact Below.refl _ _ | assumption | refine bel_trans ?_ (bel_alloc _ _) | refine bel_set ?_ (by first | (dsimp only; omega) | (simp; omega) | simp) _ | refine bel_trans ?_ (bel_drewN _ _) | refine bel_trans ?_ (bel_drew _) | refine bel_trans ?_ (by assumption))) : Below (wr.alloc (.cells #[.int .i64 1, .int .i64 q, .int .i64 q'] 91)).heap.size (wr.alloc (.cells #[.int .i64 1, .int .i64 q, .int .i64 q'] 91)) _).mono (by omega)).trans (hb9.mono (Nat.le_succ _))), (show Hid _ from by show _ ≤ _; have := hb9.size; simp at this; omega), hp9⟩
              case measure => simp [intOf]; omega

          · by_cases hK2 : K = 2
            · subst hK2
              rw [arB_2] at hgt
              obtain ⟨ga1, gb1⟩ := Bool.and_eq_true_iff.1 hgt
              obtain ⟨q, rfl, hq, bb, off, rfl, hbl, hc⟩ := m1.ints.wireA ga1
              have hqi : (q : Int) < (n : Int) := by omega
              have HN : Hid (pds gs N (k + 1) = l ++ [nth l q]) := by show _ = _; rw [HS.out]; unfold pVal; rw [if_neg (by omega), if_neg (by omega), if_pos rfl]; simp
              replace hc := cell_on hc A1
              have e1 : True := trivial
              clear hgt ga1 gb1 HS m1 GB HL hK0 hK1
              go_wp2_with (at_builtin; (try rw [e1]); go_loud (refine wp_app _ (w.heap.size + 1) _ _ _ _ _ _ rfl _ _ rfl rfl rfl (by first | rfl | simp) (ownsRow_below HO1.out (by (repeat (first | exact Below.refl _ _ | assumption | refine bel_trans ?_ (bel_alloc _ _) | refine bel_set ?_ (by first | (dsimp only; omega) | (simp; omega) | simp) _ | refine bel_trans ?_ (bel_drewN _ _) | refine bel_trans ?_ (bel_drew _) | refine bel_trans ?_ (by assumption))))) (by first | omega | (simp; omega)) (by omega) ?_; intro v9 w9 hv9 hb9 hg9))
              clear hg9
              have hp9 := (hb9.cell (p := ⟨w.heap.size, 4, none⟩) (by simp)).trans HP1.out
              go_roundw
              case rel => exact ⟨k + 1, by omega, by go_num, by rw [show N + (k + 1) = n + 1 by have := HNN.out; omega, HN.out]; exact hv9, HB1.out.trans (hb9.mono (Nat.le_succ _)), (show Hid _ from by show _ ≤ _; have := hb9.size; simp at this; omega), hp9⟩
              case measure => simp [intOf]; omega
            · have k0b : (K == 0) = false := by simpa using hK0
              have k1b : (K == 1) = false := by simpa using hK1
              have k2b : (K == 2) = false := by simpa using hK2
              have HN : Hid (pds gs N (k + 1) = l ++ [0]) := by show _ = _; rw [HS.out]; unfold pVal; rw [if_neg hK0, if_neg hK1, if_neg hK2]
              have e1 : True := trivial
              clear hgt HS m1 GB HL hK0 hK1 hK2
              go_wp2_with (at_builtin; (try rw [e1]); go_loud (refine wp_app _ (w.heap.size + 1) _ _ _ _ _ _ rfl _ _ rfl rfl rfl (by first | rfl | simp) (ownsRow_below HO1.out (by (repeat (first | exact Below.refl _ _ | assumption | refine bel_trans ?_ (bel_alloc _ _) | refine bel_set ?_ (by first | (dsimp only; omega) | (simp; omega) | simp) _ | refine bel_trans ?_ (bel_drewN _ _) | refine bel_trans ?_ (bel_drew _) | refine bel_trans ?_ (by assumption))))) (by first | omega | (simp; omega)) (by omega) ?_; intro v9 w9 hv9 hb9 hg9))
              clear hg9
              have hp9 := (hb9.cell (p := ⟨w.heap.size, 4, none⟩) (by simp)).trans HP1.out
              go_roundw
              case rel => exact ⟨k + 1, by omega, by go_num, by rw [show N + (k + 1) = n + 1 by have := HNN.out; omega, HN.out]; exact hv9, HB1.out.trans (hb9.mono (Nat.le_succ _)), (show Hid _ from by show _ ≤ _; have := hb9.size; simp at this; omega), hp9⟩
              case measure => simp [intOf]; omega
      · obtain rfl : k = gn := by omega
        have hlti : ¬ (k : Int) < (k : Int) := by omega
        obtain ⟨a1, k1, rfl, m1⟩ := Mine.of HO.out (by omega) (cbd_fit (by omega) (HV.out k (Nat.le_refl _)).1)
        have cX := HP.out
        have HMB := Lib.hid (fun j => mst_bd (os := os) (by omega) (fun i => nth_cbd (by omega) (HV.out k (Nat.le_refl _)).1 i) j)
        have hos := HOS.out wr HB.out
        obtain ⟨wo, rfl⟩ : ∃ wo : World, wo = wr := ⟨_, rfl⟩
        have HM1 := Lib.hid m1
        clear HO HP m1
        go_wp2
        go_loopw [8, 60] (fun v i wr => ∃ j : Nat, j ≤ on ∧ i = .int .i64 j ∧ v = .int .i64 (mst (pds gs N k) os j) ∧ wr = wo) (fun _ i _ => on - (intOf i).toNat)
        case atStart => exact ⟨0, by omega, rfl, rfl, rfl⟩
        case round =>
          clear cX
          obtain ⟨j, hj, rfl, rfl, rfl⟩ := hrel
          have hMj := HMB.out j
          by_cases hlj : j < on
          · have hlji : (j : Int) < (on : Int) := by omega
            obtain ⟨ob, oo, rfl, hol, hoc⟩ := hos.at hlj
            obtain ⟨q, hq⟩ : ∃ q : Nat, nth os j = q := ⟨(nth os j).toNat, by have := HOU.out j hlj; omega⟩
            have hqn : q < N + k := by have := HOU.out j hlj; omega
            have hqi : (q : Int) < ((N + k : Nat) : Int) := by omega
            have HE : Hid (mst (pds gs N k) os (j + 1) = max (mst (pds gs N k) os j) (nth (pds gs N k) q)) := by show _ = _; rw [mst, hq]; rfl
            rw [hq] at hoc; clear hq
            obtain ⟨lb, lo, rfl, hll, hlc⟩ := HM1.out.ints.at (i := q) hqn
            generalize mst (pds gs N k) os j = M at *
            generalize nth (pds gs N k) q = x at *
            rcases (show M < x ∨ x ≤ M by omega) with hm | hm
            · have HE2 : Hid (mst (pds gs N k) os (j + 1) = x) := by show _ = _; rw [HE.out]; omega
              clear HE
              go_wp2
              go_roundw
              case rel => exact ⟨j + 1, by omega, by go_num, by rw [HE2.out], by trivial⟩
              case measure => simp [intOf]; omega
            · have HE2 : Hid (mst (pds gs N k) os (j + 1) = M) := by show _ = _; rw [HE.out]; omega
              clear HE
              go_wp2
              go_roundw
              case rel => exact ⟨j + 1, by omega, by go_num, by rw [HE2.out], by trivial⟩
              case measure => simp [intOf]; omega
          · obtain rfl : j = on := by omega
            have hlji : ¬ (j : Int) < (j : Int) := by omega
            go_wp2
            go_ret2
            exact ⟨rfl, HB.out⟩
set_option maxHeartbeats 8000000 in
theorem s_ProductDepth (p i0 i1 : Int) (ga : Option Addr) (gn gc : Nat) (gs : List Int) (oa : Option Addr) (on oc : Nat) (os : List Int) (w : World) (h : Circ w ga gn gc gs oa on oc os) :
    Calls Try.prog 42 #[.agg #[.int .i64 p, .int .i64 i0, .int .i64 i1, .slice ga gn gc, .slice oa on oc]] w fun e w' => e = .returned (.tuple #[.int .i64 (pdAll p i0 i1 gs gn os).1, .bool (pdAll p i0 i1 gs gn os).2]) ∧ Below w.heap.size w w' := by
  have hlo := h.o.len.out
  have h0 := h
  have A0 := bel_alloc w (.cells #[.int .i64 p, .int .i64 i0, .int .i64 i1, .slice ga gn gc, .slice oa on oc] 48)
  have g0 := B5.new (w := w) (x0 := .int .i64 p) (x1 := .int .i64 i0) (x2 := .int .i64 i1) (x3 := .slice ga gn gc) (x4 := .slice oa on oc) (t := 48)
  obtain ⟨c0, c1, c2, c3, c4⟩ := g0
  have zz : (w.alloc (.cells #[.int .i64 p, .int .i64 i0, .int .i64 i1, .slice ga gn gc, .slice oa on oc] 48)).heap.size = w.heap.size + 1 := by simp
  obtain ⟨i00, hi, hz0, hz1, hz2⟩ := info_parts info_int
  replace h := h.below A0
  unfold pdAll
  cases hAK : arC p i0 i1 gs gn os with
  | false =>
    go_enter Try.func42, Try.ntmps42
    go_wp2_with fail
    refine (s_arGood _ _ _ _ _ _ gs _ _ _ os _ h).mono ?_; rintro e w1 ⟨rfl, hb1⟩; rw [hAK]
    go_wp2
    go_ret2
    exact ⟨rfl, bel_trans A0 hb1⟩
  | true =>
    obtain ⟨hS, hGG, hOO⟩ := arC_iff.1 hAK
    obtain ⟨hpp, ⟨h01, h02⟩, ⟨h11, h12⟩, hn, hon⟩ := arS_iff.1 hS
    obtain ⟨N, hN⟩ : ∃ N : Nat, i0 + i1 = N := ⟨(i0 + i1).toNat, by omega⟩
    have HOU := arOuts (n := N + gn) hAK (by omega)
    rw [hlo] at HOU hon
    rw [hN] at hGG
    have hG := Lib.hid hGG
    have hNt : (i0 + i1).toNat = N := by omega
    rw [hNt, hlo]
    clear hS hGG hOO hpp hNt
    have hN16 : N ≤ 16 := by omega
    have HV : Hid (∀ k, k ≤ gn → (∀ x ∈ pds gs N k, 0 ≤ x ∧ x ≤ 100) ∧ (pds gs N k).length = N + k) := fun k hk => ⟨fun x hx => by have := pds_all gs N k x hx; omega, by rw [pds_len]⟩
    go_enter Try.func42, Try.ntmps42
    go_wp2_with fail
    refine (s_arGood _ _ _ _ _ _ gs _ _ _ os _ h).mono ?_; rintro e w1 ⟨rfl, hb1⟩; rw [hAK]
    replace c0 := cell_on c0 hb1; replace c1 := cell_on c1 hb1; replace c2 := cell_on c2 hb1; replace c3 := cell_on c3 hb1; replace c4 := cell_on c4 hb1
    go_wp2_with fail
    refine (s_arInputs _ _ _ _ _ _ _ _ _ _ ⟨by omega, by omega⟩ ⟨by omega, by omega⟩).mono ?_; rintro e w2 ⟨rfl, hb2⟩; rw [hN]
    replace c0 := cell_on c0 hb2; replace c1 := cell_on c1 hb2; replace c2 := cell_on c2 hb2; replace c3 := cell_on c3 hb2; replace c4 := cell_on c4 hb2
    have zy := (bel_trans hb1 hb2).size
    rw [zz] at zy
    go_wp2_with (at_make; refine wpList_make_full _ rfl _ _ 24 rfl (w.heap.size + 1) 3 i00 (.int .i64 0) 1 Try.underlying24 hi hz0 hz1 _ _ _ _ N rfl rfl rfl rfl ?b1 ?b2 ?b3 ?_)
    case b1 => rw [hz2]; omega
    case b2 => unfold maxLen; omega
    case b3 => exact zy
    intro w3 hown hgrow
    have hb3 : Below w2.heap.size w2 w3 := (Below.refl _ _).grown hgrow (Nat.le_refl _) (fun k hk => by cases hk)
    try simp only [Nat.mul_one, Value.cells] at hown
    rw [made_ivs] at hown
    have HB := Lib.hid (bel_trans (bel_trans (bel_trans A0 hb1) hb2) hb3)
    have HO := Lib.hid hown
    have HH := Lib.hid (h.below (bel_trans (bel_trans hb1 hb2) hb3))
    have HGS : Hid (∀ W : World, Below w.heap.size w W → Recs 3 W ga gn gc gs) := fun W hW => h0.g.below hW
    have HOS : Hid (∀ W : World, Below w.heap.size w W → Ints W oa on oc os) := fun W hW => h0.o.below hW
    replace c0 := cell_on c0 hb3; replace c1 := cell_on c1 hb3; replace c2 := cell_on c2 hb3; replace c3 := cell_on c3 hb3; replace c4 := cell_on c4 hb3
    have HP := Lib.hid c4
    have BK := Lib.hid (bel_trans (bel_trans (bel_trans A0 hb1) hb2) hb3)
    have zx := hb3.size
    clear h0 hown hgrow hi hz0 hz1 hz2 hb1 hb2 hb3 A0 zz c0 c1 c2 c4 h hAK
    go_wp2
    go_loopw [4, 20] (fun v i wr => ∃ k : Nat, k ≤ gn ∧ i = .int .i64 k ∧ Hid (wr.ownsRow (w.heap.size + 1) 3 1 v (N + k) (ivs (pds gs N k))) ∧ Hid (Below w.heap.size w wr) ∧ Hid (w.heap.size + 1 ≤ wr.heap.size) ∧ Hid (wr.cell? ⟨w.heap.size, 4, none⟩ = some (.slice oa on oc))) (fun _ i _ => gn - (intOf i).toNat)
    case atStart => exact ⟨0, by omega, rfl, HO, HB, (show Hid _ from by show _ ≤ _; omega), HP⟩
    case round =>
      clear HO HB HP c3
      obtain ⟨k, hk9, rfl, HO, HB, HZ, HP⟩ := hrel
      by_cases hlt : k < gn
      · have hlti : (k : Int) < (gn : Int) := by omega
        obtain ⟨gb, go, rfl, gl, g0, g1, g2⟩ := (HGS.out wr HB.out).at3 hlt
        have hgt : arB p (fld 3 gs k 0) (fld 3 gs k 1) (fld 3 gs k 2) (((N + k : Nat)) : Int) = true := by have := gatesA_at hG.out hlt; rw [show (((N + k : Nat)) : Int) = (N : Int) + (k : Int) by omega]; exact this
        have HS : Hid (pds gs N (k + 1) = pds gs N k ++ [pVal (fld 3 gs k 0) (fld 3 gs k 1) (fld 3 gs k 2) (pds gs N k)]) := rfl
        have HL : Hid ((∀ x ∈ pds gs N k, 0 ≤ x ∧ x ≤ 100) ∧ (pds gs N k).length = N + k) := HV.out k hk9
        obtain ⟨n, hn'⟩ : ∃ n, n = N + k := ⟨_, rfl⟩
        rw [← hn'] at hgt HL HO
        generalize pds gs N k = l at HS HL HO
        generalize fld 3 gs k 0 = K at hgt HS g0
        generalize fld 3 gs k 1 = A at hgt HS g1
        generalize fld 3 gs k 2 = B at hgt HS g2
        have hn9 : n ≤ 200000 := by omega
        have HNN := Lib.hid hn'; clear hn'
        obtain ⟨a1, k1, rfl, m1⟩ := Mine.of HO.out (by omega) (cbd_fit (by omega) HL.out.1)
        have A1 := bel_alloc wr (.cells #[.int .i64 K, .int .i64 A, .int .i64 B] 91)
        have GB := B3.new (w := wr) (x0 := .int .i64 K) (x1 := .int .i64 A) (x2 := .int .i64 B) (t := 91)
        have zA := A1.size
        have zB := HB.out.size
        have zD := HZ.out
        have HP1 := Lib.hid (cell_on HP.out A1)
        have HO1 := Lib.hid (ownsRow_below HO.out A1); have HB1 := Lib.hid (bel_trans HB.out A1)
        obtain ⟨b0, b1_, b2_⟩ := id GB
        by_cases hK0 : K = 0
        · subst hK0
          rw [arB_01 (Or.inl rfl)] at hgt
          obtain ⟨ga1, gb1⟩ := Bool.and_eq_true_iff.1 hgt
          obtain ⟨q, q', rfl, rfl, hq, hq', bb, off, rfl, hbl, hc, hd⟩ := m1.ints.wiresA ga1 gb1
          have hqi : (q : Int) < (n : Int) := by omega
          have hqi' : (q' : Int) < (n : Int) := by omega
          have qb := nth_cbd (by omega) HL.out.1 q
          have qb' := nth_cbd (by omega) HL.out.1 q'
          replace hc := cell_on hc A1; replace hd := cell_on hd A1
          have HN0 : Hid (pds gs N (k + 1) = l ++ [max (nth l q) (nth l q')]) := by show _ = _; rw [HS.out]; unfold pVal; rw [if_pos rfl]; simp
          clear hgt ga1 gb1 HS m1 GB HL
          have e1 : IntKind.i64.wrap (max (nth l q) (nth l q')) = max (nth l q) (nth l q') := IntWalk.i64_in _ (by omega)
          have HN := HN0
          go_wp2_with fail
          go_quiet ((first | (go_at_call 97; exact Calls.quiet_of_same ((s_l1MostA _ _ _).mono fun _ _ h => ⟨h.1, h.2.symm⟩))))
          go_wp2_with (at_builtin; (try rw [e1]); go_loud (refine wp_app _ (w.heap.size + 1) _ _ _ _ _ _ rfl _ _ rfl rfl rfl (by first | rfl | simp) (ownsRow_below HO1.out (by (repeat (first | exact Below.refl _ _ | assumption | refine bel_trans ?_ (bel_alloc _ _) | refine bel_set ?_ (by first | (dsimp only; omega) | (simp; omega) | simp) _ | refine bel_trans ?_ (bel_drewN _ _) | refine bel_trans ?_ (bel_drew _) | refine bel_trans ?_ (by assumption))))) (by first | omega | (simp; omega)) (by omega) ?_; intro v9 w9 hv9 hb9 hg9))
          clear hg9
          have hp9 := (hb9.cell (p := ⟨w.heap.size, 4, none⟩) (by simp)).trans HP1.out
          go_roundw
          case rel => exact ⟨k + 1, by omega, by go_num, by rw [show N + (k + 1) = n + 1 by have := HNN.out; omega, HN.out]; exact hv9, HB1.out.trans (((by (repeat (first | exact Below.refl _ _ | assumption | refine bel_trans ?_ (bel_alloc _ _) | refine bel_set ?_ (by first | (dsimp only; omega) | (simp; omega) | simp) _ | refine bel_trans ?_ (bel_drewN _ _) | refine bel_trans ?_ (bel_drew _) | refine bel_trans ?_ (by assumption))) : Below (wr.alloc (.cells #[.int .i64 0, .int .i64 q, .int .i64 q'] 91)).heap.size (wr.alloc (.cells #[.int .i64 0, .int .i64 q, .int .i64 q'] 91)) _).mono (by omega)).trans (hb9.mono (Nat.le_succ _))), (show Hid _ from by show _ ≤ _; have := hb9.size; simp at this; omega), hp9⟩
          case measure => simp [intOf]; omega

        · by_cases hK1 : K = 1
          · subst hK1
            rw [arB_01 (Or.inr rfl)] at hgt
            obtain ⟨ga1, gb1⟩ := Bool.and_eq_true_iff.1 hgt
            obtain ⟨q, q', rfl, rfl, hq, hq', bb, off, rfl, hbl, hc, hd⟩ := m1.ints.wiresA ga1 gb1
            have hqi : (q : Int) < (n : Int) := by omega
            have hqi' : (q' : Int) < (n : Int) := by omega
            have qb := nth_cbd (by omega) HL.out.1 q
            have qb' := nth_cbd (by omega) HL.out.1 q'
            replace hc := cell_on hc A1; replace hd := cell_on hd A1
            have HN0 : Hid (pds gs N (k + 1) = l ++ [max (nth l q) (nth l q') + 1]) := by show _ = _; rw [HS.out]; unfold pVal; rw [if_neg (by omega), if_pos rfl]; simp
            clear hgt ga1 gb1 HS m1 GB HL
            have e1 : IntKind.i64.wrap (max (nth l q) (nth l q') + 1) = max (nth l q) (nth l q') + 1 := IntWalk.i64_in _ (by omega)
            have HN := HN0
            go_wp2_with fail
            go_quiet ((first | (go_at_call 97; exact Calls.quiet_of_same ((s_l1MostA _ _ _).mono fun _ _ h => ⟨h.1, h.2.symm⟩))))
            go_wp2_with (at_builtin; (try rw [e1]); go_loud (refine wp_app _ (w.heap.size + 1) _ _ _ _ _ _ rfl _ _ rfl rfl rfl (by first | rfl | simp) (ownsRow_below HO1.out (by (repeat (first | exact Below.refl _ _ | assumption | refine bel_trans ?_ (bel_alloc _ _) | refine bel_set ?_ (by first | (dsimp only; omega) | (simp; omega) | simp) _ | refine bel_trans ?_ (bel_drewN _ _) | refine bel_trans ?_ (bel_drew _) | refine bel_trans ?_ (by assumption))))) (by first | omega | (simp; omega)) (by omega) ?_; intro v9 w9 hv9 hb9 hg9))
            clear hg9
            have hp9 := (hb9.cell (p := ⟨w.heap.size, 4, none⟩) (by simp)).trans HP1.out
            go_roundw
            case rel => exact ⟨k + 1, by omega, by go_num, by rw [show N + (k + 1) = n + 1 by have := HNN.out; omega, HN.out]; exact hv9, HB1.out.trans (((by (repeat (first | exact Below.refl _ _ | assumption | refine bel_trans ?_ (bel_alloc _ _) | refine bel_set ?_ (by first | (dsimp only; omega) | (simp; omega) | simp) _ | refine bel_trans ?_ (bel_drewN _ _) | refine bel_trans ?_ (bel_drew _) | refine bel_trans ?_ (by assumption))) : Below (wr.alloc (.cells #[.int .i64 1, .int .i64 q, .int .i64 q'] 91)).heap.size (wr.alloc (.cells #[.int .i64 1, .int .i64 q, .int .i64 q'] 91)) _).mono (by omega)).trans (hb9.mono (Nat.le_succ _))), (show Hid _ from by show _ ≤ _; have := hb9.size; simp at this; omega), hp9⟩
            case measure => simp [intOf]; omega

          · by_cases hK2 : K = 2
            · subst hK2
              rw [arB_2] at hgt
              obtain ⟨ga1, gb1⟩ := Bool.and_eq_true_iff.1 hgt
              obtain ⟨q, rfl, hq, bb, off, rfl, hbl, hc⟩ := m1.ints.wireA ga1
              have hqi : (q : Int) < (n : Int) := by omega
              have HN : Hid (pds gs N (k + 1) = l ++ [nth l q]) := by show _ = _; rw [HS.out]; unfold pVal; rw [if_neg (by omega), if_neg (by omega), if_pos rfl]; simp
              replace hc := cell_on hc A1
              have e1 : True := trivial
              clear hgt ga1 gb1 HS m1 GB HL hK0 hK1
              go_wp2_with (at_builtin; (try rw [e1]); go_loud (refine wp_app _ (w.heap.size + 1) _ _ _ _ _ _ rfl _ _ rfl rfl rfl (by first | rfl | simp) (ownsRow_below HO1.out (by (repeat (first | exact Below.refl _ _ | assumption | refine bel_trans ?_ (bel_alloc _ _) | refine bel_set ?_ (by first | (dsimp only; omega) | (simp; omega) | simp) _ | refine bel_trans ?_ (bel_drewN _ _) | refine bel_trans ?_ (bel_drew _) | refine bel_trans ?_ (by assumption))))) (by first | omega | (simp; omega)) (by omega) ?_; intro v9 w9 hv9 hb9 hg9))
              clear hg9
              have hp9 := (hb9.cell (p := ⟨w.heap.size, 4, none⟩) (by simp)).trans HP1.out
              go_roundw
              case rel => exact ⟨k + 1, by omega, by go_num, by rw [show N + (k + 1) = n + 1 by have := HNN.out; omega, HN.out]; exact hv9, HB1.out.trans (hb9.mono (Nat.le_succ _)), (show Hid _ from by show _ ≤ _; have := hb9.size; simp at this; omega), hp9⟩
              case measure => simp [intOf]; omega
            · have k0b : (K == 0) = false := by simpa using hK0
              have k1b : (K == 1) = false := by simpa using hK1
              have k2b : (K == 2) = false := by simpa using hK2
              have HN : Hid (pds gs N (k + 1) = l ++ [0]) := by show _ = _; rw [HS.out]; unfold pVal; rw [if_neg hK0, if_neg hK1, if_neg hK2]
              have e1 : True := trivial
              clear hgt HS m1 GB HL hK0 hK1 hK2
              go_wp2_with (at_builtin; (try rw [e1]); go_loud (refine wp_app _ (w.heap.size + 1) _ _ _ _ _ _ rfl _ _ rfl rfl rfl (by first | rfl | simp) (ownsRow_below HO1.out (by (repeat (first | exact Below.refl _ _ | assumption | refine bel_trans ?_ (bel_alloc _ _) | refine bel_set ?_ (by first | (dsimp only; omega) | (simp; omega) | simp) _ | refine bel_trans ?_ (bel_drewN _ _) | refine bel_trans ?_ (bel_drew _) | refine bel_trans ?_ (by assumption))))) (by first | omega | (simp; omega)) (by omega) ?_; intro v9 w9 hv9 hb9 hg9))
              clear hg9
              have hp9 := (hb9.cell (p := ⟨w.heap.size, 4, none⟩) (by simp)).trans HP1.out
              go_roundw
              case rel => exact ⟨k + 1, by omega, by go_num, by rw [show N + (k + 1) = n + 1 by have := HNN.out; omega, HN.out]; exact hv9, HB1.out.trans (hb9.mono (Nat.le_succ _)), (show Hid _ from by show _ ≤ _; have := hb9.size; simp at this; omega), hp9⟩
              case measure => simp [intOf]; omega
      · obtain rfl : k = gn := by omega
        have hlti : ¬ (k : Int) < (k : Int) := by omega
        obtain ⟨a1, k1, rfl, m1⟩ := Mine.of HO.out (by omega) (cbd_fit (by omega) (HV.out k (Nat.le_refl _)).1)
        have cX := HP.out
        have HMB := Lib.hid (fun j => mst_bd (os := os) (by omega) (fun i => nth_cbd (by omega) (HV.out k (Nat.le_refl _)).1 i) j)
        have hos := HOS.out wr HB.out
        obtain ⟨wo, rfl⟩ : ∃ wo : World, wo = wr := ⟨_, rfl⟩
        clear HO HP
        go_wp2_with fail
        refine (s_ciPick _ _ _ _ _ _ _ os _ m1.ints hos (by omega) HOU).mono ?_; rintro e wp ⟨rp, kp, rfl, mp, hbp⟩
        have HM1 := Lib.hid mp
        have HBP := Lib.hid (bel_trans HB.out hbp)
        clear m1 mp hbp hos cX HB
        go_wp2
        go_loopw [8, 70] (fun v i wr => ∃ j : Nat, j ≤ on ∧ i = .int .i64 j ∧ v = .int .i64 (mst (pds gs N k) os j) ∧ wr = wp) (fun _ i _ => on - (intOf i).toNat)
        case atStart => exact ⟨0, by omega, rfl, rfl, rfl⟩
        case round =>
          obtain ⟨j, hj, rfl, rfl, rfl⟩ := hrel
          have hMj := HMB.out j
          by_cases hlj : j < on
          · have hlji : (j : Int) < (on : Int) := by omega
            obtain ⟨ob, oo, rfl, hol, hoc⟩ := HM1.out.ints.at hlj
            have HE : Hid (mst (pds gs N k) os (j + 1) = max (mst (pds gs N k) os j) (nth (pkL (pds gs N k) os on) j)) := by show _ = _; rw [mst, nth_pkL hlj]
            generalize mst (pds gs N k) os j = M at *
            generalize nth (pkL (pds gs N k) os on) j = x at *
            go_wp2_with (go_at_call 97; refine (s_l1MostA _ _ _).mono ?_; rintro e w4 ⟨rfl, rfl⟩)
            go_roundw
            case rel => exact ⟨j + 1, by omega, by go_num, by rw [HE.out], by trivial⟩
            case measure => simp [intOf]; omega
          · obtain rfl : j = on := by omega
            have hlji : ¬ (j : Int) < (j : Int) := by omega
            go_wp2
            go_ret2
            exact ⟨rfl, HBP.out⟩
end Go.Proofs.Ytfichpppjpgahaa
