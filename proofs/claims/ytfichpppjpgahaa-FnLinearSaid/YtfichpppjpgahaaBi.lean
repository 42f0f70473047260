/-
  Contracts: LinearForm, both sides.
-/
import Derived.Test.YtfichpppjpgahaaBh
import Derived.Test.YtfichpppjpgahaaDu
import Derived.Test.YtfichpppjpgahaaSt
namespace Go.Proofs.Ytfichpppjpgahaa
open Go.RowKit
set_option linter.unusedVariables false
set_option linter.unusedSimpArgs false
set_option maxRecDepth 20000

/-- The form of wire o: its value at 0, then for each input what it adds. -/
def lfT (p : Int) (gs : List Int) (N gn o : Nat) : Nat → List Int
  | 0 => [nth (avs p gs (List.replicate N 0) gn) o]
  | j + 1 => lfT p gs N gn o j ++ [(nth (avs p gs ((List.replicate N 0).set j 1) gn) o - nth (avs p gs (List.replicate N 0) gn) o) % p]
theorem lfT_len (p : Int) (gs : List Int) (N gn o : Nat) : ∀ j, (lfT p gs N gn o j).length = j + 1
  | 0 => rfl
  | j + 1 => by rw [lfT, List.length_append, lfT_len p gs N gn o j]; rfl
theorem zeros_bd {p : Int} (hp : 2 ≤ p) (N : Nat) : ∀ x ∈ List.replicate N (0 : Int), 0 ≤ x ∧ x < p := fun x hx => by rw [List.eq_of_mem_replicate hx]; omega
theorem unit_bd {p : Int} (hp : 2 ≤ p) (N j : Nat) : ∀ x ∈ (List.replicate N (0 : Int)).set j 1, 0 ≤ x ∧ x < p := fun x hx => by
  rcases List.mem_or_eq_of_mem_set hx with q | q
  · exact zeros_bd hp N x q
  · omega
theorem lfT_bd {p : Int} (hp : 2 ≤ p) (gs : List Int) (N gn o : Nat) : ∀ j, ∀ x ∈ lfT p gs N gn o j, 0 ≤ x ∧ x < p
  | 0 => fun x hx => by
    rw [lfT, List.mem_singleton] at hx
    subst hx
    exact nth_bd (by omega) (avs_res hp gs _ (zeros_bd hp N) gn) o
  | j + 1 => fun x hx => by
    rw [lfT, List.mem_append, List.mem_singleton] at hx
    rcases hx with q | rfl
    · exact lfT_bd hp gs N gn o j x q
    · exact ⟨Int.emod_nonneg _ (by omega), Int.emod_lt_of_pos _ (by omega)⟩
def lfOk (p i0 i1 : Int) (gs : List Int) (gn : Nat) (os : List Int) (k : Int) : Bool :=
  arC p i0 i1 gs gn os && (inB k 0 ((os.length : Int) - 1) && decide (nth (ads 2000000 gs (i0 + i1).toNat gn) (nth os k.toNat).toNat ≤ 1))
def lfAll (p i0 i1 : Int) (gs : List Int) (gn : Nat) (os : List Int) (k : Int) : List Int × Bool :=
  if lfOk p i0 i1 gs gn os k then (lfT p gs (i0 + i1).toNat gn (nth os k.toNat).toNat (i0 + i1).toNat, true) else ([], false)
theorem ads_low (gs : List Int) (n m i : Nat) : nth (ads 1000001 gs n m) i ≤ 1 ↔ nth (ads 2000000 gs n m) i ≤ 1 := by
  have := ads_min (c := 1000001) (C := 2000000) (by omega) (by omega) gs n m i
  omega
theorem ownsRow_else {w : World} {B n : Nat} {E : TypeId} {v : Value} {xs : List Value} (h : w.ownsRow B E 1 v n xs) {p : Addr} (hp : p.block < B) (u : Value) : (w.setCell p u).ownsRow B E 1 v n xs := by
  obtain ⟨h1, h2⟩ := h
  refine ⟨h1, ?_⟩
  rcases h2 with h2 | ⟨g, cap, cur, hv, hg, hh, r⟩
  · exact .inl h2
  · exact .inr ⟨g, cap, cur, hv, hg, (Below.heap_setCell _ _ _ _ (by omega)).trans hh, r⟩
theorem OwnI.ofRow {w : World} {g n : Nat} {E : TypeId} {xs : List Int} (h : w.heap[g]? = some (.cells (ivs xs).toArray E (0, 0))) (hl : xs.length = n) (hn : n ≤ 1000000) (hf : ∀ x ∈ xs, Fits x) : OwnI E w g (some ⟨g, 0, none⟩) n n xs := by
  obtain ⟨a, c, hv, ho⟩ := OwnI.of (owns_of_row h (Nat.le_refl _) hl hn) (by omega) hf
  simp only [Value.slice.injEq] at hv
  obtain ⟨rfl, _, rfl⟩ := hv
  exact ho
theorem B5.other {w : World} {b : Nat} {x0 x1 x2 x3 x4 : Value} (h : B5 w b x0 x1 x2 x3 x4) {p : Addr} (hp : p.block ≠ b) (u : Value) : B5 (w.setCell p u) b x0 x1 x2 x3 x4 := by
  have e : ∀ o, (w.setCell p u).cell? ⟨b, o, none⟩ = w.cell? ⟨b, o, none⟩ := fun o => World.cell?_setCell_other _ _ _ _ (fun e => hp (by rw [e]))
  exact ⟨(e 0).trans h.c0, (e 1).trans h.c1, (e 2).trans h.c2, (e 3).trans h.c3, (e 4).trans h.c4⟩
theorem B5.far {w w' : World} {b B : Nat} {x0 x1 x2 x3 x4 : Value} (h : B5 w b x0 x1 x2 x3 x4) (hb : Below B w w') (hB : b < B) : B5 w' b x0 x1 x2 x3 x4 :=
  ⟨(hb.cell (p := ⟨b, 0, none⟩) hB).trans h.c0, (hb.cell (p := ⟨b, 1, none⟩) hB).trans h.c1, (hb.cell (p := ⟨b, 2, none⟩) hB).trans h.c2, (hb.cell (p := ⟨b, 3, none⟩) hB).trans h.c3, (hb.cell (p := ⟨b, 4, none⟩) hB).trans h.c4⟩
theorem wpAnyH_mono {P : Program} {md : Region.Mode} {ops : Array Oper} {Q : Exit → Act → World → Prop} {S S' : World → Prop} (hS : ∀ w, S' w → S w) : ∀ (fuel : Nat) (listed : Array Bool) (a : Act) (w : World), wpAnyH P md ops Q S' fuel listed a w → wpAnyH P md ops Q S fuel listed a w
  | 0, _, _, _, h => h
  | fuel + 1, _, _, _, h => ⟨h.1, fun i hi => wpOp_mono (fun a' w' h' => ⟨hS _ h'.1, wpAnyH_mono hS fuel _ a' w' h'.2⟩) (h.2 i hi)⟩
theorem reset_unit (N j : Nat) : ((List.replicate N (0 : Int)).set j 1).set j 0 = List.replicate N 0 := by
  rw [List.set_set]
  apply List.ext_getElem?
  intro i
  rw [List.getElem?_set, List.getElem?_replicate, List.length_replicate]
  split
  · rename_i h; subst h; rfl
  · rfl
set_option maxHeartbeats 16000000 in
theorem i_LinearForm (p i0 i1 : Int) (ga : Option Addr) (gn gc : Nat) (gs : List Int) (oa : Option Addr) (on oc : Nat) (os : List Int) (k : Int) (w : World) (h : Circ w ga gn gc gs oa on oc os) :
    Calls Try.prog 34 #[.agg #[.int .i64 p, .int .i64 i0, .int .i64 i1, .slice ga gn gc, .slice oa on oc], .int .i64 k] w fun e w' => ∃ r c, e = .returned (.tuple #[.slice r (lfAll p i0 i1 gs gn os k).1.length c, .bool (lfAll p i0 i1 gs gn os k).2]) ∧ Mine w' w.heap.size r (lfAll p i0 i1 gs gn os k).1.length c (lfAll p i0 i1 gs gn os k).1 ∧ Below w.heap.size w w' := by
  have hlo := h.o.len.out
  have A0 := bel_alloc w (.cells #[.int .i64 p, .int .i64 i0, .int .i64 i1, .slice ga gn gc, .slice oa on oc] 48)
  have g0 := B5.new (w := w) (x0 := .int .i64 p) (x1 := .int .i64 i0) (x2 := .int .i64 i1) (x3 := .slice ga gn gc) (x4 := .slice oa on oc) (t := 48)
  obtain ⟨c0, c1, c2, c3, c4⟩ := g0
  have zz : (w.alloc (.cells #[.int .i64 p, .int .i64 i0, .int .i64 i1, .slice ga gn gc, .slice oa on oc] 48)).heap.size = w.heap.size + 1 := by simp
  obtain ⟨i00, hi, hz0, hz1, hz2⟩ := info_parts info_int
  have H0 := Lib.hid h
  have HH := Lib.hid (h.below A0)
  clear h
  unfold lfAll lfOk
  rw [hlo]
  cases hAK : arC p i0 i1 gs gn os with
  | false =>
    simp only [Bool.false_and, Bool.false_eq_true, if_false, List.length_nil]
    go_enter Try.func34, Try.ntmps34
    go_wp2_with fail
    refine wp_region_held_drew (S := (fun W => W.cell? ⟨w.heap.size, 0, none⟩ = some (.int .i64 p) ∧ W.cell? ⟨w.heap.size, 1, none⟩ = some (.int .i64 i0) ∧ W.cell? ⟨w.heap.size, 2, none⟩ = some (.int .i64 i1) ∧ W.cell? ⟨w.heap.size, 3, none⟩ = some (.slice ga gn gc) ∧ W.cell? ⟨w.heap.size, 4, none⟩ = some (.slice oa on oc))) (by kernel_rfl) (by exact ⟨c0, c1, c2, c3, c4⟩) (fun hHeld => ?_)
    refine wpAnyH_take (i := 0) (oi := ?oi0_1) (v := ?v0_1) ?ho0_1 (by kernel_rfl) (by kernel_rfl) (by kernel_rfl) ?hQ0_1 ?hy0_1 hHeld ?hr0_1
    case ho0_1 => simp only [List.getElem?_toArray, List.getElem?_cons_succ, List.getElem?_cons_zero]; rfl
    case hQ0_1 => exact fun _ _ _ h => h
    case hy0_1 => exact Or.inl ⟨by rfl, by (intro w hSw; go_simp; try with_reducible rfl)⟩
    try simp only [Act.put, List.setIfInBounds_toArray, List.set_cons_zero, List.set_cons_succ]
    refine wpAnyH_ready (rs := [1]) (by kernel_rfl) (by simp) ?_
    refine AllReadyH.cons (o := ?o1_1) ?ho1_1 (fun K hK => ?hs1_1) AllReadyH.nil
    case ho1_1 => simp only [List.getElem?_toArray, List.getElem?_cons_succ, List.getElem?_cons_zero]; rfl
    go_simp
    (go_at_call 89; refine (i_IsArith _ _ _ _ _ _ gs _ _ _ os _ (HH.out.below (bel_drew _))).mono ?_; rintro e w1 ⟨rfl, hb1⟩; rw [hAK]; have hb3 := bel_trans (bel_drew _) hb1; have c0 := cell_on c0 hb3; have c1 := cell_on c1 hb3; have c2 := cell_on c2 hb3; have c3 := cell_on c3 hb3; have c4 := cell_on c4 hb3)
    refine hK.out _ _ ?hS1_1 (fun hHeld => ?hr1_1)
    case hS1_1 => exact ⟨c0, c1, c2, c3, c4⟩
    clear hK K
    try simp only [Act.put, List.setIfInBounds_toArray, List.set_cons_zero, List.set_cons_succ]
    refine wpAnyH_take (i := 2) (oi := ?oi2_1) (v := ?v2_1) ?ho2_1 (by kernel_rfl) (by kernel_rfl) (by kernel_rfl) ?hQ2_1 ?hy2_1 hHeld ?hr2_1
    case ho2_1 => simp only [List.getElem?_toArray, List.getElem?_cons_succ, List.getElem?_cons_zero]; rfl
    case hQ2_1 => exact fun _ _ _ h => h
    case hy2_1 => exact Or.inl ⟨by rfl, by (intro w hSw; go_simp; try with_reducible rfl)⟩
    try simp only [Act.put, List.setIfInBounds_toArray, List.set_cons_zero, List.set_cons_succ]
    refine wpAnyH_take (i := 3) (oi := ?oi3_1) (v := ?v3_1) ?ho3_1 (by kernel_rfl) (by kernel_rfl) (by kernel_rfl) ?hQ3_1 ?hy3_1 hHeld ?hr3_1
    case ho3_1 => simp only [List.getElem?_toArray, List.getElem?_cons_succ, List.getElem?_cons_zero]; rfl
    case hQ3_1 => exact fun _ _ _ h => h
    case hy3_1 => exact Or.inl ⟨by rfl, by (intro w hSw; go_simp; try with_reducible rfl)⟩
    try simp only [Act.put, List.setIfInBounds_toArray, List.set_cons_zero, List.set_cons_succ]
    refine wpAnyH_take (i := 4) (oi := ?oi4_1) (v := undef) ?ho4_1 (by kernel_rfl) (by kernel_rfl) (by kernel_rfl) ?hQ4_1 ?hy4_1 hHeld ?hr4_1
    case ho4_1 => simp only [List.getElem?_toArray, List.getElem?_cons_succ, List.getElem?_cons_zero]; rfl
    case hQ4_1 => exact fun _ _ _ h => h
    case hy4_1 => exact Or.inr ⟨by rfl, rfl⟩
    try simp only [Act.put, List.setIfInBounds_toArray, List.set_cons_zero, List.set_cons_succ]
    refine wpAnyH_take (i := 5) (oi := ?oi5_1) (v := undef) ?ho5_1 (by kernel_rfl) (by kernel_rfl) (by kernel_rfl) ?hQ5_1 ?hy5_1 hHeld ?hr5_1
    case ho5_1 => simp only [List.getElem?_toArray, List.getElem?_cons_succ, List.getElem?_cons_zero]; rfl
    case hQ5_1 => exact fun _ _ _ h => h
    case hy5_1 => exact Or.inr ⟨by rfl, rfl⟩
    try simp only [Act.put, List.setIfInBounds_toArray, List.set_cons_zero, List.set_cons_succ]
    refine wpAnyH_take (i := 6) (oi := ?oi6_1) (v := undef) ?ho6_1 (by kernel_rfl) (by kernel_rfl) (by kernel_rfl) ?hQ6_1 ?hy6_1 hHeld ?hr6_1
    case ho6_1 => simp only [List.getElem?_toArray, List.getElem?_cons_succ, List.getElem?_cons_zero]; rfl
    case hQ6_1 => exact fun _ _ _ h => h
    case hy6_1 => exact Or.inr ⟨by rfl, rfl⟩
    try simp only [Act.put, List.setIfInBounds_toArray, List.set_cons_zero, List.set_cons_succ]
    refine wpAnyH_take (i := 7) (oi := ?oi7_1) (v := undef) ?ho7_1 (by kernel_rfl) (by kernel_rfl) (by kernel_rfl) ?hQ7_1 ?hy7_1 hHeld ?hr7_1
    case ho7_1 => simp only [List.getElem?_toArray, List.getElem?_cons_succ, List.getElem?_cons_zero]; rfl
    case hQ7_1 => exact fun _ _ _ h => h
    case hy7_1 => exact Or.inr ⟨by rfl, rfl⟩
    try simp only [Act.put, List.setIfInBounds_toArray, List.set_cons_zero, List.set_cons_succ]
    refine wpAnyH_take (i := 8) (oi := ?oi8_1) (v := undef) ?ho8_1 (by kernel_rfl) (by kernel_rfl) (by kernel_rfl) ?hQ8_1 ?hy8_1 hHeld ?hr8_1
    case ho8_1 => simp only [List.getElem?_toArray, List.getElem?_cons_succ, List.getElem?_cons_zero]; rfl
    case hQ8_1 => exact fun _ _ _ h => h
    case hy8_1 => exact Or.inr ⟨by rfl, rfl⟩
    try simp only [Act.put, List.setIfInBounds_toArray, List.set_cons_zero, List.set_cons_succ]
    refine wpAnyH_take (i := 9) (oi := ?oi9_1) (v := undef) ?ho9_1 (by kernel_rfl) (by kernel_rfl) (by kernel_rfl) ?hQ9_1 ?hy9_1 hHeld ?hr9_1
    case ho9_1 => simp only [List.getElem?_toArray, List.getElem?_cons_succ, List.getElem?_cons_zero]; rfl
    case hQ9_1 => exact fun _ _ _ h => h
    case hy9_1 => exact Or.inr ⟨by rfl, rfl⟩
    try simp only [Act.put, List.setIfInBounds_toArray, List.set_cons_zero, List.set_cons_succ]
    refine wpAnyH_take (i := 10) (oi := ?oi10_1) (v := undef) ?ho10_1 (by kernel_rfl) (by kernel_rfl) (by kernel_rfl) ?hQ10_1 ?hy10_1 hHeld ?hr10_1
    case ho10_1 => simp only [List.getElem?_toArray, List.getElem?_cons_succ, List.getElem?_cons_zero]; rfl
    case hQ10_1 => exact fun _ _ _ h => h
    case hy10_1 => exact Or.inr ⟨by rfl, rfl⟩
    try simp only [Act.put, List.setIfInBounds_toArray, List.set_cons_zero, List.set_cons_succ]
    refine wpAnyH_take (i := 11) (oi := ?oi11_1) (v := ?v11_1) ?ho11_1 (by kernel_rfl) (by kernel_rfl) (by kernel_rfl) ?hQ11_1 ?hy11_1 hHeld ?hr11_1
    case ho11_1 => simp only [List.getElem?_toArray, List.getElem?_cons_succ, List.getElem?_cons_zero]; rfl
    case hQ11_1 => exact fun _ _ _ h => h
    case hy11_1 => exact Or.inl ⟨by rfl, by (intro w hSw; go_simp; try with_reducible rfl)⟩
    try simp only [Act.put, List.setIfInBounds_toArray, List.set_cons_zero, List.set_cons_succ]
    refine wpAnyH_take (i := 12) (oi := ?oi12_1) (v := ?v12_1) ?ho12_1 (by kernel_rfl) (by kernel_rfl) (by kernel_rfl) ?hQ12_1 ?hy12_1 hHeld ?hr12_1
    case ho12_1 => simp only [List.getElem?_toArray, List.getElem?_cons_succ, List.getElem?_cons_zero]; rfl
    case hQ12_1 => exact fun _ _ _ h => h
    case hy12_1 => exact Or.inl ⟨by rfl, by (intro w hSw; go_simp; try with_reducible rfl)⟩
    try simp only [Act.put, List.setIfInBounds_toArray, List.set_cons_zero, List.set_cons_succ]
    refine wpAnyH_take (i := 13) (oi := ?oi13_1) (v := undef) ?ho13_1 (by kernel_rfl) (by kernel_rfl) (by kernel_rfl) ?hQ13_1 ?hy13_1 hHeld ?hr13_1
    case ho13_1 => simp only [List.getElem?_toArray, List.getElem?_cons_succ, List.getElem?_cons_zero]; rfl
    case hQ13_1 => exact fun _ _ _ h => h
    case hy13_1 => exact Or.inr ⟨by rfl, rfl⟩
    try simp only [Act.put, List.setIfInBounds_toArray, List.set_cons_zero, List.set_cons_succ]
    refine wpAnyH_take (i := 15) (oi := ?oi15_1) (v := undef) ?ho15_1 (by kernel_rfl) (by kernel_rfl) (by kernel_rfl) ?hQ15_1 ?hy15_1 hHeld ?hr15_1
    case ho15_1 => simp only [List.getElem?_toArray, List.getElem?_cons_succ, List.getElem?_cons_zero]; rfl
    case hQ15_1 => exact fun _ _ _ h => h
    case hy15_1 => exact Or.inr ⟨by rfl, rfl⟩
    try simp only [Act.put, List.setIfInBounds_toArray, List.set_cons_zero, List.set_cons_succ]
    refine wpAnyH_take (i := 16) (oi := ?oi16_1) (v := undef) ?ho16_1 (by kernel_rfl) (by kernel_rfl) (by kernel_rfl) ?hQ16_1 ?hy16_1 hHeld ?hr16_1
    case ho16_1 => simp only [List.getElem?_toArray, List.getElem?_cons_succ, List.getElem?_cons_zero]; rfl
    case hQ16_1 => exact fun _ _ _ h => h
    case hy16_1 => exact Or.inr ⟨by rfl, rfl⟩
    try simp only [Act.put, List.setIfInBounds_toArray, List.set_cons_zero, List.set_cons_succ]
    refine wpAnyH_take (i := 17) (oi := ?oi17_1) (v := undef) ?ho17_1 (by kernel_rfl) (by kernel_rfl) (by kernel_rfl) ?hQ17_1 ?hy17_1 hHeld ?hr17_1
    case ho17_1 => simp only [List.getElem?_toArray, List.getElem?_cons_succ, List.getElem?_cons_zero]; rfl
    case hQ17_1 => exact fun _ _ _ h => h
    case hy17_1 => exact Or.inr ⟨by rfl, rfl⟩
    try simp only [Act.put, List.setIfInBounds_toArray, List.set_cons_zero, List.set_cons_succ]
    refine wpAnyH_take (i := 18) (oi := ?oi18_1) (v := undef) ?ho18_1 (by kernel_rfl) (by kernel_rfl) (by kernel_rfl) ?hQ18_1 ?hy18_1 hHeld ?hr18_1
    case ho18_1 => simp only [List.getElem?_toArray, List.getElem?_cons_succ, List.getElem?_cons_zero]; rfl
    case hQ18_1 => exact fun _ _ _ h => h
    case hy18_1 => exact Or.inr ⟨by rfl, rfl⟩
    try simp only [Act.put, List.setIfInBounds_toArray, List.set_cons_zero, List.set_cons_succ]
    refine wpAnyH_take (i := 19) (oi := ?oi19_1) (v := undef) ?ho19_1 (by kernel_rfl) (by kernel_rfl) (by kernel_rfl) ?hQ19_1 ?hy19_1 hHeld ?hr19_1
    case ho19_1 => simp only [List.getElem?_toArray, List.getElem?_cons_succ, List.getElem?_cons_zero]; rfl
    case hQ19_1 => exact fun _ _ _ h => h
    case hy19_1 => exact Or.inr ⟨by rfl, rfl⟩
    try simp only [Act.put, List.setIfInBounds_toArray, List.set_cons_zero, List.set_cons_succ]
    refine wpAnyH_take (i := 14) (oi := ?oi14_1) (v := undef) ?ho14_1 (by kernel_rfl) (by kernel_rfl) (by kernel_rfl) ?hQ14_1 ?hy14_1 hHeld ?hr14_1
    case ho14_1 => simp only [List.getElem?_toArray, List.getElem?_cons_succ, List.getElem?_cons_zero]; rfl
    case hQ14_1 => exact fun _ _ _ h => h
    case hy14_1 => exact Or.inr ⟨by rfl, rfl⟩
    try simp only [Act.put, List.setIfInBounds_toArray, List.set_cons_zero, List.set_cons_succ]
    refine wpAnyH_take (i := 20) (oi := ?oi20_1) (v := undef) ?ho20_1 (by kernel_rfl) (by kernel_rfl) (by kernel_rfl) ?hQ20_1 ?hy20_1 hHeld ?hr20_1
    case ho20_1 => simp only [List.getElem?_toArray, List.getElem?_cons_succ, List.getElem?_cons_zero]; rfl
    case hQ20_1 => exact fun _ _ _ h => h
    case hy20_1 => exact Or.inr ⟨by rfl, rfl⟩
    try simp only [Act.put, List.setIfInBounds_toArray, List.set_cons_zero, List.set_cons_succ]
    refine wpAnyH_take (i := 21) (oi := ?oi21_1) (v := undef) ?ho21_1 (by kernel_rfl) (by kernel_rfl) (by kernel_rfl) ?hQ21_1 ?hy21_1 hHeld ?hr21_1
    case ho21_1 => simp only [List.getElem?_toArray, List.getElem?_cons_succ, List.getElem?_cons_zero]; rfl
    case hQ21_1 => exact fun _ _ _ h => h
    case hy21_1 => exact Or.inr ⟨by rfl, rfl⟩
    try simp only [Act.put, List.setIfInBounds_toArray, List.set_cons_zero, List.set_cons_succ]
    refine wpAnyH_take (i := 22) (oi := ?oi22_1) (v := undef) ?ho22_1 (by kernel_rfl) (by kernel_rfl) (by kernel_rfl) ?hQ22_1 ?hy22_1 hHeld ?hr22_1
    case ho22_1 => simp only [List.getElem?_toArray, List.getElem?_cons_succ, List.getElem?_cons_zero]; rfl
    case hQ22_1 => exact fun _ _ _ h => h
    case hy22_1 => exact Or.inr ⟨by rfl, rfl⟩
    try simp only [Act.put, List.setIfInBounds_toArray, List.set_cons_zero, List.set_cons_succ]
    refine wpAnyH_take (i := 23) (oi := ?oi23_1) (v := ?v23_1) ?ho23_1 (by kernel_rfl) (by kernel_rfl) (by kernel_rfl) ?hQ23_1 ?hy23_1 hHeld ?hr23_1
    case ho23_1 => simp only [List.getElem?_toArray, List.getElem?_cons_succ, List.getElem?_cons_zero]; rfl
    case hQ23_1 => exact fun _ _ _ h => h
    case hy23_1 => exact Or.inl ⟨by rfl, by (intro w hSw; go_simp; try with_reducible rfl)⟩
    try simp only [Act.put, List.setIfInBounds_toArray, List.set_cons_zero, List.set_cons_succ]
    refine wpAnyH_done (by kernel_rfl) ?_ _
    go_wp2
    go_ret2
    exact ⟨_, _, rfl, Mine.nil, bel_trans A0 hb3⟩
  | true =>
    obtain ⟨hS, hGG, hOO⟩ := arC_iff.1 hAK
    obtain ⟨hpp, ⟨h01, h02⟩, ⟨h11, h12⟩, hn, hon⟩ := arS_iff.1 hS
    obtain ⟨hp1, hp2⟩ := prB_lo hpp
    obtain ⟨N, hN⟩ : ∃ N : Nat, i0 + i1 = N := ⟨(i0 + i1).toNat, by omega⟩
    have HOU := arOuts (n := N + gn) hAK (by omega)
    rw [hlo] at HOU hon
    rw [hN] at hGG
    have HGT := Lib.hid hGG
    have hNt : (i0 + i1).toNat = N := by omega
    rw [hNt]
    clear hS hGG hOO hpp hNt
    have hN16 : N ≤ 16 := by omega
    have eo : IntKind.i64.wrap ((on : Int) - 1) = (on : Int) - 1 := IntWalk.i64_in _ (by omega)
    cases hK : inB k 0 ((on : Int) - 1) with
    | false =>
      simp only [Bool.and_false, Bool.false_and, Bool.false_eq_true, if_false, List.length_nil]
      go_enter Try.func34, Try.ntmps34
      go_wp2_with fail
      refine wp_region_held_drew (S := (fun W => W.cell? ⟨w.heap.size, 0, none⟩ = some (.int .i64 p) ∧ W.cell? ⟨w.heap.size, 1, none⟩ = some (.int .i64 i0) ∧ W.cell? ⟨w.heap.size, 2, none⟩ = some (.int .i64 i1) ∧ W.cell? ⟨w.heap.size, 3, none⟩ = some (.slice ga gn gc) ∧ W.cell? ⟨w.heap.size, 4, none⟩ = some (.slice oa on oc))) (by kernel_rfl) (by exact ⟨c0, c1, c2, c3, c4⟩) (fun hHeld => ?_)
      refine wpAnyH_take (i := 0) (oi := ?oi0_2) (v := ?v0_2) ?ho0_2 (by kernel_rfl) (by kernel_rfl) (by kernel_rfl) ?hQ0_2 ?hy0_2 hHeld ?hr0_2
      case ho0_2 => simp only [List.getElem?_toArray, List.getElem?_cons_succ, List.getElem?_cons_zero]; rfl
      case hQ0_2 => exact fun _ _ _ h => h
      case hy0_2 => exact Or.inl ⟨by rfl, by (intro w hSw; go_simp; try with_reducible rfl)⟩
      try simp only [Act.put, List.setIfInBounds_toArray, List.set_cons_zero, List.set_cons_succ]
      refine wpAnyH_ready (rs := [1]) (by kernel_rfl) (by simp) ?_
      refine AllReadyH.cons (o := ?o1_2) ?ho1_2 (fun K hK => ?hs1_2) AllReadyH.nil
      case ho1_2 => simp only [List.getElem?_toArray, List.getElem?_cons_succ, List.getElem?_cons_zero]; rfl
      go_simp
      (go_at_call 89; refine (i_IsArith _ _ _ _ _ _ gs _ _ _ os _ (HH.out.below (bel_drew _))).mono ?_; rintro e w1 ⟨rfl, hb1⟩; rw [hAK]; have hb3 := bel_trans (bel_drew _) hb1; have c0 := cell_on c0 hb3; have c1 := cell_on c1 hb3; have c2 := cell_on c2 hb3; have c3 := cell_on c3 hb3; have c4 := cell_on c4 hb3)
      refine hK.out _ _ ?hS1_2 (fun hHeld => ?hr1_2)
      case hS1_2 => exact ⟨c0, c1, c2, c3, c4⟩
      clear hK K
      try simp only [Act.put, List.setIfInBounds_toArray, List.set_cons_zero, List.set_cons_succ]
      refine wpAnyH_take (i := 2) (oi := ?oi2_2) (v := ?v2_2) ?ho2_2 (by kernel_rfl) (by kernel_rfl) (by kernel_rfl) ?hQ2_2 ?hy2_2 hHeld ?hr2_2
      case ho2_2 => simp only [List.getElem?_toArray, List.getElem?_cons_succ, List.getElem?_cons_zero]; rfl
      case hQ2_2 => exact fun _ _ _ h => h
      case hy2_2 => exact Or.inl ⟨by rfl, by (intro w hSw; go_simp; try with_reducible rfl)⟩
      try simp only [Act.put, List.setIfInBounds_toArray, List.set_cons_zero, List.set_cons_succ]
      refine wpAnyH_take (i := 3) (oi := ?oi3_2) (v := ?v3_2) ?ho3_2 (by kernel_rfl) (by kernel_rfl) (by kernel_rfl) ?hQ3_2 ?hy3_2 hHeld ?hr3_2
      case ho3_2 => simp only [List.getElem?_toArray, List.getElem?_cons_succ, List.getElem?_cons_zero]; rfl
      case hQ3_2 => exact fun _ _ _ h => h
      case hy3_2 => exact Or.inl ⟨by rfl, by (intro w hSw; go_simp; try with_reducible rfl)⟩
      try simp only [Act.put, List.setIfInBounds_toArray, List.set_cons_zero, List.set_cons_succ]
      refine wpAnyH_take (i := 4) (oi := ?oi4_2) (v := ?v4_2) ?ho4_2 (by kernel_rfl) (by kernel_rfl) (by kernel_rfl) ?hQ4_2 ?hy4_2 hHeld ?hr4_2
      case ho4_2 => simp only [List.getElem?_toArray, List.getElem?_cons_succ, List.getElem?_cons_zero]; rfl
      case hQ4_2 => exact fun _ _ _ h => h
      case hy4_2 => exact Or.inl ⟨by rfl, by (intro w hSw; go_simp; try with_reducible rfl)⟩
      try simp only [Act.put, List.setIfInBounds_toArray, List.set_cons_zero, List.set_cons_succ]
      refine wpAnyH_take (i := 5) (oi := ?oi5_2) (v := ?v5_2) ?ho5_2 (by kernel_rfl) (by kernel_rfl) (by kernel_rfl) ?hQ5_2 ?hy5_2 hHeld ?hr5_2
      case ho5_2 => simp only [List.getElem?_toArray, List.getElem?_cons_succ, List.getElem?_cons_zero]; rfl
      case hQ5_2 => exact fun _ _ _ h => h
      case hy5_2 => exact Or.inl ⟨by rfl, by (intro w hSw; go_simp; try with_reducible rfl)⟩
      try simp only [Act.put, List.setIfInBounds_toArray, List.set_cons_zero, List.set_cons_succ]
      refine wpAnyH_take (i := 6) (oi := ?oi6_2) (v := ?v6_2) ?ho6_2 (by kernel_rfl) (by kernel_rfl) (by kernel_rfl) ?hQ6_2 ?hy6_2 hHeld ?hr6_2
      case ho6_2 => simp only [List.getElem?_toArray, List.getElem?_cons_succ, List.getElem?_cons_zero]; rfl
      case hQ6_2 => exact fun _ _ _ h => h
      case hy6_2 => exact Or.inl ⟨by rfl, by (intro w hSw; go_simp; try with_reducible rfl)⟩
      try simp only [Act.put, List.setIfInBounds_toArray, List.set_cons_zero, List.set_cons_succ]
      refine wpAnyH_take (i := 7) (oi := ?oi7_2) (v := ?v7_2) ?ho7_2 (by kernel_rfl) (by kernel_rfl) (by kernel_rfl) ?hQ7_2 ?hy7_2 hHeld ?hr7_2
      case ho7_2 => simp only [List.getElem?_toArray, List.getElem?_cons_succ, List.getElem?_cons_zero]; rfl
      case hQ7_2 => exact fun _ _ _ h => h
      case hy7_2 => exact Or.inl ⟨by rfl, by (intro w hSw; go_simp; try with_reducible rfl)⟩
      try simp only [Act.put, List.setIfInBounds_toArray, List.set_cons_zero, List.set_cons_succ]
      refine wpAnyH_take (i := 8) (oi := ?oi8_2) (v := ?v8_2) ?ho8_2 (by kernel_rfl) (by kernel_rfl) (by kernel_rfl) ?hQ8_2 ?hy8_2 hHeld ?hr8_2
      case ho8_2 => simp only [List.getElem?_toArray, List.getElem?_cons_succ, List.getElem?_cons_zero]; rfl
      case hQ8_2 => exact fun _ _ _ h => h
      case hy8_2 => exact Or.inl ⟨by rfl, by (intro w hSw; go_simp; try with_reducible rfl)⟩
      try simp only [Act.put, List.setIfInBounds_toArray, List.set_cons_zero, List.set_cons_succ]
      refine wpAnyH_ready (rs := [9]) (by kernel_rfl) (by simp) ?_
      refine AllReadyH.cons (o := ?o9_2) ?ho9_2 (fun K hK => ?hs9_2) AllReadyH.nil
      case ho9_2 => simp only [List.getElem?_toArray, List.getElem?_cons_succ, List.getElem?_cons_zero]; rfl
      go_simp
      (go_at_call 64; refine (i_within _ _ _ _).mono ?_; rintro e w2 ⟨rfl, rfl⟩)
      refine hK.out _ _ ?hS9_2 (fun hHeld => ?hr9_2)
      case hS9_2 => exact ⟨c0, c1, c2, c3, c4⟩
      clear hK K
      try simp only [Act.put, List.setIfInBounds_toArray, List.set_cons_zero, List.set_cons_succ]
      refine wpAnyH_take (i := 10) (oi := ?oi10_2) (v := ?v10_2) ?ho10_2 (by kernel_rfl) (by kernel_rfl) (by kernel_rfl) ?hQ10_2 ?hy10_2 hHeld ?hr10_2
      case ho10_2 => simp only [List.getElem?_toArray, List.getElem?_cons_succ, List.getElem?_cons_zero]; rfl
      case hQ10_2 => exact fun _ _ _ h => h
      case hy10_2 => exact Or.inl ⟨by rfl, by (intro w hSw; go_simp; try with_reducible rfl)⟩
      try simp only [Act.put, List.setIfInBounds_toArray, List.set_cons_zero, List.set_cons_succ]
      refine wpAnyH_take (i := 11) (oi := ?oi11_2) (v := ?v11_2) ?ho11_2 (by kernel_rfl) (by kernel_rfl) (by kernel_rfl) ?hQ11_2 ?hy11_2 hHeld ?hr11_2
      case ho11_2 => simp only [List.getElem?_toArray, List.getElem?_cons_succ, List.getElem?_cons_zero]; rfl
      case hQ11_2 => exact fun _ _ _ h => h
      case hy11_2 => exact Or.inl ⟨by rfl, by (intro w hSw; go_simp; try with_reducible rfl)⟩
      try simp only [Act.put, List.setIfInBounds_toArray, List.set_cons_zero, List.set_cons_succ]
      refine wpAnyH_take (i := 12) (oi := ?oi12_2) (v := ?v12_2) ?ho12_2 (by kernel_rfl) (by kernel_rfl) (by kernel_rfl) ?hQ12_2 ?hy12_2 hHeld ?hr12_2
      case ho12_2 => simp only [List.getElem?_toArray, List.getElem?_cons_succ, List.getElem?_cons_zero]; rfl
      case hQ12_2 => exact fun _ _ _ h => h
      case hy12_2 => exact Or.inl ⟨by rfl, by (intro w hSw; go_simp; try with_reducible rfl)⟩
      try simp only [Act.put, List.setIfInBounds_toArray, List.set_cons_zero, List.set_cons_succ]
      refine wpAnyH_take (i := 13) (oi := ?oi13_2) (v := undef) ?ho13_2 (by kernel_rfl) (by kernel_rfl) (by kernel_rfl) ?hQ13_2 ?hy13_2 hHeld ?hr13_2
      case ho13_2 => simp only [List.getElem?_toArray, List.getElem?_cons_succ, List.getElem?_cons_zero]; rfl
      case hQ13_2 => exact fun _ _ _ h => h
      case hy13_2 => exact Or.inr ⟨by rfl, rfl⟩
      try simp only [Act.put, List.setIfInBounds_toArray, List.set_cons_zero, List.set_cons_succ]
      refine wpAnyH_take (i := 15) (oi := ?oi15_2) (v := undef) ?ho15_2 (by kernel_rfl) (by kernel_rfl) (by kernel_rfl) ?hQ15_2 ?hy15_2 hHeld ?hr15_2
      case ho15_2 => simp only [List.getElem?_toArray, List.getElem?_cons_succ, List.getElem?_cons_zero]; rfl
      case hQ15_2 => exact fun _ _ _ h => h
      case hy15_2 => exact Or.inr ⟨by rfl, rfl⟩
      try simp only [Act.put, List.setIfInBounds_toArray, List.set_cons_zero, List.set_cons_succ]
      refine wpAnyH_take (i := 16) (oi := ?oi16_2) (v := undef) ?ho16_2 (by kernel_rfl) (by kernel_rfl) (by kernel_rfl) ?hQ16_2 ?hy16_2 hHeld ?hr16_2
      case ho16_2 => simp only [List.getElem?_toArray, List.getElem?_cons_succ, List.getElem?_cons_zero]; rfl
      case hQ16_2 => exact fun _ _ _ h => h
      case hy16_2 => exact Or.inr ⟨by rfl, rfl⟩
      try simp only [Act.put, List.setIfInBounds_toArray, List.set_cons_zero, List.set_cons_succ]
      refine wpAnyH_take (i := 17) (oi := ?oi17_2) (v := undef) ?ho17_2 (by kernel_rfl) (by kernel_rfl) (by kernel_rfl) ?hQ17_2 ?hy17_2 hHeld ?hr17_2
      case ho17_2 => simp only [List.getElem?_toArray, List.getElem?_cons_succ, List.getElem?_cons_zero]; rfl
      case hQ17_2 => exact fun _ _ _ h => h
      case hy17_2 => exact Or.inr ⟨by rfl, rfl⟩
      try simp only [Act.put, List.setIfInBounds_toArray, List.set_cons_zero, List.set_cons_succ]
      refine wpAnyH_take (i := 18) (oi := ?oi18_2) (v := undef) ?ho18_2 (by kernel_rfl) (by kernel_rfl) (by kernel_rfl) ?hQ18_2 ?hy18_2 hHeld ?hr18_2
      case ho18_2 => simp only [List.getElem?_toArray, List.getElem?_cons_succ, List.getElem?_cons_zero]; rfl
      case hQ18_2 => exact fun _ _ _ h => h
      case hy18_2 => exact Or.inr ⟨by rfl, rfl⟩
      try simp only [Act.put, List.setIfInBounds_toArray, List.set_cons_zero, List.set_cons_succ]
      refine wpAnyH_take (i := 19) (oi := ?oi19_2) (v := undef) ?ho19_2 (by kernel_rfl) (by kernel_rfl) (by kernel_rfl) ?hQ19_2 ?hy19_2 hHeld ?hr19_2
      case ho19_2 => simp only [List.getElem?_toArray, List.getElem?_cons_succ, List.getElem?_cons_zero]; rfl
      case hQ19_2 => exact fun _ _ _ h => h
      case hy19_2 => exact Or.inr ⟨by rfl, rfl⟩
      try simp only [Act.put, List.setIfInBounds_toArray, List.set_cons_zero, List.set_cons_succ]
      refine wpAnyH_take (i := 14) (oi := ?oi14_2) (v := undef) ?ho14_2 (by kernel_rfl) (by kernel_rfl) (by kernel_rfl) ?hQ14_2 ?hy14_2 hHeld ?hr14_2
      case ho14_2 => simp only [List.getElem?_toArray, List.getElem?_cons_succ, List.getElem?_cons_zero]; rfl
      case hQ14_2 => exact fun _ _ _ h => h
      case hy14_2 => exact Or.inr ⟨by rfl, rfl⟩
      try simp only [Act.put, List.setIfInBounds_toArray, List.set_cons_zero, List.set_cons_succ]
      refine wpAnyH_take (i := 20) (oi := ?oi20_2) (v := undef) ?ho20_2 (by kernel_rfl) (by kernel_rfl) (by kernel_rfl) ?hQ20_2 ?hy20_2 hHeld ?hr20_2
      case ho20_2 => simp only [List.getElem?_toArray, List.getElem?_cons_succ, List.getElem?_cons_zero]; rfl
      case hQ20_2 => exact fun _ _ _ h => h
      case hy20_2 => exact Or.inr ⟨by rfl, rfl⟩
      try simp only [Act.put, List.setIfInBounds_toArray, List.set_cons_zero, List.set_cons_succ]
      refine wpAnyH_take (i := 21) (oi := ?oi21_2) (v := undef) ?ho21_2 (by kernel_rfl) (by kernel_rfl) (by kernel_rfl) ?hQ21_2 ?hy21_2 hHeld ?hr21_2
      case ho21_2 => simp only [List.getElem?_toArray, List.getElem?_cons_succ, List.getElem?_cons_zero]; rfl
      case hQ21_2 => exact fun _ _ _ h => h
      case hy21_2 => exact Or.inr ⟨by rfl, rfl⟩
      try simp only [Act.put, List.setIfInBounds_toArray, List.set_cons_zero, List.set_cons_succ]
      refine wpAnyH_take (i := 22) (oi := ?oi22_2) (v := undef) ?ho22_2 (by kernel_rfl) (by kernel_rfl) (by kernel_rfl) ?hQ22_2 ?hy22_2 hHeld ?hr22_2
      case ho22_2 => simp only [List.getElem?_toArray, List.getElem?_cons_succ, List.getElem?_cons_zero]; rfl
      case hQ22_2 => exact fun _ _ _ h => h
      case hy22_2 => exact Or.inr ⟨by rfl, rfl⟩
      try simp only [Act.put, List.setIfInBounds_toArray, List.set_cons_zero, List.set_cons_succ]
      refine wpAnyH_take (i := 23) (oi := ?oi23_2) (v := ?v23_2) ?ho23_2 (by kernel_rfl) (by kernel_rfl) (by kernel_rfl) ?hQ23_2 ?hy23_2 hHeld ?hr23_2
      case ho23_2 => simp only [List.getElem?_toArray, List.getElem?_cons_succ, List.getElem?_cons_zero]; rfl
      case hQ23_2 => exact fun _ _ _ h => h
      case hy23_2 => exact Or.inl ⟨by rfl, by (intro w hSw; go_simp; try with_reducible rfl)⟩
      try simp only [Act.put, List.setIfInBounds_toArray, List.set_cons_zero, List.set_cons_succ]
      refine wpAnyH_done (by kernel_rfl) ?_ _
      go_wp2
      go_ret2
      exact ⟨_, _, rfl, Mine.nil, bel_trans A0 hb3⟩
    | true =>
      obtain ⟨hk1, hk2⟩ := inB_iff.1 hK
      obtain ⟨kk, rfl⟩ : ∃ kk : Nat, k = kk := ⟨k.toNat, by omega⟩
      have hkk : kk < on := by omega
      have hki : (kk : Int) < (on : Int) := by omega
      obtain ⟨ob, oo, rfl, hol, co⟩ := HH.out.o.at hkk
      obtain ⟨q, hq'⟩ : ∃ q : Nat, nth os kk = q := ⟨(nth os kk).toNat, by have := HOU.out kk hkk; omega⟩
      have hq : q < N + gn := by have := HOU.out kk hkk; omega
      have hqi : (q : Int) < ((N + gn : Nat) : Int) := by omega
      have hqj : (q : Int) < (N : Int) + (gn : Int) := by omega
      rw [hq'] at co
      have H0co0 := H0.out.o.at hkk
      obtain ⟨ob', oo', eb, hol0, H0co⟩ := H0co0
      simp only [Option.some.injEq, Addr.mk.injEq] at eb
      obtain ⟨rfl, rfl, _⟩ := eb
      rw [hq'] at H0co
      have eq1 : (nth os (Int.toNat (kk : Int))).toNat = q := by rw [Int.toNat_natCast, hq', Int.toNat_natCast]
      rw [eq1]
      clear eq1 hk1 hk2
      have HQ := Lib.hid hq'; clear hq'
      have HLOW := Lib.hid (ads_low gs N gn q)
      cases hD : decide (nth (ads 2000000 gs N gn) q ≤ 1) with
      | false =>
        simp only [Bool.and_false, Bool.false_and, Bool.false_eq_true, if_false, List.length_nil]
        have hd : (1 : Int) < nth (ads 1000001 gs N gn) q := by have h1 := of_decide_eq_false hD; have h2 := HLOW.out; omega
        clear hD
        go_enter Try.func34, Try.ntmps34
        go_wp2_with fail
        refine wp_region_held_drew (S := (fun W => W.cell? ⟨w.heap.size, 0, none⟩ = some (.int .i64 p) ∧ W.cell? ⟨w.heap.size, 1, none⟩ = some (.int .i64 i0) ∧ W.cell? ⟨w.heap.size, 2, none⟩ = some (.int .i64 i1) ∧ W.cell? ⟨w.heap.size, 3, none⟩ = some (.slice ga gn gc) ∧ W.cell? ⟨w.heap.size, 4, none⟩ = some (.slice (some ⟨ob, oo, none⟩) on oc) ∧ W.cell? ⟨ob, oo + kk, none⟩ = some (.int .i64 q))) (by kernel_rfl) (by exact ⟨c0, c1, c2, c3, c4, co⟩) (fun hHeld => ?_)
        refine wpAnyH_take (i := 0) (oi := ?oi0_3) (v := ?v0_3) ?ho0_3 (by kernel_rfl) (by kernel_rfl) (by kernel_rfl) ?hQ0_3 ?hy0_3 hHeld ?hr0_3
        case ho0_3 => simp only [List.getElem?_toArray, List.getElem?_cons_succ, List.getElem?_cons_zero]; rfl
        case hQ0_3 => exact fun _ _ _ h => h
        case hy0_3 => exact Or.inl ⟨by rfl, by (intro w hSw; go_simp; try with_reducible rfl)⟩
        try simp only [Act.put, List.setIfInBounds_toArray, List.set_cons_zero, List.set_cons_succ]
        refine wpAnyH_ready (rs := [1]) (by kernel_rfl) (by simp) ?_
        refine AllReadyH.cons (o := ?o1_3) ?ho1_3 (fun K hK => ?hs1_3) AllReadyH.nil
        case ho1_3 => simp only [List.getElem?_toArray, List.getElem?_cons_succ, List.getElem?_cons_zero]; rfl
        go_simp
        (go_at_call 89; refine (i_IsArith _ _ _ _ _ _ gs _ _ _ os _ (HH.out.below (bel_drew _))).mono ?_; rintro e w1 ⟨rfl, hb1⟩; rw [hAK]; have hb3 := bel_trans (bel_drew _) hb1; have c0 := cell_on c0 hb3; have c1 := cell_on c1 hb3; have c2 := cell_on c2 hb3; have c3 := cell_on c3 hb3; have c4 := cell_on c4 hb3; have co := cell_on co hb3)
        refine hK.out _ _ ?hS1_3 (fun hHeld => ?hr1_3)
        case hS1_3 => exact ⟨c0, c1, c2, c3, c4, co⟩
        clear hK K
        try simp only [Act.put, List.setIfInBounds_toArray, List.set_cons_zero, List.set_cons_succ]
        refine wpAnyH_take (i := 2) (oi := ?oi2_3) (v := ?v2_3) ?ho2_3 (by kernel_rfl) (by kernel_rfl) (by kernel_rfl) ?hQ2_3 ?hy2_3 hHeld ?hr2_3
        case ho2_3 => simp only [List.getElem?_toArray, List.getElem?_cons_succ, List.getElem?_cons_zero]; rfl
        case hQ2_3 => exact fun _ _ _ h => h
        case hy2_3 => exact Or.inl ⟨by rfl, by (intro w hSw; go_simp; try with_reducible rfl)⟩
        try simp only [Act.put, List.setIfInBounds_toArray, List.set_cons_zero, List.set_cons_succ]
        refine wpAnyH_take (i := 3) (oi := ?oi3_3) (v := ?v3_3) ?ho3_3 (by kernel_rfl) (by kernel_rfl) (by kernel_rfl) ?hQ3_3 ?hy3_3 hHeld ?hr3_3
        case ho3_3 => simp only [List.getElem?_toArray, List.getElem?_cons_succ, List.getElem?_cons_zero]; rfl
        case hQ3_3 => exact fun _ _ _ h => h
        case hy3_3 => exact Or.inl ⟨by rfl, by (intro w hSw; go_simp; try with_reducible rfl)⟩
        try simp only [Act.put, List.setIfInBounds_toArray, List.set_cons_zero, List.set_cons_succ]
        refine wpAnyH_take (i := 4) (oi := ?oi4_3) (v := ?v4_3) ?ho4_3 (by kernel_rfl) (by kernel_rfl) (by kernel_rfl) ?hQ4_3 ?hy4_3 hHeld ?hr4_3
        case ho4_3 => simp only [List.getElem?_toArray, List.getElem?_cons_succ, List.getElem?_cons_zero]; rfl
        case hQ4_3 => exact fun _ _ _ h => h
        case hy4_3 => exact Or.inl ⟨by rfl, by (intro w hSw; go_simp; try with_reducible rfl)⟩
        try simp only [Act.put, List.setIfInBounds_toArray, List.set_cons_zero, List.set_cons_succ]
        refine wpAnyH_take (i := 5) (oi := ?oi5_3) (v := ?v5_3) ?ho5_3 (by kernel_rfl) (by kernel_rfl) (by kernel_rfl) ?hQ5_3 ?hy5_3 hHeld ?hr5_3
        case ho5_3 => simp only [List.getElem?_toArray, List.getElem?_cons_succ, List.getElem?_cons_zero]; rfl
        case hQ5_3 => exact fun _ _ _ h => h
        case hy5_3 => exact Or.inl ⟨by rfl, by (intro w hSw; go_simp; try with_reducible rfl)⟩
        try simp only [Act.put, List.setIfInBounds_toArray, List.set_cons_zero, List.set_cons_succ]
        refine wpAnyH_take (i := 6) (oi := ?oi6_3) (v := ?v6_3) ?ho6_3 (by kernel_rfl) (by kernel_rfl) (by kernel_rfl) ?hQ6_3 ?hy6_3 hHeld ?hr6_3
        case ho6_3 => simp only [List.getElem?_toArray, List.getElem?_cons_succ, List.getElem?_cons_zero]; rfl
        case hQ6_3 => exact fun _ _ _ h => h
        case hy6_3 => exact Or.inl ⟨by rfl, by (intro w hSw; go_simp; try with_reducible rfl)⟩
        try simp only [Act.put, List.setIfInBounds_toArray, List.set_cons_zero, List.set_cons_succ]
        refine wpAnyH_take (i := 7) (oi := ?oi7_3) (v := ?v7_3) ?ho7_3 (by kernel_rfl) (by kernel_rfl) (by kernel_rfl) ?hQ7_3 ?hy7_3 hHeld ?hr7_3
        case ho7_3 => simp only [List.getElem?_toArray, List.getElem?_cons_succ, List.getElem?_cons_zero]; rfl
        case hQ7_3 => exact fun _ _ _ h => h
        case hy7_3 => exact Or.inl ⟨by rfl, by (intro w hSw; go_simp; try with_reducible rfl)⟩
        try simp only [Act.put, List.setIfInBounds_toArray, List.set_cons_zero, List.set_cons_succ]
        refine wpAnyH_take (i := 8) (oi := ?oi8_3) (v := ?v8_3) ?ho8_3 (by kernel_rfl) (by kernel_rfl) (by kernel_rfl) ?hQ8_3 ?hy8_3 hHeld ?hr8_3
        case ho8_3 => simp only [List.getElem?_toArray, List.getElem?_cons_succ, List.getElem?_cons_zero]; rfl
        case hQ8_3 => exact fun _ _ _ h => h
        case hy8_3 => exact Or.inl ⟨by rfl, by (intro w hSw; go_simp; try with_reducible rfl)⟩
        try simp only [Act.put, List.setIfInBounds_toArray, List.set_cons_zero, List.set_cons_succ]
        refine wpAnyH_ready (rs := [9]) (by kernel_rfl) (by simp) ?_
        refine AllReadyH.cons (o := ?o9_3) ?ho9_3 (fun K hK => ?hs9_3) AllReadyH.nil
        case ho9_3 => simp only [List.getElem?_toArray, List.getElem?_cons_succ, List.getElem?_cons_zero]; rfl
        go_simp
        (go_at_call 64; refine (i_within _ _ _ _).mono ?_; rintro e w2 ⟨rfl, rfl⟩)
        refine hK.out _ _ ?hS9_3 (fun hHeld => ?hr9_3)
        case hS9_3 => exact ⟨c0, c1, c2, c3, c4, co⟩
        clear hK K
        try simp only [Act.put, List.setIfInBounds_toArray, List.set_cons_zero, List.set_cons_succ]
        refine wpAnyH_take (i := 10) (oi := ?oi10_3) (v := ?v10_3) ?ho10_3 (by kernel_rfl) (by kernel_rfl) (by kernel_rfl) ?hQ10_3 ?hy10_3 hHeld ?hr10_3
        case ho10_3 => simp only [List.getElem?_toArray, List.getElem?_cons_succ, List.getElem?_cons_zero]; rfl
        case hQ10_3 => exact fun _ _ _ h => h
        case hy10_3 => exact Or.inl ⟨by rfl, by (intro w hSw; go_simp; try with_reducible rfl)⟩
        try simp only [Act.put, List.setIfInBounds_toArray, List.set_cons_zero, List.set_cons_succ]
        refine wpAnyH_take (i := 11) (oi := ?oi11_3) (v := ?v11_3) ?ho11_3 (by kernel_rfl) (by kernel_rfl) (by kernel_rfl) ?hQ11_3 ?hy11_3 hHeld ?hr11_3
        case ho11_3 => simp only [List.getElem?_toArray, List.getElem?_cons_succ, List.getElem?_cons_zero]; rfl
        case hQ11_3 => exact fun _ _ _ h => h
        case hy11_3 => exact Or.inl ⟨by rfl, by (intro w hSw; go_simp; try with_reducible rfl)⟩
        try simp only [Act.put, List.setIfInBounds_toArray, List.set_cons_zero, List.set_cons_succ]
        refine wpAnyH_take (i := 12) (oi := ?oi12_3) (v := ?v12_3) ?ho12_3 (by kernel_rfl) (by kernel_rfl) (by kernel_rfl) ?hQ12_3 ?hy12_3 hHeld ?hr12_3
        case ho12_3 => simp only [List.getElem?_toArray, List.getElem?_cons_succ, List.getElem?_cons_zero]; rfl
        case hQ12_3 => exact fun _ _ _ h => h
        case hy12_3 => exact Or.inl ⟨by rfl, by (intro w hSw; go_simp; try with_reducible rfl)⟩
        try simp only [Act.put, List.setIfInBounds_toArray, List.set_cons_zero, List.set_cons_succ]
        refine wpAnyH_take (i := 13) (oi := ?oi13_3) (v := ?v13_3) ?ho13_3 (by kernel_rfl) (by kernel_rfl) (by kernel_rfl) ?hQ13_3 ?hy13_3 hHeld ?hr13_3
        case ho13_3 => simp only [List.getElem?_toArray, List.getElem?_cons_succ, List.getElem?_cons_zero]; rfl
        case hQ13_3 => exact fun _ _ _ h => h
        case hy13_3 => exact Or.inl ⟨by rfl, by (intro w hSw; go_simp; try with_reducible rfl)⟩
        try simp only [Act.put, List.setIfInBounds_toArray, List.set_cons_zero, List.set_cons_succ]
        refine wpAnyH_take (i := 15) (oi := ?oi15_3) (v := ?v15_3) ?ho15_3 (by kernel_rfl) (by kernel_rfl) (by kernel_rfl) ?hQ15_3 ?hy15_3 hHeld ?hr15_3
        case ho15_3 => simp only [List.getElem?_toArray, List.getElem?_cons_succ, List.getElem?_cons_zero]; rfl
        case hQ15_3 => exact fun _ _ _ h => h
        case hy15_3 => exact Or.inl ⟨by rfl, by (intro w hSw; go_simp; try with_reducible rfl)⟩
        try simp only [Act.put, List.setIfInBounds_toArray, List.set_cons_zero, List.set_cons_succ]
        refine wpAnyH_take (i := 16) (oi := ?oi16_3) (v := ?v16_3) ?ho16_3 (by kernel_rfl) (by kernel_rfl) (by kernel_rfl) ?hQ16_3 ?hy16_3 hHeld ?hr16_3
        case ho16_3 => simp only [List.getElem?_toArray, List.getElem?_cons_succ, List.getElem?_cons_zero]; rfl
        case hQ16_3 => exact fun _ _ _ h => h
        case hy16_3 => exact Or.inl ⟨by rfl, by (intro w hSw; go_simp; try with_reducible rfl)⟩
        try simp only [Act.put, List.setIfInBounds_toArray, List.set_cons_zero, List.set_cons_succ]
        refine wpAnyH_take (i := 17) (oi := ?oi17_3) (v := ?v17_3) ?ho17_3 (by kernel_rfl) (by kernel_rfl) (by kernel_rfl) ?hQ17_3 ?hy17_3 hHeld ?hr17_3
        case ho17_3 => simp only [List.getElem?_toArray, List.getElem?_cons_succ, List.getElem?_cons_zero]; rfl
        case hQ17_3 => exact fun _ _ _ h => h
        case hy17_3 => exact Or.inl ⟨by rfl, by (intro w hSw; go_simp; try with_reducible rfl)⟩
        try simp only [Act.put, List.setIfInBounds_toArray, List.set_cons_zero, List.set_cons_succ]
        refine wpAnyH_take (i := 18) (oi := ?oi18_3) (v := ?v18_3) ?ho18_3 (by kernel_rfl) (by kernel_rfl) (by kernel_rfl) ?hQ18_3 ?hy18_3 hHeld ?hr18_3
        case ho18_3 => simp only [List.getElem?_toArray, List.getElem?_cons_succ, List.getElem?_cons_zero]; rfl
        case hQ18_3 => exact fun _ _ _ h => h
        case hy18_3 => exact Or.inl ⟨by rfl, by (intro w hSw; go_simp; try with_reducible rfl)⟩
        try simp only [Act.put, List.setIfInBounds_toArray, List.set_cons_zero, List.set_cons_succ]
        refine wpAnyH_take (i := 19) (oi := ?oi19_3) (v := ?v19_3) ?ho19_3 (by kernel_rfl) (by kernel_rfl) (by kernel_rfl) ?hQ19_3 ?hy19_3 hHeld ?hr19_3
        case ho19_3 => simp only [List.getElem?_toArray, List.getElem?_cons_succ, List.getElem?_cons_zero]; rfl
        case hQ19_3 => exact fun _ _ _ h => h
        case hy19_3 => exact Or.inl ⟨by rfl, by (intro w hSw; go_simp; try with_reducible rfl)⟩
        try simp only [Act.put, List.setIfInBounds_toArray, List.set_cons_zero, List.set_cons_succ]
        refine wpAnyH_ready (rs := [14]) (by kernel_rfl) (by simp) ?_
        refine AllReadyH.cons (o := ?o14_3) ?ho14_3 (fun K hK => ?hs14_3) AllReadyH.nil
        case ho14_3 => simp only [List.getElem?_toArray, List.getElem?_cons_succ, List.getElem?_cons_zero]; rfl
        go_simp
        (go_at_call 90; refine (i_degrees _ _ _ _ _ _ gs _ _ _ os N _ (HH.out.below hb3) HGT ⟨h01, h02⟩ ⟨h11, h12⟩ hN (by omega)).mono ?_; rintro e w4 ⟨r4, k4, rfl, m4, hb4⟩; have hb5 := bel_trans hb3 hb4; have c0 := cell_on c0 hb4; have c1 := cell_on c1 hb4; have c2 := cell_on c2 hb4; have c3 := cell_on c3 hb4; have c4 := cell_on c4 hb4; have co := cell_on co hb4; obtain ⟨db, dof, rfl, dl, dc⟩ := m4.ints.at (i := q) hq)
        refine hK.out _ _ ?hS14_3 (fun hHeld => ?hr14_3)
        case hS14_3 => exact ⟨c0, c1, c2, c3, c4, co⟩
        clear hK K
        try simp only [Act.put, List.setIfInBounds_toArray, List.set_cons_zero, List.set_cons_succ]
        refine wpAnyH_mono (S' := (fun W : World => W.cell? ⟨w.heap.size, 0, none⟩ = some (.int .i64 p) ∧ W.cell? ⟨w.heap.size, 1, none⟩ = some (.int .i64 i0) ∧ W.cell? ⟨w.heap.size, 2, none⟩ = some (.int .i64 i1) ∧ W.cell? ⟨w.heap.size, 3, none⟩ = some (.slice ga gn gc) ∧ W.cell? ⟨w.heap.size, 4, none⟩ = some (.slice (some ⟨ob, oo, none⟩) on oc) ∧ W.cell? ⟨ob, oo + kk, none⟩ = some (.int .i64 q) ∧ W.cell? ⟨db, dof + q, none⟩ = some (.int .i64 (nth (ads 1000001 gs N gn) q)))) (fun _ h => ⟨h.1, h.2.1, h.2.2.1, h.2.2.2.1, h.2.2.2.2.1, h.2.2.2.2.2.1⟩) _ _ _ _ ?_
        replace hHeld := (show ((fun W : World => W.cell? ⟨w.heap.size, 0, none⟩ = some (.int .i64 p) ∧ W.cell? ⟨w.heap.size, 1, none⟩ = some (.int .i64 i0) ∧ W.cell? ⟨w.heap.size, 2, none⟩ = some (.int .i64 i1) ∧ W.cell? ⟨w.heap.size, 3, none⟩ = some (.slice ga gn gc) ∧ W.cell? ⟨w.heap.size, 4, none⟩ = some (.slice (some ⟨ob, oo, none⟩) on oc) ∧ W.cell? ⟨ob, oo + kk, none⟩ = some (.int .i64 q) ∧ W.cell? ⟨db, dof + q, none⟩ = some (.int .i64 (nth (ads 1000001 gs N gn) q)))) _ from (by exact ⟨c0, c1, c2, c3, c4, co, dc⟩))
        refine wpAnyH_take (i := 20) (oi := ?oi20_3) (v := ?v20_3) ?ho20_3 (by kernel_rfl) (by kernel_rfl) (by kernel_rfl) ?hQ20_3 ?hy20_3 hHeld ?hr20_3
        case ho20_3 => simp only [List.getElem?_toArray, List.getElem?_cons_succ, List.getElem?_cons_zero]; rfl
        case hQ20_3 => exact fun _ _ _ h => h
        case hy20_3 => exact Or.inl ⟨by rfl, by (intro w hSw; go_simp; try with_reducible rfl)⟩
        try simp only [Act.put, List.setIfInBounds_toArray, List.set_cons_zero, List.set_cons_succ]
        refine wpAnyH_take (i := 21) (oi := ?oi21_3) (v := ?v21_3) ?ho21_3 (by kernel_rfl) (by kernel_rfl) (by kernel_rfl) ?hQ21_3 ?hy21_3 hHeld ?hr21_3
        case ho21_3 => simp only [List.getElem?_toArray, List.getElem?_cons_succ, List.getElem?_cons_zero]; rfl
        case hQ21_3 => exact fun _ _ _ h => h
        case hy21_3 => exact Or.inl ⟨by rfl, by (intro w hSw; go_simp; try with_reducible rfl)⟩
        try simp only [Act.put, List.setIfInBounds_toArray, List.set_cons_zero, List.set_cons_succ]
        refine wpAnyH_take (i := 22) (oi := ?oi22_3) (v := ?v22_3) ?ho22_3 (by kernel_rfl) (by kernel_rfl) (by kernel_rfl) ?hQ22_3 ?hy22_3 hHeld ?hr22_3
        case ho22_3 => simp only [List.getElem?_toArray, List.getElem?_cons_succ, List.getElem?_cons_zero]; rfl
        case hQ22_3 => exact fun _ _ _ h => h
        case hy22_3 => exact Or.inl ⟨by rfl, by (intro w hSw; go_simp; try with_reducible rfl)⟩
        try simp only [Act.put, List.setIfInBounds_toArray, List.set_cons_zero, List.set_cons_succ]
        refine wpAnyH_take (i := 23) (oi := ?oi23_3) (v := ?v23_3) ?ho23_3 (by kernel_rfl) (by kernel_rfl) (by kernel_rfl) ?hQ23_3 ?hy23_3 hHeld ?hr23_3
        case ho23_3 => simp only [List.getElem?_toArray, List.getElem?_cons_succ, List.getElem?_cons_zero]; rfl
        case hQ23_3 => exact fun _ _ _ h => h
        case hy23_3 => exact Or.inl ⟨by rfl, by (intro w hSw; go_simp; try with_reducible rfl)⟩
        try simp only [Act.put, List.setIfInBounds_toArray, List.set_cons_zero, List.set_cons_succ]
        refine wpAnyH_done (by kernel_rfl) ?_ _
        go_wp2
        go_ret2
        exact ⟨_, _, rfl, Mine.nil, bel_trans A0 hb5⟩
      | true =>
        simp only [Bool.and_self, if_true]
        rw [lfT_len]
        have hd : ¬ (1 : Int) < nth (ads 1000001 gs N gn) q := by have h1 := of_decide_eq_true hD; have h2 := HLOW.out; omega
        clear hD HLOW
        go_enter Try.func34, Try.ntmps34
        go_wp2_with fail
        refine wp_region_held_drew (S := (fun W => W.cell? ⟨w.heap.size, 0, none⟩ = some (.int .i64 p) ∧ W.cell? ⟨w.heap.size, 1, none⟩ = some (.int .i64 i0) ∧ W.cell? ⟨w.heap.size, 2, none⟩ = some (.int .i64 i1) ∧ W.cell? ⟨w.heap.size, 3, none⟩ = some (.slice ga gn gc) ∧ W.cell? ⟨w.heap.size, 4, none⟩ = some (.slice (some ⟨ob, oo, none⟩) on oc) ∧ W.cell? ⟨ob, oo + kk, none⟩ = some (.int .i64 q))) (by kernel_rfl) (by exact ⟨c0, c1, c2, c3, c4, co⟩) (fun hHeld => ?_)
        refine wpAnyH_take (i := 0) (oi := ?oi0_4) (v := ?v0_4) ?ho0_4 (by kernel_rfl) (by kernel_rfl) (by kernel_rfl) ?hQ0_4 ?hy0_4 hHeld ?hr0_4
        case ho0_4 => simp only [List.getElem?_toArray, List.getElem?_cons_succ, List.getElem?_cons_zero]; rfl
        case hQ0_4 => exact fun _ _ _ h => h
        case hy0_4 => exact Or.inl ⟨by rfl, by (intro w hSw; go_simp; try with_reducible rfl)⟩
        try simp only [Act.put, List.setIfInBounds_toArray, List.set_cons_zero, List.set_cons_succ]
        refine wpAnyH_ready (rs := [1]) (by kernel_rfl) (by simp) ?_
        refine AllReadyH.cons (o := ?o1_4) ?ho1_4 (fun K hK => ?hs1_4) AllReadyH.nil
        case ho1_4 => simp only [List.getElem?_toArray, List.getElem?_cons_succ, List.getElem?_cons_zero]; rfl
        go_simp
        (go_at_call 89; refine (i_IsArith _ _ _ _ _ _ gs _ _ _ os _ (HH.out.below (bel_drew _))).mono ?_; rintro e w1 ⟨rfl, hb1⟩; rw [hAK]; have hb3 := bel_trans (bel_drew _) hb1; have c0 := cell_on c0 hb3; have c1 := cell_on c1 hb3; have c2 := cell_on c2 hb3; have c3 := cell_on c3 hb3; have c4 := cell_on c4 hb3; have co := cell_on co hb3)
        refine hK.out _ _ ?hS1_4 (fun hHeld => ?hr1_4)
        case hS1_4 => exact ⟨c0, c1, c2, c3, c4, co⟩
        clear hK K
        try simp only [Act.put, List.setIfInBounds_toArray, List.set_cons_zero, List.set_cons_succ]
        refine wpAnyH_take (i := 2) (oi := ?oi2_4) (v := ?v2_4) ?ho2_4 (by kernel_rfl) (by kernel_rfl) (by kernel_rfl) ?hQ2_4 ?hy2_4 hHeld ?hr2_4
        case ho2_4 => simp only [List.getElem?_toArray, List.getElem?_cons_succ, List.getElem?_cons_zero]; rfl
        case hQ2_4 => exact fun _ _ _ h => h
        case hy2_4 => exact Or.inl ⟨by rfl, by (intro w hSw; go_simp; try with_reducible rfl)⟩
        try simp only [Act.put, List.setIfInBounds_toArray, List.set_cons_zero, List.set_cons_succ]
        refine wpAnyH_take (i := 3) (oi := ?oi3_4) (v := ?v3_4) ?ho3_4 (by kernel_rfl) (by kernel_rfl) (by kernel_rfl) ?hQ3_4 ?hy3_4 hHeld ?hr3_4
        case ho3_4 => simp only [List.getElem?_toArray, List.getElem?_cons_succ, List.getElem?_cons_zero]; rfl
        case hQ3_4 => exact fun _ _ _ h => h
        case hy3_4 => exact Or.inl ⟨by rfl, by (intro w hSw; go_simp; try with_reducible rfl)⟩
        try simp only [Act.put, List.setIfInBounds_toArray, List.set_cons_zero, List.set_cons_succ]
        refine wpAnyH_take (i := 4) (oi := ?oi4_4) (v := ?v4_4) ?ho4_4 (by kernel_rfl) (by kernel_rfl) (by kernel_rfl) ?hQ4_4 ?hy4_4 hHeld ?hr4_4
        case ho4_4 => simp only [List.getElem?_toArray, List.getElem?_cons_succ, List.getElem?_cons_zero]; rfl
        case hQ4_4 => exact fun _ _ _ h => h
        case hy4_4 => exact Or.inl ⟨by rfl, by (intro w hSw; go_simp; try with_reducible rfl)⟩
        try simp only [Act.put, List.setIfInBounds_toArray, List.set_cons_zero, List.set_cons_succ]
        refine wpAnyH_take (i := 5) (oi := ?oi5_4) (v := ?v5_4) ?ho5_4 (by kernel_rfl) (by kernel_rfl) (by kernel_rfl) ?hQ5_4 ?hy5_4 hHeld ?hr5_4
        case ho5_4 => simp only [List.getElem?_toArray, List.getElem?_cons_succ, List.getElem?_cons_zero]; rfl
        case hQ5_4 => exact fun _ _ _ h => h
        case hy5_4 => exact Or.inl ⟨by rfl, by (intro w hSw; go_simp; try with_reducible rfl)⟩
        try simp only [Act.put, List.setIfInBounds_toArray, List.set_cons_zero, List.set_cons_succ]
        refine wpAnyH_take (i := 6) (oi := ?oi6_4) (v := ?v6_4) ?ho6_4 (by kernel_rfl) (by kernel_rfl) (by kernel_rfl) ?hQ6_4 ?hy6_4 hHeld ?hr6_4
        case ho6_4 => simp only [List.getElem?_toArray, List.getElem?_cons_succ, List.getElem?_cons_zero]; rfl
        case hQ6_4 => exact fun _ _ _ h => h
        case hy6_4 => exact Or.inl ⟨by rfl, by (intro w hSw; go_simp; try with_reducible rfl)⟩
        try simp only [Act.put, List.setIfInBounds_toArray, List.set_cons_zero, List.set_cons_succ]
        refine wpAnyH_take (i := 7) (oi := ?oi7_4) (v := ?v7_4) ?ho7_4 (by kernel_rfl) (by kernel_rfl) (by kernel_rfl) ?hQ7_4 ?hy7_4 hHeld ?hr7_4
        case ho7_4 => simp only [List.getElem?_toArray, List.getElem?_cons_succ, List.getElem?_cons_zero]; rfl
        case hQ7_4 => exact fun _ _ _ h => h
        case hy7_4 => exact Or.inl ⟨by rfl, by (intro w hSw; go_simp; try with_reducible rfl)⟩
        try simp only [Act.put, List.setIfInBounds_toArray, List.set_cons_zero, List.set_cons_succ]
        refine wpAnyH_take (i := 8) (oi := ?oi8_4) (v := ?v8_4) ?ho8_4 (by kernel_rfl) (by kernel_rfl) (by kernel_rfl) ?hQ8_4 ?hy8_4 hHeld ?hr8_4
        case ho8_4 => simp only [List.getElem?_toArray, List.getElem?_cons_succ, List.getElem?_cons_zero]; rfl
        case hQ8_4 => exact fun _ _ _ h => h
        case hy8_4 => exact Or.inl ⟨by rfl, by (intro w hSw; go_simp; try with_reducible rfl)⟩
        try simp only [Act.put, List.setIfInBounds_toArray, List.set_cons_zero, List.set_cons_succ]
        refine wpAnyH_ready (rs := [9]) (by kernel_rfl) (by simp) ?_
        refine AllReadyH.cons (o := ?o9_4) ?ho9_4 (fun K hK => ?hs9_4) AllReadyH.nil
        case ho9_4 => simp only [List.getElem?_toArray, List.getElem?_cons_succ, List.getElem?_cons_zero]; rfl
        go_simp
        (go_at_call 64; refine (i_within _ _ _ _).mono ?_; rintro e w2 ⟨rfl, rfl⟩)
        refine hK.out _ _ ?hS9_4 (fun hHeld => ?hr9_4)
        case hS9_4 => exact ⟨c0, c1, c2, c3, c4, co⟩
        clear hK K
        try simp only [Act.put, List.setIfInBounds_toArray, List.set_cons_zero, List.set_cons_succ]
        refine wpAnyH_take (i := 10) (oi := ?oi10_4) (v := ?v10_4) ?ho10_4 (by kernel_rfl) (by kernel_rfl) (by kernel_rfl) ?hQ10_4 ?hy10_4 hHeld ?hr10_4
        case ho10_4 => simp only [List.getElem?_toArray, List.getElem?_cons_succ, List.getElem?_cons_zero]; rfl
        case hQ10_4 => exact fun _ _ _ h => h
        case hy10_4 => exact Or.inl ⟨by rfl, by (intro w hSw; go_simp; try with_reducible rfl)⟩
        try simp only [Act.put, List.setIfInBounds_toArray, List.set_cons_zero, List.set_cons_succ]
        refine wpAnyH_take (i := 11) (oi := ?oi11_4) (v := ?v11_4) ?ho11_4 (by kernel_rfl) (by kernel_rfl) (by kernel_rfl) ?hQ11_4 ?hy11_4 hHeld ?hr11_4
        case ho11_4 => simp only [List.getElem?_toArray, List.getElem?_cons_succ, List.getElem?_cons_zero]; rfl
        case hQ11_4 => exact fun _ _ _ h => h
        case hy11_4 => exact Or.inl ⟨by rfl, by (intro w hSw; go_simp; try with_reducible rfl)⟩
        try simp only [Act.put, List.setIfInBounds_toArray, List.set_cons_zero, List.set_cons_succ]
        refine wpAnyH_take (i := 12) (oi := ?oi12_4) (v := ?v12_4) ?ho12_4 (by kernel_rfl) (by kernel_rfl) (by kernel_rfl) ?hQ12_4 ?hy12_4 hHeld ?hr12_4
        case ho12_4 => simp only [List.getElem?_toArray, List.getElem?_cons_succ, List.getElem?_cons_zero]; rfl
        case hQ12_4 => exact fun _ _ _ h => h
        case hy12_4 => exact Or.inl ⟨by rfl, by (intro w hSw; go_simp; try with_reducible rfl)⟩
        try simp only [Act.put, List.setIfInBounds_toArray, List.set_cons_zero, List.set_cons_succ]
        refine wpAnyH_take (i := 13) (oi := ?oi13_4) (v := ?v13_4) ?ho13_4 (by kernel_rfl) (by kernel_rfl) (by kernel_rfl) ?hQ13_4 ?hy13_4 hHeld ?hr13_4
        case ho13_4 => simp only [List.getElem?_toArray, List.getElem?_cons_succ, List.getElem?_cons_zero]; rfl
        case hQ13_4 => exact fun _ _ _ h => h
        case hy13_4 => exact Or.inl ⟨by rfl, by (intro w hSw; go_simp; try with_reducible rfl)⟩
        try simp only [Act.put, List.setIfInBounds_toArray, List.set_cons_zero, List.set_cons_succ]
        refine wpAnyH_take (i := 15) (oi := ?oi15_4) (v := ?v15_4) ?ho15_4 (by kernel_rfl) (by kernel_rfl) (by kernel_rfl) ?hQ15_4 ?hy15_4 hHeld ?hr15_4
        case ho15_4 => simp only [List.getElem?_toArray, List.getElem?_cons_succ, List.getElem?_cons_zero]; rfl
        case hQ15_4 => exact fun _ _ _ h => h
        case hy15_4 => exact Or.inl ⟨by rfl, by (intro w hSw; go_simp; try with_reducible rfl)⟩
        try simp only [Act.put, List.setIfInBounds_toArray, List.set_cons_zero, List.set_cons_succ]
        refine wpAnyH_take (i := 16) (oi := ?oi16_4) (v := ?v16_4) ?ho16_4 (by kernel_rfl) (by kernel_rfl) (by kernel_rfl) ?hQ16_4 ?hy16_4 hHeld ?hr16_4
        case ho16_4 => simp only [List.getElem?_toArray, List.getElem?_cons_succ, List.getElem?_cons_zero]; rfl
        case hQ16_4 => exact fun _ _ _ h => h
        case hy16_4 => exact Or.inl ⟨by rfl, by (intro w hSw; go_simp; try with_reducible rfl)⟩
        try simp only [Act.put, List.setIfInBounds_toArray, List.set_cons_zero, List.set_cons_succ]
        refine wpAnyH_take (i := 17) (oi := ?oi17_4) (v := ?v17_4) ?ho17_4 (by kernel_rfl) (by kernel_rfl) (by kernel_rfl) ?hQ17_4 ?hy17_4 hHeld ?hr17_4
        case ho17_4 => simp only [List.getElem?_toArray, List.getElem?_cons_succ, List.getElem?_cons_zero]; rfl
        case hQ17_4 => exact fun _ _ _ h => h
        case hy17_4 => exact Or.inl ⟨by rfl, by (intro w hSw; go_simp; try with_reducible rfl)⟩
        try simp only [Act.put, List.setIfInBounds_toArray, List.set_cons_zero, List.set_cons_succ]
        refine wpAnyH_take (i := 18) (oi := ?oi18_4) (v := ?v18_4) ?ho18_4 (by kernel_rfl) (by kernel_rfl) (by kernel_rfl) ?hQ18_4 ?hy18_4 hHeld ?hr18_4
        case ho18_4 => simp only [List.getElem?_toArray, List.getElem?_cons_succ, List.getElem?_cons_zero]; rfl
        case hQ18_4 => exact fun _ _ _ h => h
        case hy18_4 => exact Or.inl ⟨by rfl, by (intro w hSw; go_simp; try with_reducible rfl)⟩
        try simp only [Act.put, List.setIfInBounds_toArray, List.set_cons_zero, List.set_cons_succ]
        refine wpAnyH_take (i := 19) (oi := ?oi19_4) (v := ?v19_4) ?ho19_4 (by kernel_rfl) (by kernel_rfl) (by kernel_rfl) ?hQ19_4 ?hy19_4 hHeld ?hr19_4
        case ho19_4 => simp only [List.getElem?_toArray, List.getElem?_cons_succ, List.getElem?_cons_zero]; rfl
        case hQ19_4 => exact fun _ _ _ h => h
        case hy19_4 => exact Or.inl ⟨by rfl, by (intro w hSw; go_simp; try with_reducible rfl)⟩
        try simp only [Act.put, List.setIfInBounds_toArray, List.set_cons_zero, List.set_cons_succ]
        refine wpAnyH_ready (rs := [14]) (by kernel_rfl) (by simp) ?_
        refine AllReadyH.cons (o := ?o14_4) ?ho14_4 (fun K hK => ?hs14_4) AllReadyH.nil
        case ho14_4 => simp only [List.getElem?_toArray, List.getElem?_cons_succ, List.getElem?_cons_zero]; rfl
        go_simp
        (go_at_call 90; refine (i_degrees _ _ _ _ _ _ gs _ _ _ os N _ (HH.out.below hb3) HGT ⟨h01, h02⟩ ⟨h11, h12⟩ hN (by omega)).mono ?_; rintro e w4 ⟨r4, k4, rfl, m4, hb4⟩; have hb5 := bel_trans hb3 hb4; have c0 := cell_on c0 hb4; have c1 := cell_on c1 hb4; have c2 := cell_on c2 hb4; have c3 := cell_on c3 hb4; have c4 := cell_on c4 hb4; have co := cell_on co hb4; obtain ⟨db, dof, rfl, dl, dc⟩ := m4.ints.at (i := q) hq)
        refine hK.out _ _ ?hS14_4 (fun hHeld => ?hr14_4)
        case hS14_4 => exact ⟨c0, c1, c2, c3, c4, co⟩
        clear hK K
        try simp only [Act.put, List.setIfInBounds_toArray, List.set_cons_zero, List.set_cons_succ]
        refine wpAnyH_mono (S' := (fun W : World => W.cell? ⟨w.heap.size, 0, none⟩ = some (.int .i64 p) ∧ W.cell? ⟨w.heap.size, 1, none⟩ = some (.int .i64 i0) ∧ W.cell? ⟨w.heap.size, 2, none⟩ = some (.int .i64 i1) ∧ W.cell? ⟨w.heap.size, 3, none⟩ = some (.slice ga gn gc) ∧ W.cell? ⟨w.heap.size, 4, none⟩ = some (.slice (some ⟨ob, oo, none⟩) on oc) ∧ W.cell? ⟨ob, oo + kk, none⟩ = some (.int .i64 q) ∧ W.cell? ⟨db, dof + q, none⟩ = some (.int .i64 (nth (ads 1000001 gs N gn) q)))) (fun _ h => ⟨h.1, h.2.1, h.2.2.1, h.2.2.2.1, h.2.2.2.2.1, h.2.2.2.2.2.1⟩) _ _ _ _ ?_
        replace hHeld := (show ((fun W : World => W.cell? ⟨w.heap.size, 0, none⟩ = some (.int .i64 p) ∧ W.cell? ⟨w.heap.size, 1, none⟩ = some (.int .i64 i0) ∧ W.cell? ⟨w.heap.size, 2, none⟩ = some (.int .i64 i1) ∧ W.cell? ⟨w.heap.size, 3, none⟩ = some (.slice ga gn gc) ∧ W.cell? ⟨w.heap.size, 4, none⟩ = some (.slice (some ⟨ob, oo, none⟩) on oc) ∧ W.cell? ⟨ob, oo + kk, none⟩ = some (.int .i64 q) ∧ W.cell? ⟨db, dof + q, none⟩ = some (.int .i64 (nth (ads 1000001 gs N gn) q)))) _ from (by exact ⟨c0, c1, c2, c3, c4, co, dc⟩))
        refine wpAnyH_take (i := 20) (oi := ?oi20_4) (v := ?v20_4) ?ho20_4 (by kernel_rfl) (by kernel_rfl) (by kernel_rfl) ?hQ20_4 ?hy20_4 hHeld ?hr20_4
        case ho20_4 => simp only [List.getElem?_toArray, List.getElem?_cons_succ, List.getElem?_cons_zero]; rfl
        case hQ20_4 => exact fun _ _ _ h => h
        case hy20_4 => exact Or.inl ⟨by rfl, by (intro w hSw; go_simp; try with_reducible rfl)⟩
        try simp only [Act.put, List.setIfInBounds_toArray, List.set_cons_zero, List.set_cons_succ]
        refine wpAnyH_take (i := 21) (oi := ?oi21_4) (v := ?v21_4) ?ho21_4 (by kernel_rfl) (by kernel_rfl) (by kernel_rfl) ?hQ21_4 ?hy21_4 hHeld ?hr21_4
        case ho21_4 => simp only [List.getElem?_toArray, List.getElem?_cons_succ, List.getElem?_cons_zero]; rfl
        case hQ21_4 => exact fun _ _ _ h => h
        case hy21_4 => exact Or.inl ⟨by rfl, by (intro w hSw; go_simp; try with_reducible rfl)⟩
        try simp only [Act.put, List.setIfInBounds_toArray, List.set_cons_zero, List.set_cons_succ]
        refine wpAnyH_take (i := 22) (oi := ?oi22_4) (v := ?v22_4) ?ho22_4 (by kernel_rfl) (by kernel_rfl) (by kernel_rfl) ?hQ22_4 ?hy22_4 hHeld ?hr22_4
        case ho22_4 => simp only [List.getElem?_toArray, List.getElem?_cons_succ, List.getElem?_cons_zero]; rfl
        case hQ22_4 => exact fun _ _ _ h => h
        case hy22_4 => exact Or.inl ⟨by rfl, by (intro w hSw; go_simp; try with_reducible rfl)⟩
        try simp only [Act.put, List.setIfInBounds_toArray, List.set_cons_zero, List.set_cons_succ]
        refine wpAnyH_take (i := 23) (oi := ?oi23_4) (v := ?v23_4) ?ho23_4 (by kernel_rfl) (by kernel_rfl) (by kernel_rfl) ?hQ23_4 ?hy23_4 hHeld ?hr23_4
        case ho23_4 => simp only [List.getElem?_toArray, List.getElem?_cons_succ, List.getElem?_cons_zero]; rfl
        case hQ23_4 => exact fun _ _ _ h => h
        case hy23_4 => exact Or.inl ⟨by rfl, by (intro w hSw; go_simp; try with_reducible rfl)⟩
        try simp only [Act.put, List.setIfInBounds_toArray, List.set_cons_zero, List.set_cons_succ]
        refine wpAnyH_done (by kernel_rfl) ?_ _
        clear dc dl m4
        go_wp2_with fail
        refine (i_arInputs p i0 i1 _ _ _ _ _ _ _ ⟨by omega, by omega⟩ ⟨by omega, by omega⟩).mono ?_; rintro e w5 ⟨rfl, hb6⟩; rw [hN]
        replace c0 := cell_on c0 hb6; replace c1 := cell_on c1 hb6; replace c2 := cell_on c2 hb6; replace c3 := cell_on c3 hb6; replace c4 := cell_on c4 hb6; replace co := cell_on co hb6
        have hb06 := bel_trans hb5 hb6
        have zy := hb06.size
        rw [zz] at zy
        go_wp2_with (at_make; refine wpList_make_full _ rfl _ _ 24 rfl (w.heap.size + 1) 3 i00 (.int .i64 0) 1 Try.underlying24 hi hz0 hz1 _ _ _ _ N rfl rfl rfl rfl ?b1 ?b2 ?b3 ?_)
        case b1 => rw [hz2]; omega
        case b2 => unfold maxLen; omega
        case b3 => exact zy
        intro w6 hown hgrow
        have hb7 : Below w5.heap.size w5 w6 := (Below.refl _ _).grown hgrow (Nat.le_refl _) (fun k hk => by cases hk)
        try simp only [Nat.mul_one, Value.cells] at hown
        rw [made_ivs] at hown
        have hrow := row_of_owns hown
        have hi6 := OwnI.ofRow (n := N) hrow (by simp) (by omega) (fun x hx => by rw [List.eq_of_mem_replicate hx]; unfold Fits; omega)
        have zi : w5.heap.size < w6.heap.size := by
          rcases Nat.lt_or_ge w5.heap.size w6.heap.size with z | z
          · exact z
          · rw [Array.getElem?_eq_none z] at hrow; cases hrow
        replace c0 := cell_on c0 hb7; replace c1 := cell_on c1 hb7; replace c2 := cell_on c2 hb7; replace c3 := cell_on c3 hb7; replace c4 := cell_on c4 hb7; replace co := cell_on co hb7
        have hb07 := bel_trans hb06 hb7
        have HI6 := Lib.hid hi6
        have HR6 := Lib.hid hrow
        have HH6 := Lib.hid (HH.out.below hb07)
        have HZ : Hid (∀ x ∈ List.replicate N (0 : Int), 0 ≤ x ∧ x < p) := zeros_bd hp1 N
        clear hown hgrow hi hz0 hz1 hz2 hi6 hrow hb7 hb06
        go_wp2_with fail
        refine wp_region_held_drew (S := (fun W => W.cell? ⟨w.heap.size, 0, none⟩ = some (.int .i64 p) ∧ W.cell? ⟨w.heap.size, 1, none⟩ = some (.int .i64 i0) ∧ W.cell? ⟨w.heap.size, 2, none⟩ = some (.int .i64 i1) ∧ W.cell? ⟨w.heap.size, 3, none⟩ = some (.slice ga gn gc) ∧ W.cell? ⟨w.heap.size, 4, none⟩ = some (.slice (some ⟨ob, oo, none⟩) on oc) ∧ W.cell? ⟨ob, oo + kk, none⟩ = some (.int .i64 q))) (by kernel_rfl) (by exact ⟨c0, c1, c2, c3, c4, co⟩) (fun hHeld => ?_)
        refine wpAnyH_take (i := 0) (oi := ?oi0_5) (v := ?v0_5) ?ho0_5 (by kernel_rfl) (by kernel_rfl) (by kernel_rfl) ?hQ0_5 ?hy0_5 hHeld ?hr0_5
        case ho0_5 => simp only [List.getElem?_toArray, List.getElem?_cons_succ, List.getElem?_cons_zero]; rfl
        case hQ0_5 => exact fun _ _ _ h => h
        case hy0_5 => exact Or.inl ⟨by rfl, by (intro w hSw; go_simp; try with_reducible rfl)⟩
        try simp only [Act.put, List.setIfInBounds_toArray, List.set_cons_zero, List.set_cons_succ]
        refine wpAnyH_take (i := 1) (oi := ?oi1_5) (v := ?v1_5) ?ho1_5 (by kernel_rfl) (by kernel_rfl) (by kernel_rfl) ?hQ1_5 ?hy1_5 hHeld ?hr1_5
        case ho1_5 => simp only [List.getElem?_toArray, List.getElem?_cons_succ, List.getElem?_cons_zero]; rfl
        case hQ1_5 => exact fun _ _ _ h => h
        case hy1_5 => exact Or.inl ⟨by rfl, by (intro w hSw; go_simp; try with_reducible rfl)⟩
        try simp only [Act.put, List.setIfInBounds_toArray, List.set_cons_zero, List.set_cons_succ]
        refine wpAnyH_take (i := 3) (oi := ?oi3_5) (v := ?v3_5) ?ho3_5 (by kernel_rfl) (by kernel_rfl) (by kernel_rfl) ?hQ3_5 ?hy3_5 hHeld ?hr3_5
        case ho3_5 => simp only [List.getElem?_toArray, List.getElem?_cons_succ, List.getElem?_cons_zero]; rfl
        case hQ3_5 => exact fun _ _ _ h => h
        case hy3_5 => exact Or.inl ⟨by rfl, by (intro w hSw; go_simp; try with_reducible rfl)⟩
        try simp only [Act.put, List.setIfInBounds_toArray, List.set_cons_zero, List.set_cons_succ]
        refine wpAnyH_take (i := 4) (oi := ?oi4_5) (v := ?v4_5) ?ho4_5 (by kernel_rfl) (by kernel_rfl) (by kernel_rfl) ?hQ4_5 ?hy4_5 hHeld ?hr4_5
        case ho4_5 => simp only [List.getElem?_toArray, List.getElem?_cons_succ, List.getElem?_cons_zero]; rfl
        case hQ4_5 => exact fun _ _ _ h => h
        case hy4_5 => exact Or.inl ⟨by rfl, by (intro w hSw; go_simp; try with_reducible rfl)⟩
        try simp only [Act.put, List.setIfInBounds_toArray, List.set_cons_zero, List.set_cons_succ]
        refine wpAnyH_take (i := 5) (oi := ?oi5_5) (v := ?v5_5) ?ho5_5 (by kernel_rfl) (by kernel_rfl) (by kernel_rfl) ?hQ5_5 ?hy5_5 hHeld ?hr5_5
        case ho5_5 => simp only [List.getElem?_toArray, List.getElem?_cons_succ, List.getElem?_cons_zero]; rfl
        case hQ5_5 => exact fun _ _ _ h => h
        case hy5_5 => exact Or.inl ⟨by rfl, by (intro w hSw; go_simp; try with_reducible rfl)⟩
        try simp only [Act.put, List.setIfInBounds_toArray, List.set_cons_zero, List.set_cons_succ]
        refine wpAnyH_take (i := 6) (oi := ?oi6_5) (v := ?v6_5) ?ho6_5 (by kernel_rfl) (by kernel_rfl) (by kernel_rfl) ?hQ6_5 ?hy6_5 hHeld ?hr6_5
        case ho6_5 => simp only [List.getElem?_toArray, List.getElem?_cons_succ, List.getElem?_cons_zero]; rfl
        case hQ6_5 => exact fun _ _ _ h => h
        case hy6_5 => exact Or.inl ⟨by rfl, by (intro w hSw; go_simp; try with_reducible rfl)⟩
        try simp only [Act.put, List.setIfInBounds_toArray, List.set_cons_zero, List.set_cons_succ]
        refine wpAnyH_take (i := 7) (oi := ?oi7_5) (v := ?v7_5) ?ho7_5 (by kernel_rfl) (by kernel_rfl) (by kernel_rfl) ?hQ7_5 ?hy7_5 hHeld ?hr7_5
        case ho7_5 => simp only [List.getElem?_toArray, List.getElem?_cons_succ, List.getElem?_cons_zero]; rfl
        case hQ7_5 => exact fun _ _ _ h => h
        case hy7_5 => exact Or.inl ⟨by rfl, by (intro w hSw; go_simp; try with_reducible rfl)⟩
        try simp only [Act.put, List.setIfInBounds_toArray, List.set_cons_zero, List.set_cons_succ]
        refine wpAnyH_ready (rs := [2]) (by kernel_rfl) (by simp) ?_
        refine AllReadyH.cons (o := ?o2_5) ?ho2_5 (fun K hK => ?hs2_5) AllReadyH.nil
        case ho2_5 => simp only [List.getElem?_toArray, List.getElem?_cons_succ, List.getElem?_cons_zero]; rfl
        go_simp
        (go_at_call 92; refine (i_arValues _ _ _ _ _ _ gs _ _ _ os _ _ _ _ _ (HH6.out.below (bel_drew _)) (HI6.out.ints.below (bel_drew _)) HGT HZ ⟨hp1, hp2⟩ (by omega)).mono ?_; rintro e w7 ⟨r7, k7, rfl, m7, hb8⟩; have hb9 := bel_trans (bel_drew _) hb8; have c0 := cell_on c0 hb9; have c1 := cell_on c1 hb9; have c2 := cell_on c2 hb9; have c3 := cell_on c3 hb9; have c4 := cell_on c4 hb9; have co := cell_on co hb9; obtain ⟨vb, vo, rfl, vl, vc⟩ := m7.ints.at (i := q) hq)
        refine hK.out _ _ ?hS2_5 (fun hHeld => ?hr2_5)
        case hS2_5 => exact ⟨c0, c1, c2, c3, c4, co⟩
        clear hK K
        try simp only [Act.put, List.setIfInBounds_toArray, List.set_cons_zero, List.set_cons_succ]
        refine wpAnyH_mono (S' := (fun W : World => W.cell? ⟨w.heap.size, 0, none⟩ = some (.int .i64 p) ∧ W.cell? ⟨w.heap.size, 1, none⟩ = some (.int .i64 i0) ∧ W.cell? ⟨w.heap.size, 2, none⟩ = some (.int .i64 i1) ∧ W.cell? ⟨w.heap.size, 3, none⟩ = some (.slice ga gn gc) ∧ W.cell? ⟨w.heap.size, 4, none⟩ = some (.slice (some ⟨ob, oo, none⟩) on oc) ∧ W.cell? ⟨ob, oo + kk, none⟩ = some (.int .i64 q) ∧ W.cell? ⟨vb, vo + q, none⟩ = some (.int .i64 (nth (avs p gs (List.replicate N 0) gn) q)))) (fun _ h => ⟨h.1, h.2.1, h.2.2.1, h.2.2.2.1, h.2.2.2.2.1, h.2.2.2.2.2.1⟩) _ _ _ _ ?_
        replace hHeld := (show ((fun W : World => W.cell? ⟨w.heap.size, 0, none⟩ = some (.int .i64 p) ∧ W.cell? ⟨w.heap.size, 1, none⟩ = some (.int .i64 i0) ∧ W.cell? ⟨w.heap.size, 2, none⟩ = some (.int .i64 i1) ∧ W.cell? ⟨w.heap.size, 3, none⟩ = some (.slice ga gn gc) ∧ W.cell? ⟨w.heap.size, 4, none⟩ = some (.slice (some ⟨ob, oo, none⟩) on oc) ∧ W.cell? ⟨ob, oo + kk, none⟩ = some (.int .i64 q) ∧ W.cell? ⟨vb, vo + q, none⟩ = some (.int .i64 (nth (avs p gs (List.replicate N 0) gn) q)))) _ from (by exact ⟨c0, c1, c2, c3, c4, co, vc⟩))
        refine wpAnyH_take (i := 8) (oi := ?oi8_5) (v := ?v8_5) ?ho8_5 (by kernel_rfl) (by kernel_rfl) (by kernel_rfl) ?hQ8_5 ?hy8_5 hHeld ?hr8_5
        case ho8_5 => simp only [List.getElem?_toArray, List.getElem?_cons_succ, List.getElem?_cons_zero]; rfl
        case hQ8_5 => exact fun _ _ _ h => h
        case hy8_5 => exact Or.inl ⟨by rfl, by (intro w hSw; go_simp; try with_reducible rfl)⟩
        try simp only [Act.put, List.setIfInBounds_toArray, List.set_cons_zero, List.set_cons_succ]
        refine wpAnyH_take (i := 9) (oi := ?oi9_5) (v := ?v9_5) ?ho9_5 (by kernel_rfl) (by kernel_rfl) (by kernel_rfl) ?hQ9_5 ?hy9_5 hHeld ?hr9_5
        case ho9_5 => simp only [List.getElem?_toArray, List.getElem?_cons_succ, List.getElem?_cons_zero]; rfl
        case hQ9_5 => exact fun _ _ _ h => h
        case hy9_5 => exact Or.inl ⟨by rfl, by (intro w hSw; go_simp; try with_reducible rfl)⟩
        try simp only [Act.put, List.setIfInBounds_toArray, List.set_cons_zero, List.set_cons_succ]
        refine wpAnyH_take (i := 10) (oi := ?oi10_5) (v := ?v10_5) ?ho10_5 (by kernel_rfl) (by kernel_rfl) (by kernel_rfl) ?hQ10_5 ?hy10_5 hHeld ?hr10_5
        case ho10_5 => simp only [List.getElem?_toArray, List.getElem?_cons_succ, List.getElem?_cons_zero]; rfl
        case hQ10_5 => exact fun _ _ _ h => h
        case hy10_5 => exact Or.inl ⟨by rfl, by (intro w hSw; go_simp; try with_reducible rfl)⟩
        try simp only [Act.put, List.setIfInBounds_toArray, List.set_cons_zero, List.set_cons_succ]
        refine wpAnyH_done (by kernel_rfl) ?_ _
        have HC0 := Lib.hid (nth_bd (by omega) (avs_res hp1 gs _ HZ.out gn) q)
        have HB7 := Lib.hid (bel_trans (bel_trans A0 hb07) hb9)
        have HX7 : Hid (B5 w7 w.heap.size (.int .i64 p) (.int .i64 i0) (.int .i64 i1) (.slice ga gn gc) (.slice (some ⟨ob, oo, none⟩) on oc)) := ⟨c0, c1, c2, c3, c4⟩
        have HR7 := Lib.hid (heap_of_below hb9 HR6.out)
        have HZ7 := hb9.size
        clear HR6 HI6 HH6 vc m7 hb9 hb8 hb07 c0 c1 c2 c3 c4 vl
        have HT0 : Hid (lfT p gs N gn q 0 = [nth (avs p gs (List.replicate N 0) gn) q]) := rfl
        have HTS : Hid (∀ j, lfT p gs N gn q (j + 1) = lfT p gs N gn q j ++ [(nth (avs p gs ((List.replicate N 0).set j 1) gn) q - nth (avs p gs (List.replicate N 0) gn) q) % p]) := fun j => rfl
        have HTB : Hid (∀ x ∈ lfT p gs N gn q N, Fits x) := fun x hx => by have := lfT_bd hp1 gs N gn q N x hx; unfold Fits; omega
        generalize nth (avs p gs (List.replicate N 0) gn) q = C0 at *
        obtain ⟨hC1, hC2⟩ := HC0.out
        have HL := Lib.hid (World.ownsRow_lit (base := w7.heap.size) (e := 3) (size := 1) w7 #[.int .i64 C0] 1 (Nat.le_refl _) (by decide) rfl)
        have HLB := Lib.hid (bel_alloc w7 (.cells #[.int .i64 C0] 3))
        go_wp2
        go_loopw [8, 51] (fun v  i wr => ∃ j : Nat, j ≤ N ∧ i = .int .i64 j ∧ Hid (wr.ownsRow w7.heap.size 3 1 v (j + 1) (ivs (lfT p gs N gn q j))) ∧ Hid (Below w.heap.size w wr) ∧ Hid (wr.heap[w5.heap.size]? = some (.cells (ivs (List.replicate N 0)).toArray 3 (0, 0))) ∧ Hid (B5 wr w.heap.size (.int .i64 p) (.int .i64 i0) (.int .i64 i1) (.slice ga gn gc) (.slice (some ⟨ob, oo, none⟩) on oc)) ∧ Hid (w7.heap.size ≤ wr.heap.size)) (fun _ i _ => N - (intOf i).toNat)
        case atStart => exact ⟨0, by omega, rfl, by rw [HT0.out]; exact HL.out, bel_trans HB7.out HLB.out, heap_of_below HLB.out HR7.out, HX7.out.on HLB.out, HLB.out.size⟩
        case round =>
          clear HL HLB HX7 HR7 HB7 HT0 co
          obtain ⟨j, hj, rfl, HO, HB, HR, HX, HZS⟩ := hrel
          have z5 := HZS.out
          by_cases hlj : j < N
          · have hlji : (j : Int) < (N : Int) := by omega
            have hIW := OwnI.ofRow (n := N) HR.out (by simp) (by omega) (fun x hx => by rw [List.eq_of_mem_replicate hx]; unfold Fits; omega)
            obtain ⟨g, e, _, hgl, hcA, hfA⟩ := hIW.at hlj
            simp only [Option.some.injEq, Addr.mk.injEq] at e
            obtain ⟨rfl, _, _⟩ := e
            have hI1 := hIW.set hlj 1 (by unfold Fits; omega)
            have HI1 := Lib.hid hI1
            have HR1 := Lib.hid (row_of_owns hI1.own)
            have HO1 := Lib.hid (ownsRow_else HO.out (p := ⟨w5.heap.size, j, none⟩) (by show w5.heap.size < w7.heap.size; omega) (.int .i64 1))
            have HB1 := Lib.hid (HB.out.setCell (p := ⟨w5.heap.size, j, none⟩) (by show w.heap.size ≤ w5.heap.size; omega) (.int .i64 1))
            have HX1 := Lib.hid (HX.out.other (p := ⟨w5.heap.size, j, none⟩) (by show w5.heap.size ≠ w.heap.size; omega) (.int .i64 1))
            have HS1 : Hid (w7.heap.size ≤ (wr.setCell ⟨w5.heap.size, j, none⟩ (.int .i64 1)).heap.size) := by show _ ≤ _; simpa [World.setCell] using z5
            have hx := HX1.out
            obtain ⟨c0, c1, c2, c3, c4⟩ := hx
            have HH1 := Lib.hid (H0.out.below HB1.out)
            have HU1 : Hid (∀ x ∈ (List.replicate N (0 : Int)).set j 1, 0 ≤ x ∧ x < p) := unit_bd hp1 N j
            have HXB := nth_bd (by omega) (avs_res hp1 gs _ HU1.out gn) q
            have HS := Lib.hid (HTS.out j)
            obtain ⟨X, hX⟩ : ∃ X, X = nth (avs p gs ((List.replicate N 0).set j 1) gn) q := ⟨_, rfl⟩
            rw [← hX] at HS HXB
            have HXX := Lib.hid hX
            obtain ⟨hX1, hX2⟩ := HXB
            have e1 : IntKind.i64.wrap (X - C0) = X - C0 := IntWalk.i64_in _ (by omega)
            have e2 : IntKind.i64.wrap (X - C0 + p) = X - C0 + p := IntWalk.i64_in _ (by omega)
            have e3 : (X - C0 + p).tmod p = (X - C0) % p := by rw [Int.tmod_eq_emod_of_nonneg (by omega), Int.add_emod_right]
            have hp0 : ¬ p = 0 := by omega
            have co := cell_on H0co HB1.out
            have zw : w.heap.size < w7.heap.size := by omega
            have zo : ob < w7.heap.size := by omega
            have HLT := Lib.hid (fun g e => (ownLt HO1.out g e).2)
            clear hI1 hX
            go_wp2_with fail
            generalize wr.setCell ⟨w5.heap.size, j, none⟩ (.int .i64 1) = W6 at *
            go_wp2_with fail
            refine wp_region_held_drew (S := (fun W => W.cell? ⟨w.heap.size, 0, none⟩ = some (.int .i64 p) ∧ W.cell? ⟨w.heap.size, 1, none⟩ = some (.int .i64 i0) ∧ W.cell? ⟨w.heap.size, 2, none⟩ = some (.int .i64 i1) ∧ W.cell? ⟨w.heap.size, 3, none⟩ = some (.slice ga gn gc) ∧ W.cell? ⟨w.heap.size, 4, none⟩ = some (.slice (some ⟨ob, oo, none⟩) on oc) ∧ W.cell? ⟨ob, oo + kk, none⟩ = some (.int .i64 q))) (by kernel_rfl) (by exact ⟨c0, c1, c2, c3, c4, co⟩) (fun hHeld => ?_)
            refine wpAnyH_take (i := 0) (oi := ?oi0_6) (v := ?v0_6) ?ho0_6 (by kernel_rfl) (by kernel_rfl) (by kernel_rfl) ?hQ0_6 ?hy0_6 hHeld ?hr0_6
            case ho0_6 => simp only [List.getElem?_toArray, List.getElem?_cons_succ, List.getElem?_cons_zero]; rfl
            case hQ0_6 => exact fun _ _ _ h => h
            case hy0_6 => exact Or.inl ⟨by rfl, by (intro w hSw; go_simp; try with_reducible rfl)⟩
            try simp only [Act.put, List.setIfInBounds_toArray, List.set_cons_zero, List.set_cons_succ]
            refine wpAnyH_take (i := 1) (oi := ?oi1_6) (v := ?v1_6) ?ho1_6 (by kernel_rfl) (by kernel_rfl) (by kernel_rfl) ?hQ1_6 ?hy1_6 hHeld ?hr1_6
            case ho1_6 => simp only [List.getElem?_toArray, List.getElem?_cons_succ, List.getElem?_cons_zero]; rfl
            case hQ1_6 => exact fun _ _ _ h => h
            case hy1_6 => exact Or.inl ⟨by rfl, by (intro w hSw; go_simp; try with_reducible rfl)⟩
            try simp only [Act.put, List.setIfInBounds_toArray, List.set_cons_zero, List.set_cons_succ]
            refine wpAnyH_take (i := 2) (oi := ?oi2_6) (v := ?v2_6) ?ho2_6 (by kernel_rfl) (by kernel_rfl) (by kernel_rfl) ?hQ2_6 ?hy2_6 hHeld ?hr2_6
            case ho2_6 => simp only [List.getElem?_toArray, List.getElem?_cons_succ, List.getElem?_cons_zero]; rfl
            case hQ2_6 => exact fun _ _ _ h => h
            case hy2_6 => exact Or.inl ⟨by rfl, by (intro w hSw; go_simp; try with_reducible rfl)⟩
            try simp only [Act.put, List.setIfInBounds_toArray, List.set_cons_zero, List.set_cons_succ]
            refine wpAnyH_take (i := 4) (oi := ?oi4_6) (v := ?v4_6) ?ho4_6 (by kernel_rfl) (by kernel_rfl) (by kernel_rfl) ?hQ4_6 ?hy4_6 hHeld ?hr4_6
            case ho4_6 => simp only [List.getElem?_toArray, List.getElem?_cons_succ, List.getElem?_cons_zero]; rfl
            case hQ4_6 => exact fun _ _ _ h => h
            case hy4_6 => exact Or.inl ⟨by rfl, by (intro w hSw; go_simp; try with_reducible rfl)⟩
            try simp only [Act.put, List.setIfInBounds_toArray, List.set_cons_zero, List.set_cons_succ]
            refine wpAnyH_take (i := 5) (oi := ?oi5_6) (v := ?v5_6) ?ho5_6 (by kernel_rfl) (by kernel_rfl) (by kernel_rfl) ?hQ5_6 ?hy5_6 hHeld ?hr5_6
            case ho5_6 => simp only [List.getElem?_toArray, List.getElem?_cons_succ, List.getElem?_cons_zero]; rfl
            case hQ5_6 => exact fun _ _ _ h => h
            case hy5_6 => exact Or.inl ⟨by rfl, by (intro w hSw; go_simp; try with_reducible rfl)⟩
            try simp only [Act.put, List.setIfInBounds_toArray, List.set_cons_zero, List.set_cons_succ]
            refine wpAnyH_take (i := 6) (oi := ?oi6_6) (v := ?v6_6) ?ho6_6 (by kernel_rfl) (by kernel_rfl) (by kernel_rfl) ?hQ6_6 ?hy6_6 hHeld ?hr6_6
            case ho6_6 => simp only [List.getElem?_toArray, List.getElem?_cons_succ, List.getElem?_cons_zero]; rfl
            case hQ6_6 => exact fun _ _ _ h => h
            case hy6_6 => exact Or.inl ⟨by rfl, by (intro w hSw; go_simp; try with_reducible rfl)⟩
            try simp only [Act.put, List.setIfInBounds_toArray, List.set_cons_zero, List.set_cons_succ]
            refine wpAnyH_take (i := 7) (oi := ?oi7_6) (v := ?v7_6) ?ho7_6 (by kernel_rfl) (by kernel_rfl) (by kernel_rfl) ?hQ7_6 ?hy7_6 hHeld ?hr7_6
            case ho7_6 => simp only [List.getElem?_toArray, List.getElem?_cons_succ, List.getElem?_cons_zero]; rfl
            case hQ7_6 => exact fun _ _ _ h => h
            case hy7_6 => exact Or.inl ⟨by rfl, by (intro w hSw; go_simp; try with_reducible rfl)⟩
            try simp only [Act.put, List.setIfInBounds_toArray, List.set_cons_zero, List.set_cons_succ]
            refine wpAnyH_take (i := 8) (oi := ?oi8_6) (v := ?v8_6) ?ho8_6 (by kernel_rfl) (by kernel_rfl) (by kernel_rfl) ?hQ8_6 ?hy8_6 hHeld ?hr8_6
            case ho8_6 => simp only [List.getElem?_toArray, List.getElem?_cons_succ, List.getElem?_cons_zero]; rfl
            case hQ8_6 => exact fun _ _ _ h => h
            case hy8_6 => exact Or.inl ⟨by rfl, by (intro w hSw; go_simp; try with_reducible rfl)⟩
            try simp only [Act.put, List.setIfInBounds_toArray, List.set_cons_zero, List.set_cons_succ]
            refine wpAnyH_take (i := 11) (oi := ?oi11_6) (v := ?v11_6) ?ho11_6 (by kernel_rfl) (by kernel_rfl) (by kernel_rfl) ?hQ11_6 ?hy11_6 hHeld ?hr11_6
            case ho11_6 => simp only [List.getElem?_toArray, List.getElem?_cons_succ, List.getElem?_cons_zero]; rfl
            case hQ11_6 => exact fun _ _ _ h => h
            case hy11_6 => exact Or.inl ⟨by rfl, by (intro w hSw; go_simp; try with_reducible rfl)⟩
            try simp only [Act.put, List.setIfInBounds_toArray, List.set_cons_zero, List.set_cons_succ]
            refine wpAnyH_take (i := 13) (oi := ?oi13_6) (v := ?v13_6) ?ho13_6 (by kernel_rfl) (by kernel_rfl) (by kernel_rfl) ?hQ13_6 ?hy13_6 hHeld ?hr13_6
            case ho13_6 => simp only [List.getElem?_toArray, List.getElem?_cons_succ, List.getElem?_cons_zero]; rfl
            case hQ13_6 => exact fun _ _ _ h => h
            case hy13_6 => exact Or.inl ⟨by rfl, by (intro w hSw; go_simp; try with_reducible rfl)⟩
            try simp only [Act.put, List.setIfInBounds_toArray, List.set_cons_zero, List.set_cons_succ]
            refine wpAnyH_take (i := 14) (oi := ?oi14_6) (v := ?v14_6) ?ho14_6 (by kernel_rfl) (by kernel_rfl) (by kernel_rfl) ?hQ14_6 ?hy14_6 hHeld ?hr14_6
            case ho14_6 => simp only [List.getElem?_toArray, List.getElem?_cons_succ, List.getElem?_cons_zero]; rfl
            case hQ14_6 => exact fun _ _ _ h => h
            case hy14_6 => exact Or.inl ⟨by rfl, by (intro w hSw; go_simp; try with_reducible rfl)⟩
            try simp only [Act.put, List.setIfInBounds_toArray, List.set_cons_zero, List.set_cons_succ]
            refine wpAnyH_take (i := 16) (oi := ?oi16_6) (v := ?v16_6) ?ho16_6 (by kernel_rfl) (by kernel_rfl) (by kernel_rfl) ?hQ16_6 ?hy16_6 hHeld ?hr16_6
            case ho16_6 => simp only [List.getElem?_toArray, List.getElem?_cons_succ, List.getElem?_cons_zero]; rfl
            case hQ16_6 => exact fun _ _ _ h => h
            case hy16_6 => exact Or.inl ⟨by rfl, by (intro w hSw; go_simp; try with_reducible rfl)⟩
            try simp only [Act.put, List.setIfInBounds_toArray, List.set_cons_zero, List.set_cons_succ]
            refine wpAnyH_take (i := 17) (oi := ?oi17_6) (v := ?v17_6) ?ho17_6 (by kernel_rfl) (by kernel_rfl) (by kernel_rfl) ?hQ17_6 ?hy17_6 hHeld ?hr17_6
            case ho17_6 => simp only [List.getElem?_toArray, List.getElem?_cons_succ, List.getElem?_cons_zero]; rfl
            case hQ17_6 => exact fun _ _ _ h => h
            case hy17_6 => exact Or.inl ⟨by rfl, by (intro w hSw; go_simp; try with_reducible rfl)⟩
            try simp only [Act.put, List.setIfInBounds_toArray, List.set_cons_zero, List.set_cons_succ]
            refine wpAnyH_ready (rs := [3]) (by kernel_rfl) (by simp) ?_
            refine AllReadyH.cons (o := ?o3_6) ?ho3_6 (fun K hK => ?hs3_6) AllReadyH.nil
            case ho3_6 => simp only [List.getElem?_toArray, List.getElem?_cons_succ, List.getElem?_cons_zero]; rfl
            go_simp
            (go_at_call 92; refine (i_arValues _ _ _ _ _ _ gs _ _ _ os _ _ _ _ _ (HH1.out.below (bel_drew _)) (HI1.out.ints.below (bel_drew _)) HGT HU1 ⟨hp1, hp2⟩ (by omega)).mono ?_; rintro e w8 ⟨r8, k8, rfl, m8, hb8⟩; have hb9 := bel_trans (bel_drew _) hb8; have c0 := cell_on c0 hb9; have c1 := cell_on c1 hb9; have c2 := cell_on c2 hb9; have c3 := cell_on c3 hb9; have c4 := cell_on c4 hb9; have co := cell_on co hb9; obtain ⟨vb, vo, rfl, vBg, vl, vc, _⟩ := m8.at (i := q) hq; rw [← HXX.out] at vc; have hvB := Nat.le_trans (bel_drew W6).size vBg)
            refine hK.out _ _ ?hS3_6 (fun hHeld => ?hr3_6)
            case hS3_6 => exact ⟨c0, c1, c2, c3, c4, co⟩
            clear hK K
            try simp only [Act.put, List.setIfInBounds_toArray, List.set_cons_zero, List.set_cons_succ]
            refine wpAnyH_mono (S' := (fun W : World => W.cell? ⟨w.heap.size, 0, none⟩ = some (.int .i64 p) ∧ W.cell? ⟨w.heap.size, 1, none⟩ = some (.int .i64 i0) ∧ W.cell? ⟨w.heap.size, 2, none⟩ = some (.int .i64 i1) ∧ W.cell? ⟨w.heap.size, 3, none⟩ = some (.slice ga gn gc) ∧ W.cell? ⟨w.heap.size, 4, none⟩ = some (.slice (some ⟨ob, oo, none⟩) on oc) ∧ W.cell? ⟨ob, oo + kk, none⟩ = some (.int .i64 q) ∧ W.cell? ⟨vb, vo + q, none⟩ = some (.int .i64 X))) (fun _ h => ⟨h.1, h.2.1, h.2.2.1, h.2.2.2.1, h.2.2.2.2.1, h.2.2.2.2.2.1⟩) _ _ _ _ ?_
            replace hHeld := (show ((fun W : World => W.cell? ⟨w.heap.size, 0, none⟩ = some (.int .i64 p) ∧ W.cell? ⟨w.heap.size, 1, none⟩ = some (.int .i64 i0) ∧ W.cell? ⟨w.heap.size, 2, none⟩ = some (.int .i64 i1) ∧ W.cell? ⟨w.heap.size, 3, none⟩ = some (.slice ga gn gc) ∧ W.cell? ⟨w.heap.size, 4, none⟩ = some (.slice (some ⟨ob, oo, none⟩) on oc) ∧ W.cell? ⟨ob, oo + kk, none⟩ = some (.int .i64 q) ∧ W.cell? ⟨vb, vo + q, none⟩ = some (.int .i64 X))) _ from (by exact ⟨c0, c1, c2, c3, c4, co, vc⟩))
            refine wpAnyH_take (i := 9) (oi := ?oi9_6) (v := ?v9_6) ?ho9_6 (by kernel_rfl) (by kernel_rfl) (by kernel_rfl) ?hQ9_6 ?hy9_6 hHeld ?hr9_6
            case ho9_6 => simp only [List.getElem?_toArray, List.getElem?_cons_succ, List.getElem?_cons_zero]; rfl
            case hQ9_6 => exact fun _ _ _ h => h
            case hy9_6 => exact Or.inl ⟨by rfl, by (intro w hSw; go_simp; try with_reducible rfl)⟩
            try simp only [Act.put, List.setIfInBounds_toArray, List.set_cons_zero, List.set_cons_succ]
            refine wpAnyH_take (i := 10) (oi := ?oi10_6) (v := ?v10_6) ?ho10_6 (by kernel_rfl) (by kernel_rfl) (by kernel_rfl) ?hQ10_6 ?hy10_6 hHeld ?hr10_6
            case ho10_6 => simp only [List.getElem?_toArray, List.getElem?_cons_succ, List.getElem?_cons_zero]; rfl
            case hQ10_6 => exact fun _ _ _ h => h
            case hy10_6 => exact Or.inl ⟨by rfl, by (intro w hSw; go_simp; try with_reducible rfl)⟩
            try simp only [Act.put, List.setIfInBounds_toArray, List.set_cons_zero, List.set_cons_succ]
            refine wpAnyH_take (i := 12) (oi := ?oi12_6) (v := ?v12_6) ?ho12_6 (by kernel_rfl) (by kernel_rfl) (by kernel_rfl) ?hQ12_6 ?hy12_6 hHeld ?hr12_6
            case ho12_6 => simp only [List.getElem?_toArray, List.getElem?_cons_succ, List.getElem?_cons_zero]; rfl
            case hQ12_6 => exact fun _ _ _ h => h
            case hy12_6 => exact Or.inl ⟨by rfl, by (intro w hSw; go_simp; try with_reducible rfl)⟩
            try simp only [Act.put, List.setIfInBounds_toArray, List.set_cons_zero, List.set_cons_succ]
            refine wpAnyH_take (i := 15) (oi := ?oi15_6) (v := ?v15_6) ?ho15_6 (by kernel_rfl) (by kernel_rfl) (by kernel_rfl) ?hQ15_6 ?hy15_6 hHeld ?hr15_6
            case ho15_6 => simp only [List.getElem?_toArray, List.getElem?_cons_succ, List.getElem?_cons_zero]; rfl
            case hQ15_6 => exact fun _ _ _ h => h
            case hy15_6 => exact Or.inl ⟨by rfl, by (intro w hSw; go_simp; try with_reducible rfl)⟩
            try simp only [Act.put, List.setIfInBounds_toArray, List.set_cons_zero, List.set_cons_succ]
            refine wpAnyH_take (i := 18) (oi := ?oi18_6) (v := ?v18_6) ?ho18_6 (by kernel_rfl) (by kernel_rfl) (by kernel_rfl) ?hQ18_6 ?hy18_6 hHeld ?hr18_6
            case ho18_6 => simp only [List.getElem?_toArray, List.getElem?_cons_succ, List.getElem?_cons_zero]; rfl
            case hQ18_6 => exact fun _ _ _ h => h
            case hy18_6 => exact Or.inl ⟨by rfl, by (intro w hSw; go_simp; try with_reducible rfl)⟩
            try simp only [Act.put, List.setIfInBounds_toArray, List.set_cons_zero, List.set_cons_succ]
            refine wpAnyH_ready (rs := [19]) (by kernel_rfl) (by simp) ?_
            refine AllReadyH.cons (o := ?o19_6) ?ho19_6 (fun K hK => ?hs19_6) AllReadyH.nil
            case ho19_6 => simp only [List.getElem?_toArray, List.getElem?_cons_succ, List.getElem?_cons_zero]; rfl
            go_simp
            have hba := bel_alloc w8 (.cells #[.int .i64 ((X - C0) % p)] 3); have c0 := cell_on c0 hba; have c1 := cell_on c1 hba; have c2 := cell_on c2 hba; have c3 := cell_on c3 hba; have c4 := cell_on c4 hba; have co := cell_on co hba; have vc := cell_on vc hba
            refine hK.out _ _ ?hS19_6 (fun hHeld => ?hr19_6)
            case hS19_6 => exact ⟨c0, c1, c2, c3, c4, co, vc⟩
            clear hK K
            try simp only [Act.put, List.setIfInBounds_toArray, List.set_cons_zero, List.set_cons_succ]
            refine wpAnyH_ready (rs := [20]) (by kernel_rfl) (by simp) ?_
            refine AllReadyH.cons (o := ?o20_6) ?ho20_6 (fun K hK => ?hs20_6) AllReadyH.nil
            case ho20_6 => simp only [List.getElem?_toArray, List.getElem?_cons_succ, List.getElem?_cons_zero]; rfl
            refine step_app W6 w7.heap.size (j + 1) _ (lfT p gs N gn q j) ((X - C0) % p) _ (by rfl) _ _ (by rfl) (by rfl) (by rfl) (by simp [World.cell?_alloc_at]) HO1.out (by exact bel_trans hb9 hba) (by exact HS1.out) (by omega) ?_; intro v9 w9 hv9 hb10 hg10; have c0 := (hb10.cell (p := ⟨w.heap.size, 0, none⟩) zw).trans c0; have c1 := (hb10.cell (p := ⟨w.heap.size, 1, none⟩) zw).trans c1; have c2 := (hb10.cell (p := ⟨w.heap.size, 2, none⟩) zw).trans c2; have c3 := (hb10.cell (p := ⟨w.heap.size, 3, none⟩) zw).trans c3; have c4 := (hb10.cell (p := ⟨w.heap.size, 4, none⟩) zw).trans c4; have co := (hb10.cell (p := ⟨ob, oo + kk, none⟩) zo).trans co; have vc := hg10.cell vc (fun e => by have h1 := HLT.out _ e.symm; have h2 : vb < W6.heap.size := h1; omega)
            refine hK.out _ _ ?hS20_6 (fun hHeld => ?hr20_6)
            case hS20_6 => exact ⟨c0, c1, c2, c3, c4, co, vc⟩
            clear hK K
            try simp only [Act.put, List.setIfInBounds_toArray, List.set_cons_zero, List.set_cons_succ]
            refine wpAnyH_take (i := 21) (oi := ?oi21_6) (v := ?v21_6) ?ho21_6 (by kernel_rfl) (by kernel_rfl) (by kernel_rfl) ?hQ21_6 ?hy21_6 hHeld ?hr21_6
            case ho21_6 => simp only [List.getElem?_toArray, List.getElem?_cons_succ, List.getElem?_cons_zero]; rfl
            case hQ21_6 => exact fun _ _ _ h => h
            case hy21_6 => exact Or.inl ⟨by rfl, by (intro w hSw; go_simp; try with_reducible rfl)⟩
            try simp only [Act.put, List.setIfInBounds_toArray, List.set_cons_zero, List.set_cons_succ]
            refine wpAnyH_done (by kernel_rfl) ?_ _
            have c0' := c0; have c1' := c1; have c2' := c2; have c3' := c3; have c4' := c4
            have HX9 : Hid (B5 w9 w.heap.size (.int .i64 p) (.int .i64 i0) (.int .i64 i1) (.slice ga gn gc) (.slice (some ⟨ob, oo, none⟩) on oc)) := ⟨c0', c1', c2', c3', c4'⟩
            have hb8_10 := bel_trans hb9 hba
            have HR9 : Hid (w9.heap[w5.heap.size]? = some (.cells (ivs ((List.replicate N 0).set j 1)).toArray 3 (0, 0))) := (hb10.block w5.heap.size (by omega)).trans (heap_of_below hb8_10 HR1.out)
            have HI9 := Lib.hid (OwnI.ofRow (n := N) HR9.out (by simp) (by omega) (fun x hx => by have := HU1.out x hx; unfold Fits; omega))
            obtain ⟨g9, e9, _, hgl9, hcB, hfB⟩ := HI9.out.at hlj
            simp only [Option.some.injEq, Addr.mk.injEq] at e9
            obtain ⟨rfl, _, _⟩ := e9
            have HB9 := Lib.hid ((bel_trans HB1.out hb8_10).trans (hb10.mono (by omega)))
            have HZ9 : Hid (w7.heap.size ≤ w9.heap.size) := by show _ ≤ _; have a1 := HS1.out; have a2 := hb8_10.size; have a3 := hb10.size; omega
            have HI0 := Lib.hid (HI9.out.set hlj 0 (by unfold Fits; omega))
            have HR0 := Lib.hid (row_of_owns HI0.out.own)
            rw [reset_unit] at HR0
            have HO0 := Lib.hid (ownsRow_else hv9 (p := ⟨w5.heap.size, j, none⟩) (by show w5.heap.size < w7.heap.size; omega) (.int .i64 0))
            have HB0 := Lib.hid (HB9.out.setCell (p := ⟨w5.heap.size, j, none⟩) (by show w.heap.size ≤ w5.heap.size; omega) (.int .i64 0))
            have HX0 := Lib.hid (HX9.out.other (p := ⟨w5.heap.size, j, none⟩) (by show w5.heap.size ≠ w.heap.size; omega) (.int .i64 0))
            have HZ0 : Hid (w7.heap.size ≤ (w9.setCell ⟨w5.heap.size, j, none⟩ (.int .i64 0)).heap.size) := by show _ ≤ _; simpa [World.setCell] using HZ9.out
            clear c0 c1 c2 c3 c4 c0' c1' c2' c3' c4' vc co hv9 hb10 hg10 hb8 hb9 hba hb8_10 HO1 HB1 HX1 HI1 HR1 HX9 HB9 HZ9 HI9 HR9 HI0 hcA hfA
            go_wp2
            go_roundw
            case rel => exact ⟨j + 1, by omega, by go_num, by rw [HS.out]; exact HO0.out, HB0.out, HR0.out, HX0.out, HZ0.out⟩
            case measure => simp [intOf]; omega
          · obtain rfl : j = N := by omega
            have hlji : ¬ (j : Int) < (j : Int) := by omega
            go_wp2
            obtain ⟨r9, c9, hv, hm⟩ := OwnI.of HO.out (by omega) HTB.out
            subst hv
            go_ret2
            exact ⟨_, _, rfl, hm.mine.base (by omega), HB.out⟩
set_option maxHeartbeats 16000000 in
theorem s_LinearForm (p i0 i1 : Int) (ga : Option Addr) (gn gc : Nat) (gs : List Int) (oa : Option Addr) (on oc : Nat) (os : List Int) (k : Int) (w : World) (h : Circ w ga gn gc gs oa on oc os) :
    Calls Try.prog 35 #[.agg #[.int .i64 p, .int .i64 i0, .int .i64 i1, .slice ga gn gc, .slice oa on oc], .int .i64 k] w fun e w' => ∃ r c, e = .returned (.tuple #[.slice r (lfAll p i0 i1 gs gn os k).1.length c, .bool (lfAll p i0 i1 gs gn os k).2]) ∧ Mine w' w.heap.size r (lfAll p i0 i1 gs gn os k).1.length c (lfAll p i0 i1 gs gn os k).1 ∧ Below w.heap.size w w' := by
  have hlo := h.o.len.out
  have A0 := bel_alloc w (.cells #[.int .i64 p, .int .i64 i0, .int .i64 i1, .slice ga gn gc, .slice oa on oc] 48)
  have g0 := B5.new (w := w) (x0 := .int .i64 p) (x1 := .int .i64 i0) (x2 := .int .i64 i1) (x3 := .slice ga gn gc) (x4 := .slice oa on oc) (t := 48)
  obtain ⟨c0, c1, c2, c3, c4⟩ := g0
  have zz : (w.alloc (.cells #[.int .i64 p, .int .i64 i0, .int .i64 i1, .slice ga gn gc, .slice oa on oc] 48)).heap.size = w.heap.size + 1 := by simp
  obtain ⟨i00, hi, hz0, hz1, hz2⟩ := info_parts info_int
  have H0 := Lib.hid h
  have HH := Lib.hid (h.below A0)
  clear h
  unfold lfAll lfOk
  rw [hlo]
  cases hAK : arC p i0 i1 gs gn os with
  | false =>
    simp only [Bool.false_and, Bool.false_eq_true, if_false, List.length_nil]
    go_enter Try.func35, Try.ntmps35
    go_wp2_with fail
    refine wp_region_held_drew (S := (fun W => W.cell? ⟨w.heap.size, 0, none⟩ = some (.int .i64 p) ∧ W.cell? ⟨w.heap.size, 1, none⟩ = some (.int .i64 i0) ∧ W.cell? ⟨w.heap.size, 2, none⟩ = some (.int .i64 i1) ∧ W.cell? ⟨w.heap.size, 3, none⟩ = some (.slice ga gn gc) ∧ W.cell? ⟨w.heap.size, 4, none⟩ = some (.slice oa on oc))) (by kernel_rfl) (by exact ⟨c0, c1, c2, c3, c4⟩) (fun hHeld => ?_)
    refine wpAnyH_take (i := 0) (oi := ?oi0_1) (v := ?v0_1) ?ho0_1 (by kernel_rfl) (by kernel_rfl) (by kernel_rfl) ?hQ0_1 ?hy0_1 hHeld ?hr0_1
    case ho0_1 => simp only [List.getElem?_toArray, List.getElem?_cons_succ, List.getElem?_cons_zero]; rfl
    case hQ0_1 => exact fun _ _ _ h => h
    case hy0_1 => exact Or.inl ⟨by rfl, by (intro w hSw; go_simp; try with_reducible rfl)⟩
    try simp only [Act.put, List.setIfInBounds_toArray, List.set_cons_zero, List.set_cons_succ]
    refine wpAnyH_ready (rs := [1]) (by kernel_rfl) (by simp) ?_
    refine AllReadyH.cons (o := ?o1_1) ?ho1_1 (fun K hK => ?hs1_1) AllReadyH.nil
    case ho1_1 => simp only [List.getElem?_toArray, List.getElem?_cons_succ, List.getElem?_cons_zero]; rfl
    go_simp
    (go_at_call 93; refine (s_arGood _ _ _ _ _ _ gs _ _ _ os _ (HH.out.below (bel_drew _))).mono ?_; rintro e w1 ⟨rfl, hb1⟩; rw [hAK]; have hb3 := bel_trans (bel_drew _) hb1; have c0 := cell_on c0 hb3; have c1 := cell_on c1 hb3; have c2 := cell_on c2 hb3; have c3 := cell_on c3 hb3; have c4 := cell_on c4 hb3)
    refine hK.out _ _ ?hS1_1 (fun hHeld => ?hr1_1)
    case hS1_1 => exact ⟨c0, c1, c2, c3, c4⟩
    clear hK K
    try simp only [Act.put, List.setIfInBounds_toArray, List.set_cons_zero, List.set_cons_succ]
    refine wpAnyH_take (i := 2) (oi := ?oi2_1) (v := ?v2_1) ?ho2_1 (by kernel_rfl) (by kernel_rfl) (by kernel_rfl) ?hQ2_1 ?hy2_1 hHeld ?hr2_1
    case ho2_1 => simp only [List.getElem?_toArray, List.getElem?_cons_succ, List.getElem?_cons_zero]; rfl
    case hQ2_1 => exact fun _ _ _ h => h
    case hy2_1 => exact Or.inl ⟨by rfl, by (intro w hSw; go_simp; try with_reducible rfl)⟩
    try simp only [Act.put, List.setIfInBounds_toArray, List.set_cons_zero, List.set_cons_succ]
    refine wpAnyH_take (i := 3) (oi := ?oi3_1) (v := ?v3_1) ?ho3_1 (by kernel_rfl) (by kernel_rfl) (by kernel_rfl) ?hQ3_1 ?hy3_1 hHeld ?hr3_1
    case ho3_1 => simp only [List.getElem?_toArray, List.getElem?_cons_succ, List.getElem?_cons_zero]; rfl
    case hQ3_1 => exact fun _ _ _ h => h
    case hy3_1 => exact Or.inl ⟨by rfl, by (intro w hSw; go_simp; try with_reducible rfl)⟩
    try simp only [Act.put, List.setIfInBounds_toArray, List.set_cons_zero, List.set_cons_succ]
    refine wpAnyH_take (i := 4) (oi := ?oi4_1) (v := undef) ?ho4_1 (by kernel_rfl) (by kernel_rfl) (by kernel_rfl) ?hQ4_1 ?hy4_1 hHeld ?hr4_1
    case ho4_1 => simp only [List.getElem?_toArray, List.getElem?_cons_succ, List.getElem?_cons_zero]; rfl
    case hQ4_1 => exact fun _ _ _ h => h
    case hy4_1 => exact Or.inr ⟨by rfl, rfl⟩
    try simp only [Act.put, List.setIfInBounds_toArray, List.set_cons_zero, List.set_cons_succ]
    refine wpAnyH_take (i := 5) (oi := ?oi5_1) (v := undef) ?ho5_1 (by kernel_rfl) (by kernel_rfl) (by kernel_rfl) ?hQ5_1 ?hy5_1 hHeld ?hr5_1
    case ho5_1 => simp only [List.getElem?_toArray, List.getElem?_cons_succ, List.getElem?_cons_zero]; rfl
    case hQ5_1 => exact fun _ _ _ h => h
    case hy5_1 => exact Or.inr ⟨by rfl, rfl⟩
    try simp only [Act.put, List.setIfInBounds_toArray, List.set_cons_zero, List.set_cons_succ]
    refine wpAnyH_take (i := 6) (oi := ?oi6_1) (v := undef) ?ho6_1 (by kernel_rfl) (by kernel_rfl) (by kernel_rfl) ?hQ6_1 ?hy6_1 hHeld ?hr6_1
    case ho6_1 => simp only [List.getElem?_toArray, List.getElem?_cons_succ, List.getElem?_cons_zero]; rfl
    case hQ6_1 => exact fun _ _ _ h => h
    case hy6_1 => exact Or.inr ⟨by rfl, rfl⟩
    try simp only [Act.put, List.setIfInBounds_toArray, List.set_cons_zero, List.set_cons_succ]
    refine wpAnyH_take (i := 7) (oi := ?oi7_1) (v := undef) ?ho7_1 (by kernel_rfl) (by kernel_rfl) (by kernel_rfl) ?hQ7_1 ?hy7_1 hHeld ?hr7_1
    case ho7_1 => simp only [List.getElem?_toArray, List.getElem?_cons_succ, List.getElem?_cons_zero]; rfl
    case hQ7_1 => exact fun _ _ _ h => h
    case hy7_1 => exact Or.inr ⟨by rfl, rfl⟩
    try simp only [Act.put, List.setIfInBounds_toArray, List.set_cons_zero, List.set_cons_succ]
    refine wpAnyH_take (i := 8) (oi := ?oi8_1) (v := undef) ?ho8_1 (by kernel_rfl) (by kernel_rfl) (by kernel_rfl) ?hQ8_1 ?hy8_1 hHeld ?hr8_1
    case ho8_1 => simp only [List.getElem?_toArray, List.getElem?_cons_succ, List.getElem?_cons_zero]; rfl
    case hQ8_1 => exact fun _ _ _ h => h
    case hy8_1 => exact Or.inr ⟨by rfl, rfl⟩
    try simp only [Act.put, List.setIfInBounds_toArray, List.set_cons_zero, List.set_cons_succ]
    refine wpAnyH_take (i := 9) (oi := ?oi9_1) (v := undef) ?ho9_1 (by kernel_rfl) (by kernel_rfl) (by kernel_rfl) ?hQ9_1 ?hy9_1 hHeld ?hr9_1
    case ho9_1 => simp only [List.getElem?_toArray, List.getElem?_cons_succ, List.getElem?_cons_zero]; rfl
    case hQ9_1 => exact fun _ _ _ h => h
    case hy9_1 => exact Or.inr ⟨by rfl, rfl⟩
    try simp only [Act.put, List.setIfInBounds_toArray, List.set_cons_zero, List.set_cons_succ]
    refine wpAnyH_take (i := 10) (oi := ?oi10_1) (v := undef) ?ho10_1 (by kernel_rfl) (by kernel_rfl) (by kernel_rfl) ?hQ10_1 ?hy10_1 hHeld ?hr10_1
    case ho10_1 => simp only [List.getElem?_toArray, List.getElem?_cons_succ, List.getElem?_cons_zero]; rfl
    case hQ10_1 => exact fun _ _ _ h => h
    case hy10_1 => exact Or.inr ⟨by rfl, rfl⟩
    try simp only [Act.put, List.setIfInBounds_toArray, List.set_cons_zero, List.set_cons_succ]
    refine wpAnyH_take (i := 11) (oi := ?oi11_1) (v := ?v11_1) ?ho11_1 (by kernel_rfl) (by kernel_rfl) (by kernel_rfl) ?hQ11_1 ?hy11_1 hHeld ?hr11_1
    case ho11_1 => simp only [List.getElem?_toArray, List.getElem?_cons_succ, List.getElem?_cons_zero]; rfl
    case hQ11_1 => exact fun _ _ _ h => h
    case hy11_1 => exact Or.inl ⟨by rfl, by (intro w hSw; go_simp; try with_reducible rfl)⟩
    try simp only [Act.put, List.setIfInBounds_toArray, List.set_cons_zero, List.set_cons_succ]
    refine wpAnyH_take (i := 12) (oi := ?oi12_1) (v := ?v12_1) ?ho12_1 (by kernel_rfl) (by kernel_rfl) (by kernel_rfl) ?hQ12_1 ?hy12_1 hHeld ?hr12_1
    case ho12_1 => simp only [List.getElem?_toArray, List.getElem?_cons_succ, List.getElem?_cons_zero]; rfl
    case hQ12_1 => exact fun _ _ _ h => h
    case hy12_1 => exact Or.inl ⟨by rfl, by (intro w hSw; go_simp; try with_reducible rfl)⟩
    try simp only [Act.put, List.setIfInBounds_toArray, List.set_cons_zero, List.set_cons_succ]
    refine wpAnyH_take (i := 13) (oi := ?oi13_1) (v := undef) ?ho13_1 (by kernel_rfl) (by kernel_rfl) (by kernel_rfl) ?hQ13_1 ?hy13_1 hHeld ?hr13_1
    case ho13_1 => simp only [List.getElem?_toArray, List.getElem?_cons_succ, List.getElem?_cons_zero]; rfl
    case hQ13_1 => exact fun _ _ _ h => h
    case hy13_1 => exact Or.inr ⟨by rfl, rfl⟩
    try simp only [Act.put, List.setIfInBounds_toArray, List.set_cons_zero, List.set_cons_succ]
    refine wpAnyH_take (i := 15) (oi := ?oi15_1) (v := undef) ?ho15_1 (by kernel_rfl) (by kernel_rfl) (by kernel_rfl) ?hQ15_1 ?hy15_1 hHeld ?hr15_1
    case ho15_1 => simp only [List.getElem?_toArray, List.getElem?_cons_succ, List.getElem?_cons_zero]; rfl
    case hQ15_1 => exact fun _ _ _ h => h
    case hy15_1 => exact Or.inr ⟨by rfl, rfl⟩
    try simp only [Act.put, List.setIfInBounds_toArray, List.set_cons_zero, List.set_cons_succ]
    refine wpAnyH_take (i := 16) (oi := ?oi16_1) (v := undef) ?ho16_1 (by kernel_rfl) (by kernel_rfl) (by kernel_rfl) ?hQ16_1 ?hy16_1 hHeld ?hr16_1
    case ho16_1 => simp only [List.getElem?_toArray, List.getElem?_cons_succ, List.getElem?_cons_zero]; rfl
    case hQ16_1 => exact fun _ _ _ h => h
    case hy16_1 => exact Or.inr ⟨by rfl, rfl⟩
    try simp only [Act.put, List.setIfInBounds_toArray, List.set_cons_zero, List.set_cons_succ]
    refine wpAnyH_take (i := 17) (oi := ?oi17_1) (v := undef) ?ho17_1 (by kernel_rfl) (by kernel_rfl) (by kernel_rfl) ?hQ17_1 ?hy17_1 hHeld ?hr17_1
    case ho17_1 => simp only [List.getElem?_toArray, List.getElem?_cons_succ, List.getElem?_cons_zero]; rfl
    case hQ17_1 => exact fun _ _ _ h => h
    case hy17_1 => exact Or.inr ⟨by rfl, rfl⟩
    try simp only [Act.put, List.setIfInBounds_toArray, List.set_cons_zero, List.set_cons_succ]
    refine wpAnyH_take (i := 18) (oi := ?oi18_1) (v := undef) ?ho18_1 (by kernel_rfl) (by kernel_rfl) (by kernel_rfl) ?hQ18_1 ?hy18_1 hHeld ?hr18_1
    case ho18_1 => simp only [List.getElem?_toArray, List.getElem?_cons_succ, List.getElem?_cons_zero]; rfl
    case hQ18_1 => exact fun _ _ _ h => h
    case hy18_1 => exact Or.inr ⟨by rfl, rfl⟩
    try simp only [Act.put, List.setIfInBounds_toArray, List.set_cons_zero, List.set_cons_succ]
    refine wpAnyH_take (i := 19) (oi := ?oi19_1) (v := undef) ?ho19_1 (by kernel_rfl) (by kernel_rfl) (by kernel_rfl) ?hQ19_1 ?hy19_1 hHeld ?hr19_1
    case ho19_1 => simp only [List.getElem?_toArray, List.getElem?_cons_succ, List.getElem?_cons_zero]; rfl
    case hQ19_1 => exact fun _ _ _ h => h
    case hy19_1 => exact Or.inr ⟨by rfl, rfl⟩
    try simp only [Act.put, List.setIfInBounds_toArray, List.set_cons_zero, List.set_cons_succ]
    refine wpAnyH_take (i := 14) (oi := ?oi14_1) (v := undef) ?ho14_1 (by kernel_rfl) (by kernel_rfl) (by kernel_rfl) ?hQ14_1 ?hy14_1 hHeld ?hr14_1
    case ho14_1 => simp only [List.getElem?_toArray, List.getElem?_cons_succ, List.getElem?_cons_zero]; rfl
    case hQ14_1 => exact fun _ _ _ h => h
    case hy14_1 => exact Or.inr ⟨by rfl, rfl⟩
    try simp only [Act.put, List.setIfInBounds_toArray, List.set_cons_zero, List.set_cons_succ]
    refine wpAnyH_take (i := 20) (oi := ?oi20_1) (v := undef) ?ho20_1 (by kernel_rfl) (by kernel_rfl) (by kernel_rfl) ?hQ20_1 ?hy20_1 hHeld ?hr20_1
    case ho20_1 => simp only [List.getElem?_toArray, List.getElem?_cons_succ, List.getElem?_cons_zero]; rfl
    case hQ20_1 => exact fun _ _ _ h => h
    case hy20_1 => exact Or.inr ⟨by rfl, rfl⟩
    try simp only [Act.put, List.setIfInBounds_toArray, List.set_cons_zero, List.set_cons_succ]
    refine wpAnyH_take (i := 21) (oi := ?oi21_1) (v := undef) ?ho21_1 (by kernel_rfl) (by kernel_rfl) (by kernel_rfl) ?hQ21_1 ?hy21_1 hHeld ?hr21_1
    case ho21_1 => simp only [List.getElem?_toArray, List.getElem?_cons_succ, List.getElem?_cons_zero]; rfl
    case hQ21_1 => exact fun _ _ _ h => h
    case hy21_1 => exact Or.inr ⟨by rfl, rfl⟩
    try simp only [Act.put, List.setIfInBounds_toArray, List.set_cons_zero, List.set_cons_succ]
    refine wpAnyH_take (i := 22) (oi := ?oi22_1) (v := undef) ?ho22_1 (by kernel_rfl) (by kernel_rfl) (by kernel_rfl) ?hQ22_1 ?hy22_1 hHeld ?hr22_1
    case ho22_1 => simp only [List.getElem?_toArray, List.getElem?_cons_succ, List.getElem?_cons_zero]; rfl
    case hQ22_1 => exact fun _ _ _ h => h
    case hy22_1 => exact Or.inr ⟨by rfl, rfl⟩
    try simp only [Act.put, List.setIfInBounds_toArray, List.set_cons_zero, List.set_cons_succ]
    refine wpAnyH_take (i := 23) (oi := ?oi23_1) (v := ?v23_1) ?ho23_1 (by kernel_rfl) (by kernel_rfl) (by kernel_rfl) ?hQ23_1 ?hy23_1 hHeld ?hr23_1
    case ho23_1 => simp only [List.getElem?_toArray, List.getElem?_cons_succ, List.getElem?_cons_zero]; rfl
    case hQ23_1 => exact fun _ _ _ h => h
    case hy23_1 => exact Or.inl ⟨by rfl, by (intro w hSw; go_simp; try with_reducible rfl)⟩
    try simp only [Act.put, List.setIfInBounds_toArray, List.set_cons_zero, List.set_cons_succ]
    refine wpAnyH_done (by kernel_rfl) ?_ _
    go_wp2
    go_ret2
    exact ⟨_, _, rfl, Mine.nil, bel_trans A0 hb3⟩
  | true =>
    obtain ⟨hS, hGG, hOO⟩ := arC_iff.1 hAK
    obtain ⟨hpp, ⟨h01, h02⟩, ⟨h11, h12⟩, hn, hon⟩ := arS_iff.1 hS
    obtain ⟨hp1, hp2⟩ := prB_lo hpp
    obtain ⟨N, hN⟩ : ∃ N : Nat, i0 + i1 = N := ⟨(i0 + i1).toNat, by omega⟩
    have HOU := arOuts (n := N + gn) hAK (by omega)
    rw [hlo] at HOU hon
    rw [hN] at hGG
    have HGT := Lib.hid hGG
    have hNt : (i0 + i1).toNat = N := by omega
    rw [hNt]
    clear hS hGG hOO hpp hNt
    have hN16 : N ≤ 16 := by omega
    have eo : IntKind.i64.wrap ((on : Int) - 1) = (on : Int) - 1 := IntWalk.i64_in _ (by omega)
    cases hK : inB k 0 ((on : Int) - 1) with
    | false =>
      simp only [Bool.and_false, Bool.false_and, Bool.false_eq_true, if_false, List.length_nil]
      go_enter Try.func35, Try.ntmps35
      go_wp2_with fail
      refine wp_region_held_drew (S := (fun W => W.cell? ⟨w.heap.size, 0, none⟩ = some (.int .i64 p) ∧ W.cell? ⟨w.heap.size, 1, none⟩ = some (.int .i64 i0) ∧ W.cell? ⟨w.heap.size, 2, none⟩ = some (.int .i64 i1) ∧ W.cell? ⟨w.heap.size, 3, none⟩ = some (.slice ga gn gc) ∧ W.cell? ⟨w.heap.size, 4, none⟩ = some (.slice oa on oc))) (by kernel_rfl) (by exact ⟨c0, c1, c2, c3, c4⟩) (fun hHeld => ?_)
      refine wpAnyH_take (i := 0) (oi := ?oi0_2) (v := ?v0_2) ?ho0_2 (by kernel_rfl) (by kernel_rfl) (by kernel_rfl) ?hQ0_2 ?hy0_2 hHeld ?hr0_2
      case ho0_2 => simp only [List.getElem?_toArray, List.getElem?_cons_succ, List.getElem?_cons_zero]; rfl
      case hQ0_2 => exact fun _ _ _ h => h
      case hy0_2 => exact Or.inl ⟨by rfl, by (intro w hSw; go_simp; try with_reducible rfl)⟩
      try simp only [Act.put, List.setIfInBounds_toArray, List.set_cons_zero, List.set_cons_succ]
      refine wpAnyH_ready (rs := [1]) (by kernel_rfl) (by simp) ?_
      refine AllReadyH.cons (o := ?o1_2) ?ho1_2 (fun K hK => ?hs1_2) AllReadyH.nil
      case ho1_2 => simp only [List.getElem?_toArray, List.getElem?_cons_succ, List.getElem?_cons_zero]; rfl
      go_simp
      (go_at_call 93; refine (s_arGood _ _ _ _ _ _ gs _ _ _ os _ (HH.out.below (bel_drew _))).mono ?_; rintro e w1 ⟨rfl, hb1⟩; rw [hAK]; have hb3 := bel_trans (bel_drew _) hb1; have c0 := cell_on c0 hb3; have c1 := cell_on c1 hb3; have c2 := cell_on c2 hb3; have c3 := cell_on c3 hb3; have c4 := cell_on c4 hb3)
      refine hK.out _ _ ?hS1_2 (fun hHeld => ?hr1_2)
      case hS1_2 => exact ⟨c0, c1, c2, c3, c4⟩
      clear hK K
      try simp only [Act.put, List.setIfInBounds_toArray, List.set_cons_zero, List.set_cons_succ]
      refine wpAnyH_take (i := 2) (oi := ?oi2_2) (v := ?v2_2) ?ho2_2 (by kernel_rfl) (by kernel_rfl) (by kernel_rfl) ?hQ2_2 ?hy2_2 hHeld ?hr2_2
      case ho2_2 => simp only [List.getElem?_toArray, List.getElem?_cons_succ, List.getElem?_cons_zero]; rfl
      case hQ2_2 => exact fun _ _ _ h => h
      case hy2_2 => exact Or.inl ⟨by rfl, by (intro w hSw; go_simp; try with_reducible rfl)⟩
      try simp only [Act.put, List.setIfInBounds_toArray, List.set_cons_zero, List.set_cons_succ]
      refine wpAnyH_take (i := 3) (oi := ?oi3_2) (v := ?v3_2) ?ho3_2 (by kernel_rfl) (by kernel_rfl) (by kernel_rfl) ?hQ3_2 ?hy3_2 hHeld ?hr3_2
      case ho3_2 => simp only [List.getElem?_toArray, List.getElem?_cons_succ, List.getElem?_cons_zero]; rfl
      case hQ3_2 => exact fun _ _ _ h => h
      case hy3_2 => exact Or.inl ⟨by rfl, by (intro w hSw; go_simp; try with_reducible rfl)⟩
      try simp only [Act.put, List.setIfInBounds_toArray, List.set_cons_zero, List.set_cons_succ]
      refine wpAnyH_take (i := 4) (oi := ?oi4_2) (v := ?v4_2) ?ho4_2 (by kernel_rfl) (by kernel_rfl) (by kernel_rfl) ?hQ4_2 ?hy4_2 hHeld ?hr4_2
      case ho4_2 => simp only [List.getElem?_toArray, List.getElem?_cons_succ, List.getElem?_cons_zero]; rfl
      case hQ4_2 => exact fun _ _ _ h => h
      case hy4_2 => exact Or.inl ⟨by rfl, by (intro w hSw; go_simp; try with_reducible rfl)⟩
      try simp only [Act.put, List.setIfInBounds_toArray, List.set_cons_zero, List.set_cons_succ]
      refine wpAnyH_take (i := 5) (oi := ?oi5_2) (v := ?v5_2) ?ho5_2 (by kernel_rfl) (by kernel_rfl) (by kernel_rfl) ?hQ5_2 ?hy5_2 hHeld ?hr5_2
      case ho5_2 => simp only [List.getElem?_toArray, List.getElem?_cons_succ, List.getElem?_cons_zero]; rfl
      case hQ5_2 => exact fun _ _ _ h => h
      case hy5_2 => exact Or.inl ⟨by rfl, by (intro w hSw; go_simp; try with_reducible rfl)⟩
      try simp only [Act.put, List.setIfInBounds_toArray, List.set_cons_zero, List.set_cons_succ]
      refine wpAnyH_take (i := 6) (oi := ?oi6_2) (v := ?v6_2) ?ho6_2 (by kernel_rfl) (by kernel_rfl) (by kernel_rfl) ?hQ6_2 ?hy6_2 hHeld ?hr6_2
      case ho6_2 => simp only [List.getElem?_toArray, List.getElem?_cons_succ, List.getElem?_cons_zero]; rfl
      case hQ6_2 => exact fun _ _ _ h => h
      case hy6_2 => exact Or.inl ⟨by rfl, by (intro w hSw; go_simp; try with_reducible rfl)⟩
      try simp only [Act.put, List.setIfInBounds_toArray, List.set_cons_zero, List.set_cons_succ]
      refine wpAnyH_take (i := 7) (oi := ?oi7_2) (v := ?v7_2) ?ho7_2 (by kernel_rfl) (by kernel_rfl) (by kernel_rfl) ?hQ7_2 ?hy7_2 hHeld ?hr7_2
      case ho7_2 => simp only [List.getElem?_toArray, List.getElem?_cons_succ, List.getElem?_cons_zero]; rfl
      case hQ7_2 => exact fun _ _ _ h => h
      case hy7_2 => exact Or.inl ⟨by rfl, by (intro w hSw; go_simp; try with_reducible rfl)⟩
      try simp only [Act.put, List.setIfInBounds_toArray, List.set_cons_zero, List.set_cons_succ]
      refine wpAnyH_take (i := 8) (oi := ?oi8_2) (v := ?v8_2) ?ho8_2 (by kernel_rfl) (by kernel_rfl) (by kernel_rfl) ?hQ8_2 ?hy8_2 hHeld ?hr8_2
      case ho8_2 => simp only [List.getElem?_toArray, List.getElem?_cons_succ, List.getElem?_cons_zero]; rfl
      case hQ8_2 => exact fun _ _ _ h => h
      case hy8_2 => exact Or.inl ⟨by rfl, by (intro w hSw; go_simp; try with_reducible rfl)⟩
      try simp only [Act.put, List.setIfInBounds_toArray, List.set_cons_zero, List.set_cons_succ]
      refine wpAnyH_ready (rs := [9]) (by kernel_rfl) (by simp) ?_
      refine AllReadyH.cons (o := ?o9_2) ?ho9_2 (fun K hK => ?hs9_2) AllReadyH.nil
      case ho9_2 => simp only [List.getElem?_toArray, List.getElem?_cons_succ, List.getElem?_cons_zero]; rfl
      go_simp
      (go_at_call 57; refine (s_l1In _ _ _ _).mono ?_; rintro e w2 ⟨rfl, rfl⟩)
      refine hK.out _ _ ?hS9_2 (fun hHeld => ?hr9_2)
      case hS9_2 => exact ⟨c0, c1, c2, c3, c4⟩
      clear hK K
      try simp only [Act.put, List.setIfInBounds_toArray, List.set_cons_zero, List.set_cons_succ]
      refine wpAnyH_take (i := 10) (oi := ?oi10_2) (v := ?v10_2) ?ho10_2 (by kernel_rfl) (by kernel_rfl) (by kernel_rfl) ?hQ10_2 ?hy10_2 hHeld ?hr10_2
      case ho10_2 => simp only [List.getElem?_toArray, List.getElem?_cons_succ, List.getElem?_cons_zero]; rfl
      case hQ10_2 => exact fun _ _ _ h => h
      case hy10_2 => exact Or.inl ⟨by rfl, by (intro w hSw; go_simp; try with_reducible rfl)⟩
      try simp only [Act.put, List.setIfInBounds_toArray, List.set_cons_zero, List.set_cons_succ]
      refine wpAnyH_take (i := 11) (oi := ?oi11_2) (v := ?v11_2) ?ho11_2 (by kernel_rfl) (by kernel_rfl) (by kernel_rfl) ?hQ11_2 ?hy11_2 hHeld ?hr11_2
      case ho11_2 => simp only [List.getElem?_toArray, List.getElem?_cons_succ, List.getElem?_cons_zero]; rfl
      case hQ11_2 => exact fun _ _ _ h => h
      case hy11_2 => exact Or.inl ⟨by rfl, by (intro w hSw; go_simp; try with_reducible rfl)⟩
      try simp only [Act.put, List.setIfInBounds_toArray, List.set_cons_zero, List.set_cons_succ]
      refine wpAnyH_take (i := 12) (oi := ?oi12_2) (v := ?v12_2) ?ho12_2 (by kernel_rfl) (by kernel_rfl) (by kernel_rfl) ?hQ12_2 ?hy12_2 hHeld ?hr12_2
      case ho12_2 => simp only [List.getElem?_toArray, List.getElem?_cons_succ, List.getElem?_cons_zero]; rfl
      case hQ12_2 => exact fun _ _ _ h => h
      case hy12_2 => exact Or.inl ⟨by rfl, by (intro w hSw; go_simp; try with_reducible rfl)⟩
      try simp only [Act.put, List.setIfInBounds_toArray, List.set_cons_zero, List.set_cons_succ]
      refine wpAnyH_take (i := 13) (oi := ?oi13_2) (v := undef) ?ho13_2 (by kernel_rfl) (by kernel_rfl) (by kernel_rfl) ?hQ13_2 ?hy13_2 hHeld ?hr13_2
      case ho13_2 => simp only [List.getElem?_toArray, List.getElem?_cons_succ, List.getElem?_cons_zero]; rfl
      case hQ13_2 => exact fun _ _ _ h => h
      case hy13_2 => exact Or.inr ⟨by rfl, rfl⟩
      try simp only [Act.put, List.setIfInBounds_toArray, List.set_cons_zero, List.set_cons_succ]
      refine wpAnyH_take (i := 15) (oi := ?oi15_2) (v := undef) ?ho15_2 (by kernel_rfl) (by kernel_rfl) (by kernel_rfl) ?hQ15_2 ?hy15_2 hHeld ?hr15_2
      case ho15_2 => simp only [List.getElem?_toArray, List.getElem?_cons_succ, List.getElem?_cons_zero]; rfl
      case hQ15_2 => exact fun _ _ _ h => h
      case hy15_2 => exact Or.inr ⟨by rfl, rfl⟩
      try simp only [Act.put, List.setIfInBounds_toArray, List.set_cons_zero, List.set_cons_succ]
      refine wpAnyH_take (i := 16) (oi := ?oi16_2) (v := undef) ?ho16_2 (by kernel_rfl) (by kernel_rfl) (by kernel_rfl) ?hQ16_2 ?hy16_2 hHeld ?hr16_2
      case ho16_2 => simp only [List.getElem?_toArray, List.getElem?_cons_succ, List.getElem?_cons_zero]; rfl
      case hQ16_2 => exact fun _ _ _ h => h
      case hy16_2 => exact Or.inr ⟨by rfl, rfl⟩
      try simp only [Act.put, List.setIfInBounds_toArray, List.set_cons_zero, List.set_cons_succ]
      refine wpAnyH_take (i := 17) (oi := ?oi17_2) (v := undef) ?ho17_2 (by kernel_rfl) (by kernel_rfl) (by kernel_rfl) ?hQ17_2 ?hy17_2 hHeld ?hr17_2
      case ho17_2 => simp only [List.getElem?_toArray, List.getElem?_cons_succ, List.getElem?_cons_zero]; rfl
      case hQ17_2 => exact fun _ _ _ h => h
      case hy17_2 => exact Or.inr ⟨by rfl, rfl⟩
      try simp only [Act.put, List.setIfInBounds_toArray, List.set_cons_zero, List.set_cons_succ]
      refine wpAnyH_take (i := 18) (oi := ?oi18_2) (v := undef) ?ho18_2 (by kernel_rfl) (by kernel_rfl) (by kernel_rfl) ?hQ18_2 ?hy18_2 hHeld ?hr18_2
      case ho18_2 => simp only [List.getElem?_toArray, List.getElem?_cons_succ, List.getElem?_cons_zero]; rfl
      case hQ18_2 => exact fun _ _ _ h => h
      case hy18_2 => exact Or.inr ⟨by rfl, rfl⟩
      try simp only [Act.put, List.setIfInBounds_toArray, List.set_cons_zero, List.set_cons_succ]
      refine wpAnyH_take (i := 19) (oi := ?oi19_2) (v := undef) ?ho19_2 (by kernel_rfl) (by kernel_rfl) (by kernel_rfl) ?hQ19_2 ?hy19_2 hHeld ?hr19_2
      case ho19_2 => simp only [List.getElem?_toArray, List.getElem?_cons_succ, List.getElem?_cons_zero]; rfl
      case hQ19_2 => exact fun _ _ _ h => h
      case hy19_2 => exact Or.inr ⟨by rfl, rfl⟩
      try simp only [Act.put, List.setIfInBounds_toArray, List.set_cons_zero, List.set_cons_succ]
      refine wpAnyH_take (i := 14) (oi := ?oi14_2) (v := undef) ?ho14_2 (by kernel_rfl) (by kernel_rfl) (by kernel_rfl) ?hQ14_2 ?hy14_2 hHeld ?hr14_2
      case ho14_2 => simp only [List.getElem?_toArray, List.getElem?_cons_succ, List.getElem?_cons_zero]; rfl
      case hQ14_2 => exact fun _ _ _ h => h
      case hy14_2 => exact Or.inr ⟨by rfl, rfl⟩
      try simp only [Act.put, List.setIfInBounds_toArray, List.set_cons_zero, List.set_cons_succ]
      refine wpAnyH_take (i := 20) (oi := ?oi20_2) (v := undef) ?ho20_2 (by kernel_rfl) (by kernel_rfl) (by kernel_rfl) ?hQ20_2 ?hy20_2 hHeld ?hr20_2
      case ho20_2 => simp only [List.getElem?_toArray, List.getElem?_cons_succ, List.getElem?_cons_zero]; rfl
      case hQ20_2 => exact fun _ _ _ h => h
      case hy20_2 => exact Or.inr ⟨by rfl, rfl⟩
      try simp only [Act.put, List.setIfInBounds_toArray, List.set_cons_zero, List.set_cons_succ]
      refine wpAnyH_take (i := 21) (oi := ?oi21_2) (v := undef) ?ho21_2 (by kernel_rfl) (by kernel_rfl) (by kernel_rfl) ?hQ21_2 ?hy21_2 hHeld ?hr21_2
      case ho21_2 => simp only [List.getElem?_toArray, List.getElem?_cons_succ, List.getElem?_cons_zero]; rfl
      case hQ21_2 => exact fun _ _ _ h => h
      case hy21_2 => exact Or.inr ⟨by rfl, rfl⟩
      try simp only [Act.put, List.setIfInBounds_toArray, List.set_cons_zero, List.set_cons_succ]
      refine wpAnyH_take (i := 22) (oi := ?oi22_2) (v := undef) ?ho22_2 (by kernel_rfl) (by kernel_rfl) (by kernel_rfl) ?hQ22_2 ?hy22_2 hHeld ?hr22_2
      case ho22_2 => simp only [List.getElem?_toArray, List.getElem?_cons_succ, List.getElem?_cons_zero]; rfl
      case hQ22_2 => exact fun _ _ _ h => h
      case hy22_2 => exact Or.inr ⟨by rfl, rfl⟩
      try simp only [Act.put, List.setIfInBounds_toArray, List.set_cons_zero, List.set_cons_succ]
      refine wpAnyH_take (i := 23) (oi := ?oi23_2) (v := ?v23_2) ?ho23_2 (by kernel_rfl) (by kernel_rfl) (by kernel_rfl) ?hQ23_2 ?hy23_2 hHeld ?hr23_2
      case ho23_2 => simp only [List.getElem?_toArray, List.getElem?_cons_succ, List.getElem?_cons_zero]; rfl
      case hQ23_2 => exact fun _ _ _ h => h
      case hy23_2 => exact Or.inl ⟨by rfl, by (intro w hSw; go_simp; try with_reducible rfl)⟩
      try simp only [Act.put, List.setIfInBounds_toArray, List.set_cons_zero, List.set_cons_succ]
      refine wpAnyH_done (by kernel_rfl) ?_ _
      go_wp2
      go_ret2
      exact ⟨_, _, rfl, Mine.nil, bel_trans A0 hb3⟩
    | true =>
      obtain ⟨hk1, hk2⟩ := inB_iff.1 hK
      obtain ⟨kk, rfl⟩ : ∃ kk : Nat, k = kk := ⟨k.toNat, by omega⟩
      have hkk : kk < on := by omega
      have hki : (kk : Int) < (on : Int) := by omega
      obtain ⟨ob, oo, rfl, hol, co⟩ := HH.out.o.at hkk
      obtain ⟨q, hq'⟩ : ∃ q : Nat, nth os kk = q := ⟨(nth os kk).toNat, by have := HOU.out kk hkk; omega⟩
      have hq : q < N + gn := by have := HOU.out kk hkk; omega
      have hqi : (q : Int) < ((N + gn : Nat) : Int) := by omega
      have hqj : (q : Int) < (N : Int) + (gn : Int) := by omega
      rw [hq'] at co
      have H0co0 := H0.out.o.at hkk
      obtain ⟨ob', oo', eb, hol0, H0co⟩ := H0co0
      simp only [Option.some.injEq, Addr.mk.injEq] at eb
      obtain ⟨rfl, rfl, _⟩ := eb
      rw [hq'] at H0co
      have eq1 : (nth os (Int.toNat (kk : Int))).toNat = q := by rw [Int.toNat_natCast, hq', Int.toNat_natCast]
      rw [eq1]
      clear eq1 hk1 hk2
      have HQ := Lib.hid hq'; clear hq'
      have HLOW := Lib.hid (ads_low gs N gn q)
      cases hD : decide (nth (ads 2000000 gs N gn) q ≤ 1) with
      | false =>
        simp only [Bool.and_false, Bool.false_and, Bool.false_eq_true, if_false, List.length_nil]
        have hd : (1 : Int) < nth (ads 2000000 gs N gn) q := by have h1 := of_decide_eq_false hD; have h2 := HLOW.out; omega
        clear hD
        go_enter Try.func35, Try.ntmps35
        go_wp2_with fail
        refine wp_region_held_drew (S := (fun W => W.cell? ⟨w.heap.size, 0, none⟩ = some (.int .i64 p) ∧ W.cell? ⟨w.heap.size, 1, none⟩ = some (.int .i64 i0) ∧ W.cell? ⟨w.heap.size, 2, none⟩ = some (.int .i64 i1) ∧ W.cell? ⟨w.heap.size, 3, none⟩ = some (.slice ga gn gc) ∧ W.cell? ⟨w.heap.size, 4, none⟩ = some (.slice (some ⟨ob, oo, none⟩) on oc) ∧ W.cell? ⟨ob, oo + kk, none⟩ = some (.int .i64 q))) (by kernel_rfl) (by exact ⟨c0, c1, c2, c3, c4, co⟩) (fun hHeld => ?_)
        refine wpAnyH_take (i := 0) (oi := ?oi0_3) (v := ?v0_3) ?ho0_3 (by kernel_rfl) (by kernel_rfl) (by kernel_rfl) ?hQ0_3 ?hy0_3 hHeld ?hr0_3
        case ho0_3 => simp only [List.getElem?_toArray, List.getElem?_cons_succ, List.getElem?_cons_zero]; rfl
        case hQ0_3 => exact fun _ _ _ h => h
        case hy0_3 => exact Or.inl ⟨by rfl, by (intro w hSw; go_simp; try with_reducible rfl)⟩
        try simp only [Act.put, List.setIfInBounds_toArray, List.set_cons_zero, List.set_cons_succ]
        refine wpAnyH_ready (rs := [1]) (by kernel_rfl) (by simp) ?_
        refine AllReadyH.cons (o := ?o1_3) ?ho1_3 (fun K hK => ?hs1_3) AllReadyH.nil
        case ho1_3 => simp only [List.getElem?_toArray, List.getElem?_cons_succ, List.getElem?_cons_zero]; rfl
        go_simp
        (go_at_call 93; refine (s_arGood _ _ _ _ _ _ gs _ _ _ os _ (HH.out.below (bel_drew _))).mono ?_; rintro e w1 ⟨rfl, hb1⟩; rw [hAK]; have hb3 := bel_trans (bel_drew _) hb1; have c0 := cell_on c0 hb3; have c1 := cell_on c1 hb3; have c2 := cell_on c2 hb3; have c3 := cell_on c3 hb3; have c4 := cell_on c4 hb3; have co := cell_on co hb3)
        refine hK.out _ _ ?hS1_3 (fun hHeld => ?hr1_3)
        case hS1_3 => exact ⟨c0, c1, c2, c3, c4, co⟩
        clear hK K
        try simp only [Act.put, List.setIfInBounds_toArray, List.set_cons_zero, List.set_cons_succ]
        refine wpAnyH_take (i := 2) (oi := ?oi2_3) (v := ?v2_3) ?ho2_3 (by kernel_rfl) (by kernel_rfl) (by kernel_rfl) ?hQ2_3 ?hy2_3 hHeld ?hr2_3
        case ho2_3 => simp only [List.getElem?_toArray, List.getElem?_cons_succ, List.getElem?_cons_zero]; rfl
        case hQ2_3 => exact fun _ _ _ h => h
        case hy2_3 => exact Or.inl ⟨by rfl, by (intro w hSw; go_simp; try with_reducible rfl)⟩
        try simp only [Act.put, List.setIfInBounds_toArray, List.set_cons_zero, List.set_cons_succ]
        refine wpAnyH_take (i := 3) (oi := ?oi3_3) (v := ?v3_3) ?ho3_3 (by kernel_rfl) (by kernel_rfl) (by kernel_rfl) ?hQ3_3 ?hy3_3 hHeld ?hr3_3
        case ho3_3 => simp only [List.getElem?_toArray, List.getElem?_cons_succ, List.getElem?_cons_zero]; rfl
        case hQ3_3 => exact fun _ _ _ h => h
        case hy3_3 => exact Or.inl ⟨by rfl, by (intro w hSw; go_simp; try with_reducible rfl)⟩
        try simp only [Act.put, List.setIfInBounds_toArray, List.set_cons_zero, List.set_cons_succ]
        refine wpAnyH_take (i := 4) (oi := ?oi4_3) (v := ?v4_3) ?ho4_3 (by kernel_rfl) (by kernel_rfl) (by kernel_rfl) ?hQ4_3 ?hy4_3 hHeld ?hr4_3
        case ho4_3 => simp only [List.getElem?_toArray, List.getElem?_cons_succ, List.getElem?_cons_zero]; rfl
        case hQ4_3 => exact fun _ _ _ h => h
        case hy4_3 => exact Or.inl ⟨by rfl, by (intro w hSw; go_simp; try with_reducible rfl)⟩
        try simp only [Act.put, List.setIfInBounds_toArray, List.set_cons_zero, List.set_cons_succ]
        refine wpAnyH_take (i := 5) (oi := ?oi5_3) (v := ?v5_3) ?ho5_3 (by kernel_rfl) (by kernel_rfl) (by kernel_rfl) ?hQ5_3 ?hy5_3 hHeld ?hr5_3
        case ho5_3 => simp only [List.getElem?_toArray, List.getElem?_cons_succ, List.getElem?_cons_zero]; rfl
        case hQ5_3 => exact fun _ _ _ h => h
        case hy5_3 => exact Or.inl ⟨by rfl, by (intro w hSw; go_simp; try with_reducible rfl)⟩
        try simp only [Act.put, List.setIfInBounds_toArray, List.set_cons_zero, List.set_cons_succ]
        refine wpAnyH_take (i := 6) (oi := ?oi6_3) (v := ?v6_3) ?ho6_3 (by kernel_rfl) (by kernel_rfl) (by kernel_rfl) ?hQ6_3 ?hy6_3 hHeld ?hr6_3
        case ho6_3 => simp only [List.getElem?_toArray, List.getElem?_cons_succ, List.getElem?_cons_zero]; rfl
        case hQ6_3 => exact fun _ _ _ h => h
        case hy6_3 => exact Or.inl ⟨by rfl, by (intro w hSw; go_simp; try with_reducible rfl)⟩
        try simp only [Act.put, List.setIfInBounds_toArray, List.set_cons_zero, List.set_cons_succ]
        refine wpAnyH_take (i := 7) (oi := ?oi7_3) (v := ?v7_3) ?ho7_3 (by kernel_rfl) (by kernel_rfl) (by kernel_rfl) ?hQ7_3 ?hy7_3 hHeld ?hr7_3
        case ho7_3 => simp only [List.getElem?_toArray, List.getElem?_cons_succ, List.getElem?_cons_zero]; rfl
        case hQ7_3 => exact fun _ _ _ h => h
        case hy7_3 => exact Or.inl ⟨by rfl, by (intro w hSw; go_simp; try with_reducible rfl)⟩
        try simp only [Act.put, List.setIfInBounds_toArray, List.set_cons_zero, List.set_cons_succ]
        refine wpAnyH_take (i := 8) (oi := ?oi8_3) (v := ?v8_3) ?ho8_3 (by kernel_rfl) (by kernel_rfl) (by kernel_rfl) ?hQ8_3 ?hy8_3 hHeld ?hr8_3
        case ho8_3 => simp only [List.getElem?_toArray, List.getElem?_cons_succ, List.getElem?_cons_zero]; rfl
        case hQ8_3 => exact fun _ _ _ h => h
        case hy8_3 => exact Or.inl ⟨by rfl, by (intro w hSw; go_simp; try with_reducible rfl)⟩
        try simp only [Act.put, List.setIfInBounds_toArray, List.set_cons_zero, List.set_cons_succ]
        refine wpAnyH_ready (rs := [9]) (by kernel_rfl) (by simp) ?_
        refine AllReadyH.cons (o := ?o9_3) ?ho9_3 (fun K hK => ?hs9_3) AllReadyH.nil
        case ho9_3 => simp only [List.getElem?_toArray, List.getElem?_cons_succ, List.getElem?_cons_zero]; rfl
        go_simp
        (go_at_call 57; refine (s_l1In _ _ _ _).mono ?_; rintro e w2 ⟨rfl, rfl⟩)
        refine hK.out _ _ ?hS9_3 (fun hHeld => ?hr9_3)
        case hS9_3 => exact ⟨c0, c1, c2, c3, c4, co⟩
        clear hK K
        try simp only [Act.put, List.setIfInBounds_toArray, List.set_cons_zero, List.set_cons_succ]
        refine wpAnyH_take (i := 10) (oi := ?oi10_3) (v := ?v10_3) ?ho10_3 (by kernel_rfl) (by kernel_rfl) (by kernel_rfl) ?hQ10_3 ?hy10_3 hHeld ?hr10_3
        case ho10_3 => simp only [List.getElem?_toArray, List.getElem?_cons_succ, List.getElem?_cons_zero]; rfl
        case hQ10_3 => exact fun _ _ _ h => h
        case hy10_3 => exact Or.inl ⟨by rfl, by (intro w hSw; go_simp; try with_reducible rfl)⟩
        try simp only [Act.put, List.setIfInBounds_toArray, List.set_cons_zero, List.set_cons_succ]
        refine wpAnyH_take (i := 11) (oi := ?oi11_3) (v := ?v11_3) ?ho11_3 (by kernel_rfl) (by kernel_rfl) (by kernel_rfl) ?hQ11_3 ?hy11_3 hHeld ?hr11_3
        case ho11_3 => simp only [List.getElem?_toArray, List.getElem?_cons_succ, List.getElem?_cons_zero]; rfl
        case hQ11_3 => exact fun _ _ _ h => h
        case hy11_3 => exact Or.inl ⟨by rfl, by (intro w hSw; go_simp; try with_reducible rfl)⟩
        try simp only [Act.put, List.setIfInBounds_toArray, List.set_cons_zero, List.set_cons_succ]
        refine wpAnyH_take (i := 12) (oi := ?oi12_3) (v := ?v12_3) ?ho12_3 (by kernel_rfl) (by kernel_rfl) (by kernel_rfl) ?hQ12_3 ?hy12_3 hHeld ?hr12_3
        case ho12_3 => simp only [List.getElem?_toArray, List.getElem?_cons_succ, List.getElem?_cons_zero]; rfl
        case hQ12_3 => exact fun _ _ _ h => h
        case hy12_3 => exact Or.inl ⟨by rfl, by (intro w hSw; go_simp; try with_reducible rfl)⟩
        try simp only [Act.put, List.setIfInBounds_toArray, List.set_cons_zero, List.set_cons_succ]
        refine wpAnyH_take (i := 13) (oi := ?oi13_3) (v := ?v13_3) ?ho13_3 (by kernel_rfl) (by kernel_rfl) (by kernel_rfl) ?hQ13_3 ?hy13_3 hHeld ?hr13_3
        case ho13_3 => simp only [List.getElem?_toArray, List.getElem?_cons_succ, List.getElem?_cons_zero]; rfl
        case hQ13_3 => exact fun _ _ _ h => h
        case hy13_3 => exact Or.inl ⟨by rfl, by (intro w hSw; go_simp; try with_reducible rfl)⟩
        try simp only [Act.put, List.setIfInBounds_toArray, List.set_cons_zero, List.set_cons_succ]
        refine wpAnyH_take (i := 15) (oi := ?oi15_3) (v := ?v15_3) ?ho15_3 (by kernel_rfl) (by kernel_rfl) (by kernel_rfl) ?hQ15_3 ?hy15_3 hHeld ?hr15_3
        case ho15_3 => simp only [List.getElem?_toArray, List.getElem?_cons_succ, List.getElem?_cons_zero]; rfl
        case hQ15_3 => exact fun _ _ _ h => h
        case hy15_3 => exact Or.inl ⟨by rfl, by (intro w hSw; go_simp; try with_reducible rfl)⟩
        try simp only [Act.put, List.setIfInBounds_toArray, List.set_cons_zero, List.set_cons_succ]
        refine wpAnyH_take (i := 16) (oi := ?oi16_3) (v := ?v16_3) ?ho16_3 (by kernel_rfl) (by kernel_rfl) (by kernel_rfl) ?hQ16_3 ?hy16_3 hHeld ?hr16_3
        case ho16_3 => simp only [List.getElem?_toArray, List.getElem?_cons_succ, List.getElem?_cons_zero]; rfl
        case hQ16_3 => exact fun _ _ _ h => h
        case hy16_3 => exact Or.inl ⟨by rfl, by (intro w hSw; go_simp; try with_reducible rfl)⟩
        try simp only [Act.put, List.setIfInBounds_toArray, List.set_cons_zero, List.set_cons_succ]
        refine wpAnyH_take (i := 17) (oi := ?oi17_3) (v := ?v17_3) ?ho17_3 (by kernel_rfl) (by kernel_rfl) (by kernel_rfl) ?hQ17_3 ?hy17_3 hHeld ?hr17_3
        case ho17_3 => simp only [List.getElem?_toArray, List.getElem?_cons_succ, List.getElem?_cons_zero]; rfl
        case hQ17_3 => exact fun _ _ _ h => h
        case hy17_3 => exact Or.inl ⟨by rfl, by (intro w hSw; go_simp; try with_reducible rfl)⟩
        try simp only [Act.put, List.setIfInBounds_toArray, List.set_cons_zero, List.set_cons_succ]
        refine wpAnyH_take (i := 18) (oi := ?oi18_3) (v := ?v18_3) ?ho18_3 (by kernel_rfl) (by kernel_rfl) (by kernel_rfl) ?hQ18_3 ?hy18_3 hHeld ?hr18_3
        case ho18_3 => simp only [List.getElem?_toArray, List.getElem?_cons_succ, List.getElem?_cons_zero]; rfl
        case hQ18_3 => exact fun _ _ _ h => h
        case hy18_3 => exact Or.inl ⟨by rfl, by (intro w hSw; go_simp; try with_reducible rfl)⟩
        try simp only [Act.put, List.setIfInBounds_toArray, List.set_cons_zero, List.set_cons_succ]
        refine wpAnyH_take (i := 19) (oi := ?oi19_3) (v := ?v19_3) ?ho19_3 (by kernel_rfl) (by kernel_rfl) (by kernel_rfl) ?hQ19_3 ?hy19_3 hHeld ?hr19_3
        case ho19_3 => simp only [List.getElem?_toArray, List.getElem?_cons_succ, List.getElem?_cons_zero]; rfl
        case hQ19_3 => exact fun _ _ _ h => h
        case hy19_3 => exact Or.inl ⟨by rfl, by (intro w hSw; go_simp; try with_reducible rfl)⟩
        try simp only [Act.put, List.setIfInBounds_toArray, List.set_cons_zero, List.set_cons_succ]
        refine wpAnyH_ready (rs := [14]) (by kernel_rfl) (by simp) ?_
        refine AllReadyH.cons (o := ?o14_3) ?ho14_3 (fun K hK => ?hs14_3) AllReadyH.nil
        case ho14_3 => simp only [List.getElem?_toArray, List.getElem?_cons_succ, List.getElem?_cons_zero]; rfl
        go_simp
        (go_at_call 94; refine (s_arDegrees _ _ _ _ _ _ gs _ _ _ os N _ (HH.out.below hb3) HGT ⟨h01, h02⟩ ⟨h11, h12⟩ hN (by omega)).mono ?_; rintro e w4 ⟨r4, k4, rfl, m4, hb4⟩; have hb5 := bel_trans hb3 hb4; have c0 := cell_on c0 hb4; have c1 := cell_on c1 hb4; have c2 := cell_on c2 hb4; have c3 := cell_on c3 hb4; have c4 := cell_on c4 hb4; have co := cell_on co hb4; obtain ⟨db, dof, rfl, dl, dc⟩ := m4.ints.at (i := q) hq)
        refine hK.out _ _ ?hS14_3 (fun hHeld => ?hr14_3)
        case hS14_3 => exact ⟨c0, c1, c2, c3, c4, co⟩
        clear hK K
        try simp only [Act.put, List.setIfInBounds_toArray, List.set_cons_zero, List.set_cons_succ]
        refine wpAnyH_mono (S' := (fun W : World => W.cell? ⟨w.heap.size, 0, none⟩ = some (.int .i64 p) ∧ W.cell? ⟨w.heap.size, 1, none⟩ = some (.int .i64 i0) ∧ W.cell? ⟨w.heap.size, 2, none⟩ = some (.int .i64 i1) ∧ W.cell? ⟨w.heap.size, 3, none⟩ = some (.slice ga gn gc) ∧ W.cell? ⟨w.heap.size, 4, none⟩ = some (.slice (some ⟨ob, oo, none⟩) on oc) ∧ W.cell? ⟨ob, oo + kk, none⟩ = some (.int .i64 q) ∧ W.cell? ⟨db, dof + q, none⟩ = some (.int .i64 (nth (ads 2000000 gs N gn) q)))) (fun _ h => ⟨h.1, h.2.1, h.2.2.1, h.2.2.2.1, h.2.2.2.2.1, h.2.2.2.2.2.1⟩) _ _ _ _ ?_
        replace hHeld := (show ((fun W : World => W.cell? ⟨w.heap.size, 0, none⟩ = some (.int .i64 p) ∧ W.cell? ⟨w.heap.size, 1, none⟩ = some (.int .i64 i0) ∧ W.cell? ⟨w.heap.size, 2, none⟩ = some (.int .i64 i1) ∧ W.cell? ⟨w.heap.size, 3, none⟩ = some (.slice ga gn gc) ∧ W.cell? ⟨w.heap.size, 4, none⟩ = some (.slice (some ⟨ob, oo, none⟩) on oc) ∧ W.cell? ⟨ob, oo + kk, none⟩ = some (.int .i64 q) ∧ W.cell? ⟨db, dof + q, none⟩ = some (.int .i64 (nth (ads 2000000 gs N gn) q)))) _ from (by exact ⟨c0, c1, c2, c3, c4, co, dc⟩))
        refine wpAnyH_take (i := 20) (oi := ?oi20_3) (v := ?v20_3) ?ho20_3 (by kernel_rfl) (by kernel_rfl) (by kernel_rfl) ?hQ20_3 ?hy20_3 hHeld ?hr20_3
        case ho20_3 => simp only [List.getElem?_toArray, List.getElem?_cons_succ, List.getElem?_cons_zero]; rfl
        case hQ20_3 => exact fun _ _ _ h => h
        case hy20_3 => exact Or.inl ⟨by rfl, by (intro w hSw; go_simp; try with_reducible rfl)⟩
        try simp only [Act.put, List.setIfInBounds_toArray, List.set_cons_zero, List.set_cons_succ]
        refine wpAnyH_take (i := 21) (oi := ?oi21_3) (v := ?v21_3) ?ho21_3 (by kernel_rfl) (by kernel_rfl) (by kernel_rfl) ?hQ21_3 ?hy21_3 hHeld ?hr21_3
        case ho21_3 => simp only [List.getElem?_toArray, List.getElem?_cons_succ, List.getElem?_cons_zero]; rfl
        case hQ21_3 => exact fun _ _ _ h => h
        case hy21_3 => exact Or.inl ⟨by rfl, by (intro w hSw; go_simp; try with_reducible rfl)⟩
        try simp only [Act.put, List.setIfInBounds_toArray, List.set_cons_zero, List.set_cons_succ]
        refine wpAnyH_take (i := 22) (oi := ?oi22_3) (v := ?v22_3) ?ho22_3 (by kernel_rfl) (by kernel_rfl) (by kernel_rfl) ?hQ22_3 ?hy22_3 hHeld ?hr22_3
        case ho22_3 => simp only [List.getElem?_toArray, List.getElem?_cons_succ, List.getElem?_cons_zero]; rfl
        case hQ22_3 => exact fun _ _ _ h => h
        case hy22_3 => exact Or.inl ⟨by rfl, by (intro w hSw; go_simp; try with_reducible rfl)⟩
        try simp only [Act.put, List.setIfInBounds_toArray, List.set_cons_zero, List.set_cons_succ]
        refine wpAnyH_take (i := 23) (oi := ?oi23_3) (v := ?v23_3) ?ho23_3 (by kernel_rfl) (by kernel_rfl) (by kernel_rfl) ?hQ23_3 ?hy23_3 hHeld ?hr23_3
        case ho23_3 => simp only [List.getElem?_toArray, List.getElem?_cons_succ, List.getElem?_cons_zero]; rfl
        case hQ23_3 => exact fun _ _ _ h => h
        case hy23_3 => exact Or.inl ⟨by rfl, by (intro w hSw; go_simp; try with_reducible rfl)⟩
        try simp only [Act.put, List.setIfInBounds_toArray, List.set_cons_zero, List.set_cons_succ]
        refine wpAnyH_done (by kernel_rfl) ?_ _
        go_wp2
        go_ret2
        exact ⟨_, _, rfl, Mine.nil, bel_trans A0 hb5⟩
      | true =>
        simp only [Bool.and_self, if_true]
        rw [lfT_len]
        have hd : ¬ (1 : Int) < nth (ads 2000000 gs N gn) q := by have h1 := of_decide_eq_true hD; have h2 := HLOW.out; omega
        clear hD HLOW
        go_enter Try.func35, Try.ntmps35
        go_wp2_with fail
        refine wp_region_held_drew (S := (fun W => W.cell? ⟨w.heap.size, 0, none⟩ = some (.int .i64 p) ∧ W.cell? ⟨w.heap.size, 1, none⟩ = some (.int .i64 i0) ∧ W.cell? ⟨w.heap.size, 2, none⟩ = some (.int .i64 i1) ∧ W.cell? ⟨w.heap.size, 3, none⟩ = some (.slice ga gn gc) ∧ W.cell? ⟨w.heap.size, 4, none⟩ = some (.slice (some ⟨ob, oo, none⟩) on oc) ∧ W.cell? ⟨ob, oo + kk, none⟩ = some (.int .i64 q))) (by kernel_rfl) (by exact ⟨c0, c1, c2, c3, c4, co⟩) (fun hHeld => ?_)
        refine wpAnyH_take (i := 0) (oi := ?oi0_4) (v := ?v0_4) ?ho0_4 (by kernel_rfl) (by kernel_rfl) (by kernel_rfl) ?hQ0_4 ?hy0_4 hHeld ?hr0_4
        case ho0_4 => simp only [List.getElem?_toArray, List.getElem?_cons_succ, List.getElem?_cons_zero]; rfl
        case hQ0_4 => exact fun _ _ _ h => h
        case hy0_4 => exact Or.inl ⟨by rfl, by (intro w hSw; go_simp; try with_reducible rfl)⟩
        try simp only [Act.put, List.setIfInBounds_toArray, List.set_cons_zero, List.set_cons_succ]
        refine wpAnyH_ready (rs := [1]) (by kernel_rfl) (by simp) ?_
        refine AllReadyH.cons (o := ?o1_4) ?ho1_4 (fun K hK => ?hs1_4) AllReadyH.nil
        case ho1_4 => simp only [List.getElem?_toArray, List.getElem?_cons_succ, List.getElem?_cons_zero]; rfl
        go_simp
        (go_at_call 93; refine (s_arGood _ _ _ _ _ _ gs _ _ _ os _ (HH.out.below (bel_drew _))).mono ?_; rintro e w1 ⟨rfl, hb1⟩; rw [hAK]; have hb3 := bel_trans (bel_drew _) hb1; have c0 := cell_on c0 hb3; have c1 := cell_on c1 hb3; have c2 := cell_on c2 hb3; have c3 := cell_on c3 hb3; have c4 := cell_on c4 hb3; have co := cell_on co hb3)
        refine hK.out _ _ ?hS1_4 (fun hHeld => ?hr1_4)
        case hS1_4 => exact ⟨c0, c1, c2, c3, c4, co⟩
        clear hK K
        try simp only [Act.put, List.setIfInBounds_toArray, List.set_cons_zero, List.set_cons_succ]
        refine wpAnyH_take (i := 2) (oi := ?oi2_4) (v := ?v2_4) ?ho2_4 (by kernel_rfl) (by kernel_rfl) (by kernel_rfl) ?hQ2_4 ?hy2_4 hHeld ?hr2_4
        case ho2_4 => simp only [List.getElem?_toArray, List.getElem?_cons_succ, List.getElem?_cons_zero]; rfl
        case hQ2_4 => exact fun _ _ _ h => h
        case hy2_4 => exact Or.inl ⟨by rfl, by (intro w hSw; go_simp; try with_reducible rfl)⟩
        try simp only [Act.put, List.setIfInBounds_toArray, List.set_cons_zero, List.set_cons_succ]
        refine wpAnyH_take (i := 3) (oi := ?oi3_4) (v := ?v3_4) ?ho3_4 (by kernel_rfl) (by kernel_rfl) (by kernel_rfl) ?hQ3_4 ?hy3_4 hHeld ?hr3_4
        case ho3_4 => simp only [List.getElem?_toArray, List.getElem?_cons_succ, List.getElem?_cons_zero]; rfl
        case hQ3_4 => exact fun _ _ _ h => h
        case hy3_4 => exact Or.inl ⟨by rfl, by (intro w hSw; go_simp; try with_reducible rfl)⟩
        try simp only [Act.put, List.setIfInBounds_toArray, List.set_cons_zero, List.set_cons_succ]
        refine wpAnyH_take (i := 4) (oi := ?oi4_4) (v := ?v4_4) ?ho4_4 (by kernel_rfl) (by kernel_rfl) (by kernel_rfl) ?hQ4_4 ?hy4_4 hHeld ?hr4_4
        case ho4_4 => simp only [List.getElem?_toArray, List.getElem?_cons_succ, List.getElem?_cons_zero]; rfl
        case hQ4_4 => exact fun _ _ _ h => h
        case hy4_4 => exact Or.inl ⟨by rfl, by (intro w hSw; go_simp; try with_reducible rfl)⟩
        try simp only [Act.put, List.setIfInBounds_toArray, List.set_cons_zero, List.set_cons_succ]
        refine wpAnyH_take (i := 5) (oi := ?oi5_4) (v := ?v5_4) ?ho5_4 (by kernel_rfl) (by kernel_rfl) (by kernel_rfl) ?hQ5_4 ?hy5_4 hHeld ?hr5_4
        case ho5_4 => simp only [List.getElem?_toArray, List.getElem?_cons_succ, List.getElem?_cons_zero]; rfl
        case hQ5_4 => exact fun _ _ _ h => h
        case hy5_4 => exact Or.inl ⟨by rfl, by (intro w hSw; go_simp; try with_reducible rfl)⟩
        try simp only [Act.put, List.setIfInBounds_toArray, List.set_cons_zero, List.set_cons_succ]
        refine wpAnyH_take (i := 6) (oi := ?oi6_4) (v := ?v6_4) ?ho6_4 (by kernel_rfl) (by kernel_rfl) (by kernel_rfl) ?hQ6_4 ?hy6_4 hHeld ?hr6_4
        case ho6_4 => simp only [List.getElem?_toArray, List.getElem?_cons_succ, List.getElem?_cons_zero]; rfl
        case hQ6_4 => exact fun _ _ _ h => h
        case hy6_4 => exact Or.inl ⟨by rfl, by (intro w hSw; go_simp; try with_reducible rfl)⟩
        try simp only [Act.put, List.setIfInBounds_toArray, List.set_cons_zero, List.set_cons_succ]
        refine wpAnyH_take (i := 7) (oi := ?oi7_4) (v := ?v7_4) ?ho7_4 (by kernel_rfl) (by kernel_rfl) (by kernel_rfl) ?hQ7_4 ?hy7_4 hHeld ?hr7_4
        case ho7_4 => simp only [List.getElem?_toArray, List.getElem?_cons_succ, List.getElem?_cons_zero]; rfl
        case hQ7_4 => exact fun _ _ _ h => h
        case hy7_4 => exact Or.inl ⟨by rfl, by (intro w hSw; go_simp; try with_reducible rfl)⟩
        try simp only [Act.put, List.setIfInBounds_toArray, List.set_cons_zero, List.set_cons_succ]
        refine wpAnyH_take (i := 8) (oi := ?oi8_4) (v := ?v8_4) ?ho8_4 (by kernel_rfl) (by kernel_rfl) (by kernel_rfl) ?hQ8_4 ?hy8_4 hHeld ?hr8_4
        case ho8_4 => simp only [List.getElem?_toArray, List.getElem?_cons_succ, List.getElem?_cons_zero]; rfl
        case hQ8_4 => exact fun _ _ _ h => h
        case hy8_4 => exact Or.inl ⟨by rfl, by (intro w hSw; go_simp; try with_reducible rfl)⟩
        try simp only [Act.put, List.setIfInBounds_toArray, List.set_cons_zero, List.set_cons_succ]
        refine wpAnyH_ready (rs := [9]) (by kernel_rfl) (by simp) ?_
        refine AllReadyH.cons (o := ?o9_4) ?ho9_4 (fun K hK => ?hs9_4) AllReadyH.nil
        case ho9_4 => simp only [List.getElem?_toArray, List.getElem?_cons_succ, List.getElem?_cons_zero]; rfl
        go_simp
        (go_at_call 57; refine (s_l1In _ _ _ _).mono ?_; rintro e w2 ⟨rfl, rfl⟩)
        refine hK.out _ _ ?hS9_4 (fun hHeld => ?hr9_4)
        case hS9_4 => exact ⟨c0, c1, c2, c3, c4, co⟩
        clear hK K
        try simp only [Act.put, List.setIfInBounds_toArray, List.set_cons_zero, List.set_cons_succ]
        refine wpAnyH_take (i := 10) (oi := ?oi10_4) (v := ?v10_4) ?ho10_4 (by kernel_rfl) (by kernel_rfl) (by kernel_rfl) ?hQ10_4 ?hy10_4 hHeld ?hr10_4
        case ho10_4 => simp only [List.getElem?_toArray, List.getElem?_cons_succ, List.getElem?_cons_zero]; rfl
        case hQ10_4 => exact fun _ _ _ h => h
        case hy10_4 => exact Or.inl ⟨by rfl, by (intro w hSw; go_simp; try with_reducible rfl)⟩
        try simp only [Act.put, List.setIfInBounds_toArray, List.set_cons_zero, List.set_cons_succ]
        refine wpAnyH_take (i := 11) (oi := ?oi11_4) (v := ?v11_4) ?ho11_4 (by kernel_rfl) (by kernel_rfl) (by kernel_rfl) ?hQ11_4 ?hy11_4 hHeld ?hr11_4
        case ho11_4 => simp only [List.getElem?_toArray, List.getElem?_cons_succ, List.getElem?_cons_zero]; rfl
        case hQ11_4 => exact fun _ _ _ h => h
        case hy11_4 => exact Or.inl ⟨by rfl, by (intro w hSw; go_simp; try with_reducible rfl)⟩
        try simp only [Act.put, List.setIfInBounds_toArray, List.set_cons_zero, List.set_cons_succ]
        refine wpAnyH_take (i := 12) (oi := ?oi12_4) (v := ?v12_4) ?ho12_4 (by kernel_rfl) (by kernel_rfl) (by kernel_rfl) ?hQ12_4 ?hy12_4 hHeld ?hr12_4
        case ho12_4 => simp only [List.getElem?_toArray, List.getElem?_cons_succ, List.getElem?_cons_zero]; rfl
        case hQ12_4 => exact fun _ _ _ h => h
        case hy12_4 => exact Or.inl ⟨by rfl, by (intro w hSw; go_simp; try with_reducible rfl)⟩
        try simp only [Act.put, List.setIfInBounds_toArray, List.set_cons_zero, List.set_cons_succ]
        refine wpAnyH_take (i := 13) (oi := ?oi13_4) (v := ?v13_4) ?ho13_4 (by kernel_rfl) (by kernel_rfl) (by kernel_rfl) ?hQ13_4 ?hy13_4 hHeld ?hr13_4
        case ho13_4 => simp only [List.getElem?_toArray, List.getElem?_cons_succ, List.getElem?_cons_zero]; rfl
        case hQ13_4 => exact fun _ _ _ h => h
        case hy13_4 => exact Or.inl ⟨by rfl, by (intro w hSw; go_simp; try with_reducible rfl)⟩
        try simp only [Act.put, List.setIfInBounds_toArray, List.set_cons_zero, List.set_cons_succ]
        refine wpAnyH_take (i := 15) (oi := ?oi15_4) (v := ?v15_4) ?ho15_4 (by kernel_rfl) (by kernel_rfl) (by kernel_rfl) ?hQ15_4 ?hy15_4 hHeld ?hr15_4
        case ho15_4 => simp only [List.getElem?_toArray, List.getElem?_cons_succ, List.getElem?_cons_zero]; rfl
        case hQ15_4 => exact fun _ _ _ h => h
        case hy15_4 => exact Or.inl ⟨by rfl, by (intro w hSw; go_simp; try with_reducible rfl)⟩
        try simp only [Act.put, List.setIfInBounds_toArray, List.set_cons_zero, List.set_cons_succ]
        refine wpAnyH_take (i := 16) (oi := ?oi16_4) (v := ?v16_4) ?ho16_4 (by kernel_rfl) (by kernel_rfl) (by kernel_rfl) ?hQ16_4 ?hy16_4 hHeld ?hr16_4
        case ho16_4 => simp only [List.getElem?_toArray, List.getElem?_cons_succ, List.getElem?_cons_zero]; rfl
        case hQ16_4 => exact fun _ _ _ h => h
        case hy16_4 => exact Or.inl ⟨by rfl, by (intro w hSw; go_simp; try with_reducible rfl)⟩
        try simp only [Act.put, List.setIfInBounds_toArray, List.set_cons_zero, List.set_cons_succ]
        refine wpAnyH_take (i := 17) (oi := ?oi17_4) (v := ?v17_4) ?ho17_4 (by kernel_rfl) (by kernel_rfl) (by kernel_rfl) ?hQ17_4 ?hy17_4 hHeld ?hr17_4
        case ho17_4 => simp only [List.getElem?_toArray, List.getElem?_cons_succ, List.getElem?_cons_zero]; rfl
        case hQ17_4 => exact fun _ _ _ h => h
        case hy17_4 => exact Or.inl ⟨by rfl, by (intro w hSw; go_simp; try with_reducible rfl)⟩
        try simp only [Act.put, List.setIfInBounds_toArray, List.set_cons_zero, List.set_cons_succ]
        refine wpAnyH_take (i := 18) (oi := ?oi18_4) (v := ?v18_4) ?ho18_4 (by kernel_rfl) (by kernel_rfl) (by kernel_rfl) ?hQ18_4 ?hy18_4 hHeld ?hr18_4
        case ho18_4 => simp only [List.getElem?_toArray, List.getElem?_cons_succ, List.getElem?_cons_zero]; rfl
        case hQ18_4 => exact fun _ _ _ h => h
        case hy18_4 => exact Or.inl ⟨by rfl, by (intro w hSw; go_simp; try with_reducible rfl)⟩
        try simp only [Act.put, List.setIfInBounds_toArray, List.set_cons_zero, List.set_cons_succ]
        refine wpAnyH_take (i := 19) (oi := ?oi19_4) (v := ?v19_4) ?ho19_4 (by kernel_rfl) (by kernel_rfl) (by kernel_rfl) ?hQ19_4 ?hy19_4 hHeld ?hr19_4
        case ho19_4 => simp only [List.getElem?_toArray, List.getElem?_cons_succ, List.getElem?_cons_zero]; rfl
        case hQ19_4 => exact fun _ _ _ h => h
        case hy19_4 => exact Or.inl ⟨by rfl, by (intro w hSw; go_simp; try with_reducible rfl)⟩
        try simp only [Act.put, List.setIfInBounds_toArray, List.set_cons_zero, List.set_cons_succ]
        refine wpAnyH_ready (rs := [14]) (by kernel_rfl) (by simp) ?_
        refine AllReadyH.cons (o := ?o14_4) ?ho14_4 (fun K hK => ?hs14_4) AllReadyH.nil
        case ho14_4 => simp only [List.getElem?_toArray, List.getElem?_cons_succ, List.getElem?_cons_zero]; rfl
        go_simp
        (go_at_call 94; refine (s_arDegrees _ _ _ _ _ _ gs _ _ _ os N _ (HH.out.below hb3) HGT ⟨h01, h02⟩ ⟨h11, h12⟩ hN (by omega)).mono ?_; rintro e w4 ⟨r4, k4, rfl, m4, hb4⟩; have hb5 := bel_trans hb3 hb4; have c0 := cell_on c0 hb4; have c1 := cell_on c1 hb4; have c2 := cell_on c2 hb4; have c3 := cell_on c3 hb4; have c4 := cell_on c4 hb4; have co := cell_on co hb4; obtain ⟨db, dof, rfl, dl, dc⟩ := m4.ints.at (i := q) hq)
        refine hK.out _ _ ?hS14_4 (fun hHeld => ?hr14_4)
        case hS14_4 => exact ⟨c0, c1, c2, c3, c4, co⟩
        clear hK K
        try simp only [Act.put, List.setIfInBounds_toArray, List.set_cons_zero, List.set_cons_succ]
        refine wpAnyH_mono (S' := (fun W : World => W.cell? ⟨w.heap.size, 0, none⟩ = some (.int .i64 p) ∧ W.cell? ⟨w.heap.size, 1, none⟩ = some (.int .i64 i0) ∧ W.cell? ⟨w.heap.size, 2, none⟩ = some (.int .i64 i1) ∧ W.cell? ⟨w.heap.size, 3, none⟩ = some (.slice ga gn gc) ∧ W.cell? ⟨w.heap.size, 4, none⟩ = some (.slice (some ⟨ob, oo, none⟩) on oc) ∧ W.cell? ⟨ob, oo + kk, none⟩ = some (.int .i64 q) ∧ W.cell? ⟨db, dof + q, none⟩ = some (.int .i64 (nth (ads 2000000 gs N gn) q)))) (fun _ h => ⟨h.1, h.2.1, h.2.2.1, h.2.2.2.1, h.2.2.2.2.1, h.2.2.2.2.2.1⟩) _ _ _ _ ?_
        replace hHeld := (show ((fun W : World => W.cell? ⟨w.heap.size, 0, none⟩ = some (.int .i64 p) ∧ W.cell? ⟨w.heap.size, 1, none⟩ = some (.int .i64 i0) ∧ W.cell? ⟨w.heap.size, 2, none⟩ = some (.int .i64 i1) ∧ W.cell? ⟨w.heap.size, 3, none⟩ = some (.slice ga gn gc) ∧ W.cell? ⟨w.heap.size, 4, none⟩ = some (.slice (some ⟨ob, oo, none⟩) on oc) ∧ W.cell? ⟨ob, oo + kk, none⟩ = some (.int .i64 q) ∧ W.cell? ⟨db, dof + q, none⟩ = some (.int .i64 (nth (ads 2000000 gs N gn) q)))) _ from (by exact ⟨c0, c1, c2, c3, c4, co, dc⟩))
        refine wpAnyH_take (i := 20) (oi := ?oi20_4) (v := ?v20_4) ?ho20_4 (by kernel_rfl) (by kernel_rfl) (by kernel_rfl) ?hQ20_4 ?hy20_4 hHeld ?hr20_4
        case ho20_4 => simp only [List.getElem?_toArray, List.getElem?_cons_succ, List.getElem?_cons_zero]; rfl
        case hQ20_4 => exact fun _ _ _ h => h
        case hy20_4 => exact Or.inl ⟨by rfl, by (intro w hSw; go_simp; try with_reducible rfl)⟩
        try simp only [Act.put, List.setIfInBounds_toArray, List.set_cons_zero, List.set_cons_succ]
        refine wpAnyH_take (i := 21) (oi := ?oi21_4) (v := ?v21_4) ?ho21_4 (by kernel_rfl) (by kernel_rfl) (by kernel_rfl) ?hQ21_4 ?hy21_4 hHeld ?hr21_4
        case ho21_4 => simp only [List.getElem?_toArray, List.getElem?_cons_succ, List.getElem?_cons_zero]; rfl
        case hQ21_4 => exact fun _ _ _ h => h
        case hy21_4 => exact Or.inl ⟨by rfl, by (intro w hSw; go_simp; try with_reducible rfl)⟩
        try simp only [Act.put, List.setIfInBounds_toArray, List.set_cons_zero, List.set_cons_succ]
        refine wpAnyH_take (i := 22) (oi := ?oi22_4) (v := ?v22_4) ?ho22_4 (by kernel_rfl) (by kernel_rfl) (by kernel_rfl) ?hQ22_4 ?hy22_4 hHeld ?hr22_4
        case ho22_4 => simp only [List.getElem?_toArray, List.getElem?_cons_succ, List.getElem?_cons_zero]; rfl
        case hQ22_4 => exact fun _ _ _ h => h
        case hy22_4 => exact Or.inl ⟨by rfl, by (intro w hSw; go_simp; try with_reducible rfl)⟩
        try simp only [Act.put, List.setIfInBounds_toArray, List.set_cons_zero, List.set_cons_succ]
        refine wpAnyH_take (i := 23) (oi := ?oi23_4) (v := ?v23_4) ?ho23_4 (by kernel_rfl) (by kernel_rfl) (by kernel_rfl) ?hQ23_4 ?hy23_4 hHeld ?hr23_4
        case ho23_4 => simp only [List.getElem?_toArray, List.getElem?_cons_succ, List.getElem?_cons_zero]; rfl
        case hQ23_4 => exact fun _ _ _ h => h
        case hy23_4 => exact Or.inl ⟨by rfl, by (intro w hSw; go_simp; try with_reducible rfl)⟩
        try simp only [Act.put, List.setIfInBounds_toArray, List.set_cons_zero, List.set_cons_succ]
        refine wpAnyH_done (by kernel_rfl) ?_ _
        clear dc dl m4
        go_wp2_with fail
        refine (s_arInputs p i0 i1 _ _ _ _ _ _ _ ⟨by omega, by omega⟩ ⟨by omega, by omega⟩).mono ?_; rintro e w5 ⟨rfl, hb6⟩; rw [hN]
        replace c0 := cell_on c0 hb6; replace c1 := cell_on c1 hb6; replace c2 := cell_on c2 hb6; replace c3 := cell_on c3 hb6; replace c4 := cell_on c4 hb6; replace co := cell_on co hb6
        have hb06 := bel_trans hb5 hb6
        have zy := hb06.size
        rw [zz] at zy
        go_wp2_with (at_make; refine wpList_make_full _ rfl _ _ 24 rfl (w.heap.size + 1) 3 i00 (.int .i64 0) 1 Try.underlying24 hi hz0 hz1 _ _ _ _ N rfl rfl rfl rfl ?b1 ?b2 ?b3 ?_)
        case b1 => rw [hz2]; omega
        case b2 => unfold maxLen; omega
        case b3 => exact zy
        intro w6 hown hgrow
        have hb7 : Below w5.heap.size w5 w6 := (Below.refl _ _).grown hgrow (Nat.le_refl _) (fun k hk => by cases hk)
        try simp only [Nat.mul_one, Value.cells] at hown
        rw [made_ivs] at hown
        have hrow := row_of_owns hown
        have hi6 := OwnI.ofRow (n := N) hrow (by simp) (by omega) (fun x hx => by rw [List.eq_of_mem_replicate hx]; unfold Fits; omega)
        have zi : w5.heap.size < w6.heap.size := by
          rcases Nat.lt_or_ge w5.heap.size w6.heap.size with z | z
          · exact z
          · rw [Array.getElem?_eq_none z] at hrow; cases hrow
        replace c0 := cell_on c0 hb7; replace c1 := cell_on c1 hb7; replace c2 := cell_on c2 hb7; replace c3 := cell_on c3 hb7; replace c4 := cell_on c4 hb7; replace co := cell_on co hb7
        have hb07 := bel_trans hb06 hb7
        have HI6 := Lib.hid hi6
        have HR6 := Lib.hid hrow
        have HH6 := Lib.hid (HH.out.below hb07)
        have HZ : Hid (∀ x ∈ List.replicate N (0 : Int), 0 ≤ x ∧ x < p) := zeros_bd hp1 N
        clear hown hgrow hi hz0 hz1 hz2 hi6 hrow hb7 hb06
        go_wp2_with fail
        refine wp_region_held_drew (S := (fun W => W.cell? ⟨w.heap.size, 0, none⟩ = some (.int .i64 p) ∧ W.cell? ⟨w.heap.size, 1, none⟩ = some (.int .i64 i0) ∧ W.cell? ⟨w.heap.size, 2, none⟩ = some (.int .i64 i1) ∧ W.cell? ⟨w.heap.size, 3, none⟩ = some (.slice ga gn gc) ∧ W.cell? ⟨w.heap.size, 4, none⟩ = some (.slice (some ⟨ob, oo, none⟩) on oc) ∧ W.cell? ⟨ob, oo + kk, none⟩ = some (.int .i64 q))) (by kernel_rfl) (by exact ⟨c0, c1, c2, c3, c4, co⟩) (fun hHeld => ?_)
        refine wpAnyH_take (i := 0) (oi := ?oi0_5) (v := ?v0_5) ?ho0_5 (by kernel_rfl) (by kernel_rfl) (by kernel_rfl) ?hQ0_5 ?hy0_5 hHeld ?hr0_5
        case ho0_5 => simp only [List.getElem?_toArray, List.getElem?_cons_succ, List.getElem?_cons_zero]; rfl
        case hQ0_5 => exact fun _ _ _ h => h
        case hy0_5 => exact Or.inl ⟨by rfl, by (intro w hSw; go_simp; try with_reducible rfl)⟩
        try simp only [Act.put, List.setIfInBounds_toArray, List.set_cons_zero, List.set_cons_succ]
        refine wpAnyH_take (i := 1) (oi := ?oi1_5) (v := ?v1_5) ?ho1_5 (by kernel_rfl) (by kernel_rfl) (by kernel_rfl) ?hQ1_5 ?hy1_5 hHeld ?hr1_5
        case ho1_5 => simp only [List.getElem?_toArray, List.getElem?_cons_succ, List.getElem?_cons_zero]; rfl
        case hQ1_5 => exact fun _ _ _ h => h
        case hy1_5 => exact Or.inl ⟨by rfl, by (intro w hSw; go_simp; try with_reducible rfl)⟩
        try simp only [Act.put, List.setIfInBounds_toArray, List.set_cons_zero, List.set_cons_succ]
        refine wpAnyH_take (i := 3) (oi := ?oi3_5) (v := ?v3_5) ?ho3_5 (by kernel_rfl) (by kernel_rfl) (by kernel_rfl) ?hQ3_5 ?hy3_5 hHeld ?hr3_5
        case ho3_5 => simp only [List.getElem?_toArray, List.getElem?_cons_succ, List.getElem?_cons_zero]; rfl
        case hQ3_5 => exact fun _ _ _ h => h
        case hy3_5 => exact Or.inl ⟨by rfl, by (intro w hSw; go_simp; try with_reducible rfl)⟩
        try simp only [Act.put, List.setIfInBounds_toArray, List.set_cons_zero, List.set_cons_succ]
        refine wpAnyH_take (i := 4) (oi := ?oi4_5) (v := ?v4_5) ?ho4_5 (by kernel_rfl) (by kernel_rfl) (by kernel_rfl) ?hQ4_5 ?hy4_5 hHeld ?hr4_5
        case ho4_5 => simp only [List.getElem?_toArray, List.getElem?_cons_succ, List.getElem?_cons_zero]; rfl
        case hQ4_5 => exact fun _ _ _ h => h
        case hy4_5 => exact Or.inl ⟨by rfl, by (intro w hSw; go_simp; try with_reducible rfl)⟩
        try simp only [Act.put, List.setIfInBounds_toArray, List.set_cons_zero, List.set_cons_succ]
        refine wpAnyH_take (i := 5) (oi := ?oi5_5) (v := ?v5_5) ?ho5_5 (by kernel_rfl) (by kernel_rfl) (by kernel_rfl) ?hQ5_5 ?hy5_5 hHeld ?hr5_5
        case ho5_5 => simp only [List.getElem?_toArray, List.getElem?_cons_succ, List.getElem?_cons_zero]; rfl
        case hQ5_5 => exact fun _ _ _ h => h
        case hy5_5 => exact Or.inl ⟨by rfl, by (intro w hSw; go_simp; try with_reducible rfl)⟩
        try simp only [Act.put, List.setIfInBounds_toArray, List.set_cons_zero, List.set_cons_succ]
        refine wpAnyH_take (i := 6) (oi := ?oi6_5) (v := ?v6_5) ?ho6_5 (by kernel_rfl) (by kernel_rfl) (by kernel_rfl) ?hQ6_5 ?hy6_5 hHeld ?hr6_5
        case ho6_5 => simp only [List.getElem?_toArray, List.getElem?_cons_succ, List.getElem?_cons_zero]; rfl
        case hQ6_5 => exact fun _ _ _ h => h
        case hy6_5 => exact Or.inl ⟨by rfl, by (intro w hSw; go_simp; try with_reducible rfl)⟩
        try simp only [Act.put, List.setIfInBounds_toArray, List.set_cons_zero, List.set_cons_succ]
        refine wpAnyH_take (i := 7) (oi := ?oi7_5) (v := ?v7_5) ?ho7_5 (by kernel_rfl) (by kernel_rfl) (by kernel_rfl) ?hQ7_5 ?hy7_5 hHeld ?hr7_5
        case ho7_5 => simp only [List.getElem?_toArray, List.getElem?_cons_succ, List.getElem?_cons_zero]; rfl
        case hQ7_5 => exact fun _ _ _ h => h
        case hy7_5 => exact Or.inl ⟨by rfl, by (intro w hSw; go_simp; try with_reducible rfl)⟩
        try simp only [Act.put, List.setIfInBounds_toArray, List.set_cons_zero, List.set_cons_succ]
        refine wpAnyH_ready (rs := [2]) (by kernel_rfl) (by simp) ?_
        refine AllReadyH.cons (o := ?o2_5) ?ho2_5 (fun K hK => ?hs2_5) AllReadyH.nil
        case ho2_5 => simp only [List.getElem?_toArray, List.getElem?_cons_succ, List.getElem?_cons_zero]; rfl
        go_simp
        (go_at_call 96; refine (s_arValues _ _ _ _ _ _ gs _ _ _ os _ _ _ _ _ (HH6.out.below (bel_drew _)) (HI6.out.ints.below (bel_drew _)) HGT HZ ⟨hp1, hp2⟩ (by omega)).mono ?_; rintro e w7 ⟨r7, k7, rfl, m7, hb8⟩; have hb9 := bel_trans (bel_drew _) hb8; have c0 := cell_on c0 hb9; have c1 := cell_on c1 hb9; have c2 := cell_on c2 hb9; have c3 := cell_on c3 hb9; have c4 := cell_on c4 hb9; have co := cell_on co hb9; obtain ⟨vb, vo, rfl, vl, vc⟩ := m7.ints.at (i := q) hq)
        refine hK.out _ _ ?hS2_5 (fun hHeld => ?hr2_5)
        case hS2_5 => exact ⟨c0, c1, c2, c3, c4, co⟩
        clear hK K
        try simp only [Act.put, List.setIfInBounds_toArray, List.set_cons_zero, List.set_cons_succ]
        refine wpAnyH_mono (S' := (fun W : World => W.cell? ⟨w.heap.size, 0, none⟩ = some (.int .i64 p) ∧ W.cell? ⟨w.heap.size, 1, none⟩ = some (.int .i64 i0) ∧ W.cell? ⟨w.heap.size, 2, none⟩ = some (.int .i64 i1) ∧ W.cell? ⟨w.heap.size, 3, none⟩ = some (.slice ga gn gc) ∧ W.cell? ⟨w.heap.size, 4, none⟩ = some (.slice (some ⟨ob, oo, none⟩) on oc) ∧ W.cell? ⟨ob, oo + kk, none⟩ = some (.int .i64 q) ∧ W.cell? ⟨vb, vo + q, none⟩ = some (.int .i64 (nth (avs p gs (List.replicate N 0) gn) q)))) (fun _ h => ⟨h.1, h.2.1, h.2.2.1, h.2.2.2.1, h.2.2.2.2.1, h.2.2.2.2.2.1⟩) _ _ _ _ ?_
        replace hHeld := (show ((fun W : World => W.cell? ⟨w.heap.size, 0, none⟩ = some (.int .i64 p) ∧ W.cell? ⟨w.heap.size, 1, none⟩ = some (.int .i64 i0) ∧ W.cell? ⟨w.heap.size, 2, none⟩ = some (.int .i64 i1) ∧ W.cell? ⟨w.heap.size, 3, none⟩ = some (.slice ga gn gc) ∧ W.cell? ⟨w.heap.size, 4, none⟩ = some (.slice (some ⟨ob, oo, none⟩) on oc) ∧ W.cell? ⟨ob, oo + kk, none⟩ = some (.int .i64 q) ∧ W.cell? ⟨vb, vo + q, none⟩ = some (.int .i64 (nth (avs p gs (List.replicate N 0) gn) q)))) _ from (by exact ⟨c0, c1, c2, c3, c4, co, vc⟩))
        refine wpAnyH_take (i := 8) (oi := ?oi8_5) (v := ?v8_5) ?ho8_5 (by kernel_rfl) (by kernel_rfl) (by kernel_rfl) ?hQ8_5 ?hy8_5 hHeld ?hr8_5
        case ho8_5 => simp only [List.getElem?_toArray, List.getElem?_cons_succ, List.getElem?_cons_zero]; rfl
        case hQ8_5 => exact fun _ _ _ h => h
        case hy8_5 => exact Or.inl ⟨by rfl, by (intro w hSw; go_simp; try with_reducible rfl)⟩
        try simp only [Act.put, List.setIfInBounds_toArray, List.set_cons_zero, List.set_cons_succ]
        refine wpAnyH_take (i := 9) (oi := ?oi9_5) (v := ?v9_5) ?ho9_5 (by kernel_rfl) (by kernel_rfl) (by kernel_rfl) ?hQ9_5 ?hy9_5 hHeld ?hr9_5
        case ho9_5 => simp only [List.getElem?_toArray, List.getElem?_cons_succ, List.getElem?_cons_zero]; rfl
        case hQ9_5 => exact fun _ _ _ h => h
        case hy9_5 => exact Or.inl ⟨by rfl, by (intro w hSw; go_simp; try with_reducible rfl)⟩
        try simp only [Act.put, List.setIfInBounds_toArray, List.set_cons_zero, List.set_cons_succ]
        refine wpAnyH_take (i := 10) (oi := ?oi10_5) (v := ?v10_5) ?ho10_5 (by kernel_rfl) (by kernel_rfl) (by kernel_rfl) ?hQ10_5 ?hy10_5 hHeld ?hr10_5
        case ho10_5 => simp only [List.getElem?_toArray, List.getElem?_cons_succ, List.getElem?_cons_zero]; rfl
        case hQ10_5 => exact fun _ _ _ h => h
        case hy10_5 => exact Or.inl ⟨by rfl, by (intro w hSw; go_simp; try with_reducible rfl)⟩
        try simp only [Act.put, List.setIfInBounds_toArray, List.set_cons_zero, List.set_cons_succ]
        refine wpAnyH_done (by kernel_rfl) ?_ _
        have HC0 := Lib.hid (nth_bd (by omega) (avs_res hp1 gs _ HZ.out gn) q)
        have HB7 := Lib.hid (bel_trans (bel_trans A0 hb07) hb9)
        have HX7 : Hid (B5 w7 w.heap.size (.int .i64 p) (.int .i64 i0) (.int .i64 i1) (.slice ga gn gc) (.slice (some ⟨ob, oo, none⟩) on oc)) := ⟨c0, c1, c2, c3, c4⟩
        have HR7 := Lib.hid (heap_of_below hb9 HR6.out)
        have HZ7 := hb9.size
        clear HR6 HI6 HH6 vc m7 hb9 hb8 hb07 c0 c1 c2 c3 c4 vl
        have HT0 : Hid (lfT p gs N gn q 0 = [nth (avs p gs (List.replicate N 0) gn) q]) := rfl
        have HTS : Hid (∀ j, lfT p gs N gn q (j + 1) = lfT p gs N gn q j ++ [(nth (avs p gs ((List.replicate N 0).set j 1) gn) q - nth (avs p gs (List.replicate N 0) gn) q) % p]) := fun j => rfl
        have HTB : Hid (∀ x ∈ lfT p gs N gn q N, Fits x) := fun x hx => by have := lfT_bd hp1 gs N gn q N x hx; unfold Fits; omega
        generalize nth (avs p gs (List.replicate N 0) gn) q = C0 at *
        obtain ⟨hC1, hC2⟩ := HC0.out
        have HL := Lib.hid (World.ownsRow_lit (base := w7.heap.size) (e := 3) (size := 1) w7 #[.int .i64 C0] 1 (Nat.le_refl _) (by decide) rfl)
        have HLB := Lib.hid (bel_alloc w7 (.cells #[.int .i64 C0] 3))
        go_wp2
        go_loopw [8, 51] (fun v  i wr => ∃ j : Nat, j ≤ N ∧ i = .int .i64 j ∧ Hid (wr.ownsRow w7.heap.size 3 1 v (j + 1) (ivs (lfT p gs N gn q j))) ∧ Hid (Below w.heap.size w wr) ∧ Hid (wr.heap[w5.heap.size]? = some (.cells (ivs (List.replicate N 0)).toArray 3 (0, 0))) ∧ Hid (B5 wr w.heap.size (.int .i64 p) (.int .i64 i0) (.int .i64 i1) (.slice ga gn gc) (.slice (some ⟨ob, oo, none⟩) on oc)) ∧ Hid (w7.heap.size ≤ wr.heap.size)) (fun _ i _ => N - (intOf i).toNat)
        case atStart => exact ⟨0, by omega, rfl, by rw [HT0.out]; exact HL.out, bel_trans HB7.out HLB.out, heap_of_below HLB.out HR7.out, HX7.out.on HLB.out, HLB.out.size⟩
        case round =>
          clear HL HLB HX7 HR7 HB7 HT0 co
          obtain ⟨j, hj, rfl, HO, HB, HR, HX, HZS⟩ := hrel
          have z5 := HZS.out
          by_cases hlj : j < N
          · have hlji : (j : Int) < (N : Int) := by omega
            have hIW := OwnI.ofRow (n := N) HR.out (by simp) (by omega) (fun x hx => by rw [List.eq_of_mem_replicate hx]; unfold Fits; omega)
            obtain ⟨g, e, _, hgl, hcA, hfA⟩ := hIW.at hlj
            simp only [Option.some.injEq, Addr.mk.injEq] at e
            obtain ⟨rfl, _, _⟩ := e
            have hI1 := hIW.set hlj 1 (by unfold Fits; omega)
            have HI1 := Lib.hid hI1
            have HR1 := Lib.hid (row_of_owns hI1.own)
            have HO1 := Lib.hid (ownsRow_else HO.out (p := ⟨w5.heap.size, j, none⟩) (by show w5.heap.size < w7.heap.size; omega) (.int .i64 1))
            have HB1 := Lib.hid (HB.out.setCell (p := ⟨w5.heap.size, j, none⟩) (by show w.heap.size ≤ w5.heap.size; omega) (.int .i64 1))
            have HX1 := Lib.hid (HX.out.other (p := ⟨w5.heap.size, j, none⟩) (by show w5.heap.size ≠ w.heap.size; omega) (.int .i64 1))
            have HS1 : Hid (w7.heap.size ≤ (wr.setCell ⟨w5.heap.size, j, none⟩ (.int .i64 1)).heap.size) := by show _ ≤ _; simpa [World.setCell] using z5
            have hx := HX1.out
            obtain ⟨c0, c1, c2, c3, c4⟩ := hx
            have HH1 := Lib.hid (H0.out.below HB1.out)
            have HU1 : Hid (∀ x ∈ (List.replicate N (0 : Int)).set j 1, 0 ≤ x ∧ x < p) := unit_bd hp1 N j
            have HXB := nth_bd (by omega) (avs_res hp1 gs _ HU1.out gn) q
            have HS := Lib.hid (HTS.out j)
            obtain ⟨X, hX⟩ : ∃ X, X = nth (avs p gs ((List.replicate N 0).set j 1) gn) q := ⟨_, rfl⟩
            rw [← hX] at HS HXB
            have HXX := Lib.hid hX
            obtain ⟨hX1, hX2⟩ := HXB
            have e1 : IntKind.i64.wrap (X - C0) = X - C0 := IntWalk.i64_in _ (by omega)
            have e2 : IntKind.i64.wrap (X - C0 + p) = X - C0 + p := IntWalk.i64_in _ (by omega)
            have e3 : (X - C0 + p).tmod p = (X - C0) % p := by rw [Int.tmod_eq_emod_of_nonneg (by omega), Int.add_emod_right]
            have hp0 : ¬ p = 0 := by omega
            have co := cell_on H0co HB1.out
            have zw : w.heap.size < w7.heap.size := by omega
            have zo : ob < w7.heap.size := by omega
            have HLT := Lib.hid (fun g e => (ownLt HO1.out g e).2)
            clear hI1 hX
            go_wp2_with fail
            generalize wr.setCell ⟨w5.heap.size, j, none⟩ (.int .i64 1) = W6 at *
            go_wp2_with fail
            refine wp_region_held_drew (S := (fun W => W.cell? ⟨w.heap.size, 0, none⟩ = some (.int .i64 p) ∧ W.cell? ⟨w.heap.size, 1, none⟩ = some (.int .i64 i0) ∧ W.cell? ⟨w.heap.size, 2, none⟩ = some (.int .i64 i1) ∧ W.cell? ⟨w.heap.size, 3, none⟩ = some (.slice ga gn gc) ∧ W.cell? ⟨w.heap.size, 4, none⟩ = some (.slice (some ⟨ob, oo, none⟩) on oc) ∧ W.cell? ⟨ob, oo + kk, none⟩ = some (.int .i64 q))) (by kernel_rfl) (by exact ⟨c0, c1, c2, c3, c4, co⟩) (fun hHeld => ?_)
            refine wpAnyH_take (i := 0) (oi := ?oi0_6) (v := ?v0_6) ?ho0_6 (by kernel_rfl) (by kernel_rfl) (by kernel_rfl) ?hQ0_6 ?hy0_6 hHeld ?hr0_6
            case ho0_6 => simp only [List.getElem?_toArray, List.getElem?_cons_succ, List.getElem?_cons_zero]; rfl
            case hQ0_6 => exact fun _ _ _ h => h
            case hy0_6 => exact Or.inl ⟨by rfl, by (intro w hSw; go_simp; try with_reducible rfl)⟩
            try simp only [Act.put, List.setIfInBounds_toArray, List.set_cons_zero, List.set_cons_succ]
            refine wpAnyH_take (i := 1) (oi := ?oi1_6) (v := ?v1_6) ?ho1_6 (by kernel_rfl) (by kernel_rfl) (by kernel_rfl) ?hQ1_6 ?hy1_6 hHeld ?hr1_6
            case ho1_6 => simp only [List.getElem?_toArray, List.getElem?_cons_succ, List.getElem?_cons_zero]; rfl
            case hQ1_6 => exact fun _ _ _ h => h
            case hy1_6 => exact Or.inl ⟨by rfl, by (intro w hSw; go_simp; try with_reducible rfl)⟩
            try simp only [Act.put, List.setIfInBounds_toArray, List.set_cons_zero, List.set_cons_succ]
            refine wpAnyH_take (i := 2) (oi := ?oi2_6) (v := ?v2_6) ?ho2_6 (by kernel_rfl) (by kernel_rfl) (by kernel_rfl) ?hQ2_6 ?hy2_6 hHeld ?hr2_6
            case ho2_6 => simp only [List.getElem?_toArray, List.getElem?_cons_succ, List.getElem?_cons_zero]; rfl
            case hQ2_6 => exact fun _ _ _ h => h
            case hy2_6 => exact Or.inl ⟨by rfl, by (intro w hSw; go_simp; try with_reducible rfl)⟩
            try simp only [Act.put, List.setIfInBounds_toArray, List.set_cons_zero, List.set_cons_succ]
            refine wpAnyH_take (i := 4) (oi := ?oi4_6) (v := ?v4_6) ?ho4_6 (by kernel_rfl) (by kernel_rfl) (by kernel_rfl) ?hQ4_6 ?hy4_6 hHeld ?hr4_6
            case ho4_6 => simp only [List.getElem?_toArray, List.getElem?_cons_succ, List.getElem?_cons_zero]; rfl
            case hQ4_6 => exact fun _ _ _ h => h
            case hy4_6 => exact Or.inl ⟨by rfl, by (intro w hSw; go_simp; try with_reducible rfl)⟩
            try simp only [Act.put, List.setIfInBounds_toArray, List.set_cons_zero, List.set_cons_succ]
            refine wpAnyH_take (i := 5) (oi := ?oi5_6) (v := ?v5_6) ?ho5_6 (by kernel_rfl) (by kernel_rfl) (by kernel_rfl) ?hQ5_6 ?hy5_6 hHeld ?hr5_6
            case ho5_6 => simp only [List.getElem?_toArray, List.getElem?_cons_succ, List.getElem?_cons_zero]; rfl
            case hQ5_6 => exact fun _ _ _ h => h
            case hy5_6 => exact Or.inl ⟨by rfl, by (intro w hSw; go_simp; try with_reducible rfl)⟩
            try simp only [Act.put, List.setIfInBounds_toArray, List.set_cons_zero, List.set_cons_succ]
            refine wpAnyH_take (i := 6) (oi := ?oi6_6) (v := ?v6_6) ?ho6_6 (by kernel_rfl) (by kernel_rfl) (by kernel_rfl) ?hQ6_6 ?hy6_6 hHeld ?hr6_6
            case ho6_6 => simp only [List.getElem?_toArray, List.getElem?_cons_succ, List.getElem?_cons_zero]; rfl
            case hQ6_6 => exact fun _ _ _ h => h
            case hy6_6 => exact Or.inl ⟨by rfl, by (intro w hSw; go_simp; try with_reducible rfl)⟩
            try simp only [Act.put, List.setIfInBounds_toArray, List.set_cons_zero, List.set_cons_succ]
            refine wpAnyH_take (i := 7) (oi := ?oi7_6) (v := ?v7_6) ?ho7_6 (by kernel_rfl) (by kernel_rfl) (by kernel_rfl) ?hQ7_6 ?hy7_6 hHeld ?hr7_6
            case ho7_6 => simp only [List.getElem?_toArray, List.getElem?_cons_succ, List.getElem?_cons_zero]; rfl
            case hQ7_6 => exact fun _ _ _ h => h
            case hy7_6 => exact Or.inl ⟨by rfl, by (intro w hSw; go_simp; try with_reducible rfl)⟩
            try simp only [Act.put, List.setIfInBounds_toArray, List.set_cons_zero, List.set_cons_succ]
            refine wpAnyH_take (i := 8) (oi := ?oi8_6) (v := ?v8_6) ?ho8_6 (by kernel_rfl) (by kernel_rfl) (by kernel_rfl) ?hQ8_6 ?hy8_6 hHeld ?hr8_6
            case ho8_6 => simp only [List.getElem?_toArray, List.getElem?_cons_succ, List.getElem?_cons_zero]; rfl
            case hQ8_6 => exact fun _ _ _ h => h
            case hy8_6 => exact Or.inl ⟨by rfl, by (intro w hSw; go_simp; try with_reducible rfl)⟩
            try simp only [Act.put, List.setIfInBounds_toArray, List.set_cons_zero, List.set_cons_succ]
            refine wpAnyH_take (i := 11) (oi := ?oi11_6) (v := ?v11_6) ?ho11_6 (by kernel_rfl) (by kernel_rfl) (by kernel_rfl) ?hQ11_6 ?hy11_6 hHeld ?hr11_6
            case ho11_6 => simp only [List.getElem?_toArray, List.getElem?_cons_succ, List.getElem?_cons_zero]; rfl
            case hQ11_6 => exact fun _ _ _ h => h
            case hy11_6 => exact Or.inl ⟨by rfl, by (intro w hSw; go_simp; try with_reducible rfl)⟩
            try simp only [Act.put, List.setIfInBounds_toArray, List.set_cons_zero, List.set_cons_succ]
            refine wpAnyH_take (i := 13) (oi := ?oi13_6) (v := ?v13_6) ?ho13_6 (by kernel_rfl) (by kernel_rfl) (by kernel_rfl) ?hQ13_6 ?hy13_6 hHeld ?hr13_6
            case ho13_6 => simp only [List.getElem?_toArray, List.getElem?_cons_succ, List.getElem?_cons_zero]; rfl
            case hQ13_6 => exact fun _ _ _ h => h
            case hy13_6 => exact Or.inl ⟨by rfl, by (intro w hSw; go_simp; try with_reducible rfl)⟩
            try simp only [Act.put, List.setIfInBounds_toArray, List.set_cons_zero, List.set_cons_succ]
            refine wpAnyH_take (i := 14) (oi := ?oi14_6) (v := ?v14_6) ?ho14_6 (by kernel_rfl) (by kernel_rfl) (by kernel_rfl) ?hQ14_6 ?hy14_6 hHeld ?hr14_6
            case ho14_6 => simp only [List.getElem?_toArray, List.getElem?_cons_succ, List.getElem?_cons_zero]; rfl
            case hQ14_6 => exact fun _ _ _ h => h
            case hy14_6 => exact Or.inl ⟨by rfl, by (intro w hSw; go_simp; try with_reducible rfl)⟩
            try simp only [Act.put, List.setIfInBounds_toArray, List.set_cons_zero, List.set_cons_succ]
            refine wpAnyH_ready (rs := [3]) (by kernel_rfl) (by simp) ?_
            refine AllReadyH.cons (o := ?o3_6) ?ho3_6 (fun K hK => ?hs3_6) AllReadyH.nil
            case ho3_6 => simp only [List.getElem?_toArray, List.getElem?_cons_succ, List.getElem?_cons_zero]; rfl
            go_simp
            (go_at_call 96; refine (s_arValues _ _ _ _ _ _ gs _ _ _ os _ _ _ _ _ (HH1.out.below (bel_drew _)) (HI1.out.ints.below (bel_drew _)) HGT HU1 ⟨hp1, hp2⟩ (by omega)).mono ?_; rintro e w8 ⟨r8, k8, rfl, m8, hb8⟩; have hb9 := bel_trans (bel_drew _) hb8; have c0 := cell_on c0 hb9; have c1 := cell_on c1 hb9; have c2 := cell_on c2 hb9; have c3 := cell_on c3 hb9; have c4 := cell_on c4 hb9; have co := cell_on co hb9; obtain ⟨vb, vo, rfl, vBg, vl, vc, _⟩ := m8.at (i := q) hq; rw [← HXX.out] at vc; have hvB := Nat.le_trans (bel_drew W6).size vBg)
            refine hK.out _ _ ?hS3_6 (fun hHeld => ?hr3_6)
            case hS3_6 => exact ⟨c0, c1, c2, c3, c4, co⟩
            clear hK K
            try simp only [Act.put, List.setIfInBounds_toArray, List.set_cons_zero, List.set_cons_succ]
            refine wpAnyH_mono (S' := (fun W : World => W.cell? ⟨w.heap.size, 0, none⟩ = some (.int .i64 p) ∧ W.cell? ⟨w.heap.size, 1, none⟩ = some (.int .i64 i0) ∧ W.cell? ⟨w.heap.size, 2, none⟩ = some (.int .i64 i1) ∧ W.cell? ⟨w.heap.size, 3, none⟩ = some (.slice ga gn gc) ∧ W.cell? ⟨w.heap.size, 4, none⟩ = some (.slice (some ⟨ob, oo, none⟩) on oc) ∧ W.cell? ⟨ob, oo + kk, none⟩ = some (.int .i64 q) ∧ W.cell? ⟨vb, vo + q, none⟩ = some (.int .i64 X))) (fun _ h => ⟨h.1, h.2.1, h.2.2.1, h.2.2.2.1, h.2.2.2.2.1, h.2.2.2.2.2.1⟩) _ _ _ _ ?_
            replace hHeld := (show ((fun W : World => W.cell? ⟨w.heap.size, 0, none⟩ = some (.int .i64 p) ∧ W.cell? ⟨w.heap.size, 1, none⟩ = some (.int .i64 i0) ∧ W.cell? ⟨w.heap.size, 2, none⟩ = some (.int .i64 i1) ∧ W.cell? ⟨w.heap.size, 3, none⟩ = some (.slice ga gn gc) ∧ W.cell? ⟨w.heap.size, 4, none⟩ = some (.slice (some ⟨ob, oo, none⟩) on oc) ∧ W.cell? ⟨ob, oo + kk, none⟩ = some (.int .i64 q) ∧ W.cell? ⟨vb, vo + q, none⟩ = some (.int .i64 X))) _ from (by exact ⟨c0, c1, c2, c3, c4, co, vc⟩))
            refine wpAnyH_take (i := 9) (oi := ?oi9_6) (v := ?v9_6) ?ho9_6 (by kernel_rfl) (by kernel_rfl) (by kernel_rfl) ?hQ9_6 ?hy9_6 hHeld ?hr9_6
            case ho9_6 => simp only [List.getElem?_toArray, List.getElem?_cons_succ, List.getElem?_cons_zero]; rfl
            case hQ9_6 => exact fun _ _ _ h => h
            case hy9_6 => exact Or.inl ⟨by rfl, by (intro w hSw; go_simp; try with_reducible rfl)⟩
            try simp only [Act.put, List.setIfInBounds_toArray, List.set_cons_zero, List.set_cons_succ]
            refine wpAnyH_take (i := 10) (oi := ?oi10_6) (v := ?v10_6) ?ho10_6 (by kernel_rfl) (by kernel_rfl) (by kernel_rfl) ?hQ10_6 ?hy10_6 hHeld ?hr10_6
            case ho10_6 => simp only [List.getElem?_toArray, List.getElem?_cons_succ, List.getElem?_cons_zero]; rfl
            case hQ10_6 => exact fun _ _ _ h => h
            case hy10_6 => exact Or.inl ⟨by rfl, by (intro w hSw; go_simp; try with_reducible rfl)⟩
            try simp only [Act.put, List.setIfInBounds_toArray, List.set_cons_zero, List.set_cons_succ]
            refine wpAnyH_take (i := 12) (oi := ?oi12_6) (v := ?v12_6) ?ho12_6 (by kernel_rfl) (by kernel_rfl) (by kernel_rfl) ?hQ12_6 ?hy12_6 hHeld ?hr12_6
            case ho12_6 => simp only [List.getElem?_toArray, List.getElem?_cons_succ, List.getElem?_cons_zero]; rfl
            case hQ12_6 => exact fun _ _ _ h => h
            case hy12_6 => exact Or.inl ⟨by rfl, by (intro w hSw; go_simp; try with_reducible rfl)⟩
            try simp only [Act.put, List.setIfInBounds_toArray, List.set_cons_zero, List.set_cons_succ]
            refine wpAnyH_ready (rs := [15]) (by kernel_rfl) (by simp) ?_
            refine AllReadyH.cons (o := ?o15_6) ?ho15_6 (fun K hK => ?hs15_6) AllReadyH.nil
            case ho15_6 => simp only [List.getElem?_toArray, List.getElem?_cons_succ, List.getElem?_cons_zero]; rfl
            go_simp
            (go_at_call 51; refine (s_btMod _ _ _ (by omega) (by omega) (by omega) (by omega)).mono ?_; rintro e w2 ⟨rfl, rfl⟩)
            refine hK.out _ _ ?hS15_6 (fun hHeld => ?hr15_6)
            case hS15_6 => exact ⟨c0, c1, c2, c3, c4, co, vc⟩
            clear hK K
            try simp only [Act.put, List.setIfInBounds_toArray, List.set_cons_zero, List.set_cons_succ]
            refine wpAnyH_ready (rs := [16]) (by kernel_rfl) (by simp) ?_
            refine AllReadyH.cons (o := ?o16_6) ?ho16_6 (fun K hK => ?hs16_6) AllReadyH.nil
            case ho16_6 => simp only [List.getElem?_toArray, List.getElem?_cons_succ, List.getElem?_cons_zero]; rfl
            go_simp
            have hba := bel_alloc w8 (.cells #[.int .i64 ((X - C0) % p)] 3); have c0 := cell_on c0 hba; have c1 := cell_on c1 hba; have c2 := cell_on c2 hba; have c3 := cell_on c3 hba; have c4 := cell_on c4 hba; have co := cell_on co hba; have vc := cell_on vc hba
            refine hK.out _ _ ?hS16_6 (fun hHeld => ?hr16_6)
            case hS16_6 => exact ⟨c0, c1, c2, c3, c4, co, vc⟩
            clear hK K
            try simp only [Act.put, List.setIfInBounds_toArray, List.set_cons_zero, List.set_cons_succ]
            refine wpAnyH_ready (rs := [17]) (by kernel_rfl) (by simp) ?_
            refine AllReadyH.cons (o := ?o17_6) ?ho17_6 (fun K hK => ?hs17_6) AllReadyH.nil
            case ho17_6 => simp only [List.getElem?_toArray, List.getElem?_cons_succ, List.getElem?_cons_zero]; rfl
            refine step_app W6 w7.heap.size (j + 1) _ (lfT p gs N gn q j) ((X - C0) % p) _ (by rfl) _ _ (by rfl) (by rfl) (by rfl) (by simp [World.cell?_alloc_at]) HO1.out (by exact bel_trans hb9 hba) (by exact HS1.out) (by omega) ?_; intro v9 w9 hv9 hb10 hg10; have c0 := (hb10.cell (p := ⟨w.heap.size, 0, none⟩) zw).trans c0; have c1 := (hb10.cell (p := ⟨w.heap.size, 1, none⟩) zw).trans c1; have c2 := (hb10.cell (p := ⟨w.heap.size, 2, none⟩) zw).trans c2; have c3 := (hb10.cell (p := ⟨w.heap.size, 3, none⟩) zw).trans c3; have c4 := (hb10.cell (p := ⟨w.heap.size, 4, none⟩) zw).trans c4; have co := (hb10.cell (p := ⟨ob, oo + kk, none⟩) zo).trans co; have vc := hg10.cell vc (fun e => by have h1 := HLT.out _ e.symm; have h2 : vb < W6.heap.size := h1; omega)
            refine hK.out _ _ ?hS17_6 (fun hHeld => ?hr17_6)
            case hS17_6 => exact ⟨c0, c1, c2, c3, c4, co, vc⟩
            clear hK K
            try simp only [Act.put, List.setIfInBounds_toArray, List.set_cons_zero, List.set_cons_succ]
            refine wpAnyH_take (i := 18) (oi := ?oi18_6) (v := ?v18_6) ?ho18_6 (by kernel_rfl) (by kernel_rfl) (by kernel_rfl) ?hQ18_6 ?hy18_6 hHeld ?hr18_6
            case ho18_6 => simp only [List.getElem?_toArray, List.getElem?_cons_succ, List.getElem?_cons_zero]; rfl
            case hQ18_6 => exact fun _ _ _ h => h
            case hy18_6 => exact Or.inl ⟨by rfl, by (intro w hSw; go_simp; try with_reducible rfl)⟩
            try simp only [Act.put, List.setIfInBounds_toArray, List.set_cons_zero, List.set_cons_succ]
            refine wpAnyH_done (by kernel_rfl) ?_ _
            have c0' := c0; have c1' := c1; have c2' := c2; have c3' := c3; have c4' := c4
            have HX9 : Hid (B5 w9 w.heap.size (.int .i64 p) (.int .i64 i0) (.int .i64 i1) (.slice ga gn gc) (.slice (some ⟨ob, oo, none⟩) on oc)) := ⟨c0', c1', c2', c3', c4'⟩
            have hb8_10 := bel_trans hb9 hba
            have HR9 : Hid (w9.heap[w5.heap.size]? = some (.cells (ivs ((List.replicate N 0).set j 1)).toArray 3 (0, 0))) := (hb10.block w5.heap.size (by omega)).trans (heap_of_below hb8_10 HR1.out)
            have HI9 := Lib.hid (OwnI.ofRow (n := N) HR9.out (by simp) (by omega) (fun x hx => by have := HU1.out x hx; unfold Fits; omega))
            obtain ⟨g9, e9, _, hgl9, hcB, hfB⟩ := HI9.out.at hlj
            simp only [Option.some.injEq, Addr.mk.injEq] at e9
            obtain ⟨rfl, _, _⟩ := e9
            have HB9 := Lib.hid ((bel_trans HB1.out hb8_10).trans (hb10.mono (by omega)))
            have HZ9 : Hid (w7.heap.size ≤ w9.heap.size) := by show _ ≤ _; have a1 := HS1.out; have a2 := hb8_10.size; have a3 := hb10.size; omega
            have HI0 := Lib.hid (HI9.out.set hlj 0 (by unfold Fits; omega))
            have HR0 := Lib.hid (row_of_owns HI0.out.own)
            rw [reset_unit] at HR0
            have HO0 := Lib.hid (ownsRow_else hv9 (p := ⟨w5.heap.size, j, none⟩) (by show w5.heap.size < w7.heap.size; omega) (.int .i64 0))
            have HB0 := Lib.hid (HB9.out.setCell (p := ⟨w5.heap.size, j, none⟩) (by show w.heap.size ≤ w5.heap.size; omega) (.int .i64 0))
            have HX0 := Lib.hid (HX9.out.other (p := ⟨w5.heap.size, j, none⟩) (by show w5.heap.size ≠ w.heap.size; omega) (.int .i64 0))
            have HZ0 : Hid (w7.heap.size ≤ (w9.setCell ⟨w5.heap.size, j, none⟩ (.int .i64 0)).heap.size) := by show _ ≤ _; simpa [World.setCell] using HZ9.out
            clear c0 c1 c2 c3 c4 c0' c1' c2' c3' c4' vc co hv9 hb10 hg10 hb8 hb9 hba hb8_10 HO1 HB1 HX1 HI1 HR1 HX9 HB9 HZ9 HI9 HR9 HI0 hcA hfA
            go_wp2
            go_roundw
            case rel => exact ⟨j + 1, by omega, by go_num, by rw [HS.out]; exact HO0.out, HB0.out, HR0.out, HX0.out, HZ0.out⟩
            case measure => simp [intOf]; omega
          · obtain rfl : j = N := by omega
            have hlji : ¬ (j : Int) < (j : Int) := by omega
            go_wp2
            obtain ⟨r9, c9, hv, hm⟩ := OwnI.of HO.out (by omega) HTB.out
            subst hv
            go_ret2
            exact ⟨_, _, rfl, hm.mine.base (by omega), HB.out⟩
end Go.Proofs.Ytfichpppjpgahaa
