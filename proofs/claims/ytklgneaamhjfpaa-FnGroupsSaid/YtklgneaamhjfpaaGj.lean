/-
  The elements of a group: the plain law on their list, and the contracts of ElementsOf, both sides.
-/
import Derived.Test.YtklgneaamhjfpaaGh
import Derived.Test.YtklgneaamhjfpaaSo
import Derived.Test.YtklgneaamhjfpaaSt
import Derived.Test.YtklgneaamhjfpaaU
import Derived.Lib.OwnBridge
namespace Go.Proofs.Ytklgneaamhjfpaa
open Go.RowKit
set_option linter.unusedVariables false
set_option linter.unusedSimpArgs false

/-- The elements below a bound, in order. -/
def elU (P Q : Int) : Nat → List Int
  | 0 => []
  | k + 1 => if hasB P Q k then elU P Q k ++ [(k : Int)] else elU P Q k
theorem mem_elU {P Q x : Int} : ∀ n : Nat, x ∈ elU P Q n ↔ (0 ≤ x ∧ x < n) ∧ hasB P Q x = true
  | 0 => by simp only [elU, List.not_mem_nil, false_iff]; omega
  | n + 1 => by
    have ih := mem_elU (P := P) (Q := Q) (x := x) n
    unfold elU
    split
    · rename_i h
      rw [List.mem_append, ih, List.mem_singleton]
      constructor
      · rintro (⟨h1, h2⟩ | rfl)
        · exact ⟨by omega, h2⟩
        · exact ⟨by omega, h⟩
      · rintro ⟨h1, h2⟩
        by_cases e : x = n
        · exact Or.inr e
        · exact Or.inl ⟨by omega, h2⟩
    · rename_i h
      rw [ih]
      constructor
      · rintro ⟨h1, h2⟩; exact ⟨by omega, h2⟩
      · rintro ⟨h1, h2⟩
        by_cases e : x = n
        · subst e; exact absurd h2 h
        · exact ⟨by omega, h2⟩
theorem elU_sorted {P Q : Int} : ∀ n : Nat, (elU P Q n).Pairwise (fun x y : Int => x < y)
  | 0 => List.Pairwise.nil
  | n + 1 => by
    have ih := elU_sorted (P := P) (Q := Q) n
    unfold elU
    split
    · rw [List.pairwise_append]
      refine ⟨ih, List.pairwise_singleton _ _, fun a ha b hb => ?_⟩
      rw [List.mem_singleton] at hb
      have := (mem_elU n).1 ha
      omega
    · exact ih
theorem elU_fit {P Q : Int} (n : Nat) (hn : n ≤ 100000) : ∀ x ∈ elU P Q n, Fits x := by
  intro x hx
  have := ((mem_elU n).1 hx).1
  unfold Fits; omega
theorem elU_len_le {P Q : Int} : ∀ n : Nat, (elU P Q n).length ≤ n
  | 0 => Nat.le_refl _
  | n + 1 => by
    have := elU_len_le (P := P) (Q := Q) n
    unfold elU
    split
    · simp; omega
    · omega
/-- The powers of the generator. -/
def pwL (P G : Int) (n : Nat) : List Int := (List.range n).map fun k => pw P G k
theorem pwL_len (P G : Int) (n : Nat) : (pwL P G n).length = n := by simp [pwL]
theorem pwL_snoc (P G : Int) (n : Nat) : pwL P G (n + 1) = pwL P G n ++ [pw P G n] := by simp [pwL, List.range_succ]
theorem pwL_fit {P G : Int} (n : Nat) (hP : 3 ≤ P ∧ P ≤ 2003) : ∀ x ∈ pwL P G n, Fits x := by
  intro x hx
  simp only [pwL, List.mem_map] at hx
  obtain ⟨k, _, rfl⟩ := hx
  have := pw_bd P G k (by omega)
  unfold Fits; omega
theorem el_perm {P Q G : Int} (h : grB P Q G = true) : (pwL P G Q.toNat).Perm (elU P Q P.toNat) := by
  obtain ⟨hP, hQ, hG, p3, q2, g2, g3, p4, q4⟩ := grB_facts h
  have hGG := has_G h
  refine (List.perm_ext_iff_of_nodup ?_ ?_).2 fun x => ?_
  · unfold pwL
    rw [List.nodup_iff_pairwise_ne, List.pairwise_map]
    refine (List.nodup_iff_pairwise_ne.1 List.nodup_range).imp_of_mem ?_
    intro i j hi hj hij e
    rw [List.mem_range] at hi hj
    exact hij (log_uniq h hGG (by omega) (by omega) (by omega) e)
  · rw [List.nodup_iff_pairwise_ne]
    exact (elU_sorted _).imp (fun h => by omega)
  · rw [mem_elU]
    simp only [pwL, List.mem_map, List.mem_range]
    constructor
    · rintro ⟨k, hk, rfl⟩
      have bd := pw_bd P G k (by omega)
      exact ⟨by omega, hasB_of (by omega) q2 bd.1 bd.2 (pw_ord (by omega) hG k)⟩
    · rintro ⟨h1, h2⟩
      obtain ⟨i, hi, e⟩ := log_ex h hGG h2 (by omega)
      exact ⟨i, by omega, e⟩
theorem el_sort {P Q G : Int} (h : grB P Q G = true) : (pwL P G Q.toNat).mergeSort (fun x y => decide (x ≤ y)) = elU P Q P.toNat := by
  refine List.Perm.eq_of_pairwise (le := fun a b : Int => decide (a ≤ b) = true) (fun a b _ _ h1 h2 => ?_) (List.pairwise_mergeSort ?_ ?_ _) ((elU_sorted _).imp (fun h => by simp; omega)) ((List.mergeSort_perm _ _).trans (el_perm h))
  · simp at h1 h2; omega
  · intro a b c h1 h2; simp at h1 h2 ⊢; omega
  · intro a b; simp; omega
theorem elU_len {P Q G : Int} (h : grB P Q G = true) : (elU P Q P.toNat).length = Q.toNat := by
  rw [← (el_perm h).length_eq, pwL_len]
def elOf (P Q G : Int) : List Int := if grB P Q G then elU P Q P.toNat else []
set_option maxHeartbeats 4000000 in
theorem s_ElementsOf (P Q G : Int) (w : World) :
    Calls Try.prog 44 #[.agg #[.int .i64 P, .int .i64 Q, .int .i64 G]] w fun e w' => ∃ r c, e = .returned (.tuple #[.slice r (elOf P Q G).length c, .bool (grB P Q G)]) ∧ Mine w' w.heap.size r (elOf P Q G).length c (elOf P Q G) ∧ Below w.heap.size w w' := by
  unfold elOf
  obtain ⟨w0, hw0⟩ : ∃ X, X = w.alloc (.cells #[.int .i64 P, .int .i64 Q, .int .i64 G] 24) := ⟨_, rfl⟩
  have A0 : Below w.heap.size w w0 := by rw [hw0]; exact bel_alloc _ _
  have g0 : Gx w0 w.heap.size P Q G := by rw [hw0]; exact Gx.new
  have hz0 : w.heap.size < w0.heap.size := by rw [hw0]; simp
  replace hw0 := hw0.symm
  obtain ⟨k0, k1, k2⟩ := g0
  cases h1 : grB P Q G with
  | false =>
    go_enter Try.func44, Try.ntmps44
    go_wp2_with fail
    refine (s_grGood _ _ _ _).mono ?_; rintro e w1 ⟨rfl, hb1⟩; rw [h1]
    go_wp2
    go_ret2
    exact ⟨_, _, rfl, Mine.nil, bel_trans A0 hb1⟩
  | true =>
    obtain ⟨hP, hQ, hG⟩ := grB_lo h1
    obtain ⟨p, rfl⟩ : ∃ p : Nat, P = p := ⟨P.toNat, by omega⟩
    go_enter Try.func44, Try.ntmps44
    go_wp2_with fail
    refine (s_grGood _ _ _ _).mono ?_; rintro e w1 ⟨rfl, hb1⟩; rw [h1]
    have j0 := cell_on k0 hb1; have j1 := cell_on k1 hb1; have j2 := cell_on k2 hb1
    have B1 := bel_trans A0 hb1
    have hz1 := hb1.size
    have HZ0 : Hid (elU p Q 1 = []) := by show _ = _; rw [elU, if_neg (by intro h; have := (hasB_lo h).1; simp at this)]; rfl
    clear k0 k1 k2 A0 hb1 h1
    go_wp2
    go_loopw [4, 5] (fun v i W => ∃ k : Nat, 1 ≤ k ∧ k ≤ p ∧ i = .int .i64 k ∧ Hid (W.ownsRow w1.heap.size 3 1 v (elU p Q k).length (ivs (elU p Q k))) ∧ Hid (Below w1.heap.size w1 W)) (fun _ i _ => p - (intOf i).toNat)
    case atStart => exact ⟨1, by omega, by omega, rfl, by rw [HZ0.out]; exact World.ownsRow_nil _ _ _ _, Below.refl _ _⟩
    case round =>
      obtain ⟨k, hk1, hk2, rfl, HO, HB⟩ := hrel
      have i0 := cell_on j0 HB.out; have i1 := cell_on j1 HB.out; have i2 := cell_on j2 HB.out
      by_cases hlt : k < p
      · have hlti : (k : Int) < (p : Int) := by omega
        cases hh : hasB p Q k with
        | false =>
          have HS : Hid (elU p Q (k + 1) = elU p Q k) := by show _ = _; rw [elU, if_neg (by rw [hh]; simp)]
          go_wp2_with fail
          refine (s_grHas _ _ _ _ _ hP hQ).mono ?_; rintro e w2 ⟨rfl, hb2⟩; rw [hh]
          have HO2 := Lib.hid (ownsRow_below HO.out hb2); have HB2 := Lib.hid (bel_trans HB.out hb2); clear hb2 hh
          go_wp2
          go_roundw
          case rel => exact ⟨k + 1, by omega, by omega, by go_num, by rw [HS.out]; exact HO2, HB2⟩
          case measure => simp [intOf]; omega
        | true =>
          have HS : Hid (elU p Q (k + 1) = elU p Q k ++ [(k : Int)]) := by show _ = _; rw [elU, if_pos hh]
          have HL : Hid ((elU p Q (k + 1)).length = (elU p Q k).length + 1) := by show _ = _; rw [HS.out]; simp
          have hll := elU_len_le (P := p) (Q := Q) k
          obtain ⟨m, hm⟩ : ∃ m, m = (elU p Q k).length := ⟨_, rfl⟩
          rw [← hm] at HO HL hll
          replace hm := Lib.hid hm
          go_wp2_with fail
          refine (s_grHas _ _ _ _ _ hP hQ).mono ?_; rintro e w2 ⟨rfl, hb2⟩; rw [hh]
          have HO2 := Lib.hid (ownsRow_below HO.out hb2); have HB2 := Lib.hid (bel_trans HB.out hb2); clear hb2 hh HO HB i0 i1 i2
          have hz2 := HB2.out.size
          go_wp2_with (at_builtin; refine wp_app w2 w1.heap.size _ _ (elU p Q k) (k : Int) _ _ rfl _ _ rfl rfl rfl rfl HO2.out hz2 (by omega) ?_; intro v9 w9 hv9 hb9 hg9; have HO9 := Lib.hid hv9; have HB9 := Lib.hid (HB2.out.trans hb9); clear hv9 hb9 hg9 HO2 HB2)
          go_roundw
          case rel => exact ⟨k + 1, by omega, by omega, by go_num, by rw [HL.out, HS.out]; exact HO9, HB9⟩
          case measure => simp [intOf]; omega
      · obtain rfl : k = p := by omega
        have hlti : ¬ (k : Int) < (k : Int) := by omega
        have hll := elU_len_le (P := k) (Q := Q) k
        have HF := Lib.hid (elU_fit (P := k) (Q := Q) k (by omega))
        obtain ⟨r, c, hv, hm⟩ := OwnI.of HO.out (by omega) HF.out
        subst hv
        have HM := Lib.hid (hm.mine.base (Nat.le_trans (Nat.le_of_lt hz0) hz1)); have BB := bel_trans B1 HB.out
        clear hm
        go_wp2
        go_ret2
        exact ⟨_, _, rfl, HM.out, BB⟩
set_option maxHeartbeats 8000000 in
theorem i_elements (P Q G : Int) (w : World) (h1 : grB P Q G = true) :
    Calls Try.prog 73 #[.agg #[.int .i64 P, .int .i64 Q, .int .i64 G]] w fun e w' => ∃ r c, e = .returned (.slice r Q.toNat c) ∧ OwnI 3 w' w.heap.size r Q.toNat c (pwL P G Q.toNat) ∧ Below w.heap.size w w' := by
  obtain ⟨hP, hQ, hG⟩ := grB_lo h1
  obtain ⟨q, rfl⟩ : ∃ q : Nat, Q = q := ⟨Q.toNat, by omega⟩
  obtain ⟨w0, hw0⟩ : ∃ X, X = w.alloc (.cells #[.int .i64 P, .int .i64 q, .int .i64 G] 24) := ⟨_, rfl⟩
  have A0 : Below w.heap.size w w0 := by rw [hw0]; exact bel_alloc _ _
  have g0 : Gx w0 w.heap.size P q G := by rw [hw0]; exact Gx.new
  have hz0 : w.heap.size < w0.heap.size := by rw [hw0]; simp
  replace hw0 := hw0.symm
  obtain ⟨k0, k1, k2⟩ := g0
  have HZ0 : Hid (pwL P G 0 = []) := rfl
  have HP0 : Hid (pw P G 0 = 1) := pw_zero P G (by omega)
  have hPn : ¬ P = 0 := by omega
  clear h1
  go_enter Try.func73, Try.ntmps73
  go_wp2
  go_loopw [3, 4, 8] (fun v a i W => ∃ k : Nat, k ≤ q ∧ i = .int .i64 k ∧ a = .int .i64 (pw P G k) ∧ Hid (W.ownsRow w0.heap.size 3 1 v k (ivs (pwL P G k))) ∧ Hid (Below w0.heap.size w0 W)) (fun _ _ i _ => q - (intOf i).toNat)
  case atStart => exact ⟨0, by omega, rfl, by rw [HP0.out], (show Hid _ from World.ownsRow_lit w0 #[] 0 (Nat.le_refl _) (by decide) rfl), (show Hid _ from bel_alloc w0 _)⟩
  case round =>
    obtain ⟨k, hk, rfl, rfl, HO, HB⟩ := hrel
    have i0 := cell_on k0 HB.out; have i1 := cell_on k1 HB.out; have i2 := cell_on k2 HB.out
    by_cases hlt : k < q
    · have hlti : (k : Int) < (q : Int) := by omega
      have bd := pw_bd P G k (by omega)
      obtain ⟨bd1, bd2⟩ := bd
      have HS := Lib.hid (pw_succ (p := P) (a := G) k (by omega) (by omega))
      have HL := Lib.hid (pwL_snoc P G k)
      obtain ⟨x, hx⟩ : ∃ x, x = pw P G k := ⟨_, rfl⟩
      rw [← hx] at bd1 bd2 HS HL ⊢
      replace hx := Lib.hid hx
      obtain ⟨m1, m2⟩ := mul_bd (a := x) (b := G) 2003 2003 (by omega) (by omega) (by omega) (by omega)
      have e1 : IntKind.i64.wrap (x * G) = x * G := IntWalk.i64_in _ (by omega)
      have e2 : (x * G).tmod P = x * G % P := Int.tmod_eq_emod_of_nonneg m1
      have hz := HB.out.size
      have hx9 : wr.heap.size = wr.heap.size := rfl
      go_wp2_with fail
      go_region_held3 (fun W => W.cell? ⟨w.heap.size, 2, none⟩ = some (.int .i64 G) ∧ W.cell? ⟨w.heap.size, 0, none⟩ = some (.int .i64 P)) (first | exact ⟨(hb9.cell (p := ⟨w.heap.size, 2, none⟩) hz0).trans (cell_on i2 (by (repeat (first | exact Below.refl _ _ | assumption | refine bel_trans ?_ (bel_alloc _ _) | refine bel_set ?_ (by first | (dsimp only; omega) | (simp; omega) | simp) _ | refine bel_trans ?_ (bel_drewN _ _) | refine bel_trans ?_ (bel_drew _) | refine bel_trans ?_ (by assumption))))), (hb9.cell (p := ⟨w.heap.size, 0, none⟩) hz0).trans (cell_on i0 (by (repeat (first | exact Below.refl _ _ | assumption | refine bel_trans ?_ (bel_alloc _ _) | refine bel_set ?_ (by first | (dsimp only; omega) | (simp; omega) | simp) _ | refine bel_trans ?_ (bel_drewN _ _) | refine bel_trans ?_ (bel_drew _) | refine bel_trans ?_ (by assumption)))))⟩ | exact ⟨cell_on i2 (by (repeat (first | exact Below.refl _ _ | assumption | refine bel_trans ?_ (bel_alloc _ _) | refine bel_set ?_ (by first | (dsimp only; omega) | (simp; omega) | simp) _ | refine bel_trans ?_ (bel_drewN _ _) | refine bel_trans ?_ (bel_drew _) | refine bel_trans ?_ (by assumption)))), cell_on i0 (by (repeat (first | exact Below.refl _ _ | assumption | refine bel_trans ?_ (bel_alloc _ _) | refine bel_set ?_ (by first | (dsimp only; omega) | (simp; omega) | simp) _ | refine bel_trans ?_ (bel_drewN _ _) | refine bel_trans ?_ (bel_drew _) | refine bel_trans ?_ (by assumption))))⟩) ((refine step_app wr w0.heap.size k _ (pwL P G k) x _ (by rfl) _ _ (by rfl) (by rfl) (by rfl) (by simp [World.cell?_alloc_at]) HO.out (by (repeat (first | exact Below.refl _ _ | assumption | refine bel_trans ?_ (bel_alloc _ _) | refine bel_set ?_ (by first | (dsimp only; omega) | (simp; omega) | simp) _ | refine bel_trans ?_ (bel_drewN _ _) | refine bel_trans ?_ (bel_drew _) | refine bel_trans ?_ (by assumption)))) hz (by omega) ?_; intro v9 w9 hv9 hb9 hg9))
      all_goals
        go_wp2
        go_roundw
        case rel => exact ⟨k + 1, by omega, by go_num, by rw [HS.out], by rw [HL.out]; exact hv9, HB.out.trans (((show Below wr.heap.size wr _ by (repeat (first | exact Below.refl _ _ | assumption | refine bel_trans ?_ (bel_alloc _ _) | refine bel_set ?_ (by first | (dsimp only; omega) | (simp; omega) | simp) _ | refine bel_trans ?_ (bel_drewN _ _) | refine bel_trans ?_ (bel_drew _) | refine bel_trans ?_ (by assumption)))).mono hz).trans hb9)⟩
        case measure => simp [intOf]; omega
    · obtain rfl : k = q := by omega
      have hlti : ¬ (k : Int) < (k : Int) := by omega
      have HF := Lib.hid (pwL_fit (P := P) (G := G) k hP)
      obtain ⟨r, c, hv, hm⟩ := OwnI.of HO.out (by omega) HF.out
      subst hv
      have HM := Lib.hid (hm.base (Nat.le_of_lt hz0)); have BB := bel_trans A0 HB.out
      clear hm
      go_wp2
      go_ret
      exact ⟨_, _, rfl, HM.out, BB⟩
set_option maxHeartbeats 4000000 in
theorem i_ElementsOf (P Q G : Int) (w : World) :
    Calls Try.prog 17 #[.agg #[.int .i64 P, .int .i64 Q, .int .i64 G]] w fun e w' => ∃ r c, e = .returned (.tuple #[.slice r (elOf P Q G).length c, .bool (grB P Q G)]) ∧ Mine w' w.heap.size r (elOf P Q G).length c (elOf P Q G) ∧ Below w.heap.size w w' := by
  unfold elOf
  have A0 := bel_alloc w (.cells #[.int .i64 P, .int .i64 Q, .int .i64 G] 24)
  have g0 := Gx.new (w := w) (P := P) (Q := Q) (G := G) (t := 24)
  obtain ⟨k0, k1, k2⟩ := g0
  cases h1 : grB P Q G with
  | false =>
    go_enter Try.func17, Try.ntmps17
    go_wp2_with fail
    refine (i_IsGroup _ _ _ _).mono ?_; rintro e w1 ⟨rfl, hb1⟩; rw [h1]
    go_wp2
    go_ret2
    exact ⟨_, _, rfl, Mine.nil, bel_trans A0 hb1⟩
  | true =>
    obtain ⟨hP, hQ, hG⟩ := grB_lo h1
    have HE := Lib.hid (el_sort h1)
    have HL := Lib.hid (elU_len h1)
    have HF := Lib.hid (elU_fit (P := P) (Q := Q) P.toNat (by omega))
    have hpl := pwL_len P G Q.toNat
    have hq2 : Q.toNat ≤ 2002 := by omega
    have hq1 : 2 ≤ Q.toNat := by omega
    go_enter Try.func17, Try.ntmps17
    go_wp2_with fail
    refine (i_IsGroup _ _ _ _).mono ?_; rintro e w1 ⟨rfl, hb1⟩; rw [h1]
    replace k0 := cell_on k0 hb1; replace k1 := cell_on k1 hb1; replace k2 := cell_on k2 hb1
    go_wp2_with fail
    refine (i_elements _ _ _ _ h1).mono ?_; rintro e w2 ⟨r, c, rfl, ho, hb2⟩
    have B2 := bel_trans (bel_trans A0 hb1) hb2
    have zz := (bel_trans A0 hb1).size
    have hrow := ho.own
    obtain ⟨g, cap, hv, hbg, hgl, hncap, hcm, hlen, hH⟩ := Lib.holds_of_ownsRow hrow (by intro e; injection e with _ e2 _; omega)
    obtain ⟨_, h2⟩ := hrow
    rcases h2 with ⟨hnil, _⟩ | ⟨g', cap', cur, hv', hbase, hbk, q1, q2, q3, q4⟩
    · exfalso; injection hnil with _ e2 _; omega
    injection hv with hv1 _ hv3
    rw [hv1] at hv'
    injection hv' with hw1 _ hw3
    injection hw1 with hw1
    injection hw1 with hw1
    subst hv1 hv3 hw1 hw3
    have HX := Lib.hid (And.intro B2 (And.intro (Nat.le_trans zz hbg) (And.intro hbk (And.intro q1 (And.intro q2 q3)))))
    have hsort := l_Sort g 0 c (pwL P G Q.toNat) w2 hH hgl (by omega)
    rw [hlen] at hsort
    clear ho hb2 hbk q1 q2 q3 q4 hH k0 k1 k2 A0 hb1 B2
    go_wp2_with fail
    refine hsort.mono ?_; clear hsort; rintro e w3 ⟨rfl, nn, os, hw3⟩
    rw [HE.out] at hw3
    have HB3 : Hid (Below w.heap.size w w3) := by subst hw3; exact HX.out.1.grown (Go.grownBy_sortedI _) HX.out.1.size (fun j hj => by cases hj; exact HX.out.2.1)
    have HO3 : Hid (w3.ownsRow w.heap.size 3 1 (.slice (some ⟨g, 0, none⟩) Q.toNat c) Q.toNat (ivs (elU P Q P.toNat))) := by
      subst hw3
      have := Go.ownsRow_sortedI (n := nn) (os := os) (ss := pwL P G Q.toNat) (ts := elU P Q P.toNat) (by rw [HL.out, hpl]) HX.out.2.1 HX.out.2.2.1 (by rw [hpl]; exact HX.out.2.2.2.1) HX.out.2.2.2.2.1 HX.out.2.2.2.2.2
      rw [hpl] at this
      exact this
    obtain ⟨r4, c4, hv4, hm⟩ := Mine.of HO3.out (by omega) HF.out
    injection hv4 with e1 _ e3
    subst e1 e3
    have HM := Lib.hid hm; clear hm hw3 HX hpl
    go_wp2
    go_ret2
    refine ⟨some ⟨g, 0, none⟩, c, ?_, ?_, HB3.out⟩
    · rw [HL.out]; rfl
    · rw [HL.out]; exact HM.out
end Go.Proofs.Ytklgneaamhjfpaa
