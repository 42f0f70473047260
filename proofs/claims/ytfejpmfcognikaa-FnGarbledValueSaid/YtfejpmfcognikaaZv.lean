/-
  Values of the wires of a circuit (for a seat that has no shared bits).
-/
import Derived.Test.YtfejpmfcognikaaC8
import Derived.Test.YtfejpmfcognikaaSt
import Derived.StillTailTactics
import Derived.Deep.RegionLaw
import Derived.BigRegion
namespace Go.Proofs.Ytfejpmfcognikaa
open Go.RowKit
set_option linter.unusedVariables false
set_option linter.unusedSimpArgs false
set_option maxRecDepth 10000

def bit1 (l : List Int) : Prop := ∀ x ∈ l, 0 ≤ x ∧ x ≤ 1
theorem bit1.snoc {l : List Int} {x : Int} (h : bit1 l) (hx : 0 ≤ x ∧ x ≤ 1) : bit1 (l ++ [x]) := by
  intro y hy
  rcases List.mem_append.1 hy with h1 | h1
  · exact h y h1
  · simp only [List.mem_singleton] at h1; subst h1; exact hx
theorem bit1.nth {l : List Int} {n : Nat} (h : bit1 l) (hn : l.length = n) : bitsL0 l n := fun i hi => h _ (nth_mem (by omega))
theorem bit1.fit {l : List Int} (h : bit1 l) : ∀ x ∈ l, Fits x := fun x hx => by have := h x hx; unfold Fits; omega
def pkL (l os : List Int) (n : Nat) : List Int := (List.range n).map (fun k => nth l (nth os k).toNat)
theorem pkL_succ (l os : List Int) (n : Nat) : pkL l os (n + 1) = pkL l os n ++ [nth l (nth os n).toNat] := by simp [pkL, List.range_succ]
theorem pkL_len (l os : List Int) (n : Nat) : (pkL l os n).length = n := by simp [pkL]
theorem nth_pkL {l os : List Int} {n i : Nat} (hi : i < n) : nth (pkL l os n) i = nth l (nth os i).toNat := by simp [nth, pkL, hi]
theorem nth_fit {l : List Int} (h : ∀ x ∈ l, Fits x) (i : Nat) : Fits (nth l i) := by
  by_cases hi : i < l.length
  · exact h _ (nth_mem hi)
  · have : nth l i = 0 := by simp [nth]; rw [List.getElem?_eq_none (by omega)]; rfl
    rw [this]; unfold Fits; omega
theorem pkL_fit {l : List Int} (h : ∀ x ∈ l, Fits x) (os : List Int) (n : Nat) : ∀ x ∈ pkL l os n, Fits x := by
  intro x hx
  simp only [pkL, List.mem_map] at hx
  obtain ⟨i, _, rfl⟩ := hx
  exact nth_fit h _
theorem bit1_at {l : List Int} (h : bit1 l) (i : Nat) : 0 ≤ nth l i ∧ nth l i ≤ 1 := by
  by_cases hi : i < l.length
  · exact h _ (nth_mem hi)
  · have : nth l i = 0 := by simp [nth]; rw [List.getElem?_eq_none (by omega)]; rfl
    rw [this]; omega
theorem pkL_bit {l : List Int} (h : bit1 l) (os : List Int) (n : Nat) : bit1 (pkL l os n) := by
  intro x hx
  simp only [pkL, List.mem_map] at hx
  obtain ⟨i, _, rfl⟩ := hx
  exact bit1_at h _
theorem bit1.of {us : List Int} (hu : bitsB us = true) : bit1 us := fun x hx => by obtain ⟨i, hi, rfl⟩ := List.mem_iff_getElem.1 hx; rw [← nth_get hi]; exact bitsB_nthc hu hi
theorem outs_in {i0 i1 : Int} {gs os : List Int} {gn n : Nat} (h : circB i0 i1 gs gn os = true) (hn : (n : Int) = i0 + i1 + gn) : Hid (∀ i, i < os.length → 0 ≤ nth os i ∧ nth os i < n) := by
  intro i hi
  have := (circB_iff.1 h).2.2
  have := inB_iff.1 (allIn_iff.1 this i hi)
  omega

set_option maxHeartbeats 2000000 in
theorem s_ciPick (a b : Option Addr) (n cap m bc : Nat) (xs os : List Int) (w : World) (h : Ints w a n cap xs) (h' : Ints w b m bc os) (hs : m ≤ 100000) (hx : Hid (∀ i, i < m → 0 ≤ nth os i ∧ nth os i < n)) :
    Calls Try.prog 105 #[.slice a n cap, .slice b m bc] w fun e w' => ∃ r c, e = .returned (.slice r m c) ∧ Mine w' w.heap.size r m c (pkL xs os m) ∧ Below w.heap.size w w' := by
  have HFT := Lib.hid (pkL_fit h.wf os m)
  go_enter Try.func105, Try.ntmps105
  go_wp2
  go_loopw [5, 7, 10] (fun v q_ i wr => ∃ k : Nat, k ≤ m ∧ i = .int .i64 k ∧ Hid (wr.ownsRow w.heap.size 3 1 v k (ivs (pkL xs os k))) ∧ Hid (Below w.heap.size w wr)) (fun _ _ i _ => m - (intOf i).toNat)
  case atStart => exact ⟨0, by omega, rfl, World.ownsRow_nil _ _ _ _, Below.refl _ _⟩
  case round =>
    obtain ⟨k, hk, rfl, HO, HB⟩ := hrel
    by_cases hlt : k < m
    · obtain ⟨b, off, rfl, hbl, hc⟩ := (h'.below HB.out).at hlt
      obtain ⟨q, hq⟩ : ∃ q : Nat, nth os k = q := ⟨(nth os k).toNat, by have := hx.out k hlt; omega⟩
      have hqn : q < n := by have := hx.out k hlt; omega
      have HS : Hid (pkL xs os (k + 1) = pkL xs os k ++ [nth xs q]) := by show _ = _; rw [pkL_succ, hq]; rfl
      rw [hq] at hc; clear hq
      obtain ⟨b', off', rfl, hbl', hc'⟩ := (h.below HB.out).at (i := q) hqn
      have hlti : (k : Int) < (m : Int) := by omega
      have hlt0 : (q : Int) < (n : Int) := by omega
      have hz := HB.out.size
      go_wp2_with (at_builtin; refine wp_app wr w.heap.size _ _ _ (nth xs q) _ _ rfl _ _ rfl rfl rfl rfl HO.out hz (by omega) ?_; intro v9 w9 hv9 hb9 hg9)
      clear hg9
      go_roundw
      case rel => exact ⟨k + 1, by omega, by go_num, by rw [HS.out]; exact hv9, HB.out.trans hb9⟩
      case measure => simp [intOf]; omega
    · obtain rfl : k = m := by omega
      go_wp2
      obtain ⟨r, c, hv, hm⟩ := OwnI.of HO.out (by omega) HFT.out
      subst hv
      go_ret
      exact ⟨_, _, rfl, hm.mine, HB.out⟩
set_option maxHeartbeats 2000000 in
theorem i_at (a b : Option Addr) (n cap m bc : Nat) (xs os : List Int) (w : World) (h : Ints w a n cap xs) (h' : Ints w b m bc os) (hs : m ≤ 100000) (hx : Hid (∀ i, i < m → 0 ≤ nth os i ∧ nth os i < n)) :
    Calls Try.prog 71 #[.slice a n cap, .slice b m bc] w fun e w' => ∃ r c, e = .returned (.slice r m c) ∧ Mine w' w.heap.size r m c (pkL xs os m) ∧ Below w.heap.size w w' := by
  have HFT := Lib.hid (pkL_fit h.wf os m)
  go_enter Try.func71, Try.ntmps71
  go_wp2
  go_loopw [5, 7, 11] (fun v q_ i wr => ∃ k : Nat, k ≤ m ∧ i = .int .i64 k ∧ Hid (wr.ownsRow w.heap.size 3 1 v k (ivs (pkL xs os k))) ∧ Hid (Below w.heap.size w wr)) (fun _ _ i _ => m - (intOf i).toNat)
  case atStart => exact ⟨0, by omega, rfl, (show Hid _ from World.ownsRow_lit w #[] 0 (Nat.le_refl _) (by decide) rfl), (show Hid _ from bel_alloc w _)⟩
  case round =>
    obtain ⟨k, hk, rfl, HO, HB⟩ := hrel
    by_cases hlt : k < m
    · obtain ⟨b, off, rfl, hbl, hc⟩ := (h'.below HB.out).at hlt
      obtain ⟨q, hq⟩ : ∃ q : Nat, nth os k = q := ⟨(nth os k).toNat, by have := hx.out k hlt; omega⟩
      have hqn : q < n := by have := hx.out k hlt; omega
      have HS : Hid (pkL xs os (k + 1) = pkL xs os k ++ [nth xs q]) := by show _ = _; rw [pkL_succ, hq]; rfl
      rw [hq] at hc; clear hq
      obtain ⟨b', off', rfl, hbl', hc'⟩ := (h.below HB.out).at (i := q) hqn
      have hlti : (k : Int) < (m : Int) := by omega
      have hlt0 : (q : Int) < (n : Int) := by omega
      have hz := HB.out.size
      go_wp2_with (at_builtin; refine wp_app wr w.heap.size _ _ _ (nth xs q) _ _ rfl _ _ rfl rfl rfl rfl HO.out hz (by omega) ?_; intro v9 w9 hv9 hb9 hg9)
      clear hg9
      go_roundw
      case rel => exact ⟨k + 1, by omega, by go_num, by rw [HS.out]; exact hv9, HB.out.trans hb9⟩
      case measure => simp [intOf]; omega
    · obtain rfl : k = m := by omega
      go_wp2
      obtain ⟨r, c, hv, hm⟩ := OwnI.of HO.out (by omega) HFT.out
      subst hv
      go_ret
      exact ⟨_, _, rfl, hm.mine, HB.out⟩
/-- The value of a gate. -/
def gval (K A B : Int) (l : List Int) : Int := if K = 0 then xr (nth l A.toNat) (nth l B.toNat) else if K = 1 then nth l A.toNat * nth l B.toNat else if K = 2 then 1 - nth l A.toNat else 1
def valS (gs v : List Int) : Nat → List Int
  | 0 => v
  | k + 1 => valS gs v k ++ [gval (fld 3 gs k 0) (fld 3 gs k 1) (fld 3 gs k 2) (valS gs v k)]
theorem valS_len (gs v : List Int) : ∀ k, (valS gs v k).length = v.length + k
  | 0 => rfl
  | k + 1 => by rw [valS, List.length_append, valS_len gs v k]; simp; omega
theorem gval_bd {K A B : Int} {l : List Int} (h : bit1 l) : 0 ≤ gval K A B l ∧ gval K A B l ≤ 1 := by
  have a1 := bit1_at h A.toNat; have b1 := bit1_at h B.toNat
  unfold gval
  split
  · exact xr_bd _ _
  · split
    · exact mul_bit a1 b1
    · split <;> omega
theorem valS_bit {gs v : List Int} (h : bit1 v) : ∀ k, bit1 (valS gs v k)
  | 0 => h
  | k + 1 => (valS_bit h k).snoc (gval_bd (valS_bit h k))

set_option maxHeartbeats 8000000 in
theorem s_ciValues (i0 i1 : Int) (ga : Option Addr) (gn gc : Nat) (gs : List Int) (oa : Option Addr) (on oc : Nat) (os : List Int) (aa : Option Addr) (an ac : Nat) (us : List Int) (w : World) (h : Circ w ga gn gc gs oa on oc os) (ha : Ints w aa an ac us) (hG : Hid (gatesB (an : Int) gs gn = true)) (hu : Hid (bit1 us)) (hs : an + gn ≤ 100000) :
    Calls Try.prog 106 #[.agg #[.int .i64 i0, .int .i64 i1, .slice ga gn gc, .slice oa on oc], .slice aa an ac] w fun e w' => ∃ r c, e = .returned (.slice r (an + gn) c) ∧ Mine w' w.heap.size r (an + gn) c (valS gs us gn) ∧ Below w.heap.size w w' := by
  have hla := ha.len.out
  have A0 := bel_alloc w (.cells #[.int .i64 i0, .int .i64 i1, .slice ga gn gc, .slice oa on oc] 25)
  have g0 := B4.new (w := w) (x0 := .int .i64 i0) (x1 := .int .i64 i1) (x2 := .slice ga gn gc) (x3 := .slice oa on oc) (t := 25)
  obtain ⟨c0, c1, c2, c3⟩ := g0
  have hg := h.g
  have HV : Hid (∀ k, bit1 (valS gs us k) ∧ (valS gs us k).length = an + k) := fun k => ⟨valS_bit hu.out k, by rw [valS_len, hla]⟩
  clear c0 c1 c3 h hu hla
  have zz := A0.size
  go_enter Try.func106, Try.ntmps106
  go_wp2_with fail
  refine (s_l1Own _ _ _ us _ (ha.below A0) (by omega)).mono ?_; rintro e w1 ⟨r, c, rfl, hI, hb1⟩
  have HB := Lib.hid (bel_trans A0 hb1)
  replace c2 := cell_on c2 hb1
  have HO := Lib.hid (ownsRow_base hI.own zz); clear hI hb1 A0 zz ha
  go_wp2
  go_loopw [5, 13] (fun v i wr => ∃ k : Nat, k ≤ gn ∧ i = .int .i64 k ∧ Hid (wr.ownsRow w.heap.size 3 1 v (an + k) (ivs (valS gs us k))) ∧ Hid (Below w.heap.size w wr)) (fun _ i _ => gn - (intOf i).toNat)
  case atStart => exact ⟨0, by omega, rfl, HO, HB⟩
  case round =>
    clear HO HB c2
    obtain ⟨k, hk9, rfl, HO, HB⟩ := hrel
    by_cases hlt : k < gn
    · have hlti : (k : Int) < (gn : Int) := by omega
      obtain ⟨gb, go, rfl, gl, g0, g1, g2⟩ := (hg.below HB.out).at3 hlt
      have hgt : gateB (fld 3 gs k 0) (fld 3 gs k 1) (fld 3 gs k 2) (((an + k : Nat)) : Int) = true := by have := gatesB_at hG.out hlt; rw [show (((an + k : Nat)) : Int) = (an : Int) + (k : Int) by omega]; exact this
      have HS : Hid (valS gs us (k + 1) = valS gs us k ++ [gval (fld 3 gs k 0) (fld 3 gs k 1) (fld 3 gs k 2) (valS gs us k)]) := rfl
      have HL : Hid (bit1 (valS gs us k) ∧ (valS gs us k).length = an + k) := HV.out k
      obtain ⟨n, hn⟩ : ∃ n, n = an + k := ⟨_, rfl⟩
      rw [← hn] at hgt HL HO
      generalize valS gs us k = l at HS HL HO
      generalize fld 3 gs k 0 = K at hgt HS g0
      generalize fld 3 gs k 1 = A at hgt HS g1
      generalize fld 3 gs k 2 = B at hgt HS g2
      have hn9 : n ≤ 100000 := by omega
      have HNN := Lib.hid hn; clear hn
      obtain ⟨a1, k1, rfl, m1⟩ := Mine.of HO.out (by omega) HL.out.1.fit
      have A1 := bel_alloc wr (.cells #[.int .i64 K, .int .i64 A, .int .i64 B] 111)
      have GB := B3.new (w := wr) (x0 := .int .i64 K) (x1 := .int .i64 A) (x2 := .int .i64 B) (t := 111)
      have zA := A1.size
      have zB := HB.out.size
      have HO1 := Lib.hid (ownsRow_below HO.out A1); have HB1 := Lib.hid (bel_trans HB.out A1)
      obtain ⟨b0, b1_, b2_⟩ := id GB
      by_cases hK0 : K = 0
      · subst hK0
        rw [gateB_01 (Or.inl rfl)] at hgt
        obtain ⟨ga1, gb1⟩ := Bool.and_eq_true_iff.1 hgt
        obtain ⟨q, q', rfl, rfl, hq, hq', bb, off, rfl, hbl, hc, hd⟩ := m1.ints.wires ga1 gb1
        have hqi : (q : Int) < (n : Int) := by omega
        have hqi' : (q' : Int) < (n : Int) := by omega
        have hxe := xr_eq (bit1_at HL.out.1 q) (bit1_at HL.out.1 q')
        have HN : Hid (valS gs us (k + 1) = l ++ [xr (nth l q) (nth l q')]) := by show _ = _; rw [HS.out]; unfold gval; rw [if_pos rfl]; simp
        replace hc := cell_on hc A1; replace hd := cell_on hd A1
        clear hgt ga1 gb1 HS m1 GB HL
        go_wp2_with fail
        go_wp2_with fail
        replace hc := cell_on hc (bel_drew _); replace hd := cell_on hd (bel_drew _)
        go_region_law (first | (refine step_app (wr.alloc (.cells #[.int .i64 0, .int .i64 q, .int .i64 q'] 111)) w.heap.size n _ l (xr (nth l q) (nth l q')) _ (by rfl) _ _ (by rfl) (by rfl) (by rfl) (by rw [← hxe]; simp [World.cell?_alloc_at]) HO1.out (by (repeat (first | exact Below.refl _ _ | assumption | refine bel_trans ?_ (bel_alloc _ _) | refine bel_set ?_ (by first | (dsimp only; omega) | (simp; omega) | simp) _ | refine bel_trans ?_ (bel_drewN _ _) | refine bel_trans ?_ (bel_drew _) | refine bel_trans ?_ (by assumption)))) (by omega) (by omega) ?_; intro v9 w9 hv9 hb9 hg9))
        all_goals
          clear hg9
          go_wp2
          go_roundw
          case rel => exact ⟨k + 1, by omega, by go_num, by rw [show an + (k + 1) = n + 1 by have := HNN.out; omega, HN.out]; exact hv9, HB1.out.trans (((by (repeat (first | exact Below.refl _ _ | assumption | refine bel_trans ?_ (bel_alloc _ _) | refine bel_set ?_ (by first | (dsimp only; omega) | (simp; omega) | simp) _ | refine bel_trans ?_ (bel_drewN _ _) | refine bel_trans ?_ (bel_drew _) | refine bel_trans ?_ (by assumption))) : Below (wr.alloc (.cells #[.int .i64 0, .int .i64 q, .int .i64 q'] 111)).heap.size (wr.alloc (.cells #[.int .i64 0, .int .i64 q, .int .i64 q'] 111)) _).mono (by omega)).trans hb9)⟩
          case measure => simp [intOf]; omega
      · by_cases hK1 : K = 1
        · subst hK1
          rw [gateB_01 (Or.inr rfl)] at hgt
          obtain ⟨ga1, gb1⟩ := Bool.and_eq_true_iff.1 hgt
          obtain ⟨q, q', rfl, rfl, hq, hq', bb, off, rfl, hbl, hc, hd⟩ := m1.ints.wires ga1 gb1
          have hqi : (q : Int) < (n : Int) := by omega
          have hqi' : (q' : Int) < (n : Int) := by omega
          have hxe := an_eq (bit1_at HL.out.1 q) (bit1_at HL.out.1 q')
          have HN : Hid (valS gs us (k + 1) = l ++ [nth l q * nth l q']) := by show _ = _; rw [HS.out]; unfold gval; rw [if_neg (by omega), if_pos rfl]; simp
          replace hc := cell_on hc A1; replace hd := cell_on hd A1
          clear hgt ga1 gb1 HS m1 GB HL
          go_wp2_with fail
          go_wp2_with fail
          replace hc := cell_on hc (bel_drew _); replace hd := cell_on hd (bel_drew _)
          go_region_law (first | (refine step_app (wr.alloc (.cells #[.int .i64 1, .int .i64 q, .int .i64 q'] 111)) w.heap.size n _ l (nth l q * nth l q') _ (by rfl) _ _ (by rfl) (by rfl) (by rfl) (by rw [← hxe]; simp [World.cell?_alloc_at]) HO1.out (by (repeat (first | exact Below.refl _ _ | assumption | refine bel_trans ?_ (bel_alloc _ _) | refine bel_set ?_ (by first | (dsimp only; omega) | (simp; omega) | simp) _ | refine bel_trans ?_ (bel_drewN _ _) | refine bel_trans ?_ (bel_drew _) | refine bel_trans ?_ (by assumption)))) (by omega) (by omega) ?_; intro v9 w9 hv9 hb9 hg9))
          all_goals
            clear hg9
            go_wp2
            go_roundw
            case rel => exact ⟨k + 1, by omega, by go_num, by rw [show an + (k + 1) = n + 1 by have := HNN.out; omega, HN.out]; exact hv9, HB1.out.trans (((by (repeat (first | exact Below.refl _ _ | assumption | refine bel_trans ?_ (bel_alloc _ _) | refine bel_set ?_ (by first | (dsimp only; omega) | (simp; omega) | simp) _ | refine bel_trans ?_ (bel_drewN _ _) | refine bel_trans ?_ (bel_drew _) | refine bel_trans ?_ (by assumption))) : Below (wr.alloc (.cells #[.int .i64 1, .int .i64 q, .int .i64 q'] 111)).heap.size (wr.alloc (.cells #[.int .i64 1, .int .i64 q, .int .i64 q'] 111)) _).mono (by omega)).trans hb9)⟩
            case measure => simp [intOf]; omega
        · by_cases hK2 : K = 2
          · subst hK2
            rw [gateB_2] at hgt
            obtain ⟨ga1, gb1⟩ := Bool.and_eq_true_iff.1 hgt
            obtain ⟨q, rfl, hq, bb, off, rfl, hbl, hc⟩ := m1.ints.wire ga1
            have hqi : (q : Int) < (n : Int) := by omega
            have hqb := bit1_at HL.out.1 q
            have e1 : IntKind.i64.wrap (1 - nth l q) = 1 - nth l q := IntWalk.i64_in _ (by omega)
            have HN : Hid (valS gs us (k + 1) = l ++ [1 - nth l q]) := by show _ = _; rw [HS.out]; unfold gval; rw [if_neg (by omega), if_neg (by omega), if_pos rfl]; simp
            replace hc := cell_on hc A1
            clear hgt ga1 gb1 HS m1 GB HL hK0 hK1
            go_wp2_with (at_builtin; (try rw [e1]); go_loud (refine wp_app _ w.heap.size _ _ _ (1 - nth l q) _ _ rfl _ _ rfl rfl rfl (by first | rfl | simp) (ownsRow_below HO1.out (by (repeat (first | exact Below.refl _ _ | assumption | refine bel_trans ?_ (bel_alloc _ _) | refine bel_set ?_ (by first | (dsimp only; omega) | (simp; omega) | simp) _ | refine bel_trans ?_ (bel_drewN _ _) | refine bel_trans ?_ (bel_drew _) | refine bel_trans ?_ (by assumption))))) (by first | omega | (simp; omega)) (by omega) ?_; intro v9 w9 hv9 hb9 hg9))
            clear hg9
            go_roundw
            case rel => exact ⟨k + 1, by omega, by go_num, by rw [show an + (k + 1) = n + 1 by have := HNN.out; omega, HN.out]; exact hv9, HB1.out.trans hb9⟩
            case measure => simp [intOf]; omega
          · have k0b : (K == 0) = false := by simpa using hK0
            have k1b : (K == 1) = false := by simpa using hK1
            have k2b : (K == 2) = false := by simpa using hK2
            have HN : Hid (valS gs us (k + 1) = l ++ [1]) := by show _ = _; rw [HS.out]; unfold gval; rw [if_neg hK0, if_neg hK1, if_neg hK2]
            clear hgt HS m1 GB HL hK0 hK1 hK2
            go_wp2_with (at_builtin; go_loud (refine wp_app _ w.heap.size _ _ _ (1) _ _ rfl _ _ rfl rfl rfl (by first | rfl | simp) (ownsRow_below HO1.out (by (repeat (first | exact Below.refl _ _ | assumption | refine bel_trans ?_ (bel_alloc _ _) | refine bel_set ?_ (by first | (dsimp only; omega) | (simp; omega) | simp) _ | refine bel_trans ?_ (bel_drewN _ _) | refine bel_trans ?_ (bel_drew _) | refine bel_trans ?_ (by assumption))))) (by first | omega | (simp; omega)) (by omega) ?_; intro v9 w9 hv9 hb9 hg9))
            clear hg9
            go_roundw
            case rel => exact ⟨k + 1, by omega, by go_num, by rw [show an + (k + 1) = n + 1 by have := HNN.out; omega, HN.out]; exact hv9, HB1.out.trans hb9⟩
            case measure => simp [intOf]; omega
    · obtain rfl : k = gn := by omega
      have hlti : ¬ (k : Int) < (k : Int) := by omega
      go_wp2
      obtain ⟨r9, c9, hv, hm⟩ := OwnI.of HO.out (by omega) (HV.out k).1.fit
      subst hv
      go_ret
      exact ⟨_, _, rfl, hm.mine, HB.out⟩
def evAll (i0 i1 : Int) (gs : List Int) (gn : Nat) (os us vs : List Int) : List Int × Bool := if askB i0 i1 gs gn os us vs then (pkL (valS gs (us ++ vs) gn) os os.length, true) else ([], false)
theorem bit1.app {l m : List Int} (h : bit1 l) (k : bit1 m) : bit1 (l ++ m) := fun x hx => (List.mem_append.1 hx).elim (h x) (k x)
end Go.Proofs.Ytfejpmfcognikaa
