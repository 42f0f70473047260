/-
  Contracts: the values of the wires of an arithmetic circuit, both sides.
  Contract: slices.Repeat of one number.
  Contracts: the degrees of the wires of an arithmetic circuit, both sides.
  What is drawn for the laws on polynomials and shares: lists of elements.
-/
import Derived.Test.YtfichpppjpgahaaGreatDoorFm5
import Derived.Test.YtfichpppjpgahaaGreatDoorFm7
import Derived.Test.YtfichpppjpgahaaGreatDoorFm4
import Derived.StillTailTactics
import Derived.Deep.RegionLaw
import Derived.BigRegion
import Derived.Laws.CopyOwn
import Derived.BigQuiet
import Derived.Test.YtfichpppjpgahaaGreatDoorFm1
namespace Go.Proofs.YtfichpppjpgahaaGreatDoor
open Go.RowKit
set_option linter.unusedVariables false
set_option linter.unusedSimpArgs false
set_option maxRecDepth 10000

theorem Ints.wireA {w : World} {v : Option Addr} {n cap : Nat} {l : List Int} (h : Ints w v n cap l) {a : Int} (ha : inB a 0 ((n : Int) - 1) = true) : ∃ q : Nat, a = q ∧ q < n ∧ ∃ b off, v = some ⟨b, off, none⟩ ∧ b < w.heap.size ∧ w.cell? ⟨b, off + q, none⟩ = some (.int .i64 (nth l q)) := by
  have := inB_iff.1 ha
  refine ⟨a.toNat, by omega, by omega, ?_⟩
  exact h.at (by omega)
theorem Ints.wiresA {w : World} {v : Option Addr} {n cap : Nat} {l : List Int} (h : Ints w v n cap l) {a a' : Int} (ha : inB a 0 ((n : Int) - 1) = true) (ha' : inB a' 0 ((n : Int) - 1) = true) :
    ∃ q q' : Nat, a = q ∧ a' = q' ∧ q < n ∧ q' < n ∧ ∃ b off, v = some ⟨b, off, none⟩ ∧ b < w.heap.size ∧ w.cell? ⟨b, off + q, none⟩ = some (.int .i64 (nth l q)) ∧ w.cell? ⟨b, off + q', none⟩ = some (.int .i64 (nth l q')) := by
  obtain ⟨q, e, hq, b, off, ev, hb, hc⟩ := h.wireA ha
  obtain ⟨q', e', hq', b', off', ev', hb', hc'⟩ := h.wireA ha'
  rw [ev] at ev'
  simp only [Option.some.injEq, Addr.mk.injEq] at ev'
  obtain ⟨rfl, rfl, _⟩ := ev'
  exact ⟨q, q', e, e', hq, hq', b, off, ev, hb, hc, hc'⟩
theorem nth_bd {l : List Int} {p : Int} (hp : 1 ≤ p) (h : ∀ x ∈ l, 0 ≤ x ∧ x < p) (i : Nat) : 0 ≤ nth l i ∧ nth l i < p := by
  by_cases hi : i < l.length
  · exact h _ (nth_mem hi)
  · rw [nth_out (by omega)]; omega
theorem bd_fit {l : List Int} {p : Int} (hp : p ≤ 251) (h : ∀ x ∈ l, 0 ≤ x ∧ x < p) : ∀ x ∈ l, Fits x := fun x hx => by have := h x hx; unfold Fits; omega
theorem mul_bdA {p x y : Int} (hp : p ≤ 251) (hx : 0 ≤ x ∧ x < p) (hy : 0 ≤ y ∧ y < p) : 0 ≤ x * y ∧ x * y ≤ 63001 := by
  refine ⟨Int.mul_nonneg hx.1 hy.1, ?_⟩
  have := Int.mul_le_mul (show x ≤ 251 by omega) (show y ≤ 251 by omega) hy.1 (by omega)
  omega
/-- The value of a gate before it is taken modulo p. -/
def aVal (K A B : Int) (o : List Int) : Int := if K = 0 then nth o A.toNat + nth o B.toNat else if K = 1 then nth o A.toNat * nth o B.toNat else if K = 2 then nth o A.toNat * B else A
theorem avs_step (p : Int) (gs us : List Int) (k : Nat) : avs p gs us (k + 1) = avs p gs us k ++ [aVal (fld 3 gs k 0) (fld 3 gs k 1) (fld 3 gs k 2) (avs p gs us k) % p] := rfl
/-- The gates that the walk finds good are those of the plain laws. -/
theorem gatesA_ok {p : Int} {gs : List Int} {n m : Nat} (h : gatesA p (n : Int) gs m = true) : ∀ k, k < m → gOk p gs (n + k) k = true := by
  intro k hk
  have q := gatesA_at h hk
  unfold gOk
  rw [decide_eq_true_iff]
  unfold arB at q
  show (fld 3 gs k 0 = 0 ∨ fld 3 gs k 0 = 1) ∧ (0 ≤ fld 3 gs k 1 ∧ fld 3 gs k 1 < (n + k : Nat)) ∧ (0 ≤ fld 3 gs k 2 ∧ fld 3 gs k 2 < (n + k : Nat)) ∨
    fld 3 gs k 0 = 2 ∧ (0 ≤ fld 3 gs k 1 ∧ fld 3 gs k 1 < (n + k : Nat)) ∧ (0 ≤ fld 3 gs k 2 ∧ fld 3 gs k 2 < p) ∨
    fld 3 gs k 0 = 3 ∧ (0 ≤ fld 3 gs k 1 ∧ fld 3 gs k 1 < p) ∧ fld 3 gs k 2 = 0
  split at q
  · rw [Bool.and_eq_true, inB_iff, inB_iff] at q; omega
  · split at q
    · rw [Bool.and_eq_true, inB_iff, inB_iff] at q; omega
    · rw [Bool.and_eq_true, Bool.and_eq_true, inB_iff, decide_eq_true_iff, decide_eq_true_iff] at q; omega
set_option maxHeartbeats 8000000 in
theorem s_arValues (p i0 i1 : Int) (ga : Option Addr) (gn gc : Nat) (gs : List Int) (oa : Option Addr) (on oc : Nat) (os : List Int) (aa : Option Addr) (an ac : Nat) (us : List Int) (w : World) (h : Circ w ga gn gc gs oa on oc os) (ha : Ints w aa an ac us) (hG : Hid (gatesA p (an : Int) gs gn = true)) (hu : Hid (∀ x ∈ us, 0 ≤ x ∧ x < p)) (hp : 2 ≤ p ∧ p ≤ 251) (hs : an + gn ≤ 100000) :
    Calls Tryz.prog 28 #[.agg #[.int .i64 p, .int .i64 i0, .int .i64 i1, .slice ga gn gc, .slice oa on oc], .slice aa an ac] w fun e w' => ∃ r c, e = .returned (.slice r (an + gn) c) ∧ Mine w' w.heap.size r (an + gn) c (avs p gs us gn) ∧ Below w.heap.size w w' := by
  obtain ⟨hp1, hp2⟩ := hp
  have hla := ha.len.out
  have A0 := bel_alloc w (.cells #[.int .i64 p, .int .i64 i0, .int .i64 i1, .slice ga gn gc, .slice oa on oc] 26)
  have g0 := B5.new (w := w) (x0 := .int .i64 p) (x1 := .int .i64 i0) (x2 := .int .i64 i1) (x3 := .slice ga gn gc) (x4 := .slice oa on oc) (t := 26)
  obtain ⟨c0, c1, c2, c3, c4⟩ := g0
  have hg := h.g
  have HV : Hid (∀ k, (∀ x ∈ avs p gs us k, 0 ≤ x ∧ x < p) ∧ (avs p gs us k).length = an + k) := fun k => ⟨avs_res hp1 gs us hu.out k, by rw [avs_len, hla]⟩
  clear c1 c2 c4 h hu hla
  have zz : (w.alloc (.cells #[.int .i64 p, .int .i64 i0, .int .i64 i1, .slice ga gn gc, .slice oa on oc] 26)).heap.size = w.heap.size + 1 := by simp
  go_enter Tryz.func28, Tryz.ntmps28
  go_wp2_with fail
  refine (s_l1Own _ _ _ us _ (ha.below A0) (by omega)).mono ?_; rintro e w1 ⟨r, c, rfl, hI, hb1⟩
  have HB := Lib.hid (bel_trans A0 hb1)
  replace c0 := cell_on c0 hb1
  replace c3 := cell_on c3 hb1
  have HP := Lib.hid c0
  have HO := Lib.hid hI.own
  rw [zz] at HO
  clear hI hb1 A0 zz ha c0
  go_wp2
  go_loopw [5, 14] (fun v i wr => ∃ k : Nat, k ≤ gn ∧ i = .int .i64 k ∧ Hid (wr.ownsRow (w.heap.size + 1) 3 1 v (an + k) (ivs (avs p gs us k))) ∧ Hid (Below w.heap.size w wr) ∧ Hid (wr.cell? ⟨w.heap.size, 0, none⟩ = some (.int .i64 p))) (fun _ i _ => gn - (intOf i).toNat)
  case atStart => exact ⟨0, by omega, rfl, HO, HB, HP⟩
  case round =>
    clear HO HB HP c3
    obtain ⟨k, hk9, rfl, HO, HB, HP⟩ := hrel
    by_cases hlt : k < gn
    · have hlti : (k : Int) < (gn : Int) := by omega
      obtain ⟨gb, go, rfl, gl, g0, g1, g2⟩ := (hg.below HB.out).at3 hlt
      have hgt : arB p (fld 3 gs k 0) (fld 3 gs k 1) (fld 3 gs k 2) (((an + k : Nat)) : Int) = true := by have := gatesA_at hG.out hlt; rw [show (((an + k : Nat)) : Int) = (an : Int) + (k : Int) by omega]; exact this
      have HS : Hid (avs p gs us (k + 1) = avs p gs us k ++ [aVal (fld 3 gs k 0) (fld 3 gs k 1) (fld 3 gs k 2) (avs p gs us k) % p]) := avs_step p gs us k
      have HL : Hid ((∀ x ∈ avs p gs us k, 0 ≤ x ∧ x < p) ∧ (avs p gs us k).length = an + k) := HV.out k
      obtain ⟨n, hn⟩ : ∃ n, n = an + k := ⟨_, rfl⟩
      rw [← hn] at hgt HL HO
      generalize avs p gs us k = l at HS HL HO
      generalize fld 3 gs k 0 = K at hgt HS g0
      generalize fld 3 gs k 1 = A at hgt HS g1
      generalize fld 3 gs k 2 = B at hgt HS g2
      have hn9 : n ≤ 100000 := by omega
      have HNN := Lib.hid hn; clear hn
      obtain ⟨a1, k1, rfl, m1⟩ := Mine.of HO.out (by omega) (bd_fit hp2 HL.out.1)
      have A1 := bel_alloc wr (.cells #[.int .i64 K, .int .i64 A, .int .i64 B] 65)
      have GB := B3.new (w := wr) (x0 := .int .i64 K) (x1 := .int .i64 A) (x2 := .int .i64 B) (t := 65)
      have zA := A1.size
      have zB := HB.out.size
      have zC := lt_of_cell HP.out
      have zD : w.heap.size < wr.heap.size := zC
      have HP1 := Lib.hid (cell_on HP.out A1)
      have hpc := HP1.out
      have hp0 : ¬ p = 0 := by omega
      have HO1 := Lib.hid (ownsRow_below HO.out A1); have HB1 := Lib.hid (bel_trans HB.out A1)
      obtain ⟨b0, b1_, b2_⟩ := id GB
      by_cases hK0 : K = 0
      · subst hK0
        rw [arB_01 (Or.inl rfl)] at hgt
        obtain ⟨ga1, gb1⟩ := Bool.and_eq_true_iff.1 hgt
        obtain ⟨q, q', rfl, rfl, hq, hq', bb, off, rfl, hbl, hc, hd⟩ := m1.ints.wiresA ga1 gb1
        have hqi : (q : Int) < (n : Int) := by omega
        have hqi' : (q' : Int) < (n : Int) := by omega
        have qb := nth_bd (by omega) HL.out.1 q
        have qb' := nth_bd (by omega) HL.out.1 q'
        skip
        have e1 : IntKind.i64.wrap (nth l q + nth l q') = nth l q + nth l q' := IntWalk.i64_in _ (by omega)
        have e2 : (nth l q + nth l q').tmod p = (nth l q + nth l q') % p := Int.tmod_eq_emod_of_nonneg (by omega)
        have HN : Hid (avs p gs us (k + 1) = l ++ [(nth l q + nth l q') % p]) := by show _ = _; rw [HS.out]; unfold aVal; rw [if_pos rfl]; simp
        replace hc := cell_on hc A1; replace hd := cell_on hd A1
        clear hgt ga1 gb1 HS m1 GB HL
        go_wp2_with fail
        go_quiet (fail)
        go_wp2_with (at_builtin; (try rw [e2]); go_loud (refine wp_app _ (w.heap.size + 1) _ _ _ ((nth l q + nth l q') % p) _ _ rfl _ _ rfl rfl rfl (by first | rfl | simp) (ownsRow_below HO1.out (by (repeat (first | exact Below.refl _ _ | assumption | refine bel_trans ?_ (bel_alloc _ _) | refine bel_set ?_ (by first | (dsimp only; omega) | (simp; omega) | simp) _ | refine bel_trans ?_ (bel_drewN _ _) | refine bel_trans ?_ (bel_drew _) | refine bel_trans ?_ (by assumption))))) (by first | omega | (simp; omega)) (by omega) ?_; intro v9 w9 hv9 hb9 hg9))
        clear hg9
        have hp9 := (hb9.cell (p := ⟨w.heap.size, 0, none⟩) (by simp)).trans HP1.out
        go_roundw
        case rel => exact ⟨k + 1, by omega, by go_num, by rw [show an + (k + 1) = n + 1 by have := HNN.out; omega, HN.out]; exact hv9, HB1.out.trans (((by (repeat (first | exact Below.refl _ _ | assumption | refine bel_trans ?_ (bel_alloc _ _) | refine bel_set ?_ (by first | (dsimp only; omega) | (simp; omega) | simp) _ | refine bel_trans ?_ (bel_drewN _ _) | refine bel_trans ?_ (bel_drew _) | refine bel_trans ?_ (by assumption))) : Below (wr.alloc (.cells #[.int .i64 0, .int .i64 q, .int .i64 q'] 65)).heap.size (wr.alloc (.cells #[.int .i64 0, .int .i64 q, .int .i64 q'] 65)) _).mono (by omega)).trans (hb9.mono (Nat.le_succ _))), hp9⟩
        case measure => simp [intOf]; omega
      · by_cases hK1 : K = 1
        · subst hK1
          rw [arB_01 (Or.inr rfl)] at hgt
          obtain ⟨ga1, gb1⟩ := Bool.and_eq_true_iff.1 hgt
          obtain ⟨q, q', rfl, rfl, hq, hq', bb, off, rfl, hbl, hc, hd⟩ := m1.ints.wiresA ga1 gb1
          have hqi : (q : Int) < (n : Int) := by omega
          have hqi' : (q' : Int) < (n : Int) := by omega
          have qb := nth_bd (by omega) HL.out.1 q
          have qb' := nth_bd (by omega) HL.out.1 q'
          have mb := mul_bdA hp2 qb qb'
          have e1 : IntKind.i64.wrap (nth l q * nth l q') = nth l q * nth l q' := IntWalk.i64_in _ (by omega)
          have e2 : (nth l q * nth l q').tmod p = (nth l q * nth l q') % p := Int.tmod_eq_emod_of_nonneg (by omega)
          have HN : Hid (avs p gs us (k + 1) = l ++ [(nth l q * nth l q') % p]) := by show _ = _; rw [HS.out]; unfold aVal; rw [if_neg (by omega), if_pos rfl]; simp
          replace hc := cell_on hc A1; replace hd := cell_on hd A1
          clear hgt ga1 gb1 HS m1 GB HL
          go_wp2_with fail
          go_quiet (fail)
          go_wp2_with (at_builtin; (try rw [e2]); go_loud (refine wp_app _ (w.heap.size + 1) _ _ _ ((nth l q * nth l q') % p) _ _ rfl _ _ rfl rfl rfl (by first | rfl | simp) (ownsRow_below HO1.out (by (repeat (first | exact Below.refl _ _ | assumption | refine bel_trans ?_ (bel_alloc _ _) | refine bel_set ?_ (by first | (dsimp only; omega) | (simp; omega) | simp) _ | refine bel_trans ?_ (bel_drewN _ _) | refine bel_trans ?_ (bel_drew _) | refine bel_trans ?_ (by assumption))))) (by first | omega | (simp; omega)) (by omega) ?_; intro v9 w9 hv9 hb9 hg9))
          clear hg9
          have hp9 := (hb9.cell (p := ⟨w.heap.size, 0, none⟩) (by simp)).trans HP1.out
          go_roundw
          case rel => exact ⟨k + 1, by omega, by go_num, by rw [show an + (k + 1) = n + 1 by have := HNN.out; omega, HN.out]; exact hv9, HB1.out.trans (((by (repeat (first | exact Below.refl _ _ | assumption | refine bel_trans ?_ (bel_alloc _ _) | refine bel_set ?_ (by first | (dsimp only; omega) | (simp; omega) | simp) _ | refine bel_trans ?_ (bel_drewN _ _) | refine bel_trans ?_ (bel_drew _) | refine bel_trans ?_ (by assumption))) : Below (wr.alloc (.cells #[.int .i64 1, .int .i64 q, .int .i64 q'] 65)).heap.size (wr.alloc (.cells #[.int .i64 1, .int .i64 q, .int .i64 q'] 65)) _).mono (by omega)).trans (hb9.mono (Nat.le_succ _))), hp9⟩
          case measure => simp [intOf]; omega
        · by_cases hK2 : K = 2
          · subst hK2
            rw [arB_2] at hgt
            obtain ⟨ga1, gb1⟩ := Bool.and_eq_true_iff.1 hgt
            obtain ⟨q, rfl, hq, bb, off, rfl, hbl, hc⟩ := m1.ints.wireA ga1
            have hqi : (q : Int) < (n : Int) := by omega
            have qb := nth_bd (by omega) HL.out.1 q
            have qb' := inB_iff.1 gb1
            have mb := mul_bdA hp2 qb (show 0 ≤ B ∧ B < p by omega)
            have e1 : IntKind.i64.wrap (nth l q * B) = nth l q * B := IntWalk.i64_in _ (by omega)
            have e2 : (nth l q * B).tmod p = (nth l q * B) % p := Int.tmod_eq_emod_of_nonneg (by omega)
            have HN : Hid (avs p gs us (k + 1) = l ++ [(nth l q * B) % p]) := by show _ = _; rw [HS.out]; unfold aVal; rw [if_neg (by omega), if_neg (by omega), if_pos rfl]; simp
            replace hc := cell_on hc A1
            clear hgt ga1 gb1 HS m1 GB HL hK0 hK1
            go_wp2_with fail
            go_quiet (fail)
            go_wp2_with (at_builtin; (try rw [e2]); go_loud (refine wp_app _ (w.heap.size + 1) _ _ _ ((nth l q * B) % p) _ _ rfl _ _ rfl rfl rfl (by first | rfl | simp) (ownsRow_below HO1.out (by (repeat (first | exact Below.refl _ _ | assumption | refine bel_trans ?_ (bel_alloc _ _) | refine bel_set ?_ (by first | (dsimp only; omega) | (simp; omega) | simp) _ | refine bel_trans ?_ (bel_drewN _ _) | refine bel_trans ?_ (bel_drew _) | refine bel_trans ?_ (by assumption))))) (by first | omega | (simp; omega)) (by omega) ?_; intro v9 w9 hv9 hb9 hg9))
            clear hg9
            have hp9 := (hb9.cell (p := ⟨w.heap.size, 0, none⟩) (by simp)).trans HP1.out
            go_roundw
            case rel => exact ⟨k + 1, by omega, by go_num, by rw [show an + (k + 1) = n + 1 by have := HNN.out; omega, HN.out]; exact hv9, HB1.out.trans (((by (repeat (first | exact Below.refl _ _ | assumption | refine bel_trans ?_ (bel_alloc _ _) | refine bel_set ?_ (by first | (dsimp only; omega) | (simp; omega) | simp) _ | refine bel_trans ?_ (bel_drewN _ _) | refine bel_trans ?_ (bel_drew _) | refine bel_trans ?_ (by assumption))) : Below (wr.alloc (.cells #[.int .i64 2, .int .i64 q, .int .i64 B] 65)).heap.size (wr.alloc (.cells #[.int .i64 2, .int .i64 q, .int .i64 B] 65)) _).mono (by omega)).trans (hb9.mono (Nat.le_succ _))), hp9⟩
            case measure => simp [intOf]; omega
          · rw [arB_3 (by omega) hK2] at hgt
            have hA := inB_iff.1 (Bool.and_eq_true_iff.1 (Bool.and_eq_true_iff.1 hgt).2).1
            have k0b : (K == 0) = false := by simpa using hK0
            have k1b : (K == 1) = false := by simpa using hK1
            have k2b : (K == 2) = false := by simpa using hK2
            have e2 : A.tmod p = A % p := Int.tmod_eq_emod_of_nonneg (by omega)
            have HN : Hid (avs p gs us (k + 1) = l ++ [A % p]) := by show _ = _; rw [HS.out]; unfold aVal; rw [if_neg hK0, if_neg hK1, if_neg hK2]
            clear hgt HS m1 GB HL hK0 hK1 hK2
            go_wp2_with (at_builtin; (try rw [e2]); go_loud (refine wp_app _ (w.heap.size + 1) _ _ _ (A % p) _ _ rfl _ _ rfl rfl rfl (by first | rfl | simp) (ownsRow_below HO1.out (by (repeat (first | exact Below.refl _ _ | assumption | refine bel_trans ?_ (bel_alloc _ _) | refine bel_set ?_ (by first | (dsimp only; omega) | (simp; omega) | simp) _ | refine bel_trans ?_ (bel_drewN _ _) | refine bel_trans ?_ (bel_drew _) | refine bel_trans ?_ (by assumption))))) (by first | omega | (simp; omega)) (by omega) ?_; intro v9 w9 hv9 hb9 hg9))
            clear hg9
            have hp9 := (hb9.cell (p := ⟨w.heap.size, 0, none⟩) (by simp)).trans HP1.out
            go_roundw
            case rel => exact ⟨k + 1, by omega, by go_num, by rw [show an + (k + 1) = n + 1 by have := HNN.out; omega, HN.out]; exact hv9, HB1.out.trans (hb9.mono (Nat.le_succ _)), hp9⟩
            case measure => simp [intOf]; omega
    · obtain rfl : k = gn := by omega
      have hlti : ¬ (k : Int) < (k : Int) := by omega
      go_wp2
      obtain ⟨r9, c9, hv, hm⟩ := OwnI.of HO.out (by omega) (bd_fit hp2 (HV.out k).1)
      subst hv
      go_ret
      exact ⟨_, _, rfl, hm.mine.base (by omega), HB.out⟩
set_option maxHeartbeats 8000000 in
theorem i_arValues (p i0 i1 : Int) (ga : Option Addr) (gn gc : Nat) (gs : List Int) (oa : Option Addr) (on oc : Nat) (os : List Int) (aa : Option Addr) (an ac : Nat) (us : List Int) (w : World) (h : Circ w ga gn gc gs oa on oc os) (ha : Ints w aa an ac us) (hG : Hid (gatesA p (an : Int) gs gn = true)) (hu : Hid (∀ x ∈ us, 0 ≤ x ∧ x < p)) (hp : 2 ≤ p ∧ p ≤ 251) (hs : an + gn ≤ 100000) :
    Calls Tryz.prog 25 #[.agg #[.int .i64 p, .int .i64 i0, .int .i64 i1, .slice ga gn gc, .slice oa on oc], .slice aa an ac] w fun e w' => ∃ r c, e = .returned (.slice r (an + gn) c) ∧ Mine w' w.heap.size r (an + gn) c (avs p gs us gn) ∧ Below w.heap.size w w' := by
  obtain ⟨hp1, hp2⟩ := hp
  have hla := ha.len.out
  have A0 := bel_alloc w (.cells #[.int .i64 p, .int .i64 i0, .int .i64 i1, .slice ga gn gc, .slice oa on oc] 26)
  have g0 := B5.new (w := w) (x0 := .int .i64 p) (x1 := .int .i64 i0) (x2 := .int .i64 i1) (x3 := .slice ga gn gc) (x4 := .slice oa on oc) (t := 26)
  obtain ⟨c0, c1, c2, c3, c4⟩ := g0
  have hg := h.g
  have HV : Hid (∀ k, (∀ x ∈ avs p gs us k, 0 ≤ x ∧ x < p) ∧ (avs p gs us k).length = an + k) := fun k => ⟨avs_res hp1 gs us hu.out k, by rw [avs_len, hla]⟩
  clear c1 c2 c4 h hu hla
  have zz : (w.alloc (.cells #[.int .i64 p, .int .i64 i0, .int .i64 i1, .slice ga gn gc, .slice oa on oc] 26)).heap.size = w.heap.size + 1 := by simp
  go_enter Tryz.func25, Tryz.ntmps25
  go_wp2_with fail
  refine (g_Clone _ _ _ us _ (ha.below A0) (by omega)).mono ?_; rintro e w1 ⟨r, c, rfl, hI, hb1⟩
  have HB := Lib.hid (bel_trans A0 hb1)
  replace c0 := cell_on c0 hb1
  replace c3 := cell_on c3 hb1
  have HP := Lib.hid c0
  have HO := Lib.hid hI.own
  rw [zz] at HO
  clear hI hb1 A0 zz ha c0
  go_wp2
  go_loopw [5, 14] (fun v i wr => ∃ k : Nat, k ≤ gn ∧ i = .int .i64 k ∧ Hid (wr.ownsRow (w.heap.size + 1) 3 1 v (an + k) (ivs (avs p gs us k))) ∧ Hid (Below w.heap.size w wr) ∧ Hid (wr.cell? ⟨w.heap.size, 0, none⟩ = some (.int .i64 p))) (fun _ i _ => gn - (intOf i).toNat)
  case atStart => exact ⟨0, by omega, rfl, HO, HB, HP⟩
  case round =>
    clear HO HB HP c3
    obtain ⟨k, hk9, rfl, HO, HB, HP⟩ := hrel
    by_cases hlt : k < gn
    · have hlti : (k : Int) < (gn : Int) := by omega
      obtain ⟨gb, go, rfl, gl, g0, g1, g2⟩ := (hg.below HB.out).at3 hlt
      have hgt : arB p (fld 3 gs k 0) (fld 3 gs k 1) (fld 3 gs k 2) (((an + k : Nat)) : Int) = true := by have := gatesA_at hG.out hlt; rw [show (((an + k : Nat)) : Int) = (an : Int) + (k : Int) by omega]; exact this
      have HS : Hid (avs p gs us (k + 1) = avs p gs us k ++ [aVal (fld 3 gs k 0) (fld 3 gs k 1) (fld 3 gs k 2) (avs p gs us k) % p]) := avs_step p gs us k
      have HL : Hid ((∀ x ∈ avs p gs us k, 0 ≤ x ∧ x < p) ∧ (avs p gs us k).length = an + k) := HV.out k
      obtain ⟨n, hn⟩ : ∃ n, n = an + k := ⟨_, rfl⟩
      rw [← hn] at hgt HL HO
      generalize avs p gs us k = l at HS HL HO
      generalize fld 3 gs k 0 = K at hgt HS g0
      generalize fld 3 gs k 1 = A at hgt HS g1
      generalize fld 3 gs k 2 = B at hgt HS g2
      have hn9 : n ≤ 100000 := by omega
      have HNN := Lib.hid hn; clear hn
      obtain ⟨a1, k1, rfl, m1⟩ := Mine.of HO.out (by omega) (bd_fit hp2 HL.out.1)
      have A1 := bel_alloc wr (.cells #[.int .i64 K, .int .i64 A, .int .i64 B] 65)
      have GB := B3.new (w := wr) (x0 := .int .i64 K) (x1 := .int .i64 A) (x2 := .int .i64 B) (t := 65)
      have zA := A1.size
      have zB := HB.out.size
      have zC := lt_of_cell HP.out
      have zD : w.heap.size < wr.heap.size := zC
      have HP1 := Lib.hid (cell_on HP.out A1)
      have hpc := HP1.out
      have hp0 : ¬ p = 0 := by omega
      have HO1 := Lib.hid (ownsRow_below HO.out A1); have HB1 := Lib.hid (bel_trans HB.out A1)
      obtain ⟨b0, b1_, b2_⟩ := id GB
      by_cases hK0 : K = 0
      · subst hK0
        rw [arB_01 (Or.inl rfl)] at hgt
        obtain ⟨ga1, gb1⟩ := Bool.and_eq_true_iff.1 hgt
        obtain ⟨q, q', rfl, rfl, hq, hq', bb, off, rfl, hbl, hc, hd⟩ := m1.ints.wiresA ga1 gb1
        have hqi : (q : Int) < (n : Int) := by omega
        have hqi' : (q' : Int) < (n : Int) := by omega
        have qb := nth_bd (by omega) HL.out.1 q
        have qb' := nth_bd (by omega) HL.out.1 q'
        skip
        have e1 : IntKind.i64.wrap (nth l q + nth l q') = nth l q + nth l q' := IntWalk.i64_in _ (by omega)
        have e2 : (nth l q + nth l q').tmod p = (nth l q + nth l q') % p := Int.tmod_eq_emod_of_nonneg (by omega)
        have HN : Hid (avs p gs us (k + 1) = l ++ [(nth l q + nth l q') % p]) := by show _ = _; rw [HS.out]; unfold aVal; rw [if_pos rfl]; simp
        replace hc := cell_on hc A1; replace hd := cell_on hd A1
        clear hgt ga1 gb1 HS m1 GB HL
        go_wp2_with fail
        go_quiet (fail)
        go_wp2_with (at_builtin; (try rw [e2]); go_loud (refine wp_app _ (w.heap.size + 1) _ _ _ ((nth l q + nth l q') % p) _ _ rfl _ _ rfl rfl rfl (by first | rfl | simp) (ownsRow_below HO1.out (by (repeat (first | exact Below.refl _ _ | assumption | refine bel_trans ?_ (bel_alloc _ _) | refine bel_set ?_ (by first | (dsimp only; omega) | (simp; omega) | simp) _ | refine bel_trans ?_ (bel_drewN _ _) | refine bel_trans ?_ (bel_drew _) | refine bel_trans ?_ (by assumption))))) (by first | omega | (simp; omega)) (by omega) ?_; intro v9 w9 hv9 hb9 hg9))
        clear hg9
        have hp9 := (hb9.cell (p := ⟨w.heap.size, 0, none⟩) (by simp)).trans HP1.out
        go_roundw
        case rel => exact ⟨k + 1, by omega, by go_num, by rw [show an + (k + 1) = n + 1 by have := HNN.out; omega, HN.out]; exact hv9, HB1.out.trans (((by (repeat (first | exact Below.refl _ _ | assumption | refine bel_trans ?_ (bel_alloc _ _) | refine bel_set ?_ (by first | (dsimp only; omega) | (simp; omega) | simp) _ | refine bel_trans ?_ (bel_drewN _ _) | refine bel_trans ?_ (bel_drew _) | refine bel_trans ?_ (by assumption))) : Below (wr.alloc (.cells #[.int .i64 0, .int .i64 q, .int .i64 q'] 65)).heap.size (wr.alloc (.cells #[.int .i64 0, .int .i64 q, .int .i64 q'] 65)) _).mono (by omega)).trans (hb9.mono (Nat.le_succ _))), hp9⟩
        case measure => simp [intOf]; omega
      · by_cases hK1 : K = 1
        · subst hK1
          rw [arB_01 (Or.inr rfl)] at hgt
          obtain ⟨ga1, gb1⟩ := Bool.and_eq_true_iff.1 hgt
          obtain ⟨q, q', rfl, rfl, hq, hq', bb, off, rfl, hbl, hc, hd⟩ := m1.ints.wiresA ga1 gb1
          have hqi : (q : Int) < (n : Int) := by omega
          have hqi' : (q' : Int) < (n : Int) := by omega
          have qb := nth_bd (by omega) HL.out.1 q
          have qb' := nth_bd (by omega) HL.out.1 q'
          have mb := mul_bdA hp2 qb qb'
          have e1 : IntKind.i64.wrap (nth l q * nth l q') = nth l q * nth l q' := IntWalk.i64_in _ (by omega)
          have e2 : (nth l q * nth l q').tmod p = (nth l q * nth l q') % p := Int.tmod_eq_emod_of_nonneg (by omega)
          have HN : Hid (avs p gs us (k + 1) = l ++ [(nth l q * nth l q') % p]) := by show _ = _; rw [HS.out]; unfold aVal; rw [if_neg (by omega), if_pos rfl]; simp
          replace hc := cell_on hc A1; replace hd := cell_on hd A1
          clear hgt ga1 gb1 HS m1 GB HL
          go_wp2_with fail
          go_quiet (fail)
          go_wp2_with (at_builtin; (try rw [e2]); go_loud (refine wp_app _ (w.heap.size + 1) _ _ _ ((nth l q * nth l q') % p) _ _ rfl _ _ rfl rfl rfl (by first | rfl | simp) (ownsRow_below HO1.out (by (repeat (first | exact Below.refl _ _ | assumption | refine bel_trans ?_ (bel_alloc _ _) | refine bel_set ?_ (by first | (dsimp only; omega) | (simp; omega) | simp) _ | refine bel_trans ?_ (bel_drewN _ _) | refine bel_trans ?_ (bel_drew _) | refine bel_trans ?_ (by assumption))))) (by first | omega | (simp; omega)) (by omega) ?_; intro v9 w9 hv9 hb9 hg9))
          clear hg9
          have hp9 := (hb9.cell (p := ⟨w.heap.size, 0, none⟩) (by simp)).trans HP1.out
          go_roundw
          case rel => exact ⟨k + 1, by omega, by go_num, by rw [show an + (k + 1) = n + 1 by have := HNN.out; omega, HN.out]; exact hv9, HB1.out.trans (((by (repeat (first | exact Below.refl _ _ | assumption | refine bel_trans ?_ (bel_alloc _ _) | refine bel_set ?_ (by first | (dsimp only; omega) | (simp; omega) | simp) _ | refine bel_trans ?_ (bel_drewN _ _) | refine bel_trans ?_ (bel_drew _) | refine bel_trans ?_ (by assumption))) : Below (wr.alloc (.cells #[.int .i64 1, .int .i64 q, .int .i64 q'] 65)).heap.size (wr.alloc (.cells #[.int .i64 1, .int .i64 q, .int .i64 q'] 65)) _).mono (by omega)).trans (hb9.mono (Nat.le_succ _))), hp9⟩
          case measure => simp [intOf]; omega
        · by_cases hK2 : K = 2
          · subst hK2
            rw [arB_2] at hgt
            obtain ⟨ga1, gb1⟩ := Bool.and_eq_true_iff.1 hgt
            obtain ⟨q, rfl, hq, bb, off, rfl, hbl, hc⟩ := m1.ints.wireA ga1
            have hqi : (q : Int) < (n : Int) := by omega
            have qb := nth_bd (by omega) HL.out.1 q
            have qb' := inB_iff.1 gb1
            have mb := mul_bdA hp2 qb (show 0 ≤ B ∧ B < p by omega)
            have e1 : IntKind.i64.wrap (nth l q * B) = nth l q * B := IntWalk.i64_in _ (by omega)
            have e2 : (nth l q * B).tmod p = (nth l q * B) % p := Int.tmod_eq_emod_of_nonneg (by omega)
            have HN : Hid (avs p gs us (k + 1) = l ++ [(nth l q * B) % p]) := by show _ = _; rw [HS.out]; unfold aVal; rw [if_neg (by omega), if_neg (by omega), if_pos rfl]; simp
            replace hc := cell_on hc A1
            clear hgt ga1 gb1 HS m1 GB HL hK0 hK1
            go_wp2_with fail
            go_quiet (fail)
            go_wp2_with (at_builtin; (try rw [e2]); go_loud (refine wp_app _ (w.heap.size + 1) _ _ _ ((nth l q * B) % p) _ _ rfl _ _ rfl rfl rfl (by first | rfl | simp) (ownsRow_below HO1.out (by (repeat (first | exact Below.refl _ _ | assumption | refine bel_trans ?_ (bel_alloc _ _) | refine bel_set ?_ (by first | (dsimp only; omega) | (simp; omega) | simp) _ | refine bel_trans ?_ (bel_drewN _ _) | refine bel_trans ?_ (bel_drew _) | refine bel_trans ?_ (by assumption))))) (by first | omega | (simp; omega)) (by omega) ?_; intro v9 w9 hv9 hb9 hg9))
            clear hg9
            have hp9 := (hb9.cell (p := ⟨w.heap.size, 0, none⟩) (by simp)).trans HP1.out
            go_roundw
            case rel => exact ⟨k + 1, by omega, by go_num, by rw [show an + (k + 1) = n + 1 by have := HNN.out; omega, HN.out]; exact hv9, HB1.out.trans (((by (repeat (first | exact Below.refl _ _ | assumption | refine bel_trans ?_ (bel_alloc _ _) | refine bel_set ?_ (by first | (dsimp only; omega) | (simp; omega) | simp) _ | refine bel_trans ?_ (bel_drewN _ _) | refine bel_trans ?_ (bel_drew _) | refine bel_trans ?_ (by assumption))) : Below (wr.alloc (.cells #[.int .i64 2, .int .i64 q, .int .i64 B] 65)).heap.size (wr.alloc (.cells #[.int .i64 2, .int .i64 q, .int .i64 B] 65)) _).mono (by omega)).trans (hb9.mono (Nat.le_succ _))), hp9⟩
            case measure => simp [intOf]; omega
          · rw [arB_3 (by omega) hK2] at hgt
            have hA := inB_iff.1 (Bool.and_eq_true_iff.1 (Bool.and_eq_true_iff.1 hgt).2).1
            have k0b : (K == 0) = false := by simpa using hK0
            have k1b : (K == 1) = false := by simpa using hK1
            have k2b : (K == 2) = false := by simpa using hK2
            have e2 : A.tmod p = A % p := Int.tmod_eq_emod_of_nonneg (by omega)
            have HN : Hid (avs p gs us (k + 1) = l ++ [A % p]) := by show _ = _; rw [HS.out]; unfold aVal; rw [if_neg hK0, if_neg hK1, if_neg hK2]
            clear hgt HS m1 GB HL hK0 hK1 hK2
            go_wp2_with (at_builtin; (try rw [e2]); go_loud (refine wp_app _ (w.heap.size + 1) _ _ _ (A % p) _ _ rfl _ _ rfl rfl rfl (by first | rfl | simp) (ownsRow_below HO1.out (by (repeat (first | exact Below.refl _ _ | assumption | refine bel_trans ?_ (bel_alloc _ _) | refine bel_set ?_ (by first | (dsimp only; omega) | (simp; omega) | simp) _ | refine bel_trans ?_ (bel_drewN _ _) | refine bel_trans ?_ (bel_drew _) | refine bel_trans ?_ (by assumption))))) (by first | omega | (simp; omega)) (by omega) ?_; intro v9 w9 hv9 hb9 hg9))
            clear hg9
            have hp9 := (hb9.cell (p := ⟨w.heap.size, 0, none⟩) (by simp)).trans HP1.out
            go_roundw
            case rel => exact ⟨k + 1, by omega, by go_num, by rw [show an + (k + 1) = n + 1 by have := HNN.out; omega, HN.out]; exact hv9, HB1.out.trans (hb9.mono (Nat.le_succ _)), hp9⟩
            case measure => simp [intOf]; omega
    · obtain rfl : k = gn := by omega
      have hlti : ¬ (k : Int) < (k : Int) := by omega
      go_wp2
      obtain ⟨r9, c9, hv, hm⟩ := OwnI.of HO.out (by omega) (bd_fit hp2 (HV.out k).1)
      subst hv
      go_ret
      exact ⟨_, _, rfl, hm.mine.base (by omega), HB.out⟩
end Go.Proofs.YtfichpppjpgahaaGreatDoor
namespace Go.Proofs.YtfichpppjpgahaaGreatDoor
open Go.RowKit
set_option linter.unusedVariables false
set_option linter.unusedSimpArgs false
set_option maxRecDepth 10000
end Go.Proofs.YtfichpppjpgahaaGreatDoor
namespace Go.Proofs.YtfichpppjpgahaaGreatDoor
open Go.RowKit
set_option linter.unusedVariables false
set_option linter.unusedSimpArgs false
set_option maxRecDepth 10000

theorem Ints.ofCell {w : World} {m : Nat} {x : Int} (hc : w.cell? ⟨m, 0, none⟩ = some (.int .i64 x)) (hf : Fits x) : Ints w (some ⟨m, 0, none⟩) 1 1 [x] :=
  ⟨rfl, Nat.le_refl _, by omega, by omega, fun i hi => ⟨m, 0, rfl, lt_of_cell hc, by obtain rfl : i = 0 := (by omega); exact hc⟩, fun y hy => by simp at hy; subst hy; exact hf, fun e => by cases e⟩
def dVal (C K A B : Int) (o : List Int) : Int := if K = 0 then max (nth o A.toNat) (nth o B.toNat) else if K = 1 then min (nth o A.toNat + nth o B.toNat) C else if K = 2 then nth o A.toNat else 0
theorem ads_step (C : Int) (gs : List Int) (n k : Nat) : ads C gs n (k + 1) = ads C gs n k ++ [dVal C (fld 3 gs k 0) (fld 3 gs k 1) (fld 3 gs k 2) (ads C gs n k)] := rfl
theorem ads_all {C : Int} (hC : 1 ≤ C) (gs : List Int) (n m : Nat) : ∀ x ∈ ads C gs n m, 0 ≤ x ∧ x ≤ C := by
  intro x hx
  obtain ⟨i, _, rfl⟩ := mem_nth hx
  exact ads_bd hC gs n m i
theorem cbd_fit {l : List Int} {C : Int} (hp : C ≤ 4000000) (h : ∀ x ∈ l, 0 ≤ x ∧ x ≤ C) : ∀ x ∈ l, Fits x := fun x hx => by have := h x hx; unfold Fits; omega
theorem nth_cbd {l : List Int} {C : Int} (hp : 0 ≤ C) (h : ∀ x ∈ l, 0 ≤ x ∧ x ≤ C) (i : Nat) : 0 ≤ nth l i ∧ nth l i ≤ C := by
  by_cases hi : i < l.length
  · exact h _ (nth_mem hi)
  · rw [nth_out (by omega)]; omega
theorem s_l1MostA (x y : Int) (w : World) : Calls Tryz.prog 57 #[.int .i64 x, .int .i64 y] w fun e w' => e = .returned (.int .i64 (max x y)) ∧ w = w' := by
  have h := s_l1Most x y w
  rw [show (if y < x then x else y) = max x y by split <;> omega] at h
  exact h
theorem s_l1LeastA (x y : Int) (w : World) :
    Calls Tryz.prog 64 #[.int .i64 x, .int .i64 y] w fun e w' => e = .returned (.int .i64 (min x y)) ∧ w = w' := by
  by_cases h : x < y
  · rw [show min x y = x by omega]
    go_enter Tryz.func64, Tryz.ntmps64
    go_wp2
    go_ret
    exact ⟨rfl, rfl⟩
  · rw [show min x y = y by omega]
    go_enter Tryz.func64, Tryz.ntmps64
    go_wp2
    go_ret
    exact ⟨rfl, rfl⟩
end Go.Proofs.YtfichpppjpgahaaGreatDoor
namespace Go.Proofs.YtfichpppjpgahaaGreatDoor
open Go.RowKit
set_option linter.unusedVariables false
set_option linter.unusedSimpArgs false

theorem Cur.onB {w w' : World} {b B K X : Nat} (h : Cur w b B K) (hb : Below X w w') (hX : b < X) : Cur w' b B K := by
  have hBb := h.base
  refine ⟨Nat.lt_of_lt_of_le h.lt hb.size, h.base, ?_⟩
  obtain ⟨a, n, cap, i, s, h0, h1, h2, f1, f2, hi, hs, hB, ho⟩ := h.cells.out
  refine ⟨a, n, cap, i, s, (hb.cell (p := ⟨b, 0, none⟩) hX).trans h0, (hb.cell (p := ⟨b, 1, none⟩) hX).trans h1, (hb.cell (p := ⟨b, 2, none⟩) hX).trans h2, (hb.frozen (p := ⟨b, 1, none⟩) hX).trans f1, (hb.frozen (p := ⟨b, 2, none⟩) hX).trans f2, hi, hs, ⟨hB.ncap, hB.capm, hB.small, fun j hj => ?_⟩, ho⟩
  obtain ⟨g, off, y, e, hl, hc, hy⟩ := hB.cell.out j hj
  have hg := ho (by omega) g off e
  exact ⟨g, off, y, e, Nat.lt_of_lt_of_le hl hb.size, (hb.cell (p := ⟨g, off + j, none⟩) (by show g < X; omega)).trans hc, hy⟩
theorem Bex.thenB {b : Nat} {w0 w w' : World} (h : Bex b w0 w) (hb : Below w0.heap.size w w') : Bex b w0 w' :=
  ⟨hb.os.trans h.os, hb.tape.trans h.tape, hb.output.trans h.output, Nat.le_trans h.size hb.size, fun k hk hne => (hb.block k hk).trans (h.block k hk hne)⟩
theorem Bex.store {b : Nat} {w w' : World} {p : Addr} (h : Bex b w w') (hp : w.heap.size ≤ p.block) (u : Value) : Bex b w (w'.setCell p u) :=
  ⟨h.os, h.tape, h.output, by simpa [World.setCell] using h.size, fun k hk hne => (Below.heap_setCell _ _ _ _ (by omega)).trans (h.block k hk hne)⟩
set_option maxHeartbeats 2000000 in
theorem s_elements (b B K : Nat) (p : Int) (n : Nat) (w : World) (h : Cur w b B K) (hK : K + 4 * n ≤ 1000000000) (hp : Dr p) (hn : n ≤ 1000) :
    Calls Tryz.prog 58 #[.pointer (some ⟨b, 0, none⟩), .int .i64 p, .int .i64 n] w fun e w' => ∃ r c xs, e = .returned (.slice r n c) ∧ OwnI 3 w' w.heap.size r n c xs ∧ Cur w' b B (K + 4 * n) ∧ Bex b w w' := by
  have hbl := h.lt
  go_enter Tryz.func58, Tryz.ntmps58
  go_wp2
  go_loopw [2, 7] (fun i v W => ∃ k : Nat, k ≤ n ∧ i = .int .i64 ((n : Int) - k) ∧ Hid (∃ xs, W.ownsRow w.heap.size 3 1 v k (ivs xs) ∧ ∀ x ∈ xs, Fits x) ∧ Hid (Cur W b B (K + 4 * k)) ∧ Hid (Bex b w W)) (fun i _ _ => (intOf i).toNat)
  case atStart => exact ⟨0, by omega, by simp, ⟨[], World.ownsRow_nil _ _ _ _, by simp⟩, (show Hid _ from h), Bex.refl _ _⟩
  case round =>
    obtain ⟨k, hk, rfl, HO, HC, HX⟩ := hrel
    by_cases hlt : k < n
    · have hpos : (0 : Int) < (n : Int) - k := by omega
      have e1 : IntKind.i64.wrap ((n : Int) - k - 1) = (n : Int) - k - 1 := IntWalk.i64_in _ (by omega)
      have hzr := HX.out.size
      go_wp2_with fail
      refine (s_element b B (K + 4 * k) p _ HC.out (by omega) hp).mono ?_; rintro e w1 ⟨x, rfl, hx, hC1, hX1⟩
      obtain ⟨xs, ho, hf⟩ := HO.out
      have HO1 := Lib.hid (ownsRow_bex ho hX1 hbl); have HF := Lib.hid hf; clear ho hf HO HC
      have HC1 := Lib.hid hC1; have HX1 := Lib.hid (HX.out.trans hX1); clear hC1 hX1 HX
      have hz1 := HX1.out.size
      go_wp2_with (at_builtin; refine wp_app w1 w.heap.size k _ xs x _ _ rfl _ _ rfl rfl rfl (by first | rfl | simp) HO1.out (by omega) (by omega) ?_; intro v9 w9 hv9 hb9 hg9)
      clear hg9
      go_roundw
      case rel => exact ⟨k + 1, by omega, by first | go_num | (simp; omega), (show Hid _ from ⟨_, hv9, fun y hy => by
          rw [List.mem_append] at hy
          rcases hy with hy | hy
          · exact HF.out y hy
          · simp at hy; rw [hy]; exact hx.fits⟩), (show Hid _ from (HC1.out.onB hb9 hbl).more (by omega)), (show Hid _ from HX1.out.thenB hb9)⟩
      case measure => simp [intOf]; omega
    · obtain rfl : k = n := by omega
      obtain ⟨xs, ho, hf⟩ := HO.out
      obtain ⟨r, c, rfl, hI⟩ := OwnI.of ho (by omega) hf
      have HI := Lib.hid hI; clear hI ho hf HO
      go_wp2
      go_ret
      exact ⟨_, _, _, rfl, HI.out, HC.out, HX.out⟩
theorem s_elementsI (b B K : Nat) (p : Int) (n : Nat) (N : Int) (w : World) (h : Cur w b B K) (hK : K + 4 * n ≤ 1000000000) (hp : Dr p) (hn : n ≤ 1000) (hN : N = n) :
    Calls Tryz.prog 58 #[.pointer (some ⟨b, 0, none⟩), .int .i64 p, .int .i64 N] w fun e w' => ∃ r c xs, e = .returned (.slice r n c) ∧ OwnI 3 w' w.heap.size r n c xs ∧ Cur w' b B (K + 4 * n) ∧ Bex b w w' := by
  subst hN
  exact s_elements b B K p n w h hK hp hn
end Go.Proofs.YtfichpppjpgahaaGreatDoor
