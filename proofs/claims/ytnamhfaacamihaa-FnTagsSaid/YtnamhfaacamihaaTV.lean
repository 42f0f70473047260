/-
  Contracts of WrongTags and BatchHolds, the program's and the reference's.
-/
import Derived.Test.YtnamhfaacamihaaTW
import Derived.Test.YtnamhfaacamihaaBox
namespace Go.Proofs.Ytnamhfaacamihaa
open Go.RowKit
set_option linter.unusedVariables false
set_option linter.unusedSimpArgs false

/-- The numbers of the tagged values whose tags do not hold. -/
def wrongN (p d : Int) (ks zs : List Int) : Nat → List Int
  | 0 => []
  | k + 1 => if tagOk p d (nth ks k) (fld 2 zs k 0) (fld 2 zs k 1) then wrongN p d ks zs k else wrongN p d ks zs k ++ [(k : Int)]
theorem wrongN_len (p d : Int) (ks zs : List Int) : ∀ k, (wrongN p d ks zs k).length ≤ k
  | 0 => by simp [wrongN]
  | k + 1 => by
    have := wrongN_len p d ks zs k
    rw [wrongN]; split <;> simp <;> omega
theorem wrongN_fit (p d : Int) (ks zs : List Int) : ∀ k, k ≤ 1000 → ∀ x ∈ wrongN p d ks zs k, Fits x
  | 0, _ => by simp [wrongN]
  | k + 1, h => by
    have ih := wrongN_fit p d ks zs k (by omega)
    rw [wrongN]; split
    · exact ih
    · intro x hx
      rw [List.mem_append] at hx
      rcases hx with hx | hx
      · exact ih x hx
      · simp at hx; unfold Fits; omega
def wrongTags (p d : Int) (ks zs : List Int) : List Int × Bool := if tgsB p d ks zs (zs.length / 2) then (wrongN p d ks zs (zs.length / 2), true) else ([], false)
theorem tgs_small {p d : Int} {ks zs : List Int} {n : Nat} (h : tgsB p d ks zs n = true) : n ≤ 20 := (tgsB_iff.1 h).2.2.2.1
theorem wrongTags_len (p d : Int) (ks zs : List Int) : (wrongTags p d ks zs).1.length ≤ 20 := by
  unfold wrongTags
  split
  · rename_i h
    have h1 := tgs_small h
    have h2 := wrongN_len p d ks zs (zs.length / 2)
    show (wrongN p d ks zs (zs.length / 2)).length ≤ 20
    omega
  · simp
/-- Weighted sums. -/
def bsV (p : Int) (ws zs : List Int) (j : Nat) : Nat → Int
  | 0 => 0
  | k + 1 => (bsV p ws zs j k + nth ws k * fld 2 zs k j) % p
def bsK (p : Int) (ws ks : List Int) : Nat → Int
  | 0 => 0
  | k + 1 => (bsK p ws ks k + nth ws k * nth ks k) % p
theorem bsV_bd {p : Int} (hp : 1 ≤ p) (ws zs : List Int) (j : Nat) : ∀ k, 0 ≤ bsV p ws zs j k ∧ bsV p ws zs j k < p
  | 0 => by simp [bsV]; omega
  | k + 1 => emod_bd hp
theorem bsK_bd {p : Int} (hp : 1 ≤ p) (ws ks : List Int) : ∀ k, 0 ≤ bsK p ws ks k ∧ bsK p ws ks k < p
  | 0 => by simp [bsK]; omega
  | k + 1 => emod_bd hp
def batchHolds (p d : Int) (ks zs ws : List Int) : Bool × Bool :=
  if tgsB p d ks zs (zs.length / 2) && (allIn ws 0 (p - 1) && decide (ws.length = zs.length / 2)) then (tagOk p d (bsK p ws ks (zs.length / 2)) (bsV p ws zs 0 (zs.length / 2)) (bsV p ws zs 1 (zs.length / 2)), true) else (false, false)

set_option maxHeartbeats 2000000 in
theorem i_WrongTags (p d : Int) (a : Option Addr) (n cap : Nat) (ks : List Int) (b : Option Addr) (m cap' : Nat) (zs : List Int) (w : World) (fp : Fits p) (fd : Fits d) (h : Ints w a n cap ks) (h' : Recs 2 w b m cap' zs) :
    Calls Try.prog 42 #[.int .i64 p, .int .i64 d, .slice a n cap, .slice b m cap'] w fun e w' =>
      ∃ r c, e = .returned (.tuple #[.slice r (wrongTags p d ks zs).1.length c, .bool (wrongTags p d ks zs).2]) ∧ Mine w' w.heap.size r (wrongTags p d ks zs).1.length c (wrongTags p d ks zs).1 ∧ Below w.heap.size w w' := by
  have hm2 : zs.length / 2 = m := by have := h'.len; omega
  unfold wrongTags
  rw [hm2]
  cases h0 : tgsB p d ks zs m with
  | false =>
    go_enter Try.func42, Try.ntmps42
    go_wp2_with (go_at_call 66; refine (i_areTagged _ _ _ _ _ _ _ _ ks zs _ h h').mono ?_; rintro e w1 ⟨rfl, hb1⟩; rw [h0])
    go_ret2
    exact ⟨_, _, rfl, Mine.nil, by (repeat (first | exact Below.refl _ _ | assumption | refine bel_trans ?_ (bel_alloc _ _) | refine bel_set ?_ (by first | (dsimp only; omega) | (simp; omega) | simp) _ | refine bel_trans ?_ (bel_drewN _ _) | refine bel_trans ?_ (bel_drew _) | refine bel_trans ?_ (by assumption)))⟩
  | true =>
    obtain ⟨q1, q2, q3, q4, q5⟩ := tgsB_iff.1 h0
    obtain ⟨hp1, hp2⟩ := elB_p q1
    obtain ⟨hd1, hd2⟩ := (elB_iff.1 q1).2
    have hnm : n = m := by rw [← h.len.out]; exact q3
    subst hnm
    have Q2 := Lib.hid q2; have Q5 := Lib.hid q5; have hl := h.len
    clear q2 q3 q5 hm2
    go_enter Try.func42, Try.ntmps42
    go_wp2_with (go_at_call 66; refine (i_areTagged _ _ _ _ _ _ _ _ ks zs _ h h').mono ?_; rintro e w1 ⟨rfl, hb1⟩; rw [h0])
    go_loopw [10, 22] (fun r i W => ∃ k : Nat, k ≤ n ∧ i = .int .i64 k ∧ Hid (W.ownsRow w.heap.size 3 1 r (wrongN p d ks zs k).length (ivs (wrongN p d ks zs k))) ∧ Hid (Below w.heap.size w W)) (fun _ i _ => n - (intOf i).toNat)
    case atStart => exact ⟨0, by omega, rfl, (show Hid _ from World.ownsRow_lit w1 #[] 0 (by have := hb1.size; omega) (by decide) rfl), (show Hid _ from bel_trans hb1 (bel_alloc _ _))⟩
    case round =>
      clear hb1 h0 q1
      obtain ⟨k, hk, rfl, HO, HB⟩ := hrel
      by_cases hlt : k < n
      · obtain ⟨wo, rfl⟩ : ∃ wo : World, wo = wr := ⟨_, rfl⟩
        have hlti : (k : Int) < (n : Int) := by omega
        obtain ⟨kb, ko, rfl, kl, kc⟩ := (h.below HB.out).at (i := k) (by omega)
        obtain ⟨zb, zo, rfl, zl, zc0, zc1⟩ := (h'.below HB.out).at2 hlt
        obtain ⟨hk1, hk2⟩ := elsB_nth Q2.out (i := k) (by rw [hl.out]; omega)
        have ht := allTg_at Q5.out hlt
        unfold tgOkAt at ht
        obtain ⟨hv1, hv2⟩ := (elB_iff.1 (Bool.and_eq_true_iff.1 ht).1).2
        obtain ⟨ht1, ht2⟩ := (elB_iff.1 (Bool.and_eq_true_iff.1 ht).2).2
        clear ht
        have hsz := HB.out.size
        have hcl := wrongN_len p d ks zs k
        generalize hv : fld 2 zs k 0 = v at *
        generalize htt : fld 2 zs k 1 = t at *
        generalize hkk : nth ks k = kk at *
        have HH := Lib.hid h; have HH' := Lib.hid h'; clear h h'
        cases hok : tagOk p d kk v t with
        | true =>
          have HC : Hid (wrongN p d ks zs (k + 1) = wrongN p d ks zs k) := by show _ = _; rw [wrongN, hv, htt, hkk, hok]; simp
          go_wp2
          go_region_held3 (fun W => W.cell? ⟨kb, ko + k, none⟩ = some (.int .i64 kk) ∧ W.cell? ⟨wo.heap.size, 0, none⟩ = some (.int .i64 v) ∧ W.cell? ⟨wo.heap.size, 1, none⟩ = some (.int .i64 t)) (first | exact ⟨c0, c1, c2⟩ | go_keep) (first | (go_at_call 57; refine (i_holds _ _ _ _ _ _ ⟨hp1, hp2⟩ (by omega) (by omega) (by omega) (by omega)).mono ?_; rintro e w3 ⟨rfl, hb3⟩; rw [hok]; have B3 := bel_trans (bel_trans (bel_alloc _ _) (bel_drew _)) hb3; have c0 := cell_on kc B3; have kx := boxes1d hb3; have c1 := kx.1; have c2 := kx.2.1))
          go_wp2
          go_roundw
          case rel => exact ⟨k + 1, by omega, by go_num, by rw [HC.out]; exact (show Hid _ from ownsRow_below HO.out (by first | exact B3 | (repeat (first | exact Below.refl _ _ | assumption | refine bel_trans ?_ (bel_alloc _ _) | refine bel_set ?_ (by first | (dsimp only; omega) | (simp; omega) | simp) _ | refine bel_trans ?_ (bel_drewN _ _) | refine bel_trans ?_ (bel_drew _) | refine bel_trans ?_ (by assumption))))), (show Hid _ from bel_trans HB.out (by first | exact B3 | (repeat (first | exact Below.refl _ _ | assumption | refine bel_trans ?_ (bel_alloc _ _) | refine bel_set ?_ (by first | (dsimp only; omega) | (simp; omega) | simp) _ | refine bel_trans ?_ (bel_drewN _ _) | refine bel_trans ?_ (bel_drew _) | refine bel_trans ?_ (by assumption)))))⟩
          case measure => simp [intOf]; omega
        | false =>
          have HC : Hid (wrongN p d ks zs (k + 1) = wrongN p d ks zs k ++ [(k : Int)]) := by show _ = _; rw [wrongN, hv, htt, hkk, hok]; simp
          go_wp2
          go_region_held3 (fun W => W.cell? ⟨kb, ko + k, none⟩ = some (.int .i64 kk) ∧ W.cell? ⟨wo.heap.size, 0, none⟩ = some (.int .i64 v) ∧ W.cell? ⟨wo.heap.size, 1, none⟩ = some (.int .i64 t)) (first | exact ⟨c0, c1, c2⟩ | go_keep) (first | (go_at_call 57; refine (i_holds _ _ _ _ _ _ ⟨hp1, hp2⟩ (by omega) (by omega) (by omega) (by omega)).mono ?_; rintro e w3 ⟨rfl, hb3⟩; rw [hok]; have B3 := bel_trans (bel_trans (bel_alloc _ _) (bel_drew _)) hb3; have c0 := cell_on kc B3; have kx := boxes1d hb3; have c1 := kx.1; have c2 := kx.2.1))
          have HO3 := Lib.hid (ownsRow_below HO.out B3)
          have HB3 := Lib.hid (bel_trans HB.out B3)
          have hz3 := HB3.out.size
          go_wp2_with (at_builtin; refine wp_app w3 w.heap.size _ _ _ k _ _ rfl _ _ rfl rfl rfl (by first | rfl | simp) HO3.out (by omega) (by omega) ?_; intro v9 w9 hv9 hb9 hg9)
          clear hg9
          go_roundw
          case rel => exact ⟨k + 1, by omega, by go_num, (by rw [HC.out, List.length_append]; exact hv9), (show Hid _ from HB3.out.trans hb9)⟩
          case measure => simp [intOf]; omega
      · obtain rfl : k = n := by omega
        obtain ⟨a9, c9, rfl, hM⟩ := Mine.of HO.out (by have := wrongN_len p d ks zs k; omega) (wrongN_fit p d ks zs k (by omega))
        have HF := Lib.hid hM; clear hM HO
        go_wp2
        go_ret2
        exact ⟨_, _, rfl, HF.out, HB.out⟩

set_option maxHeartbeats 2000000 in
theorem s_WrongTags (p d : Int) (a : Option Addr) (n cap : Nat) (ks : List Int) (b : Option Addr) (m cap' : Nat) (zs : List Int) (w : World) (fp : Fits p) (fd : Fits d) (h : Ints w a n cap ks) (h' : Recs 2 w b m cap' zs) :
    Calls Try.prog 41 #[.int .i64 p, .int .i64 d, .slice a n cap, .slice b m cap'] w fun e w' =>
      ∃ r c, e = .returned (.tuple #[.slice r (wrongTags p d ks zs).1.length c, .bool (wrongTags p d ks zs).2]) ∧ Mine w' w.heap.size r (wrongTags p d ks zs).1.length c (wrongTags p d ks zs).1 ∧ Below w.heap.size w w' := by
  have hm2 : zs.length / 2 = m := by have := h'.len; omega
  unfold wrongTags
  rw [hm2]
  cases h0 : tgsB p d ks zs m with
  | false =>
    go_enter Try.func41, Try.ntmps41
    go_wp2_with (go_at_call 65; refine (s_tgLists _ _ _ _ _ _ _ _ ks zs _ fd h h').mono ?_; rintro e w1 ⟨rfl, hb1⟩; rw [h0])
    go_ret2
    exact ⟨_, _, rfl, Mine.nil, by (repeat (first | exact Below.refl _ _ | assumption | refine bel_trans ?_ (bel_alloc _ _) | refine bel_set ?_ (by first | (dsimp only; omega) | (simp; omega) | simp) _ | refine bel_trans ?_ (bel_drewN _ _) | refine bel_trans ?_ (bel_drew _) | refine bel_trans ?_ (by assumption)))⟩
  | true =>
    obtain ⟨q1, q2, q3, q4, q5⟩ := tgsB_iff.1 h0
    obtain ⟨hp1, hp2⟩ := elB_p q1
    obtain ⟨hd1, hd2⟩ := (elB_iff.1 q1).2
    have hnm : n = m := by rw [← h.len.out]; exact q3
    subst hnm
    have Q2 := Lib.hid q2; have Q5 := Lib.hid q5; have hl := h.len
    clear q2 q3 q5 hm2
    go_enter Try.func41, Try.ntmps41
    go_wp2_with (go_at_call 65; refine (s_tgLists _ _ _ _ _ _ _ _ ks zs _ fd h h').mono ?_; rintro e w1 ⟨rfl, hb1⟩; rw [h0])
    go_loopw [10, 21] (fun r i W => ∃ k : Nat, k ≤ n ∧ i = .int .i64 k ∧ Hid (W.ownsRow w.heap.size 3 1 r (wrongN p d ks zs k).length (ivs (wrongN p d ks zs k))) ∧ Hid (Below w.heap.size w W)) (fun _ i _ => n - (intOf i).toNat)
    case atStart => exact ⟨0, by omega, rfl, (show Hid _ from World.ownsRow_nil _ _ _ _), (show Hid _ from hb1)⟩
    case round =>
      clear hb1 h0 q1
      obtain ⟨k, hk, rfl, HO, HB⟩ := hrel
      by_cases hlt : k < n
      · obtain ⟨wo, rfl⟩ : ∃ wo : World, wo = wr := ⟨_, rfl⟩
        have hlti : (k : Int) < (n : Int) := by omega
        obtain ⟨kb, ko, rfl, kl, kc⟩ := (h.below HB.out).at (i := k) (by omega)
        obtain ⟨zb, zo, rfl, zl, zc0, zc1⟩ := (h'.below HB.out).at2 hlt
        obtain ⟨hk1, hk2⟩ := elsB_nth Q2.out (i := k) (by rw [hl.out]; omega)
        have ht := allTg_at Q5.out hlt
        unfold tgOkAt at ht
        obtain ⟨hv1, hv2⟩ := (elB_iff.1 (Bool.and_eq_true_iff.1 ht).1).2
        obtain ⟨ht1, ht2⟩ := (elB_iff.1 (Bool.and_eq_true_iff.1 ht).2).2
        clear ht
        have hsz := HB.out.size
        have hcl := wrongN_len p d ks zs k
        generalize hv : fld 2 zs k 0 = v at *
        generalize htt : fld 2 zs k 1 = t at *
        generalize hkk : nth ks k = kk at *
        have HH := Lib.hid h; have HH' := Lib.hid h'; clear h h'
        cases hok : tagOk p d kk v t with
        | true =>
          have HC : Hid (wrongN p d ks zs (k + 1) = wrongN p d ks zs k) := by show _ = _; rw [wrongN, hv, htt, hkk, hok]; simp
          go_wp2
          go_region_held3 (fun W => W.cell? ⟨kb, ko + k, none⟩ = some (.int .i64 kk) ∧ W.cell? ⟨wo.heap.size, 0, none⟩ = some (.int .i64 v) ∧ W.cell? ⟨wo.heap.size, 1, none⟩ = some (.int .i64 t)) (first | exact ⟨c0, c1, c2⟩ | go_keep) (first | (go_at_call 54; refine (s_tgHolds _ _ _ _ _ _ ⟨hp1, hp2⟩ (by omega) (by omega) (by omega) (by omega)).mono ?_; rintro e w3 ⟨rfl, hb3⟩; rw [hok]; have B3 := bel_trans (bel_trans (bel_alloc _ _) (bel_drew _)) hb3; have c0 := cell_on kc B3; have kx := boxes1d hb3; have c1 := kx.1; have c2 := kx.2.1))
          go_wp2
          go_roundw
          case rel => exact ⟨k + 1, by omega, by go_num, by rw [HC.out]; exact (show Hid _ from ownsRow_below HO.out (by first | exact B3 | (repeat (first | exact Below.refl _ _ | assumption | refine bel_trans ?_ (bel_alloc _ _) | refine bel_set ?_ (by first | (dsimp only; omega) | (simp; omega) | simp) _ | refine bel_trans ?_ (bel_drewN _ _) | refine bel_trans ?_ (bel_drew _) | refine bel_trans ?_ (by assumption))))), (show Hid _ from bel_trans HB.out (by first | exact B3 | (repeat (first | exact Below.refl _ _ | assumption | refine bel_trans ?_ (bel_alloc _ _) | refine bel_set ?_ (by first | (dsimp only; omega) | (simp; omega) | simp) _ | refine bel_trans ?_ (bel_drewN _ _) | refine bel_trans ?_ (bel_drew _) | refine bel_trans ?_ (by assumption)))))⟩
          case measure => simp [intOf]; omega
        | false =>
          have HC : Hid (wrongN p d ks zs (k + 1) = wrongN p d ks zs k ++ [(k : Int)]) := by show _ = _; rw [wrongN, hv, htt, hkk, hok]; simp
          go_wp2
          go_region_held3 (fun W => W.cell? ⟨kb, ko + k, none⟩ = some (.int .i64 kk) ∧ W.cell? ⟨wo.heap.size, 0, none⟩ = some (.int .i64 v) ∧ W.cell? ⟨wo.heap.size, 1, none⟩ = some (.int .i64 t)) (first | exact ⟨c0, c1, c2⟩ | go_keep) (first | (go_at_call 54; refine (s_tgHolds _ _ _ _ _ _ ⟨hp1, hp2⟩ (by omega) (by omega) (by omega) (by omega)).mono ?_; rintro e w3 ⟨rfl, hb3⟩; rw [hok]; have B3 := bel_trans (bel_trans (bel_alloc _ _) (bel_drew _)) hb3; have c0 := cell_on kc B3; have kx := boxes1d hb3; have c1 := kx.1; have c2 := kx.2.1))
          have HO3 := Lib.hid (ownsRow_below HO.out B3)
          have HB3 := Lib.hid (bel_trans HB.out B3)
          have hz3 := HB3.out.size
          go_wp2_with (at_builtin; refine wp_app w3 w.heap.size _ _ _ k _ _ rfl _ _ rfl rfl rfl (by first | rfl | simp) HO3.out (by omega) (by omega) ?_; intro v9 w9 hv9 hb9 hg9)
          clear hg9
          go_roundw
          case rel => exact ⟨k + 1, by omega, by go_num, (by rw [HC.out, List.length_append]; exact hv9), (show Hid _ from HB3.out.trans hb9)⟩
          case measure => simp [intOf]; omega
      · obtain rfl : k = n := by omega
        obtain ⟨a9, c9, rfl, hM⟩ := Mine.of HO.out (by have := wrongN_len p d ks zs k; omega) (wrongN_fit p d ks zs k (by omega))
        have HF := Lib.hid hM; clear hM HO
        go_wp2
        go_ret2
        exact ⟨_, _, rfl, HF.out, HB.out⟩

end Go.Proofs.Ytnamhfaacamihaa
