/-
  Contracts of TransferViews, the program's and the reference's.
-/
import Derived.Test.YtklgneaamhjfpaaG7
import Derived.Test.YtklgneaamhjfpaaDu
namespace Go.Proofs.Ytklgneaamhjfpaa
open Go.RowKit
set_option linter.unusedVariables false
set_option linter.unusedSimpArgs false

def fsAt (P Q G key : Int) (k : Nat) : Int := gpw P Q G (secA Q key k)
def anAt (P Q G key : Int) (xs : List Int) (k : Nat) : Int := answ P Q G (fsAt P Q G key k) (secB2 Q key k) (nth xs k)
def fsN (P Q G key : Int) (n : Nat) : List Int := (List.range n).map (fsAt P Q G key)
def anN (P Q G key : Int) (xs : List Int) (n : Nat) : List Int := (List.range n).map (anAt P Q G key xs)
theorem fsN_len (P Q G key : Int) (n : Nat) : (fsN P Q G key n).length = n := by simp [fsN]
theorem anN_len (P Q G key : Int) (xs : List Int) (n : Nat) : (anN P Q G key xs n).length = n := by simp [anN]
theorem fsN_succ (P Q G key : Int) (n : Nat) : fsN P Q G key (n + 1) = fsN P Q G key n ++ [fsAt P Q G key n] := by simp [fsN, List.range_succ]
theorem anN_succ (P Q G key : Int) (xs : List Int) (n : Nat) : anN P Q G key xs (n + 1) = anN P Q G key xs n ++ [anAt P Q G key xs n] := by simp [anN, List.range_succ]
theorem answ_bd {P Q G f b c : Int} (hP : 1 ≤ P) : 0 ≤ answ P Q G f b c ∧ answ P Q G f b c ≤ P - 1 := by
  unfold answ
  split
  · have := emod_bd (n := gpw P Q G b * f) (p := P) hP; omega
  · exact gpw_bd P Q G b hP
theorem fsN_fit {P Q G key : Int} (hP : 1 ≤ P ∧ P ≤ 2003) (n : Nat) : ∀ x ∈ fsN P Q G key n, Fits x := by
  intro x hx
  simp only [fsN, List.mem_map] at hx
  obtain ⟨i, _, rfl⟩ := hx
  have := gpw_bd P Q G (secA Q key i) hP.1
  unfold fsAt Fits; omega
theorem anN_fit {P Q G key : Int} {xs : List Int} (hP : 1 ≤ P ∧ P ≤ 2003) (n : Nat) : ∀ x ∈ anN P Q G key xs n, Fits x := by
  intro x hx
  simp only [anN, List.mem_map] at hx
  obtain ⟨i, _, rfl⟩ := hx
  have := answ_bd (P := P) (Q := Q) (G := G) (f := fsAt P Q G key i) (b := secB2 Q key i) (c := nth xs i) hP.1
  unfold anAt Fits; omega
def transViews (P Q G key : Int) (xs : List Int) : List Int × List Int × Bool := if chsB P Q G key xs then (fsN P Q G key xs.length, anN P Q G key xs xs.length, true) else ([], [], false)
theorem transViews_len (P Q G key : Int) (xs : List Int) : (transViews P Q G key xs).1.length ≤ 40 ∧ (transViews P Q G key xs).2.1.length ≤ 40 := by
  unfold transViews
  split
  · rename_i h
    have := (chsB_iff.1 h).2.2.2
    simp [fsN_len, anN_len, this]
  · simp
theorem Gx.onB {w w' : World} {b B : Nat} {P Q G : Int} (h : Gx w b P Q G) (hb : Below B w w') (hB : b < B) : Gx w' b P Q G :=
  ⟨(hb.cell (p := ⟨b, 0, none⟩) hB).trans h.1, (hb.cell (p := ⟨b, 1, none⟩) hB).trans h.2.1, (hb.cell (p := ⟨b, 2, none⟩) hB).trans h.2.2⟩

set_option maxHeartbeats 4000000 in
theorem i_TransferViews (P Q G key : Int) (a : Option Addr) (n cap : Nat) (xs : List Int) (w : World) (fP : Fits P) (fQ : Fits Q) (fG : Fits G) (fk : Fits key) (h : Ints w a n cap xs) :
    Calls Try.prog 52 #[.agg #[.int .i64 P, .int .i64 Q, .int .i64 G], .int .i64 key, .slice a n cap] w fun e w' => TwoA (transViews P Q G key xs).1 (transViews P Q G key xs).2.1 (transViews P Q G key xs).2.2 w e w' := by
  have hl := h.len
  unfold transViews
  rw [hl.out]
  have A0 := bel_alloc w (.cells #[.int .i64 P, .int .i64 Q, .int .i64 G] 24)
  have g0 := Gx.new (w := w) (P := P) (Q := Q) (G := G) (t := 24)
  have h1 := h.below A0
  obtain ⟨k0, k1, k2⟩ := id g0
  cases hc : chsB P Q G key xs with
  | false =>
    go_enter Try.func52, Try.ntmps52
    go_wp2_with fail
    refine (i_areChoices _ _ _ _ _ _ _ xs _ h1).mono ?_; rintro e w1 ⟨rfl, hb1⟩; rw [hc]
    go_wp2
    exact bodyPost_ret (v := .tuple #[.slice none 0 0, .slice none 0 0, .bool false]) (by simp [results, Try.results52, go_sem]) rfl ⟨none, 0, none, 0, rfl, Mine.nil, Mine.nil, Apart.zero, by (repeat (first | exact Below.refl _ _ | assumption | refine bel_trans ?_ (bel_alloc _ _) | refine bel_set ?_ (by first | (dsimp only; omega) | (simp; omega) | simp) _ | refine bel_trans ?_ (bel_drewN _ _) | refine bel_trans ?_ (bel_drew _) | refine bel_trans ?_ (by assumption)))⟩
  | true =>
    obtain ⟨q1, q2, q3, q4⟩ := chsB_iff.1 hc
    obtain ⟨⟨hP1, hP2⟩, ⟨hQ1, hQ2⟩, ⟨hG1, hG2⟩⟩ := grB_lo q1
    obtain ⟨hk1, hk2⟩ := inB_iff.1 q2
    rw [hl.out] at q4
    have Q3 := Lib.hid q3; clear q3 q1 q2
    go_enter Try.func52, Try.ntmps52
    go_wp2_with fail
    refine (i_areChoices _ _ _ _ _ _ _ xs _ h1).mono ?_; rintro e w1 ⟨rfl, hb1⟩; rw [hc]
    have gg := g0.on hb1
    have bb := bel_trans A0 hb1
    have hz1 : w.heap.size < w1.heap.size := by have := hb1.size; simp at this; omega
    clear hb1 g0 k0 k1 k2 h1 hc A0
    go_wp2
    go_loopw [9, 10, 25] (fun r1 r2 i W => ∃ k : Nat, k ≤ n ∧ i = .int .i64 k ∧ Hid (Duo W w1.heap.size r1 k (fsN P Q G key k) r2 k (anN P Q G key xs k)) ∧ Hid (Gx W w.heap.size P Q G) ∧ Hid (Below w.heap.size w W)) (fun _ _ i _ => n - (intOf i).toNat)
    case atStart => exact ⟨0, by omega, rfl, (show Hid _ from Duo.lits (by omega)), (show Hid _ from (gg.on (bel_alloc _ _)).on (bel_alloc _ _)), (show Hid _ from bel_trans bb (by (repeat (first | exact Below.refl _ _ | assumption | refine bel_trans ?_ (bel_alloc _ _) | refine bel_set ?_ (by first | (dsimp only; omega) | (simp; omega) | simp) _ | refine bel_trans ?_ (bel_drewN _ _) | refine bel_trans ?_ (bel_drew _) | refine bel_trans ?_ (by assumption)))))⟩
    case round =>
      clear gg bb
      obtain ⟨k, hk, rfl, HD, HG, HB⟩ := hrel
      by_cases hlt : k < n
      · obtain ⟨b, off, rfl, hbl, hc⟩ := (h.below HB.out).at hlt
        have hci := inB_iff.1 (allIn_iff.1 Q3.out k (by rw [hl.out]; exact hlt))
        obtain ⟨kg0, kg1, kg2⟩ := id HG.out
        obtain ⟨sa1, sa2⟩ := secA_bd (Q := Q) (key := key) (i := k) hQ1
        obtain ⟨sb1, sb2⟩ := secB_bd (Q := Q) (key := key) (i := k) hQ1
        have HH := Lib.hid h; clear h
        go_wp2_with fail
        refine (i_secrets P Q G key k _ ⟨hQ1, hQ2⟩ ⟨hk1, hk2⟩ ⟨by omega, by omega⟩).mono ?_; rintro e w2 ⟨rfl, hb2⟩
        have HD2 := Lib.hid (HD.out.below hb2); have HG2 := HG.out.on hb2; have HB2 := bel_trans HB.out hb2
        clear hb2 hc kg0 kg1 kg2 HD HG HB
        obtain ⟨kg0, kg1, kg2⟩ := id HG2
        obtain ⟨f1, f2⟩ := gpw_bd P Q G (secA Q key k) (by omega)
        go_wp2_with fail
        refine (i_gpower P Q G G (secA Q key k) _ ⟨hP1, hP2⟩ ⟨hQ1, hQ2⟩ ⟨by omega, by omega⟩ ⟨by omega, by omega⟩).mono ?_; rintro e w3 ⟨rfl, hb3⟩
        have HD3 := Lib.hid (HD2.out.below hb3); have HG3 := HG2.on hb3; have HB3 := bel_trans HB2 hb3
        clear hb3 kg0 kg1 kg2 HD2 HG2 HB2
        obtain ⟨f, hf⟩ : ∃ f, f = gpw P Q G (secA Q key k) := ⟨_, rfl⟩
        have hfs : fsAt P Q G key k = f := hf.symm
        rw [← hf] at f1 f2 ⊢
        obtain ⟨A, hA⟩ : ∃ A, A = answ P Q G f (secB2 Q key k) (nth xs k) := ⟨_, rfl⟩
        have han : anAt P Q G key xs k = A := by unfold anAt; rw [hfs, hA]
        have HA := Lib.hid hA; clear hA hf
        have HC : Hid (fsN P Q G key (k + 1) = fsN P Q G key k ++ [f] ∧ anN P Q G key xs (k + 1) = anN P Q G key xs k ++ [A]) := ⟨by rw [fsN_succ, hfs], by rw [anN_succ, han]⟩
        clear hfs han
        obtain ⟨kg0, kg1, kg2⟩ := id HG3
        have hz3 := HB3.size
        have tokA : True := trivial
        go_wp2
        go_region_held3 (fun W => W.cell? ⟨w.heap.size, 0, none⟩ = some (.int .i64 P) ∧ W.cell? ⟨w.heap.size, 1, none⟩ = some (.int .i64 Q) ∧ W.cell? ⟨w.heap.size, 2, none⟩ = some (.int .i64 G)) (first | exact ⟨g8.1, g8.2.1, g8.2.2⟩ | exact ⟨(gc.on (bel_alloc _ _)).1, (gc.on (bel_alloc _ _)).2.1, (gc.on (bel_alloc _ _)).2.2⟩ | exact ⟨gc.1, gc.2.1, gc.2.2⟩ | exact ⟨g9.1, g9.2.1, g9.2.2⟩ | exact ⟨kg0, kg1, kg2⟩ | exact ⟨cell_on kg0 (by (repeat (first | exact Below.refl _ _ | assumption | refine bel_trans ?_ (bel_alloc _ _) | refine bel_set ?_ (by first | (dsimp only; omega) | (simp; omega) | simp) _ | refine bel_trans ?_ (bel_drewN _ _) | refine bel_trans ?_ (bel_drew _) | refine bel_trans ?_ (by assumption)))), cell_on kg1 (by (repeat (first | exact Below.refl _ _ | assumption | refine bel_trans ?_ (bel_alloc _ _) | refine bel_set ?_ (by first | (dsimp only; omega) | (simp; omega) | simp) _ | refine bel_trans ?_ (bel_drewN _ _) | refine bel_trans ?_ (bel_drew _) | refine bel_trans ?_ (by assumption)))), cell_on kg2 (by (repeat (first | exact Below.refl _ _ | assumption | refine bel_trans ?_ (bel_alloc _ _) | refine bel_set ?_ (by first | (dsimp only; omega) | (simp; omega) | simp) _ | refine bel_trans ?_ (bel_drewN _ _) | refine bel_trans ?_ (bel_drew _) | refine bel_trans ?_ (by assumption))))⟩)
          (first
            | (go_at_call 88; refine (i_answer P Q G f (secB2 Q key k) (nth xs k) _ ⟨hP1, hP2⟩ ⟨hQ1, hQ2⟩ ⟨by omega, by omega⟩ ⟨by omega, by omega⟩ ⟨by omega, by omega⟩).mono ?_; rintro e wc ⟨rfl, hbc⟩; rw [← HA.out]; have dc := d9.below hbc; have gc := g9.on hbc; have bc := bel_trans b9 hbc; clear hbc d9 g9 b9)
            | (have t0 := tokA; clear t0; refine step_duo _ w1.heap.size k (fsN P Q G key k) _ k (anN P Q G key xs k) f _ (by rfl) _ _ (by rfl) (by rfl) (by rfl) (HD3.out.below (by (repeat (first | exact Below.refl _ _ | assumption | refine bel_trans ?_ (bel_alloc _ _) | refine bel_set ?_ (by first | (dsimp only; omega) | (simp; omega) | simp) _ | refine bel_trans ?_ (bel_drewN _ _) | refine bel_trans ?_ (bel_drew _) | refine bel_trans ?_ (by assumption))))) (by first | exact World.cell?_alloc_at _ _ _ _ rfl | (simp [World.cell?_alloc_at]; done)) (by omega) ?_; intro v9 w9 d9 hb9; have g9 := Gx.onB (HG3.on (by (repeat (first | exact Below.refl _ _ | assumption | refine bel_trans ?_ (bel_alloc _ _) | refine bel_set ?_ (by first | (dsimp only; omega) | (simp; omega) | simp) _ | refine bel_trans ?_ (bel_drewN _ _) | refine bel_trans ?_ (bel_drew _) | refine bel_trans ?_ (by assumption))))) hb9 hz1; have b9 := (bel_trans HB3 (by (repeat (first | exact Below.refl _ _ | assumption | refine bel_trans ?_ (bel_alloc _ _) | refine bel_set ?_ (by first | (dsimp only; omega) | (simp; omega) | simp) _ | refine bel_trans ?_ (bel_drewN _ _) | refine bel_trans ?_ (bel_drew _) | refine bel_trans ?_ (by assumption))))).trans (hb9.mono (by omega)); clear hb9 tokA)
            | (have t0 := dc; clear t0; refine step_duo2 _ w1.heap.size (k + 1) (fsN P Q G key k ++ [f]) _ k (anN P Q G key xs k) A _ (by rfl) _ _ (by rfl) (by rfl) (by rfl) (dc.below (by (repeat (first | exact Below.refl _ _ | assumption | refine bel_trans ?_ (bel_alloc _ _) | refine bel_set ?_ (by first | (dsimp only; omega) | (simp; omega) | simp) _ | refine bel_trans ?_ (bel_drewN _ _) | refine bel_trans ?_ (bel_drew _) | refine bel_trans ?_ (by assumption))))) (by first | exact World.cell?_alloc_at _ _ _ _ rfl | (simp [World.cell?_alloc_at]; done)) (by omega) ?_; intro v8 w8 d8 hb8; have g8 := Gx.onB (gc.on (by (repeat (first | exact Below.refl _ _ | assumption | refine bel_trans ?_ (bel_alloc _ _) | refine bel_set ?_ (by first | (dsimp only; omega) | (simp; omega) | simp) _ | refine bel_trans ?_ (bel_drewN _ _) | refine bel_trans ?_ (bel_drew _) | refine bel_trans ?_ (by assumption))))) hb8 hz1; have b8 := (bel_trans bc (by (repeat (first | exact Below.refl _ _ | assumption | refine bel_trans ?_ (bel_alloc _ _) | refine bel_set ?_ (by first | (dsimp only; omega) | (simp; omega) | simp) _ | refine bel_trans ?_ (bel_drewN _ _) | refine bel_trans ?_ (bel_drew _) | refine bel_trans ?_ (by assumption))))).trans (hb8.mono (by omega)); clear hb8))
        go_wp2
        go_roundw
        case rel => exact ⟨k + 1, by omega, by go_num, (show Hid _ from by rw [HC.out.1, HC.out.2]; exact d8), (show Hid _ from g8), (show Hid _ from b8)⟩
        case measure => simp [intOf]; omega
      · obtain rfl : k = n := by omega
        obtain ⟨a1, c1, a2, c2, rfl, rfl, m1, m2, hap⟩ := HD.out.two (w0 := w) (by omega) (by omega) (fsN_fit ⟨by omega, hP2⟩ k) (anN_fit ⟨by omega, hP2⟩ k) (by omega)
        have M1 := Lib.hid m1; have M2 := Lib.hid m2; have HP := Lib.hid hap; clear m1 m2 hap HD
        go_wp2
        refine bodyPost_ret (v := .tuple #[.slice a1 k c1, .slice a2 k c2, .bool true]) (by simp [results, Try.results52, go_sem]) rfl ⟨a1, c1, a2, c2, ?_, ?_, ?_, ?_, HB.out⟩
        · simp [fsN_len, anN_len]
        · simpa [fsN_len] using M1.out
        · simpa [anN_len] using M2.out
        · simpa [fsN_len, anN_len] using HP.out
set_option maxHeartbeats 4000000 in
theorem s_TransferViews (P Q G key : Int) (a : Option Addr) (n cap : Nat) (xs : List Int) (w : World) (fP : Fits P) (fQ : Fits Q) (fG : Fits G) (fk : Fits key) (h : Ints w a n cap xs) :
    Calls Try.prog 53 #[.agg #[.int .i64 P, .int .i64 Q, .int .i64 G], .int .i64 key, .slice a n cap] w fun e w' => TwoA (transViews P Q G key xs).1 (transViews P Q G key xs).2.1 (transViews P Q G key xs).2.2 w e w' := by
  have hl := h.len
  unfold transViews
  rw [hl.out]
  have A0 := bel_alloc w (.cells #[.int .i64 P, .int .i64 Q, .int .i64 G] 24)
  have g0 := Gx.new (w := w) (P := P) (Q := Q) (G := G) (t := 24)
  have h1 := h.below A0
  obtain ⟨k0, k1, k2⟩ := id g0
  cases hc : chsB P Q G key xs with
  | false =>
    go_enter Try.func53, Try.ntmps53
    go_wp2_with fail
    refine (s_otChoices _ _ _ _ _ _ _ xs _ h1).mono ?_; rintro e w1 ⟨rfl, hb1⟩; rw [hc]
    go_wp2
    exact bodyPost_ret (v := .tuple #[.slice none 0 0, .slice none 0 0, .bool false]) (by simp [results, Try.results53, go_sem]) rfl ⟨none, 0, none, 0, rfl, Mine.nil, Mine.nil, Apart.zero, by (repeat (first | exact Below.refl _ _ | assumption | refine bel_trans ?_ (bel_alloc _ _) | refine bel_set ?_ (by first | (dsimp only; omega) | (simp; omega) | simp) _ | refine bel_trans ?_ (bel_drewN _ _) | refine bel_trans ?_ (bel_drew _) | refine bel_trans ?_ (by assumption)))⟩
  | true =>
    obtain ⟨q1, q2, q3, q4⟩ := chsB_iff.1 hc
    obtain ⟨⟨hP1, hP2⟩, ⟨hQ1, hQ2⟩, ⟨hG1, hG2⟩⟩ := grB_lo q1
    obtain ⟨hk1, hk2⟩ := inB_iff.1 q2
    rw [hl.out] at q4
    have Q3 := Lib.hid q3; clear q3 q1 q2
    go_enter Try.func53, Try.ntmps53
    go_wp2_with fail
    refine (s_otChoices _ _ _ _ _ _ _ xs _ h1).mono ?_; rintro e w1 ⟨rfl, hb1⟩; rw [hc]
    have gg := g0.on hb1
    have bb := bel_trans A0 hb1
    have hz1 : w.heap.size < w1.heap.size := by have := hb1.size; simp at this; omega
    clear hb1 g0 k0 k1 k2 h1 hc A0
    go_wp2
    go_loopw [9, 10, 23] (fun r1 r2 i W => ∃ k : Nat, k ≤ n ∧ i = .int .i64 k ∧ Hid (Duo W w1.heap.size r1 k (fsN P Q G key k) r2 k (anN P Q G key xs k)) ∧ Hid (Gx W w.heap.size P Q G) ∧ Hid (Below w.heap.size w W)) (fun _ _ i _ => n - (intOf i).toNat)
    case atStart => exact ⟨0, by omega, rfl, (show Hid _ from Duo.nil (by omega)), (show Hid _ from gg), (show Hid _ from bb)⟩
    case round =>
      clear gg bb
      obtain ⟨k, hk, rfl, HD, HG, HB⟩ := hrel
      by_cases hlt : k < n
      · obtain ⟨b, off, rfl, hbl, hc⟩ := (h.below HB.out).at hlt
        have hci := inB_iff.1 (allIn_iff.1 Q3.out k (by rw [hl.out]; exact hlt))
        obtain ⟨kg0, kg1, kg2⟩ := id HG.out
        obtain ⟨sa1, sa2⟩ := secA_bd (Q := Q) (key := key) (i := k) hQ1
        obtain ⟨sb1, sb2⟩ := secB_bd (Q := Q) (key := key) (i := k) hQ1
        have HH := Lib.hid h; clear h
        go_wp2_with fail
        refine (s_otPair P Q G key k _ ⟨hQ1, hQ2⟩ ⟨hk1, hk2⟩ ⟨by omega, by omega⟩).mono ?_; rintro e w2 ⟨rfl, hb2⟩
        have HD2 := Lib.hid (HD.out.below hb2); have HG2 := HG.out.on hb2; have HB2 := bel_trans HB.out hb2
        clear hb2 hc kg0 kg1 kg2 HD HG HB
        obtain ⟨kg0, kg1, kg2⟩ := id HG2
        obtain ⟨f1, f2⟩ := gpw_bd P Q G (secA Q key k) (by omega)
        go_wp2_with fail
        refine (s_grTo P Q G G (secA Q key k) _ ⟨hP1, hP2⟩ ⟨hQ1, hQ2⟩ ⟨by omega, by omega⟩ ⟨by omega, by omega⟩).mono ?_; rintro e w3 ⟨rfl, hb3⟩
        have HD3 := Lib.hid (HD2.out.below hb3); have HG3 := HG2.on hb3; have HB3 := bel_trans HB2 hb3
        clear hb3 kg0 kg1 kg2 HD2 HG2 HB2
        obtain ⟨f, hf⟩ : ∃ f, f = gpw P Q G (secA Q key k) := ⟨_, rfl⟩
        have hfs : fsAt P Q G key k = f := hf.symm
        rw [← hf] at f1 f2 ⊢
        obtain ⟨A, hA⟩ : ∃ A, A = answ P Q G f (secB2 Q key k) (nth xs k) := ⟨_, rfl⟩
        have han : anAt P Q G key xs k = A := by unfold anAt; rw [hfs, hA]
        have HA := Lib.hid hA; clear hA hf
        have HC : Hid (fsN P Q G key (k + 1) = fsN P Q G key k ++ [f] ∧ anN P Q G key xs (k + 1) = anN P Q G key xs k ++ [A]) := ⟨by rw [fsN_succ, hfs], by rw [anN_succ, han]⟩
        clear hfs han
        obtain ⟨kg0, kg1, kg2⟩ := id HG3
        have hz3 := HB3.size
        have tokA : True := trivial
        go_wp2_with (at_builtin; refine wp_duo w3 _ w1.heap.size k (fsN P Q G key k) _ k (anN P Q G key xs k) f _ _ rfl _ _ rfl rfl rfl (by first | rfl | simp) HD3.out (by omega) ?_; intro v9 w9 d9 hb9; have g9 := Gx.onB HG3 hb9 hz1; have b9 := HB3.trans (hb9.mono (by omega)); clear hb9 kg0 kg1 kg2; obtain ⟨kg0, kg1, kg2⟩ := id g9)
        refine (s_otAnswer P Q G f (secB2 Q key k) (nth xs k) _ ⟨hP1, hP2⟩ ⟨hQ1, hQ2⟩ ⟨by omega, by omega⟩ ⟨by omega, by omega⟩ ⟨by omega, by omega⟩).mono ?_; rintro e wc ⟨rfl, hbc⟩; rw [← HA.out]
        have dc := d9.below hbc; have gc := g9.on hbc; have bc := bel_trans b9 hbc
        clear hbc d9 g9 b9 kg0 kg1 kg2
        go_wp2_with (at_builtin; refine wp_duo2 wc _ w1.heap.size (k + 1) (fsN P Q G key k ++ [f]) _ k (anN P Q G key xs k) A _ _ rfl _ _ rfl rfl rfl (by first | rfl | simp) dc (by omega) ?_; intro v8 w8 d8 hb8)
        have g8 := Gx.onB gc hb8 hz1
        have b8 := bc.trans (hb8.mono (by omega))
        clear hb8
        go_roundw
        case rel => exact ⟨k + 1, by omega, by go_num, (show Hid _ from by rw [HC.out.1, HC.out.2]; exact d8), (show Hid _ from g8), (show Hid _ from b8)⟩
        case measure => simp [intOf]; omega
      · obtain rfl : k = n := by omega
        obtain ⟨a1, c1, a2, c2, rfl, rfl, m1, m2, hap⟩ := HD.out.two (w0 := w) (by omega) (by omega) (fsN_fit ⟨by omega, hP2⟩ k) (anN_fit ⟨by omega, hP2⟩ k) (by omega)
        have M1 := Lib.hid m1; have M2 := Lib.hid m2; have HP := Lib.hid hap; clear m1 m2 hap HD
        go_wp2
        refine bodyPost_ret (v := .tuple #[.slice a1 k c1, .slice a2 k c2, .bool true]) (by simp [results, Try.results53, go_sem]) rfl ⟨a1, c1, a2, c2, ?_, ?_, ?_, ?_, HB.out⟩
        · simp [fsN_len, anN_len]
        · simpa [fsN_len] using M1.out
        · simpa [anN_len] using M2.out
        · simpa [fsN_len, anN_len] using HP.out
end Go.Proofs.Ytklgneaamhjfpaa
