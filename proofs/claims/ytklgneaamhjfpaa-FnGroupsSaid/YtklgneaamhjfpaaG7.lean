/-
  Many transfers: the secrets (both sides).
-/
import Derived.Test.YtklgneaamhjfpaaG6
namespace Go.Proofs.Ytklgneaamhjfpaa
open Go.RowKit
set_option linter.unusedVariables false
set_option linter.unusedSimpArgs false

theorem lit3_cells {W : World} {m : Nat} {a b c : Int} (h0 : W.cell? ⟨m, 0, none⟩ = some (.int .i64 a)) (h1 : W.cell? ⟨m, 1, none⟩ = some (.int .i64 b)) (h2 : W.cell? ⟨m, 2, none⟩ = some (.int .i64 c)) (ha : Fits a) (hb : Fits b) (hc : Fits c) :
    Ints W (some ⟨m, 0, none⟩) 3 3 [a, b, c] := by
  have hl := lt_of_cell h0
  refine ⟨rfl, Nat.le_refl _, by omega, by omega, fun i hi => ⟨m, 0, rfl, hl, ?_⟩, fun x hx => by simp at hx; rcases hx with rfl | rfl | rfl <;> assumption, fun e => by cases e⟩
  match i, hi with
  | 0, _ => simpa [nth] using h0
  | 1, _ => simpa [nth] using h1
  | 2, _ => simpa [nth] using h2
theorem secA_bd {Q key i : Int} (hQ : 2 ≤ Q) : 1 ≤ secA Q key i ∧ secA Q key i ≤ Q - 1 := by
  have := numFrom_bd [key, i, 4] (Q - 1) (by omega)
  unfold secA; omega
theorem secB_bd {Q key i : Int} (hQ : 2 ≤ Q) : 0 ≤ secB2 Q key i ∧ secB2 Q key i ≤ Q - 1 := by
  have := numFrom_bd [key, i, 5] Q (by omega)
  unfold secB2; omega

set_option maxHeartbeats 2000000 in
theorem i_secrets (P Q G key i : Int) (w : World) (hQ : 2 ≤ Q ∧ Q ≤ 2002) (hk : 0 ≤ key ∧ key ≤ 1000000000) (hi : 0 ≤ i ∧ i ≤ 1000) :
    Calls Try.prog 106 #[.agg #[.int .i64 P, .int .i64 Q, .int .i64 G], .int .i64 key, .int .i64 i] w fun e w' => e = .returned (.tuple #[.int .i64 (secA Q key i), .int .i64 (secB2 Q key i)]) ∧ Below w.heap.size w w' := by
  obtain ⟨hQ1, hQ2⟩ := hQ; obtain ⟨hk1, hk2⟩ := hk; obtain ⟨hi1, hi2⟩ := hi
  obtain ⟨q1, hq1⟩ : ∃ q1, q1 = Q - 1 := ⟨_, rfl⟩
  obtain ⟨n1, n2⟩ := numFrom_bd [key, i, 4] q1 (by omega)
  have e1 : IntKind.i64.wrap (Q - 1) = q1 := by rw [hq1]; exact IntWalk.i64_in _ (by omega)
  obtain ⟨z4, hz4⟩ : ∃ z, z = numFrom [key, i, 4] q1 := ⟨_, rfl⟩
  obtain ⟨z5, hz5⟩ : ∃ z, z = numFrom [key, i, 5] Q := ⟨_, rfl⟩
  have hA : secA Q key i = 1 + z4 := by unfold secA; rw [← hq1, hz4]
  have hB : secB2 Q key i = z5 := by unfold secB2; rw [hz5]
  rw [hA, hB]
  rw [← hz4] at n1 n2
  have e2 : IntKind.i64.wrap (1 + z4) = 1 + z4 := IntWalk.i64_in _ (by omega)
  have r1 : 1 ≤ q1 := by omega
  have r2 : q1 ≤ 1000000 := by omega
  clear hq1 hA hB
  have HZ4 := Lib.hid hz4; have HZ5 := Lib.hid hz5; clear hz4 hz5
  have HS4 := Lib.hid (small3k (k := 4) ⟨hk1, hk2⟩ ⟨hi1, by omega⟩ (by omega))
  have HS5 := Lib.hid (small3k (k := 5) ⟨hk1, hk2⟩ ⟨hi1, by omega⟩ (by omega))
  have hfk : Fits key := by unfold Fits; omega
  have hfi : Fits i := by unfold Fits; omega
  have hf4 : Fits 4 := by unfold Fits; omega
  have hf5 : Fits 5 := by unfold Fits; omega
  go_enter Try.func106, Try.ntmps106
  go_wp2
  go_region_held3 (fun W => W.cell? ⟨w.heap.size, 1, none⟩ = some (.int .i64 Q)) (first | exact s5 | exact s4 | exact cell_on s4 (bel_alloc _ _) | (simp [go_sem]; done)) (first | (go_at_call_of 124 q1; refine (i_numberFrom _ _ _ [key, i, 4] q1 _ (lit3_cells (by first | (simp [go_sem]; done)) (by first | (simp [go_sem]; done)) (by first | (simp [go_sem]; done)) hfk hfi hf4) (by decide) HS4.out r1 r2).mono ?_; rintro e w4 ⟨rfl, hb4⟩; rw [← HZ4.out]; have B4 := bel_trans (a := w) (by (repeat (first | exact Below.refl _ _ | assumption | refine bel_trans ?_ (bel_alloc _ _) | refine bel_set ?_ (by first | (dsimp only; omega) | (simp; omega) | simp) _ | refine bel_trans ?_ (bel_drewN _ _) | refine bel_trans ?_ (bel_drew _) | refine bel_trans ?_ (by assumption)))) hb4; have c4 := fun b o v h => cell_on (b := b) (o := o) (x := v) h hb4; clear hb4; have s4 := c4 w.heap.size 1 (.int .i64 Q) (by simp [go_sem])) | (go_at_call 124; refine (i_numberFrom _ _ _ [key, i, 5] Q _ (lit3_cells (by first | (simp [go_sem]; done) | exact c4 _ _ _ (by simp [go_sem])) (by first | (simp [go_sem]; done) | exact c4 _ _ _ (by simp [go_sem])) (by first | (simp [go_sem]; done) | exact c4 _ _ _ (by simp [go_sem])) hfk hfi hf5) (by decide) HS5.out (by omega) (by omega)).mono ?_; rintro e w5 ⟨rfl, hb5⟩; rw [← HZ5.out]; have B5 := bel_trans (a := w) (by (repeat (first | exact Below.refl _ _ | assumption | refine bel_trans ?_ (bel_alloc _ _) | refine bel_set ?_ (by first | (dsimp only; omega) | (simp; omega) | simp) _ | refine bel_trans ?_ (bel_drewN _ _) | refine bel_trans ?_ (bel_drew _) | refine bel_trans ?_ (by assumption)))) hb5; have s5 := cell_on (b := w.heap.size) (o := 1) (x := .int .i64 Q) (by first | exact s4 | exact cell_on s4 (bel_alloc _ _)) hb5; clear hb5))
  all_goals
    go_wp2
    go_ret2
    exact ⟨rfl, by first | exact B5 | (repeat (first | exact Below.refl _ _ | assumption | refine bel_trans ?_ (bel_alloc _ _) | refine bel_set ?_ (by first | (dsimp only; omega) | (simp; omega) | simp) _ | refine bel_trans ?_ (bel_drewN _ _) | refine bel_trans ?_ (bel_drew _) | refine bel_trans ?_ (by assumption)))⟩
set_option maxHeartbeats 2000000 in
theorem s_otPair (P Q G key i : Int) (w : World) (hQ : 2 ≤ Q ∧ Q ≤ 2002) (hk : 0 ≤ key ∧ key ≤ 1000000000) (hi : 0 ≤ i ∧ i ≤ 1000) :
    Calls Try.prog 109 #[.agg #[.int .i64 P, .int .i64 Q, .int .i64 G], .int .i64 key, .int .i64 i] w fun e w' => e = .returned (.tuple #[.int .i64 (secA Q key i), .int .i64 (secB2 Q key i)]) ∧ Below w.heap.size w w' := by
  obtain ⟨hQ1, hQ2⟩ := hQ; obtain ⟨hk1, hk2⟩ := hk; obtain ⟨hi1, hi2⟩ := hi
  obtain ⟨q1, hq1⟩ : ∃ q1, q1 = Q - 1 := ⟨_, rfl⟩
  obtain ⟨n1, n2⟩ := numFrom_bd [key, i, 4] q1 (by omega)
  have e1 : IntKind.i64.wrap (Q - 1) = q1 := by rw [hq1]; exact IntWalk.i64_in _ (by omega)
  obtain ⟨z4, hz4⟩ : ∃ z, z = numFrom [key, i, 4] q1 := ⟨_, rfl⟩
  obtain ⟨z5, hz5⟩ : ∃ z, z = numFrom [key, i, 5] Q := ⟨_, rfl⟩
  have hA : secA Q key i = 1 + z4 := by unfold secA; rw [← hq1, hz4]
  have hB : secB2 Q key i = z5 := by unfold secB2; rw [hz5]
  rw [hA, hB]
  rw [← hz4] at n1 n2
  have e2 : IntKind.i64.wrap (1 + z4) = 1 + z4 := IntWalk.i64_in _ (by omega)
  have r1 : 1 ≤ q1 := by omega
  have r2 : q1 ≤ 1000000 := by omega
  clear hq1 hA hB
  have HZ4 := Lib.hid hz4; have HZ5 := Lib.hid hz5; clear hz4 hz5
  have HS4 := Lib.hid (small3k (k := 4) ⟨hk1, hk2⟩ ⟨hi1, by omega⟩ (by omega))
  have HS5 := Lib.hid (small3k (k := 5) ⟨hk1, hk2⟩ ⟨hi1, by omega⟩ (by omega))
  have hfk : Fits key := by unfold Fits; omega
  have hfi : Fits i := by unfold Fits; omega
  have hf4 : Fits 4 := by unfold Fits; omega
  have hf5 : Fits 5 := by unfold Fits; omega
  go_enter Try.func109, Try.ntmps109
  go_wp2
  go_region_held3 (fun W => W.cell? ⟨w.heap.size, 1, none⟩ = some (.int .i64 Q)) (first | exact s5 | exact s4 | exact cell_on s4 (bel_alloc _ _) | (simp [go_sem]; done)) (first | (go_at_call_of 126 q1; refine (s_dgBelow _ _ _ [key, i, 4] q1 _ (lit3_cells (by first | (simp [go_sem]; done)) (by first | (simp [go_sem]; done)) (by first | (simp [go_sem]; done)) hfk hfi hf4) (by decide) HS4.out r1 r2).mono ?_; rintro e w4 ⟨rfl, hb4⟩; rw [← HZ4.out]; have B4 := bel_trans (a := w) (by (repeat (first | exact Below.refl _ _ | assumption | refine bel_trans ?_ (bel_alloc _ _) | refine bel_set ?_ (by first | (dsimp only; omega) | (simp; omega) | simp) _ | refine bel_trans ?_ (bel_drewN _ _) | refine bel_trans ?_ (bel_drew _) | refine bel_trans ?_ (by assumption)))) hb4; have c4 := fun b o v h => cell_on (b := b) (o := o) (x := v) h hb4; clear hb4; have s4 := c4 w.heap.size 1 (.int .i64 Q) (by simp [go_sem])) | (go_at_call 126; refine (s_dgBelow _ _ _ [key, i, 5] Q _ (lit3_cells (by first | (simp [go_sem]; done) | exact c4 _ _ _ (by simp [go_sem])) (by first | (simp [go_sem]; done) | exact c4 _ _ _ (by simp [go_sem])) (by first | (simp [go_sem]; done) | exact c4 _ _ _ (by simp [go_sem])) hfk hfi hf5) (by decide) HS5.out (by omega) (by omega)).mono ?_; rintro e w5 ⟨rfl, hb5⟩; rw [← HZ5.out]; have B5 := bel_trans (a := w) (by (repeat (first | exact Below.refl _ _ | assumption | refine bel_trans ?_ (bel_alloc _ _) | refine bel_set ?_ (by first | (dsimp only; omega) | (simp; omega) | simp) _ | refine bel_trans ?_ (bel_drewN _ _) | refine bel_trans ?_ (bel_drew _) | refine bel_trans ?_ (by assumption)))) hb5; have s5 := cell_on (b := w.heap.size) (o := 1) (x := .int .i64 Q) (by first | exact s4 | exact cell_on s4 (bel_alloc _ _)) hb5; clear hb5))
  all_goals
    go_wp2
    go_ret2
    exact ⟨rfl, by first | exact B5 | (repeat (first | exact Below.refl _ _ | assumption | refine bel_trans ?_ (bel_alloc _ _) | refine bel_set ?_ (by first | (dsimp only; omega) | (simp; omega) | simp) _ | refine bel_trans ?_ (bel_drewN _ _) | refine bel_trans ?_ (bel_drew _) | refine bel_trans ?_ (by assumption)))⟩
end Go.Proofs.Ytklgneaamhjfpaa
