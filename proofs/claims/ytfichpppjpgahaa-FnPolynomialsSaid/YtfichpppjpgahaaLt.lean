/-
  SolveLinear: which systems the program takes.
-/
import Derived.Test.YtfichpppjpgahaaLs
namespace Go.Proofs.Ytfichpppjpgahaa
open Go.RowKit
set_option linter.unusedVariables false
set_option linter.unusedSimpArgs false
set_option maxRecDepth 20000

set_option maxHeartbeats 4000000 in
theorem i_SolveLinear (p : Int) (a : Option Addr) (n cap : Nat) (xss : List (List Int)) (a' : Option Addr) (n' cap' : Nat) (ys : List Int) (w : World) (h : Rws w a n cap xss) (h' : Ints w a' n' cap' ys) (hn0 : n ≤ 1000000) :
    Calls Try.prog 16 #[.int .i64 p, .slice a n cap, .slice a' n' cap'] w (SliceOk (solveLinear p xss ys).1 (solveLinear p xss ys).2 w) := by
  have hlx := h.len.out; have HLY := Lib.hid h'.len.out
  have hs' := h'.small
  unfold solveLinear
  rw [hlx]
  have A1 := bel_alloc w (.cells #[.int .i64 p] 3)
  have A2 := bel_trans A1 (bel_alloc (w.alloc (.cells #[.int .i64 p] 3)) (.cells #[.int .i64 n] 3))
  have HX := Lib.hid (h.below A2); have HY := Lib.hid (h'.below A2)
  have cp : ((w.alloc (.cells #[.int .i64 p] 3)).alloc (.cells #[.int .i64 n] 3)).cell? ⟨w.heap.size, 0, none⟩ = some (.int .i64 p) := cell_on (World.cell?_alloc_at _ _ _ _ rfl) (bel_alloc _ _)
  have cn : ((w.alloc (.cells #[.int .i64 p] 3)).alloc (.cells #[.int .i64 n] 3)).cell? ⟨w.heap.size + 1, 0, none⟩ = some (.int .i64 n) := World.cell?_alloc_at _ _ _ _ (by simp)
  clear h h'
  by_cases hn : 1 ≤ n ∧ n ≤ 6
  · obtain ⟨hn1, hn6⟩ := hn
    have hI : Hid (inB n 1 6 = true) := inB_iff.2 ⟨by omega, by omega⟩
    by_cases hyn : n' = n
    · obtain rfl : n = n' := hyn.symm
      have hnI : ((n : Int) == (n : Int)) = true := by rw [beq_iff_eq]
      have hnI2 : ((n : Int) != (n : Int)) = false := by rw [bne, hnI]; rfl
      cases hE : elsB p ys with
      | false =>
        have HS : Hid (sysB p xss ys n = false) := by show _ = _; unfold sysB; rw [hE]; cases decide (1 ≤ n ∧ n ≤ 6) <;> cases decide (ys.length = n) <;> rfl
        rw [HS.out]
        go_enter Try.func16, Try.ntmps16
        go_wp2_with (first | (go_at_call 64; refine (i_within _ _ _ _).mono ?_; rintro e w' ⟨rfl, rfl⟩; rw [hI.out]) | (go_at_call 54; refine (i_areElements _ _ _ _ _ _ HY.out).mono ?_; rintro e w1 ⟨rfl, hb1⟩; rw [hE]))
        go_ret2
        exact ⟨_, _, rfl, Mine.nil, bel_trans A2 hb1⟩
      | true =>
        have eA : ∀ args w, (callFunc 66 args).run Try.prog w = .ok (.enter 66 args) w := enters_of Try.func66 (by kernel_rfl) rfl
        have HG : Hid (∀ W1, Below ((w.alloc (.cells #[.int .i64 p] 3)).alloc (.cells #[.int .i64 n] 3)).heap.size ((w.alloc (.cells #[.int .i64 p] 3)).alloc (.cells #[.int .i64 n] 3)) W1 → Calls Try.prog 65 #[.slice a n cap, .func (.func 66) #[] #[.pointer (some ⟨w.heap.size + 1, 0, none⟩), .pointer (some ⟨w.heap.size, 0, none⟩)]] W1 fun e w' => e = .returned (.bool (xss.any (badRow p n))) ∧ Below W1.heap.size W1 w') := fun W1 hW1 =>
          g_ContainsFuncR a n cap xss (badRow p n) 66 #[.pointer (some ⟨w.heap.size + 1, 0, none⟩), .pointer (some ⟨w.heap.size, 0, none⟩)] eA W1 (HX.out.below hW1) (fun W r m c x hW hx =>
            (i_SolveLinear1 p n r m c x (w.heap.size + 1) w.heap.size W hx (cell_on (cell_on cn hW1) hW) (cell_on (cell_on cp hW1) hW) hn0).mono fun e w' ⟨he, hw⟩ => ⟨he, bel_trans hW hw⟩)
        cases hB : xss.any (badRow p n) with
        | true =>
          rw [hB] at HG
          have HS : Hid (sysB p xss ys n = false) := by show _ = _; unfold sysB; rw [hB]; cases decide (1 ≤ n ∧ n ≤ 6) <;> cases decide (ys.length = n) <;> cases elsB p ys <;> rfl
          rw [HS.out]
          go_enter Try.func16, Try.ntmps16
          go_wp2_with (first | (go_at_call 64; refine (i_within _ _ _ _).mono ?_; rintro e w' ⟨rfl, rfl⟩; rw [hI.out]) | (go_at_call 54; refine (i_areElements _ _ _ _ _ _ HY.out).mono ?_; rintro e w1 ⟨rfl, hb1⟩; rw [hE]; have cp1 := cell_on cp hb1; have cn1 := cell_on cn hb1) | (go_at_call 65; refine (HG.out _ hb1).mono ?_; rintro e w2 ⟨rfl, hb2⟩))
          go_ret2
          exact ⟨_, _, rfl, Mine.nil, bel_trans (bel_trans A2 hb1) hb2⟩
        | false =>
          rw [hB] at HG
          have hS : sysB p xss ys n = true := by unfold sysB; rw [hB, hE, decide_eq_true HLY.out, decide_eq_true ⟨hn1, hn6⟩]; rfl
          rw [hS, if_pos rfl]
          obtain ⟨_, hyl, hpr, hyy, hxl, hxx⟩ := sysB_iff.1 hS
          have hl : Hid (∀ i, i < n → (rowN xss i).length = n) := fun i hi => hxl i (by omega)
          have hx : Hid (∀ i, i < n → ∀ j, j < n → 0 ≤ nth (rowN xss i) j ∧ nth (rowN xss i) j ≤ p - 1) := fun i hi j hj => hxx i (by omega) j hj
          have hy : Hid (∀ i, i < n → 0 ≤ nth ys i ∧ nth ys i ≤ p - 1) := fun i hi => hyy i (by omega)
          clear hyl hyy hxl hxx hS
          go_enter Try.func16, Try.ntmps16
          go_wp2_with (first | (go_at_call 64; refine (i_within _ _ _ _).mono ?_; rintro e w' ⟨rfl, rfl⟩; rw [hI.out]) | (go_at_call 54; refine (i_areElements _ _ _ _ _ _ HY.out).mono ?_; rintro e w1 ⟨rfl, hb1⟩; rw [hE]; have cp1 := cell_on cp hb1; have cn1 := cell_on cn hb1) | (go_at_call 65; refine (HG.out _ hb1).mono ?_; rintro e w2 ⟨rfl, hb2⟩; have cp2 := cell_on cp1 hb2) | (go_at_call 67; refine (i_solveSquare p a n cap xss a' cap' ys _ ((HX.out.below hb1).below hb2) ((HY.out.below hb1).below hb2) hpr hl hx hy hn1 hn6).mono ?_; rintro e w3 ⟨r, c, rfl, hm3, hb3⟩))
          have hB2 := bel_trans (bel_trans A2 hb1) hb2
          have hz2 := hB2.size
          go_ret2
          exact ⟨_, _, rfl, hm3.base hz2, bel_trans hB2 hb3⟩
    · have HS : Hid (sysB p xss ys n = false) := by show _ = _; unfold sysB; rw [HLY.out, decide_eq_false hyn]; cases decide (1 ≤ n ∧ n ≤ 6) <;> rfl
      have hnI : ((n' : Int) == (n : Int)) = false := by rw [beq_eq_false_iff_ne]; omega
      have hnI2 : ((n' : Int) != (n : Int)) = true := by rw [bne, hnI]; rfl
      rw [HS.out]
      go_enter Try.func16, Try.ntmps16
      go_wp2_with (first | (go_at_call 64; refine (i_within _ _ _ _).mono ?_; rintro e w' ⟨rfl, rfl⟩; rw [hI.out]))
      go_ret2
      exact ⟨_, _, rfl, Mine.nil, A2⟩
  · have HS : Hid (sysB p xss ys n = false) := by show _ = _; unfold sysB; rw [decide_eq_false hn]; rfl
    have hI : Hid (inB n 1 6 = false) := inB_no.2 (fun q => hn ⟨by omega, by omega⟩)
    rw [HS.out]
    go_enter Try.func16, Try.ntmps16
    go_wp2_with (first | (go_at_call 64; refine (i_within _ _ _ _).mono ?_; rintro e w' ⟨rfl, rfl⟩; rw [hI.out]))
    go_ret2
    exact ⟨_, _, rfl, Mine.nil, A2⟩
end Go.Proofs.Ytfichpppjpgahaa
