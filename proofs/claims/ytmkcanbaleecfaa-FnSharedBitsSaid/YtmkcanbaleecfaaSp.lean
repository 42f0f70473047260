/-
  The gates that a maker adds.
-/
import Derived.Test.YtmkcanbaleecfaaSn
namespace Go.Proofs.Ytmkcanbaleecfaa
open Go.RowKit
set_option linter.unusedVariables false
set_option linter.unusedSimpArgs false
set_option maxRecDepth 10000

set_option maxHeartbeats 1000000 in
theorem s_mk_one (g : Nat) (i0 i1 : Int) (v2 : Value) (n : Nat) (gs : List Int) (w : World) (h : MkG w g i0 i1 v2 n gs) (hn : n ≤ 299) (hgl : g + 1 ≤ w.heap.size) (h0 : 0 ≤ i0 ∧ i0 ≤ 20) (h1 : 0 ≤ i1 ∧ i1 ≤ 20) :
    Calls Try.prog 116 #[.pointer (some ⟨g, 0, none⟩)] w fun e w' => ∃ x v', e = .returned (.int .i64 x) ∧ MkG w' g i0 i1 v' (n + 1) (gs ++ [3, 0, 0]) ∧ Below g w w' := by
  go_enter Try.func116, Try.ntmps116
  go_wp2_with fail
  refine (s_gate g i0 i1 v2 n gs 3 0 0 w h hn hgl h0 h1).mono ?_; rintro e w1 ⟨x, v', rfl, hM, hb⟩
  go_wp2
  go_ret
  exact ⟨x, v', rfl, hM, hb⟩

set_option maxHeartbeats 1000000 in
theorem s_mk_not (g : Nat) (i0 i1 : Int) (v2 : Value) (n : Nat) (gs : List Int) (a : Int) (w : World) (h : MkG w g i0 i1 v2 n gs) (hn : n ≤ 299) (hgl : g + 1 ≤ w.heap.size) (h0 : 0 ≤ i0 ∧ i0 ≤ 20) (h1 : 0 ≤ i1 ∧ i1 ≤ 20) :
    Calls Try.prog 117 #[.pointer (some ⟨g, 0, none⟩), .int .i64 a] w fun e w' => ∃ x v', e = .returned (.int .i64 x) ∧ MkG w' g i0 i1 v' (n + 1) (gs ++ [2, a, 0]) ∧ Below g w w' := by
  go_enter Try.func117, Try.ntmps117
  go_wp2_with fail
  refine (s_gate g i0 i1 v2 n gs 2 a 0 w h hn hgl h0 h1).mono ?_; rintro e w1 ⟨x, v', rfl, hM, hb⟩
  go_wp2
  go_ret
  exact ⟨x, v', rfl, hM, hb⟩

set_option maxHeartbeats 1000000 in
theorem s_mk_xor (g : Nat) (i0 i1 : Int) (v2 : Value) (n : Nat) (gs : List Int) (a : Int) (b : Int) (w : World) (h : MkG w g i0 i1 v2 n gs) (hn : n ≤ 299) (hgl : g + 1 ≤ w.heap.size) (h0 : 0 ≤ i0 ∧ i0 ≤ 20) (h1 : 0 ≤ i1 ∧ i1 ≤ 20) :
    Calls Try.prog 118 #[.pointer (some ⟨g, 0, none⟩), .int .i64 a, .int .i64 b] w fun e w' => ∃ x v', e = .returned (.int .i64 x) ∧ MkG w' g i0 i1 v' (n + 1) (gs ++ [0, a, b]) ∧ Below g w w' := by
  go_enter Try.func118, Try.ntmps118
  go_wp2_with fail
  refine (s_gate g i0 i1 v2 n gs 0 a b w h hn hgl h0 h1).mono ?_; rintro e w1 ⟨x, v', rfl, hM, hb⟩
  go_wp2
  go_ret
  exact ⟨x, v', rfl, hM, hb⟩

set_option maxHeartbeats 1000000 in
theorem s_mk_and (g : Nat) (i0 i1 : Int) (v2 : Value) (n : Nat) (gs : List Int) (a : Int) (b : Int) (w : World) (h : MkG w g i0 i1 v2 n gs) (hn : n ≤ 299) (hgl : g + 1 ≤ w.heap.size) (h0 : 0 ≤ i0 ∧ i0 ≤ 20) (h1 : 0 ≤ i1 ∧ i1 ≤ 20) :
    Calls Try.prog 119 #[.pointer (some ⟨g, 0, none⟩), .int .i64 a, .int .i64 b] w fun e w' => ∃ x v', e = .returned (.int .i64 x) ∧ MkG w' g i0 i1 v' (n + 1) (gs ++ [1, a, b]) ∧ Below g w w' := by
  go_enter Try.func119, Try.ntmps119
  go_wp2_with fail
  refine (s_gate g i0 i1 v2 n gs 1 a b w h hn hgl h0 h1).mono ?_; rintro e w1 ⟨x, v', rfl, hM, hb⟩
  go_wp2
  go_ret
  exact ⟨x, v', rfl, hM, hb⟩

end Go.Proofs.Ytmkcanbaleecfaa
