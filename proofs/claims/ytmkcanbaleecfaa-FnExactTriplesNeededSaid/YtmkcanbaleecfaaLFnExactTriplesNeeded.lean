/-
  The law FnExactTriplesNeeded of the given program returns true for every input and leaves its arguments as they were; no condition is added.
-/
import Derived.Test.YtmkcanbaleecfaaMC1
import Derived.Test.YtmkcanbaleecfaaOp3
import Derived.ProofKit
import Derived.OpenShut
import Derived.ShutString
import Derived.ChangeOld
import Derived.Below
import Derived.Lib.SmallJoins
import Derived.Deep.SlicePairs
import Derived.Deep.Matrix
namespace Go.Proofs.Ytmkcanbaleecfaa.fnExactTriplesNeeded
open Go.ChangeShapes Go.WideShapes Go.ChangeAt Go.RowKit
set_option linter.unusedVariables false
set_option linter.unusedSimpArgs false

theorem own : ownKnob Try.prog.godebug = none := by kernel_rfl
theorem laidOut : laidOutB Try.prog = true := by kernel_rfl

set_option maxRecDepth 100000 in
theorem lifted (os : Os) (started : os.Started) (H : Type) (enc : TypeId × Value → H) :
    ReturnsInHanded {} Try.checked os 3 .any (Rows.fnExactTriplesNeededSpec.pre6 enc Try.prog Try.f3 Rows.fnExactTriplesNeededRow.domain false) (Rows.fnExactTriplesNeededSpec.post enc Try.prog Try.f3 false true false false) := by
  refine returnsInHanded_of_change (C := Try.checked) own started (by kernel_rfl) Try.func3
    (ChangeSpec.witness6 (enc := enc) (C := Try.checked) false ⟨#[], #[.agg #[.int .i64 0, .int .i64 0, .slice none 0 0, .slice none 0 0]], []⟩ 8 (by kernel_rfl) (by kernel_rfl) (by kernel_rfl) (by kernel_rfl)) ?_
  intro W base args ds gs before hval0 hW hcnd _
  have hval : ∀ (j : Nat) t v, Try.f3.params[j]? = some t → args[j]? = some v → Value.okWide Try.prog W .any base t v := hval0
  have hW' := hW
  obtain ⟨p, q, hA0, hV, rfl, hfz, hnd⟩ := hW
  have hA : DataW.TrodAll enc Try.prog W 0 (fun _ => true) true Try.f3.params.toList args.toList ds p := hA0
  rw [Try.params3] at hA hval
  obtain ⟨v0, vs0, d0, ds0, p0, q0, hargs, rfl, rfl, h0, r0⟩ := trodAll_cons hA
  obtain ⟨rfl, rfl, rfl⟩ := trodAll_nil r0
  obtain rfl : args = #[v0] := by cases args; simp_all
  obtain ⟨rfl, rfl⟩ := trodVars_none hV
  have k0 := h0
  have lt0 : ∀ x ∈ p0, x.block < W.heap.size := by obtain ⟨m, hm⟩ := k0; exact DataW.trod_lt m _ _ _ hm
  obtain ⟨c00, c01, c02, c03, y00, y01, y02, y03, m0, rfl, _, _, g00, g01, g02, g03⟩ := Go.Joins.open_agg4 Try.underlying25 (by kernel_rfl) (by kernel_rfl) (hval 0 25 v0 rfl rfl) h0
  obtain ⟨x0, e00, _, w00⟩ := DataW.trod_int Try.underlying3 g00
  obtain ⟨y0, e01, _, w01⟩ := DataW.trod_int Try.underlying3 g01
  simp at e00 e01
  subst e00 e01
  obtain ⟨a0, n0, q0, z0, rfl, w02⟩ : ∃ a n q zs, c02 = .slice a n q ∧ RecsIn 3 W a n q zs := by
    rcases open_int3 (I := 3) Try.underlying22 Try.underlying105 (by kernel_rfl) rfl rfl rfl rfl rfl rfl (by kernel_rfl) Try.underlying3 g02 with hcs | ⟨x, l, c, hcs, hl, hm, hx⟩
    · simp at hcs
      exact ⟨_, _, _, [], hcs, RecsIn.nil⟩
    · simp at hcs
      obtain ⟨zs, hz⟩ := RecsIn.of (K := 3) (by omega) (by omega) hl hm hx
      exact ⟨_, _, _, zs, hcs, hz⟩
  obtain ⟨b0, k0n, r0, u0, rfl, w03⟩ : ∃ a n q zs, c03 = .slice a n q ∧ IntsIn W a n q zs := by
    rcases open_ints Try.underlying23 Try.underlying3 (by kernel_rfl) g03 with ⟨hcs, _⟩ | ⟨x, l, c, zs, hcs, _, hl, hm, hz, _, hcell, hwz⟩
    · simp at hcs
      exact ⟨_, _, _, [], hcs, IntsIn.nil⟩
    · simp at hcs
      exact ⟨_, _, _, _, hcs, IntsIn.of hl hm (by simpa using hz) hcell hwz⟩
  clear hA0 hval0
  refine (law_FnExactTriplesNeeded x0 y0 a0 n0 q0 z0 b0 k0n r0 u0 W (fits_wf w00) (fits_wf w01) ⟨w02, w03⟩).mono fun e W' ⟨he, bel⟩ => ?_
  subst he
  exact ⟨_, rfl, _, _, _, [], _, [], hW', trodAll_mk1 (shut_bool Try.underlying4 _), (trodAll_cons_mk (Below.trod laidOut (by kernel_rfl) (of_decide_eq_true (by kernel_rfl)) k0 bel lt0) trodAll_mk0), rfl, bel.frame _, fun h => by cases h⟩

theorem over : Rows.fnExactTriplesNeededRow.holds Try.pinned (OpenSpec.ofChange Rows.fnExactTriplesNeededSpec) :=
  OpenClaim.holds_of_wide 3 Try.f3 rfl rfl rfl rfl rfl rfl rfl ⟨rfl, rfl, rfl, rfl, rfl⟩ rfl rfl rfl rfl rfl (by kernel_rfl) Try.func3 (by kernel_rfl)
    (of_decide_eq_true (by kernel_rfl)) (by unfold Func.isWrapper; first | (rw [if_pos (by decide +kernel)]; kernel_rfl) | (rw [if_neg (by decide +kernel)]; exact ⟨rfl, rfl⟩))
    (fun os started H enc _ => lifted os started H enc)

theorem proved : Rows.FnExactTriplesNeededSaid := over
#print axioms proved
end Go.Proofs.Ytmkcanbaleecfaa.fnExactTriplesNeeded
