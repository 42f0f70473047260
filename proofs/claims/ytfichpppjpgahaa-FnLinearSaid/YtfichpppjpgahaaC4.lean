/-
  Contracts: valid circuits, both sides.
-/
import Derived.Test.YtfichpppjpgahaaC3
namespace Go.Proofs.Ytfichpppjpgahaa
open Go.RowKit
set_option linter.unusedVariables false
set_option linter.unusedSimpArgs false

set_option maxHeartbeats 1000000 in
/-- areAll with a predicate that may make memory. -/
theorem i_areAllB (a : Option Addr) (n cap : Nat) (xs : List Int) (p : Int → Bool) (g : Nat) (lb : Array Value) (eg : ∀ args w, (callFunc g args).run Try.prog w = .ok (.enter g args) w) (w : World) (h : Ints w a n cap xs)
    (hp : Hid (∀ (W : World) (x : Int), Below w.heap.size w W → Fits x → Calls Try.prog g (#[.int .i64 x] ++ lb) W fun e w' => e = .returned (.bool (p x)) ∧ Below W.heap.size W w')) :
    Calls Try.prog 115 #[.slice a n cap, .func (.func g) #[] lb] w fun e w' => e = .returned (.bool (xs.all p)) ∧ Below w.heap.size w w' := by
  have eA : ∀ args w, (callFunc 139 args).run Try.prog w = .ok (.enter 139 args) w := enters_of Try.func139 (by kernel_rfl) rfl
  have hg := g_ContainsFunc a n cap xs (fun x => !p x) 139 #[.pointer (some ⟨w.heap.size, 0, none⟩)] eA (w.alloc (.cells #[.func (.func g) #[] lb] 75)) (h.alloc _) (fun W x hW hx => by
    have hc : W.cell? ⟨w.heap.size, 0, none⟩ = some (.func (.func g) #[] lb) := by
      rw [hW.cell (p := ⟨w.heap.size, 0, none⟩) (by simp)]
      exact World.cell?_alloc_at _ _ _ _ rfl
    refine (i_areAll1 x w.heap.size (p x) g lb eg W hc (fun w' => Below W.heap.size W w') (hp.out W x (((Below.refl _ _).alloc (Nat.le_refl _) _).trans (hW.mono (by simp))) hx)).mono fun e w' ⟨he, hw⟩ => ⟨he, bel_trans hW hw⟩)
  have HG := Lib.hid hg; clear hg
  have hall : (!xs.any fun x => !p x) = xs.all p := by simp [List.all_eq_not_any_not]
  clear hp eg
  go_enter Try.func115, Try.ntmps115
  go_wp2_with (go_at_call 138; refine HG.out.mono ?_; rintro e w' ⟨rfl, hb'⟩)
  go_ret
  exact ⟨by first | rfl | exact ret_bool hall, ((Below.refl _ _).alloc (Nat.le_refl _) _).trans (hb'.mono (by simp))⟩