/-
  Contracts: ProductShare, MaskPair, CheckTriple, PassingChecks.
-/
import Derived.Test.YtklgneaamhjfpaaM2
namespace Go.Proofs.Ytklgneaamhjfpaa
open Go.RowKit
set_option linter.unusedVariables false
set_option linter.unusedSimpArgs false

/-- A party's share of a product, before it is reduced. -/
def prodSh (party : Int) (s : List Int) (d e : Int) : Int := nth s 2 + d * nth s 1 + e * nth s 0 + (if party == 0 then d * e else 0)
def productShare (p party : Int) (s : List Int) (d e : Int) : Int × Bool := if lnB p s 3 && (elB p d && (elB p e && inB party 0 1)) then (prodSh party s d e % p, true) else (0, false)
def maskPair (p : Int) (s : List Int) (x y : Int) : List Int × Bool := if lnB p s 3 && (elB p x && elB p y) then ([(x - nth s 0) % p, (y - nth s 1) % p], true) else ([], false)
theorem maskPair_len (p : Int) (s : List Int) (x y : Int) : (maskPair p s x y).1.length ≤ 2 := by unfold maskPair; split <;> simp
theorem inB01 {q : Int} : inB q 0 1 = (q == 0 || q == 1) := by unfold inB; rw [Bool.eq_iff_iff]; simp; omega
set_option maxHeartbeats 400000 in
theorem i_isBit (q : Int) (w : World) : Calls Try.prog 79 #[.int .i64 q] w fun e w' => e = .returned (.bool (inB q 0 1)) ∧ w = w' := by
  rw [inB01]
  cases h1 : (q == 0) with
  | true =>
    go_enter Try.func79, Try.ntmps79
    go_wp2
    go_ret
    exact ⟨rfl, rfl⟩
  | false =>
    go_enter Try.func79, Try.ntmps79
    go_wp2
    go_ret
    exact ⟨by first | rfl | simp, rfl⟩

theorem lit2_mine {w : World} {x y : Int} (t : TypeId) (hx : Fits x) (hy : Fits y) : Mine (w.alloc (.cells #[.int .i64 x, .int .i64 y] t)) w.heap.size (some ⟨w.heap.size, 0, none⟩) 2 2 [x, y] := by
  refine ⟨Ints.lit2 rfl hx hy, fun _ b off e => ?_, fun i hi b off e => ?_⟩
  · simp only [Option.some.injEq, Addr.mk.injEq] at e
    obtain ⟨rfl, _, _⟩ := e
    exact ⟨Nat.le_refl _, by simp⟩
  · simp only [Option.some.injEq, Addr.mk.injEq] at e
    obtain ⟨rfl, rfl, _⟩ := e
    exact World.frozen?_alloc_at _ _ _ _ rfl