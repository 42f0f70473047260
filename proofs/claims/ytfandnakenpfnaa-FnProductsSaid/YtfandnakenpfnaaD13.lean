/-
  Contracts: DotShared.
-/
import Derived.Test.YtfandnakenpfnaaD8
import Derived.Test.YtfandnakenpfnaaRF
namespace Go.Proofs.Ytfandnakenpfnaa
open Go.RowKit
set_option linter.unusedVariables false
set_option linter.unusedSimpArgs false

def prsB (p : Int) (l : List (List Int)) : Bool := l.all fun x => lnB p x 2
def addP (p : Int) (u v : List Int) : List Int := [(nth u 0 + nth v 0) % p, (nth u 1 + nth v 1) % p]
def dotN (p key : Int) (xs ys : List (List Int)) : Nat → List Int
  | 0 => [0, 0]
  | k + 1 => addP p (dotN p key xs ys k) (mulP p key k (rowN xs k) (rowN ys k))
theorem dotN_open (p key : Int) (xs ys : List (List Int)) (k : Nat) (hp : 2 ≤ p) : ∃ u0 u1, dotN p key xs ys k = [u0, u1] ∧ (0 ≤ u0 ∧ u0 ≤ p - 1) ∧ (0 ≤ u1 ∧ u1 ≤ p - 1) := by
  cases k with
  | zero => exact ⟨0, 0, rfl, by omega, by omega⟩
  | succ k =>
    refine ⟨_, _, rfl, ?_, ?_⟩
    · have := emod_bd (n := nth (dotN p key xs ys k) 0 + nth (mulP p key k (rowN xs k) (rowN ys k)) 0) (p := p) (by omega); omega
    · have := emod_bd (n := nth (dotN p key xs ys k) 1 + nth (mulP p key k (rowN xs k) (rowN ys k)) 1) (p := p) (by omega); omega
theorem mulP_open (p key i : Int) (x y : List Int) (hp : 2 ≤ p) : ∃ u0 u1, mulP p key i x y = [u0, u1] ∧ (0 ≤ u0 ∧ u0 ≤ p - 1) ∧ (0 ≤ u1 ∧ u1 ≤ p - 1) := by
  refine ⟨_, _, rfl, ?_, ?_⟩
  · have := emod_bd (n := prodSh 0 (tripA p key i) (mulD p x (tripA p key i) (tripB p key i) 0) (mulD p y (tripA p key i) (tripB p key i) 1)) (p := p) (by omega); omega
  · have := emod_bd (n := prodSh 1 (tripB p key i) (mulD p x (tripA p key i) (tripB p key i) 0) (mulD p y (tripA p key i) (tripB p key i) 1)) (p := p) (by omega); omega
def dotB (p key : Int) (xs ys : List (List Int)) : Bool := prB p && (keyB key && (prsB p xs && (prsB p ys && (decide (xs.length = ys.length) && decide (xs.length ≤ 20)))))
def dotShared (p key : Int) (xs ys : List (List Int)) : List Int × Bool := if dotB p key xs ys then (dotN p key xs ys xs.length, true) else ([], false)
theorem dotB_iff {p key : Int} {xs ys : List (List Int)} : dotB p key xs ys = true ↔ prB p = true ∧ keyB key = true ∧ prsB p xs = true ∧ prsB p ys = true ∧ xs.length = ys.length ∧ xs.length ≤ 20 := by
  unfold dotB; simp only [Bool.and_eq_true, decide_eq_true_iff]
theorem dot_t {p key : Int} {xs ys : List (List Int)} (h : dotB p key xs ys = true) : dotShared p key xs ys = (dotN p key xs ys xs.length, true) := by unfold dotShared; rw [if_pos h]
theorem dot_f {p key : Int} {xs ys : List (List Int)} (h : ¬ dotB p key xs ys = true) : dotShared p key xs ys = ([], false) := by unfold dotShared; rw [if_neg h]
theorem dotShared_len (p key : Int) (xs ys : List (List Int)) : (dotShared p key xs ys).1.length ≤ 2 := by
  by_cases h : dotB p key xs ys = true
  · rw [dot_t h]
    obtain ⟨u0, u1, e, _⟩ := dotN_open p key xs ys xs.length (prB_lo (dotB_iff.1 h).1).1
    show (dotN p key xs ys xs.length).length ≤ 2
    rw [e]; simp
  · rw [dot_f h]; simp
/-- What the functions hand back. -/
def DotRet (p key : Int) (xs ys : List (List Int)) (w : World) (e : Ending) (w' : World) : Prop :=
  ∃ r c, e = .returned (.tuple #[.slice r (dotShared p key xs ys).1.length c, .bool (dotShared p key xs ys).2]) ∧ Mine w' w.heap.size r (dotShared p key xs ys).1.length c (dotShared p key xs ys).1 ∧ Below w.heap.size w w'
theorem DotRet.no {p key : Int} {xs ys : List (List Int)} {w w' : World} (h : ¬ dotB p key xs ys = true) (hb : Below w.heap.size w w') : DotRet p key xs ys w (.returned (.tuple #[.slice none 0 0, .bool false])) w' := by
  unfold DotRet
  rw [dot_f h]
  exact ⟨none, 0, rfl, Mine.nil, hb⟩
theorem DotRet.yes {p key : Int} {xs ys : List (List Int)} {w w' : World} {r : Option Addr} {c : Nat} {u0 u1 : Int} (h : dotB p key xs ys = true) (e : dotN p key xs ys xs.length = [u0, u1]) (hm : Mine w' w.heap.size r 2 c [u0, u1]) (hb : Below w.heap.size w w') :
    DotRet p key xs ys w (.returned (.tuple #[.slice r 2 c, .bool true])) w' := by
  unfold DotRet
  rw [dot_t h, e]
  exact ⟨r, c, rfl, hm, hb⟩

set_option maxHeartbeats 1000000 in
theorem i_arePairs1 (p : Int) (r : Option Addr) (m c b : Nat) (x : List Int) (w : World) (hc : w.cell? ⟨b, 0, none⟩ = some (.int .i64 p)) (h : Ints w r m c x) :
    Calls Try.prog 88 #[.slice r m c, .pointer (some ⟨b, 0, none⟩)] w fun e w' => e = .returned (.bool (!lnB p x 2)) ∧ Below w.heap.size w w' := by
  go_enter Try.func88, Try.ntmps88
  go_wp2_with (go_at_call 68; refine (i_isPair _ _ _ _ _ _ h).mono ?_; rintro e w' ⟨rfl, hb⟩)
  go_ret
  exact ⟨rfl, hb⟩
set_option maxHeartbeats 1000000 in
theorem i_arePairs (p : Int) (a : Option Addr) (n cap : Nat) (xss : List (List Int)) (w : World) (h : Rws w a n cap xss) :
    Calls Try.prog 72 #[.int .i64 p, .slice a n cap] w fun e w' => e = .returned (.bool (prsB p xss)) ∧ Below w.heap.size w w' := by
  have eA : ∀ args w, (callFunc 88 args).run Try.prog w = .ok (.enter 88 args) w := enters_of Try.func88 (by kernel_rfl) rfl
  have hg := g_ContainsFuncR a n cap xss (fun x => !lnB p x 2) 88 #[.pointer (some ⟨w.heap.size, 0, none⟩)] eA (w.alloc (.cells #[.int .i64 p] 3)) (h.alloc _) (fun W r m c x hW hx => by
    have hc : W.cell? ⟨w.heap.size, 0, none⟩ = some (.int .i64 p) := by
      rw [hW.cell (p := ⟨w.heap.size, 0, none⟩) (by simp)]
      exact World.cell?_alloc_at _ _ _ _ rfl
    exact (i_arePairs1 p r m c w.heap.size x W hc hx).mono fun e w' ⟨he, hw⟩ => ⟨he, bel_trans hW hw⟩)
  have HG := Lib.hid hg; clear hg
  have hall : Hid ((!xss.any fun x => !lnB p x 2) = prsB p xss) := by show _ = _; unfold prsB; simp [List.all_eq_not_any_not]
  go_enter Try.func72, Try.ntmps72
  go_wp2_with (go_at_call 87; refine HG.out.mono ?_; rintro e w' ⟨rfl, hb'⟩)
  go_ret
  exact ⟨by first | exact ret_bool hall.out | (rw [← hall.out]; rfl), ((Below.refl _ _).alloc (Nat.le_refl _) _).trans (hb'.mono (by simp))⟩
end Go.Proofs.Ytfandnakenpfnaa
