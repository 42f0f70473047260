/-
  The draws of groups that may be spoilt, of elements, of secrets.
-/
import Derived.Test.YtklgneaamhjfpaaGu
import Derived.Test.YtklgneaamhjfpaaCt
import Derived.BigQuiet
namespace Go.Proofs.Ytklgneaamhjfpaa
open Go.RowKit
set_option linter.unusedVariables false
set_option linter.unusedSimpArgs false

/-- A group that was drawn: small numbers. -/
structure Gd (P Q G : Int) : Prop where
  p1 : -10000 ≤ P
  p2 : P ≤ 10000
  q1 : -10000 ≤ Q
  q2 : Q ≤ 10000
  g1 : -10000 ≤ G
  g2 : G ≤ 10000
theorem Gd.fP {P Q G : Int} (h : Gd P Q G) : Fits P := by have := h.p1; have := h.p2; unfold Fits; omega
theorem Gd.fQ {P Q G : Int} (h : Gd P Q G) : Fits Q := by have := h.q1; have := h.q2; unfold Fits; omega
theorem Gd.fG {P Q G : Int} (h : Gd P Q G) : Fits G := by have := h.g1; have := h.g2; unfold Fits; omega
theorem IsGF.gd {p Q G : Int} (h : IsGF p Q G) (hm : modB p = true) : Gd p Q G := by
  obtain ⟨a, b⟩ := modB_lo hm
  obtain ⟨c, d⟩ := h.ql
  obtain ⟨e, f⟩ := h.gl
  exact ⟨by omega, by omega, by omega, by omega, by omega, by omega⟩
theorem Bex.below {b B : Nat} {w w' w0 : World} (k : Bex b w w') (h : Below w0.heap.size w0 w) (hb : w0.heap.size ≤ b) : Below w0.heap.size w0 w' := Below.bex h k hb h.size

def groupL : List Int := [3, 5, 7, 11, 23, 23, 47, 47, 59, 101, 227, 1019, 2003]
theorem groupL_mod : ∀ x ∈ groupL, modB x = true := by decide
set_option maxHeartbeats 2000000 in
theorem s_group (b B K : Nat) (w : World) (h : Cur w b B K) (hK : K ≤ 100000000000) :
    Calls Try.prog 112 #[.pointer (some ⟨b, 0, none⟩)] w fun e w' => ∃ P Q G : Int, e = .returned (.agg #[.int .i64 P, .int .i64 Q, .int .i64 G]) ∧ Gd P Q G ∧ modB P = true ∧ Cur w' b B (K + 2) ∧ Bex b w w' := by
  have A0 := bel_alloc w (.cells #[.int .i64 0, .int .i64 0, .int .i64 0] 24)
  have r0 := Gw.new (w := w) (P := 0) (Q := 0) (G := 0) (t := 24)
  have hlt := h.lt
  have h1 := h.below A0
  have X0 := Bex.of (b := b) A0
  obtain ⟨W1, hW1⟩ : ∃ X, X = w.alloc (.cells #[.int .i64 0, .int .i64 0, .int .i64 0] 24) := ⟨_, rfl⟩
  have s1 : W1.heap.size = w.heap.size + 1 := by rw [hW1]; simp
  rw [← hW1] at A0 r0 h1 X0
  have hW1' := hW1.symm; clear hW1
  obtain ⟨hC, hI, hO, hX⟩ := among_lit (w := W1) (t := 3) groupL h1 rfl rfl (by decide) (by unfold Fits; decide)
  rw [s1] at hI hO
  have r1 := r0.on (bel_alloc W1 (.cells (groupL.map (Value.int .i64)).toArray 3))
  go_enter Try.func112, Try.ntmps112
  go_wp2_with fail
  refine (s_among b B K _ 13 13 groupL _ hC hK hI (by omega) (by omega) hO).mono ?_; rintro e w2 ⟨x, rfl, hx, hC1, hX1⟩
  have hm := groupL_mod x hx
  have r2 := r1.bex hX1 (by omega)
  have X2 := (X0.trans hX).trans hX1
  have z2 := X2.size
  clear hx hX hX1 hI hO r0 r1 hC
  go_wp2_with fail
  refine (s_grFor x _ hm).mono ?_; rintro e w3 ⟨Q, G, rfl, hgf, hb3⟩
  have r3 := r2.on hb3
  have X3 := X2.trans (Bex.of hb3)
  have hC3 := hC1.below hb3
  have E3 := r3.set x Q G
  have E30 := E3.c0; have E31 := E3.c1; have E32 := E3.c2
  have hgd := hgf.gd hm
  obtain ⟨c0, c1, c2, f0, f1, f2⟩ := r3
  go_wp2
  exact bodyPost_ret (v := .agg #[.int .i64 x, .int .i64 Q, .int .i64 G]) (by simp [results, Try.results112, go_sem, E30, E31, E32]) rfl
    ⟨x, Q, G, rfl, hgd, hm, ((hC3.store (by dsimp only; omega) (by have := hC3.base; dsimp only; omega)).store (by dsimp only; omega) (by have := hC3.base; dsimp only; omega)).store (by dsimp only; omega) (by have := hC3.base; dsimp only; omega), ((X3.store (by dsimp only; omega) _).store (by dsimp only; omega) _).store (by dsimp only; omega) _⟩
end Go.Proofs.Ytklgneaamhjfpaa
