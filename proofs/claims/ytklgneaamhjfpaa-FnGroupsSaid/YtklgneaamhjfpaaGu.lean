/-
  The draws of groups: the group of a modulus, a group that may be spoilt, an element.
-/
import Derived.Test.YtklgneaamhjfpaaGl
import Derived.Test.YtklgneaamhjfpaaCv
namespace Go.Proofs.Ytklgneaamhjfpaa
open Go.RowKit
set_option linter.unusedVariables false
set_option linter.unusedSimpArgs false

/-- A box of three ints that may be written. -/
structure Gw (w : World) (b : Nat) (P Q G : Int) : Prop where
  c0 : w.cell? ⟨b, 0, none⟩ = some (.int .i64 P)
  c1 : w.cell? ⟨b, 1, none⟩ = some (.int .i64 Q)
  c2 : w.cell? ⟨b, 2, none⟩ = some (.int .i64 G)
  f0 : w.frozen? ⟨b, 0, none⟩ = false
  f1 : w.frozen? ⟨b, 1, none⟩ = false
  f2 : w.frozen? ⟨b, 2, none⟩ = false
theorem Gw.lt {w : World} {b : Nat} {P Q G : Int} (h : Gw w b P Q G) : b < w.heap.size := lt_of_cell h.c0
theorem Gw.gx {w : World} {b : Nat} {P Q G : Int} (h : Gw w b P Q G) : Gx w b P Q G := ⟨h.c0, h.c1, h.c2⟩
theorem Gw.on {w w' : World} {b : Nat} {P Q G : Int} (h : Gw w b P Q G) (hb : Below w.heap.size w w') : Gw w' b P Q G :=
  ⟨cell_on h.c0 hb, cell_on h.c1 hb, cell_on h.c2 hb, (hb.frozen (p := ⟨b, 0, none⟩) h.lt).trans h.f0, (hb.frozen (p := ⟨b, 1, none⟩) h.lt).trans h.f1, (hb.frozen (p := ⟨b, 2, none⟩) h.lt).trans h.f2⟩
theorem Gw.bex {w w' : World} {b k : Nat} {P Q G : Int} (h : Gw w b P Q G) (hx : Bex k w w') (hne : b ≠ k) : Gw w' b P Q G :=
  ⟨hx.cell h.c0 hne, hx.cell h.c1 hne, hx.cell h.c2 hne, (hx.frozen h.lt hne).trans h.f0, (hx.frozen h.lt hne).trans h.f1, (hx.frozen h.lt hne).trans h.f2⟩
theorem Gw.new {w : World} {P Q G : Int} {t : TypeId} : Gw (w.alloc (.cells #[.int .i64 P, .int .i64 Q, .int .i64 G] t)) w.heap.size P Q G :=
  ⟨World.cell?_alloc_at _ _ _ _ rfl, World.cell?_alloc_at _ _ _ _ rfl, World.cell?_alloc_at _ _ _ _ rfl, World.frozen?_alloc_at _ _ _ _ rfl, World.frozen?_alloc_at _ _ _ _ rfl, World.frozen?_alloc_at _ _ _ _ rfl⟩
theorem Gw.other {w : World} {b : Nat} {P Q G : Int} (h : Gw w b P Q G) {p : Addr} (hp : p.block ≠ b) (u : Value) : Gw (w.setCell p u) b P Q G := by
  have e : ∀ o, (w.setCell p u).cell? ⟨b, o, none⟩ = w.cell? ⟨b, o, none⟩ := fun o => World.cell?_setCell_other _ _ _ _ (fun e => hp (by rw [e]))
  exact ⟨(e 0).trans h.c0, (e 1).trans h.c1, (e 2).trans h.c2, by simpa using h.f0, by simpa using h.f1, by simpa using h.f2⟩
theorem Gw.s0 {w : World} {b : Nat} {P Q G : Int} (h : Gw w b P Q G) (u : Int) : Gw (w.setCell ⟨b, 0, none⟩ (.int .i64 u)) b u Q G :=
  ⟨World.cell?_setCell_same _ _ _ h.c0, (World.cell?_setCell_other _ _ _ _ (by simp)).trans h.c1, (World.cell?_setCell_other _ _ _ _ (by simp)).trans h.c2, by simpa using h.f0, by simpa using h.f1, by simpa using h.f2⟩
theorem Gw.s1 {w : World} {b : Nat} {P Q G : Int} (h : Gw w b P Q G) (u : Int) : Gw (w.setCell ⟨b, 1, none⟩ (.int .i64 u)) b P u G :=
  ⟨(World.cell?_setCell_other _ _ _ _ (by simp)).trans h.c0, World.cell?_setCell_same _ _ _ h.c1, (World.cell?_setCell_other _ _ _ _ (by simp)).trans h.c2, by simpa using h.f0, by simpa using h.f1, by simpa using h.f2⟩
theorem Gw.s2 {w : World} {b : Nat} {P Q G : Int} (h : Gw w b P Q G) (u : Int) : Gw (w.setCell ⟨b, 2, none⟩ (.int .i64 u)) b P Q u :=
  ⟨(World.cell?_setCell_other _ _ _ _ (by simp)).trans h.c0, (World.cell?_setCell_other _ _ _ _ (by simp)).trans h.c1, World.cell?_setCell_same _ _ _ h.c2, by simpa using h.f0, by simpa using h.f1, by simpa using h.f2⟩
theorem Gw.set {w : World} {b : Nat} {P Q G : Int} (h : Gw w b P Q G) (p q g : Int) : Gw (((w.setCell ⟨b, 0, none⟩ (.int .i64 p)).setCell ⟨b, 1, none⟩ (.int .i64 q)).setCell ⟨b, 2, none⟩ (.int .i64 g)) b p q g :=
  ((h.s0 p).s1 q).s2 g
theorem bel_set3 {w w0 : World} {B b : Nat} (h : Below B w0 w) (hb : B ≤ b) (x y z : Value) : Below B w0 (((w.setCell ⟨b, 0, none⟩ x).setCell ⟨b, 1, none⟩ y).setCell ⟨b, 2, none⟩ z) :=
  ((h.setCell hb _).setCell hb _).setCell hb _
/-- Two boxes of zeros, one behind the other. -/
theorem Gw.two {w : World} {P Q G P' Q' G' : Int} {t t' : TypeId} : Gw ((w.alloc (.cells #[.int .i64 P, .int .i64 Q, .int .i64 G] t)).alloc (.cells #[.int .i64 P', .int .i64 Q', .int .i64 G'] t')) w.heap.size P Q G ∧
    Gw ((w.alloc (.cells #[.int .i64 P, .int .i64 Q, .int .i64 G] t)).alloc (.cells #[.int .i64 P', .int .i64 Q', .int .i64 G'] t')) (w.heap.size + 1) P' Q' G' := by
  refine ⟨Gw.new.on (bel_alloc _ _), ?_⟩
  have h := Gw.new (w := w.alloc (.cells #[.int .i64 P, .int .i64 Q, .int .i64 G] t)) (P := P') (Q := Q') (G := G') (t := t')
  simpa using h

set_option maxHeartbeats 4000000 in
theorem s_grFor (p : Int) (w : World) (h : modB p = true) :
    Calls Try.prog 100 #[.int .i64 p] w fun e w' => ∃ Q G, e = .returned (.agg #[.int .i64 p, .int .i64 Q, .int .i64 G]) ∧ IsGF p Q G ∧ Below w.heap.size w w' := by
  obtain ⟨hp1, hp2⟩ := modB_lo h
  obtain ⟨Q0, G0, hgf⟩ := gf_ex h
  obtain ⟨ql1, ql2⟩ := hgf.ql
  obtain ⟨gl1, gl2⟩ := hgf.gl
  have HG := Lib.hid hgf; clear hgf h
  obtain ⟨N, rfl⟩ : ∃ N : Nat, p = N := ⟨p.toNat, by omega⟩
  obtain ⟨q0, rfl⟩ : ∃ N : Nat, Q0 = N := ⟨Q0.toNat, by omega⟩
  obtain ⟨g0, rfl⟩ : ∃ N : Nat, G0 = N := ⟨G0.toNat, by omega⟩
  go_enter Try.func100, Try.ntmps100
  go_wp2
  go_loopw [4] (fun i W => ∃ (k : Nat) (Qk : Int), 2 ≤ k ∧ k ≤ N ∧ i = .int .i64 k ∧ Hid (Gw W (w.heap.size + 1) N Qk 0) ∧ Hid (Gw W w.heap.size 0 0 0) ∧ Hid (Below w.heap.size w W) ∧ (q0 < k → Qk = q0)) (fun i _ => N - (intOf i).toNat)
  case atStart => exact ⟨2, 0, by omega, by omega, rfl, Gw.two.2, Gw.two.1, by show Below _ _ _; (repeat (first | exact Below.refl _ _ | assumption | refine bel_trans ?_ (bel_alloc _ _) | refine bel_set ?_ (by first | (dsimp only; omega) | (simp; omega) | simp) _ | refine bel_trans ?_ (bel_drewN _ _) | refine bel_trans ?_ (bel_drew _) | refine bel_trans ?_ (by assumption))), fun hk => by omega⟩
  case round =>
    obtain ⟨k, Qk, hk1, hk2, rfl, HX, HR, HB, hq⟩ := hrel
    by_cases hlt : k < N
    · have hlti : (k : Int) < (N : Int) := by omega
      have hk0 : ¬ (k : Int) = 0 := by omega
      have ht : ((N : Int) - 1).tmod k = ((N : Int) - 1) % k := Int.tmod_eq_emod_of_nonneg (by omega)
      by_cases hm : ((N : Int) - 1) % k = 0
      · cases hpr : prmB k with
        | true =>
          obtain ⟨c0, c1, c2, f0, f1, f2⟩ := HX.out
          have hqe : k = q0 ∨ k < q0 := by
            rcases Nat.lt_or_ge q0 k with x | x
            · have := HG.out.qm k (by omega) (by omega)
              rw [show qB (N : Int) k = true from qB_iff.2 ⟨hm, hpr⟩] at this; cases this
            · omega
          go_wp2_with (go_at_call 99; refine (s_grPrime _ _ (by omega) (by omega)).mono ?_; rintro e w' ⟨rfl, rfl⟩)
          go_roundw
          case rel => exact ⟨k + 1, k, by omega, by omega, by go_num, (show Hid _ from HX.out.s1 _), (show Hid _ from HR.out.other (by simp) _), (show Hid _ from HB.out.setCell (by simp) _), fun x => by omega⟩
          case measure => simp [intOf]; omega
        | false =>
          have hqn : k ≠ q0 := by
            intro x; subst x
            have := (qB_iff.1 HG.out.qb).2
            rw [hpr] at this; cases this
          go_wp2_with (go_at_call 99; refine (s_grPrime _ _ (by omega) (by omega)).mono ?_; rintro e w' ⟨rfl, rfl⟩)
          go_roundw
          case rel => exact ⟨k + 1, Qk, by omega, by omega, by go_num, HX, HR, HB, fun x => hq (by omega)⟩
          case measure => simp [intOf]; omega
      · have hqn : k ≠ q0 := by
          intro x; subst x
          exact hm (qB_iff.1 HG.out.qb).1
        go_wp2_with (go_at_call 99; refine (s_grPrime _ _ (by omega) (by omega)).mono ?_; rintro e w' ⟨rfl, rfl⟩)
        go_roundw
        case rel => exact ⟨k + 1, Qk, by omega, by omega, by go_num, HX, HR, HB, fun x => hq (by omega)⟩
        case measure => simp [intOf]; omega
    · obtain rfl : k = N := by omega
      obtain rfl := hq (by omega)
      clear hq
      go_wp2
      go_loopw [5] (fun i W => ∃ (j : Nat) (Gk : Int), 2 ≤ j ∧ j ≤ g0 + 1 ∧ i = .int .i64 j ∧ Hid (Gw W (w.heap.size + 1) k q0 Gk) ∧ Hid (Gw W w.heap.size 0 0 0) ∧ Hid (Below w.heap.size w W) ∧ (j ≤ g0 ∧ Gk = 0 ∨ j = g0 + 1 ∧ Gk = g0)) (fun i _ => g0 + 2 - (intOf i).toNat)
      case atStart => exact ⟨2, 0, by omega, by omega, rfl, HX, HR, HB, Or.inl ⟨by omega, rfl⟩⟩
      case round =>
        clear HX HR HB
        obtain ⟨j, Gk, hj1, hj2, rfl, HX, HR, HB, hor⟩ := hrel
        obtain ⟨c0, c1, c2, f0, f1, f2⟩ := HX.out
        rcases hor with ⟨hj3, rfl⟩ | ⟨rfl, rfl⟩
        · by_cases he : j = g0
          · subst he
            have hpw : pw (k : Int) (j : Int) q0 = 1 := gB_iff.1 HG.out.gb
            have hbq : (pw (k : Int) (j : Int) q0 == 1) = true := by rw [hpw]; rfl
            go_wp2_with (go_at_call 114; refine (s_grPower _ _ _ _ (by omega) (by omega) (by omega)).mono ?_; rintro e w' ⟨rfl, rfl⟩)
            go_roundw
            case rel => exact ⟨j + 1, j, by omega, by omega, by go_num, (show Hid _ from HX.out.s2 _), (show Hid _ from HR.out.other (by simp) _), (show Hid _ from HB.out.setCell (by simp) _), Or.inr ⟨rfl, rfl⟩⟩
            case measure => simp [intOf]
          · have hpw : ¬ pw (k : Int) (j : Int) q0 = 1 := gB_no.1 (HG.out.gm j (by omega) (by omega))
            have hbq : (pw (k : Int) (j : Int) q0 == 1) = false := by simpa using hpw
            go_wp2_with (go_at_call 114; refine (s_grPower _ _ _ _ (by omega) (by omega) (by omega)).mono ?_; rintro e w' ⟨rfl, rfl⟩)
            go_roundw
            case rel => exact ⟨j + 1, 0, by omega, by omega, by go_num, HX, HR, HB, Or.inl ⟨by omega, rfl⟩⟩
            case measure => simp [intOf]; omega
        · have hg0 : ¬ ((g0 : Nat) : Int) = 0 := by omega
          have hgb : (((g0 : Nat) : Int) == 0) = false := by simpa using hg0
          obtain ⟨r0, r1, r2, r3, r4, r5⟩ := HR.out
          have GG := HR.out.set k q0 g0
          have G0 := GG.c0; have G1 := GG.c1; have G2 := GG.c2
          clear GG
          go_wp2
          exact bodyPost_ret (v := .agg #[.int .i64 k, .int .i64 q0, .int .i64 g0]) (by simp [results, Try.results100, go_sem, G0, G1, G2]) rfl ⟨q0, g0, rfl, HG.out, bel_set3 HB.out (Nat.le_refl _) _ _ _⟩
end Go.Proofs.Ytklgneaamhjfpaa
