/-
  Contracts: valid tables.
  Contracts: evaluation of a garbled circuit.
  Contracts: decoding, and a whole run of a garbled circuit.
  Contracts: a circuit with too many outs; the value of a circuit.
  Plain law of garbled values, as the walk wants it.
  append of a slice at a step of a region that draws its order.
-/
import Derived.Test.YtfejpmfcognikaaV2
import Derived.Test.YtfejpmfcognikaaV1
import Derived.Test.YtfejpmfcognikaaY6
import Derived.Test.YtfejpmfcognikaaCx
import Derived.BigQuiet
import Derived.Deep.QuietTactic
namespace Go.Proofs.Ytfejpmfcognikaa
open Go.RowKit
set_option linter.unusedVariables false
set_option linter.unusedSimpArgs false
set_option maxRecDepth 10000

def badT (L : Int) (x : List Int) : Bool := !(decide ((x.length : Int) = L) && labB x)
set_option maxHeartbeats 1000000 in
theorem i_areTables1 (r : Option Addr) (m c : Nat) (x : List Int) (L : Int) (b : Nat) (w : World) (hc : w.cell? ⟨b, 0, none⟩ = some (.int .i64 L)) (h : Ints w r m c x) :
    Calls Try.prog 117 #[.slice r m c, .pointer (some ⟨b, 0, none⟩)] w fun e w' => e = .returned (.bool (badT L x)) ∧ Below w.heap.size w w' := by
  have hs := h.small
  unfold badT
  rw [h.len.out]
  by_cases h1 : (m : Int) = L
  · subst h1
    rw [show (!(decide ((m : Int) = (m : Int)) && labB x)) = !labB x by simp]
    go_enter Try.func117, Try.ntmps117
    go_wp2_with (go_at_call 58; refine (i_areLabels _ _ _ _ _ h).mono ?_; rintro e w' ⟨rfl, hb⟩)
    go_ret
    exact ⟨rfl, hb⟩
  · have h1b : ((m : Int) != L) = true := by simp [h1]
    have h1c : ((m : Int) == L) = false := by simp [h1]
    rw [show (!(decide ((m : Int) = L) && labB x)) = true by simp [h1]]
    go_enter Try.func117, Try.ntmps117
    go_wp2
    go_ret
    exact ⟨rfl, Below.refl _ _⟩
set_option maxHeartbeats 8000000 in
theorem i_areTablesY (i0 i1 : Int) (ga : Option Addr) (gn gc : Nat) (gs : List Int) (oa : Option Addr) (on oc : Nat) (ra : Option Addr) (rn rc : Nat) (rows : List (List Int)) (na : Option Addr) (nn nc : Nat) (ones : List Int) (ca : Option Addr) (cc : Nat) (cols : List Int) (w : World)
    (hg : Recs 3 w ga gn gc gs) (hR : Rws w ra rn rc rows) (hO : Ints w na nn nc ones) (hC : Ints w ca on cc cols) (hk : kindsOk gs gn) (hrl : ∀ r ∈ rows, r.length = 3 ∧ labs r) (hol : labs ones) (hcl : bitsB cols = true) (hrn : (rn : Int) = cntK gs 1 gn) (hnn : (nn : Int) = cntK gs 3 gn) (hgn : gn ≤ 300) :
    Calls Try.prog 69 #[.agg #[.int .i64 i0, .int .i64 i1, .slice ga gn gc, .slice oa on oc], .agg #[.slice ra rn rc, .slice na nn nc, .slice ca on cc], .int .i64 3] w fun e w' => e = .returned (.bool true) ∧ Below w.heap.size w w' := by
  have eA : ∀ args w, (callFunc 117 args).run Try.prog w = .ok (.enter 117 args) w := enters_of Try.func117 (by kernel_rfl) rfl
  have hmf : ∀ (fn : Fn) (first cap : Array Value) (w : World), (Instr.makeFunc fn first cap).run Try.prog w = .ok (.func fn first cap) w := fun _ _ _ _ => rfl
  have A0 := bel_alloc w (.cells #[.int .i64 i0, .int .i64 i1, .slice ga gn gc, .slice oa on oc] 25)
  have g0 := B4.new (w := w) (x0 := .int .i64 i0) (x1 := .int .i64 i1) (x2 := .slice ga gn gc) (x3 := .slice oa on oc) (t := 25)
  have A1 := bel_alloc (w.alloc (.cells #[.int .i64 i0, .int .i64 i1, .slice ga gn gc, .slice oa on oc] 25)) (.cells #[.slice ra rn rc, .slice na nn nc, .slice ca on cc] 34)
  have n0 := B3.new (w := w.alloc (.cells #[.int .i64 i0, .int .i64 i1, .slice ga gn gc, .slice oa on oc] 25)) (x0 := .slice ra rn rc) (x1 := .slice na nn nc) (x2 := .slice ca on cc) (t := 34)
  have z0 : (w.alloc (.cells #[.int .i64 i0, .int .i64 i1, .slice ga gn gc, .slice oa on oc] 25)).heap.size = w.heap.size + 1 := by simp
  have z1 : ((w.alloc (.cells #[.int .i64 i0, .int .i64 i1, .slice ga gn gc, .slice oa on oc] 25)).alloc (.cells #[.slice ra rn rc, .slice na nn nc, .slice ca on cc] 34)).heap.size = w.heap.size + 2 := by simp
  have A2 := bel_alloc ((w.alloc (.cells #[.int .i64 i0, .int .i64 i1, .slice ga gn gc, .slice oa on oc] 25)).alloc (.cells #[.slice ra rn rc, .slice na nn nc, .slice ca on cc] 34)) (.cells #[.int .i64 3] 3)
  have l0 : (((w.alloc (.cells #[.int .i64 i0, .int .i64 i1, .slice ga gn gc, .slice oa on oc] 25)).alloc (.cells #[.slice ra rn rc, .slice na nn nc, .slice ca on cc] 34)).alloc (.cells #[.int .i64 3] 3)).cell? ⟨w.heap.size + 2, 0, none⟩ = some (.int .i64 3) := by rw [← z1]; exact World.cell?_alloc_at _ _ _ _ rfl
  rw [z0] at n0
  have HB := Lib.hid (bel_trans (bel_trans A0 A1) A2)
  obtain ⟨c0, c1, c2, c3⟩ := (g0.on A1).on A2
  have y0 := cell_on n0.c0 A2; have y1 := cell_on n0.c1 A2; have y2 := cell_on n0.c2 A2
  have HF := Lib.hid (And.intro (hg.below HB.out) (And.intro (hR.below HB.out) (And.intro (hO.below HB.out) (hC.below HB.out))))
  have hany : rows.any (badT 3) = false := by
    rw [List.any_eq_false]
    intro r hr
    have := hrl r hr
    unfold badT
    rw [this.1, labs_B.2 this.2]; decide
  have HANY := Lib.hid hany
  have HLB := Lib.hid (And.intro (labs_B.2 hol) hcl)
  have HKD := Lib.hid (And.intro hrn hnn)
  have HCK := Lib.hid (i_countKinds ga gn gc gs _ HF.out.1 hk hgn)
  clear A0 A1 A2 n0 g0 hg hR hO hC hany hol hcl hrn hnn hrl hk
  go_enter Try.func69, Try.ntmps69
  go_wp2_with fail
  refine HCK.out.mono ?_; rintro e w1 ⟨kr, kc, rfl, hI, hb1⟩
  obtain ⟨kb, ko, hkr, hkl, hk1⟩ := hI.mine.ints.at (i := 1) (by omega)
  obtain ⟨kb', ko', hkr', hkl', hk3⟩ := hI.mine.ints.at (i := 3) (by omega)
  rw [hkr] at hkr'
  simp only [Option.some.injEq, Addr.mk.injEq, and_true] at hkr'
  obtain ⟨rfl, rfl⟩ := hkr'
  subst hkr
  rw [show nth (kinds gs gn) 1 = (rn : Int) from HKD.out.1.symm] at hk1
  rw [show nth (kinds gs gn) 3 = (nn : Int) from HKD.out.2.symm] at hk3
  replace c3 := cell_on c3 hb1; replace y0 := cell_on y0 hb1; replace y1 := cell_on y1 hb1; replace y2 := cell_on y2 hb1; replace l0 := cell_on l0 hb1
  have HF1 := Lib.hid (And.intro (HF.out.2.1.below hb1) (And.intro (HF.out.2.2.1.below hb1) (HF.out.2.2.2.below hb1)))
  have HB1 := Lib.hid (bel_trans HB.out hb1)
  clear c0 c1 c2 hb1 HF HB hI HCK
  have hg : Hid (Calls Try.prog 62 #[.slice ra rn rc, .func (.func 117) #[] #[.pointer (some ⟨w.heap.size + 2, 0, none⟩)]] w1.drew fun e w' => e = .returned (.bool (rows.any (badT 3))) ∧ Below w1.drew.heap.size w1.drew w') :=
    g_ContainsFuncR ra rn rc rows (badT 3) 117 #[.pointer (some ⟨w.heap.size + 2, 0, none⟩)] eA w1.drew (HF1.out.1.below (bel_drew w1)) (fun W r m c x hW hx => by
      have hc : W.cell? ⟨w.heap.size + 2, 0, none⟩ = some (.int .i64 3) := cell_on (cell_on l0 (bel_drew w1)) hW
      exact (i_areTables1 r m c x 3 (w.heap.size + 2) W hc hx).mono fun e w' ⟨he, hw⟩ => ⟨he, bel_trans hW hw⟩)
  go_wp2_with fail
  go_region_held3 (fun W => W.cell? ⟨w.heap.size, 3, none⟩ = some (.slice oa on oc) ∧ W.cell? ⟨w.heap.size + 1, 0, none⟩ = some (.slice ra rn rc) ∧ W.cell? ⟨w.heap.size + 1, 1, none⟩ = some (.slice na nn nc) ∧ W.cell? ⟨w.heap.size + 1, 2, none⟩ = some (.slice ca on cc) ∧ W.cell? ⟨kb, ko + 1, none⟩ = some (.int .i64 rn) ∧ W.cell? ⟨kb, ko + 3, none⟩ = some (.int .i64 nn)) (first | exact ⟨c3, y0, y1, y2, hk1, hk3⟩ | exact ⟨cell_on c3 (by (repeat (first | exact Below.refl _ _ | assumption | refine bel_trans ?_ (bel_alloc _ _) | refine bel_set ?_ (by first | (dsimp only; omega) | (simp; omega) | simp) _ | refine bel_trans ?_ (bel_drewN _ _) | refine bel_trans ?_ (bel_drew _) | refine bel_trans ?_ (by assumption)))), cell_on y0 (by (repeat (first | exact Below.refl _ _ | assumption | refine bel_trans ?_ (bel_alloc _ _) | refine bel_set ?_ (by first | (dsimp only; omega) | (simp; omega) | simp) _ | refine bel_trans ?_ (bel_drewN _ _) | refine bel_trans ?_ (bel_drew _) | refine bel_trans ?_ (by assumption)))), cell_on y1 (by (repeat (first | exact Below.refl _ _ | assumption | refine bel_trans ?_ (bel_alloc _ _) | refine bel_set ?_ (by first | (dsimp only; omega) | (simp; omega) | simp) _ | refine bel_trans ?_ (bel_drewN _ _) | refine bel_trans ?_ (bel_drew _) | refine bel_trans ?_ (by assumption)))), cell_on y2 (by (repeat (first | exact Below.refl _ _ | assumption | refine bel_trans ?_ (bel_alloc _ _) | refine bel_set ?_ (by first | (dsimp only; omega) | (simp; omega) | simp) _ | refine bel_trans ?_ (bel_drewN _ _) | refine bel_trans ?_ (bel_drew _) | refine bel_trans ?_ (by assumption)))), cell_on hk1 (by (repeat (first | exact Below.refl _ _ | assumption | refine bel_trans ?_ (bel_alloc _ _) | refine bel_set ?_ (by first | (dsimp only; omega) | (simp; omega) | simp) _ | refine bel_trans ?_ (bel_drewN _ _) | refine bel_trans ?_ (bel_drew _) | refine bel_trans ?_ (by assumption)))), cell_on hk3 (by (repeat (first | exact Below.refl _ _ | assumption | refine bel_trans ?_ (bel_alloc _ _) | refine bel_set ?_ (by first | (dsimp only; omega) | (simp; omega) | simp) _ | refine bel_trans ?_ (bel_drewN _ _) | refine bel_trans ?_ (bel_drew _) | refine bel_trans ?_ (by assumption))))⟩) (first
    | (go_at_call 62; refine hg.out.mono ?_; rintro e w5 ⟨rfl, hb5⟩; rw [HANY.out]; have hbX := bel_trans (bel_drew w1) hb5; have c3 := cell_on c3 hbX; have y0 := cell_on y0 hbX; have y1 := cell_on y1 hbX; have y2 := cell_on y2 hbX; have hk1 := cell_on hk1 hbX; have hk3 := cell_on hk3 hbX)
    | (go_at_call 58; refine (i_areLabels na nn nc ones _ (HF1.out.2.1.below hbX)).mono ?_; rintro e w6 ⟨rfl, hb6⟩; rw [HLB.out.1]; have hbY := bel_trans hbX hb6; have c3 := cell_on c3 hb6; have y0 := cell_on y0 hb6; have y1 := cell_on y1 hb6; have y2 := cell_on y2 hb6; have hk1 := cell_on hk1 hb6; have hk3 := cell_on hk3 hb6)
    | (go_at_call 109; refine (i_allBits ca on cc cols _ (HF1.out.2.2.below hbY)).mono ?_; rintro e w7 ⟨rfl, hb7⟩; rw [HLB.out.2]; have hbZ := bel_trans hbY hb7; have c3 := cell_on c3 hb7; have y0 := cell_on y0 hb7; have y1 := cell_on y1 hb7; have y2 := cell_on y2 hb7; have hk1 := cell_on hk1 hb7; have hk3 := cell_on hk3 hb7))
  go_wp2
  go_ret
  exact ⟨rfl, bel_trans HB1.out hbZ⟩
end Go.Proofs.Ytfejpmfcognikaa
namespace Go.Proofs.Ytfejpmfcognikaa
open Go.RowKit
set_option linter.unusedVariables false
set_option linter.unusedSimpArgs false
set_option maxRecDepth 10000

/-- Tables that can be read and are valid for a circuit. -/
structure GOk (w : World) (gs : List Int) (gn on : Nat) (ra : Option Addr) (rn rc : Nat) (rows : List (List Int)) (na : Option Addr) (nn nc : Nat) (ones : List Int) (ca : Option Addr) (cc : Nat) (cols : List Int) : Prop where
  R : Rws w ra rn rc rows
  O : Ints w na nn nc ones
  C : Ints w ca on cc cols
  rl : ∀ r ∈ rows, r.length = 3 ∧ labs r
  ol : labs ones
  cl : bitsB cols = true
  rn : (rn : Int) = cntK gs 1 gn
  nn : (nn : Int) = cntK gs 3 gn
theorem GOk.below {w w' : World} {gs : List Int} {gn on : Nat} {ra : Option Addr} {rn rc : Nat} {rows : List (List Int)} {na : Option Addr} {nn nc : Nat} {ones : List Int} {ca : Option Addr} {cc : Nat} {cols : List Int} (h : GOk w gs gn on ra rn rc rows na nn nc ones ca cc cols) (k : Below w.heap.size w w') : GOk w' gs gn on ra rn rc rows na nn nc ones ca cc cols :=
  ⟨h.R.below k, h.O.below k, h.C.below k, h.rl, h.ol, h.cl, h.rn, h.nn⟩
set_option maxHeartbeats 8000000 in
theorem i_EvalGarbledY (p q : Nat) (ga : Option Addr) (gn gc : Nat) (gs : List Int) (oa : Option Addr) (on oc : Nat) (os : List Int) (ra : Option Addr) (rn rc : Nat) (rows : List (List Int)) (na : Option Addr) (nn nc : Nat) (ones : List Int) (ca : Option Addr) (cc : Nat) (cols : List Int) (ia : Option Addr) (m ic : Nat) (inp : List Int) (w : World)
    (h : Circ w ga gn gc gs oa on oc os) (hcc : circB p q gs gn os = true) (hg : GOk w gs gn on ra rn rc rows na nn nc ones ca cc cols) (hI : Ints w ia m ic inp) (hil : labs inp) (hm : m = p + q) :
    Calls Try.prog 18 #[.agg #[.int .i64 p, .int .i64 q, .slice ga gn gc, .slice oa on oc], .agg #[.slice ra rn rc, .slice na nn nc, .slice ca on cc], .slice ia m ic] w fun e w' => ∃ r c, e = .returned (.tuple #[.slice r on c, .bool true]) ∧ Mine w' w.heap.size r on c (pkL (labS gs rows ones inp gn).1 os on) ∧ Below w.heap.size w w' := by
  have hlo := h.o.len.out; have hli := hI.len.out
  have A0 := bel_alloc w (.cells #[.int .i64 p, .int .i64 q, .slice ga gn gc, .slice oa on oc] 25)
  have g0 := B4.new (w := w) (x0 := .int .i64 p) (x1 := .int .i64 q) (x2 := .slice ga gn gc) (x3 := .slice oa on oc) (t := 25)
  have A1 := bel_alloc (w.alloc (.cells #[.int .i64 p, .int .i64 q, .slice ga gn gc, .slice oa on oc] 25)) (.cells #[.slice ra rn rc, .slice na nn nc, .slice ca on cc] 34)
  have n0 := B3.new (w := w.alloc (.cells #[.int .i64 p, .int .i64 q, .slice ga gn gc, .slice oa on oc] 25)) (x0 := .slice ra rn rc) (x1 := .slice na nn nc) (x2 := .slice ca on cc) (t := 34)
  have z0 : (w.alloc (.cells #[.int .i64 p, .int .i64 q, .slice ga gn gc, .slice oa on oc] 25)).heap.size = w.heap.size + 1 := by simp
  rw [z0] at n0
  have HB := Lib.hid (bel_trans A0 A1)
  obtain ⟨c0, c1, c2, c3⟩ := g0.on A1
  obtain ⟨y0, y1, y2⟩ := n0
  have hin := circB_in hcc
  have hG : Hid (gatesB (m : Int) gs gn = true) := by have := (circB_iff.1 hcc).2.1; show _ = _; rw [show (m : Int) = (p : Int) + (q : Int) by omega]; exact this
  have HOU := outs_in hcc (n := m + gn) (by omega)
  rw [hlo] at HOU
  have hm40 : m ≤ 40 := by omega
  have hgn : gn ≤ 300 := by omega
  have hon : on ≤ 40 := by omega
  have HP := Lib.hid (And.intro (show (0 : Int) ≤ p ∧ (p : Int) ≤ 20 by omega) (And.intro (show (0 : Int) ≤ q ∧ (q : Int) ≤ 20 by omega) (show ((p : Int) + (q : Int)) = (m : Int) by omega)))
  have HF := Lib.hid (And.intro (h.below HB.out) (And.intro (hg.below HB.out) (hI.below HB.out)))
  have HCC := Lib.hid (And.intro hcc (And.intro (labs_B.2 hil) (kindsOk.of hG.out)))
  have HIL := Lib.hid hil
  clear A0 A1 g0 h hg hI hin hcc hlo hli hil hm
  go_enter Try.func18, Try.ntmps18
  go_wp2_with fail
  refine (i_IsCircuit p q ga gn gc gs oa on oc os _ HF.out.1).mono ?_; rintro e w1 ⟨rfl, hb1⟩; rw [HCC.out.1]
  replace c0 := cell_on c0 hb1; replace c1 := cell_on c1 hb1; replace c2 := cell_on c2 hb1; replace c3 := cell_on c3 hb1; replace y0 := cell_on y0 hb1; replace y1 := cell_on y1 hb1; replace y2 := cell_on y2 hb1
  have HF1 := Lib.hid (And.intro (HF.out.1.below hb1) (And.intro (HF.out.2.1.below hb1) (HF.out.2.2.below hb1))); have HB1 := Lib.hid (bel_trans HB.out hb1); clear HF HB hb1
  go_wp2_with fail
  refine (i_areTablesY p q ga gn gc gs oa on oc ra rn rc rows na nn nc ones ca cc cols _ HF1.out.1.g HF1.out.2.1.R HF1.out.2.1.O HF1.out.2.1.C HCC.out.2.2 HF1.out.2.1.rl HF1.out.2.1.ol HF1.out.2.1.cl HF1.out.2.1.rn HF1.out.2.1.nn hgn).mono ?_; rintro e w2 ⟨rfl, hb2⟩
  replace c0 := cell_on c0 hb2; replace c1 := cell_on c1 hb2; replace c2 := cell_on c2 hb2; replace c3 := cell_on c3 hb2; replace y0 := cell_on y0 hb2; replace y1 := cell_on y1 hb2; replace y2 := cell_on y2 hb2
  have HF2 := Lib.hid (And.intro (HF1.out.1.below hb2) (And.intro (HF1.out.2.1.below hb2) (HF1.out.2.2.below hb2))); have HB2 := Lib.hid (bel_trans HB1.out hb2); clear HF1 HB1 hb2
  go_wp2_with fail
  refine (i_areLabels ia m ic inp _ HF2.out.2.2).mono ?_; rintro e w3 ⟨rfl, hb3⟩; rw [HCC.out.2.1]
  replace c0 := cell_on c0 hb3; replace c1 := cell_on c1 hb3; replace c2 := cell_on c2 hb3; replace c3 := cell_on c3 hb3; replace y0 := cell_on y0 hb3; replace y1 := cell_on y1 hb3; replace y2 := cell_on y2 hb3
  have HF3 := Lib.hid (And.intro (HF2.out.1.below hb3) (And.intro (HF2.out.2.1.below hb3) (HF2.out.2.2.below hb3))); have HB3 := Lib.hid (bel_trans HB2.out hb3); clear HF2 HB2 hb3
  go_wp2_with fail
  refine (i_inputs p q ga gn gc oa on oc _ HP.out.1 HP.out.2.1).mono ?_; rintro e w4 ⟨he, hb4⟩; rw [HP.out.2.2] at he; subst he
  replace c0 := cell_on c0 hb4; replace c1 := cell_on c1 hb4; replace c2 := cell_on c2 hb4; replace c3 := cell_on c3 hb4; replace y0 := cell_on y0 hb4; replace y1 := cell_on y1 hb4; replace y2 := cell_on y2 hb4
  have HF4 := Lib.hid (And.intro (HF3.out.1.below hb4) (And.intro (HF3.out.2.1.below hb4) (HF3.out.2.2.below hb4))); have HB4 := Lib.hid (bel_trans HB3.out hb4); clear HF3 HB3 hb4
  have HLB := Lib.hid (i_labels p q ga gn gc gs oa on oc ra rn rc rows na nn nc ones ca on cc ia m ic inp w4.drew (HF4.out.1.g.below (bel_drew w4)) (HF4.out.2.1.R.below (bel_drew w4)) (HF4.out.2.1.O.below (bel_drew w4)) (HF4.out.2.2.below (bel_drew w4)) hG HF4.out.2.1.rl HF4.out.2.1.ol HIL.out HF4.out.2.1.rn HF4.out.2.1.nn hm40 hgn)
  have hz4 := HB4.out.size
  have hzd : w4.drew.heap.size = w4.heap.size := rfl
  go_wp2_with fail
  go_region_held3 (fun W => W.cell? ⟨w.heap.size, 0, none⟩ = some (.int .i64 p) ∧ W.cell? ⟨w.heap.size, 1, none⟩ = some (.int .i64 q) ∧ W.cell? ⟨w.heap.size, 2, none⟩ = some (.slice ga gn gc) ∧ W.cell? ⟨w.heap.size, 3, none⟩ = some (.slice oa on oc) ∧ W.cell? ⟨w.heap.size + 1, 0, none⟩ = some (.slice ra rn rc) ∧ W.cell? ⟨w.heap.size + 1, 1, none⟩ = some (.slice na nn nc) ∧ W.cell? ⟨w.heap.size + 1, 2, none⟩ = some (.slice ca on cc)) (first | exact ⟨c0, c1, c2, c3, y0, y1, y2⟩ | exact ⟨cell_on c0 (by (repeat (first | exact Below.refl _ _ | assumption | refine bel_trans ?_ (bel_alloc _ _) | refine bel_set ?_ (by first | (dsimp only; omega) | (simp; omega) | simp) _ | refine bel_trans ?_ (bel_drewN _ _) | refine bel_trans ?_ (bel_drew _) | refine bel_trans ?_ (by assumption)))), cell_on c1 (by (repeat (first | exact Below.refl _ _ | assumption | refine bel_trans ?_ (bel_alloc _ _) | refine bel_set ?_ (by first | (dsimp only; omega) | (simp; omega) | simp) _ | refine bel_trans ?_ (bel_drewN _ _) | refine bel_trans ?_ (bel_drew _) | refine bel_trans ?_ (by assumption)))), cell_on c2 (by (repeat (first | exact Below.refl _ _ | assumption | refine bel_trans ?_ (bel_alloc _ _) | refine bel_set ?_ (by first | (dsimp only; omega) | (simp; omega) | simp) _ | refine bel_trans ?_ (bel_drewN _ _) | refine bel_trans ?_ (bel_drew _) | refine bel_trans ?_ (by assumption)))), cell_on c3 (by (repeat (first | exact Below.refl _ _ | assumption | refine bel_trans ?_ (bel_alloc _ _) | refine bel_set ?_ (by first | (dsimp only; omega) | (simp; omega) | simp) _ | refine bel_trans ?_ (bel_drewN _ _) | refine bel_trans ?_ (bel_drew _) | refine bel_trans ?_ (by assumption)))), cell_on y0 (by (repeat (first | exact Below.refl _ _ | assumption | refine bel_trans ?_ (bel_alloc _ _) | refine bel_set ?_ (by first | (dsimp only; omega) | (simp; omega) | simp) _ | refine bel_trans ?_ (bel_drewN _ _) | refine bel_trans ?_ (bel_drew _) | refine bel_trans ?_ (by assumption)))), cell_on y1 (by (repeat (first | exact Below.refl _ _ | assumption | refine bel_trans ?_ (bel_alloc _ _) | refine bel_set ?_ (by first | (dsimp only; omega) | (simp; omega) | simp) _ | refine bel_trans ?_ (bel_drewN _ _) | refine bel_trans ?_ (bel_drew _) | refine bel_trans ?_ (by assumption)))), cell_on y2 (by (repeat (first | exact Below.refl _ _ | assumption | refine bel_trans ?_ (bel_alloc _ _) | refine bel_set ?_ (by first | (dsimp only; omega) | (simp; omega) | simp) _ | refine bel_trans ?_ (bel_drewN _ _) | refine bel_trans ?_ (bel_drew _) | refine bel_trans ?_ (by assumption))))⟩) (first
    | (go_at_call 72; refine HLB.out.mono ?_; rintro e w5 ⟨r5, k5, rfl, hM5, hb5⟩; have hbX := bel_trans (bel_drew w4) hb5; have c0 := cell_on c0 hbX; have c1 := cell_on c1 hbX; have c2 := cell_on c2 hbX; have c3 := cell_on c3 hbX; have y0 := cell_on y0 hbX; have y1 := cell_on y1 hbX; have y2 := cell_on y2 hbX)
    | (go_at_call 71; refine (i_at r5 oa (m + gn) k5 on oc (labS gs rows ones inp gn).1 os _ hM5.ints (HF4.out.1.o.below hbX) (by omega) HOU).mono ?_; rintro e w6 ⟨r6, k6, rfl, hM6, hb6⟩; have hbY := bel_trans hbX hb6; have c0 := cell_on c0 hb6; have c1 := cell_on c1 hb6; have c2 := cell_on c2 hb6; have c3 := cell_on c3 hb6; have y0 := cell_on y0 hb6; have y1 := cell_on y1 hb6; have y2 := cell_on y2 hb6))
  have hz5 := hb5.size
  have HM := Lib.hid (hM6.base (show w.heap.size ≤ w5.heap.size by omega))
  go_wp2
  go_ret2
  exact ⟨_, _, rfl, HM.out, bel_trans HB4.out hbY⟩
end Go.Proofs.Ytfejpmfcognikaa
namespace Go.Proofs.Ytfejpmfcognikaa
open Go.RowKit
set_option linter.unusedVariables false
set_option linter.unusedSimpArgs false
set_option maxRecDepth 100000

set_option maxHeartbeats 8000000 in
theorem i_DecodeOutsY (p q : Nat) (ga : Option Addr) (gn gc : Nat) (gs : List Int) (oa : Option Addr) (on oc : Nat) (os : List Int) (ra : Option Addr) (rn rc : Nat) (rows : List (List Int)) (na : Option Addr) (nn nc : Nat) (ones : List Int) (ca : Option Addr) (cc : Nat) (cols : List Int) (ia : Option Addr) (ic : Nat) (inp : List Int) (w : World)
    (h : Circ w ga gn gc gs oa on oc os) (hcc : circB p q gs gn os = true) (hg : GOk w gs gn on ra rn rc rows na nn nc ones ca cc cols) (hI : Ints w ia on ic inp) (hil : labs inp) :
    Calls Try.prog 19 #[.agg #[.int .i64 p, .int .i64 q, .slice ga gn gc, .slice oa on oc], .agg #[.slice ra rn rc, .slice na nn nc, .slice ca on cc], .slice ia on ic] w fun e w' => ∃ r c, e = .returned (.tuple #[.slice r on c, .bool true]) ∧ Mine w' w.heap.size r on c (xrL (colL inp) cols on) ∧ Below w.heap.size w w' := by
  have hlo := h.o.len.out; have hli := hI.len.out
  have A0 := bel_alloc w (.cells #[.int .i64 p, .int .i64 q, .slice ga gn gc, .slice oa on oc] 25)
  have g0 := B4.new (w := w) (x0 := .int .i64 p) (x1 := .int .i64 q) (x2 := .slice ga gn gc) (x3 := .slice oa on oc) (t := 25)
  have A1 := bel_alloc (w.alloc (.cells #[.int .i64 p, .int .i64 q, .slice ga gn gc, .slice oa on oc] 25)) (.cells #[.slice ra rn rc, .slice na nn nc, .slice ca on cc] 34)
  have n0 := B3.new (w := w.alloc (.cells #[.int .i64 p, .int .i64 q, .slice ga gn gc, .slice oa on oc] 25)) (x0 := .slice ra rn rc) (x1 := .slice na nn nc) (x2 := .slice ca on cc) (t := 34)
  have z0 : (w.alloc (.cells #[.int .i64 p, .int .i64 q, .slice ga gn gc, .slice oa on oc] 25)).heap.size = w.heap.size + 1 := by simp
  rw [z0] at n0
  have HB := Lib.hid (bel_trans A0 A1)
  obtain ⟨c0, c1, c2, c3⟩ := g0.on A1
  obtain ⟨y0, y1, y2⟩ := n0
  have hin := circB_in hcc
  have hGG := (circB_iff.1 hcc).2.1
  have hgn : gn ≤ 300 := by omega
  have hon : on ≤ 40 := by omega
  have HF := Lib.hid (And.intro (h.below HB.out) (And.intro (hg.below HB.out) (hI.below HB.out)))
  have HCC := Lib.hid (And.intro hcc (And.intro (labs_B.2 hil) (kindsOk.of hGG)))
  have HIL := Lib.hid hil
  clear A0 A1 g0 h hg hI hin hcc hlo hil hGG
  have HLI := Lib.hid hli; clear hli
  go_enter Try.func19, Try.ntmps19
  go_wp2_with fail
  refine (i_IsCircuit p q ga gn gc gs oa on oc os _ HF.out.1).mono ?_; rintro e w1 ⟨rfl, hb1⟩; rw [HCC.out.1]
  replace c0 := cell_on c0 hb1; replace c1 := cell_on c1 hb1; replace c2 := cell_on c2 hb1; replace c3 := cell_on c3 hb1; replace y0 := cell_on y0 hb1; replace y1 := cell_on y1 hb1; replace y2 := cell_on y2 hb1
  have HF1 := Lib.hid (And.intro (HF.out.1.below hb1) (And.intro (HF.out.2.1.below hb1) (HF.out.2.2.below hb1))); have HB1 := Lib.hid (bel_trans HB.out hb1); clear HF HB hb1
  go_wp2_with fail
  refine (i_areTablesY p q ga gn gc gs oa on oc ra rn rc rows na nn nc ones ca cc cols _ HF1.out.1.g HF1.out.2.1.R HF1.out.2.1.O HF1.out.2.1.C HCC.out.2.2 HF1.out.2.1.rl HF1.out.2.1.ol HF1.out.2.1.cl HF1.out.2.1.rn HF1.out.2.1.nn hgn).mono ?_; rintro e w2 ⟨rfl, hb2⟩
  replace c0 := cell_on c0 hb2; replace c1 := cell_on c1 hb2; replace c2 := cell_on c2 hb2; replace c3 := cell_on c3 hb2; replace y0 := cell_on y0 hb2; replace y1 := cell_on y1 hb2; replace y2 := cell_on y2 hb2
  have HF2 := Lib.hid (And.intro (HF1.out.1.below hb2) (And.intro (HF1.out.2.1.below hb2) (HF1.out.2.2.below hb2))); have HB2 := Lib.hid (bel_trans HB1.out hb2); clear HF1 HB1 hb2
  go_wp2_with fail
  refine (i_areLabels ia on ic inp _ HF2.out.2.2).mono ?_; rintro e w3 ⟨rfl, hb3⟩; rw [HCC.out.2.1]
  replace c0 := cell_on c0 hb3; replace c1 := cell_on c1 hb3; replace c2 := cell_on c2 hb3; replace c3 := cell_on c3 hb3; replace y0 := cell_on y0 hb3; replace y1 := cell_on y1 hb3; replace y2 := cell_on y2 hb3
  have HF3 := Lib.hid (And.intro (HF2.out.1.below hb3) (And.intro (HF2.out.2.1.below hb3) (HF2.out.2.2.below hb3))); have HB3 := Lib.hid (bel_trans HB2.out hb3); clear HF2 HB2 hb3
  have hz4 := HB3.out.size
  have HLB := Lib.hid (i_colours ia on ic inp w3.drew (HF3.out.2.2.below (bel_drew w3)) HIL (by omega))
  have hzd : w3.drew.heap.size = w3.heap.size := rfl
  go_wp2_with fail
  go_region_held3 (fun W => W.cell? ⟨w.heap.size + 1, 2, none⟩ = some (.slice ca on cc)) (first | exact y2 | exact cell_on y2 (by (repeat (first | exact Below.refl _ _ | assumption | refine bel_trans ?_ (bel_alloc _ _) | refine bel_set ?_ (by first | (dsimp only; omega) | (simp; omega) | simp) _ | refine bel_trans ?_ (bel_drewN _ _) | refine bel_trans ?_ (bel_drew _) | refine bel_trans ?_ (by assumption))))) (first
    | (go_at_call 74; refine HLB.out.mono ?_; rintro e w5 ⟨r5, k5, rfl, hM5, hb5⟩; have hbX := bel_trans (bel_drew w3) hb5; have y2 := cell_on y2 hbX)
    | (go_at_call 60; refine (i_xored r5 ca on on k5 cc (colL inp) cols _ hM5.ints (HF3.out.2.1.C.below hbX) (Nat.le_refl _) (by omega) (fun i hi => ⟨bit1_at (colL_bit inp) i, bit1_at (bit1.of HF3.out.2.1.cl) i⟩)).mono ?_; rintro e w6 ⟨r6, k6, rfl, hM6, hb6⟩; have hbY := bel_trans hbX hb6; have y2 := cell_on y2 hb6))
  have hz5 := hb5.size
  have HM := Lib.hid (hM6.base (show w.heap.size ≤ w5.heap.size by omega))
  go_wp2
  go_ret2
  exact ⟨_, _, rfl, HM.out, bel_trans HB3.out hbY⟩
theorem nth_colL (l : List Int) (i : Nat) : nth (colL l) i = nth l i % 2 := by
  by_cases hi : i < l.length
  · rw [nth_get (by rw [colL_len]; exact hi), nth_get hi]; simp [colL]
  · have h1 : nth (colL l) i = 0 := by unfold nth; rw [List.getD_eq_getElem?_getD, List.getElem?_eq_none (by rw [colL_len]; omega)]; rfl
    have h2 : nth l i = 0 := by unfold nth; rw [List.getD_eq_getElem?_getD, List.getElem?_eq_none (by omega)]; rfl
    rw [h1, h2]; rfl
theorem dec_law {off : Int} {Z V os : List Int} {n on : Nat} (ho : Odd off) (hz : labs Z) (hv : bit1 V) (hx : ∀ i, i < on → 0 ≤ nth os i ∧ nth os i < n) : xrL (colL (pkL (actL off Z V n) os on)) (colL (pkL Z os on)) on = pkL V os on := by
  unfold xrL
  conv => rhs; unfold pkL
  apply List.map_congr_left
  intro i hi
  have hi' := List.mem_range.1 hi
  have h := hx i hi'
  rw [nth_colL, nth_colL, nth_pkL hi', nth_pkL hi', nth_actL (by omega), lbl_par (labs_at hz _) ho (bit1_at hv _)]
  have := bit1_at hv (nth os i).toNat
  unfold xr; omega
/-- The tables that are made are valid. -/
theorem GarbM.ok {w : World} {B m gn on : Nat} {key off : Int} {gs os : List Int} {ra : Option Addr} {rc : Nat} {na : Option Addr} {nc : Nat} {ca : Option Addr} {cc : Nat} {base : Int} (h : GarbM w B ra (rowS key off gs m gn).length rc (rowS key off gs m gn) na (oneS off gs m (zerS key off gs m gn) gn).length nc (oneS off gs m (zerS key off gs m gn) gn) ca on cc (colL (pkL (zerS key off gs m gn) os on))) (ho : Odd off) (hG : gatesB base gs gn = true) (hgn : gn ≤ 300) :
    GOk w gs gn on ra (rowS key off gs m gn).length rc (rowS key off gs m gn) na (oneS off gs m (zerS key off gs m gn) gn).length nc (oneS off gs m (zerS key off gs m gn) gn) ca cc (colL (pkL (zerS key off gs m gn) os on)) := by
  obtain ⟨⟨v2, hr⟩, o, c⟩ := h
  have hle := rowS_le key off gs m gn
  obtain ⟨a, k, e, hR⟩ := hr.rws (by omega)
  simp only [Value.slice.injEq] at e; obtain ⟨rfl, -, rfl⟩ := e
  exact ⟨hR, o.ints, c.ints, rowS_rows ho gn, oneS_lab (zerS_lab gs m ho gn) ho gn, allIn_iff.2 fun i hi => inB_iff.2 (bit1_at (colL_bit _) i), rowS_len gn hG, oneS_len gn⟩
theorem GarbM.reads {w : World} {B : Nat} {ra : Option Addr} {rn rc : Nat} {rows : List (List Int)} {na : Option Addr} {nn nc : Nat} {ones : List Int} {ca : Option Addr} {cn cc : Nat} {cols : List Int} (h : GarbM w B ra rn rc rows na nn nc ones ca cn cc cols) (hn : rn ≤ 1000) : Rws w ra rn rc rows ∧ Ints w na nn nc ones ∧ Ints w ca cn cc cols := by
  obtain ⟨⟨v2, hr⟩, o, c⟩ := h
  obtain ⟨a, k, e, hR⟩ := hr.rws (by omega)
  simp only [Value.slice.injEq] at e; obtain ⟨rfl, -, rfl⟩ := e
  exact ⟨hR, o.ints, c.ints⟩
theorem GOk.at {w w' : World} {B : Nat} {gs : List Int} {gn on : Nat} {ra : Option Addr} {rn rc : Nat} {rows : List (List Int)} {na : Option Addr} {nn nc : Nat} {ones : List Int} {ca : Option Addr} {cc : Nat} {cols : List Int} (h : GOk w gs gn on ra rn rc rows na nn nc ones ca cc cols) (hM : GarbM w' B ra rn rc rows na nn nc ones ca on cc cols) (hn : rn ≤ 1000) : GOk w' gs gn on ra rn rc rows na nn nc ones ca cc cols := by
  obtain ⟨r, o, c⟩ := hM.reads hn
  exact ⟨r, o, c, h.rl, h.ol, h.cl, h.rn, h.nn⟩
theorem B4.bexZ {b g : Nat} {w w' : World} {x0 x1 x2 x3 : Value} (h : B4 w g x0 x1 x2 x3) (k : Bex b w w') (hg : g ≠ b) : B4 w' g x0 x1 x2 x3 := ⟨k.cell h.c0 hg, k.cell h.c1 hg, k.cell h.c2 hg, k.cell h.c3 hg⟩
/-- What RunGarbled computes. -/
def rgAll (i0 i1 : Int) (gs : List Int) (gn : Nat) (os : List Int) (key : Int) (us vs : List Int) : List Int × Bool := if askB i0 i1 gs gn os us vs && keyE key then (pkL (valS gs (us ++ vs) gn) os os.length, true) else ([], false)
set_option maxHeartbeats 8000000 in
theorem i_RunGarbled (i0 i1 : Int) (ga : Option Addr) (gn gc : Nat) (gs : List Int) (oa : Option Addr) (on oc : Nat) (os : List Int) (key : Int) (aa : Option Addr) (an ac : Nat) (us : List Int) (ba : Option Addr) (bn bc : Nat) (vs : List Int) (w : World) (h : Circ w ga gn gc gs oa on oc os) (ha : Ints w aa an ac us) (hb : Ints w ba bn bc vs) :
    Calls Try.prog 5 #[.agg #[.int .i64 i0, .int .i64 i1, .slice ga gn gc, .slice oa on oc], .int .i64 key, .slice aa an ac, .slice ba bn bc] w fun e w' => ∃ r c, e = .returned (.tuple #[.slice r (rgAll i0 i1 gs gn os key us vs).1.length c, .bool (rgAll i0 i1 gs gn os key us vs).2]) ∧ Mine w' w.heap.size r (rgAll i0 i1 gs gn os key us vs).1.length c (rgAll i0 i1 gs gn os key us vs).1 ∧ Below w.heap.size w w' := by
  have hlo := h.o.len.out; have hla := ha.len.out; have hlb := hb.len.out
  have A0 := bel_alloc w (.cells #[.int .i64 i0, .int .i64 i1, .slice ga gn gc, .slice oa on oc] 25)
  have g0 := B4.new (w := w) (x0 := .int .i64 i0) (x1 := .int .i64 i1) (x2 := .slice ga gn gc) (x3 := .slice oa on oc) (t := 25)
  have HW := Lib.hid (And.intro h (And.intro ha hb))
  have HO := i_OffsetFrom key (w.alloc (.cells #[.int .i64 i0, .int .i64 i1, .slice ga gn gc, .slice oa on oc] 25))
  unfold rgAll
  cases hk : keyE key with
  | false =>
    rw [hk] at HO
    rw [if_neg (by simp) ] at HO
    have HO := Lib.hid HO
    have HB := Lib.hid A0
    rw [Bool.and_false, if_neg (by simp)]
    clear A0 hk h ha hb hlo hla hlb
    go_enter Try.func5, Try.ntmps5
    go_wp2_with fail
    refine HO.out.mono ?_; rintro e w1 ⟨rfl, hb1⟩
    go_wp2
    go_ret2
    exact ⟨none, 0, rfl, Mine.nil, bel_trans HB.out hb1⟩
  | true =>
    rw [hk] at HO
    rw [if_pos rfl] at HO
    have HO := Lib.hid HO
    have HK := Lib.hid (And.intro hk (inB_iff.1 hk))
    obtain ⟨off, hoff⟩ : ∃ off, off = ofs key := ⟨_, rfl⟩
    have hodd : Odd off := hoff ▸ ofs_odd key
    rw [← hoff] at HO; clear hoff
    have HD := Lib.hid hodd
    cases hA : askB i0 i1 gs gn os us vs with
    | false =>
      have HAI := fun W (k : Below w.heap.size w W) => i_areInputs i0 i1 ga gn gc gs oa on oc os aa an ac us ba bn bc vs W (h.below k) (ha.below k) (hb.below k)
      simp only [hA] at HAI
      have HAI := Lib.hid HAI
      have HB := Lib.hid A0
      rw [Bool.false_and, if_neg (by simp)]
      obtain ⟨c0, c1, c2, c3⟩ := id g0
      clear A0 hk h ha hb hlo hla hlb hA
      go_enter Try.func5, Try.ntmps5
      go_wp2_with fail
      refine HO.out.mono ?_; rintro e w1 ⟨rfl, hb1⟩
      replace c0 := cell_on c0 hb1; replace c1 := cell_on c1 hb1; replace c2 := cell_on c2 hb1; replace c3 := cell_on c3 hb1
      have HB1 := Lib.hid (bel_trans HB.out hb1)
      go_wp2_with fail
      refine (HAI.out _ HB1.out).mono ?_; rintro e w2 ⟨rfl, hb2⟩
      go_wp2
      go_ret2
      exact ⟨none, 0, rfl, Mine.nil, bel_trans HB1.out hb2⟩
    | true =>
      obtain ⟨hcc, hu, hv, e0, e1⟩ := askB_iff.1 hA
      obtain rfl : i0 = (an : Int) := by omega
      obtain rfl : i1 = (bn : Int) := by omega
      have hin := circB_in hcc
      have hgn : gn ≤ 300 := by omega
      have hG : gatesB (((an + bn : Nat)) : Int) gs gn = true := by have := (circB_iff.1 hcc).2.1; rw [show (((an + bn : Nat)) : Int) = (an : Int) + (bn : Int) by omega]; exact this
      have hxx := (outs_in hcc (n := an + bn + gn) (by omega)).out
      rw [hlo] at hxx
      have hbv : bit1 (us ++ vs) := fun x hx => (List.mem_append.1 hx).elim (bit1.of hu x) (bit1.of hv x)
      obtain ⟨tr, to_, _, _, hlab⟩ := eval_law (key := key) (m := an + bn) hodd hbv (by rw [List.length_append]; omega) hG gn (Nat.le_refl _)
      have hdec := dec_law (off := off) (Z := zerS key off gs (an + bn) gn) (V := valS gs (us ++ vs) gn) (os := os) (n := an + bn + gn) (on := on) hodd (zerS_lab gs (an + bn) hodd gn) (valS_bit hbv gn) hxx
      have hll : labs (actL off (inpZ key (an + bn)) (us ++ vs) (an + bn)) := actL_lab _ hodd (inpZ_lab _ _) hbv
      have hlk : labs (actL off (zerS key off gs (an + bn) gn) (valS gs (us ++ vs) gn) (an + bn + gn)) := actL_lab _ hodd (zerS_lab gs _ hodd gn) (valS_bit hbv gn)
      have HL := Lib.hid (And.intro hlab (And.intro hdec (And.intro hll hlk)))
      have HC := Lib.hid (And.intro hcc (And.intro hA hG))
      have HAI := fun W (k : Below w.heap.size w W) => i_areInputs an bn ga gn gc gs oa on oc os aa an ac us ba bn bc vs W (h.below k) (ha.below k) (hb.below k)
      simp only [hA] at HAI
      have HAI := Lib.hid HAI
      have HB := Lib.hid A0
      rw [Bool.true_and, if_pos rfl, hlo]
      dsimp only
      rw [pkL_len]
      obtain ⟨c0, c1, c2, c3⟩ := id g0
      clear A0 hk h ha hb hla hlb hA hcc hu hv e0 e1 hin hG hxx hbv hlab hdec hll hlk hodd
      go_enter Try.func5, Try.ntmps5
      go_wp2_with fail
      refine HO.out.mono ?_; rintro e w1 ⟨rfl, hb1⟩
      replace c0 := cell_on c0 hb1; replace c1 := cell_on c1 hb1; replace c2 := cell_on c2 hb1; replace c3 := cell_on c3 hb1
      have HB1 := Lib.hid (bel_trans HB.out hb1)
      clear hb1 HO HB
      go_wp2_with fail
      refine (HAI.out _ HB1.out).mono ?_; rintro e w2 ⟨rfl, hb2⟩
      have G2 := (show B4 w1 w.heap.size _ _ _ _ from ⟨c0, c1, c2, c3⟩).on hb2
      have HB2 := Lib.hid (bel_trans (bel_trans HB1.out hb2) (bel_drew w2))
      have HG2 := Lib.hid (G2.on (bel_drew w2))
      have hbz := hb2
      clear c0 c1 c2 c3 HAI G2
      obtain ⟨d0, d1, d2, d3⟩ := id HG2.out
      have hB2 : Below w.heap.size w w2 := bel_trans HB1.out hbz
      have hW1 := HW.out.1
      obtain ⟨q0, q1, q2, q3⟩ := (show B4 w2 w.heap.size _ _ _ _ from ⟨d0, d1, d2, d3⟩)
      have A2 := bel_alloc w2 (.cells #[.int .i64 off] 3)
      have A3 := bel_alloc w2 (.cells #[.slice none 0 0, .slice none 0 0, .slice none 0 0] 34)
      have A4 := bel_alloc (w2.alloc (.cells #[.slice none 0 0, .slice none 0 0, .slice none 0 0] 34)) (.cells #[.int .i64 off] 3)
      have A5 := bel_alloc (w2.alloc (.cells #[.int .i64 off] 3)) (.cells #[.slice none 0 0, .slice none 0 0, .slice none 0 0] 34)
      obtain ⟨f0, f1, f2, f3⟩ := (show B4 w2 w.heap.size _ _ _ _ from ⟨q0, q1, q2, q3⟩).on A2
      obtain ⟨h0, h1, h2, h3⟩ := (show B4 w2 w.heap.size _ _ _ _ from ⟨q0, q1, q2, q3⟩).on A3
      obtain ⟨i0, i1, i2, i3⟩ := (show B4 _ w.heap.size _ _ _ _ from ⟨h0, h1, h2, h3⟩).on A4
      obtain ⟨j0, j1, j2, j3⟩ := (show B4 _ w.heap.size _ _ _ _ from ⟨f0, f1, f2, f3⟩).on A5
      have fo1 : (w2.alloc (.cells #[.int .i64 off] 3)).cell? ⟨w2.heap.size, 0, none⟩ = some (.int .i64 off) := World.cell?_alloc_at _ _ _ _ rfl
      have hs1 : (w2.alloc (.cells #[.slice none 0 0, .slice none 0 0, .slice none 0 0] 34)).heap.size = w2.heap.size + 1 := by simp
      have fo2 : ((w2.alloc (.cells #[.slice none 0 0, .slice none 0 0, .slice none 0 0] 34)).alloc (.cells #[.int .i64 off] 3)).cell? ⟨w2.heap.size + 1, 0, none⟩ = some (.int .i64 off) := by rw [← hs1]; exact World.cell?_alloc_at _ _ _ _ rfl
      have fo3 : ((w2.alloc (.cells #[.int .i64 off] 3)).alloc (.cells #[.slice none 0 0, .slice none 0 0, .slice none 0 0] 34)).cell? ⟨w2.heap.size, 0, none⟩ = some (.int .i64 off) := cell_on fo1 A5
      have n2 : N3 ((w2.alloc (.cells #[.int .i64 off] 3)).alloc (.cells #[.slice none 0 0, .slice none 0 0, .slice none 0 0] 34)).drew (w2.heap.size + 1) := by
        have := (N3.new (w := w2.alloc (.cells #[.int .i64 off] 3)) (t := 34)).below (bel_drew _)
        rw [show (w2.alloc (.cells #[.int .i64 off] 3)).heap.size = w2.heap.size + 1 by simp] at this
        exact this
      have n3 : N3 ((w2.alloc (.cells #[.slice none 0 0, .slice none 0 0, .slice none 0 0] 34)).alloc (.cells #[.int .i64 off] 3)).drew w2.heap.size := ((N3.new (w := w2) (t := 34)).below A4).below (bel_drew _)
      have z2 : ((w2.alloc (.cells #[.int .i64 off] 3)).alloc (.cells #[.slice none 0 0, .slice none 0 0, .slice none 0 0] 34)).drew.heap.size = w2.heap.size + 2 := by show ((w2.alloc (.cells #[.int .i64 off] 3)).alloc (.cells #[.slice none 0 0, .slice none 0 0, .slice none 0 0] 34)).heap.size = _; simp
      have z3 : ((w2.alloc (.cells #[.slice none 0 0, .slice none 0 0, .slice none 0 0] 34)).alloc (.cells #[.int .i64 off] 3)).drew.heap.size = w2.heap.size + 2 := by show ((w2.alloc (.cells #[.slice none 0 0, .slice none 0 0, .slice none 0 0] 34)).alloc (.cells #[.int .i64 off] 3)).heap.size = _; simp
      have hw02 : w.heap.size ≤ w2.heap.size := hB2.size
      have HN2 := Lib.hid n2; have HN3 := Lib.hid n3; have HZ2 := Lib.hid z2; have HZ3 := Lib.hid z3; clear n2 n3 z2 z3
      have t1 : Below w.heap.size w (w2.alloc (.cells #[.int .i64 off] 3)).drew := bel_trans (bel_trans hB2 A2) (bel_drew _)
      have t2 : Below w.heap.size w ((w2.alloc (.cells #[.slice none 0 0, .slice none 0 0, .slice none 0 0] 34)).alloc (.cells #[.int .i64 off] 3)).drew := bel_trans (bel_trans (bel_trans hB2 A3) A4) (bel_drew _)
      have t3 : Below w.heap.size w ((w2.alloc (.cells #[.int .i64 off] 3)).alloc (.cells #[.slice none 0 0, .slice none 0 0, .slice none 0 0] 34)).drew := bel_trans (bel_trans (bel_trans hB2 A2) A5) (bel_drew _)
      go_wp2_with fail
      go_region_law (first
        | (go_simp; go_at_call 36; refine (i_garbledAnd off _).mono ?_; rintro e wA ⟨rfl, rfl⟩)
        | (go_simp; go_at_call 35; refine (i_tables an bn ga gn gc gs oa on oc os key off _ _ (hW1.below (by first | exact t1 | exact t2 | exact t3)) HC.out.1 (by first | exact fo1 | exact fo2 | exact fo3) HK.out.2 HD.out).mono ?_; rintro e w5 ⟨ra, rc, na, nc, ca, cc, rfl, hM, hb5⟩; have HMok := Lib.hid (hM.ok HD.out HC.out.2.2 hgn); have HM := Lib.hid hM; clear hM; have hle := Lib.hid (rowS_le key off gs (an + bn) gn); generalize (rowS key off gs (an + bn) gn).length = rn at HMok HM hle ⊢; generalize (oneS off gs (an + bn) (zerS key off gs (an + bn) gn) gn).length = nn at HMok HM ⊢; have HB5 := Lib.hid (bel_trans (by first | exact t1 | exact t2 | exact t3) hb5); have G5 := Lib.hid (show B4 w5 w.heap.size _ _ _ _ from ⟨cell_on (by first | exact f0 | exact i0 | exact j0) hb5, cell_on (by first | exact f1 | exact i1 | exact j1) hb5, cell_on (by first | exact f2 | exact i2 | exact j2) hb5, cell_on (by first | exact f3 | exact i3 | exact j3) hb5⟩); first | (have N5 := HN2.out.below hb5; have HN5 := Lib.hid N5; obtain ⟨n0, n1, n2, m0, m1, m2⟩ := N5) | (have N5 := HN3.out.below hb5; have HN5 := Lib.hid N5; obtain ⟨n0, n1, n2, m0, m1, m2⟩ := N5) | skip; have hb5 := Lib.hid hb5; clear A2 A3 A4 A5 t1 t2 t3 fo1 fo2 fo3 hs1 f0 f1 f2 f3 i0 i1 i2 i3 j0 j1 j2 j3 h0 h1 h2 h3 q0 q1 q2 q3 d0 d1 d2 d3))
      all_goals
        clear HO HAI HB1 hB2 hbz hb2
        first
        | (have A6 := bel_alloc w5 (.cells #[.slice ra rn rc, .slice na nn nc, .slice ca on cc] 34)
           have T6 := B3.new (w := w5) (x0 := .slice ra rn rc) (x1 := .slice na nn nc) (x2 := .slice ca on cc) (t := 34)
           have HOK := Lib.hid (HMok.out.below A6)
           have HB6 := Lib.hid (bel_trans HB5.out A6)
           obtain ⟨c0, c1, c2, c3⟩ := G5.out.on A6
           obtain ⟨y0, y1, y2⟩ := T6
           clear A6 HMok HM HB5 G5 hb5
           go_wp2_with fail
           refine (i_InputLabels an bn ga gn gc gs oa on oc os key off aa an ac us ba bn bc vs _ (HW.out.1.below HB6.out) (HW.out.2.1.below HB6.out) (HW.out.2.2.below HB6.out) HC.out.2.1 HK.out.1 HD.out).mono ?_; rintro e w7 ⟨r7, k7, rfl, hM7, hb7⟩
           replace c0 := cell_on c0 hb7; replace c1 := cell_on c1 hb7; replace c2 := cell_on c2 hb7; replace c3 := cell_on c3 hb7; replace y0 := cell_on y0 hb7; replace y1 := cell_on y1 hb7; replace y2 := cell_on y2 hb7
           have HOK7 := Lib.hid (HOK.out.below hb7); have HB7 := Lib.hid (bel_trans HB6.out hb7); have HI7 := Lib.hid hM7.ints
           clear hM7 hb7 HOK HB6
           go_wp2_with fail
           refine (i_EvalGarbledY an bn ga gn gc gs oa on oc os ra rn rc _ na nn nc _ ca cc _ r7 (an + bn) k7 _ _ (HW.out.1.below HB7.out) HC.out.1 HOK7.out HI7.out HL.out.2.2.1 rfl).mono ?_; rintro e w8 ⟨r8, k8, rfl, hM8, hb8⟩
           rw [HL.out.1] at hM8
           dsimp only at hM8
           replace c0 := cell_on c0 hb8; replace c1 := cell_on c1 hb8; replace c2 := cell_on c2 hb8; replace c3 := cell_on c3 hb8; replace y0 := cell_on y0 hb8; replace y1 := cell_on y1 hb8; replace y2 := cell_on y2 hb8
           have HOK8 := Lib.hid (HOK7.out.below hb8); have HB8 := Lib.hid (bel_trans HB7.out hb8); have HI8 := Lib.hid hM8.ints
           clear hM8 hb8 HOK7 HB7 HI7
           go_wp2_with fail
           refine (i_DecodeOutsY an bn ga gn gc gs oa on oc os ra rn rc _ na nn nc _ ca cc _ r8 k8 _ _ (HW.out.1.below HB8.out) HC.out.1 HOK8.out HI8.out (pkL_labs HL.out.2.2.2 os on)).mono ?_; rintro e w9 ⟨r9, k9, rfl, hM9, hb9⟩
           rw [HL.out.2.1] at hM9
           have HM9 := Lib.hid (hM9.base (show w.heap.size ≤ w8.heap.size from HB8.out.size)); have HB9 := Lib.hid (bel_trans HB8.out hb9)
           clear hM9 hb9
           go_wp2
           go_ret2
           exact ⟨_, _, rfl, HM9.out, HB9.out⟩)
        | (have kx := Bex.only3 (g := w2.heap.size + 1) w5 (.slice ra rn rc) (.slice na nn nc) (.slice ca on cc)
           have hwl := HG2.out.lt
           have hdz : w2.drew.heap.size = w2.heap.size := rfl
           have HOK := Lib.hid (HMok.out.at (HM.out.bex kx (by first | (rw [HZ2.out]; omega) | (rw [HZ3.out]; omega))) (by have := hle.out; omega))
           have HB6 := Lib.hid (bel_set3 HB5.out (show w.heap.size ≤ w2.heap.size + 1 by omega) (.slice ra rn rc) (.slice na nn nc) (.slice ca on cc))
           obtain ⟨y0, y1, y2⟩ := HN5.out.set (.slice ra rn rc) (.slice na nn nc) (.slice ca on cc)
           obtain ⟨c0, c1, c2, c3⟩ := G5.out.bexZ kx (by omega)
           obtain ⟨W6, hW6⟩ : ∃ X, (((w5.setCell ⟨w2.heap.size + 1, 0, none⟩ (.slice ra rn rc)).setCell ⟨w2.heap.size + 1, 1, none⟩ (.slice na nn nc)).setCell ⟨w2.heap.size + 1, 2, none⟩ (.slice ca on cc)) = X := ⟨_, rfl⟩
           rw [hW6] at HOK HB6 y0 y1 y2 c0 c1 c2 c3
           clear kx hwl hdz HMok HM HB5 G5 hb5 n0 n1 n2 m0 m1 m2 HN5
           go_wp2_with fail
           refine (i_InputLabels an bn ga gn gc gs oa on oc os key off aa an ac us ba bn bc vs _ (HW.out.1.below HB6.out) (HW.out.2.1.below HB6.out) (HW.out.2.2.below HB6.out) HC.out.2.1 HK.out.1 HD.out).mono ?_; rintro e w7 ⟨r7, k7, rfl, hM7, hb7⟩
           replace c0 := cell_on c0 hb7; replace c1 := cell_on c1 hb7; replace c2 := cell_on c2 hb7; replace c3 := cell_on c3 hb7; replace y0 := cell_on y0 hb7; replace y1 := cell_on y1 hb7; replace y2 := cell_on y2 hb7
           have HOK7 := Lib.hid (HOK.out.below hb7); have HB7 := Lib.hid (bel_trans HB6.out hb7); have HI7 := Lib.hid hM7.ints
           clear hM7 hb7 HOK HB6
           go_wp2_with fail
           refine (i_EvalGarbledY an bn ga gn gc gs oa on oc os ra rn rc _ na nn nc _ ca cc _ r7 (an + bn) k7 _ _ (HW.out.1.below HB7.out) HC.out.1 HOK7.out HI7.out HL.out.2.2.1 rfl).mono ?_; rintro e w8 ⟨r8, k8, rfl, hM8, hb8⟩
           rw [HL.out.1] at hM8
           dsimp only at hM8
           replace c0 := cell_on c0 hb8; replace c1 := cell_on c1 hb8; replace c2 := cell_on c2 hb8; replace c3 := cell_on c3 hb8; replace y0 := cell_on y0 hb8; replace y1 := cell_on y1 hb8; replace y2 := cell_on y2 hb8
           have HOK8 := Lib.hid (HOK7.out.below hb8); have HB8 := Lib.hid (bel_trans HB7.out hb8); have HI8 := Lib.hid hM8.ints
           clear hM8 hb8 HOK7 HB7 HI7
           go_wp2_with fail
           refine (i_DecodeOutsY an bn ga gn gc gs oa on oc os ra rn rc _ na nn nc _ ca cc _ r8 k8 _ _ (HW.out.1.below HB8.out) HC.out.1 HOK8.out HI8.out (pkL_labs HL.out.2.2.2 os on)).mono ?_; rintro e w9 ⟨r9, k9, rfl, hM9, hb9⟩
           rw [HL.out.2.1] at hM9
           have HM9 := Lib.hid (hM9.base (show w.heap.size ≤ w8.heap.size from HB8.out.size)); have HB9 := Lib.hid (bel_trans HB8.out hb9)
           clear hM9 hb9
           go_wp2
           go_ret2
           exact ⟨_, _, rfl, HM9.out, HB9.out⟩)
        | (have kx := Bex.only3 (g := w2.heap.size) w5 (.slice ra rn rc) (.slice na nn nc) (.slice ca on cc)
           have hwl := HG2.out.lt
           have hdz : w2.drew.heap.size = w2.heap.size := rfl
           have HOK := Lib.hid (HMok.out.at (HM.out.bex kx (by first | (rw [HZ2.out]; omega) | (rw [HZ3.out]; omega))) (by have := hle.out; omega))
           have HB6 := Lib.hid (bel_set3 HB5.out (show w.heap.size ≤ w2.heap.size by omega) (.slice ra rn rc) (.slice na nn nc) (.slice ca on cc))
           obtain ⟨y0, y1, y2⟩ := HN5.out.set (.slice ra rn rc) (.slice na nn nc) (.slice ca on cc)
           obtain ⟨c0, c1, c2, c3⟩ := G5.out.bexZ kx (by omega)
           obtain ⟨W6, hW6⟩ : ∃ X, (((w5.setCell ⟨w2.heap.size, 0, none⟩ (.slice ra rn rc)).setCell ⟨w2.heap.size, 1, none⟩ (.slice na nn nc)).setCell ⟨w2.heap.size, 2, none⟩ (.slice ca on cc)) = X := ⟨_, rfl⟩
           rw [hW6] at HOK HB6 y0 y1 y2 c0 c1 c2 c3
           clear kx hwl hdz HMok HM HB5 G5 hb5 n0 n1 n2 m0 m1 m2 HN5
           go_wp2_with fail
           refine (i_InputLabels an bn ga gn gc gs oa on oc os key off aa an ac us ba bn bc vs _ (HW.out.1.below HB6.out) (HW.out.2.1.below HB6.out) (HW.out.2.2.below HB6.out) HC.out.2.1 HK.out.1 HD.out).mono ?_; rintro e w7 ⟨r7, k7, rfl, hM7, hb7⟩
           replace c0 := cell_on c0 hb7; replace c1 := cell_on c1 hb7; replace c2 := cell_on c2 hb7; replace c3 := cell_on c3 hb7; replace y0 := cell_on y0 hb7; replace y1 := cell_on y1 hb7; replace y2 := cell_on y2 hb7
           have HOK7 := Lib.hid (HOK.out.below hb7); have HB7 := Lib.hid (bel_trans HB6.out hb7); have HI7 := Lib.hid hM7.ints
           clear hM7 hb7 HOK HB6
           go_wp2_with fail
           refine (i_EvalGarbledY an bn ga gn gc gs oa on oc os ra rn rc _ na nn nc _ ca cc _ r7 (an + bn) k7 _ _ (HW.out.1.below HB7.out) HC.out.1 HOK7.out HI7.out HL.out.2.2.1 rfl).mono ?_; rintro e w8 ⟨r8, k8, rfl, hM8, hb8⟩
           rw [HL.out.1] at hM8
           dsimp only at hM8
           replace c0 := cell_on c0 hb8; replace c1 := cell_on c1 hb8; replace c2 := cell_on c2 hb8; replace c3 := cell_on c3 hb8; replace y0 := cell_on y0 hb8; replace y1 := cell_on y1 hb8; replace y2 := cell_on y2 hb8
           have HOK8 := Lib.hid (HOK7.out.below hb8); have HB8 := Lib.hid (bel_trans HB7.out hb8); have HI8 := Lib.hid hM8.ints
           clear hM8 hb8 HOK7 HB7 HI7
           go_wp2_with fail
           refine (i_DecodeOutsY an bn ga gn gc gs oa on oc os ra rn rc _ na nn nc _ ca cc _ r8 k8 _ _ (HW.out.1.below HB8.out) HC.out.1 HOK8.out HI8.out (pkL_labs HL.out.2.2.2 os on)).mono ?_; rintro e w9 ⟨r9, k9, rfl, hM9, hb9⟩
           rw [HL.out.2.1] at hM9
           have HM9 := Lib.hid (hM9.base (show w.heap.size ≤ w8.heap.size from HB8.out.size)); have HB9 := Lib.hid (bel_trans HB8.out hb9)
           clear hM9 hb9
           go_wp2
           go_ret2
           exact ⟨_, _, rfl, HM9.out, HB9.out⟩)
end Go.Proofs.Ytfejpmfcognikaa
namespace Go.Proofs.Ytfejpmfcognikaa
open Go.RowKit
set_option linter.unusedVariables false
set_option linter.unusedSimpArgs false
set_option maxRecDepth 10000

set_option maxHeartbeats 4000000 in
theorem i_IsCircuitBig (i0 i1 : Int) (ga : Option Addr) (gn gc : Nat) (oa : Option Addr) (on oc : Nat) (w : World) (hgn : gn ≤ 1048576) (hon : 40 < on) (hos : on ≤ 9223372036854775807) :
    Calls Try.prog 68 #[.agg #[.int .i64 i0, .int .i64 i1, .slice ga gn gc, .slice oa on oc]] w fun e w' => e = .returned (.bool false) ∧ Below w.heap.size w w' := by
  have A0 := bel_alloc w (.cells #[.int .i64 i0, .int .i64 i1, .slice ga gn gc, .slice oa on oc] 25)
  have g0 := B4.new (w := w) (x0 := .int .i64 i0) (x1 := .int .i64 i1) (x2 := .slice ga gn gc) (x3 := .slice oa on oc) (t := 25)
  obtain ⟨c0, c1, c2, c3⟩ := g0
  cases ha : inB i0 0 20 with
  | false =>
    go_enter Try.func68, Try.ntmps68
    go_wp2_with (go_at_call 49; refine (i_within _ _ _ _).mono ?_; rintro e w1 ⟨rfl, rfl⟩)
    go_ret
    exact ⟨by first | rfl | simp, A0⟩
  | true =>
    cases hb : inB i1 0 20 with
    | false =>
      go_enter Try.func68, Try.ntmps68
      go_wp2_with (go_at_call 49; refine (i_within _ _ _ _).mono ?_; rintro e w1 ⟨rfl, rfl⟩)
      go_ret
      exact ⟨by first | rfl | simp, A0⟩
    | true =>
      by_cases hn : gn ≤ 300
      · have n1 : ¬ (300 : Int) < (gn : Int) := by omega
        have n2 : (40 : Int) < (on : Int) := by omega
        go_enter Try.func68, Try.ntmps68
        go_wp2_with (go_at_call 49; refine (i_within _ _ _ _).mono ?_; rintro e w1 ⟨rfl, rfl⟩)
        go_ret
        exact ⟨by first | rfl | simp, A0⟩
      · have n1 : (300 : Int) < (gn : Int) := by omega
        go_enter Try.func68, Try.ntmps68
        go_wp2_with (go_at_call 49; refine (i_within _ _ _ _).mono ?_; rintro e w1 ⟨rfl, rfl⟩)
        go_ret
        exact ⟨by first | rfl | simp, A0⟩
set_option maxHeartbeats 4000000 in
theorem s_ciGoodBig (i0 i1 : Int) (ga : Option Addr) (gn gc : Nat) (oa : Option Addr) (on oc : Nat) (w : World) (hgn : gn ≤ 1048576) (hon : 40 < on) (hos : on ≤ 9223372036854775807) :
    Calls Try.prog 103 #[.agg #[.int .i64 i0, .int .i64 i1, .slice ga gn gc, .slice oa on oc]] w fun e w' => e = .returned (.bool false) ∧ Below w.heap.size w w' := by
  have A0 := bel_alloc w (.cells #[.int .i64 i0, .int .i64 i1, .slice ga gn gc, .slice oa on oc] 25)
  have g0 := B4.new (w := w) (x0 := .int .i64 i0) (x1 := .int .i64 i1) (x2 := .slice ga gn gc) (x3 := .slice oa on oc) (t := 25)
  obtain ⟨c0, c1, c2, c3⟩ := g0
  cases ha : inB i0 0 20 with
  | false =>
    go_enter Try.func103, Try.ntmps103
    go_wp2_with (go_at_call 87; refine (s_l1In _ _ _ _).mono ?_; rintro e w1 ⟨rfl, rfl⟩)
    go_ret
    exact ⟨by first | rfl | simp, A0⟩
  | true =>
    cases hb : inB i1 0 20 with
    | false =>
      go_enter Try.func103, Try.ntmps103
      go_wp2_with (go_at_call 87; refine (s_l1In _ _ _ _).mono ?_; rintro e w1 ⟨rfl, rfl⟩)
      go_ret
      exact ⟨by first | rfl | simp, A0⟩
    | true =>
      by_cases hn : gn ≤ 300
      · have n1 : ¬ (300 : Int) < (gn : Int) := by omega
        have n2 : (40 : Int) < (on : Int) := by omega
        go_enter Try.func103, Try.ntmps103
        go_wp2_with (go_at_call 87; refine (s_l1In _ _ _ _).mono ?_; rintro e w1 ⟨rfl, rfl⟩)
        go_ret
        exact ⟨by first | rfl | simp, A0⟩
      · have n1 : (300 : Int) < (gn : Int) := by omega
        go_enter Try.func103, Try.ntmps103
        go_wp2_with (go_at_call 87; refine (s_l1In _ _ _ _).mono ?_; rintro e w1 ⟨rfl, rfl⟩)
        go_ret
        exact ⟨by first | rfl | simp, A0⟩
set_option maxHeartbeats 2000000 in
theorem i_areInputsBig (i0 i1 : Int) (ga : Option Addr) (gn gc : Nat) (oa : Option Addr) (on oc : Nat) (aa : Option Addr) (an ac : Nat) (ba : Option Addr) (bn bc : Nat) (w : World) (hgn : gn ≤ 1048576) (hon : 40 < on) (hos : on ≤ 9223372036854775807) :
    Calls Try.prog 34 #[.agg #[.int .i64 i0, .int .i64 i1, .slice ga gn gc, .slice oa on oc], .slice aa an ac, .slice ba bn bc] w fun e w' => e = .returned (.bool false) ∧ Below w.heap.size w w' := by
  have A0 := bel_alloc w (.cells #[.int .i64 i0, .int .i64 i1, .slice ga gn gc, .slice oa on oc] 25)
  have g0 := B4.new (w := w) (x0 := .int .i64 i0) (x1 := .int .i64 i1) (x2 := .slice ga gn gc) (x3 := .slice oa on oc) (t := 25)
  obtain ⟨c0, c1, c2, c3⟩ := g0
  have HC := Lib.hid (i_IsCircuitBig i0 i1 ga gn gc oa on oc (w.alloc (.cells #[.int .i64 i0, .int .i64 i1, .slice ga gn gc, .slice oa on oc] 25)) hgn hon hos)
  go_enter Try.func34, Try.ntmps34
  go_wp2_with fail
  refine HC.out.mono ?_; rintro e w1 ⟨rfl, hb1⟩
  go_wp2
  go_ret
  exact ⟨rfl, bel_trans A0 hb1⟩
set_option maxHeartbeats 2000000 in
theorem s_ciAskedBig (i0 i1 : Int) (ga : Option Addr) (gn gc : Nat) (oa : Option Addr) (on oc : Nat) (aa : Option Addr) (an ac : Nat) (ba : Option Addr) (bn bc : Nat) (w : World) (hgn : gn ≤ 1048576) (hon : 40 < on) (hos : on ≤ 9223372036854775807) :
    Calls Try.prog 38 #[.agg #[.int .i64 i0, .int .i64 i1, .slice ga gn gc, .slice oa on oc], .slice aa an ac, .slice ba bn bc] w fun e w' => e = .returned (.bool false) ∧ Below w.heap.size w w' := by
  have A0 := bel_alloc w (.cells #[.int .i64 i0, .int .i64 i1, .slice ga gn gc, .slice oa on oc] 25)
  have g0 := B4.new (w := w) (x0 := .int .i64 i0) (x1 := .int .i64 i1) (x2 := .slice ga gn gc) (x3 := .slice oa on oc) (t := 25)
  obtain ⟨c0, c1, c2, c3⟩ := g0
  have HC := Lib.hid (s_ciGoodBig i0 i1 ga gn gc oa on oc (w.alloc (.cells #[.int .i64 i0, .int .i64 i1, .slice ga gn gc, .slice oa on oc] 25)) hgn hon hos)
  go_enter Try.func38, Try.ntmps38
  go_wp2_with fail
  refine HC.out.mono ?_; rintro e w1 ⟨rfl, hb1⟩
  go_wp2
  go_ret
  exact ⟨rfl, bel_trans A0 hb1⟩
set_option maxHeartbeats 2000000 in
theorem i_RunGarbledBig (i0 i1 : Int) (ga : Option Addr) (gn gc : Nat) (oa : Option Addr) (on oc : Nat) (key : Int) (aa : Option Addr) (an ac : Nat) (ba : Option Addr) (bn bc : Nat) (w : World) (hgn : gn ≤ 1048576) (hon : 40 < on) (hos : on ≤ 9223372036854775807) :
    Calls Try.prog 5 #[.agg #[.int .i64 i0, .int .i64 i1, .slice ga gn gc, .slice oa on oc], .int .i64 key, .slice aa an ac, .slice ba bn bc] w fun e w' => e = .returned (.tuple #[.slice none 0 0, .bool false]) ∧ Below w.heap.size w w' := by
  have A0 := bel_alloc w (.cells #[.int .i64 i0, .int .i64 i1, .slice ga gn gc, .slice oa on oc] 25)
  have g0 := B4.new (w := w) (x0 := .int .i64 i0) (x1 := .int .i64 i1) (x2 := .slice ga gn gc) (x3 := .slice oa on oc) (t := 25)
  obtain ⟨c0, c1, c2, c3⟩ := id g0
  have HO := i_OffsetFrom key (w.alloc (.cells #[.int .i64 i0, .int .i64 i1, .slice ga gn gc, .slice oa on oc] 25))
  cases hk : keyE key with
  | false =>
    rw [hk] at HO
    have HO := Lib.hid HO
    go_enter Try.func5, Try.ntmps5
    go_wp2_with fail
    refine HO.out.mono ?_; rintro e w1 ⟨rfl, hb1⟩
    go_wp2
    go_ret2
    exact ⟨rfl, bel_trans A0 hb1⟩
  | true =>
    rw [hk] at HO
    have HO := Lib.hid HO
    go_enter Try.func5, Try.ntmps5
    go_wp2_with fail
    refine HO.out.mono ?_; rintro e w1 ⟨rfl, hb1⟩
    replace c0 := cell_on c0 hb1; replace c1 := cell_on c1 hb1; replace c2 := cell_on c2 hb1; replace c3 := cell_on c3 hb1
    go_wp2_with fail
    refine (i_areInputsBig i0 i1 ga gn gc oa on oc aa an ac ba bn bc _ hgn hon hos).mono ?_; rintro e w2 ⟨rfl, hb2⟩
    go_wp2
    go_ret2
    exact ⟨rfl, bel_trans (bel_trans A0 hb1) hb2⟩
set_option maxHeartbeats 2000000 in
theorem s_EvalCircuitBig (i0 i1 : Int) (ga : Option Addr) (gn gc : Nat) (oa : Option Addr) (on oc : Nat) (aa : Option Addr) (an ac : Nat) (ba : Option Addr) (bn bc : Nat) (w : World) (hgn : gn ≤ 1048576) (hon : 40 < on) (hos : on ≤ 9223372036854775807) :
    Calls Try.prog 6 #[.agg #[.int .i64 i0, .int .i64 i1, .slice ga gn gc, .slice oa on oc], .slice aa an ac, .slice ba bn bc] w fun e w' => e = .returned (.tuple #[.slice none 0 0, .bool false]) ∧ Below w.heap.size w w' := by
  have A0 := bel_alloc w (.cells #[.int .i64 i0, .int .i64 i1, .slice ga gn gc, .slice oa on oc] 25)
  have g0 := B4.new (w := w) (x0 := .int .i64 i0) (x1 := .int .i64 i1) (x2 := .slice ga gn gc) (x3 := .slice oa on oc) (t := 25)
  obtain ⟨c0, c1, c2, c3⟩ := g0
  have HC := Lib.hid (s_ciAskedBig i0 i1 ga gn gc oa on oc aa an ac ba bn bc (w.alloc (.cells #[.int .i64 i0, .int .i64 i1, .slice ga gn gc, .slice oa on oc] 25)) hgn hon hos)
  go_enter Try.func6, Try.ntmps6
  go_wp2_with fail
  refine HC.out.mono ?_; rintro e w1 ⟨rfl, hb1⟩
  go_wp2
  go_ret2
  exact ⟨rfl, bel_trans A0 hb1⟩
set_option maxHeartbeats 2000000 in
theorem s_ciOutsY (p q : Nat) (ga : Option Addr) (gn gc : Nat) (gs : List Int) (oa : Option Addr) (on oc : Nat) (os : List Int) (ia : Option Addr) (m ic : Nat) (inp : List Int) (w : World) (h : Circ w ga gn gc gs oa on oc os) (hcc : circB p q gs gn os = true) (hI : Ints w ia m ic inp) (hb : bit1 inp) (hm : m = p + q) :
    Calls Try.prog 39 #[.agg #[.int .i64 p, .int .i64 q, .slice ga gn gc, .slice oa on oc], .slice ia m ic] w fun e w' => ∃ r c, e = .returned (.slice r on c) ∧ Mine w' w.heap.size r on c (pkL (valS gs inp gn) os on) ∧ Below w.heap.size w w' := by
  have hlo := h.o.len.out
  have A0 := bel_alloc w (.cells #[.int .i64 p, .int .i64 q, .slice ga gn gc, .slice oa on oc] 25)
  have g0 := B4.new (w := w) (x0 := .int .i64 p) (x1 := .int .i64 q) (x2 := .slice ga gn gc) (x3 := .slice oa on oc) (t := 25)
  obtain ⟨c0, c1, c2, c3⟩ := g0
  have hin := circB_in hcc
  have hG : Hid (gatesB (m : Int) gs gn = true) := by have := (circB_iff.1 hcc).2.1; show _ = _; rw [show (m : Int) = (p : Int) + (q : Int) by omega]; exact this
  have HOU := outs_in hcc (n := m + gn) (by omega)
  rw [hlo] at HOU
  have hs : m + gn ≤ 100000 := by omega
  have hon : on ≤ 100000 := by omega
  have HV := Lib.hid (s_ciValues p q ga gn gc gs oa on oc os ia m ic inp _ ((h.below A0).below (bel_drew _)) ((hI.below A0).below (bel_drew _)) hG hb hs)
  have HF := Lib.hid (And.intro (h.below A0) A0)
  have hz0 := A0.size
  clear A0 h hcc hI hin hlo hb hm
  go_enter Try.func39, Try.ntmps39
  go_wp2_with fail
  go_region_held3 (fun W => W.cell? ⟨w.heap.size, 0, none⟩ = some (.int .i64 p) ∧ W.cell? ⟨w.heap.size, 1, none⟩ = some (.int .i64 q) ∧ W.cell? ⟨w.heap.size, 2, none⟩ = some (.slice ga gn gc) ∧ W.cell? ⟨w.heap.size, 3, none⟩ = some (.slice oa on oc)) (first | exact ⟨c0, c1, c2, c3⟩ | exact ⟨cell_on c0 (by (repeat (first | exact Below.refl _ _ | assumption | refine bel_trans ?_ (bel_alloc _ _) | refine bel_set ?_ (by first | (dsimp only; omega) | (simp; omega) | simp) _ | refine bel_trans ?_ (bel_drewN _ _) | refine bel_trans ?_ (bel_drew _) | refine bel_trans ?_ (by assumption)))), cell_on c1 (by (repeat (first | exact Below.refl _ _ | assumption | refine bel_trans ?_ (bel_alloc _ _) | refine bel_set ?_ (by first | (dsimp only; omega) | (simp; omega) | simp) _ | refine bel_trans ?_ (bel_drewN _ _) | refine bel_trans ?_ (bel_drew _) | refine bel_trans ?_ (by assumption)))), cell_on c2 (by (repeat (first | exact Below.refl _ _ | assumption | refine bel_trans ?_ (bel_alloc _ _) | refine bel_set ?_ (by first | (dsimp only; omega) | (simp; omega) | simp) _ | refine bel_trans ?_ (bel_drewN _ _) | refine bel_trans ?_ (bel_drew _) | refine bel_trans ?_ (by assumption)))), cell_on c3 (by (repeat (first | exact Below.refl _ _ | assumption | refine bel_trans ?_ (bel_alloc _ _) | refine bel_set ?_ (by first | (dsimp only; omega) | (simp; omega) | simp) _ | refine bel_trans ?_ (bel_drewN _ _) | refine bel_trans ?_ (bel_drew _) | refine bel_trans ?_ (by assumption))))⟩) (first
    | (go_at_call 106; refine HV.out.mono ?_; rintro e w5 ⟨r5, k5, rfl, hM5, hb5⟩; have hbX := bel_trans (bel_drew _) hb5; have c0 := cell_on c0 hbX; have c1 := cell_on c1 hbX; have c2 := cell_on c2 hbX; have c3 := cell_on c3 hbX)
    | (go_at_call 105; refine (s_ciPick r5 oa (m + gn) k5 on oc (valS gs inp gn) os _ hM5.ints (HF.out.1.o.below hbX) hon HOU).mono ?_; rintro e w6 ⟨r6, k6, rfl, hM6, hb6⟩; have hbY := bel_trans hbX hb6; have c0 := cell_on c0 hb6; have c1 := cell_on c1 hb6; have c2 := cell_on c2 hb6; have c3 := cell_on c3 hb6))
  have hz5 := hbX.size
  have HM := Lib.hid (hM6.base (show w.heap.size ≤ w5.heap.size by omega))
  go_wp2
  go_ret
  exact ⟨_, _, rfl, HM.out, bel_trans HF.out.2 hbY⟩
set_option maxHeartbeats 4000000 in
theorem s_EvalCircuit (i0 i1 : Int) (ga : Option Addr) (gn gc : Nat) (gs : List Int) (oa : Option Addr) (on oc : Nat) (os : List Int) (aa : Option Addr) (an ac : Nat) (us : List Int) (ba : Option Addr) (bn bc : Nat) (vs : List Int) (w : World) (h : Circ w ga gn gc gs oa on oc os) (ha : Ints w aa an ac us) (hb : Ints w ba bn bc vs) :
    Calls Try.prog 6 #[.agg #[.int .i64 i0, .int .i64 i1, .slice ga gn gc, .slice oa on oc], .slice aa an ac, .slice ba bn bc] w fun e w' => ∃ r c, e = .returned (.tuple #[.slice r (evAll i0 i1 gs gn os us vs).1.length c, .bool (evAll i0 i1 gs gn os us vs).2]) ∧ Mine w' w.heap.size r (evAll i0 i1 gs gn os us vs).1.length c (evAll i0 i1 gs gn os us vs).1 ∧ Below w.heap.size w w' := by
  have hlo := h.o.len.out; have hla := ha.len.out; have hlb := hb.len.out
  have A0 := bel_alloc w (.cells #[.int .i64 i0, .int .i64 i1, .slice ga gn gc, .slice oa on oc] 25)
  have g0 := B4.new (w := w) (x0 := .int .i64 i0) (x1 := .int .i64 i1) (x2 := .slice ga gn gc) (x3 := .slice oa on oc) (t := 25)
  obtain ⟨c0, c1, c2, c3⟩ := g0
  have HA := s_ciAsked i0 i1 ga gn gc gs oa on oc os aa an ac us ba bn bc vs _ (h.below A0) (ha.below A0) (hb.below A0)
  unfold evAll
  cases hA : askB i0 i1 gs gn os us vs with
  | false =>
    rw [hA] at HA
    have HA := Lib.hid HA
    have HB := Lib.hid A0
    rw [if_neg (by simp)]
    clear A0 h ha hb hlo hla hlb hA
    go_enter Try.func6, Try.ntmps6
    go_wp2_with fail
    refine HA.out.mono ?_; rintro e w1 ⟨rfl, hb1⟩
    go_wp2
    go_ret2
    exact ⟨none, 0, rfl, Mine.nil, bel_trans HB.out hb1⟩
  | true =>
    rw [hA] at HA
    obtain ⟨hcc, hu, hv, e0, e1⟩ := askB_iff.1 hA
    obtain rfl : i0 = (an : Int) := by omega
    obtain rfl : i1 = (bn : Int) := by omega
    have hal := askB_len hA
    have hs : an + bn ≤ 1000000 := by omega
    have hbv : bit1 (us ++ vs) := fun x hx => (List.mem_append.1 hx).elim (bit1.of hu x) (bit1.of hv x)
    have HV := Lib.hid (And.intro hcc hbv)
    have HA := Lib.hid HA
    have HF := Lib.hid (And.intro (h.below A0) (And.intro (ha.below A0) (And.intro (hb.below A0) A0)))
    rw [if_pos rfl, hlo]
    dsimp only
    rw [pkL_len]
    clear A0 h ha hb hla hlb hA hcc hu hv e0 e1 hal hbv
    go_enter Try.func6, Try.ntmps6
    go_wp2_with fail
    refine HA.out.mono ?_; rintro e w1 ⟨rfl, hb1⟩
    replace c0 := cell_on c0 hb1; replace c1 := cell_on c1 hb1; replace c2 := cell_on c2 hb1; replace c3 := cell_on c3 hb1
    have HF1 := Lib.hid (And.intro (HF.out.1.below hb1) (And.intro (HF.out.2.1.below hb1) (And.intro (HF.out.2.2.1.below hb1) (bel_trans HF.out.2.2.2 hb1))))
    have HJ := Lib.hid (s_ciJoin aa an ac us ba bn bc vs w1.drew (HF1.out.2.1.below (bel_drew w1)) (HF1.out.2.2.1.below (bel_drew w1)) hs)
    clear hb1 HF
    go_wp2_with fail
    go_region_held3 (fun W => W.cell? ⟨w.heap.size, 0, none⟩ = some (.int .i64 an) ∧ W.cell? ⟨w.heap.size, 1, none⟩ = some (.int .i64 bn) ∧ W.cell? ⟨w.heap.size, 2, none⟩ = some (.slice ga gn gc) ∧ W.cell? ⟨w.heap.size, 3, none⟩ = some (.slice oa on oc)) (first | exact ⟨c0, c1, c2, c3⟩ | exact ⟨cell_on c0 (by (repeat (first | exact Below.refl _ _ | assumption | refine bel_trans ?_ (bel_alloc _ _) | refine bel_set ?_ (by first | (dsimp only; omega) | (simp; omega) | simp) _ | refine bel_trans ?_ (bel_drewN _ _) | refine bel_trans ?_ (bel_drew _) | refine bel_trans ?_ (by assumption)))), cell_on c1 (by (repeat (first | exact Below.refl _ _ | assumption | refine bel_trans ?_ (bel_alloc _ _) | refine bel_set ?_ (by first | (dsimp only; omega) | (simp; omega) | simp) _ | refine bel_trans ?_ (bel_drewN _ _) | refine bel_trans ?_ (bel_drew _) | refine bel_trans ?_ (by assumption)))), cell_on c2 (by (repeat (first | exact Below.refl _ _ | assumption | refine bel_trans ?_ (bel_alloc _ _) | refine bel_set ?_ (by first | (dsimp only; omega) | (simp; omega) | simp) _ | refine bel_trans ?_ (bel_drewN _ _) | refine bel_trans ?_ (bel_drew _) | refine bel_trans ?_ (by assumption)))), cell_on c3 (by (repeat (first | exact Below.refl _ _ | assumption | refine bel_trans ?_ (bel_alloc _ _) | refine bel_set ?_ (by first | (dsimp only; omega) | (simp; omega) | simp) _ | refine bel_trans ?_ (bel_drewN _ _) | refine bel_trans ?_ (bel_drew _) | refine bel_trans ?_ (by assumption))))⟩) (first
      | (go_at_call 40; refine HJ.out.mono ?_; rintro e w5 ⟨r5, k5, rfl, hM5, hb5⟩; have hbX := bel_trans (bel_drew w1) hb5; have c0 := cell_on c0 hbX; have c1 := cell_on c1 hbX; have c2 := cell_on c2 hbX; have c3 := cell_on c3 hbX)
      | (go_at_call 39; refine (s_ciOutsY an bn ga gn gc gs oa on oc os r5 (an + bn) k5 (us ++ vs) _ (HF1.out.1.below hbX) HV.out.1 hM5.mine.ints HV.out.2 rfl).mono ?_; rintro e w6 ⟨r6, k6, rfl, hM6, hb6⟩; have hbY := bel_trans hbX hb6; have c0 := cell_on c0 hb6; have c1 := cell_on c1 hb6; have c2 := cell_on c2 hb6; have c3 := cell_on c3 hb6))
    have hz5 := hbX.size
    have hz1 := HF1.out.2.2.2.size
    have HM := Lib.hid (hM6.base (show w.heap.size ≤ w5.heap.size by omega))
    go_wp2
    go_ret2
    exact ⟨_, _, rfl, HM.out, bel_trans HF1.out.2.2.2 hbY⟩
end Go.Proofs.Ytfejpmfcognikaa
namespace Go.Proofs.Ytfejpmfcognikaa
open Go.RowKit
set_option linter.unusedVariables false
set_option linter.unusedSimpArgs false
set_option maxRecDepth 10000

def zL (Z : List Int) (a n : Nat) : List Int := (List.range n).map fun j => nth Z (a + j)
def oL (Z : List Int) (off : Int) (a n : Nat) : List Int := (List.range n).map fun j => bx (nth Z (a + j)) off
theorem zL_snoc (Z : List Int) (a n : Nat) : zL Z a (n + 1) = zL Z a n ++ [nth Z (a + n)] := by simp [zL, List.range_succ]
theorem oL_snoc (Z : List Int) (off : Int) (a n : Nat) : oL Z off a (n + 1) = oL Z off a n ++ [bx (nth Z (a + n)) off] := by simp [oL, List.range_succ]
theorem zL_len (Z : List Int) (a n : Nat) : (zL Z a n).length = n := by simp [zL]
theorem oL_len (Z : List Int) (off : Int) (a n : Nat) : (oL Z off a n).length = n := by simp [oL]
theorem nth_zL {Z : List Int} {a n j : Nat} (h : j < n) : nth (zL Z a n) j = nth Z (a + j) := by simp [nth, zL, h]
theorem nth_oL {Z : List Int} {off : Int} {a n j : Nat} (h : j < n) : nth (oL Z off a n) j = bx (nth Z (a + j)) off := by simp [nth, oL, h]
theorem zL_labs {Z : List Int} (h : labs Z) (a n : Nat) : labs (zL Z a n) := fun x hx => by simp only [zL, List.mem_map] at hx; obtain ⟨j, _, rfl⟩ := hx; exact labs_at h _
theorem oL_labs {Z : List Int} {off : Int} (h : labs Z) (ho : Odd off) (a n : Nat) : labs (oL Z off a n) := fun x hx => by simp only [oL, List.mem_map] at hx; obtain ⟨j, _, rfl⟩ := hx; exact bx_lab (labs_at h _) ho.1
theorem list_nthZ {xs ys : List Int} (hl : xs.length = ys.length) (h : ∀ i, i < xs.length → nth xs i = nth ys i) : xs = ys := by
  refine List.ext_getElem hl fun i h1 h2 => ?_
  have := h i h1
  rw [nth_get h1, nth_get h2] at this
  exact this
theorem inp_law {key off : Int} {gs us vs taken : List Int} {an bn gn : Nat} (ho : Odd off) (hu : us.length = an) (hv : vs.length = bn) (hvb : bit1 vs) (ht : taken.length = bn)
    (h : ∀ j, j < bn → nth taken j = if nth vs j = 1 then nth (oL (zerS key off gs (an + bn) gn) off an bn) j else nth (zL (zerS key off gs (an + bn) gn) an bn) j) :
    actL off (zerS key off gs (an + bn) gn) us an ++ taken = actL off (inpZ key (an + bn)) (us ++ vs) (an + bn) := by
  have hz : ∀ i, i < an + bn → nth (zerS key off gs (an + bn) gn) i = lz key i := fun i hi => by
    rw [zerS_pre key off gs (an + bn) 0 gn (Nat.zero_le _) i (by omega)]; exact nth_inpZ hi
  refine list_nthZ (by rw [List.length_append, actL_len, actL_len, ht]) fun i hi => ?_
  rw [List.length_append, actL_len, ht] at hi
  rw [nth_actL hi, nth_inpZ hi]
  by_cases e : i < an
  · rw [nthA (by rw [actL_len]; exact e), nth_actL e, hz i hi, nthA (by rw [hu]; exact e)]
  · rw [nthB (by rw [actL_len]; omega), actL_len, nthB (by omega), hu, h _ (by omega), nth_oL (by omega), nth_zL (by omega), show an + (i - an) = i by omega, hz i hi]
    have hb := bit1_at hvb (i - an)
    split
    · rename_i e1; rw [e1, lbl_one]
    · rename_i e1; rw [show nth vs (i - an) = 0 by omega, lbl_zero _ (lz_lab _ _)]
/-- All that the law asks. -/
theorem gv_law {key : Int} {gs os us vs : List Int} {gn an bn : Nat} (hu : us.length = an) (hv : vs.length = bn) (hA : askB an bn gs gn os us vs = true) (hk : keyE key = true) {off : Int} (ho : off = ofs key) {Z : List Int} (hZ : Z = zerS key off gs (an + bn) gn) :
    Odd off ∧ labs Z ∧ Z.length = an + bn + gn ∧ sentColumns key 4 vs = (sentCs key vs bn 4, true) ∧ ∃ q t hd taken, senderRows key (bitsL [key, 77] 4) (sentCs key vs bn 4) = (q, true) ∧ receiverRows key 4 bn = (t, true) ∧ hideMessages (bitsL [key, 77] 4) q (zL Z an bn) (oL Z off an bn) = (hd, true) ∧ takeMessages vs t hd = (taken, true) ∧ taken.length = bn ∧
      actL off Z us an ++ taken = actL off (inpZ key (an + bn)) (us ++ vs) (an + bn) := by
  obtain ⟨hcc, hub, hvb, e0, e1⟩ := askB_iff.1 hA
  have hal := askB_len hA
  have hodd : Odd off := ho ▸ ofs_odd key
  have hZl : labs Z := hZ ▸ zerS_lab gs _ hodd gn
  obtain ⟨h1, q, t, hd, taken, h2, h3, h4, h5, h6, h7⟩ := ext_gen (key := key) (kn := 4) (m := bn) (ch := vs) (s := bitsL [key, 77] 4) (zs := zL Z an bn) (os := oL Z off an bn) hk (by omega) hv.symm (by omega) hvb (bitsL_len _ _) (bitsL_bits _ _) (zL_len _ _ _) (oL_len _ _ _ _) (labs_B.2 (zL_labs hZl _ _)) (labs_B.2 (oL_labs hZl hodd _ _))
  refine ⟨hodd, hZl, by rw [hZ, zerS_len], h1, q, t, hd, taken, h2, h3, h4, h5, h6, ?_⟩
  subst hZ
  exact inp_law hodd hu hv (bit1.of hvb) h6 h7
end Go.Proofs.Ytfejpmfcognikaa
namespace Go.Proofs.Ytfejpmfcognikaa
open Go.RowKit
set_option linter.unusedVariables false
set_option linter.unusedSimpArgs false

theorem ivs_appZ (xs ys : List Int) : ivs (xs ++ ys) = ivs xs ++ ivs ys := by simp [ivs]
theorem step_apps {ops : Array Oper} {o : Oper} {a : Act} {w : World} {K : Act → World → Prop} {Q : Exit → Act → World → Prop} {E : Prop} (B n : Nat) (v : Value) (xs ys : List Int) (ad : Option Addr) (m cap : Nat)
    (hg : o.guard = none) (s x : Operand) (ho : o.op = .call { callee := .builtin .append, args := #[s, x], argTypes := #[23, 23] })
    (hs : a.eval s = v) (hx : a.eval x = .slice ad m cap) (hy : Ints w ad m cap ys)
    (hown : w.ownsRow B 3 1 v n (ivs xs)) (hB : B ≤ w.heap.size) (hn : n + m ≤ 1000000000000)
    (h : ∀ v' w', w'.ownsRow B 3 1 v' (n + m) (ivs (xs ++ ys)) → Below B w w' → K (a.put o.dst v') w') :
    if Region.wanted o (yielded ops a.tmps) = true then Oper.wp Try.prog o a w K Q else E := by
  have hw : Region.wanted o (yielded ops a.tmps) = true := by simp [Region.wanted, hg]
  rw [if_pos hw]
  obtain ⟨i0, hi, hz0, hz1, hz2⟩ := info_parts info_int
  have hlen := hy.len.out
  cases ad with
  | none =>
    have hc := hy.nilc.out rfl
    have hnc := hy.ncap
    obtain rfl : cap = 0 := hc
    obtain rfl : m = 0 := by omega
    obtain rfl : ys = [] := List.length_eq_zero_iff.1 hlen
    have hrun := run_append_owned_none (P := Try.prog) (w := w) B 23 o.type 3 i0 1 Try.underlying23 hi v n (ivs xs) hown
    unfold Oper.wp
    simp [execOp, ho, resolve, invoke, builtin, hs, hx, hrun, Result.andThen]
    exact h v w (by simpa using hown) (Below.refl _ _)
  | some ad =>
    refine wp_append_own w s x 23 ho B 3 i0 (.int .i64 0) 1 8 Try.underlying23 hi hz0 hz1 hz2 rfl (by decide) v n (ivs xs) hs hown ad m cap (ivs ys) hx (by rw [ivs_len, hlen]; omega) ?_ ?_ (by unfold maxLen; omega) (by omega) hB ?_
    · intro j c hj
      have hjm : j < m := by
        rcases Nat.lt_or_ge j m with k | k
        · exact k
        · rw [List.getElem?_eq_none (by rw [ivs_len, hlen]; exact k)] at hj; cases hj
      obtain ⟨b, off, e, _, hcell⟩ := hy.at hjm
      simp only [Option.some.injEq] at e
      subst e
      have e2 : (⟨b, off, none⟩ : Addr).add j = ⟨b, off + j, none⟩ := by
        unfold Addr.add; split
        · rename_i h0; subst h0; rfl
        · rfl
      rw [e2, hcell]
      simp only [ivs, List.getElem?_map] at hj
      rw [List.getElem?_eq_getElem (by omega)] at hj
      simp only [Option.map_some, Option.some.injEq] at hj
      rw [← hj, nth_get (by omega)]
    · intro c hc
      simp only [ivs, List.mem_map] at hc
      obtain ⟨q, _, rfl⟩ := hc
      rfl
    · intro v' w' h1 h2 _
      rw [← ivs_appZ] at h1
      exact h v' w' h1 (below_grown_own hown h2 hB)
end Go.Proofs.Ytfejpmfcognikaa
