/-
  Contracts of TransferAll, the program's and the reference's.
-/
import Derived.Test.YtklgneaamhjfpaaGt
import Derived.Test.YtklgneaamhjfpaaRF
import Derived.Test.YtklgneaamhjfpaaSt
namespace Go.Proofs.Ytklgneaamhjfpaa
open Go.RowKit
set_option linter.unusedVariables false
set_option linter.unusedSimpArgs false
set_option maxRecDepth 100000

def okP (x : List Int) : Bool := decide (x.length = 2) && allIn x 0 65535
def badP (x : List Int) : Bool := !okP x
theorem okP_iff {x : List Int} : okP x = true ↔ x.length = 2 ∧ allIn x 0 65535 = true := by unfold okP; rw [Bool.and_eq_true, decide_eq_true_iff]
def chAt (ps : List (List Int)) (xs : List Int) (k : Nat) : Int := nth (rowN ps k) (nth xs k).toNat
def chN (ps : List (List Int)) (xs : List Int) (n : Nat) : List Int := (List.range n).map (chAt ps xs)
theorem chN_len (ps : List (List Int)) (xs : List Int) (n : Nat) : (chN ps xs n).length = n := by simp [chN]
theorem chN_succ (ps : List (List Int)) (xs : List Int) (n : Nat) : chN ps xs (n + 1) = chN ps xs n ++ [chAt ps xs n] := by simp [chN, List.range_succ]
def taB (P Q G key : Int) (ps : List (List Int)) (xs : List Int) : Bool := chsB P Q G key xs && (decide (ps.length = xs.length) && ps.all okP)
def transAll (P Q G key : Int) (ps : List (List Int)) (xs : List Int) : List Int × Bool := if taB P Q G key ps xs then (chN ps xs xs.length, true) else ([], false)
theorem taB_iff {P Q G key : Int} {ps : List (List Int)} {xs : List Int} : taB P Q G key ps xs = true ↔ chsB P Q G key xs = true ∧ ps.length = xs.length ∧ ps.all okP = true := by
  unfold taB; simp only [Bool.and_eq_true, decide_eq_true_iff]
theorem taB_no {P Q G key : Int} {ps : List (List Int)} {xs : List Int} (h : ¬ (chsB P Q G key xs = true ∧ ps.length = xs.length ∧ ps.all okP = true)) : taB P Q G key ps xs = false := by
  cases k : taB P Q G key ps xs with
  | false => rfl
  | true => exact absurd (taB_iff.1 k) h
theorem transAll_no {P Q G key : Int} {ps : List (List Int)} {xs : List Int} (h : taB P Q G key ps xs = false) : transAll P Q G key ps xs = ([], false) := by unfold transAll; rw [h]; rfl
theorem transAll_yes {P Q G key : Int} {ps : List (List Int)} {xs : List Int} (h : taB P Q G key ps xs = true) : transAll P Q G key ps xs = (chN ps xs xs.length, true) := by unfold transAll; rw [h]; rfl
theorem transAll_len (P Q G key : Int) (ps : List (List Int)) (xs : List Int) : (transAll P Q G key ps xs).1.length ≤ 40 := by
  cases h : taB P Q G key ps xs with
  | false => rw [transAll_no h]; simp
  | true =>
    rw [transAll_yes h]
    have := (chsB_iff.1 (taB_iff.1 h).1).2.2.2
    simpa [chN_len] using this
theorem row_bd {x : List Int} (h : okP x = true) {j : Nat} (hj : j < 2) : 0 ≤ nth x j ∧ nth x j ≤ 65535 := by
  obtain ⟨h1, h2⟩ := okP_iff.1 h
  exact inB_iff.1 (allIn_iff.1 h2 j (by omega))
theorem chAt_bd {ps : List (List Int)} {xs : List Int} {k : Nat} (h : okP (rowN ps k) = true) (hx : 0 ≤ nth xs k ∧ nth xs k ≤ 1) : 0 ≤ chAt ps xs k ∧ chAt ps xs k ≤ 65535 := row_bd h (by omega)
theorem chN_fit {ps : List (List Int)} {xs : List Int} {n : Nat} (h : ∀ k, k < n → okP (rowN ps k) = true) (hx : ∀ k, k < n → 0 ≤ nth xs k ∧ nth xs k ≤ 1) : ∀ y ∈ chN ps xs n, Fits y := by
  intro y hy
  simp only [chN, List.mem_map, List.mem_range] at hy
  obtain ⟨i, hi, rfl⟩ := hy
  have := chAt_bd (ps := ps) (xs := xs) (h i hi) (hx i hi)
  unfold Fits; omega
theorem padOf_bd (x i : Int) : 0 ≤ padOf x i ∧ padOf x i ≤ 65535 := dgMix_bd _
set_option maxHeartbeats 1000000 in
theorem i_areLabelsG (a : Option Addr) (n cap : Nat) (xs : List Int) (w : World) (h : Ints w a n cap xs) :
    Calls Try.prog 105 #[.slice a n cap] w fun e w' => e = .returned (.bool (allIn xs 0 65535)) ∧ Below w.heap.size w w' := by
  have HA := Lib.hid (i_areAll a n cap xs (fun x => inB x 0 65535) 80 #[] (enters_of Try.func80 (by kernel_rfl) rfl) w h (fun W x _ _ => i_isLabel x W))
  go_enter Try.func105, Try.ntmps105
  go_wp2_with (go_at_call 122; refine HA.out.mono ?_; rintro e w' ⟨rfl, hb⟩)
  go_ret
  exact ⟨rfl, hb⟩
set_option maxHeartbeats 1000000 in
theorem i_badP (a : Option Addr) (n cap : Nat) (xs : List Int) (w : World) (h : Ints w a n cap xs) :
    Calls Try.prog 104 #[.slice a n cap] w fun e w' => e = .returned (.bool (badP xs)) ∧ Below w.heap.size w w' := by
  have hl := h.len; have hs := h.small
  by_cases h2 : n = 2
  · subst h2
    have HE : Hid (badP xs = !allIn xs 0 65535) := by show _ = _; unfold badP okP; rw [hl.out]; simp
    generalize hq : allIn xs 0 65535 = q at *
    go_enter Try.func104, Try.ntmps104
    go_wp2_with (go_at_call 105; refine (i_areLabelsG _ _ _ xs _ h).mono ?_; rintro e w' ⟨rfl, hb⟩; rw [hq])
    go_ret
    exact ⟨by rw [HE.out]; try rfl, hb⟩
  · have h2i : ¬ (n : Int) = 2 := by omega
    have HE : Hid (badP xs = true) := by show _ = _; unfold badP okP; rw [hl.out, decide_eq_false h2]; rfl
    go_enter Try.func104, Try.ntmps104
    go_wp2
    go_ret
    exact ⟨by rw [HE.out]; try rfl, by (repeat (first | exact Below.refl _ _ | assumption | refine bel_trans ?_ (bel_alloc _ _) | refine bel_set ?_ (by first | (dsimp only; omega) | (simp; omega) | simp) _ | refine bel_trans ?_ (bel_drewN _ _) | refine bel_trans ?_ (bel_drew _) | refine bel_trans ?_ (by assumption)))⟩
set_option maxHeartbeats 8000000 in
theorem i_TransferAll (P Q G key : Int) (a2 : Option Addr) (n2 cap2 : Nat) (ps : List (List Int)) (a : Option Addr) (n cap : Nat) (xs : List Int) (w : World) (fP : Fits P) (fQ : Fits Q) (fG : Fits G) (fk : Fits key) (h2 : Rws w a2 n2 cap2 ps) (h : Ints w a n cap xs) :
    Calls Try.prog 49 #[.agg #[.int .i64 P, .int .i64 Q, .int .i64 G], .int .i64 key, .slice a2 n2 cap2, .slice a n cap] w fun e w' =>
      ∃ r c, e = .returned (.tuple #[.slice r (transAll P Q G key ps xs).1.length c, .bool (transAll P Q G key ps xs).2]) ∧ Mine w' w.heap.size r (transAll P Q G key ps xs).1.length c (transAll P Q G key ps xs).1 ∧ Below w.heap.size w w' := by
  have hl := h.len; have hl2 := h2.len
  have hs := h.small; have hs2 := h2.small
  have A0 := bel_alloc w (.cells #[.int .i64 P, .int .i64 Q, .int .i64 G] 24)
  have g0 := Gx.new (w := w) (P := P) (Q := Q) (G := G) (t := 24)
  have h1 := h.below A0; have h21 := h2.below A0
  obtain ⟨k0, k1, k2⟩ := id g0
  have HC : Hid (∀ W, Rws W a2 n2 cap2 ps → Calls Try.prog 103 #[.slice a2 n2 cap2, .func (.func 104) #[] #[]] W fun e w' => e = .returned (.bool (ps.any badP)) ∧ Below W.heap.size W w') := fun W hW =>
    g_ContainsFuncR a2 n2 cap2 ps badP 104 #[] (enters_of Try.func104 (by kernel_rfl) rfl) W hW (fun V r m c x hV hx => (i_badP r m c x V hx).mono fun e w' ⟨he, hb⟩ => ⟨he, bel_trans hV hb⟩)
  have hanyall : ps.any badP = !ps.all okP := by rw [List.all_eq_not_any_not, Bool.not_not]; rfl
  rw [hanyall] at HC
  clear hanyall
  cases hc : chsB P Q G key xs with
  | false =>
    rw [transAll_no (taB_no (fun q => by rw [hc] at q; cases q.1))]
    go_enter Try.func49, Try.ntmps49
    go_wp2_with fail
    refine (i_areChoices _ _ _ _ _ _ _ xs _ h1).mono ?_; rintro e w1 ⟨rfl, hb1⟩; rw [hc]
    go_wp2
    go_ret2
    exact ⟨none, 0, rfl, Mine.nil, by (repeat (first | exact Below.refl _ _ | assumption | refine bel_trans ?_ (bel_alloc _ _) | refine bel_set ?_ (by first | (dsimp only; omega) | (simp; omega) | simp) _ | refine bel_trans ?_ (bel_drewN _ _) | refine bel_trans ?_ (bel_drew _) | refine bel_trans ?_ (by assumption)))⟩
  | true =>
    by_cases hn : n2 = n
    rotate_left
    · have hni : ¬ (n2 : Int) = (n : Int) := by omega
      rw [transAll_no (taB_no (fun q => hn (by rw [← hl.out, ← hl2.out]; exact q.2.1)))]
      go_enter Try.func49, Try.ntmps49
      go_wp2_with fail
      refine (i_areChoices _ _ _ _ _ _ _ xs _ h1).mono ?_; rintro e w1 ⟨rfl, hb1⟩; rw [hc]
      go_wp2
      go_ret2
      exact ⟨none, 0, rfl, Mine.nil, by (repeat (first | exact Below.refl _ _ | assumption | refine bel_trans ?_ (bel_alloc _ _) | refine bel_set ?_ (by first | (dsimp only; omega) | (simp; omega) | simp) _ | refine bel_trans ?_ (bel_drewN _ _) | refine bel_trans ?_ (bel_drew _) | refine bel_trans ?_ (by assumption)))⟩
    subst hn
    obtain ⟨q1, q2, q3, q4⟩ := chsB_iff.1 hc
    obtain ⟨⟨hP1, hP2⟩, ⟨hQ1, hQ2⟩, ⟨hG1, hG2⟩⟩ := grB_lo q1
    obtain ⟨hk1, hk2⟩ := inB_iff.1 q2
    rw [hl.out] at q4
    have Q1 := Lib.hid q1; have Q3 := Lib.hid q3; clear q3 q1 q2
    cases hall : ps.all okP with
    | false =>
      rw [transAll_no (taB_no (fun q => by rw [hall] at q; cases q.2.2))]
      rw [hall] at HC
      go_enter Try.func49, Try.ntmps49
      go_wp2_with fail
      refine (i_areChoices _ _ _ _ _ _ _ xs _ h1).mono ?_; rintro e w1 ⟨rfl, hb1⟩; rw [hc]
      go_wp2_with fail
      refine (HC.out _ (h21.below hb1)).mono ?_; rintro e w2 ⟨rfl, hb2⟩
      go_wp2
      go_ret2
      exact ⟨none, 0, rfl, Mine.nil, by (repeat (first | exact Below.refl _ _ | assumption | refine bel_trans ?_ (bel_alloc _ _) | refine bel_set ?_ (by first | (dsimp only; omega) | (simp; omega) | simp) _ | refine bel_trans ?_ (bel_drewN _ _) | refine bel_trans ?_ (bel_drew _) | refine bel_trans ?_ (by assumption)))⟩
    | true =>
      rw [transAll_yes (taB_iff.2 ⟨hc, by rw [hl.out, hl2.out], hall⟩), hl.out]
      rw [hall] at HC
      have HP := Lib.hid (fun j (hj : j < n2) => allR_iff.1 hall j (by rw [hl2.out]; exact hj)); clear hall
      go_enter Try.func49, Try.ntmps49
      go_wp2_with fail
      refine (i_areChoices _ _ _ _ _ _ _ xs _ h1).mono ?_; rintro e w1 ⟨rfl, hb1⟩; rw [hc]
      go_wp2_with fail
      refine (HC.out _ (h21.below hb1)).mono ?_; rintro e w2 ⟨rfl, hb2⟩
      have gg := (g0.on hb1).on hb2
      have bb := bel_trans (bel_trans A0 hb1) hb2
      have hz2 : w.heap.size < w2.heap.size := by have := hb1.size; have := hb2.size; simp at *; omega
      clear hb1 hb2 g0 k0 k1 k2 h1 h21 hc A0 HC
      go_wp2
      go_loopw [10, 38] (fun r i W => ∃ k : Nat, k ≤ n2 ∧ i = .int .i64 k ∧ Hid (W.ownsRow w2.heap.size 3 1 r k (ivs (chN ps xs k))) ∧ Hid (Gx W w.heap.size P Q G) ∧ w2.heap.size ≤ W.heap.size ∧ Hid (Below w.heap.size w W)) (fun _ i _ => n2 - (intOf i).toNat)
      case atStart => exact ⟨0, by omega, rfl, (show Hid _ from World.ownsRow_lit w2 #[] 0 (by omega) (by decide) rfl), (show Hid _ from gg.on (bel_alloc _ _)), by simp, (show Hid _ from bel_trans bb (bel_alloc _ _))⟩
      case round =>
        clear gg bb
        obtain ⟨k, hk, rfl, HO, HG, hzr, HB⟩ := hrel
        by_cases hlt : k < n2
        · obtain ⟨b, off, rfl, hbl, hc⟩ := (h.below HB.out).at hlt
          have hci := inB_iff.1 (allIn_iff.1 Q3.out k (by rw [hl.out]; exact hlt))
          have hbl0 := (h.at hlt); obtain ⟨_, _, eb, hbw, _⟩ := hbl0
          simp only [Option.some.injEq, Addr.mk.injEq] at eb; obtain ⟨rfl, rfl, _⟩ := eb
          obtain ⟨b2, off2, r2, m2, cc2, rfl, hbl2, hc2, hr2⟩ := (h2.below HB.out).at hlt
          have hok := HP.out k hlt
          have hm2 : m2 = 2 := by rw [← hr2.len.out]; exact (okP_iff.1 hok).1
          subst hm2
          obtain ⟨b3, off3, rfl, hbl3, hc30⟩ := hr2.at (i := 0) (by omega)
          have hc31 : wr.cell? ⟨b3, off3 + 1, none⟩ = some (.int .i64 (nth (rowN ps k) 1)) := by
            obtain ⟨_, _, e3, _, h3⟩ := hr2.at (i := 1) (by omega)
            simp only [Option.some.injEq, Addr.mk.injEq] at e3; obtain ⟨rfl, rfl, _⟩ := e3; exact h3
          rw [Nat.add_zero] at hc30
          have hcap3 := hr2.ncap
          obtain ⟨x01, x02⟩ := row_bd hok (j := 0) (by omega)
          obtain ⟨x11, x12⟩ := row_bd hok (j := 1) (by omega)
          have HCS0 : Hid (nth xs k = 0 → chN ps xs (k + 1) = chN ps xs k ++ [nth (rowN ps k) 0]) := fun e => by rw [chN_succ]; unfold chAt; rw [e]; rfl
          have HCS1 : Hid (nth xs k = 1 → chN ps xs (k + 1) = chN ps xs k ++ [nth (rowN ps k) 1]) := fun e => by rw [chN_succ]; unfold chAt; rw [e]; rfl
          obtain ⟨kg0, kg1, kg2⟩ := id HG.out
          obtain ⟨sa1, sa2⟩ := secA_bd (Q := Q) (key := key) (i := k) hQ1
          obtain ⟨sb1, sb2⟩ := secB_bd (Q := Q) (key := key) (i := k) hQ1
          have HXX := Lib.hid (And.intro h (And.intro h2 hr2)); clear h h2 hr2 hok
          generalize nth xs k = c at *
          generalize nth (rowN ps k) 0 = x0 at *
          generalize nth (rowN ps k) 1 = x1 at *
          rcases (show c = 0 ∨ c = 1 by omega) with rfl | rfl
          · have HCX : Hid (chN ps xs (k + 1) = chN ps xs k ++ [x0]) := HCS0.out rfl
            clear HCS0 HCS1 hci
            go_wp2_with fail
            refine (i_secrets P Q G key k _ ⟨hQ1, hQ2⟩ ⟨hk1, hk2⟩ ⟨by omega, by omega⟩).mono ?_; rintro e w3 ⟨rfl, hb3⟩
            have HO3 := Lib.hid (ownsRow_below HO.out hb3); have HG3 := HG.out.on hb3; have HB3 := bel_trans HB.out hb3; have y3 := hb3.size
            have q0 := cell_on hc2 hb3; have q1 := cell_on hc30 hb3; have q2 := cell_on hc31 hb3
            clear hb3 hc kg0 kg1 kg2 HO HG HB hc2 hc30 hc31
            obtain ⟨kg0, kg1, kg2⟩ := id HG3
            obtain ⟨f1, f2⟩ := gpw_bd P Q G (secA Q key k) (by omega)
            go_wp2_with fail
            refine (i_gpower P Q G G (secA Q key k) _ ⟨hP1, hP2⟩ ⟨hQ1, hQ2⟩ ⟨by omega, by omega⟩ ⟨by omega, by omega⟩).mono ?_; rintro e w4 ⟨rfl, hb4⟩
            have HO4 := Lib.hid (ownsRow_below HO3.out hb4); have HG4 := HG3.on hb4; have HB4 := bel_trans HB3 hb4; have y4 := hb4.size
            have p0 := cell_on q0 hb4; have p1 := cell_on q1 hb4; have p2 := cell_on q2 hb4
            clear hb4 kg0 kg1 kg2 HO3 HG3 HB3 q0 q1 q2
            obtain ⟨kg0, kg1, kg2⟩ := id HG4
            have HPD := Lib.hid (pads_0 (P := P) (Q := Q) (G := G) (a := secA Q key k) (b := secB2 Q key k) (i := k))
            obtain ⟨f, hf⟩ : ∃ f, f = gpw P Q G (secA Q key k) := ⟨_, rfl⟩
            rw [← hf] at f1 f2 HPD ⊢
            clear hf
            obtain ⟨A, hA⟩ : ∃ A, A = answ P Q G f (secB2 Q key k) 0 := ⟨_, rfl⟩
            have ab := answ_bd (P := P) (Q := Q) (G := G) (f := f) (b := secB2 Q key k) (c := 0) (by omega)
            rw [← hA] at HPD ab
            obtain ⟨ab1, ab2⟩ := ab
            have HA := Lib.hid hA; clear hA
            obtain ⟨zz, hzz⟩ : ∃ z, z = padZ P Q G (secA Q key k) A k := ⟨_, rfl⟩
            obtain ⟨oo, hoo⟩ : ∃ z, z = padO P Q G (secA Q key k) A k := ⟨_, rfl⟩
            have HZ := Lib.hid hzz; have HOO := Lib.hid hoo
            rw [← hzz] at HPD
            clear hzz hoo
            go_wp2
            go_region_held3 (fun W => W.cell? ⟨w.heap.size, 0, none⟩ = some (.int .i64 P) ∧ W.cell? ⟨w.heap.size, 1, none⟩ = some (.int .i64 Q) ∧ W.cell? ⟨w.heap.size, 2, none⟩ = some (.int .i64 G)) (first | exact ⟨g6.1, g6.2.1, g6.2.2⟩ | exact ⟨g5.1, g5.2.1, g5.2.2⟩ | exact ⟨kg0, kg1, kg2⟩)
              (first
                | (go_at_call 88; refine (i_answer P Q G f (secB2 Q key k) 0 _ ⟨hP1, hP2⟩ ⟨hQ1, hQ2⟩ ⟨by omega, by omega⟩ ⟨by omega, by omega⟩ ⟨by omega, by omega⟩).mono ?_; rintro e w5 ⟨rfl, hb5⟩; rw [← HA.out]; have b5 := bel_trans (bel_drew _) hb5; have g5 := HG4.on b5; clear hb5)
                | (go_at_call 94; refine (i_pads P Q G (secA Q key k) A k _ ⟨hP1, hP2⟩ ⟨hQ1, hQ2⟩ ⟨by omega, by omega⟩ ⟨by omega, by omega⟩ ⟨by omega, by omega⟩ ⟨by omega, by omega⟩).mono ?_; rintro e w6 ⟨rfl, hb6⟩; rw [← HZ.out, ← HOO.out]; have b6 := bel_trans b5 hb6; have g6 := g5.on hb6; clear hb6))
            have HO6 := Lib.hid (ownsRow_below HO4.out b6); have HB6 := bel_trans HB4 b6; have y6 := b6.size
            have r0 := cell_on p0 b6; have r1 := cell_on p1 b6; have r2 := cell_on p2 b6
            clear b5 g5 b6 kg0 kg1 kg2 HG4 HO4 HB4 p0 p1 p2
            obtain ⟨u0, hu0⟩ : ∃ u, u = bits .xor .i64 x0 zz := ⟨_, rfl⟩
            obtain ⟨u1, hu1⟩ : ∃ u, u = bits .xor .i64 x1 oo := ⟨_, rfl⟩
            have HU : Hid (bits .xor .i64 u0 (padOf (gpw P Q f (secB2 Q key k)) k) = x0) := by
              show _ = _
              rw [hu0, ← HPD.out]; exact xor_xor _ (by unfold Fits; omega)
            have A6 := bel_alloc w6 (.cells #[.int .i64 u0, .int .i64 u1] 3)
            have s0 : (w6.alloc (.cells #[.int .i64 u0, .int .i64 u1] 3)).cell? ⟨w6.heap.size, 0, none⟩ = some (.int .i64 u0) := World.cell?_alloc_at _ _ _ _ rfl
            have HO7 := Lib.hid (ownsRow_below HO6.out A6); have HB7 := bel_trans HB6 A6; have g7 := g6.on A6; have y7 := A6.size
            obtain ⟨w7, hw7⟩ : ∃ X, X = w6.alloc (.cells #[.int .i64 u0, .int .i64 u1] 3) := ⟨_, rfl⟩
            rw [← hw7] at s0 HO7 HB7 g7 A6 y7
            have hw7' := hw7.symm; clear hw7
            rw [hu0, hu1] at hw7'
            clear hu0 hu1
            go_wp2
            go_region_held3 (fun W => W.cell? ⟨b2, off2 + k, none⟩ = some (.slice (some ⟨b3, off3, none⟩) 2 cc2) ∧ W.cell? ⟨b3, off3, none⟩ = some (.int .i64 x0) ∧ W.cell? ⟨b3, off3 + 1, none⟩ = some (.int .i64 x1)) (first | exact ⟨r0, r1, r2⟩ | exact ⟨cell_on r0 (by (repeat (first | exact Below.refl _ _ | assumption | refine bel_trans ?_ (bel_alloc _ _) | refine bel_set ?_ (by first | (dsimp only; omega) | (simp; omega) | simp) _ | refine bel_trans ?_ (bel_drewN _ _) | refine bel_trans ?_ (bel_drew _) | refine bel_trans ?_ (by assumption)))), cell_on r1 (by (repeat (first | exact Below.refl _ _ | assumption | refine bel_trans ?_ (bel_alloc _ _) | refine bel_set ?_ (by first | (dsimp only; omega) | (simp; omega) | simp) _ | refine bel_trans ?_ (bel_drewN _ _) | refine bel_trans ?_ (bel_drew _) | refine bel_trans ?_ (by assumption)))), cell_on r2 (by (repeat (first | exact Below.refl _ _ | assumption | refine bel_trans ?_ (bel_alloc _ _) | refine bel_set ?_ (by first | (dsimp only; omega) | (simp; omega) | simp) _ | refine bel_trans ?_ (bel_drewN _ _) | refine bel_trans ?_ (bel_drew _) | refine bel_trans ?_ (by assumption))))⟩) (fail)
            have hz7 := HB7.size
            obtain ⟨d1, d2⟩ := gpw_bd P Q f (secB2 Q key k) (by omega)
            obtain ⟨gb, hgb⟩ : ∃ z, z = gpw P Q f (secB2 Q key k) := ⟨_, rfl⟩
            rw [← hgb] at d1 d2 HU
            have HGB := Lib.hid hgb; clear hgb
            obtain ⟨pp, hpp⟩ : ∃ z, z = padOf gb k := ⟨_, rfl⟩
            have ppb := padOf_bd gb k
            rw [← hpp] at HU ppb
            have HPP := Lib.hid hpp; clear hpp
            have hU := HU.out
            obtain ⟨kg0, kg1, kg2⟩ := id g7
            have z0 : w7.drew.drew.cell? ⟨w6.heap.size, 0, none⟩ = some (.int .i64 u0) := s0
            have z1 : w7.drew.drew.cell? ⟨w.heap.size, 0, none⟩ = some (.int .i64 P) := kg0
            have z2 : w7.drew.drew.cell? ⟨w.heap.size, 1, none⟩ = some (.int .i64 Q) := kg1
            have z3 : w7.drew.drew.cell? ⟨w.heap.size, 2, none⟩ = some (.int .i64 G) := kg2
            have hne : some w6.heap.size ≠ u10.ownBlock := fun e => by have := (ownLt HO6.out _ e.symm).2; omega
            go_wp2
            go_region_held3 (fun W => W.cell? ⟨w6.heap.size, 0, none⟩ = some (.int .i64 u0) ∧ W.cell? ⟨w.heap.size, 0, none⟩ = some (.int .i64 P) ∧ W.cell? ⟨w.heap.size, 1, none⟩ = some (.int .i64 Q) ∧ W.cell? ⟨w.heap.size, 2, none⟩ = some (.int .i64 G)) (refine ⟨?_, ?_, ?_, ?_⟩ <;> first | assumption | (refine cell_on ?_ (bel_alloc _ _); assumption))
              (first
                | (go_at_call 62; refine (i_gpower P Q G f (secB2 Q key k) _ ⟨hP1, hP2⟩ ⟨hQ1, hQ2⟩ ⟨by omega, by omega⟩ ⟨by omega, by omega⟩).mono ?_; rintro e w8 ⟨rfl, hb8⟩; rw [← HGB.out]; have b8 := bel_trans (bel_trans (bel_drew _) (bel_drew _)) hb8; have g8 := g7.on b8; have s8 := cell_on s0 b8; clear hb8; obtain ⟨g80, g81, g82⟩ := id g8)
                | (go_at_call 93; refine (i_pad gb k _ ⟨by omega, by omega⟩ ⟨by omega, by omega⟩).mono ?_; rintro e w9 ⟨rfl, hb9⟩; rw [← HPP.out]; have b9 := bel_trans b8 hb9; have g9 := g8.on hb9; have t9 := cell_on s8 hb9; clear hb9 g8 s8; obtain ⟨g90, g91, g92⟩ := id g9)
                | (have t0 := b9; clear t0; refine step_app w7 w2.heap.size k _ (chN ps xs k) x0 _ (by rfl) _ _ (by rfl) (by rfl) (by rfl) (World.cell?_alloc_at _ _ _ _ rfl) HO7.out (by (repeat (first | exact Below.refl _ _ | assumption | refine bel_trans ?_ (bel_alloc _ _) | refine bel_set ?_ (by first | (dsimp only; omega) | (simp; omega) | simp) _ | refine bel_trans ?_ (bel_drewN _ _) | refine bel_trans ?_ (bel_drew _) | refine bel_trans ?_ (by assumption)))) (by omega) (by omega) ?_; intro v10 w10 hv10 hb10 hg10; have t10 := hg10.cell (cell_on t9 (bel_alloc _ _)) hne; have g10 := Gx.onB (g9.on (bel_alloc _ _)) hb10 hz2; have y9 := b9.size; have y10 : w2.heap.size ≤ w10.heap.size := (by have h := hb10.size; simp at h; omega); have b10 := (bel_trans (bel_trans HB7 b9) (bel_alloc _ _)).trans (hb10.mono (by omega)); clear hb10 hg10; obtain ⟨g100, g101, g102⟩ := id g10))
            go_wp2
            go_roundw
            case rel => exact ⟨k + 1, by omega, by go_num, (by rw [HCX.out]; exact hv10), (show Hid _ from g10), y10, (show Hid _ from b10)⟩
            case measure => simp [intOf]; omega
          
          · have HCX : Hid (chN ps xs (k + 1) = chN ps xs k ++ [x1]) := HCS1.out rfl
            clear HCS0 HCS1 hci
            go_wp2_with fail
            refine (i_secrets P Q G key k _ ⟨hQ1, hQ2⟩ ⟨hk1, hk2⟩ ⟨by omega, by omega⟩).mono ?_; rintro e w3 ⟨rfl, hb3⟩
            have HO3 := Lib.hid (ownsRow_below HO.out hb3); have HG3 := HG.out.on hb3; have HB3 := bel_trans HB.out hb3; have y3 := hb3.size
            have q0 := cell_on hc2 hb3; have q1 := cell_on hc30 hb3; have q2 := cell_on hc31 hb3
            clear hb3 hc kg0 kg1 kg2 HO HG HB hc2 hc30 hc31
            obtain ⟨kg0, kg1, kg2⟩ := id HG3
            obtain ⟨f1, f2⟩ := gpw_bd P Q G (secA Q key k) (by omega)
            go_wp2_with fail
            refine (i_gpower P Q G G (secA Q key k) _ ⟨hP1, hP2⟩ ⟨hQ1, hQ2⟩ ⟨by omega, by omega⟩ ⟨by omega, by omega⟩).mono ?_; rintro e w4 ⟨rfl, hb4⟩
            have HO4 := Lib.hid (ownsRow_below HO3.out hb4); have HG4 := HG3.on hb4; have HB4 := bel_trans HB3 hb4; have y4 := hb4.size
            have p0 := cell_on q0 hb4; have p1 := cell_on q1 hb4; have p2 := cell_on q2 hb4
            clear hb4 kg0 kg1 kg2 HO3 HG3 HB3 q0 q1 q2
            obtain ⟨kg0, kg1, kg2⟩ := id HG4
            have HPD := Lib.hid (pads_1 (a := secA Q key k) (b := secB2 Q key k) (i := k) Q1.out)
            obtain ⟨f, hf⟩ : ∃ f, f = gpw P Q G (secA Q key k) := ⟨_, rfl⟩
            rw [← hf] at f1 f2 HPD ⊢
            clear hf
            obtain ⟨A, hA⟩ : ∃ A, A = answ P Q G f (secB2 Q key k) 1 := ⟨_, rfl⟩
            have ab := answ_bd (P := P) (Q := Q) (G := G) (f := f) (b := secB2 Q key k) (c := 1) (by omega)
            rw [← hA] at HPD ab
            obtain ⟨ab1, ab2⟩ := ab
            have HA := Lib.hid hA; clear hA
            obtain ⟨zz, hzz⟩ : ∃ z, z = padZ P Q G (secA Q key k) A k := ⟨_, rfl⟩
            obtain ⟨oo, hoo⟩ : ∃ z, z = padO P Q G (secA Q key k) A k := ⟨_, rfl⟩
            have HZ := Lib.hid hzz; have HOO := Lib.hid hoo
            rw [← hoo] at HPD
            clear hzz hoo
            go_wp2
            go_region_held3 (fun W => W.cell? ⟨w.heap.size, 0, none⟩ = some (.int .i64 P) ∧ W.cell? ⟨w.heap.size, 1, none⟩ = some (.int .i64 Q) ∧ W.cell? ⟨w.heap.size, 2, none⟩ = some (.int .i64 G)) (first | exact ⟨g6.1, g6.2.1, g6.2.2⟩ | exact ⟨g5.1, g5.2.1, g5.2.2⟩ | exact ⟨kg0, kg1, kg2⟩)
              (first
                | (go_at_call 88; refine (i_answer P Q G f (secB2 Q key k) 1 _ ⟨hP1, hP2⟩ ⟨hQ1, hQ2⟩ ⟨by omega, by omega⟩ ⟨by omega, by omega⟩ ⟨by omega, by omega⟩).mono ?_; rintro e w5 ⟨rfl, hb5⟩; rw [← HA.out]; have b5 := bel_trans (bel_drew _) hb5; have g5 := HG4.on b5; clear hb5)
                | (go_at_call 94; refine (i_pads P Q G (secA Q key k) A k _ ⟨hP1, hP2⟩ ⟨hQ1, hQ2⟩ ⟨by omega, by omega⟩ ⟨by omega, by omega⟩ ⟨by omega, by omega⟩ ⟨by omega, by omega⟩).mono ?_; rintro e w6 ⟨rfl, hb6⟩; rw [← HZ.out, ← HOO.out]; have b6 := bel_trans b5 hb6; have g6 := g5.on hb6; clear hb6))
            have HO6 := Lib.hid (ownsRow_below HO4.out b6); have HB6 := bel_trans HB4 b6; have y6 := b6.size
            have r0 := cell_on p0 b6; have r1 := cell_on p1 b6; have r2 := cell_on p2 b6
            clear b5 g5 b6 kg0 kg1 kg2 HG4 HO4 HB4 p0 p1 p2
            obtain ⟨u0, hu0⟩ : ∃ u, u = bits .xor .i64 x0 zz := ⟨_, rfl⟩
            obtain ⟨u1, hu1⟩ : ∃ u, u = bits .xor .i64 x1 oo := ⟨_, rfl⟩
            have HU : Hid (bits .xor .i64 u1 (padOf (gpw P Q f (secB2 Q key k)) k) = x1) := by
              show _ = _
              rw [hu1, ← HPD.out]; exact xor_xor _ (by unfold Fits; omega)
            have A6 := bel_alloc w6 (.cells #[.int .i64 u0, .int .i64 u1] 3)
            have s0 : (w6.alloc (.cells #[.int .i64 u0, .int .i64 u1] 3)).cell? ⟨w6.heap.size, 1, none⟩ = some (.int .i64 u1) := World.cell?_alloc_at _ _ _ _ rfl
            have HO7 := Lib.hid (ownsRow_below HO6.out A6); have HB7 := bel_trans HB6 A6; have g7 := g6.on A6; have y7 := A6.size
            obtain ⟨w7, hw7⟩ : ∃ X, X = w6.alloc (.cells #[.int .i64 u0, .int .i64 u1] 3) := ⟨_, rfl⟩
            rw [← hw7] at s0 HO7 HB7 g7 A6 y7
            have hw7' := hw7.symm; clear hw7
            rw [hu0, hu1] at hw7'
            clear hu0 hu1
            go_wp2
            go_region_held3 (fun W => W.cell? ⟨b2, off2 + k, none⟩ = some (.slice (some ⟨b3, off3, none⟩) 2 cc2) ∧ W.cell? ⟨b3, off3, none⟩ = some (.int .i64 x0) ∧ W.cell? ⟨b3, off3 + 1, none⟩ = some (.int .i64 x1)) (first | exact ⟨r0, r1, r2⟩ | exact ⟨cell_on r0 (by (repeat (first | exact Below.refl _ _ | assumption | refine bel_trans ?_ (bel_alloc _ _) | refine bel_set ?_ (by first | (dsimp only; omega) | (simp; omega) | simp) _ | refine bel_trans ?_ (bel_drewN _ _) | refine bel_trans ?_ (bel_drew _) | refine bel_trans ?_ (by assumption)))), cell_on r1 (by (repeat (first | exact Below.refl _ _ | assumption | refine bel_trans ?_ (bel_alloc _ _) | refine bel_set ?_ (by first | (dsimp only; omega) | (simp; omega) | simp) _ | refine bel_trans ?_ (bel_drewN _ _) | refine bel_trans ?_ (bel_drew _) | refine bel_trans ?_ (by assumption)))), cell_on r2 (by (repeat (first | exact Below.refl _ _ | assumption | refine bel_trans ?_ (bel_alloc _ _) | refine bel_set ?_ (by first | (dsimp only; omega) | (simp; omega) | simp) _ | refine bel_trans ?_ (bel_drewN _ _) | refine bel_trans ?_ (bel_drew _) | refine bel_trans ?_ (by assumption))))⟩) (fail)
            have hz7 := HB7.size
            obtain ⟨d1, d2⟩ := gpw_bd P Q f (secB2 Q key k) (by omega)
            obtain ⟨gb, hgb⟩ : ∃ z, z = gpw P Q f (secB2 Q key k) := ⟨_, rfl⟩
            rw [← hgb] at d1 d2 HU
            have HGB := Lib.hid hgb; clear hgb
            obtain ⟨pp, hpp⟩ : ∃ z, z = padOf gb k := ⟨_, rfl⟩
            have ppb := padOf_bd gb k
            rw [← hpp] at HU ppb
            have HPP := Lib.hid hpp; clear hpp
            have hU := HU.out
            obtain ⟨kg0, kg1, kg2⟩ := id g7
            have z0 : w7.drew.drew.cell? ⟨w6.heap.size, 1, none⟩ = some (.int .i64 u1) := s0
            have z1 : w7.drew.drew.cell? ⟨w.heap.size, 0, none⟩ = some (.int .i64 P) := kg0
            have z2 : w7.drew.drew.cell? ⟨w.heap.size, 1, none⟩ = some (.int .i64 Q) := kg1
            have z3 : w7.drew.drew.cell? ⟨w.heap.size, 2, none⟩ = some (.int .i64 G) := kg2
            have hne : some w6.heap.size ≠ u10.ownBlock := fun e => by have := (ownLt HO6.out _ e.symm).2; omega
            go_wp2
            go_region_held3 (fun W => W.cell? ⟨w6.heap.size, 1, none⟩ = some (.int .i64 u1) ∧ W.cell? ⟨w.heap.size, 0, none⟩ = some (.int .i64 P) ∧ W.cell? ⟨w.heap.size, 1, none⟩ = some (.int .i64 Q) ∧ W.cell? ⟨w.heap.size, 2, none⟩ = some (.int .i64 G)) (refine ⟨?_, ?_, ?_, ?_⟩ <;> first | assumption | (refine cell_on ?_ (bel_alloc _ _); assumption))
              (first
                | (go_at_call 62; refine (i_gpower P Q G f (secB2 Q key k) _ ⟨hP1, hP2⟩ ⟨hQ1, hQ2⟩ ⟨by omega, by omega⟩ ⟨by omega, by omega⟩).mono ?_; rintro e w8 ⟨rfl, hb8⟩; rw [← HGB.out]; have b8 := bel_trans (bel_trans (bel_drew _) (bel_drew _)) hb8; have g8 := g7.on b8; have s8 := cell_on s0 b8; clear hb8; obtain ⟨g80, g81, g82⟩ := id g8)
                | (go_at_call 93; refine (i_pad gb k _ ⟨by omega, by omega⟩ ⟨by omega, by omega⟩).mono ?_; rintro e w9 ⟨rfl, hb9⟩; rw [← HPP.out]; have b9 := bel_trans b8 hb9; have g9 := g8.on hb9; have t9 := cell_on s8 hb9; clear hb9 g8 s8; obtain ⟨g90, g91, g92⟩ := id g9)
                | (have t0 := b9; clear t0; refine step_app w7 w2.heap.size k _ (chN ps xs k) x1 _ (by rfl) _ _ (by rfl) (by rfl) (by rfl) (World.cell?_alloc_at _ _ _ _ rfl) HO7.out (by (repeat (first | exact Below.refl _ _ | assumption | refine bel_trans ?_ (bel_alloc _ _) | refine bel_set ?_ (by first | (dsimp only; omega) | (simp; omega) | simp) _ | refine bel_trans ?_ (bel_drewN _ _) | refine bel_trans ?_ (bel_drew _) | refine bel_trans ?_ (by assumption)))) (by omega) (by omega) ?_; intro v10 w10 hv10 hb10 hg10; have t10 := hg10.cell (cell_on t9 (bel_alloc _ _)) hne; have g10 := Gx.onB (g9.on (bel_alloc _ _)) hb10 hz2; have y9 := b9.size; have y10 : w2.heap.size ≤ w10.heap.size := (by have h := hb10.size; simp at h; omega); have b10 := (bel_trans (bel_trans HB7 b9) (bel_alloc _ _)).trans (hb10.mono (by omega)); clear hb10 hg10; obtain ⟨g100, g101, g102⟩ := id g10))
            go_wp2
            go_roundw
            case rel => exact ⟨k + 1, by omega, by go_num, (by rw [HCX.out]; exact hv10), (show Hid _ from g10), y10, (show Hid _ from b10)⟩
            case measure => simp [intOf]; omega
        · obtain rfl : k = n2 := by omega
          obtain ⟨a9, c9, rfl, hM⟩ := Mine.of HO.out (by omega) (chN_fit HP.out (fun j hj => inB_iff.1 (allIn_iff.1 Q3.out j (by rw [hl.out]; exact hj))))
          have HF := Lib.hid (hM.base (B' := w.heap.size) (by omega)); clear hM HO
          go_wp2
          exact bodyPost_ret (v := .tuple #[.slice a9 k c9, .bool true]) (by simp [results, Try.results49, go_sem]) rfl ⟨a9, c9, by simp [chN_len], by simpa [chN_len] using HF.out, HB.out⟩
set_option maxHeartbeats 8000000 in
theorem s_TransferAll (P Q G key : Int) (a2 : Option Addr) (n2 cap2 : Nat) (ps : List (List Int)) (a : Option Addr) (n cap : Nat) (xs : List Int) (w : World) (fP : Fits P) (fQ : Fits Q) (fG : Fits G) (fk : Fits key) (h2 : Rws w a2 n2 cap2 ps) (h : Ints w a n cap xs) :
    Calls Try.prog 50 #[.agg #[.int .i64 P, .int .i64 Q, .int .i64 G], .int .i64 key, .slice a2 n2 cap2, .slice a n cap] w fun e w' =>
      ∃ r c, e = .returned (.tuple #[.slice r (transAll P Q G key ps xs).1.length c, .bool (transAll P Q G key ps xs).2]) ∧ Mine w' w.heap.size r (transAll P Q G key ps xs).1.length c (transAll P Q G key ps xs).1 ∧ Below w.heap.size w w' := by
  have hl := h.len; have hl2 := h2.len
  have hs := h.small; have hs2 := h2.small
  have A0 := bel_alloc w (.cells #[.int .i64 P, .int .i64 Q, .int .i64 G] 24)
  have g0 := Gx.new (w := w) (P := P) (Q := Q) (G := G) (t := 24)
  have h1 := h.below A0; have h21 := h2.below A0
  obtain ⟨k0, k1, k2⟩ := id g0
  cases hc : chsB P Q G key xs with
  | false =>
    rw [transAll_no (taB_no (fun q => by rw [hc] at q; cases q.1))]
    go_enter Try.func50, Try.ntmps50
    go_wp2_with fail
    refine (s_otChoices _ _ _ _ _ _ _ xs _ h1).mono ?_; rintro e w1 ⟨rfl, hb1⟩; rw [hc]
    go_wp2
    go_ret2
    exact ⟨none, 0, rfl, Mine.nil, by (repeat (first | exact Below.refl _ _ | assumption | refine bel_trans ?_ (bel_alloc _ _) | refine bel_set ?_ (by first | (dsimp only; omega) | (simp; omega) | simp) _ | refine bel_trans ?_ (bel_drewN _ _) | refine bel_trans ?_ (bel_drew _) | refine bel_trans ?_ (by assumption)))⟩
  | true =>
    by_cases hn : n2 = n
    rotate_left
    · have hni : ¬ (n2 : Int) = (n : Int) := by omega
      rw [transAll_no (taB_no (fun q => hn (by rw [← hl.out, ← hl2.out]; exact q.2.1)))]
      go_enter Try.func50, Try.ntmps50
      go_wp2_with fail
      refine (s_otChoices _ _ _ _ _ _ _ xs _ h1).mono ?_; rintro e w1 ⟨rfl, hb1⟩; rw [hc]
      go_wp2
      go_ret2
      exact ⟨none, 0, rfl, Mine.nil, by (repeat (first | exact Below.refl _ _ | assumption | refine bel_trans ?_ (bel_alloc _ _) | refine bel_set ?_ (by first | (dsimp only; omega) | (simp; omega) | simp) _ | refine bel_trans ?_ (bel_drewN _ _) | refine bel_trans ?_ (bel_drew _) | refine bel_trans ?_ (by assumption)))⟩
    subst hn
    obtain ⟨q1, q2, q3, q4⟩ := chsB_iff.1 hc
    obtain ⟨⟨hP1, hP2⟩, ⟨hQ1, hQ2⟩, ⟨hG1, hG2⟩⟩ := grB_lo q1
    obtain ⟨hk1, hk2⟩ := inB_iff.1 q2
    rw [hl.out] at q4
    have Q1 := Lib.hid q1; have Q3 := Lib.hid q3; clear q3 q1 q2
    go_enter Try.func50, Try.ntmps50
    go_wp2_with fail
    refine (s_otChoices _ _ _ _ _ _ _ xs _ h1).mono ?_; rintro e w1 ⟨rfl, hb1⟩; rw [hc]
    have bb := bel_trans A0 hb1
    have hz1 : w.heap.size ≤ w1.heap.size := bb.size
    clear hb1 g0 k0 k1 k2 h1 h21 A0
    go_wp2
    go_loopw [10, 27] (fun r i W => ∃ k : Nat, k ≤ n2 ∧ i = .int .i64 k ∧ Hid (∀ j, j < k → okP (rowN ps j) = true) ∧ Hid (W.ownsRow w1.heap.size 3 1 r k (ivs (chN ps xs k))) ∧ w1.heap.size ≤ W.heap.size ∧ Hid (Below w.heap.size w W)) (fun _ i _ => n2 - (intOf i).toNat)
    case atStart => exact ⟨0, by omega, rfl, fun j hj => by omega, (show Hid _ from World.ownsRow_nil _ _ _ _), Nat.le_refl _, (show Hid _ from bb)⟩
    case round =>
      clear bb
      obtain ⟨k, hk, rfl, HK, HO, hzr, HB⟩ := hrel
      by_cases hlt : k < n2
      · obtain ⟨b2, off2, r2, m2, cc2, rfl, hbl2, hc2, hr2⟩ := (h2.below HB.out).at hlt
        have HXX := Lib.hid (And.intro h h2)
        have hm2s := hr2.small
        by_cases hm2 : m2 = 2
        rotate_left
        · have hm2i : ¬ (m2 : Int) = 2 := by omega
          have HT := Lib.hid (transAll_no (taB_no (P := P) (Q := Q) (G := G) (key := key) (xs := xs) (fun q => by
            have := allR_iff.1 q.2.2 k (by rw [hl2.out]; exact hlt)
            exact hm2 (by rw [← hr2.len.out]; exact (okP_iff.1 this).1))))
          clear h h2
          go_wp2
          exact bodyPost_ret (v := .tuple #[.slice none 0 0, .bool false]) (by simp [results, Try.results50, go_sem]) rfl (by rw [HT.out]; exact ⟨none, 0, rfl, Mine.nil, HB.out⟩)
        subst hm2
        cases hal : allIn (rowN ps k) 0 65535 with
        | false =>
          have HT := Lib.hid (transAll_no (taB_no (P := P) (Q := Q) (G := G) (key := key) (xs := xs) (fun q => by
            have := allR_iff.1 q.2.2 k (by rw [hl2.out]; exact hlt)
            have := (okP_iff.1 this).2
            rw [hal] at this; cases this)))
          clear h h2
          go_wp2_with fail
          refine (s_l1All _ _ _ (rowN ps k) _ _ _ hr2).mono ?_; rintro e wx ⟨rfl, hwx⟩; subst hwx; rw [hal]
          go_wp2
          exact bodyPost_ret (v := .tuple #[.slice none 0 0, .bool false]) (by simp [results, Try.results50, go_sem]) rfl (by rw [HT.out]; exact ⟨none, 0, rfl, Mine.nil, HB.out⟩)
        | true =>
          have hok : okP (rowN ps k) = true := okP_iff.2 ⟨hr2.len.out, hal⟩
          obtain ⟨b, off, rfl, hbl, hc⟩ := (h.below HB.out).at hlt
          have hci := inB_iff.1 (allIn_iff.1 Q3.out k (by rw [hl.out]; exact hlt))
          obtain ⟨b3, off3, rfl, hbl3, hc30⟩ := hr2.at (i := 0) (by omega)
          have hc31 : wr.cell? ⟨b3, off3 + 1, none⟩ = some (.int .i64 (nth (rowN ps k) 1)) := by
            obtain ⟨_, _, e3, _, h3⟩ := hr2.at (i := 1) (by omega)
            simp only [Option.some.injEq, Addr.mk.injEq] at e3; obtain ⟨rfl, rfl, _⟩ := e3; exact h3
          rw [Nat.add_zero] at hc30
          have hcap3 := hr2.ncap
          have HCS0 : Hid (nth xs k = 0 → chN ps xs (k + 1) = chN ps xs k ++ [nth (rowN ps k) 0]) := fun e => by rw [chN_succ]; unfold chAt; rw [e]; rfl
          have HCS1 : Hid (nth xs k = 1 → chN ps xs (k + 1) = chN ps xs k ++ [nth (rowN ps k) 1]) := fun e => by rw [chN_succ]; unfold chAt; rw [e]; rfl
          have HR2 := Lib.hid hr2; clear h h2 hr2
          generalize nth xs k = c at *
          rcases (show c = 0 ∨ c = 1 by omega) with rfl | rfl
          · go_wp2_with fail
            refine (s_l1All _ _ _ (rowN ps k) _ _ _ HR2.out).mono ?_; rintro e wx ⟨rfl, hwx⟩; subst hwx; rw [hal]
            go_wp2_with (at_builtin; refine wp_app wr w1.heap.size k _ (chN ps xs k) (nth (rowN ps k) 0) _ _ rfl _ _ rfl rfl rfl (by first | rfl | simp) HO.out (by omega) (by omega) ?_; intro v9 w9 hv9 hb9 hg9)
            have y9 : w1.heap.size ≤ w9.heap.size := by have h := hb9.size; omega
            clear hg9
            go_roundw
            case rel => exact ⟨k + 1, by omega, by go_num, (show Hid _ from fun j hj => by
              rcases Nat.lt_or_ge j k with g | g
              · exact HK.out j g
              · obtain rfl : j = k := by omega
                exact hok), (by rw [HCS0.out (by first | trivial | rfl)]; exact hv9), y9, (show Hid _ from HB.out.trans (hb9.mono (by omega)))⟩
            case measure => simp [intOf]; omega
          
          · go_wp2_with fail
            refine (s_l1All _ _ _ (rowN ps k) _ _ _ HR2.out).mono ?_; rintro e wx ⟨rfl, hwx⟩; subst hwx; rw [hal]
            go_wp2_with (at_builtin; refine wp_app wr w1.heap.size k _ (chN ps xs k) (nth (rowN ps k) 1) _ _ rfl _ _ rfl rfl rfl (by first | rfl | simp) HO.out (by omega) (by omega) ?_; intro v9 w9 hv9 hb9 hg9)
            have y9 : w1.heap.size ≤ w9.heap.size := by have h := hb9.size; omega
            clear hg9
            go_roundw
            case rel => exact ⟨k + 1, by omega, by go_num, (show Hid _ from fun j hj => by
              rcases Nat.lt_or_ge j k with g | g
              · exact HK.out j g
              · obtain rfl : j = k := by omega
                exact hok), (by rw [HCS1.out (by first | trivial | rfl)]; exact hv9), y9, (show Hid _ from HB.out.trans (hb9.mono (by omega)))⟩
            case measure => simp [intOf]; omega
      · obtain rfl : k = n2 := by omega
        have hall : ps.all okP = true := allR_iff.2 (fun j hj => HK.out j (by rw [hl2.out] at hj; exact hj))
        have HT := Lib.hid (transAll_yes (taB_iff.2 ⟨hc, by rw [hl.out, hl2.out], hall⟩))
        obtain ⟨a9, c9, rfl, hM⟩ := Mine.of HO.out (by omega) (chN_fit HK.out (fun j hj => inB_iff.1 (allIn_iff.1 Q3.out j (by rw [hl.out]; exact hj))))
        have HF := Lib.hid (hM.base (B' := w.heap.size) (by omega)); clear hM HO
        go_wp2
        exact bodyPost_ret (v := .tuple #[.slice a9 k c9, .bool true]) (by simp [results, Try.results50, go_sem]) rfl (by rw [HT.out, hl.out]; exact ⟨a9, c9, by simp [chN_len], by simpa [chN_len] using HF.out, HB.out⟩)
end Go.Proofs.Ytklgneaamhjfpaa
