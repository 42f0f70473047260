/-
  The polynomial through points and its values, as the reference makes them.
-/
import Derived.Test.YtfichpppjpgahaaLn
import Derived.Test.YtfichpppjpgahaaLm
import Derived.Test.YtfichpppjpgahaaLh
namespace Go.Proofs.Ytfichpppjpgahaa
open Go.RowKit
set_option linter.unusedVariables false
set_option linter.unusedSimpArgs false
set_option maxRecDepth 20000

theorem wtS_bd {p : Int} (hp : 2 ≤ p) (xs : List Int) (i : Nat) (x : Int) : ∀ k, 0 ≤ wtS p xs i x k ∧ wtS p xs i x k < p
  | 0 => by rw [wtS]; omega
  | k + 1 => by
    rw [wtS]; split
    · exact wtS_bd hp xs i x k
    · exact ⟨Int.emod_nonneg _ (by omega), Int.emod_lt_of_pos _ (by omega)⟩
set_option maxHeartbeats 2000000 in
theorem s_fpWeight (p x : Int) (a : Option Addr) (n cap i : Nat) (xs : List Int) (w : World) (h : Ints w a n cap xs) (hp : 2 ≤ p ∧ p ≤ 251) (hx : Hid (∀ i, i < n → 0 ≤ nth xs i ∧ nth xs i ≤ p - 1)) (hi : i < n) (hn : n ≤ 1000) (hxx : 0 ≤ x ∧ x ≤ 251) :
    Calls Try.prog 117 #[.int .i64 p, .slice a n cap, .int .i64 i, .int .i64 x] w fun e w' => e = .returned (.int .i64 (wtS p xs i x n)) ∧ Below w.heap.size w w' := by
  obtain ⟨hp1, hp2⟩ := hp; obtain ⟨hxx1, hxx2⟩ := hxx
  have HX := Lib.hid h; clear h
  have hiI : (i : Int) < (n : Int) := by omega
  go_enter Try.func117, Try.ntmps117
  go_wp2
  go_loopw [9, 14] (fun o k wr => ∃ (j : Nat) (O : Int), j ≤ n ∧ k = .int .i64 j ∧ o = .int .i64 O ∧ 0 ≤ O ∧ O ≤ 251 ∧ Hid (O = wtS p xs i x j) ∧ Hid (Below w.heap.size w wr)) (fun _ k _ => n - (intOf k).toNat)
  case atStart => exact ⟨0, 1, by omega, rfl, rfl, by omega, by omega, (show (1 : Int) = wtS p xs i x 0 from rfl), Below.refl _ _⟩
  case round =>
    obtain ⟨j, O, hj, rfl, rfl, hO1, hO2, HO, BW⟩ := hrel
    by_cases hlt : j < n
    · obtain ⟨b, off, rfl, hbl, hc⟩ := (HX.out.below BW.out).at hlt
      obtain ⟨b2, off2, e2, hbl2, hc2⟩ := (HX.out.below BW.out).at hi
      simp only [Option.some.injEq, Addr.mk.injEq] at e2
      obtain ⟨rfl, rfl, _⟩ := e2
      obtain ⟨cx1, cx2⟩ := hx.out j hlt
      obtain ⟨dx1, dx2⟩ := hx.out i hi
      by_cases hjk : j = i
      · subst hjk
        have HVS : Hid (wtS p xs j x (j + 1) = wtS p xs j x j) := by show _ = _; rw [wtS, if_pos rfl]
        go_wp2
        go_roundw
        case rel => exact ⟨j + 1, O, by omega, by go_num, rfl, by omega, by omega, (by rw [HVS.out]; exact HO.out), BW.out⟩
        case measure => simp [intOf]; omega
      · have hjki : ((j : Int) == (i : Int)) = false := by rw [beq_eq_false_iff_ne]; omega
        have HVS : Hid (wtS p xs i x (j + 1) = O * ((x - nth xs j) % p) % p * invP p ((nth xs i - nth xs j) % p) % p) := by show _ = _; rw [wtS, if_neg hjk, HO.out]
        have m1 := emod_bd (n := x - nth xs j) (p := p) (by omega)
        have m2 := emod_bd (n := nth xs i - nth xs j) (p := p) (by omega)
        have ib := invP_bd hp1 ((nth xs i - nth xs j) % p)
        obtain ⟨q1, q2⟩ := mul_bd (a := O) (b := (x - nth xs j) % p) 251 251 (by omega) (by omega) (by omega) (by omega)
        have e1 := emod_bd (n := O * ((x - nth xs j) % p)) (p := p) (by omega)
        obtain ⟨q3, q4⟩ := mul_bd (a := O * ((x - nth xs j) % p) % p) (b := invP p ((nth xs i - nth xs j) % p)) 251 251 (by omega) (by omega) (by omega) (by omega)
        have e3 := emod_bd (n := O * ((x - nth xs j) % p) % p * invP p ((nth xs i - nth xs j) % p)) (p := p) (by omega)
        have w1 : IntKind.i64.wrap (x - nth xs j) = x - nth xs j := IntWalk.i64_in _ (by omega)
        have w2 : IntKind.i64.wrap (nth xs i - nth xs j) = nth xs i - nth xs j := IntWalk.i64_in _ (by omega)
        have w3 : IntKind.i64.wrap (O * ((x - nth xs j) % p)) = O * ((x - nth xs j) % p) := IntWalk.i64_in _ (by omega)
        have w4 : (O * ((x - nth xs j) % p)).tmod p = O * ((x - nth xs j) % p) % p := Int.tmod_eq_emod_of_nonneg q1
        have w5 : IntKind.i64.wrap (O * ((x - nth xs j) % p) % p * invP p ((nth xs i - nth xs j) % p)) = O * ((x - nth xs j) % p) % p * invP p ((nth xs i - nth xs j) % p) := IntWalk.i64_in _ (by omega)
        have w6 : (O * ((x - nth xs j) % p) % p * invP p ((nth xs i - nth xs j) % p)).tmod p = O * ((x - nth xs j) % p) % p * invP p ((nth xs i - nth xs j) % p) % p := Int.tmod_eq_emod_of_nonneg q3
        have hp0 : ¬ p = 0 := by omega
        go_wp2
        go_quiet ((first | (go_at_call 51; exact Calls.quiet_of_same ((s_btMod p _ _ (by omega) (by omega) (by omega) (by omega)).mono fun _ _ h => ⟨h.1, h.2.symm⟩)) | (go_at_call 50; exact Calls.quiet_of_same ((s_fpInv p _ _ (by omega) (by omega)).mono fun _ _ h => ⟨h.1, h.2.symm⟩))))
        go_wp2
        go_roundw
        case rel => exact ⟨j + 1, O * ((x - nth xs j) % p) % p * invP p ((nth xs i - nth xs j) % p) % p, by omega, by go_num, rfl, by omega, by omega, (show Hid _ from HVS.out.symm), (show Hid _ from bel_trans BW.out (bel_drewN _ _))⟩
        case measure => simp [intOf]; omega
    · obtain rfl : j = n := by omega
      go_wp2
      go_ret
      exact ⟨by rw [← HO.out]; rfl, BW.out⟩
set_option maxHeartbeats 2000000 in
theorem s_fpAt (p x : Int) (a : Option Addr) (n cap : Nat) (xs : List Int) (a' : Option Addr) (cap' : Nat) (ys : List Int) (w : World) (h : Ints w a n cap xs) (h' : Ints w a' n cap' ys) (hp : 2 ≤ p ∧ p ≤ 251) (hx : Hid (∀ i, i < n → 0 ≤ nth xs i ∧ nth xs i ≤ p - 1)) (hy : Hid (∀ i, i < n → 0 ≤ nth ys i ∧ nth ys i ≤ p - 1)) (hn : n ≤ 1000) (hxx : 0 ≤ x ∧ x ≤ 251) :
    Calls Try.prog 58 #[.int .i64 p, .slice a n cap, .slice a' n cap', .int .i64 x] w fun e w' => e = .returned (.int .i64 (atS p xs ys x n n)) ∧ Below w.heap.size w w' := by
  obtain ⟨hp1, hp2⟩ := hp; obtain ⟨hxx1, hxx2⟩ := hxx
  have HX := Lib.hid h; have HY := Lib.hid h'; clear h h'
  go_enter Try.func58, Try.ntmps58
  go_wp2
  go_loopw [9, 14] (fun o k wr => ∃ (j : Nat) (O : Int), j ≤ n ∧ k = .int .i64 j ∧ o = .int .i64 O ∧ 0 ≤ O ∧ O ≤ 251 ∧ Hid (O = atS p xs ys x n j) ∧ Hid (Below w.heap.size w wr)) (fun _ k _ => n - (intOf k).toNat)
  case atStart => exact ⟨0, 0, by omega, rfl, rfl, by omega, by omega, (show (0 : Int) = atS p xs ys x n 0 from rfl), Below.refl _ _⟩
  case round =>
    obtain ⟨j, O, hj, rfl, rfl, hO1, hO2, HO, BW⟩ := hrel
    by_cases hlt : j < n
    · obtain ⟨b2, off2, rfl, hbl2, hc2⟩ := (HY.out.below BW.out).at hlt
      obtain ⟨cx1, cx2⟩ := hy.out j hlt
      have HW := Lib.hid (s_fpWeight p x a n cap j xs wr (HX.out.below BW.out) ⟨hp1, hp2⟩ hx hlt hn ⟨hxx1, hxx2⟩)
      have HVS : Hid (atS p xs ys x n (j + 1) = (O + nth ys j * wtS p xs j x n) % p) := by show _ = _; rw [atS, HO.out]
      have ib := wtS_bd hp1 xs j x n
      obtain ⟨W1, hW1⟩ : ∃ W, W = wtS p xs j x n := ⟨_, rfl⟩
      rw [← hW1] at HW HVS ib
      have HW1 := Lib.hid hW1; clear hW1
      obtain ⟨q1, q2⟩ := mul_bd (a := nth ys j) (b := W1) 251 251 (by omega) (by omega) (by omega) (by omega)
      have e1 := emod_bd (n := O + nth ys j * W1) (p := p) (by omega)
      go_wp2_with (go_at_call 117; refine HW.out.mono ?_; rintro e w1 ⟨rfl, hb1⟩)
      go_roundw
      case rel => exact ⟨j + 1, (O + nth ys j * W1) % p, by omega, by go_num, rfl, by omega, by omega, (show Hid _ from HVS.out.symm), (show Hid _ from bel_trans BW.out hb1)⟩
      case measure => simp [intOf]; omega
    · obtain rfl : j = n := by omega
      go_wp2
      go_ret
      exact ⟨by rw [← HO.out]; rfl, BW.out⟩
/-- A slice of the call's own and a bool, handed back. -/
def SliceOk (zs : List Int) (ok : Bool) (w : World) (e : Ending) (w' : World) : Prop :=
  ∃ r c, e = .returned (.tuple #[.slice r zs.length c, .bool ok]) ∧ Mine w' w.heap.size r zs.length c zs ∧ Below w.heap.size w w'
def polyThrough (p : Int) (xs ys : List Int) : List Int × Bool := if ptsB p xs ys then (polyI p xs ys xs.length xs.length, true) else ([], false)
theorem ptsB_iff {p : Int} {xs ys : List Int} : ptsB p xs ys = true ↔ prB p = true ∧ Pts p xs ys xs.length ∧ xs.length ≤ 12 := by
  unfold ptsB elsB
  simp only [Bool.and_eq_true, decide_eq_true_iff]
  constructor
  · rintro ⟨⟨h1, h2⟩, ⟨_, h3⟩, h4, h5, h6⟩
    have hx := allIn_iff.1 h2; have hy := allIn_iff.1 h3
    refine ⟨h1, ⟨rfl, h5.symm, fun x hx' => ?_, fun y hy' => ?_, h6⟩, h4⟩
    · obtain ⟨i, hi, rfl⟩ := mem_nth hx'
      have := inB_iff.1 (hx i hi); omega
    · obtain ⟨i, hi, rfl⟩ := mem_nth hy'
      have := inB_iff.1 (hy i hi); omega
  · rintro ⟨h1, h2, h3⟩
    refine ⟨⟨h1, allIn_iff.2 fun i hi => inB_iff.2 ?_⟩, ⟨h1, allIn_iff.2 fun i hi => inB_iff.2 ?_⟩, h3, h2.ly.symm, h2.nd⟩
    · have := h2.rx.at hi; omega
    · have := h2.ry.at hi; omega
set_option maxHeartbeats 8000000 in
theorem s_PolyThrough (p : Int) (a : Option Addr) (n cap : Nat) (xs : List Int) (a' : Option Addr) (n' cap' : Nat) (ys : List Int) (w : World) (h : Ints w a n cap xs) (h' : Ints w a' n' cap' ys) (hn : n ≤ 1000) :
    Calls Try.prog 9 #[.int .i64 p, .slice a n cap, .slice a' n' cap'] w (SliceOk (polyThrough p xs ys).1 (polyThrough p xs ys).2 w) := by
  unfold polyThrough
  have hlx := h.len.out; have hly := h'.len.out
  have HX := Lib.hid h; have HY := Lib.hid h'
  cases hP : ptsB p xs ys with
  | false =>
    go_enter Try.func9, Try.ntmps9
    go_wp2_with (go_at_call 49; refine (s_fpPoints p a a' n cap n' cap' xs ys _ h h' hn).mono ?_; rintro e w1 ⟨rfl, hb1⟩; rw [hP])
    go_ret2
    exact ⟨_, _, rfl, Mine.nil, hb1⟩
  | true =>
    obtain ⟨hpr, hPt, h12⟩ := ptsB_iff.1 hP
    obtain ⟨hp1, hp2⟩ := prB_lo hpr
    rw [hlx] at hPt h12
    obtain rfl : n' = n := by rw [← hly]; exact hPt.ly
    have hx : Hid (∀ i, i < n' → 0 ≤ nth xs i ∧ nth xs i ≤ p - 1) := fun i hi => by have := hPt.rx.at (i := i) (by rw [hPt.lx]; exact hi); omega
    have hy : Hid (∀ i, i < n' → 0 ≤ nth ys i ∧ nth ys i ≤ p - 1) := fun i hi => by have := hPt.ry.at (i := i) (by rw [hPt.ly]; exact hi); omega
    have HPE : Hid (polyI p xs ys n' n' = polyS p xs ys n' n') := poly_eq hp1 xs ys n' (fun i => hPt.ry.any (by omega) i) n'
    have HPL : Hid ((polyI p xs ys n' n').length = n') := polyI_len _ _ _ _ _ (Nat.le_refl _)
    rw [if_pos rfl, hlx]
    have HLX := Lib.hid hlx
    clear hlx hly h h' hPt
    obtain ⟨i0, hi, hz0, hz1, hz2⟩ := info_parts info_int
    go_enter Try.func9, Try.ntmps9
    go_wp2_with fail
    refine (s_fpPoints p a a' n' cap n' cap' xs ys _ HX.out HY.out hn).mono ?_; rintro e w0 ⟨rfl, hb0⟩; rw [hP]
    have HB0 := Lib.hid hb0
    have hz00 := hb0.size
    replace HX := Lib.hid (HX.out.below hb0); replace HY := Lib.hid (HY.out.below hb0)
    clear hb0
    go_wp2_with (at_make; refine wpList_make_full _ rfl _ _ 24 rfl w0.heap.size 3 i0 (.int .i64 0) 1 Try.underlying24 hi hz0 hz1 _ _ _ _ n' rfl rfl rfl rfl ?b1 ?b2 ?b3 ?_)
    case b1 => rw [hz2]; omega
    case b2 => unfold maxLen; omega
    case b3 => exact Nat.le_refl _
    intro w1 hown hgrow
    have hb1 : Below w0.heap.size w0 w1 := (Below.refl _ _).grown hgrow (Nat.le_refl _) (fun k hk => by cases hk)
    try simp only [Nat.mul_one, Value.cells] at hown
    rw [made_ivs] at hown
    obtain ⟨a0, cap0, hv, ho⟩ := OwnI.of hown (by omega) (fun x hx => by rw [List.eq_of_mem_replicate hx]; unfold Fits; omega)
    simp only [Value.slice.injEq] at hv
    obtain ⟨rfl, _, rfl⟩ := hv
    clear hown hgrow hi hz0 hz1 hz2
    have HO := Lib.hid ho; clear ho
    have HB := Lib.hid hb1; clear hb1
    go_wp2
    go_loopw [28] (fun i wr => ∃ k : Nat, k ≤ n' ∧ i = .int .i64 k ∧ Hid (OwnI 3 wr w0.heap.size (some ⟨w0.heap.size, 0, none⟩) n' n' (polyS p xs ys n' k)) ∧ Hid (Below w0.heap.size w0 wr)) (fun i _ => n' - (intOf i).toNat)
    case atStart => exact ⟨0, by omega, rfl, HO.out, HB.out⟩
    case round =>
      obtain ⟨k, hk, rfl, HP, BW⟩ := hrel
      clear HO HB
      obtain ⟨wo, rfl⟩ : ∃ wo : World, wo = wr := ⟨_, rfl⟩
      have hzo := BW.out.size
      by_cases hlt : k < n'
      · obtain ⟨b, off, rfl, hbl, hc⟩ := (HY.out.below BW.out).at hlt
        obtain ⟨cy1, cy2⟩ := hy.out k hlt
        obtain ⟨cx1, cx2⟩ := hx.out k hlt
        have HM1 := Lib.hid (OwnI.lit1 (w := wo) (t := 3) (a := nth ys k) (by unfold Fits; omega))
        have hki : (k : Int) < (n' : Int) := by omega
        go_wp2
        go_loopw [11, 37] (fun v i W => ∃ (j q c : Nat) (r : Option Addr), j ≤ n' ∧ i = .int .i64 j ∧ v = .slice r q c ∧ q ≤ j + 1 ∧ Hid (OwnI 3 W wo.heap.size r q c (paS p xs (nth ys k) k j)) ∧ Hid (Below wo.heap.size wo W)) (fun _ i _ => n' - (intOf i).toNat)
        case atStart => exact ⟨0, 1, 1, _, by omega, rfl, rfl, by omega, HM1.out, (show Hid _ from bel_alloc wo _)⟩
        case round =>
          obtain ⟨j, q, c, r, hj, rfl, rfl, hq, HR, HC⟩ := hrel
          clear HM1
          obtain ⟨wi, rfl⟩ : ∃ wi : World, wi = wr := ⟨_, rfl⟩
          have hzi := HC.out.size
          by_cases hlj : j < n'
          · have hXi := HX.out.below (bel_trans BW.out HC.out)
            obtain ⟨b2, off2, rfl, hbl2, hc2⟩ := hXi.at hlj
            obtain ⟨b3, off3, e3, hbl3, hc3⟩ := hXi.at hlt
            simp only [Option.some.injEq, Addr.mk.injEq] at e3
            obtain ⟨rfl, rfl, _⟩ := e3
            clear hXi
            obtain ⟨dx1, dx2⟩ := hx.out j hlj
            by_cases hjk : j = k
            · subst hjk
              have HPS : Hid (paS p xs (nth ys j) j (j + 1) = paS p xs (nth ys j) j j) := by show _ = _; rw [paS, if_pos rfl]
              go_wp2
              go_roundw
              case rel => exact ⟨j + 1, q, c, r, by omega, by go_num, rfl, by omega, (by rw [HPS.out]; exact HR.out), HC.out⟩
              case measure => simp [intOf]; omega
            · have hjki : ((j : Int) == (k : Int)) = false := by rw [beq_eq_false_iff_ne]; omega
              have HPS : Hid (paS p xs (nth ys k) k (j + 1) = scl p (invP p ((nth xs k - nth xs j) % p)) (mx p (-nth xs j % p) (paS p xs (nth ys k) k j))) := by show _ = _; rw [paS, if_neg hjk]
              have hres := Lib.hid (paS_res hp1 (y := nth ys k) (by omega) xs k j)
              have hql := Lib.hid HR.out.ints.len.out
              have m1 := emod_bd (n := nth xs k - nth xs j) (p := p) (by omega)
              have m2 := emod_bd (n := -nth xs j) (p := p) (by omega)
              obtain ⟨M1, hM1⟩ : ∃ M, M = (nth xs k - nth xs j) % p := ⟨_, rfl⟩
              obtain ⟨M2, hM2⟩ : ∃ M, M = -nth xs j % p := ⟨_, rfl⟩
              have c1 := Lib.hid (fun W => s_btMod p (nth xs k - nth xs j) W (by omega) (by omega) (by omega) (by omega))
              have c2 := Lib.hid (fun W => s_btMod p (-nth xs j) W (by omega) (by omega) (by omega) (by omega))
              rw [← hM1] at m1 HPS c1; rw [← hM2] at m2 HPS c2
              clear hM1 hM2
              have ib := invP_bd hp1 M1
              have c3 := Lib.hid (fun W => s_fpInv p M1 W (by omega) (by omega))
              obtain ⟨S, hS⟩ : ∃ S, S = invP p M1 := ⟨_, rfl⟩
              rw [← hS] at ib HPS c3; clear hS
              go_wp2_with fail
              refine (c1.out _).mono ?_; rintro e wx ⟨rfl, rfl⟩
              go_wp2_with fail
              refine (c3.out _).mono ?_; rintro e wx ⟨rfl, rfl⟩
              go_wp2_with fail
              refine (c2.out _).mono ?_; rintro e wx ⟨rfl, rfl⟩
              go_wp2_with fail
              refine (s_fpTimes p M2 r q c _ _ HR.out.ints (by omega) (by omega) (fun i hi => by have := hres.out.at (i := i) (by rw [hql.out]; exact hi); omega) (by omega)).mono ?_; rintro e w3 ⟨r3, c3', rfl, ho3, hb3⟩
              have HO3 := Lib.hid ho3; have HB3 := Lib.hid hb3; clear ho3 hb3 c1 c2 c3
              have hres3 := Lib.hid (Res.mx hp1 M2 (paS p xs (nth ys k) k j))
              have hml : Hid ((mx p M2 (paS p xs (nth ys k) k j)).length = q + 1) := by show _ = _; rw [mx_len, hql.out]
              obtain ⟨L, hL⟩ : ∃ L, L = mx p M2 (paS p xs (nth ys k) k j) := ⟨_, rfl⟩
              rw [← hL] at HO3 HPS hres3 hml; clear hL
              go_wp2
              go_loopw [64] (fun i W => ∃ d : Nat, d ≤ q + 1 ∧ i = .int .i64 d ∧ Hid (∃ zs, OwnI 3 W wi.heap.size r3 (q + 1) c3' zs ∧ ∀ j', j' < q + 1 → nth zs j' = scg p S L d j') ∧ Hid (Below wi.heap.size wi W)) (fun i _ => q + 1 - (intOf i).toNat)
              case atStart => exact ⟨0, by omega, rfl, ⟨_, HO3.out, fun j' hj' => by rw [scg_0]⟩, HB3.out⟩
              case round =>
                obtain ⟨d, hd, rfl, HYs, BWd⟩ := hrel
                clear HO3 HB3
                obtain ⟨zs, hz, hjs⟩ := HYs.out
                have hzl := hz.ints.len
                by_cases hlt2 : d < q + 1
                · obtain ⟨g, rfl, hBg, hgl, hcA, hfA⟩ := hz.at (i := d) hlt2
                  rw [hjs d hlt2, scg_at] at hcA
                  obtain ⟨d1, d2⟩ := hres3.out.at (i := d) (by rw [hml.out]; exact hlt2)
                  obtain ⟨q1, q2⟩ := mul_bd (a := nth L d) (b := S) 251 251 (by omega) (by omega) (by omega) (by omega)
                  have e1 := emod_bd (n := nth L d * S) (p := p) (by omega)
                  have HY2 := Lib.hid (hz.set (i := d) hlt2 (nth L d * S % p) (by unfold Fits; omega))
                  have HJ := Lib.hid hjs
                  have hdI : (d : Int) < ((q : Int) + 1) := by omega
                  clear hz hjs HYs
                  go_wp2
                  go_roundw
                  case rel => exact ⟨d + 1, by omega, by go_num, (show Hid _ from ⟨_, HY2.out, fun j' hj' => by
                      rw [nth_set (by rw [hzl.out]; omega)]
                      by_cases ek : j' = d
                      · rw [if_pos ek, ek]; exact scg_same p S _ d
                      · rw [if_neg ek, HJ.out j' hj']; exact scg_other p S _ d j' ek⟩), (show Hid _ from BWd.out.setCell hBg _)⟩
                  case measure => simp [intOf]; omega
                · obtain rfl : d = q + 1 := by omega
                  obtain rfl : zs = scl p S L := eq_of_nth (by rw [hzl.out, scl_len, hml.out]) (fun j' hj' => by
                    rw [hzl.out] at hj'
                    rw [hjs j' hj', scg_end p S _ _ j' hml.out hj'])
                  have H2 := Lib.hid (hz.base hzi); clear hz hjs HYs
                  have HC2 := Lib.hid (bel_trans HC.out BWd.out)
                  go_wp2
                  go_roundw
                  case rel => exact ⟨j + 1, q + 1, c3', r3, by omega, by go_num, rfl, by omega, (by rw [HPS.out]; exact H2.out), HC2.out⟩
                  case measure => simp [intOf]; omega
          · obtain rfl : j = n' := by omega
            have hq1 : q = j := by
              have := HR.out.ints.len.out
              rw [paS_len, if_pos (by omega)] at this; omega
            subst hq1
            have hgo : w0.heap.size < wo.heap.size := by
              obtain ⟨g, e, _, hgl, _, _⟩ := HP.out.at hlt
              simp only [Option.some.injEq, Addr.mk.injEq] at e
              obtain ⟨rfl, _, _⟩ := e
              exact hgl
            have HPLm := Lib.hid HR.out.mine.pl
            have HR1 := Lib.hid HR.out.ints
            have HP1 := Lib.hid (HP.out.below HC.out)
            have HB1 := Lib.hid (bel_trans BW.out HC.out)
            have hres := Lib.hid (paS_res hp1 (y := nth ys k) (by omega) xs k q)
            have hol := Lib.hid (polyS_len p xs ys q k (by omega))
            have hor := Lib.hid (polyS_res hp1 xs ys q k (by omega))
            have hpl := Lib.hid HR.out.ints.len.out
            have HPS : Hid (polyS p xs ys q (k + 1) = addS p 1 (polyS p xs ys q k) (paS p xs (nth ys k) k q)) := by show _ = _; rw [polyS]
            clear HR HP HC BW hc
            go_wp2
            go_loopw [82] (fun i W => ∃ d : Nat, d ≤ q ∧ i = .int .i64 d ∧ Hid (∃ zs, OwnI 3 W w0.heap.size (some ⟨w0.heap.size, 0, none⟩) q q zs ∧ ∀ j', j' < q → nth zs j' = adg p 1 (polyS p xs ys q k) (paS p xs (nth ys k) k q) d j') ∧ Hid (Ints W r q c (paS p xs (nth ys k) k q)) ∧ Hid (Below w0.heap.size w0 W)) (fun i _ => q - (intOf i).toNat)
            case atStart => exact ⟨0, by omega, rfl, (show Hid _ from ⟨_, HP1.out, fun j' hj' => by rw [adg_0]⟩), HR1.out, HB1.out⟩
            case round =>
              obtain ⟨d, hd, rfl, HYs, HRd, BWd⟩ := hrel
              clear HP1 HR1 HB1
              obtain ⟨zs, hz, hjs⟩ := HYs.out
              have hzl := hz.ints.len
              by_cases hlt2 : d < q
              · obtain ⟨b3, off3, rfl, hbl3, hc3⟩ := HRd.out.at hlt2
                obtain ⟨g, e, hBg, hgl, hcA, hfA⟩ := hz.at (i := d) hlt2
                simp only [Option.some.injEq, Addr.mk.injEq] at e
                obtain ⟨rfl, _, _⟩ := e
                rw [hjs d hlt2, adg_at] at hcA
                obtain ⟨c1, c2⟩ := hres.out.at (i := d) (by rw [hpl.out]; exact hlt2)
                obtain ⟨c3, c4⟩ := hor.out.at (i := d) (by rw [hol.out]; exact hlt2)
                have e1 := emod_bd (n := nth (polyS p xs ys q k) d + nth (paS p xs (nth ys k) k q) d) (p := p) (by omega)
                have HY2 := Lib.hid (hz.set (i := d) hlt2 ((nth (polyS p xs ys q k) d + nth (paS p xs (nth ys k) k q) d) % p) (by unfold Fits; omega))
                have HJ := Lib.hid hjs
                have HR2 : Hid (∀ u, Ints (wr.setCell ⟨w0.heap.size, d, none⟩ u) (some ⟨b3, off3, none⟩) q c (paS p xs (nth ys k) k q)) := fun u =>
                  HRd.out.onlyM (a := some ⟨w0.heap.size, 0, none⟩) (m := q) ((OnlyM.refl _ _ _).setCell (by omega) u) HPLm.out (lo' := w0.heap.size) (hi' := w0.heap.size + 1) (fun _ b o e => by simp only [Option.some.injEq, Addr.mk.injEq] at e; omega) (Or.inr (by omega))
                clear hz hjs HYs HRd
                go_wp2
                go_roundw
                case rel => exact ⟨d + 1, by omega, by go_num, (show Hid _ from ⟨_, HY2.out, fun j' hj' => by
                    rw [nth_set (by rw [hzl.out]; omega)]
                    by_cases ek : j' = d
                    · rw [if_pos ek, ek]; have := adg_same p 1 (polyS p xs ys q k) (paS p xs (nth ys k) k q) d; rw [Int.mul_one] at this; exact this
                    · rw [if_neg ek, HJ.out j' hj']; exact adg_other p 1 _ _ d j' ek⟩), (show Hid _ from HR2.out _), (show Hid _ from BWd.out.setCell (Nat.le_refl _) _)⟩
                case measure => simp [intOf]; omega
              · obtain rfl : d = q := by omega
                obtain rfl : zs = addS p 1 (polyS p xs ys d k) (paS p xs (nth ys k) k d) := eq_of_nth (by rw [hzl.out, addS_len _ _ _ _ (by rw [hol.out, hpl.out]), hol.out]) (fun j' hj' => by
                  rw [hzl.out] at hj'
                  rw [hjs j' hj', adg_end p 1 _ _ d j' hol.out hpl.out hj'])
                have H2 := Lib.hid hz; clear hz hjs HYs HRd
                go_wp2
                go_roundw
                case rel => exact ⟨k + 1, by omega, by go_num, (show Hid _ from by rw [HPS.out]; exact H2.out), BWd.out⟩
                case measure => simp [intOf]; omega
      · obtain rfl : k = n' := by omega
        rw [← HPE.out] at HP
        go_wp2
        go_ret2
        exact ⟨_, _, by rw [HPL.out]; rfl, by rw [HPL.out]; exact HP.out.mine.base hz00, bel_trans HB0.out BW.out⟩
set_option maxHeartbeats 2000000 in
theorem i_PolyThrough (p : Int) (a : Option Addr) (n cap : Nat) (xs : List Int) (a' : Option Addr) (n' cap' : Nat) (ys : List Int) (w : World) (h : Ints w a n cap xs) (h' : Ints w a' n' cap' ys) :
    Calls Try.prog 8 #[.int .i64 p, .slice a n cap, .slice a' n' cap'] w (SliceOk (polyThrough p xs ys).1 (polyThrough p xs ys).2 w) := by
  unfold polyThrough
  have hlx := h.len.out; have hly := h'.len.out
  have HX := Lib.hid h; have HY := Lib.hid h'
  cases hP : ptsB p xs ys with
  | false =>
    go_enter Try.func8, Try.ntmps8
    go_wp2_with (go_at_call 47; refine (i_arePoints p a a' n cap n' cap' xs ys _ h h').mono ?_; rintro e w1 ⟨rfl, hb1⟩; rw [hP])
    go_ret2
    exact ⟨_, _, rfl, Mine.nil, hb1⟩
  | true =>
    obtain ⟨hpr, hPt, h12⟩ := ptsB_iff.1 hP
    obtain ⟨hp1, hp2⟩ := prB_lo hpr
    rw [hlx] at hPt h12
    obtain rfl : n' = n := by rw [← hly]; exact hPt.ly
    have hx : Hid (∀ i, i < n' → 0 ≤ nth xs i ∧ nth xs i ≤ p - 1) := fun i hi => by have := hPt.rx.at (i := i) (by rw [hPt.lx]; exact hi); omega
    have hy : Hid (∀ i, i < n' → 0 ≤ nth ys i ∧ nth ys i ≤ p - 1) := fun i hi => by have := hPt.ry.at (i := i) (by rw [hPt.ly]; exact hi); omega
    have HPL : Hid ((polyI p xs ys n' n').length = n') := polyI_len _ _ _ _ _ (Nat.le_refl _)
    rw [if_pos rfl, hlx]
    clear hlx hly h h' hPt
    go_enter Try.func8, Try.ntmps8
    go_wp2_with fail
    refine (i_arePoints p a a' n' cap n' cap' xs ys _ HX.out HY.out).mono ?_; rintro e w1 ⟨rfl, hb1⟩; rw [hP]
    go_wp2_with fail
    refine (i_polyThrough p a n' cap xs a' cap' ys _ (HX.out.below hb1) (HY.out.below hb1) ⟨hp1, hp2⟩ hx hy (by omega)).mono ?_; rintro e w2 ⟨r, c, rfl, ho, hb2⟩
    have hz := hb1.size
    have HO := Lib.hid ho; clear ho
    go_wp2
    go_ret2
    exact ⟨_, _, by rw [HPL.out]; rfl, by rw [HPL.out]; exact HO.out.mine.base hz, bel_trans hb1 hb2⟩
theorem evB_nth {p x : Int} {l : List Int} (h : elB p x = true) (h2 : elsB p l = true) : (2 ≤ p ∧ p ≤ 251) ∧ (0 ≤ x ∧ x ≤ p - 1) ∧ ∀ i, i < l.length → 0 ≤ nth l i ∧ nth l i ≤ p - 1 :=
  ⟨elB_p h, (elB_iff.1 h).2, fun i hi => elsB_nth h2 hi⟩
def evalPoly (p : Int) (l : List Int) (x : Int) : Int × Bool := if elB p x && (elsB p l && decide (l.length ≤ 12)) then (hor p x l, true) else (0, false)
set_option maxHeartbeats 2000000 in
theorem i_EvalPoly (p x : Int) (a : Option Addr) (n cap : Nat) (l : List Int) (w : World) (h : Ints w a n cap l) :
    Calls Try.prog 11 #[.int .i64 p, .slice a n cap, .int .i64 x] w fun e w' => e = .returned (.tuple #[.int .i64 (evalPoly p l x).1, .bool (evalPoly p l x).2]) ∧ Below w.heap.size w w' := by
  unfold evalPoly
  have hlx := h.len.out
  rw [hlx]
  have HX := Lib.hid h; clear hlx h
  cases h1 : elB p x with
  | false =>
    go_enter Try.func11, Try.ntmps11
    go_wp2_with (go_at_call 53; refine (i_isElement _ _ _).mono ?_; rintro e w1 ⟨rfl, rfl⟩; rw [h1])
    go_ret2
    exact ⟨rfl, Below.refl _ _⟩
  | true =>
    cases h2 : elsB p l with
    | false =>
      go_enter Try.func11, Try.ntmps11
      go_wp2_with (first | (go_at_call 53; refine (i_isElement _ _ _).mono ?_; rintro e w1 ⟨rfl, rfl⟩; rw [h1]) | (go_at_call 54; refine (i_areElements _ _ _ _ _ _ HX.out).mono ?_; rintro e w1 ⟨rfl, hb1⟩; rw [h2]))
      go_ret2
      exact ⟨rfl, hb1⟩
    | true =>
      obtain ⟨hpp, hxx, hll⟩ := evB_nth h1 h2
      have hlen := HX.out.len.out
      rw [hlen] at hll
      have HLL := Lib.hid hll; clear hll hlen
      by_cases h12 : n ≤ 12
      · rw [decide_eq_true h12]
        have h12i : ¬ (12 : Int) < (n : Int) := by omega
        go_enter Try.func11, Try.ntmps11
        go_wp2_with (first | (go_at_call 53; refine (i_isElement _ _ _).mono ?_; rintro e w1 ⟨rfl, rfl⟩; rw [h1]) | (go_at_call 54; refine (i_areElements _ _ _ _ _ _ HX.out).mono ?_; rintro e w1 ⟨rfl, hb1⟩; rw [h2]) | (go_at_call 55; refine (i_evalPoly p x a n cap l _ (HX.out.below hb1) hpp (by omega) (fun i hi => by have := HLL.out i hi; omega) (by omega)).mono ?_; rintro e w2 ⟨rfl, hb2⟩))
        go_ret2
        exact ⟨rfl, bel_trans hb1 hb2⟩
      · rw [decide_eq_false h12]
        have h12i : (12 : Int) < (n : Int) := by omega
        go_enter Try.func11, Try.ntmps11
        go_wp2_with (first | (go_at_call 53; refine (i_isElement _ _ _).mono ?_; rintro e w1 ⟨rfl, rfl⟩; rw [h1]) | (go_at_call 54; refine (i_areElements _ _ _ _ _ _ HX.out).mono ?_; rintro e w1 ⟨rfl, hb1⟩; rw [h2]))
        go_ret2
        exact ⟨rfl, hb1⟩
end Go.Proofs.Ytfichpppjpgahaa
