/-
  The polynomial through points, as the program makes it.
-/
import Derived.Test.YtfichpppjpgahaaLk
import Derived.Test.YtfichpppjpgahaaLf
namespace Go.Proofs.Ytfichpppjpgahaa
open Go.RowKit
set_option linter.unusedVariables false
set_option linter.unusedSimpArgs false
set_option maxRecDepth 20000

theorem q_inverseP (p a : Int) (w : World) (hp : 2 ≤ p ∧ p ≤ 251) (ha : 0 ≤ a ∧ a ≤ 1000) :
    Calls Try.prog 110 #[.int .i64 p, .int .i64 a] w fun e w' => e = .returned (.int .i64 (invP p a)) ∧ w' = w := (i_inverse p a w hp ha).mono fun _ _ h => ⟨h.1, h.2.symm⟩
theorem invP_bd {p : Int} (hp : 2 ≤ p) (a : Int) : 0 ≤ invP p a ∧ invP p a < p := by
  unfold invP pw; exact ⟨Int.emod_nonneg _ (by omega), Int.emod_lt_of_pos _ (by omega)⟩
theorem OwnI.lit1 {w : World} {t : TypeId} {a : Int} (ha : Fits a) : OwnI t (w.alloc (.cells #[.int .i64 a] t)) w.heap.size (some ⟨w.heap.size, 0, none⟩) 1 1 [a] :=
  ⟨Ints.lit1 rfl ha, World.ownsRow_lit w #[.int .i64 a] 1 (Nat.le_refl _) (by decide) rfl⟩
set_option maxHeartbeats 8000000 in
theorem i_polyThrough (p : Int) (a : Option Addr) (n cap : Nat) (xs : List Int) (a' : Option Addr) (cap' : Nat) (ys : List Int) (w : World) (h : Ints w a n cap xs) (h' : Ints w a' n cap' ys) (hp : 2 ≤ p ∧ p ≤ 251) (hx : Hid (∀ i, i < n → 0 ≤ nth xs i ∧ nth xs i ≤ p - 1)) (hy : Hid (∀ i, i < n → 0 ≤ nth ys i ∧ nth ys i ≤ p - 1)) (hn : n ≤ 1000) :
    Calls Try.prog 48 #[.int .i64 p, .slice a n cap, .slice a' n cap'] w fun e w' => ∃ r c, e = .returned (.slice r n c) ∧ OwnI 3 w' w.heap.size r n c (polyI p xs ys n n) ∧ Below w.heap.size w w' := by
  obtain ⟨hp1, hp2⟩ := hp
  obtain ⟨i0, hi, hz0, hz1, hz2⟩ := info_parts info_int
  have HI := Lib.hid (And.intro hi (And.intro hz0 (And.intro hz1 hz2)))
  have HX := Lib.hid h; have HY := Lib.hid h'; clear h h'
  go_enter Try.func48, Try.ntmps48
  go_wp2_with (at_make; refine wpList_make_full _ rfl _ _ 24 rfl w.heap.size 3 i0 (.int .i64 0) 1 Try.underlying24 hi hz0 hz1 _ _ _ _ n rfl rfl rfl rfl ?b1 ?b2 ?b3 ?_)
  case b1 => rw [hz2]; omega
  case b2 => unfold maxLen; omega
  case b3 => exact Nat.le_refl _
  intro w1 hown hgrow
  have hb1 : Below w.heap.size w w1 := (Below.refl _ _).grown hgrow (Nat.le_refl _) (fun k hk => by cases hk)
  try simp only [Nat.mul_one, Value.cells] at hown
  rw [made_ivs] at hown
  obtain ⟨a0, cap0, hv, ho⟩ := OwnI.of hown (by omega) (fun x hx => by rw [List.eq_of_mem_replicate hx]; unfold Fits; omega)
  simp only [Value.slice.injEq] at hv
  obtain ⟨rfl, _, rfl⟩ := hv
  clear hown hgrow hi hz0 hz1 hz2
  have HO := Lib.hid ho; clear ho
  have HB := Lib.hid hb1; clear hb1
  go_wp2
  go_loopw [25] (fun i wr => ∃ k : Nat, k ≤ n ∧ i = .int .i64 k ∧ Hid (OwnI 3 wr w.heap.size (some ⟨w.heap.size, 0, none⟩) n n (polyI p xs ys n k)) ∧ Hid (Below w.heap.size w wr)) (fun i _ => n - (intOf i).toNat)
  case atStart => exact ⟨0, by omega, rfl, HO.out, HB.out⟩
  case round =>
    obtain ⟨k, hk, rfl, HP, BW⟩ := hrel
    clear HO HB
    obtain ⟨wo, rfl⟩ : ∃ wo : World, wo = wr := ⟨_, rfl⟩
    have hzo := BW.out.size
    by_cases hlt : k < n
    · obtain ⟨b, off, rfl, hbl, hc⟩ := (HX.out.below BW.out).at hlt
      obtain ⟨cx1, cx2⟩ := hx.out k hlt
      have hL1 := Lib.hid (Ints.lit1 (w := wo) (m := wo.heap.size) (t := 3) (a := 1) rfl (by unfold Fits; omega))
      have HM1 := Lib.hid (OwnI.lit1 (w := wo) (t := 3) (a := 1) (by unfold Fits; omega))
      go_wp2
      go_loopw [10, 11, 33] (fun v u i W => ∃ (j q c : Nat) (r : Option Addr) (U : Int), j ≤ n ∧ i = .int .i64 j ∧ v = .slice r q c ∧ u = .int .i64 U ∧ 0 ≤ U ∧ U < p ∧ q ≤ j + 1 ∧ Hid (U = vaI p xs k j) ∧ Hid (OwnI 3 W wo.heap.size r q c (prI p xs k j)) ∧ Hid (Below wo.heap.size wo W)) (fun _ _ i _ => n - (intOf i).toNat)
      case atStart => exact ⟨0, 1, 1, _, 1, by omega, rfl, rfl, rfl, by omega, by omega, by omega, (show (1 : Int) = vaI p xs k 0 from rfl), HM1.out, (show Hid _ from bel_alloc wo _)⟩
      case round =>
        obtain ⟨j, q, c, r, U, hj, rfl, rfl, rfl, hU1, hU2, hq, HU, HR, HC⟩ := hrel
        clear HM1 hL1
        obtain ⟨wi, rfl⟩ : ∃ wi : World, wi = wr := ⟨_, rfl⟩
        have hzi := HC.out.size
        by_cases hlj : j < n
        · obtain ⟨b2, off2, e2, hbl2, hc2⟩ := (HX.out.below (bel_trans BW.out HC.out)).at hlj
          simp only [Option.some.injEq, Addr.mk.injEq] at e2
          obtain ⟨rfl, rfl, _⟩ := e2
          obtain ⟨dx1, dx2⟩ := hx.out j hlj
          by_cases hjk : j = k
          · subst hjk
            have HPS : Hid (prI p xs j (j + 1) = prI p xs j j) := by show _ = _; rw [prI, if_pos rfl]
            have HVS : Hid (vaI p xs j (j + 1) = vaI p xs j j) := by show _ = _; rw [vaI, if_pos rfl]
            go_wp2
            go_roundw
            case rel => exact ⟨j + 1, q, c, r, U, by omega, by go_num, rfl, rfl, by omega, by omega, by omega, (by rw [HVS.out]; exact HU.out), (by rw [HPS.out]; exact HR.out), HC.out⟩
            case measure => simp [intOf]; omega
          · have hjki : ((j : Int) == (k : Int)) = false := by rw [beq_eq_false_iff_ne]; omega
            have HPS : Hid (prI p xs k (j + 1) = mx p (p - nth xs j) (prI p xs k j)) := by show _ = _; rw [prI, if_neg hjk]
            have HVS : Hid (vaI p xs k (j + 1) = U * (nth xs k - nth xs j + p) % p) := by show _ = _; rw [vaI, if_neg hjk, HU.out]
            have hres := Lib.hid (prI_res hp1 xs k j)
            have hql := Lib.hid HR.out.ints.len.out
            obtain ⟨i0, hi, hz0, hz1, hz2⟩ := info_parts info_int
            go_wp2_with (at_make; refine wpList_make_full _ rfl _ _ 24 rfl wi.heap.size 3 i0 (.int .i64 0) 1 Try.underlying24 hi hz0 hz1 _ _ _ _ (q + 1) rfl rfl rfl rfl ?b1 ?b2 ?b3 ?_)
            case b1 => rw [hz2]; omega
            case b2 => unfold maxLen; omega
            case b3 => exact Nat.le_refl _
            intro w2 hown hgrow
            have hb2 : Below wi.heap.size wi w2 := (Below.refl _ _).grown hgrow (Nat.le_refl _) (fun k hk => by cases hk)
            try simp only [Nat.mul_one, Value.cells] at hown
            rw [made_ivs] at hown
            obtain ⟨a0, cap0, hv, ho⟩ := OwnI.of hown (by omega) (fun x hx => by rw [List.eq_of_mem_replicate hx]; unfold Fits; omega)
            simp only [Value.slice.injEq] at hv
            obtain ⟨rfl, _, rfl⟩ := hv
            clear hown hgrow hi hz0 hz1 hz2
            have HO2 := Lib.hid ho; clear ho
            have HB2 := Lib.hid hb2; clear hb2
            obtain ⟨G, hG⟩ : ∃ G : Int, G = p - nth xs j := ⟨_, rfl⟩
            have HG := Lib.hid hG
            have hG1 : 0 ≤ G ∧ G ≤ 251 := by omega
            clear hG
            go_wp2
            go_loopw [47] (fun i W => ∃ d : Nat, d ≤ q ∧ i = .int .i64 d ∧ Hid (∃ zs, OwnI 3 W wi.heap.size (some ⟨wi.heap.size, 0, none⟩) (q + 1) (q + 1) zs ∧ ∀ j', j' ≤ q → nth zs j' = stg p G (prI p xs k j) d j') ∧ Hid (Below wi.heap.size wi W)) (fun i _ => q - (intOf i).toNat)
            case atStart => exact ⟨0, by omega, rfl, ⟨_, HO2.out, fun j hj => by rw [nth_rep, stg_0]⟩, HB2.out⟩
            case round =>
              obtain ⟨d, hd, rfl, HYs, BWd⟩ := hrel
              clear HO2 HB2
              obtain ⟨zs, hz, hjs⟩ := HYs.out
              have hzl := hz.ints.len
              by_cases hlt2 : d < q
              · obtain ⟨b3, off3, rfl, hbl3, hc3⟩ := (HR.out.ints.below BWd.out).at hlt2
                obtain ⟨g, e, hBg, hgl, hcA, hfA⟩ := hz.at (i := d + 1) (by omega)
                simp only [Option.some.injEq, Addr.mk.injEq] at e
                obtain ⟨rfl, _, _⟩ := e
                rw [hjs (d + 1) (by omega)] at hcA
                obtain ⟨c1, c2⟩ := hres.out.at (i := d) (by rw [hql.out]; exact hlt2)
                obtain ⟨q1, q2⟩ := mul_bd (a := nth (prI p xs k j) d) (b := G) 251 251 (by omega) (by omega) (by omega) (by omega)
                obtain ⟨s1, s2⟩ := stg_bd hp1 G (prI p xs k j) d d
                obtain ⟨s3, s4⟩ := stg_bd hp1 G (prI p xs k j) d (d + 1)
                have e1 := emod_bd (n := stg p G (prI p xs k j) d d + nth (prI p xs k j) d * G) (p := p) (by omega)
                have e2 := emod_bd (n := stg p G (prI p xs k j) d (d + 1) + nth (prI p xs k j) d) (p := p) (by omega)
                have hy1 := hz.set (i := d + 1) (by omega) ((stg p G (prI p xs k j) d (d + 1) + nth (prI p xs k j) d) % p) (by unfold Fits; omega)
                obtain ⟨g, e, _, _, hcB, hfB⟩ := hy1.at (i := d) (by omega)
                simp only [Option.some.injEq, Addr.mk.injEq] at e
                obtain ⟨rfl, _, _⟩ := e
                rw [nth_set (by rw [hzl.out]; omega), if_neg (by omega), hjs d (by omega)] at hcB
                have HY2 := Lib.hid (hy1.set (i := d) (by omega) ((stg p G (prI p xs k j) d d + nth (prI p xs k j) d * G) % p) (by unfold Fits; omega))
                have HJ := Lib.hid hjs
                have hpG : p - nth xs j = G := HG.out.symm
                clear hz hy1 hjs HYs
                go_wp2
                go_roundw
                case rel => exact ⟨d + 1, by omega, by go_num, (show Hid _ from ⟨_, HY2.out, fun j' hj' => by
                    rw [nth_set (by rw [List.length_set, hzl.out]; omega)]
                    by_cases ek : j' = d
                    · rw [if_pos ek, ek]; exact stg_lo p G _ d
                    · rw [if_neg ek, nth_set (by rw [hzl.out]; omega)]
                      by_cases ej : j' = d + 1
                      · rw [if_pos ej, ej]; exact stg_hi p G _ d
                      · rw [if_neg ej, HJ.out j' hj']; exact stg_other p G _ d j' ek ej⟩), (show Hid _ from (BWd.out.setCell (Nat.le_refl _) _).setCell (Nat.le_refl _) _)⟩
                case measure => simp [intOf]; omega
              · obtain rfl : d = q := by omega
                obtain rfl : zs = mx p G (prI p xs k j) := eq_of_nth (by rw [hzl.out, mx_len, hql.out]) (fun j' hj' => by
                  rw [hzl.out] at hj'
                  rw [hjs j' (by omega), ← stg_end p G _ j' (by rw [hql.out]; omega), hql.out])
                have H2 := Lib.hid (hz.base hzi); clear hz hjs HYs
                have HC2 := Lib.hid (bel_trans HC.out BWd.out)
                obtain ⟨V, hV⟩ : ∃ V : Int, V = nth xs k - nth xs j + p := ⟨_, rfl⟩
                have hV1 : 0 ≤ V ∧ V ≤ 502 := by omega
                obtain ⟨q3, q4⟩ := mul_bd (a := U) (b := V) 251 502 (by omega) (by omega) (by omega) (by omega)
                have e3 := emod_bd (n := U * V) (p := p) (by omega)
                have w1e : IntKind.i64.wrap (nth xs k - nth xs j) = nth xs k - nth xs j := IntWalk.i64_in _ (by omega)
                have w2e : IntKind.i64.wrap (nth xs k - nth xs j + p) = V := by rw [← hV]; exact IntWalk.i64_in _ (by omega)
                have w3e : IntKind.i64.wrap (U * V) = U * V := IntWalk.i64_in _ (by omega)
                have w4e : (U * V).tmod p = U * V % p := Int.tmod_eq_emod_of_nonneg q3
                have hp0 : ¬ p = 0 := by omega
                have HVV := Lib.hid hV; clear hV
                go_wp2
                go_quiet (fail)
                go_wp2
                go_roundw
                case rel => exact ⟨j + 1, d + 1, d + 1, _, U * V % p, by omega, by go_num, rfl, rfl, by omega, by omega, by omega, (show Hid _ from by show _ = _; rw [HVS.out, HVV.out]), (by rw [HPS.out, ← HG.out]; exact H2.out.below (bel_drewN _ _)), (show Hid _ from bel_trans HC2.out (bel_drewN _ _))⟩
                case measure => simp [intOf]; omega
        · obtain rfl : j = n := by omega
          have hq1 : q = j := by
            have := HR.out.ints.len.out
            rw [prI_len, if_pos (by omega)] at this; omega
          subst hq1
          obtain ⟨b4, off4, rfl, hbl4, hc4⟩ := (HY.out.below (bel_trans BW.out HC.out)).at hlt
          obtain ⟨cy1, cy2⟩ := hy.out k hlt
          have ib := invP_bd hp1 U
          obtain ⟨q3, q4⟩ := mul_bd (a := nth ys k) (b := invP p U) 251 251 (by omega) (by omega) (by omega) (by omega)
          have e3 := emod_bd (n := nth ys k * invP p U) (p := p) (by omega)
          have w3e : IntKind.i64.wrap (nth ys k * invP p U) = nth ys k * invP p U := IntWalk.i64_in _ (by omega)
          have w4e : (nth ys k * invP p U).tmod p = nth ys k * invP p U % p := Int.tmod_eq_emod_of_nonneg q3
          have hp0 : ¬ p = 0 := by omega
          have hki : (k : Int) < (q : Int) := by omega
          go_wp2
          go_quiet ((go_at_call 110; exact Calls.quiet_of_same (q_inverseP _ _ _ (by omega) (by omega))))
          obtain ⟨S, hS⟩ : ∃ S : Int, S = nth ys k * invP p U % p := ⟨_, rfl⟩
          rw [← hS]
          have HS := Lib.hid hS; rw [← hS] at e3; clear hS w4e w3e q3 q4
          have hgo : w.heap.size < wo.heap.size := by
            obtain ⟨g, e, _, hgl, _, _⟩ := HP.out.at hlt
            simp only [Option.some.injEq, Addr.mk.injEq] at e
            obtain ⟨rfl, _, _⟩ := e
            exact hgl
          have HPL := Lib.hid HR.out.mine.pl
          have HR1 := Lib.hid HR.out.ints
          have HP1 := Lib.hid (HP.out.below HC.out)
          have HB1 := Lib.hid (bel_trans BW.out HC.out)
          have hres := Lib.hid (prI_res hp1 xs k q)
          have hol := Lib.hid (polyI_len p xs ys q k (by omega))
          have hor := Lib.hid (polyI_res hp1 xs ys q k (by omega))
          have hpl := Lib.hid HR.out.ints.len.out
          have HPS : Hid (polyI p xs ys q (k + 1) = addS p S (polyI p xs ys q k) (prI p xs k q)) := by show _ = _; rw [polyI, HS.out, HU.out]
          clear HR HP HC BW hc hc4
          go_wp2
          go_loopw [104] (fun i W => ∃ d : Nat, d ≤ q ∧ i = .int .i64 d ∧ Hid (∃ zs, OwnI 3 W w.heap.size (some ⟨w.heap.size, 0, none⟩) q q zs ∧ ∀ j', j' < q → nth zs j' = adg p S (polyI p xs ys q k) (prI p xs k q) d j') ∧ Hid (Ints W r q c (prI p xs k q)) ∧ Hid (Below w.heap.size w W)) (fun i _ => q - (intOf i).toNat)
          case atStart => exact ⟨0, by omega, rfl, (show Hid _ from ⟨_, HP1.out.below (bel_drewN _ _), fun j' hj' => by rw [adg_0]⟩), (show Hid _ from HR1.out.below (bel_drewN _ _)), (show Hid _ from bel_trans HB1.out (bel_drewN _ _))⟩
          case round =>
            obtain ⟨d, hd, rfl, HYs, HRd, BWd⟩ := hrel
            clear HP1 HR1 HB1
            obtain ⟨zs, hz, hjs⟩ := HYs.out
            have hzl := hz.ints.len
            by_cases hlt2 : d < q
            · obtain ⟨b3, off3, rfl, hbl3, hc3⟩ := HRd.out.at hlt2
              obtain ⟨g, e, hBg, hgl, hcA, hfA⟩ := hz.at (i := d) hlt2
              simp only [Option.some.injEq, Addr.mk.injEq] at e
              obtain ⟨rfl, _, _⟩ := e
              rw [hjs d hlt2, adg_at] at hcA
              obtain ⟨c1, c2⟩ := hres.out.at (i := d) (by rw [hpl.out]; exact hlt2)
              obtain ⟨c3, c4⟩ := hor.out.at (i := d) (by rw [hol.out]; exact hlt2)
              obtain ⟨q1, q2⟩ := mul_bd (a := nth (prI p xs k q) d) (b := S) 251 251 (by omega) (by omega) (by omega) (by omega)
              have e1 := emod_bd (n := nth (polyI p xs ys q k) d + nth (prI p xs k q) d * S) (p := p) (by omega)
              have HY2 := Lib.hid (hz.set (i := d) hlt2 ((nth (polyI p xs ys q k) d + nth (prI p xs k q) d * S) % p) (by unfold Fits; omega))
              have HJ := Lib.hid hjs
              have HR2 : Hid (∀ u, Ints (wr.setCell ⟨w.heap.size, d, none⟩ u) (some ⟨b3, off3, none⟩) q c (prI p xs k q)) := fun u =>
                HRd.out.onlyM (a := some ⟨w.heap.size, 0, none⟩) (m := q) ((OnlyM.refl _ _ _).setCell (by omega) u) HPL.out (lo' := w.heap.size) (hi' := w.heap.size + 1) (fun _ b o e => by simp only [Option.some.injEq, Addr.mk.injEq] at e; omega) (Or.inr (by omega))
              clear hz hjs HYs HRd
              go_wp2
              go_roundw
              case rel => exact ⟨d + 1, by omega, by go_num, (show Hid _ from ⟨_, HY2.out, fun j' hj' => by
                  rw [nth_set (by rw [hzl.out]; omega)]
                  by_cases ek : j' = d
                  · rw [if_pos ek, ek]; exact adg_same p S _ _ d
                  · rw [if_neg ek, HJ.out j' hj']; exact adg_other p S _ _ d j' ek⟩), (show Hid _ from HR2.out _), (show Hid _ from BWd.out.setCell (Nat.le_refl _) _)⟩
              case measure => simp [intOf]; omega
            · obtain rfl : d = q := by omega
              obtain rfl : zs = addS p S (polyI p xs ys d k) (prI p xs k d) := eq_of_nth (by rw [hzl.out, addS_len _ _ _ _ (by rw [hol.out, hpl.out]), hol.out]) (fun j' hj' => by
                rw [hzl.out] at hj'
                rw [hjs j' hj', adg_end p S _ _ d j' hol.out hpl.out hj'])
              have H2 := Lib.hid hz; clear hz hjs HYs HRd
              go_wp2
              go_roundw
              case rel => exact ⟨k + 1, by omega, by go_num, (show Hid _ from by rw [HPS.out]; exact H2.out), BWd.out⟩
              case measure => simp [intOf]; omega
    · obtain rfl : k = n := by omega
      go_wp2
      go_ret
      exact ⟨_, _, rfl, HP.out, BW.out⟩
end Go.Proofs.Ytfichpppjpgahaa
