/-
  Gauss's elimination, as the program does it.
-/
import Derived.Test.YtfichpppjpgahaaLq
import Derived.Test.YtfichpppjpgahaaLp
import Derived.Test.YtfichpppjpgahaaSt
import Derived.Test.YtfichpppjpgahaaSt2
import Derived.Test.YtfichpppjpgahaaRQ
import Derived.Deep.RegionLaw
import Derived.BigRegion
namespace Go.Proofs.Ytfichpppjpgahaa
open Go.RowKit
set_option linter.unusedVariables false
set_option linter.unusedSimpArgs false
set_option maxRecDepth 20000

/-- The first rows with their right sides. -/
def extL (xss : List (List Int)) (ys : List Int) (k : Nat) : List (List Int) := (List.range k).map fun i => rowN xss i ++ [nth ys i]
theorem extL_succ (xss : List (List Int)) (ys : List Int) (k : Nat) : extL xss ys (k + 1) = extL xss ys k ++ [rowN xss k ++ [nth ys k]] := by
  unfold extL; rw [List.range_succ, List.map_append]; rfl
theorem rowN_extL {xss : List (List Int)} {ys : List Int} {k i : Nat} (h : i < k) : rowN (extL xss ys k) i = rowN xss i ++ [nth ys i] := by
  unfold extL rowN; simp [h]
theorem nth_app1 (l : List Int) (x : Int) (j : Nat) : nth (l ++ [x]) j = if j = l.length then x else nth l j := by
  unfold nth
  simp only [List.getD_eq_getElem?_getD]
  split
  · rename_i h; subst h; simp
  · rename_i h
    rcases Nat.lt_or_ge j l.length with k | k
    · rw [List.getElem?_append_left k]
    · rw [List.getElem?_eq_none (by simp; omega), List.getElem?_eq_none (by omega)]
theorem gaussS_none {p : Int} {M : Mat} {n c : Nat} (h : gaussS p M n c = none) : ∀ k, gaussS p M n (c + k) = none
  | 0 => h
  | k + 1 => by
    have ih := gaussS_none h k
    rw [show c + (k + 1) = (c + k) + 1 by omega, gaussS, ih]
theorem gaussS_red {p : Int} (hp : 2 ≤ p) {M : Mat} {n : Nat} (hr : redM p M n) : ∀ c A, gaussS p M n c = some A → redM p A n
  | 0, A, h => by simp only [gaussS, Option.some.injEq] at h; subst h; exact hr
  | c + 1, A, h => by
    rw [gaussS] at h
    cases e : gaussS p M n c with
    | none => rw [e] at h; cases h
    | some B =>
      rw [e] at h
      dsimp only at h
      split at h
      · cases h
      · simp only [Option.some.injEq] at h
        subst h
        exact step_red hp B n c _
theorem gaussS_end {p : Int} {M A : Mat} {n c : Nat} (h : gaussS p M n c = some A) (e : pvF A c n (n - c) c = n) : gaussS p M n (c + 1) = none := by
  rw [gaussS, h]; dsimp only; rw [if_pos e]
theorem gaussS_next {p : Int} {M A : Mat} {n c : Nat} (h : gaussS p M n c = some A) (e : pvF A c n (n - c) c ≠ n) : gaussS p M n (c + 1) = some (stepM p A c (pvF A c n (n - c) c)) := by
  rw [gaussS, h]; dsimp only; rw [if_neg e]
theorem by_eq (p a b c : Int) : (a + (p - b) * c) % p = (a - b * c) % p := by
  rw [show a + (p - b) * c = a - b * c + p * c by grind, Int.add_mul_emod_self_left]
/-- Row c is scaled, up to place d. -/
def sclM (p : Int) (M : Mat) (c : Nat) (s : Int) (d : Nat) : Mat := fun i j => if i = c ∧ j < d then M c j * s % p else M i j
/-- Rows up to k are cleared by row c. -/
def clrM (p : Int) (M : Mat) (c : Nat) (k d : Nat) : Mat := fun i j => if i ≠ c ∧ (i < k ∨ i = k ∧ j < d) then (M i j - M i c * M c j) % p else M i j
set_option maxHeartbeats 8000000 in
theorem i_solveSquare (p : Int) (a : Option Addr) (n cap : Nat) (xss : List (List Int)) (a' : Option Addr) (cap' : Nat) (ys : List Int) (w : World) (h : Rws w a n cap xss) (h' : Ints w a' n cap' ys) (hpr : prB p = true)
    (hl : Hid (∀ i, i < n → (rowN xss i).length = n)) (hx : Hid (∀ i, i < n → ∀ j, j < n → 0 ≤ nth (rowN xss i) j ∧ nth (rowN xss i) j ≤ p - 1)) (hy : Hid (∀ i, i < n → 0 ≤ nth ys i ∧ nth ys i ≤ p - 1)) (hn1 : 1 ≤ n) (hn : n ≤ 6) :
    Calls Try.prog 67 #[.int .i64 p, .slice a n cap, .slice a' n cap'] w (SliceOk (solveL p xss ys n).1 (solveL p xss ys n).2 w) := by
  obtain ⟨hp1, hp2⟩ := prB_lo hpr
  have HX := Lib.hid h; have HY := Lib.hid h'; clear h h'
  have HRED : Hid (redM p (sysM xss ys n) n) := fun i j hi hj => by
    unfold sysM
    split
    · have := hy.out i hi; omega
    · have := hx.out i hi j (by omega); omega
  go_enter Try.func67, Try.ntmps67
  go_wp2
  go_loopw [9, 26] (fun v i wr => ∃ k : Nat, k ≤ n ∧ i = .int .i64 k ∧ Hid (OwnR 24 wr w.heap.size v k (extL xss ys k)) ∧ Hid (Below w.heap.size w wr)) (fun _ i _ => n - (intOf i).toNat)
  case atStart => exact ⟨0, by omega, rfl, (show Hid _ from OwnR.lit (Nat.le_refl _) rfl), (show Hid _ from bel_alloc w _)⟩
  case round =>
    obtain ⟨k, hk, rfl, HO, HB⟩ := hrel
    obtain ⟨wo, rfl⟩ : ∃ wo : World, wo = wr := ⟨_, rfl⟩
    have hz := HB.out.size
    by_cases hlt : k < n
    · obtain ⟨b, off, r, m, c, rfl, hbl, hc, hri⟩ := (HX.out.below HB.out).at hlt
      obtain ⟨b2, off2, rfl, hbl2, hcw⟩ := HY.out.at hlt
      have hc2 := (HB.out.cell (p := ⟨b2, off2 + k, none⟩) hbl2).trans hcw
      have HCW := Lib.hid hcw; clear hcw
      have hm : m = n := by rw [← hl.out k hlt]; exact hri.len.out.symm
      subst hm
      have HRI := Lib.hid hri
      have HES := Lib.hid (extL_succ xss ys k)
      have hki : (k : Int) < (m : Int) := by omega
      have hyf := (HY.out.fit hlt)
      have HF : Hid (∀ x ∈ rowN xss k ++ [nth ys k], Fits x) := fun x hx => by
        rcases List.mem_append.1 hx with q | q
        · exact HRI.out.wf.out x q
        · simp at q; rw [q]; exact hyf
      clear hri hyf
      go_wp2_with fail
      go_region_held3 (fun W => W.cell? ⟨b2, off2 + k, none⟩ = some (.int .i64 (nth ys k))) (first | exact (HB8.cell (p := ⟨b2, off2 + k, none⟩) hbl2).trans HCW.out | exact cell_on hc2 HB9 | exact cell_on hc2 (by (repeat (first | exact Below.refl _ _ | assumption | refine bel_trans ?_ (bel_alloc _ _) | refine bel_set ?_ (by first | (dsimp only; omega) | (simp; omega) | simp) _ | refine bel_trans ?_ (bel_drewN _ _) | refine bel_trans ?_ (bel_drew _) | refine bel_trans ?_ (by assumption))))) (first
        | (go_at_call 120; refine (g_Clone _ _ _ (rowN xss k) _ (HRI.out.below (by (repeat (first | exact Below.refl _ _ | assumption | refine bel_trans ?_ (bel_alloc _ _) | refine bel_set ?_ (by first | (dsimp only; omega) | (simp; omega) | simp) _ | refine bel_trans ?_ (bel_drewN _ _) | refine bel_trans ?_ (bel_drew _) | refine bel_trans ?_ (by assumption))))) (by omega)).mono ?_; rintro e w3 ⟨r3, c3, rfl, ho3, hb3⟩)
        | (refine step_app w3 wo.heap.size m _ (rowN xss k) (nth ys k) _ (by rfl) _ _ (by rfl) (by rfl) (by rfl) (by first | (simp [World.cell?_alloc_at]; done) | exact cell_on (World.cell?_alloc_at _ _ _ _ rfl) hb3) (ownsRow_base ho3.own (by simp)) (by (repeat (first | exact Below.refl _ _ | assumption | refine bel_trans ?_ (bel_alloc _ _) | refine bel_set ?_ (by first | (dsimp only; omega) | (simp; omega) | simp) _ | refine bel_trans ?_ (bel_drewN _ _) | refine bel_trans ?_ (bel_drew _) | refine bel_trans ?_ (by assumption)))) (by have := hb3.size; simp at this; omega) (by omega) ?_; intro v9 w9 hv9 hb9 hg9; obtain ⟨r9, c9, e9, m9⟩ := Mine.of hv9 (by omega) HF.out; subst e9; have HB9 := (show Below wo.heap.size wo _ by (repeat (first | exact Below.refl _ _ | assumption | refine bel_trans ?_ (bel_alloc _ _) | refine bel_set ?_ (by first | (dsimp only; omega) | (simp; omega) | simp) _ | refine bel_trans ?_ (bel_drewN _ _) | refine bel_trans ?_ (bel_drew _) | refine bel_trans ?_ (by assumption)))).trans hb9; clear hb3 ho3 hg9 hv9)
        | (refine step_appR wo w.heap.size k _ (extL xss ys k) r9 (m + 1) c9 (rowN xss k ++ [nth ys k]) _ (by rfl) _ _ (by rfl) (by rfl) (by rfl) (by simp [World.cell?_alloc_at]) HO.out (by (repeat (first | exact Below.refl _ _ | assumption | refine bel_trans ?_ (bel_alloc _ _) | refine bel_set ?_ (by first | (dsimp only; omega) | (simp; omega) | simp) _ | refine bel_trans ?_ (bel_drewN _ _) | refine bel_trans ?_ (bel_drew _) | refine bel_trans ?_ (by assumption)))) (m9.below (bel_alloc _ _)) hz (by omega) ?_; intro v8 w8 hv8 hb8 hg8; have HB8 := HB.out.trans (((HB9.trans (Below.alloc (Below.refl _ _) HB9.size _)).mono hz).trans hb8); clear hg8 hb8 hb9 m9 HB9))
      all_goals
        have HBB := Lib.hid HB8
        clear HB8
        go_wp2
        go_roundw
        case rel => exact ⟨k + 1, by omega, by go_num, (show Hid _ from by rw [HES.out]; exact hv8), HBB.out⟩
        case measure => simp [intOf]; omega
    · obtain rfl : k = n := by omega
      obtain ⟨a2, cc, hv, hm2⟩ := HO.out.mine (by omega) hz
      subst hv
      obtain ⟨mb, mo, _, _, _, rfl, _⟩ := hm2.at (i := 0) (by omega)
      have hcc : k ≤ cc := hm2.ncap
      have HM0 := Lib.hid ((Mx.of hm2 (fun i hi => by rw [rowN_extL hi, List.length_append, hl.out i hi]; rfl)).congr (M' := sysM xss ys k) (fun i j hi hj => by show nth (rowN (extL xss ys k) i) j = _; rw [rowN_extL hi, nth_app1, hl.out i hi]; rfl))
      clear hm2 HO
      go_wp2
      go_loopw [44] (fun i W => ∃ (c : Nat) (rb ro rc : Nat → Nat) (A : Mat), c ≤ k ∧ i = .int .i64 c ∧ Hid (gaussS p (sysM xss ys k) k c = some A) ∧ Hid (Mx W w.heap.size mb mo k rb ro rc A) ∧ Hid (Below w.heap.size w W)) (fun i _ => k - (intOf i).toNat)
      case atStart => exact ⟨0, _, _, _, _, by omega, rfl, (show Hid _ from rfl), HM0.out, HB.out⟩
      case round =>
        obtain ⟨c, rb, ro, rc, A, hc, rfl, HG, HM, BW⟩ := hrel
        clear HM0 HB
        obtain ⟨wc, rfl⟩ : ∃ wc : World, wc = wr := ⟨_, rfl⟩
        by_cases hck : c < k
        · have HRA := Lib.hid (gaussS_red hp1 HRED.out c A HG.out)
          go_wp2
          go_loop [13] (fun i => ∃ q : Nat, c ≤ q ∧ q ≤ k ∧ i = .int .i64 q ∧ Hid (pvF A c k (k - c) c = pvF A c k (k - q) q)) (fun i => k - (intOf i).toNat)
          case atStart => exact ⟨c, by omega, by omega, rfl, rfl⟩
          case round =>
            obtain ⟨q, hcq, hqk, rfl, HPV⟩ := hrel
            by_cases hq : q < k
            · obtain ⟨h1, h2, h3, h4⟩ := HM.out.outer.out q hq
              obtain ⟨g0, g1, g2, g3⟩ := HM.out.inner.out q hq
              have g4 := (g3 c (by omega)).1
              have hqI : (q : Int) < (k : Int) := by omega
              have hcI : (c : Int) < (k : Int) + 1 := by omega
              by_cases hz0 : A q c = 0
              · rw [hz0] at g4
                have HP2 : Hid (pvF A c k (k - c) c = pvF A c k (k - (q + 1)) (q + 1)) := by
                  show _ = _
                  rw [HPV.out, show k - q = (k - (q + 1)) + 1 by omega, pvF_go hq hz0]
                go_wp2
                go_round
                case rel => exact ⟨q + 1, by omega, by omega, by go_num, HP2.out⟩
                case measure => simp [intOf]; omega
              · have hz1 : (A q c == 0) = false := by rw [beq_eq_false_iff_ne]; exact hz0
                have HP2 : Hid (pvF A c k (k - c) c = q) := by
                  show _ = _
                  rw [HPV.out, show k - q = (k - (q + 1)) + 1 by omega, pvF_stop (fun e => hz0 e.2)]
                have hqk2 : ((q : Int) == (k : Int)) = false := by rw [beq_eq_false_iff_ne]; omega
                obtain ⟨c1, c2, c3, c4⟩ := HM.out.outer.out c hck
                clear g3 HPV
                have hs1 : (wc.setCell ⟨mb, mo + c, none⟩ (.slice (some ⟨rb q, ro q, none⟩) (k + 1) (rc q))).cell? ⟨mb, mo + q, none⟩ = some (.slice (some ⟨rb q, ro q, none⟩) (k + 1) (rc q)) := by
                  by_cases e : q = c
                  · subst e; exact World.cell?_setCell_same _ _ _ h3
                  · exact (World.cell?_setCell_other _ _ _ _ (by intro q; simp at q <;> omega)).trans h3
                go_wp2
                go_region_law (fail)
                all_goals
                  have HM2 := (HM.out.swap hck hq).below (bel_drew _)
                  have BW2 := bel_trans ((BW.out.setCell (p := ⟨mb, mo + c, none⟩) c1 (.slice (some ⟨rb q, ro q, none⟩) (k + 1) (rc q))).setCell (p := ⟨mb, mo + q, none⟩) c1 (.slice (some ⟨rb c, ro c, none⟩) (k + 1) (rc c))) (bel_drew _)
                  have HRN := swp_red hck hq HRA.out
                  have HST : Hid (∀ i j, stepM p A c q i j = if i = c then swp A c q c j * invP p (swp A c q c c) % p else (swp A c q i j - swp A c q i c * (swp A c q c j * invP p (swp A c q c c) % p)) % p) := fun i j => rfl
                  have HGN := Lib.hid (gaussS_next HG.out (by rw [HP2.out]; omega))
                  rw [HP2.out] at HGN
                  clear hs1 h3 h4 c3 c4 g4 HM BW HRA
                  generalize (World.setCell _ _ _).drew = W2 at HM2 BW2 ⊢
                  generalize sw rb c q = rb2 at HM2
                  generalize sw ro c q = ro2 at HM2
                  generalize sw rc c q = rc2 at HM2
                  generalize swp A c q = N at HM2 HRN HST
                  obtain ⟨k1, k2, k3, k4⟩ := HM2.outer.out c hck
                  obtain ⟨n0, n1, n2, n3⟩ := HM2.inner.out c hck
                  have n4 := (n3 c (by omega)).1
                  obtain ⟨b1, b2⟩ := HRN c c hck (by omega)
                  have ib := invP_bd hp1 (N c c)
                  have HMM := Lib.hid HM2; have HRR := Lib.hid HRN; have HBB := Lib.hid BW2
                  clear HM2 HRN BW2 n3
                  go_wp2_with (go_at_call 110; refine (i_inverse _ _ _ (by omega) (by omega)).mono ?_; rintro e w1 ⟨rfl, rfl⟩)
                  obtain ⟨S, hS⟩ : ∃ S, S = invP p (N c c) := ⟨_, rfl⟩
                  rw [← hS] at ib HST ⊢
                  clear hS
                  go_wp2
                  go_loopw [94] (fun i W => ∃ d : Nat, d ≤ k + 1 ∧ i = .int .i64 d ∧ Hid (Mx W w.heap.size mb mo k rb2 ro2 rc2 (sclM p N c S d)) ∧ Hid (Below w.heap.size w W)) (fun i _ => k + 1 - (intOf i).toNat)
                  case atStart => exact ⟨0, by omega, rfl, (show Hid _ from HMM.out.congr (fun i j hi hj => by unfold sclM; rw [if_neg (by omega)])), HBB.out⟩
                  case round =>
                    obtain ⟨d, hd, rfl, HMd, HBd⟩ := hrel
                    clear HMM HBB k3 k4 n4
                    obtain ⟨wd, rfl⟩ : ∃ wd : World, wd = wr := ⟨_, rfl⟩
                    obtain ⟨k1, k2, k3, k4⟩ := HMd.out.outer.out c hck
                    obtain ⟨n0, n1, n2, n3⟩ := HMd.out.inner.out c hck
                    by_cases hdk : d < k + 1
                    · obtain ⟨n4, n5⟩ := n3 d (by omega)
                      have e0 : sclM p N c S d c d = N c d := by unfold sclM; rw [if_neg (by omega)]
                      rw [e0] at n4
                      obtain ⟨b3, b4⟩ := HRR.out c d hck (by omega)
                      obtain ⟨q1, q2⟩ := mul_bd (a := N c d) (b := S) 251 251 (by omega) (by omega) (by omega) (by omega)
                      have w3 : IntKind.i64.wrap (N c d * S) = N c d * S := IntWalk.i64_in _ (by omega)
                      have w4 : (N c d * S).tmod p = N c d * S % p := Int.tmod_eq_emod_of_nonneg q1
                      have hp0 : ¬ p = 0 := by omega
                      have hdI : (d : Int) < (k : Int) + 1 := by omega
                      have hcI2 : (c : Int) < (k : Int) := by omega
                      clear n3 e0
                      go_wp2
                      refine wp_region_last_lit (by simp) (by kernel_rfl) (by kernel_rfl) (by kernel_rfl) (by kernel_rfl) ?_
                      dsimp only [List.dropLast, List.getLast]
                      repeat (quiet_step (fail))
                      refine wpQuiet_nil ?_
                      intro w9 hw9
                      obtain ⟨nq, rfl⟩ := hw9
                      go_simp
                      have HM3 := Lib.hid (((HMd.out.below (bel_drewN wd nq)).set hck (show d ≤ k by omega) (N c d * S % p)).congr (M' := sclM p N c S (d + 1)) (fun i j hi hj => by
                        unfold upd sclM
                        by_cases e : i = c ∧ j = d
                        · rw [if_pos e, if_pos (by omega), e.2]
                        · rw [if_neg e]
                          by_cases e2 : i = c ∧ j < d
                          · rw [if_pos e2, if_pos (by omega)]
                          · rw [if_neg e2, if_neg (by omega)]))
                      have HB3 : Hid (∀ u, Below w.heap.size w ((wd.drewN nq).setCell ⟨rb2 c, ro2 c + d, none⟩ u)) := fun u => (bel_trans HBd.out (bel_drewN _ nq)).setCell n1 u
                      go_wp2
                      go_roundw
                      case rel => exact ⟨d + 1, by omega, by go_num, HM3.out, HB3.out _⟩
                      case measure => simp [intOf]; omega
                    · obtain rfl : d = k + 1 := by omega
                      rw [show ((k + 1 : Nat) : Int) = (k : Int) + 1 from rfl]
                      have HN1 : Hid (∀ i j, i < k → j ≤ k → stepM p A c q i j = if i = c then sclM p N c S (k + 1) c j else (sclM p N c S (k + 1) i j - sclM p N c S (k + 1) i c * sclM p N c S (k + 1) c j) % p) := fun i j hi hj => by
                        rw [HST.out]
                        unfold sclM
                        by_cases e : i = c
                        · rw [if_pos e, if_pos e, if_pos ⟨rfl, by omega⟩]
                        · rw [if_neg e, if_neg e, if_neg (by omega), if_neg (by omega), if_pos ⟨rfl, by omega⟩]
                      have HR1 : Hid (redM p (sclM p N c S (k + 1)) k) := fun i j hi hj => by
                        unfold sclM
                        split
                        · exact emod_bd (by omega)
                        · exact HRR.out i j hi hj
                      clear HST HRR n3 k3 k4
                      generalize sclM p N c S (k + 1) = N1 at HMd HN1 HR1
                      go_wp2
                      go_loopw [117] (fun i W => ∃ e : Nat, e ≤ k ∧ i = .int .i64 e ∧ Hid (Mx W w.heap.size mb mo k rb2 ro2 rc2 (clrM p N1 c e 0)) ∧ Hid (Below w.heap.size w W)) (fun i _ => k - (intOf i).toNat)
                      case atStart => exact ⟨0, by omega, rfl, (show Hid _ from HMd.out.congr (fun i j hi hj => by unfold clrM; rw [if_neg (by omega)])), HBd.out⟩
                      case round =>
                        obtain ⟨e, he, rfl, HMe, HBe⟩ := hrel
                        clear HMd HBd
                        obtain ⟨we, rfl⟩ : ∃ we : World, we = wr := ⟨_, rfl⟩
                        by_cases hek : e < k
                        · have heI : (e : Int) < (k : Int) := by omega
                          by_cases hec : e = c
                          · subst hec
                            have HM4 := Lib.hid (HMe.out.congr (M' := clrM p N1 e (e + 1) 0) (fun i j hi hj => by
                              unfold clrM
                              by_cases e2 : i ≠ e ∧ (i < e ∨ i = e ∧ j < 0)
                              · rw [if_pos e2, if_pos (by omega)]
                              · rw [if_neg e2, if_neg (by omega)]))
                            go_wp2
                            go_roundw
                            case rel => exact ⟨e + 1, by omega, by go_num, HM4.out, HBe.out⟩
                            case measure => simp [intOf]; omega
                          · have hecI : ((e : Int) == (c : Int)) = false := by rw [beq_eq_false_iff_ne]; omega
                            obtain ⟨f1, f2, f3, f4⟩ := HMe.out.outer.out e hek
                            obtain ⟨g10, g11, g12, g13⟩ := HMe.out.inner.out e hek
                            have g14 := (g13 c (by omega)).1
                            have e1 : clrM p N1 c e 0 e c = N1 e c := by unfold clrM; rw [if_neg (by omega)]
                            rw [e1] at g14
                            obtain ⟨b3, b4⟩ := HR1.out e c hek (by omega)
                            clear g13 e1
                            obtain ⟨Y, hY⟩ : ∃ Y, p - N1 e c = Y := ⟨_, rfl⟩
                            have HYY := Lib.hid hY
                            have hY1 : 0 ≤ Y ∧ Y ≤ 251 := by omega
                            have wY : IntKind.i64.wrap (p - N1 e c) = p - N1 e c := IntWalk.i64_in _ (by omega)
                            clear hY
                            go_wp2
                            rw [HYY.out]
                            go_loopw [137] (fun i W => ∃ d : Nat, d ≤ k + 1 ∧ i = .int .i64 d ∧ Hid (Mx W w.heap.size mb mo k rb2 ro2 rc2 (clrM p N1 c e d)) ∧ Hid (Below w.heap.size w W)) (fun i _ => k + 1 - (intOf i).toNat)
                            case atStart => exact ⟨0, by omega, rfl, HMe.out, HBe.out⟩
                            case round =>
                              obtain ⟨d, hd, rfl, HMd, HBd⟩ := hrel
                              clear HMe HBe f3 f4 g14
                              obtain ⟨wd, rfl⟩ : ∃ wd : World, wd = wr := ⟨_, rfl⟩
                              obtain ⟨f1, f2, f3, f4⟩ := HMd.out.outer.out e hek
                              obtain ⟨g10, g11, g12, g13⟩ := HMd.out.inner.out e hek
                              obtain ⟨k1, k2, k3, k4⟩ := HMd.out.outer.out c hck
                              obtain ⟨n0, n1, n2, n3⟩ := HMd.out.inner.out c hck
                              by_cases hdk : d < k + 1
                              · obtain ⟨n4, n5⟩ := n3 d (by omega)
                                obtain ⟨m4, m5⟩ := g13 d (by omega)
                                have e0 : clrM p N1 c e d c d = N1 c d := by unfold clrM; rw [if_neg (by omega)]
                                have e2 : clrM p N1 c e d e d = N1 e d := by unfold clrM; rw [if_neg (by omega)]
                                rw [e0] at n4; rw [e2] at m4
                                obtain ⟨b5, b6⟩ := HR1.out c d hck (by omega)
                                obtain ⟨b7, b8⟩ := HR1.out e d hek (by omega)
                                obtain ⟨q1, q2⟩ := mul_bd (a := Y) (b := N1 c d) 251 251 (by omega) (by omega) (by omega) (by omega)
                                have w3 : IntKind.i64.wrap (Y * N1 c d) = Y * N1 c d := IntWalk.i64_in _ (by omega)
                                have w5 : IntKind.i64.wrap (N1 e d + Y * N1 c d) = N1 e d + Y * N1 c d := IntWalk.i64_in _ (by omega)
                                have w4 : (N1 e d + Y * N1 c d).tmod p = (N1 e d + Y * N1 c d) % p := Int.tmod_eq_emod_of_nonneg (by omega)
                                have hp0 : ¬ p = 0 := by omega
                                have hdI : (d : Int) < (k : Int) + 1 := by omega
                                have hcI2 : (c : Int) < (k : Int) := by omega
                                have HV : Hid ((N1 e d + Y * N1 c d) % p = (N1 e d - N1 e c * N1 c d) % p) := by
                                  show _ = _
                                  rw [← HYY.out]; exact by_eq p _ _ _
                                clear n3 g13 e0 e2
                                go_wp2
                                refine wp_region_last_lit (by simp) (by kernel_rfl) (by kernel_rfl) (by kernel_rfl) (by kernel_rfl) ?_
                                dsimp only [List.dropLast, List.getLast]
                                repeat (quiet_step (fail))
                                refine wpQuiet_nil ?_
                                intro w9 hw9
                                obtain ⟨nq, rfl⟩ := hw9
                                go_simp
                                have HM3 := Lib.hid (((HMd.out.below (bel_drewN wd nq)).set hek (show d ≤ k by omega) ((N1 e d + Y * N1 c d) % p)).congr (M' := clrM p N1 c e (d + 1)) (fun i j hi hj => by
                                  rw [HV.out]
                                  unfold upd clrM
                                  by_cases g : i = e ∧ j = d
                                  · rw [if_pos g, if_pos (by omega), g.1, g.2]
                                  · rw [if_neg g]
                                    by_cases g2 : i ≠ c ∧ (i < e ∨ i = e ∧ j < d)
                                    · rw [if_pos g2, if_pos (by omega)]
                                    · rw [if_neg g2, if_neg (by omega)]))
                                have HB3 : Hid (∀ u, Below w.heap.size w ((wd.drewN nq).setCell ⟨rb2 e, ro2 e + d, none⟩ u)) := fun u => (bel_trans HBd.out (bel_drewN _ nq)).setCell g11 u
                                go_wp2
                                go_roundw
                                case rel => exact ⟨d + 1, by omega, by go_num, HM3.out, HB3.out _⟩
                                case measure => simp [intOf]; omega
                              · obtain rfl : d = k + 1 := by omega
                                rw [show ((k + 1 : Nat) : Int) = (k : Int) + 1 from rfl]
                                have HM4 := Lib.hid (HMd.out.congr (M' := clrM p N1 c (e + 1) 0) (fun i j hi hj => by
                                  unfold clrM
                                  by_cases e2 : i ≠ c ∧ (i < e ∨ i = e ∧ j < k + 1)
                                  · rw [if_pos e2, if_pos (by omega)]
                                  · rw [if_neg e2, if_neg (by omega)]))
                                clear n3 g13
                                go_wp2
                                go_roundw
                                case rel => exact ⟨e + 1, by omega, by go_num, HM4.out, HBd.out⟩
                                case measure => simp [intOf]; omega
                        · obtain rfl : e = k := by omega
                          have HM5 := Lib.hid (HMe.out.congr (M' := stepM p A c q) (fun i j hi hj => by
                            rw [HN1.out i j hi hj]
                            unfold clrM
                            by_cases g : i = c
                            · rw [if_pos g, if_neg (by omega), g]
                            · rw [if_neg g, if_pos ⟨g, Or.inl hi⟩]))
                          go_wp2
                          go_roundw
                          case rel => exact ⟨c + 1, _, _, _, _, by omega, by go_num, HGN.out, HM5.out, HBe.out⟩
                          case measure => simp [intOf]; omega
            · obtain rfl : q = k := by omega
              have HP2 : Hid (pvF A c q (q - c) c = q) := by
                show _ = _
                rw [HPV.out, Nat.sub_self]; rfl
              have HR : Hid (solveL p xss ys q = ([], false)) := by
                show _ = _
                unfold solveL
                have := gaussS_none (gaussS_end HG.out HP2.out) (q - (c + 1))
                rw [show c + 1 + (q - (c + 1)) = q by omega] at this
                rw [this]
              go_wp2
              go_ret2
              rw [HR.out]
              exact ⟨_, _, rfl, Mine.nil, BW.out⟩
        · obtain rfl : c = k := by omega
          have HR : Hid (solveL p xss ys c = ((List.range c).map fun i => A i c, true)) := by
            show _ = _
            unfold solveL
            rw [HG.out]
          have HRA := Lib.hid (gaussS_red hp1 HRED.out c A HG.out)
          obtain ⟨L, hL⟩ : ∃ L : Nat → List Int, L = fun m => (List.range m).map fun i => A i c := ⟨_, rfl⟩
          have HL0 : Hid (L 0 = []) := by show _ = _; rw [hL]; rfl
          have HLS : Hid (∀ m, L (m + 1) = L m ++ [A m c]) := fun m => by rw [hL]; show (List.range (m + 1)).map _ = _; rw [List.range_succ, List.map_append]; rfl
          have HLL : Hid ((L c).length = c) := by show _ = _; rw [hL]; simp
          have HLF : Hid (∀ x ∈ L c, Fits x) := fun x hx => by
            rw [hL] at hx
            obtain ⟨i, hi, rfl⟩ := List.mem_map.1 hx
            have := HRA.out i c (List.mem_range.1 hi) (Nat.le_refl _)
            unfold Fits; omega
          have HRL : Hid (solveL p xss ys c = (L c, true)) := by show _ = _; rw [HR.out, hL]
          have hzc := BW.out.size
          clear hL HR
          go_wp2
          go_loopw [19, 171] (fun v i W => ∃ m : Nat, m ≤ c ∧ i = .int .i64 m ∧ Hid (W.ownsRow wc.heap.size 3 1 v m (ivs (L m))) ∧ Hid (Below wc.heap.size wc W)) (fun _ i _ => c - (intOf i).toNat)
          case atStart => exact ⟨0, by omega, rfl, (show Hid _ from by rw [HL0.out]; exact World.ownsRow_lit wc #[] 0 (Nat.le_refl _) (by decide) rfl), (show Hid _ from bel_alloc wc _)⟩
          case round =>
            obtain ⟨m, hm, rfl, HI, HC⟩ := hrel
            obtain ⟨wi, rfl⟩ : ∃ wi : World, wi = wr := ⟨_, rfl⟩
            have hzi := HC.out.size
            by_cases hmc : m < c
            · have HMi := HM.out.below HC.out
              obtain ⟨f1, f2, f3, f4⟩ := HMi.outer.out m hmc
              obtain ⟨g10, g11, g12, g13⟩ := HMi.inner.out m hmc
              have g14 := (g13 c (Nat.le_refl _)).1
              have hmI : (m : Int) < (c : Int) := by omega
              clear HMi g13
              go_wp2_with (at_builtin; refine wp_app wi wc.heap.size m _ (L m) (A m c) _ _ rfl _ _ rfl rfl rfl rfl HI.out hzi (by omega) ?_; intro v9 w9 hv9 hb9 hg9)
              clear hg9
              go_roundw
              case rel => exact ⟨m + 1, by omega, by go_num, (show Hid _ from by rw [HLS.out]; exact hv9), HC.out.trans hb9⟩
              case measure => simp [intOf]; omega
            · obtain rfl : m = c := by omega
              obtain ⟨r, c9, hv, hmr⟩ := Mine.of HI.out (by omega) HLF.out
              subst hv
              have HMR := Lib.hid (hmr.base hzc); clear hmr HI
              go_wp2
              go_ret2
              rw [HRL.out]
              exact ⟨_, _, by rw [HLL.out]; rfl, by rw [HLL.out]; exact HMR.out, bel_trans BW.out HC.out⟩
end Go.Proofs.Ytfichpppjpgahaa
