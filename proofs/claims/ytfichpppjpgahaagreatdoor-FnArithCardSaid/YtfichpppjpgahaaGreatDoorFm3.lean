/-
  Contract: the text of an arithmetic circuit, the specification's side.
  Contracts: a text is split at a byte; a number is read.
  Contract: a number is read, the specification's side.
-/
import Derived.Test.YtfichpppjpgahaaGreatDoorFm1
import Derived.Test.YtfichpppjpgahaaGreatDoorFm2
import Derived.Deep.RegionHeld3
import Derived.Deep.DeepCutAuto
namespace Go.Proofs.YtfichpppjpgahaaGreatDoor
open Go.RowKit
set_option linter.unusedVariables false
set_option linter.unusedSimpArgs false
set_option maxRecDepth 10000

/-- A number's digits. -/
def dig (x : Int) : List UInt8 := Lib.decDigits x.toNat
theorem dig_le {x : Int} (h : 0 ≤ x ∧ x ≤ 1000000) : (dig x).length ≤ 7 := nDig_le (by omega)
/-- A blank and a number. -/
def numS (x : Int) : List UInt8 := 32 :: dig x
def wordA : List UInt8 := [97, 114, 105, 116, 104]
def wordO : List UInt8 := [111, 117, 116, 115]
def wordK (k : Int) : List UInt8 := if k = 0 then [97, 100, 100] else if k = 1 then [109, 117, 108] else if k = 2 then [115, 99, 97, 108, 101] else [99, 111, 110, 115, 116]
/-- The line of a gate. -/
def lineG (k a b : Int) : List UInt8 := wordK k ++ (numS a ++ ((if k = 3 then [] else numS b) ++ [10]))
def gLines (gs : List Int) : Nat → List UInt8
  | 0 => []
  | n + 1 => gLines gs n ++ lineG (fld 3 gs n 0) (fld 3 gs n 1) (fld 3 gs n 2)
def oNums (os : List Int) : Nat → List UInt8
  | 0 => []
  | n + 1 => oNums os n ++ numS (nth os n)
/-- The text of a circuit. -/
def headL (p i0 i1 : Int) : List UInt8 := wordA ++ (numS p ++ (numS i0 ++ (numS i1 ++ [10])))
def textL (p i0 i1 : Int) (gs : List Int) (gn : Nat) (os : List Int) : List UInt8 := headL p i0 i1 ++ (gLines gs gn ++ (wordO ++ (oNums os os.length ++ [10])))
/-- Numbers that a text can hold. -/
def okG (gs : List Int) (n : Nat) : Prop := ∀ i, i < n → (0 ≤ fld 3 gs i 0 ∧ fld 3 gs i 0 ≤ 3) ∧ (0 ≤ fld 3 gs i 1 ∧ fld 3 gs i 1 ≤ 1000) ∧ (0 ≤ fld 3 gs i 2 ∧ fld 3 gs i 2 ≤ 1000)
def okN (os : List Int) : Prop := ∀ x ∈ os, 0 ≤ x ∧ x ≤ 1000
theorem numS_le {x : Int} (h : 0 ≤ x ∧ x ≤ 1000000) : (numS x).length ≤ 8 := by have := dig_le h; simp [numS]; omega
theorem headL_le {p i0 i1 : Int} (hp : 0 ≤ p ∧ p ≤ 1000) (h0 : 0 ≤ i0 ∧ i0 ≤ 1000) (h1 : 0 ≤ i1 ∧ i1 ≤ 1000) : (headL p i0 i1).length ≤ 30 := by
  have a := numS_le (x := p) (by omega); have b := numS_le (x := i0) (by omega); have c := numS_le (x := i1) (by omega)
  simp only [headL, wordA, List.length_append, List.length_cons, List.length_nil]
  omega
theorem wordK_le (k : Int) : (wordK k).length ≤ 5 := by unfold wordK; split <;> (try split) <;> (try split) <;> simp
theorem lineG_le {k a b : Int} (ha : 0 ≤ a ∧ a ≤ 1000) (hb : 0 ≤ b ∧ b ≤ 1000) : (lineG k a b).length ≤ 22 := by
  have h1 := wordK_le k
  have h2 := numS_le (x := a) (by omega)
  have h3 := numS_le (x := b) (by omega)
  unfold lineG
  simp only [List.length_append]
  split <;> simp <;> omega
theorem gLines_le {gs : List Int} : ∀ {n : Nat}, okG gs n → (gLines gs n).length ≤ 22 * n
  | 0, _ => by simp [gLines]
  | n + 1, h => by
    have h1 := gLines_le (gs := gs) (n := n) (fun i hi => h i (by omega))
    have h2 := h n (by omega)
    have h3 := lineG_le (k := fld 3 gs n 0) h2.2.1 h2.2.2
    simp only [gLines, List.length_append]
    omega
theorem oNums_le {os : List Int} (h : okN os) : ∀ {n : Nat}, n ≤ os.length → (oNums os n).length ≤ 8 * n
  | 0, _ => by simp [oNums]
  | n + 1, hn => by
    have h1 := oNums_le (os := os) h (n := n) (by omega)
    have h2 := h _ (nth_mem (xs := os) (i := n) (by omega))
    have h3 := numS_le (x := nth os n) (by omega)
    simp only [oNums, List.length_append]
    omega
def litW : Array Value := #[.string ⟨#[97, 100, 100]⟩, .string ⟨#[109, 117, 108]⟩, .string ⟨#[115, 99, 97, 108, 101]⟩, .string ⟨#[99, 111, 110, 115, 116]⟩]
theorem litW_at {q : Nat} (h : q < 4) : litW[q]? = some (.string (B (wordK q))) := by
  rcases (show q = 0 ∨ q = 1 ∨ q = 2 ∨ q = 3 by omega) with rfl | rfl | rfl | rfl <;> rfl
theorem litW_get {q : Nat} (h : q < 4) : ([Value.string ⟨#[97, 100, 100]⟩, .string ⟨#[109, 117, 108]⟩, .string ⟨#[115, 99, 97, 108, 101]⟩, .string ⟨#[99, 111, 110, 115, 116]⟩] : List Value)[q]'h = .string (B (wordK q)) := by
  rcases (show q = 0 ∨ q = 1 ∨ q = 2 ∨ q = 3 by omega) with rfl | rfl | rfl | rfl <;> rfl
theorem lit4_new {q : Nat} (h : q < 4) (w : World) (t : TypeId) : (w.alloc (.cells litW t)).cell? ⟨w.heap.size, q, none⟩ = some (.string (B (wordK q))) :=
  (World.cell?_alloc_mark w litW t (0, 0) q).trans (litW_at h)
theorem lit4_drew {q : Nat} (h : q < 4) {w w1 : World} {t : TypeId} {m : Nat} (hm : m = w.heap.size) (hb : Below (w.alloc (.cells litW t)).drew.heap.size (w.alloc (.cells litW t)).drew w1) : w1.cell? ⟨m, q, none⟩ = some (.string (B (wordK q))) := by
  subst hm
  exact cell_on (w := (w.alloc (.cells litW t)).drew) (show (w.alloc (.cells litW t)).cell? _ = _ from lit4_new h w t) hb
theorem s_numI (x : Int) (h : 0 ≤ x ∧ x ≤ 1000000) (w : World) :
    Calls Tryz.prog 63 #[.int .i64 x] w fun e w' => e = .returned (.string (B (dig x))) ∧ Below w.heap.size w w' := by
  have k := s_l1Num x.toNat (by omega) w
  rw [Int.toNat_of_nonneg h.1] at k
  exact k
set_option maxHeartbeats 8000000 in
theorem s_arText (p i0 i1 : Int) (ga : Option Addr) (gn gc : Nat) (gs : List Int) (oa : Option Addr) (on oc : Nat) (os : List Int) (w : World) (h : Circ w ga gn gc gs oa on oc os) (hp : 0 ≤ p ∧ p ≤ 1000) (h0 : 0 ≤ i0 ∧ i0 ≤ 1000) (h1 : 0 ≤ i1 ∧ i1 ≤ 1000) (hg : okG gs gn) (ho : okN os) (hgn : gn ≤ 10000) (hon : on ≤ 10000) :
    Calls Tryz.prog 32 #[.agg #[.int .i64 p, .int .i64 i0, .int .i64 i1, .slice ga gn gc, .slice oa on oc]] w fun e w' => e = .returned (.string (B (textL p i0 i1 gs gn os))) ∧ Below w.heap.size w w' := by
  have hlo := h.o.len.out
  have A0 := bel_alloc w (.cells #[.int .i64 p, .int .i64 i0, .int .i64 i1, .slice ga gn gc, .slice oa on oc] 26)
  have g0 := B5.new (w := w) (x0 := .int .i64 p) (x1 := .int .i64 i0) (x2 := .int .i64 i1) (x3 := .slice ga gn gc) (x4 := .slice oa on oc) (t := 26)
  obtain ⟨c0, c1, c2, c3, c4⟩ := g0
  have dp := dig_le (x := p) (by omega); have d0 := dig_le (x := i0) (by omega); have d1 := dig_le (x := i1) (by omega)
  rw [← B_size] at dp d0 d1
  obtain ⟨S0, hS0⟩ : ∃ S, S = B (dig p) := ⟨_, rfl⟩
  obtain ⟨S1, hS1⟩ : ∃ S, S = B (dig i0) := ⟨_, rfl⟩
  obtain ⟨S2, hS2⟩ : ∃ S, S = B (dig i1) := ⟨_, rfl⟩
  have k0 := Lib.hid (s_numI p (by omega)); have k1 := Lib.hid (s_numI i0 (by omega)); have k2 := Lib.hid (s_numI i1 (by omega))
  rw [← hS0] at k0 dp; rw [← hS1] at k1 d0; rw [← hS2] at k2 d1
  have H0 := Lib.hid hS0; have H1 := Lib.hid hS1; have H2 := Lib.hid hS2; have HG := Lib.hid hg; have HO := Lib.hid ho
  clear hS0 hS1 hS2 hg ho
  have f1 : ¬ 9223372036854775807 < 6 + S0.size := by omega
  have f2 : ¬ 9223372036854775807 < 6 + S0.size + 1 := by omega
  have f3 : ¬ 9223372036854775807 < 6 + S0.size + 1 + S1.size := by omega
  have f4 : ¬ 9223372036854775807 < 6 + S0.size + 1 + S1.size + 1 := by omega
  have f5 : ¬ 9223372036854775807 < 6 + S0.size + 1 + S1.size + 1 + S2.size := by omega
  have f6 : ¬ 9223372036854775807 < 6 + S0.size + 1 + S1.size + 1 + S2.size + 1 := by omega
  go_enter Tryz.func32, Tryz.ntmps32
  go_wp2
  have tk0 : True := trivial
  go_region_held3 (fun W => W.cell? ⟨w.heap.size, 0, none⟩ = some (.int .i64 p) ∧ W.cell? ⟨w.heap.size, 1, none⟩ = some (.int .i64 i0) ∧ W.cell? ⟨w.heap.size, 2, none⟩ = some (.int .i64 i1) ∧ W.cell? ⟨w.heap.size, 3, none⟩ = some (.slice ga gn gc) ∧ W.cell? ⟨w.heap.size, 4, none⟩ = some (.slice oa on oc)) (exact ⟨c0, c1, c2, c3, c4⟩) (first | (have tt := tk0; clear tt tk0; go_at_call 63; refine (k0.out _).mono ?_; rintro e w1 ⟨rfl, hb1⟩; have hb2 := bel_trans (bel_drew _) hb1; have c0 := cell_on c0 hb2; have c1 := cell_on c1 hb2; have c2 := cell_on c2 hb2; have c3 := cell_on c3 hb2; have c4 := cell_on c4 hb2; have Hb1 := Lib.hid hb2; clear hb1 hb2; have tk1 : True := trivial) | (have tt := tk1; clear tt tk1; go_at_call 63; refine (k1.out _).mono ?_; rintro e w2 ⟨rfl, hb1⟩; have hb2 := hb1; have c0 := cell_on c0 hb2; have c1 := cell_on c1 hb2; have c2 := cell_on c2 hb2; have c3 := cell_on c3 hb2; have c4 := cell_on c4 hb2; have Hb2 := Lib.hid hb2; clear hb1 hb2; have tk2 : True := trivial) | (have tt := tk2; clear tt tk2; go_at_call 63; refine (k2.out _).mono ?_; rintro e w3 ⟨rfl, hb1⟩; have hb2 := hb1; have c0 := cell_on c0 hb2; have c1 := cell_on c1 hb2; have c2 := cell_on c2 hb2; have c3 := cell_on c3 hb2; have c4 := cell_on c4 hb2; have Hb3 := Lib.hid hb2; clear hb1 hb2; have tk3 : True := trivial))
  have hT0 : (⟨#[97, 114, 105, 116, 104, 32]⟩ : ByteArray) ++ S0 ++ ⟨#[32]⟩ ++ S1 ++ ⟨#[32]⟩ ++ S2 ++ ⟨#[10]⟩ = B (headL p i0 i1 ++ gLines gs 0) := by
    rw [H0.out, H1.out, H2.out, show (⟨#[97, 114, 105, 116, 104, 32]⟩ : ByteArray) = B (wordA ++ [32]) from rfl, show (⟨#[32]⟩ : ByteArray) = B [32] from rfl, show (⟨#[10]⟩ : ByteArray) = B [10] from rfl, B_app, B_app, B_app, B_app, B_app, B_app]
    simp [headL, numS, wordA, gLines]
  have hB3 := bel_trans A0 (bel_trans (bel_trans Hb1.out Hb2.out) Hb3.out)
  have hs0 : (headL p i0 i1 ++ gLines gs 0).length ≤ 30 := by have := headL_le (p := p) (i0 := i0) (i1 := i1) (by omega) (by omega) (by omega); simp only [gLines, List.append_nil]; exact this
  rw [hT0]
  have HB3 := Lib.hid hB3; clear hB3 hT0 f1 f2 f3 f4 f5 f6 Hb1 Hb2 Hb3
  have H9 := Lib.hid (h.below HB3.out)
  go_wp2
  go_loopw [3, 26] (fun s i W => ∃ (k : Nat) (T : ByteArray), k ≤ gn ∧ i = .int .i64 k ∧ s = .string T ∧ T.size ≤ 30 + 22 * k ∧ Hid (T = B (headL p i0 i1 ++ gLines gs k)) ∧ Hid (Below w3.heap.size w3 W)) (fun _ i _ => gn - (intOf i).toNat)
  case atStart => exact ⟨0, _, by omega, rfl, rfl, by rw [B_size]; omega, rfl, Below.refl _ _⟩
  case round =>
    obtain ⟨k, T, hk, rfl, rfl, hT, HT, HBW⟩ := hrel
    by_cases hlt : k < gn
    · have hlti : (k : Int) < (gn : Int) := by omega
      obtain ⟨gb, go, rfl, hgl, m0, m1, m2⟩ := (H9.out.below HBW.out).g.at3 hlt
      obtain ⟨⟨gk0, gk3⟩, ⟨ga0, ga1⟩, gb0, gb1⟩ := HG.out k hlt
      have HGL := Lib.hid (show gLines gs (k + 1) = gLines gs k ++ lineG (fld 3 gs k 0) (fld 3 gs k 1) (fld 3 gs k 2) from rfl)
      obtain ⟨Q, hQ⟩ : ∃ Q, fld 3 gs k 0 = Q := ⟨_, rfl⟩
      obtain ⟨X, hX⟩ : ∃ X, fld 3 gs k 1 = X := ⟨_, rfl⟩
      obtain ⟨Y, hY⟩ : ∃ Y, fld 3 gs k 2 = Y := ⟨_, rfl⟩
      rw [hQ] at m0 gk0 gk3 HGL; rw [hX] at m1 ga0 ga1 HGL; rw [hY] at m2 gb0 gb1 HGL
      clear hQ hX hY
      have dx := dig_le (x := X) (by omega); have dy := dig_le (x := Y) (by omega)
      rw [← B_size] at dx dy
      obtain ⟨SX, hSX⟩ : ∃ S, S = B (dig X) := ⟨_, rfl⟩
      obtain ⟨SY, hSY⟩ : ∃ S, S = B (dig Y) := ⟨_, rfl⟩
      have kx := Lib.hid (s_numI X (by omega)); have ky := Lib.hid (s_numI Y (by omega))
      rw [← hSX] at kx dx; rw [← hSY] at ky dy
      have HX := Lib.hid hSX; have HY := Lib.hid hSY; clear hSX hSY
      have G0 := B3.new (w := wr) (x0 := .int .i64 Q) (x1 := .int .i64 X) (x2 := .int .i64 Y) (t := 65)
      obtain ⟨wo, hwo⟩ : ∃ wo : World, wo = wr := ⟨_, rfl⟩
      subst hwo
      obtain ⟨e0, e1, e2⟩ := G0.on (bel_drew _)
      obtain ⟨e0', e1', e2'⟩ := G0
      obtain ⟨q, rfl⟩ : ∃ q : Nat, Q = q := ⟨Q.toNat, by omega⟩
      have hq4 : q < 4 := by omega
      have hqi : (q : Int) < 4 := by omega
      have hz := Lib.hid (show wo.heap.size + 1 = (wo.alloc (.cells #[.int .i64 q, .int .i64 X, .int .i64 Y] 65)).heap.size by simp)
      have hw5 := wordK_le q
      rw [← B_size] at hw5
      have hl := litW_get hq4
      have HL4 := Lib.hid (fun (W W1 : World) (m : Nat) hm hb => lit4_drew (w := W) (w1 := W1) (t := 9) (m := m) hq4 hm hb)
      unfold litW at HL4
      obtain ⟨WK, hWK⟩ : ∃ S, S = B (wordK q) := ⟨_, rfl⟩
      rw [← hWK] at hl HL4 hw5
      have HWK := Lib.hid hWK; clear hWK
      go_upto_region 5 with (fail)
      have u0 : ¬ 9223372036854775807 < WK.size + 1 := by omega
      have u1 : ¬ 9223372036854775807 < WK.size + 1 + SX.size := by omega
      have u2 : ¬ 9223372036854775807 < T.size + (WK.size + 1 + SX.size) := by omega
      go_cut [3, 5, 26] (fun s g c W => s = .string (T ++ (WK ++ ⟨#[32]⟩ ++ SX)) ∧ g = .pointer (some ⟨wo.heap.size, 0, none⟩) ∧ c = .int .i64 k ∧ Hid (Below wo.heap.size wo W) ∧ Hid (B3 W wo.heap.size (.int .i64 q) (.int .i64 X) (.int .i64 Y)))
      case first =>
        go_region_law (go_simp; go_at_call 63; refine (kx.out _).mono ?_; rintro e w4 ⟨rfl, hb4⟩; first | (have l0 := HL4.out _ _ _ hz.out hb4; have hb5 := bel_trans (bel_alloc _ _) (bel_trans (bel_drew _) hb4); have q0 := cell_on e0' hb5; have q1 := cell_on e1' hb5; have q2 := cell_on e2' hb5; have HB4 := Lib.hid (bel_trans (bel_alloc wo _) hb5); clear hb5) | (have hb5 := bel_trans (bel_drew _) hb4; have q0 := cell_on e0' hb5; have q1 := cell_on e1' hb5; have q2 := cell_on e2' hb5; have q0l := cell_on q0 (bel_alloc w4 (.cells #[.string ⟨#[97, 100, 100]⟩, .string ⟨#[109, 117, 108]⟩, .string ⟨#[115, 99, 97, 108, 101]⟩, .string ⟨#[99, 111, 110, 115, 116]⟩] 9)); have q1l := cell_on q1 (bel_alloc w4 (.cells #[.string ⟨#[97, 100, 100]⟩, .string ⟨#[109, 117, 108]⟩, .string ⟨#[115, 99, 97, 108, 101]⟩, .string ⟨#[99, 111, 110, 115, 116]⟩] 9)); have q2l := cell_on q2 (bel_alloc w4 (.cells #[.string ⟨#[97, 100, 100]⟩, .string ⟨#[109, 117, 108]⟩, .string ⟨#[115, 99, 97, 108, 101]⟩, .string ⟨#[99, 111, 110, 115, 116]⟩] 9)); have HB4 := Lib.hid (bel_trans (bel_alloc wo _) hb5); clear hb5))
        all_goals
          go_wp2_with fail
          go_meet
          exact ⟨rfl, rfl, rfl, (show Hid _ from by first | exact HB4.out | exact bel_trans HB4.out (bel_alloc _ _)), (show Hid _ from by first | exact ⟨q0, q1, q2⟩ | exact ⟨q0l, q1l, q2l⟩)⟩
      case rest =>
        obtain ⟨rfl, rfl, rfl, HBc, HGc⟩ := hcut
        obtain ⟨r0, r1, r2⟩ := id HGc.out
        clear e0 e1 e2 e0' e1' e2' hl u0 u1 u2
        have HS5 : (T ++ (WK ++ ⟨#[32]⟩ ++ SX)).size ≤ 30 + 22 * k + 13 := by rw [ByteArray.size_append, ByteArray.size_append, ByteArray.size_append]; have : (⟨#[32]⟩ : ByteArray).size = 1 := rfl; omega
        obtain ⟨T5, hT5⟩ : ∃ S, S = T ++ (WK ++ ⟨#[32]⟩ ++ SX) := ⟨_, rfl⟩
        rw [← hT5] at HS5 ⊢
        have HT5 := Lib.hid hT5; clear hT5
        by_cases h3 : q = 3
        · subst h3
          have v0 : ¬ 9223372036854775807 < T5.size + 1 := by omega
          go_wp2
          go_roundw
          case rel =>
            refine ⟨k + 1, _, by omega, by first | go_num | (simp; omega), rfl, ?_, ?_, (show Hid _ from HBW.out.trans (HBc.out.mono (by have := HBW.out.size; omega)))⟩
            · rw [ByteArray.size_append]; have : (⟨#[10]⟩ : ByteArray).size = 1 := rfl; omega
            · show _ = _
              rw [HT5.out, HT.out, HWK.out, HX.out, HGL.out, show (⟨#[32]⟩ : ByteArray) = B [32] from rfl, show (⟨#[10]⟩ : ByteArray) = B [10] from rfl]
              simp only [B_app]
              congr 1
              simp [lineG, numS]
          case measure => simp [intOf]; omega
        · have h3i : ((q : Int) == 3) = false := by simp only [beq_eq_false_iff_ne, ne_eq]; omega
          have v0 : ¬ 9223372036854775807 < 1 + SY.size := by omega
          have v1 : ¬ 9223372036854775807 < T5.size + (1 + SY.size) := by omega
          have v2 : ¬ 9223372036854775807 < T5.size + (1 + SY.size) + 1 := by omega
          go_wp2_with fail
          refine (ky.out _).mono ?_; rintro e w6 ⟨rfl, hb6⟩
          go_wp2
          go_roundw
          case rel =>
            refine ⟨k + 1, _, by omega, by first | go_num | (simp; omega), rfl, ?_, ?_, (show Hid _ from HBW.out.trans ((bel_trans HBc.out hb6).mono (by have := HBW.out.size; omega)))⟩
            · rw [ByteArray.size_append, ByteArray.size_append, ByteArray.size_append]; have : (⟨#[10]⟩ : ByteArray).size = 1 := rfl; have : (⟨#[32]⟩ : ByteArray).size = 1 := rfl; omega
            · show _ = _
              rw [HT5.out, HT.out, HWK.out, HX.out, HY.out, HGL.out, show (⟨#[32]⟩ : ByteArray) = B [32] from rfl, show (⟨#[10]⟩ : ByteArray) = B [10] from rfl]
              simp only [B_app]
              congr 1
              simp [lineG, numS, show ¬ (q : Int) = 3 by omega]
          case measure => simp [intOf]; omega
    · obtain rfl : gn = k := by omega
      have hnl : ¬ ((gn : Int) < (gn : Int)) := by omega
      clear hlt
      obtain ⟨wo, hwo⟩ : ∃ wo : World, wo = wr := ⟨_, rfl⟩
      subst hwo
      have HB5 := Lib.hid (HB3.out.trans (HBW.out.mono (HB3.out.size)))
      have H5 := Lib.hid (H9.out.below HBW.out)
      obtain ⟨b0, b1, b2, b3, b4⟩ := (show B5 w3 _ _ _ _ _ _ from ⟨c0, c1, c2, c3, c4⟩).on HBW.out
      have v0 : ¬ 9223372036854775807 < T.size + 4 := by omega
      have HE : T ++ ⟨#[111, 117, 116, 115]⟩ = B (headL p i0 i1 ++ (gLines gs gn ++ (wordO ++ oNums os 0))) := by
        rw [HT.out, show (⟨#[111, 117, 116, 115]⟩ : ByteArray) = B wordO from rfl, B_app]
        simp [oNums]
      have hT6 : (T ++ ⟨#[111, 117, 116, 115]⟩).size ≤ 34 + 22 * gn := by rw [ByteArray.size_append]; have : (⟨#[111, 117, 116, 115]⟩ : ByteArray).size = 4 := rfl; omega
      have HE7 := Lib.hid HE; clear HE
      go_wp2
      go_loopw [3, 59] (fun s i W => ∃ (k : Nat) (T : ByteArray), k ≤ on ∧ i = .int .i64 k ∧ s = .string T ∧ T.size ≤ 34 + 22 * gn + 8 * k ∧ Hid (T = B (headL p i0 i1 ++ (gLines gs gn ++ (wordO ++ oNums os k)))) ∧ Hid (Below wo.heap.size wo W)) (fun _ i _ => on - (intOf i).toNat)
      case atStart => exact ⟨0, _, by omega, rfl, rfl, by omega, HE7, Below.refl _ _⟩
      case round =>
        clear HE7 hT6 HT hT v0
        obtain ⟨k, T, hk, rfl, rfl, hT, HT, HBV⟩ := hrel
        by_cases hlt : k < on
        · have hlti : (k : Int) < (on : Int) := by omega
          obtain ⟨ob, oo, rfl, hol, m0⟩ := (H5.out.below HBV.out).o.at hlt
          have hx := HO.out _ (nth_mem (xs := os) (i := k) (by omega))
          have HOL := Lib.hid (show oNums os (k + 1) = oNums os k ++ numS (nth os k) from rfl)
          obtain ⟨X, hX⟩ : ∃ X, nth os k = X := ⟨_, rfl⟩
          rw [hX] at m0 hx HOL; clear hX
          have dx := dig_le (x := X) (by omega)
          rw [← B_size] at dx
          obtain ⟨SX, hSX⟩ : ∃ S, S = B (dig X) := ⟨_, rfl⟩
          have kx := Lib.hid (s_numI X (by omega))
          rw [← hSX] at kx dx
          have HX := Lib.hid hSX; clear hSX hx
          have v0 : ¬ 9223372036854775807 < 1 + SX.size := by omega
          have v1 : ¬ 9223372036854775807 < T.size + (1 + SX.size) := by omega
          go_wp2_with fail
          refine (kx.out _).mono ?_; rintro e w6 ⟨rfl, hb6⟩
          go_wp2
          go_roundw
          case rel =>
            refine ⟨k + 1, _, by omega, by first | go_num | (simp; omega), rfl, ?_, ?_, (show Hid _ from bel_trans HBV.out hb6)⟩
            · rw [ByteArray.size_append, ByteArray.size_append]; have : (⟨#[32]⟩ : ByteArray).size = 1 := rfl; omega
            · show _ = _
              rw [HT.out, HX.out, HOL.out, show (⟨#[32]⟩ : ByteArray) = B [32] from rfl]
              simp only [B_app]
              congr 1
              simp [numS]
          case measure => simp [intOf]; omega
        · obtain rfl : on = k := by omega
          have hnl2 : ¬ ((on : Int) < (on : Int)) := by omega
          have v0 : ¬ 9223372036854775807 < T.size + 1 := by omega
          have HE : T ++ ⟨#[10]⟩ = B (textL p i0 i1 gs gn os) := by
            rw [HT.out, show (⟨#[10]⟩ : ByteArray) = B [10] from rfl, B_app]
            simp [textL, hlo]
          have HE7 := Lib.hid HE; clear HE
          go_wp2
          go_ret
          exact ⟨by rw [← HE7.out]; first | rfl | simp, bel_trans HB5.out HBV.out⟩
end Go.Proofs.YtfichpppjpgahaaGreatDoor
namespace Go.Proofs.YtfichpppjpgahaaGreatDoor
open Go.RowKit
set_option linter.unusedVariables false
set_option linter.unusedSimpArgs false
set_option maxRecDepth 10000

/-- The pieces of a text between the bytes b; cur is what stands of the first. -/
def sp (b : UInt8) : List UInt8 → List UInt8 → List (List UInt8)
  | cur, [] => [cur]
  | cur, c :: r => if c = b then cur :: sp b [] r else sp b (cur ++ [c]) r
theorem sp_len (b : UInt8) : ∀ (r cur : List UInt8), 1 ≤ (sp b cur r).length
  | [], cur => by simp [sp]
  | c :: r, cur => by
    unfold sp
    split
    · simp
    · exact sp_len b r _
theorem sp_le (b : UInt8) : ∀ (r cur : List UInt8), (sp b cur r).length ≤ r.length + 1
  | [], cur => by simp [sp]
  | c :: r, cur => by
    unfold sp
    split
    · have := sp_le b r []; simp; omega
    · have := sp_le b r (cur ++ [c]); simp; omega
theorem sp_size (b : UInt8) : ∀ (r cur : List UInt8), ∀ x ∈ sp b cur r, x.length ≤ cur.length + r.length
  | [], cur => by simp [sp]
  | c :: r, cur => by
    intro x hx
    unfold sp at hx
    split at hx
    · rcases List.mem_cons.1 hx with e | e
      · subst e; simp
      · have := sp_size b r [] x e; simp at this ⊢; omega
    · have := sp_size b r _ x hx; simp at this ⊢; omega
theorem B_get {l : List UInt8} {k : Nat} (h : k < l.length) (h' : k < (B l).size) : (B l)[k] = l[k] := by
  show (B l).data[k] = _
  simp only [B, List.getElem_toArray]
  rfl
theorem B_ext {l : List UInt8} {i j : Nat} : (B l).extract i j = B ((l.take j).drop i) := by
  apply ByteArray.ext
  simp [B, List.drop_take]
/-- A row of strings. -/
def svs (l : List (List UInt8)) : List Value := l.map fun x => .string (B x)
theorem svs_len (l : List (List UInt8)) : (svs l).length = l.length := by simp [svs]
theorem info_str : (Tryz.prog.info? 9).map (fun i => (i.zero, i.size, i.bytes)) = some (some (.string ByteArray.empty), 1, 16) := by kernel_rfl
/-- append of one string. -/
theorem wp_appS {ops : Array Oper} {rest : List Oper} {o : Oper} {a : Act} {Q : Exit → Act → World → Prop} (w : World) (B0 n : Nat) (v : Value) (xs : List (List UInt8)) (u : List UInt8) (t : TypeId) (m : Nat)
    (hg : o.guard = none) (s x : Operand) (ho : o.op = .call { callee := .builtin .append, args := #[s, x], argTypes := #[59, 59] })
    (hs : a.eval s = v) (hx : a.eval x = .slice (some ⟨m, 0, none⟩) 1 1) (hm : m = w.heap.size)
    (hown : w.ownsRow B0 9 1 v n (svs xs)) (hB : B0 ≤ w.heap.size) (hn : n ≤ 1000000000000)
    (h : ∀ v' w', w'.ownsRow B0 9 1 v' (n + 1) (svs (xs ++ [u])) → Below B0 w w' → wpList Tryz.prog ops Q rest (a.put o.dst v') w') :
    wpList Tryz.prog ops Q (o :: rest) a (w.alloc (.cells #[.string (B u)] t)) := by
  obtain ⟨i0, hi, hz0, hz1, hz2⟩ := info_parts info_str
  subst hm
  refine wpList_append_own _ hg s x 59 ho B0 9 i0 (.string ByteArray.empty) 1 16 Tryz.underlying59 hi hz0 hz1 hz2 rfl (by decide) v n (svs xs) hs (hown.alloc _) ⟨w.heap.size, 0, none⟩ 1 1 [.string (B u)] hx rfl ?_ ?_ (by unfold maxLen; omega) (by omega) (by simp; omega) ?_
  · intro j c hj
    match j, hj with
    | 0, hj =>
      simp at hj; subst hj
      simp [Addr.add, World.cell?_alloc_at]
  · intro c hc; simp at hc; subst hc; rfl
  · intro v' w' h1 h2 _
    have e : svs xs ++ [.string (B u)] = svs (xs ++ [u]) := by simp [svs]
    rw [e] at h1
    exact h v' w' h1 (((Below.refl B0 w).alloc hB _).trans (below_grown_own (hown.alloc _) h2 (by simp; omega)))
/-- A slice of strings that can be read. -/
structure Strs (w : World) (a : Option Addr) (n cap : Nat) (xs : List (List UInt8)) : Prop where
  len : xs.length = n
  ncap : n ≤ cap
  small : n ≤ 100000000
  cell : Hid (∀ i (h : i < xs.length), ∃ b off, a = some ⟨b, off, none⟩ ∧ b < w.heap.size ∧ w.cell? ⟨b, off + i, none⟩ = some (.string (B xs[i])))
theorem Strs.below {w w' : World} {a : Option Addr} {n cap : Nat} {xs : List (List UInt8)} (h : Strs w a n cap xs) (hb : Below w.heap.size w w') : Strs w' a n cap xs :=
  ⟨h.len, h.ncap, h.small, fun i hi => by
    obtain ⟨b, off, e, hl, hc⟩ := h.cell.out i hi
    exact ⟨b, off, e, Nat.lt_of_lt_of_le hl hb.size, cell_on hc hb⟩⟩
theorem Strs.set {w : World} {a : Option Addr} {n cap : Nat} {xs : List (List UInt8)} (h : Strs w a n cap xs) {p : Addr} (hp : ∀ b o, a = some ⟨b, o, none⟩ → b ≠ p.block) (u : Value) : Strs (w.setCell p u) a n cap xs :=
  ⟨h.len, h.ncap, h.small, fun i hi => by
    obtain ⟨b, off, e, hl, hc⟩ := h.cell.out i hi
    exact ⟨b, off, e, by simpa using hl, (World.cell?_setCell_other _ _ _ _ (fun z => hp b off e (by rw [z]))).trans hc⟩⟩
theorem Strs.grown {w w' : World} {a : Option Addr} {n cap : Nat} {xs : List (List UInt8)} {o : Option Nat} (h : Strs w a n cap xs) (k : w.grownBy w' o) (hp : ∀ b off, a = some ⟨b, off, none⟩ → some b ≠ o) (hs : w.heap.size ≤ w'.heap.size) : Strs w' a n cap xs :=
  ⟨h.len, h.ncap, h.small, fun i hi => by
    obtain ⟨b, off, e, hl, hc⟩ := h.cell.out i hi
    exact ⟨b, off, e, Nat.lt_of_lt_of_le hl hs, k.cell hc (hp b off e)⟩⟩
theorem Strs.at {w : World} {a : Option Addr} {n cap : Nat} {xs : List (List UInt8)} (h : Strs w a n cap xs) {i : Nat} (hi : i < n) : ∃ b off x, a = some ⟨b, off, none⟩ ∧ b < w.heap.size ∧ w.cell? ⟨b, off + i, none⟩ = some (.string (B x)) ∧ xs[i]? = some x := by
  obtain ⟨b, off, e, hl, hc⟩ := h.cell.out i (by rw [h.len]; exact hi)
  exact ⟨b, off, _, e, hl, hc, List.getElem?_eq_getElem _⟩
theorem Strs.of {w : World} {B0 n : Nat} {v : Value} {xs : List (List UInt8)} {t : TypeId} (h : w.ownsRow B0 t 1 v n (svs xs)) (hn : n ≤ 100000000) : ∃ a c, v = .slice a n c ∧ Strs w a n c xs ∧ (∀ b o, a = some ⟨b, o, none⟩ → B0 ≤ b ∧ b < w.heap.size) := by
  have hl : xs.length = n := by have := h.1; rw [svs_len] at this; omega
  rcases h.2 with ⟨h1, h2⟩ | ⟨g, cap, cur, hv, hg, hh, hc, hm, hs, ht⟩
  · subst h2
    exact ⟨none, 0, h1, ⟨hl, Nat.le_refl _, by omega, fun i hi => by omega⟩, fun b o e => by cases e⟩
  · subst hv
    refine ⟨some ⟨g, 0, none⟩, cap, rfl, ⟨hl, hc, hn, fun i hi => ?_⟩, fun b o e => by simp only [Option.some.injEq, Addr.mk.injEq] at e; obtain ⟨rfl, _⟩ := e; exact World.ownsRow.lt h g rfl⟩
    have k := World.ownsRow.cellAt h i (by omega)
    have k2 : w.cell? ⟨g, i, none⟩ = some (.string (B xs[i])) := by rw [k]; simp [svs, hi]
    exact ⟨g, 0, rfl, lt_of_cell k2, by rw [Nat.zero_add]; exact k2⟩
set_option maxHeartbeats 4000000 in
theorem s_l1Split (l : List UInt8) (bb : UInt8) (z : Int) (hz : z = bb.toNat) (w : World) (hl : l.length ≤ 1000000) :
    Calls Tryz.prog 39 #[.string (B l), .int .u8 z] w fun e w' => ∃ r c, e = .returned (.slice r (sp bb [] l).length c) ∧ Strs w' r (sp bb [] l).length c (sp bb [] l) ∧ (∀ b o, r = some ⟨b, o, none⟩ → w.heap.size ≤ b ∧ b < w'.heap.size) ∧ Below w.heap.size w w' := by
  obtain ⟨n, hn⟩ : ∃ n, l.length = n := ⟨_, rfl⟩
  have hsz : (B l).size = n := by rw [B_size, hn]
  have hn6 : n ≤ 1000000 := by omega
  go_enter Tryz.func39, Tryz.ntmps39
  have HZ := Lib.hid hz; have HN := Lib.hid hn; clear hz hn
  go_wp2
  go_loopw [5, 6, 7] (fun o f i W => ∃ (k fr : Nat) (outs : List (List UInt8)), k ≤ n ∧ fr ≤ k ∧ outs.length ≤ k ∧ i = .int .i64 k ∧ f = .int .i64 fr ∧ Hid (W.ownsRow w.heap.size 9 1 o outs.length (svs outs)) ∧ Hid (sp bb [] l = outs ++ sp bb ((l.take k).drop fr) (l.drop k)) ∧ Hid (Below w.heap.size w W)) (fun _ _ i _ => n - (intOf i).toNat)
  case atStart => exact ⟨0, 0, [], by omega, by omega, by simp, rfl, rfl, World.ownsRow_nil _ _ _ _, (show Hid _ from by show _ = _; simp), Below.refl _ _⟩
  case round =>
    obtain ⟨k, fr, outs, hk, hfr, hol, rfl, rfl, HO, HE, HBW⟩ := hrel
    by_cases hlt : k < n
    · have hlti : (k : Int) < (n : Int) := by omega
      have hkl : k < l.length := by rw [HN.out]; exact hlt
      have hks : k < (B l).size := by omega
      obtain ⟨u, hu⟩ : ∃ u, l[k] = u := ⟨_, rfl⟩
      have hget : (B l)[k] = u := by rw [B_get hkl, hu]
      have hdr : l.drop k = u :: l.drop (k + 1) := by rw [← hu]; exact List.drop_eq_getElem_cons hkl
      have HD := Lib.hid hdr; have HU := Lib.hid hu; clear hdr hu hkl
      have HX := Lib.hid (B_ext (l := l) (i := fr) (j := k))
      obtain ⟨P, hP⟩ : ∃ P, (l.take k).drop fr = P := ⟨_, rfl⟩
      have hex := HX.out
      rw [hP] at hex
      rw [hP] at HE
      have htk : l.take (k + 1) = l.take k ++ [u] := by rw [← HU.out]; exact List.take_succ_eq_append_getElem (by rw [HN.out]; exact hlt)
      have hlk : (l.take k).length = k := by rw [List.length_take, HN.out]; omega
      have HP0 := Lib.hid (show (l.take (k + 1)).drop (k + 1) = [] by rw [htk]; apply List.drop_eq_nil_of_le; simp [hlk])
      have HP1 := Lib.hid (show (l.take (k + 1)).drop fr = P ++ [u] by rw [htk, List.drop_append_of_le_length (by omega), hP])
      clear htk hlk hP HX
      have hwz := HBW.out.size
      have ei : IntKind.i64.wrap ((k : Int) + 1) = (k : Int) + 1 := IntWalk.i64_in _ (by omega)
      by_cases hub : u = bb
      · have hub2 : ((u.toNat : Int) == z) = true := by rw [HZ.out, hub]; simp
        have HUB := Lib.hid hub; clear hub
        have hfk : (fr : Int) ≤ (k : Int) := by omega
        have hkn : (k : Int) ≤ (n : Int) := by omega
        go_wp2_with (at_builtin; refine wp_appS _ w.heap.size _ _ outs P _ _ rfl _ _ rfl rfl rfl (by first | rfl | simp) HO.out (by first | omega | (simp; omega)) (by omega) ?_; intro v9 w9 hv9 hb9)
        go_roundw
        case rel =>
          refine ⟨k + 1, k + 1, outs ++ [P], by omega, by omega, by simp; omega, by go_num, by go_num, (show Hid _ from by simp only [List.length_append, List.length_singleton]; exact hv9), (show Hid _ from ?_), (show Hid _ from HBW.out.trans hb9)⟩
          show _ = _
          rw [HE.out, HD.out, HP0.out, sp, if_pos HUB.out]
          simp
        case measure => simp [intOf]; omega
      · have hub2 : ((u.toNat : Int) == z) = false := by rw [HZ.out]; simp only [beq_eq_false_iff_ne, ne_eq, Int.natCast_inj]; intro e; exact hub (UInt8.toNat_inj.1 e)
        have HUB := Lib.hid hub; clear hub
        go_wp2
        go_roundw
        case rel =>
          refine ⟨k + 1, fr, outs, by omega, by omega, by omega, by go_num, rfl, HO, (show Hid _ from ?_), HBW⟩
          show _ = _
          rw [HE.out, HD.out, HP1.out, sp, if_neg HUB.out]
        case measure => simp [intOf]; omega
    · obtain rfl : n = k := by omega
      have hnl : ¬ ((n : Int) < (n : Int)) := by omega
      have hex := B_ext (l := l) (i := fr) (j := n)
      obtain ⟨P, hP⟩ : ∃ P, (l.take n).drop fr = P := ⟨_, rfl⟩
      rw [hP] at hex HE
      have hdn : l.drop n = [] := List.drop_eq_nil_of_le (by rw [HN.out]; omega)
      have HE2 := Lib.hid (show sp bb [] l = outs ++ [P] by rw [HE.out, hdn, sp])
      have hfk : (fr : Int) ≤ (n : Int) := by omega
      have hwz := HBW.out.size
      clear hP hdn HE
      go_wp2_with (at_builtin; refine wp_appS _ w.heap.size _ _ outs P _ _ rfl _ _ rfl rfl rfl (by first | rfl | simp) HO.out (by first | omega | (simp; omega)) (by omega) ?_; intro v9 w9 hv9 hb9; obtain ⟨r9, c9, rfl, HS9, hp9⟩ := Strs.of hv9 (by omega))
      go_ret
      refine ⟨r9, c9, ?_, ?_, hp9, HBW.out.trans hb9⟩
      · rw [HE2.out]; simp
      · rw [HE2.out]; simp only [List.length_append, List.length_singleton]; exact HS9
end Go.Proofs.YtfichpppjpgahaaGreatDoor
namespace Go.Proofs.YtfichpppjpgahaaGreatDoor
open Go.RowKit
set_option linter.unusedVariables false
set_option linter.unusedSimpArgs false
set_option maxRecDepth 10000

/-- The number of some digits; -1 behind a byte that is none. -/
def rdF : List UInt8 → Int → Int
  | [], a => a
  | c :: r, a => if c.toNat < 48 ∨ 57 < c.toNat then -1 else rdF r (10 * a + ((c.toNat : Int) - 48))
/-- What the specification reads. -/
def readL (l : List UInt8) : Int := if 1 ≤ l.length ∧ l.length ≤ 6 then (if l.headD 0 = 48 ∧ 1 < l.length then -1 else rdF l 0) else -1
def p10 : Nat → Int
  | 0 => 1
  | k + 1 => 10 * p10 k
theorem p10_le {k : Nat} (h : k ≤ 5) : 1 ≤ p10 k ∧ p10 k ≤ 100000 := by
  rcases (show k = 0 ∨ k = 1 ∨ k = 2 ∨ k = 3 ∨ k = 4 ∨ k = 5 by omega) with rfl | rfl | rfl | rfl | rfl | rfl <;> decide
theorem p10_pos : ∀ k, 1 ≤ p10 k
  | 0 => by decide
  | k + 1 => by have := p10_pos k; show 1 ≤ 10 * p10 k; omega
theorem rdF_bd : ∀ (l : List UInt8) (a : Int), 0 ≤ a → -1 ≤ rdF l a ∧ rdF l a + 1 ≤ (a + 1) * p10 l.length
  | [], a, h => by show -1 ≤ a ∧ a + 1 ≤ (a + 1) * 1; omega
  | c :: r, a, h => by
    have hp := p10_pos r.length
    have e : (a + 1) * p10 (c :: r).length = (10 * a + 10) * p10 r.length := by
      show (a + 1) * (10 * p10 r.length) = _
      rw [← Int.mul_assoc, show (a + 1) * 10 = 10 * a + 10 by omega]
    rw [e]
    unfold rdF
    split
    · have := Int.mul_nonneg (show 0 ≤ 10 * a + 10 by omega) (show 0 ≤ p10 r.length by omega)
      omega
    · rename_i hc
      have h1 := rdF_bd r (10 * a + ((c.toNat : Int) - 48)) (by omega)
      have h2 := Int.mul_le_mul_of_nonneg_right (show 10 * a + ((c.toNat : Int) - 48) + 1 ≤ 10 * a + 10 by omega) (show 0 ≤ p10 r.length by omega)
      omega
theorem readL_bd (l : List UInt8) : -1 ≤ readL l ∧ readL l ≤ 1000000 := by
  unfold readL
  split
  · rename_i h
    split
    · omega
    · have h1 := rdF_bd l 0 (by omega)
      have h2 : p10 l.length ≤ 1000000 := by
        rcases (show l.length = 1 ∨ l.length = 2 ∨ l.length = 3 ∨ l.length = 4 ∨ l.length = 5 ∨ l.length = 6 by omega) with e | e | e | e | e | e <;> rw [e] <;> decide
      omega
  · omega
set_option maxHeartbeats 4000000 in
theorem s_l1Read (l : List UInt8) (w : World) (hl : l.length ≤ 1000000) :
    Calls Tryz.prog 40 #[.string (B l)] w fun e w' => e = .returned (.int .i64 (readL l)) ∧ w' = w := by
  obtain ⟨n, hn⟩ : ∃ n, l.length = n := ⟨_, rfl⟩
  have hsz : (B l).size = n := by rw [B_size, hn]
  have hn6 : n ≤ 1000000 := by omega
  by_cases h1 : 1 ≤ n ∧ n ≤ 6
  · obtain ⟨h1, h2⟩ := h1
    have hi : inB (n : Int) 1 6 = true := inB_iff.2 (by omega)
    have hs0 : 0 < (B l).size := by omega
    obtain ⟨u, hu⟩ : ∃ u, l[0]'(by omega) = u := ⟨_, rfl⟩
    have hget : (B l)[0] = u := (B_get (l := l) (k := 0) (by omega) hs0).trans hu
    have hhd : l.headD 0 = u := by
      cases l with
      | nil => simp at hn; omega
      | cons c r => simpa using hu
    by_cases h3 : u = 48 ∧ 1 < n
    · have hres : readL l = -1 := by unfold readL; rw [if_pos (by omega), hhd, if_pos (by rw [hn]; exact h3)]
      obtain ⟨h3, h4⟩ := h3
      have hub : ((u.toNat : Int) == 48) = true := by rw [h3]; rfl
      have hn1 : (1 : Int) < (n : Int) := by omega
      have HR := Lib.hid hres; clear hres hhd hu h3 hn
      go_enter Tryz.func40, Tryz.ntmps40
      go_wp2
      go_ret
      exact ⟨by rw [HR.out]; first | rfl | simp, rfl⟩
    · have hres : readL l = rdF l 0 := by unfold readL; rw [if_pos (by omega), hhd, if_neg (by rw [hn]; exact h3)]
      have HR := Lib.hid hres
      have HN := Lib.hid hn
      have hb1 : ((u.toNat : Int) == 48) = true ∧ ¬ (1 : Int) < (n : Int) ∨ ((u.toNat : Int) == 48) = false := by
        by_cases e : u = 48
        · left
          refine ⟨by rw [e]; rfl, ?_⟩
          intro q
          exact h3 ⟨e, by omega⟩
        · right
          simp only [beq_eq_false_iff_ne, ne_eq]
          intro q
          exact e (UInt8.toNat_inj.1 (by show u.toNat = 48; omega))
      clear hres hhd hu h3 hn
      have KEY : ∀ (b1 : Bool), (((u.toNat : Int) == 48) = b1) → (b1 = true → ¬ (1 : Int) < (n : Int)) → Calls Tryz.prog 40 #[.string (B l)] w fun e w' => e = .returned (.int .i64 (readL l)) ∧ w' = w := by
        intro b1 hb hb'
        cases b1 with
        | true =>
          have hn1 := hb' rfl
          clear hb' hb1
          go_enter Tryz.func40, Tryz.ntmps40
          go_wp2
          go_loop [3, 4] (fun a i => ∃ (k : Nat) (A : Int), k ≤ n ∧ i = .int .i64 k ∧ a = .int .i64 A ∧ Hid (0 ≤ A ∧ A + 1 ≤ p10 k) ∧ Hid (rdF l 0 = rdF (l.drop k) A)) (fun _ i => n - (intOf i).toNat)
          case atStart => exact ⟨0, 0, by omega, rfl, rfl, (show Hid _ from by constructor <;> decide), (show Hid _ from by show _ = _; simp)⟩
          case round =>
            obtain ⟨k, A, hk, rfl, rfl, HA, HE⟩ := hrel
            by_cases hlt : k < n
            · have hlti : (k : Int) < (n : Int) := by omega
              have hks : k < (B l).size := by omega
              obtain ⟨c, hc⟩ : ∃ c, l[k]'(by rw [HN.out]; exact hlt) = c := ⟨_, rfl⟩
              have hgk : (B l)[k] = c := (B_get (l := l) (k := k) (by rw [HN.out]; exact hlt) hks).trans hc
              have hdr : l.drop k = c :: l.drop (k + 1) := by rw [← hc]; exact List.drop_eq_getElem_cons (by rw [HN.out]; exact hlt)
              have HD := Lib.hid hdr; clear hdr hc
              have hA1 := HA.out.1; have hA2 := HA.out.2; have hp := (p10_le (k := k) (by omega)).2
              by_cases hlo : (c.toNat : Int) < 48
              · have HV := Lib.hid (show readL l = -1 by rw [HR.out, HE.out, HD.out, rdF, if_pos (Or.inl (by omega))])
                clear hA1 hA2 hp
                go_wp2
                go_ret
                exact ⟨by rw [HV.out]; first | rfl | simp, rfl⟩
              · by_cases hhi : 57 < (c.toNat : Int)
                · have HV := Lib.hid (show readL l = -1 by rw [HR.out, HE.out, HD.out, rdF, if_pos (Or.inr (by omega))])
                  clear hA1 hA2 hp
                  go_wp2
                  go_ret
                  exact ⟨by rw [HV.out]; first | rfl | simp, rfl⟩
                · have em : IntKind.i64.wrap (10 * A) = 10 * A := IntWalk.i64_in _ (by omega)
                  have eu : IntKind.u8.wrap ((c.toNat : Int) - 48) = (c.toNat : Int) - 48 := IntWalk.u8_in _ (by omega)
                  have ew : IntKind.i64.wrap ((c.toNat : Int) - 48) = (c.toNat : Int) - 48 := IntWalk.i64_in _ (by omega)
                  have es : IntKind.i64.wrap (10 * A + ((c.toNat : Int) - 48)) = 10 * A + ((c.toNat : Int) - 48) := IntWalk.i64_in _ (by omega)
                  have HE2 := Lib.hid (show rdF l 0 = rdF (l.drop (k + 1)) (10 * A + ((c.toNat : Int) - 48)) by rw [HE.out, HD.out, rdF, if_neg (by omega)])
                  have HA2 := Lib.hid (show 0 ≤ 10 * A + ((c.toNat : Int) - 48) ∧ 10 * A + ((c.toNat : Int) - 48) + 1 ≤ p10 (k + 1) from ⟨by omega, by show _ ≤ 10 * p10 k; omega⟩)
                  clear hA1 hA2 hp
                  go_wp2
                  go_round
                  case rel => exact ⟨k + 1, _, by omega, by go_num, rfl, HA2, HE2⟩
                  case measure => simp [intOf]; omega
            · obtain rfl : n = k := by omega
              have hnl : ¬ ((n : Int) < (n : Int)) := by omega
              have HV := Lib.hid (show readL l = A by rw [HR.out, HE.out, List.drop_eq_nil_of_le (by rw [HN.out]; omega), rdF])
              go_wp2
              go_ret
              exact ⟨by rw [HV.out]; first | rfl | simp, rfl⟩
        | false =>
          clear hb' hb1
          go_enter Tryz.func40, Tryz.ntmps40
          go_wp2
          go_loop [3, 4] (fun a i => ∃ (k : Nat) (A : Int), k ≤ n ∧ i = .int .i64 k ∧ a = .int .i64 A ∧ Hid (0 ≤ A ∧ A + 1 ≤ p10 k) ∧ Hid (rdF l 0 = rdF (l.drop k) A)) (fun _ i => n - (intOf i).toNat)
          case atStart => exact ⟨0, 0, by omega, rfl, rfl, (show Hid _ from by constructor <;> decide), (show Hid _ from by show _ = _; simp)⟩
          case round =>
            obtain ⟨k, A, hk, rfl, rfl, HA, HE⟩ := hrel
            by_cases hlt : k < n
            · have hlti : (k : Int) < (n : Int) := by omega
              have hks : k < (B l).size := by omega
              obtain ⟨c, hc⟩ : ∃ c, l[k]'(by rw [HN.out]; exact hlt) = c := ⟨_, rfl⟩
              have hgk : (B l)[k] = c := (B_get (l := l) (k := k) (by rw [HN.out]; exact hlt) hks).trans hc
              have hdr : l.drop k = c :: l.drop (k + 1) := by rw [← hc]; exact List.drop_eq_getElem_cons (by rw [HN.out]; exact hlt)
              have HD := Lib.hid hdr; clear hdr hc
              have hA1 := HA.out.1; have hA2 := HA.out.2; have hp := (p10_le (k := k) (by omega)).2
              by_cases hlo : (c.toNat : Int) < 48
              · have HV := Lib.hid (show readL l = -1 by rw [HR.out, HE.out, HD.out, rdF, if_pos (Or.inl (by omega))])
                clear hA1 hA2 hp
                go_wp2
                go_ret
                exact ⟨by rw [HV.out]; first | rfl | simp, rfl⟩
              · by_cases hhi : 57 < (c.toNat : Int)
                · have HV := Lib.hid (show readL l = -1 by rw [HR.out, HE.out, HD.out, rdF, if_pos (Or.inr (by omega))])
                  clear hA1 hA2 hp
                  go_wp2
                  go_ret
                  exact ⟨by rw [HV.out]; first | rfl | simp, rfl⟩
                · have em : IntKind.i64.wrap (10 * A) = 10 * A := IntWalk.i64_in _ (by omega)
                  have eu : IntKind.u8.wrap ((c.toNat : Int) - 48) = (c.toNat : Int) - 48 := IntWalk.u8_in _ (by omega)
                  have ew : IntKind.i64.wrap ((c.toNat : Int) - 48) = (c.toNat : Int) - 48 := IntWalk.i64_in _ (by omega)
                  have es : IntKind.i64.wrap (10 * A + ((c.toNat : Int) - 48)) = 10 * A + ((c.toNat : Int) - 48) := IntWalk.i64_in _ (by omega)
                  have HE2 := Lib.hid (show rdF l 0 = rdF (l.drop (k + 1)) (10 * A + ((c.toNat : Int) - 48)) by rw [HE.out, HD.out, rdF, if_neg (by omega)])
                  have HA2 := Lib.hid (show 0 ≤ 10 * A + ((c.toNat : Int) - 48) ∧ 10 * A + ((c.toNat : Int) - 48) + 1 ≤ p10 (k + 1) from ⟨by omega, by show _ ≤ 10 * p10 k; omega⟩)
                  clear hA1 hA2 hp
                  go_wp2
                  go_round
                  case rel => exact ⟨k + 1, _, by omega, by go_num, rfl, HA2, HE2⟩
                  case measure => simp [intOf]; omega
            · obtain rfl : n = k := by omega
              have hnl : ¬ ((n : Int) < (n : Int)) := by omega
              have HV := Lib.hid (show readL l = A by rw [HR.out, HE.out, List.drop_eq_nil_of_le (by rw [HN.out]; omega), rdF])
              go_wp2
              go_ret
              exact ⟨by rw [HV.out]; first | rfl | simp, rfl⟩
      rcases hb1 with ⟨e, q⟩ | e
      · exact KEY true e (fun _ => q)
      · exact KEY false e (fun z => by cases z)
  · have hres : readL l = -1 := by unfold readL; rw [if_neg (by rw [hn]; exact h1)]
    have HR := Lib.hid hres
    rcases (show n < 1 ∨ 6 < n by omega) with q | q
    · have q1 : ¬ (1 : Int) ≤ (n : Int) := by omega
      clear hres hn h1
      go_enter Tryz.func40, Tryz.ntmps40
      go_wp2
      go_ret
      exact ⟨by rw [HR.out]; first | rfl | simp, rfl⟩
    · have q1 : (1 : Int) ≤ (n : Int) := by omega
      have q2 : ¬ (n : Int) ≤ 6 := by omega
      clear hres hn h1
      go_enter Tryz.func40, Tryz.ntmps40
      go_wp2
      go_ret
      exact ⟨by rw [HR.out]; first | rfl | simp, rfl⟩
end Go.Proofs.YtfichpppjpgahaaGreatDoor
