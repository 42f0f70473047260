/-
  Contracts: how many gates of each kind; TriplesNeeded, both sides.
-/
import Derived.Test.YtfejpmfcognikaaC4
namespace Go.Proofs.Ytfejpmfcognikaa
open Go.RowKit
set_option linter.unusedVariables false
set_option linter.unusedSimpArgs false

theorem B4.onlyI {w w' : World} {b lo hi : Nat} {x0 x1 x2 x3 : Value} (h : B4 w b x0 x1 x2 x3) (ho : OnlyI lo hi w w') (hd : b < lo ∨ hi ≤ b) : B4 w' b x0 x1 x2 x3 :=
  ⟨(World.cell?_of_block (ho.block b (by omega))).trans h.c0, (World.cell?_of_block (ho.block b (by omega))).trans h.c1, (World.cell?_of_block (ho.block b (by omega))).trans h.c2, (World.cell?_of_block (ho.block b (by omega))).trans h.c3⟩
/-- How many of the first n gates are of a kind. -/
def cntK (gs : List Int) (q : Int) : Nat → Int
  | 0 => 0
  | n + 1 => cntK gs q n + (if fld 3 gs n 0 = q then 1 else 0)
theorem cntK_bd (gs : List Int) (q : Int) : ∀ n : Nat, 0 ≤ cntK gs q n ∧ cntK gs q n ≤ n
  | 0 => by simp [cntK]
  | n + 1 => by
    have := cntK_bd gs q n
    rw [cntK]; split <;> omega
theorem gateB_kind {k a b own : Int} (h : gateB k a b own = true) : k = 0 ∨ k = 1 ∨ k = 2 ∨ k = 3 := by
  by_cases h0 : k = 0 ∨ k = 1
  · omega
  · by_cases h2 : k = 2
    · omega
    · rw [gateB_3 h0 h2, Bool.and_eq_true, decide_eq_true_iff] at h; omega
/-- All gates are of a known kind. -/
def kindsOk (gs : List Int) (n : Nat) : Prop := ∀ i, i < n → fld 3 gs i 0 = 0 ∨ fld 3 gs i 0 = 1 ∨ fld 3 gs i 0 = 2 ∨ fld 3 gs i 0 = 3
theorem kindsOk.of {base : Int} {gs : List Int} {n : Nat} (h : gatesB base gs n = true) : kindsOk gs n := fun i hi => gateB_kind (gatesB_at h hi)
def kinds (gs : List Int) (n : Nat) : List Int := [cntK gs 0 n, cntK gs 1 n, cntK gs 2 n, cntK gs 3 n]

set_option maxHeartbeats 4000000 in
theorem i_countKinds (ga : Option Addr) (gn gc : Nat) (gs : List Int) (w : World) (h : Recs 3 w ga gn gc gs) (hk : kindsOk gs gn) (hn : gn ≤ 300) :
    Calls Try.prog 116 #[.slice ga gn gc] w fun e w' => ∃ r c, e = .returned (.slice r 4 c) ∧ OwnI 3 w' w.heap.size r 4 c (kinds gs gn) ∧ Below w.heap.size w w' := by
  obtain ⟨W0, hW0⟩ : ∃ X : World, X = w := ⟨_, rfl⟩
  subst hW0
  have A0 := Below.refl W0.heap.size W0
  have HK := Lib.hid hk; clear hk
  obtain ⟨ii, hi, hz0, hz1, hz2⟩ := info_parts info_int
  go_enter Try.func116, Try.ntmps116
  go_wp2_with (at_make; refine wpList_make_full _ rfl _ _ 23 rfl W0.heap.size 3 ii (.int .i64 0) 1 Try.underlying23 hi hz0 hz1 _ _ _ _ 4 rfl rfl rfl rfl ?b1 ?b2 ?b3 ?_)
  case b1 => rw [hz2]; omega
  case b2 => unfold maxLen; omega
  case b3 => exact Nat.le_refl _
  intro w1 hown hgrow
  have hb1 : Below W0.heap.size W0 w1 := (Below.refl _ _).grown hgrow (Nat.le_refl _) (fun k hk => by cases hk)
  try simp only [Nat.mul_one, Value.cells] at hown
  rw [made_ivs] at hown
  obtain ⟨a', cap', hv, ho⟩ := OwnI.of hown (by omega) (fun x hx => by rw [List.eq_of_mem_replicate hx]; unfold Fits; omega)
  simp only [Value.slice.injEq] at hv
  obtain ⟨rfl, _, rfl⟩ := hv
  have ho2 : OwnI 3 w1 W0.heap.size (some ⟨W0.heap.size, 0, none⟩) 4 4 (kinds gs 0) := ho
  clear hown hgrow hi hz0 hz1 hz2 ho
  have HO := Lib.hid ho2; have HB := Lib.hid hb1; clear ho2
  clear hb1
  go_wp2
  go_loopw [9] (fun i W => ∃ k : Nat, k ≤ gn ∧ i = .int .i64 k ∧ Hid (OwnI 3 W W0.heap.size (some ⟨W0.heap.size, 0, none⟩) 4 4 (kinds gs k)) ∧ Hid (Below W0.heap.size W0 W)) (fun i _ => gn - (intOf i).toNat)
  case atStart => exact ⟨0, by omega, rfl, HO, HB⟩
  case round =>
    clear HO HB
    obtain ⟨k, hk, rfl, HO, HB⟩ := hrel
    by_cases hlt : k < gn
    · have hlti : (k : Int) < (gn : Int) := by omega
      obtain ⟨gb, go, rfl, gl, g0, g1, g2⟩ := (h.below (bel_trans A0 HB.out)).at3 hlt
      have hkk := HK.out k hlt
      have bd0 := cntK_bd gs 0 k
      have bd1 := cntK_bd gs 1 k
      have bd2 := cntK_bd gs 2 k
      have bd3 := cntK_bd gs 3 k
      obtain ⟨b00, b01⟩ := bd0
      obtain ⟨b10, b11⟩ := bd1
      obtain ⟨b20, b21⟩ := bd2
      obtain ⟨b30, b31⟩ := bd3
      have hgl := HB.out.size
      have A1 := bel_alloc wr (.cells #[.int .i64 (fld 3 gs k 0), .int .i64 (fld 3 gs k 1), .int .i64 (fld 3 gs k 2)] 111)
      have HO1 := HO.out.below A1
      have HS : ∀ q : Int, cntK gs q (k + 1) = cntK gs q k + (if fld 3 gs k 0 = q then 1 else 0) := fun q => rfl
      have HSS := Lib.hid HS; clear HS
      rcases hkk with hx | hx | hx | hx
      · obtain ⟨_, e9, _, l9, m9, f9⟩ := HO1.at (i := 0) (by omega)
        simp only [Option.some.injEq, Addr.mk.injEq] at e9
        obtain ⟨rfl, _, _⟩ := e9
        have m8 : (wr.alloc (.cells #[.int .i64 (fld 3 gs k 0), .int .i64 (fld 3 gs k 1), .int .i64 (fld 3 gs k 2)] 111)).cell? ⟨W0.heap.size, 0, none⟩ = some (.int .i64 (cntK gs 0 k)) := m9
        have e1 : IntKind.i64.wrap (cntK gs 0 k + 1) = cntK gs 0 k + 1 := IntWalk.i64_in _ (by omega)
        have HN := HO1.set (i := 0) (by omega) (cntK gs 0 k + 1) (by unfold Fits; omega)
        have HN2 : kinds gs (k + 1) = (kinds gs k).set 0 (cntK gs 0 k + 1) := by unfold kinds; rw [HSS.out, HSS.out, HSS.out, HSS.out, hx]; simp
        have HNN := Lib.hid HN; have HNE := Lib.hid HN2; clear HN HN2 HO1 m9 HO
        rw [hx] at m8 f9 A1 HNN g0
        go_wp2
        go_roundw
        case rel => exact ⟨k + 1, by omega, by go_num, (show Hid _ from by show OwnI _ _ _ _ _ _ _; rw [HNE.out]; exact HNN.out), (show Hid _ from (bel_trans HB.out A1).setCell (by dsimp only; omega) _)⟩
        case measure => simp [intOf]; omega
      · obtain ⟨_, e9, _, l9, m9, f9⟩ := HO1.at (i := 1) (by omega)
        simp only [Option.some.injEq, Addr.mk.injEq] at e9
        obtain ⟨rfl, _, _⟩ := e9
        have m8 : (wr.alloc (.cells #[.int .i64 (fld 3 gs k 0), .int .i64 (fld 3 gs k 1), .int .i64 (fld 3 gs k 2)] 111)).cell? ⟨W0.heap.size, 1, none⟩ = some (.int .i64 (cntK gs 1 k)) := m9
        have e1 : IntKind.i64.wrap (cntK gs 1 k + 1) = cntK gs 1 k + 1 := IntWalk.i64_in _ (by omega)
        have HN := HO1.set (i := 1) (by omega) (cntK gs 1 k + 1) (by unfold Fits; omega)
        have HN2 : kinds gs (k + 1) = (kinds gs k).set 1 (cntK gs 1 k + 1) := by unfold kinds; rw [HSS.out, HSS.out, HSS.out, HSS.out, hx]; simp
        have HNN := Lib.hid HN; have HNE := Lib.hid HN2; clear HN HN2 HO1 m9 HO
        rw [hx] at m8 f9 A1 HNN g0
        go_wp2
        go_roundw
        case rel => exact ⟨k + 1, by omega, by go_num, (show Hid _ from by show OwnI _ _ _ _ _ _ _; rw [HNE.out]; exact HNN.out), (show Hid _ from (bel_trans HB.out A1).setCell (by dsimp only; omega) _)⟩
        case measure => simp [intOf]; omega
      · obtain ⟨_, e9, _, l9, m9, f9⟩ := HO1.at (i := 2) (by omega)
        simp only [Option.some.injEq, Addr.mk.injEq] at e9
        obtain ⟨rfl, _, _⟩ := e9
        have m8 : (wr.alloc (.cells #[.int .i64 (fld 3 gs k 0), .int .i64 (fld 3 gs k 1), .int .i64 (fld 3 gs k 2)] 111)).cell? ⟨W0.heap.size, 2, none⟩ = some (.int .i64 (cntK gs 2 k)) := m9
        have e1 : IntKind.i64.wrap (cntK gs 2 k + 1) = cntK gs 2 k + 1 := IntWalk.i64_in _ (by omega)
        have HN := HO1.set (i := 2) (by omega) (cntK gs 2 k + 1) (by unfold Fits; omega)
        have HN2 : kinds gs (k + 1) = (kinds gs k).set 2 (cntK gs 2 k + 1) := by unfold kinds; rw [HSS.out, HSS.out, HSS.out, HSS.out, hx]; simp
        have HNN := Lib.hid HN; have HNE := Lib.hid HN2; clear HN HN2 HO1 m9 HO
        rw [hx] at m8 f9 A1 HNN g0
        go_wp2
        go_roundw
        case rel => exact ⟨k + 1, by omega, by go_num, (show Hid _ from by show OwnI _ _ _ _ _ _ _; rw [HNE.out]; exact HNN.out), (show Hid _ from (bel_trans HB.out A1).setCell (by dsimp only; omega) _)⟩
        case measure => simp [intOf]; omega
      · obtain ⟨_, e9, _, l9, m9, f9⟩ := HO1.at (i := 3) (by omega)
        simp only [Option.some.injEq, Addr.mk.injEq] at e9
        obtain ⟨rfl, _, _⟩ := e9
        have m8 : (wr.alloc (.cells #[.int .i64 (fld 3 gs k 0), .int .i64 (fld 3 gs k 1), .int .i64 (fld 3 gs k 2)] 111)).cell? ⟨W0.heap.size, 3, none⟩ = some (.int .i64 (cntK gs 3 k)) := m9
        have e1 : IntKind.i64.wrap (cntK gs 3 k + 1) = cntK gs 3 k + 1 := IntWalk.i64_in _ (by omega)
        have HN := HO1.set (i := 3) (by omega) (cntK gs 3 k + 1) (by unfold Fits; omega)
        have HN2 : kinds gs (k + 1) = (kinds gs k).set 3 (cntK gs 3 k + 1) := by unfold kinds; rw [HSS.out, HSS.out, HSS.out, HSS.out, hx]; simp
        have HNN := Lib.hid HN; have HNE := Lib.hid HN2; clear HN HN2 HO1 m9 HO
        rw [hx] at m8 f9 A1 HNN g0
        go_wp2
        go_roundw
        case rel => exact ⟨k + 1, by omega, by go_num, (show Hid _ from by show OwnI _ _ _ _ _ _ _; rw [HNE.out]; exact HNN.out), (show Hid _ from (bel_trans HB.out A1).setCell (by dsimp only; omega) _)⟩
        case measure => simp [intOf]; omega
    · obtain rfl : k = gn := by omega
      have hlti : ¬ (k : Int) < (k : Int) := by omega
      have HF := Lib.hid (HO.out.base (B' := W0.heap.size) (by have := A0.size; omega)); have HBF := Lib.hid (bel_trans A0 HB.out)
      go_wp2
      go_ret
      exact ⟨_, _, rfl, HF.out, HBF.out⟩