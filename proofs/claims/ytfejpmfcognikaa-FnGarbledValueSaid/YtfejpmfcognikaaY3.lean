/-
  What is drawn for the laws on extended transfers: rows that match, weights.
-/
import Derived.Test.YtfejpmfcognikaaY2
namespace Go.Proofs.Ytfejpmfcognikaa
open Go.RowKit
set_option linter.unusedVariables false
set_option linter.unusedSimpArgs false

theorem MineR.bexY {b0 : Nat} {w w' : World} {lo hi : Nat} {a : Option Addr} {n cap : Nat} {xss : List (List Int)} (h : MineR w lo hi a n cap xss) (hb : Bex b0 w w') (h0 : b0 < lo) : MineR w' lo hi a n cap xss := by
  have ht := h.top
  refine ⟨h.len, h.ncap, h.small, h.capm, h.nilc, Nat.le_trans h.top hb.size, fun i hi => ?_, fun i j hi hj hne b off r m c r' m' c' e h1 h2 => ?_⟩
  · obtain ⟨b, off, r, m, c, e, h1, h2, h3, h4, h5, h6, h7⟩ := h.row.out i hi
    exact ⟨b, off, r, m, c, e, h1, h2, hb.cell h3 (by omega), (hb.frozen (o := off + i) (by omega) (by omega)).trans h4, h5.bex hb h0, h6, h7⟩
  · obtain ⟨b1, off1, r1, m1, c1, e1, q1, k1, p1, _⟩ := h.row.out i hi
    obtain ⟨b2, off2, r2, m2, c2, e2, _, _, p2, _⟩ := h.row.out j hj
    rw [e1] at e e2
    simp only [Option.some.injEq, Addr.mk.injEq] at e e2
    obtain ⟨rfl, rfl, _⟩ := e
    obtain ⟨rfl, rfl, _⟩ := e2
    rw [hb.cell p1 (by omega)] at h1
    rw [hb.cell p2 (by omega)] at h2
    simp only [Option.some.injEq, Value.slice.injEq] at h1 h2
    obtain ⟨rfl, rfl, rfl⟩ := h1
    obtain ⟨rfl, rfl, rfl⟩ := h2
    exact h.apart.out i j hi hj hne b1 off1 r1 m1 c1 r2 m2 c2 e1 p1 p2
theorem OnlyI.setY (w : World) (g o : Nat) (u : Value) : OnlyI g (g + 1) w (w.setCell ⟨g, o, none⟩ u) :=
  ⟨rfl, rfl, rfl, by simp [World.setCell], fun k hk => Below.heap_setCell _ _ _ _ (by show k ≠ g; omega)⟩
/-- What 'matched' hands back. -/
def MatRet (b B K : Nat) (w : World) (e : Ending) (w' : World) : Prop :=
  ∃ (sr : Option Addr) (sn sc : Nat) (sx : List Int) (cr : Option Addr) (cn cc : Nat) (cx : List Int) (qr : Option Addr) (qn qc : Nat) (qx : List (List Int)) (tr : Option Addr) (tn tc : Nat) (tx : List (List Int)),
    e = .returned (.tuple #[.slice sr sn sc, .slice cr cn cc, .slice qr qn qc, .slice tr tn tc]) ∧ Mine w' w.heap.size sr sn sc sx ∧ sn ≤ 9 ∧ Mine w' w.heap.size cr cn cc cx ∧ cn ≤ 25 ∧
    RwP w' w.heap.size qr qn qc qx ∧ qn ≤ 30 ∧ RwP w' w.heap.size tr tn tc tx ∧ tn ≤ 30 ∧ Cur w' b B (K + 20000) ∧ Bex b w w'
set_option maxHeartbeats 8000000 in
theorem s_matched (b B K : Nat) (w : World) (h : Cur w b B K) (hK : K ≤ 10000000) :
    Calls Try.prog 90 #[.pointer (some ⟨b, 0, none⟩)] w (MatRet b B K w) := by
  have hbl := h.lt
  unfold MatRet
  go_enter Try.func90, Try.ntmps90
  go_wp2_with fail
  refine (s_extended b B K _ h hK).mono ?_; rintro e w1 ⟨key, sr, sn, sc, sx, cr, cn, cc, cx, lr, ln, lc, lx, rfl, hkey, hS, hsn, bS, hC, hcn, bC, hL, hln, hC1, hX1⟩
  have z1 := hX1.size
  have hls := hS.ints.len.out; have hlc := hC.ints.len.out; have hll := hL.len.out
  have HS := Lib.hid hS; have HC := Lib.hid hC; have HL := Lib.hid hL; have HX := Lib.hid hX1; have HB := Lib.hid (And.intro bS bC)
  have HK := Lib.hid hkey
  clear hS hC hL hX1 bS bC h hkey
  have no : ∀ W, Hid (W = w1 → MatRet b B K w (.returned (.tuple #[.slice sr sn sc, .slice cr cn cc, .slice none 0 0, .slice none 0 0])) W) := fun W hW => by
    subst hW
    exact ⟨sr, sn, sc, sx, cr, cn, cc, cx, none, 0, 0, [], none, 0, 0, [], rfl, HS.out, hsn, HC.out, hcn, RwP.nil, by omega, RwP.nil, by omega, hC1.more (by omega), HX.out⟩
  unfold MatRet at no
  cases g1 : secB sx with
  | false =>
    go_wp2_with fail
    refine (s_oxSecret _ _ _ sx _ HS.out.ints).mono ?_; rintro e w2 ⟨rfl, rfl⟩; rw [g1]
    go_wp2
    exact bodyPost_ret (v := .tuple #[.slice sr sn sc, .slice cr cn cc, .slice none 0 0, .slice none 0 0]) (by simp [results, Try.results90, go_sem]) rfl ((no _).out rfl)
  | true =>
    cases g2 : (decide ((lx.length : Int) = (sn : Int)) && colsB lx) with
    | false =>
      go_wp2_with fail
      refine (s_oxSecret _ _ _ sx _ HS.out.ints).mono ?_; rintro e w2 ⟨rfl, rfl⟩; rw [g1]
      go_wp2_with fail
      refine (s_oxColumns _ _ _ lx (sn : Int) _ HL.out.rows).mono ?_; rintro e w3 ⟨rfl, rfl⟩; rw [g2]
      go_wp2
      exact bodyPost_ret (v := .tuple #[.slice sr sn sc, .slice cr cn cc, .slice none 0 0, .slice none 0 0]) (by simp [results, Try.results90, go_sem]) rfl ((no _).out rfl)
    | true =>
      cases g3 : chosB cx with
      | false =>
        go_wp2_with fail
        refine (s_oxSecret _ _ _ sx _ HS.out.ints).mono ?_; rintro e w2 ⟨rfl, rfl⟩; rw [g1]
        go_wp2_with fail
        refine (s_oxColumns _ _ _ lx (sn : Int) _ HL.out.rows).mono ?_; rintro e w3 ⟨rfl, rfl⟩; rw [g2]
        go_wp2_with fail
        refine (s_oxChoices _ _ _ cx _ HC.out.ints).mono ?_; rintro e w4 ⟨rfl, rfl⟩; rw [g3]
        go_wp2
        exact bodyPost_ret (v := .tuple #[.slice sr sn sc, .slice cr cn cc, .slice none 0 0, .slice none 0 0]) (by simp [results, Try.results90, go_sem]) rfl ((no _).out rfl)
      | true =>
        clear no
        go_wp2_with fail
        refine (s_oxSecret _ _ _ sx _ HS.out.ints).mono ?_; rintro e w2 ⟨rfl, rfl⟩; rw [g1]
        go_wp2_with fail
        refine (s_oxColumns _ _ _ lx (sn : Int) _ HL.out.rows).mono ?_; rintro e w3 ⟨rfl, rfl⟩; rw [g2]
        go_wp2_with fail
        refine (s_oxChoices _ _ _ cx _ HC.out.ints).mono ?_; rintro e w4 ⟨rfl, rfl⟩; rw [g3]
        obtain ⟨g4, g5⟩ := Bool.and_eq_true_iff.1 g2
        have g6 := of_decide_eq_true g4
        obtain ⟨c1, c2, c3⟩ := colsB_iff.1 g5
        obtain ⟨s1, s2⟩ := secB_iff.1 g1
        obtain ⟨t1, t2⟩ := chosB_iff.1 g3
        have hnn : ln = sn := by omega
        obtain ⟨m, hm⟩ : ∃ m, m = (rowN lx 0).length := ⟨_, rfl⟩
        have HRow : Hid (∀ j, j < sn → (rowN lx j).length = m ∧ bitsB (rowN lx j) = true) := fun j hj => by
          have := listsB_at c3 (i := j) (by omega)
          rw [← hm] at this
          exact ⟨by omega, this.2⟩
        have hm24 : m ≤ 24 := by omega
        have hsn1 : 1 ≤ sn := by omega
        have hsn8 : sn ≤ 8 := by omega
        have hcn24 : cn ≤ 24 := by omega
        have hkk : -10 ≤ key ∧ key ≤ 1000000010 := by have := HK.out; unfold Dk at this; omega
        subst hnn
        clear g1 g2 g3 g4 g5 g6 c1 c2 c3 s1 s2 t1 t2 hls hlc hll hm HK
        go_wp2_with fail
        refine (s_oxSenderG key _ ln _ sx _ ln _ lx m _ hkk HS.out.ints HL.out.rows hsn8 hsn1 rfl hm24 HB.out.1 HRow).mono ?_; rintro e w5 ⟨qr, qc, rfl, hQ, hb5⟩
        rw [turnL_len] at hQ ⊢
        have z5 := hb5.size
        have HS5 := Lib.hid (HS.out.below hb5); have HC5 := Lib.hid (HC.out.below hb5); have HX5 := Lib.hid (HX.out.trans (Bex.of hb5)); have hC5 := hC1.below hb5
        have HQ5 := Lib.hid hQ
        have PS := HS.out.pl; have PC := HC.out.pl
        clear hb5 hQ HS HC HX hC1 HL HRow
        go_wp2_with fail
        refine (s_oxSeedsG key 0 ln cn _ hkk (by omega) (by omega) (by omega)).mono ?_; rintro e w6 ⟨r6, c6, rfl, hD6, hb6⟩
        rw [seedCs_len] at hD6 ⊢
        have z6 := hb6.size
        have HS6 := Lib.hid (HS5.out.below hb6); have HC6 := Lib.hid (HC5.out.below hb6); have HX6 := Lib.hid (HX5.out.trans (Bex.of hb6)); have hC6 := hC5.below hb6
        have HQ6 := Lib.hid (HQ5.out.below hb6)
        clear hb6 HS5 HC5 HX5 hC5 HQ5
        go_wp2_with fail
        refine (s_oxTurn _ ln _ (seedCs key 0 cn ln) cn _ hD6.rows (by omega) (by omega) (fun i hi => by rw [rowN_seedCs hi, seedC_len]; exact Nat.le_refl _)).mono ?_; rintro e w7 ⟨tr, tc, rfl, hT, hb7⟩
        rw [turnL_len] at hT ⊢
        have z7 := hb7.size
        have HS7 := Lib.hid (HS6.out.below hb7); have HC7 := Lib.hid (HC6.out.below hb7); have HX7 := Lib.hid (HX6.out.trans (Bex.of hb7)); have hC7 := hC6.below hb7
        have HQ7 := Lib.hid (HQ6.out.below hb7); have HT7 := Lib.hid hT
        clear hb7 HS6 HC6 HX6 hC6 HQ6 hT hD6
        obtain ⟨qx, hqx⟩ : ∃ qx, qx = turnL (ownCs key sx lx m ln) ln m := ⟨_, rfl⟩
        obtain ⟨tx, htx⟩ : ∃ tx, tx = turnL (seedCs key 0 cn ln) ln cn := ⟨_, rfl⟩
        rw [← hqx] at HQ7; rw [← htx] at HT7
        clear hqx htx
        by_cases hc0 : 0 < cn
        · have hci : (0 : Int) < (cn : Int) := by omega
          go_wp2_with fail
          refine (s_one b B _ 8 _ hC7 (by omega) (by omega)).mono ?_; rintro e w8 ⟨q, rfl, hC8, hX8⟩
          have z8 := hX8.size
          have HS8 := Lib.hid (HS7.out.bex hX8 (by omega)); have HC8 := Lib.hid (HC7.out.bex hX8 (by omega)); have HX8 := Lib.hid (HX7.out.trans hX8)
          have HQ8 := Lib.hid (HQ7.out.bexY hX8 (by omega)); have HT8 := Lib.hid (HT7.out.bexY hX8 (by omega))
          clear HS7 HC7 HX7 hC7 HQ7 HT7 hX8
          cases q with
          | false =>
            have HF := Lib.hid (And.intro (HQ8.out.rwp.base (lo' := w.heap.size) (by omega)) (HT8.out.rwp.base (lo' := w.heap.size) (by omega)))
            clear HQ8 HT8 PS PC
            go_wp2
            exact bodyPost_ret (v := .tuple #[.slice sr ln sc, .slice cr cn cc, .slice qr m qc, .slice tr cn tc]) (by simp [results, Try.results90, go_sem]) rfl
              ⟨sr, ln, sc, sx, cr, cn, cc, cx, qr, m, qc, qx, tr, cn, tc, tx, rfl, HS8.out, hsn, HC8.out, hcn, HF.out.1, by omega, HF.out.2, by omega, hC8.more (by omega), HX8.out⟩
          | true =>
            go_wp2_with fail
            refine (s_bits b B _ (ln : Int) _ hC8 (by omega) (by omega)).mono ?_; rintro e w9 ⟨nr, nc, nx, rfl, hN, bN, hC9, hX9⟩
            rw [Int.toNat_natCast] at hN ⊢
            have z9 := hX9.size
            have HS9 := Lib.hid (HS8.out.bex hX9 (by omega)); have HC9 := Lib.hid (HC8.out.bex hX9 (by omega)); have HX9 := Lib.hid (HX8.out.trans hX9)
            have HQ9 := Lib.hid (HQ8.out.bexY hX9 (by omega)); have HT9 := Lib.hid (HT8.out.bexY hX9 (by omega))
            have HN := Lib.hid hN
            clear HS8 HC8 HX8 hC8 HQ8 HT8 hX9 hN bN
            obtain ⟨g, off, r0, m0, c0, rfl, hg1, hg2, k0, f0, _⟩ := HT9.out.at hc0
            have hT := HT9.out.store hc0 (HN.out.base (B' := w6.heap.size) (by omega)) (hi2 := w9.heap.size) (fun h0 b' o e => by have p := HN.out.pl h0 b' o e; omega) (by omega) (Nat.le_refl _)
            have hQ := HQ9.out.onlyI (OnlyI.setY w9 g (off + 0) (.slice nr ln nc)) (Or.inl (by omega))
            have hS := HS9.out.off (Bex.set (b := g) (i := off + 0) w9 (.slice nr ln nc)) (fun h0 g' o e q => by have p := PS h0 g' o e; omega)
            have hC := HC9.out.off (Bex.set (b := g) (i := off + 0) w9 (.slice nr ln nc)) (fun h0 g' o e q => by have p := PC h0 g' o e; omega)
            have hCu := hC9.store (p := ⟨g, off + 0, none⟩) (u := .slice nr ln nc) (by show g ≠ b; omega) (by have := hC9.base; show B ≤ g; omega)
            have hX := HX9.out.storeY (p := ⟨g, off + 0, none⟩) (by show w.heap.size ≤ g; omega) (.slice nr ln nc)
            have HF := Lib.hid (And.intro hS (And.intro hC (And.intro (hQ.rwp.base (lo' := w.heap.size) (by omega)) (And.intro (hT.rwp.base (lo' := w.heap.size) (by omega)) (And.intro hCu hX)))))
            clear hT hQ hS hC hCu hX HS9 HC9 HX9 HQ9 HT9 HN PS PC
            have k1 : w9.cell? ⟨g, off, none⟩ = some (.slice r0 m0 c0) := k0
            have f1 : w9.frozen? ⟨g, off, none⟩ = false := f0
            clear k0 f0
            go_wp2
            exact bodyPost_ret (v := .tuple #[.slice sr ln sc, .slice cr cn cc, .slice qr m qc, .slice (some ⟨g, off, none⟩) cn tc]) (by simp [results, Try.results90, go_sem]) rfl
              ⟨sr, ln, sc, sx, cr, cn, cc, cx, qr, m, qc, qx, _, cn, tc, _, rfl, HF.out.1, hsn, HF.out.2.1, hcn, HF.out.2.2.1, by omega, HF.out.2.2.2.1, by omega, HF.out.2.2.2.2.1.more (by omega), HF.out.2.2.2.2.2⟩
        · have hci : ¬ (0 : Int) < (cn : Int) := by omega
          have hcd : decide ((0 : Int) < (cn : Int)) = false := by simp; omega
          have HF := Lib.hid (And.intro (HQ7.out.rwp.base (lo' := w.heap.size) (by omega)) (HT7.out.rwp.base (lo' := w.heap.size) (by omega)))
          clear HQ7 HT7 PS PC
          go_wp2
          exact bodyPost_ret (v := .tuple #[.slice sr ln sc, .slice cr cn cc, .slice qr m qc, .slice tr cn tc]) (by simp [results, Try.results90, go_sem]) rfl
            ⟨sr, ln, sc, sx, cr, cn, cc, cx, qr, m, qc, qx, tr, cn, tc, tx, rfl, HS7.out, hsn, HC7.out, hcn, HF.out.1, by omega, HF.out.2, by omega, hC7.more (by omega), HX7.out⟩
/-- What 'weightLists' hands back. -/
def WlRet (b B K : Nat) (w : World) (e : Ending) (w' : World) : Prop :=
  ∃ lr ln lc lx, e = .returned (.slice lr ln lc) ∧ RwP w' w.heap.size lr ln lc lx ∧ ln ≤ 20 ∧ Cur w' b B (K + 100000) ∧ Bex b w w'