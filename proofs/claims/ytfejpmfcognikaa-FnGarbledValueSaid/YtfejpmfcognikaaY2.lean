/-
  What is drawn for the laws on extended transfers: what is sent, rows that match, weights.
-/
import Derived.Test.YtfejpmfcognikaaY1
import Derived.Test.YtfejpmfcognikaaE6
namespace Go.Proofs.Ytfejpmfcognikaa
open Go.RowKit
set_option linter.unusedVariables false
set_option linter.unusedSimpArgs false

theorem RG.putY {w : World} {B k g cap i : Nat} {xss : List (List Int)} {v2 : Value} {r : Option Addr} {m c : Nat} {x : List Int} (h : RG w B (.slice (some ⟨g, 0, none⟩) k cap) k xss v2) (hi : i < k) (hm : Ints w r m c x)
    (hr : 0 < m → ∀ g' o, r = some ⟨g', o, none⟩ → B ≤ g' ∧ some g' ≠ (Value.slice (some ⟨g, 0, none⟩) k cap).ownBlock ∧ some g' ≠ v2.ownBlock) :
    RG (w.setCell ⟨g, i, none⟩ (.slice r m c)) B (.slice (some ⟨g, 0, none⟩) k cap) k (xss.set i x) v2 := by
  obtain ⟨hs, h1, h2, h3⟩ := h
  have hlen : hs.length = k := by have := h1.1; omega
  have away : ∀ (r1 : Option Addr) (m1 c1 : Nat) (x1 : List Int), Ints w r1 m1 c1 x1 → (0 < m1 → ∀ g' o, r1 = some ⟨g', o, none⟩ → B ≤ g' ∧ some g' ≠ (Value.slice (some ⟨g, 0, none⟩) k cap).ownBlock ∧ some g' ≠ v2.ownBlock) → Ints (w.setCell ⟨g, i, none⟩ (.slice r m c)) r1 m1 c1 x1 := by
    intro r1 m1 c1 x1 q p
    refine q.bex (Bex.set (b := g) w _) (fun h0 g' o e => ?_)
    have := (p h0 g' o e).2.1
    intro e'
    subst e'
    exact this rfl
  refine ⟨hs.set i (.slice r m c), (World.ownsRow.stored h1 i (.slice r m c)).1, by simpa using h2, fun j hj => ?_⟩
  by_cases e : j = i
  · subst e
    refine ⟨r, m, c, by simp [hlen, hj], ?_, hr⟩
    rw [rowN_set (by rw [h2]; exact hj), if_pos rfl]
    exact away _ _ _ _ hm hr
  · obtain ⟨r1, m1, c1, e1, q1, p1⟩ := h3 j hj
    refine ⟨r1, m1, c1, ?_, ?_, p1⟩
    · rw [List.getElem?_set_ne (Ne.symm e)]; exact e1
    · rw [rowN_set (by rw [h2]; exact hi), if_neg e]; exact away _ _ _ _ q1 p1

theorem RG.shapeY {w : World} {B k c : Nat} {a : Option Addr} {xss : List (List Int)} {v2 : Value} (h : RG w B (.slice a k c) k xss v2) (hk : 0 < k) : ∃ g, a = some ⟨g, 0, none⟩ ∧ B ≤ g ∧ g < w.heap.size := by
  obtain ⟨hs, h1, h2, h3⟩ := h
  obtain ⟨_, h5⟩ := h1
  rcases h5 with ⟨e, e2⟩ | ⟨g, cap, cur, e, hg, hh, _⟩
  · simp only [Value.slice.injEq] at e; omega
  · simp only [Value.slice.injEq] at e
    refine ⟨g, e.1, hg, ?_⟩
    rcases Nat.lt_or_ge g w.heap.size with q | q
    · exact q
    · rw [Array.getElem?_eq_none q] at hh; cases hh
theorem RG.cell0Y {w : World} {B k c g : Nat} {xss : List (List Int)} {v2 : Value} (h : RG w B (.slice (some ⟨g, 0, none⟩) k c) k xss v2) (hk : 0 < k) : True ∧ ∃ u, w.cell? ⟨g, 0, none⟩ = some u ∧ w.frozen? ⟨g, 0, none⟩ = false := by
  obtain ⟨hs, h1, h2, h3⟩ := h
  obtain ⟨r, m, c', e, _, _⟩ := h3 0 hk
  exact ⟨trivial, _, (World.ownsRow.cellAt h1 0 (by omega)).trans e, World.ownsRow.frozenAt h1 0⟩

theorem RG.base {w : World} {B B' k : Nat} {v v2 : Value} {xss : List (List Int)} (h : RG w B v k xss v2) (hB : B' ≤ B) : RG w B' v k xss v2 := by
  obtain ⟨hs, h1, h2, h3⟩ := h
  refine ⟨hs, ownsRow_base h1 hB, h2, fun i hi => ?_⟩
  obtain ⟨r, m, c, e, hm, hp⟩ := h3 i hi
  exact ⟨r, m, c, e, hm, fun h0 g o e' => ⟨Nat.le_trans hB (hp h0 g o e').1, (hp h0 g o e').2⟩⟩
theorem RDuo.base' {w : World} {B B' n1 n2 : Nat} {v1 v2 : Value} {xs ys : List (List Int)} (h : RDuo w B v1 n1 xs v2 n2 ys) (hB : B' ≤ B) : RDuo w B' v1 n1 xs v2 n2 ys :=
  ⟨h.one.base hB, h.two.base hB, h.dj, Nat.le_trans hB h.base⟩
theorem RG.below {w w' : World} {B k : Nat} {v v2 : Value} {xss : List (List Int)} (h : RG w B v k xss v2) (hb : Below w.heap.size w w') : RG w' B v k xss v2 := by
  obtain ⟨hs, h1, h2, h3⟩ := h
  refine ⟨hs, ownsRow_below h1 hb, h2, fun i hi => ?_⟩
  obtain ⟨r, m, c, e, hm, hp⟩ := h3 i hi
  exact ⟨r, m, c, e, hm.below hb, hp⟩
theorem RG.row {w : World} {B k c g : Nat} {xss : List (List Int)} {v2 : Value} (h : RG w B (.slice (some ⟨g, 0, none⟩) k c) k xss v2) (hk : 0 < k) :
    ∃ r m c', w.cell? ⟨g, 0, none⟩ = some (.slice r m c') ∧ w.frozen? ⟨g, 0, none⟩ = false ∧ Ints w r m c' (rowN xss 0) := by
  obtain ⟨hs, h1, h2, h3⟩ := h
  obtain ⟨r, m, c', e, hm, _⟩ := h3 0 hk
  exact ⟨r, m, c', (World.ownsRow.cellAt h1 0 (by omega)).trans (by simp only [List.getD_eq_getElem?_getD, e, Option.getD_some]), World.ownsRow.frozenAt h1 0, hm⟩
theorem wp_rduoG {ops : Array Oper} {rest : List Oper} {o : Oper} {a : Act} {Q : Exit → Act → World → Prop} (w : World) (B n1 : Nat) (v1 : Value) (xs : List (List Int)) (v2 : Value) (n2 : Nat) (ys : List (List Int)) (r : Option Addr) (m c : Nat) (x : List Int) (t : TypeId) (q : Nat)
    (hg : o.guard = none) (s z : Operand) (ho : o.op = .call { callee := .builtin .append, args := #[s, z], argTypes := #[32, 32] })
    (hs : a.eval s = v1) (hx : a.eval z = .slice (some ⟨q, 0, none⟩) 1 1) (hq : q = w.heap.size)
    (hD : RDuo w B v1 n1 xs v2 n2 ys) (hm : Ints w r m c x) (hr : 0 < m → ∀ g o, r = some ⟨g, o, none⟩ → B ≤ g ∧ some g ≠ v1.ownBlock ∧ some g ≠ v2.ownBlock) (hB0 : 0 < B) (hn : n1 ≤ 1000000000000)
    (h : ∀ v' w', RDuo w' B v' (n1 + 1) (xs ++ [x]) v2 n2 ys → Below B w w' → (w.alloc (.cells #[.slice r m c] t)).grownBy w' v1.ownBlock → wpList Try.prog ops Q rest (a.put o.dst v') w') :
    wpList Try.prog ops Q (o :: rest) a (w.alloc (.cells #[.slice r m c] t)) := by
  obtain ⟨i0, hi, hz0, hz1, hz2⟩ := info_parts info_row
  subst hq
  have hDa : RDuo (w.alloc (.cells #[.slice r m c] t)) B v1 n1 xs v2 n2 ys := hD.bex (Bex.of (b := 0) (bel_alloc _ _)) hB0
  have hma := hm.below (bel_alloc w (.cells #[.slice r m c] t))
  obtain ⟨hs', h1, h2, h3⟩ := hDa.one
  have hlen : hs'.length = n1 := by have := h1.1; omega
  have hBb := hD.base
  refine wpList_append_own_at _ hg s z 32 ho B 23 i0 (.slice none 0 0) 1 24 Try.underlying32 hi hz0 hz1 hz2 rfl (by decide) v1 n1 hs' hs h1 ⟨w.heap.size, 0, none⟩ 1 1 [.slice r m c] hx rfl ?_ ?_ (by unfold maxLen; omega) (by omega) (by simp; omega) ?_
  · intro j u hj
    match j, hj with
    | 0, hj =>
      simp at hj; subst hj
      simp [Addr.add, World.cell?_alloc_at]
  · intro u hu; simp at hu; subst hu; rfl
  · intro v' w' k1 k2 _ k3
    exact h v' w' (hDa.grow h2 hlen h3 hma hr k1 k2 k3) (((Below.refl B w).alloc (by omega) _).trans (below_grown_own h1 k2 (by simp; omega))) k2
theorem Bex.storeY {b : Nat} {w w' : World} {p : Addr} (h : Bex b w w') (hp : w.heap.size ≤ p.block) (u : Value) : Bex b w (w'.setCell p u) :=
  ⟨h.os, h.tape, h.output, by simpa [World.setCell] using h.size, fun k hk hne => (Below.heap_setCell _ _ _ _ (by omega)).trans (h.block k hk hne)⟩
theorem Mine.off {b B : Nat} {w w' : World} {r : Option Addr} {m c : Nat} {xs : List Int} (h : Mine w B r m c xs) (k : Bex b w w') (ho : Off b r m) : Mine w' B r m c xs :=
  ⟨h.ints.bex k ho, fun hm g o e => ⟨(h.place.out hm g o e).1, Nat.lt_of_lt_of_le (h.place.out hm g o e).2 k.size⟩,
   fun i hi g o e => (k.frozen (h.place.out (by omega) g o e).2 (ho (by omega) g o e)).trans (h.free.out i hi g o e)⟩
/-- What 'extended' hands back. -/
def ExtRet (b B K : Nat) (w : World) (e : Ending) (w' : World) : Prop :=
  ∃ (key : Int) (sr : Option Addr) (sn sc : Nat) (sx : List Int) (cr : Option Addr) (cn cc : Nat) (cx : List Int) (lr : Option Addr) (ln lc : Nat) (lx : List (List Int)),
    e = .returned (.tuple #[.int .i64 key, .slice sr sn sc, .slice cr cn cc, .slice lr ln lc]) ∧ Dk key ∧ Mine w' w.heap.size sr sn sc sx ∧ sn ≤ 9 ∧ bitsB sx = true ∧ Mine w' w.heap.size cr cn cc cx ∧ cn ≤ 25 ∧ bitsB cx = true ∧
    RwP w' w.heap.size lr ln lc lx ∧ ln ≤ 10 ∧ Cur w' b B (K + 10000) ∧ Bex b w w'
set_option maxHeartbeats 8000000 in
theorem s_extended (b B K : Nat) (w : World) (h : Cur w b B K) (hK : K ≤ 10000000) :
    Calls Try.prog 81 #[.pointer (some ⟨b, 0, none⟩)] w (ExtRet b B K w) := by
  have hbl := h.lt
  unfold ExtRet
  go_enter Try.func81, Try.ntmps81
  go_wp2_with fail
  refine (s_sized b B K _ h (by omega)).mono ?_; rintro e w1 ⟨key, k, m, rfl, hkey, ⟨hk0, hk9⟩, ⟨hm0, hm25⟩, hC1, hX1⟩
  obtain ⟨k, rfl⟩ : ∃ kn : Nat, k = kn := ⟨k.toNat, by omega⟩
  obtain ⟨m, hm, hm25'⟩ : ∃ mn : Nat, (if (0 : Int) < m then m else 0) = mn ∧ mn ≤ 25 := ⟨m.toNat, by split <;> omega, by omega⟩
  have ek : (if (0 : Int) < (k : Int) then (k : Int) else 0) = (k : Int) := by split <;> omega
  clear hm0 hm25
  have HK := Lib.hid hkey; clear hkey
  go_wp2_with fail
  refine (s_l1Most _ _ _).mono ?_; rintro e ww ⟨rfl, rfl⟩; rw [ek]
  go_wp2_with fail
  refine (s_bits b B (K + 20) (k : Int) _ hC1 (by omega) (by omega)).mono ?_; rintro e w2 ⟨sr, sc, sx, rfl, hS, bS, hC2, hX2⟩
  rw [Int.toNat_natCast] at hS ⊢
  go_wp2_with fail
  refine (s_l1Most _ _ _).mono ?_; rintro e ww ⟨rfl, rfl⟩; rw [hm]
  go_wp2_with fail
  refine (s_bits b B (K + 20 + 2000) (m : Int) _ hC2 (by omega) (by omega)).mono ?_; rintro e w3 ⟨cr, cc, cx, rfl, hCh, bC, hC3, hX3⟩
  rw [Int.toNat_natCast] at hCh ⊢
  have z1 := hX1.size; have z2 := hX2.size; have z3 := hX3.size
  have HS := Lib.hid ((hS.bex hX3 (by omega)).base (B' := w.heap.size) z1)
  have HC := Lib.hid (hCh.base (B' := w.heap.size) (by omega))
  have PC := hCh.pl; have PS := hS.pl
  have HX := Lib.hid ((hX1.trans hX2).trans hX3)
  have HB := Lib.hid (And.intro bS bC)
  clear hS hCh hX1 hX2 hX3 hC1 hC2 bS bC h ek hm
  go_wp2_with fail
  refine (s_oxSentG key k _ _ _ cx _ (by have := HK.out; unfold Dk at this; omega) (by omega) HC.out.ints (by omega) HB.out.2).mono ?_; rintro e w5 ⟨lr, lc, rfl, hO, hb5⟩
  have z5 := hb5.size
  have hob := ownBlock_lt hO.rg.choose_spec.1
  have HD := Lib.hid ((hO.duo z5).base' (B' := w.heap.size) (by omega))
  have HS5 := Lib.hid (HS.out.below hb5); have HC5 := Lib.hid (HC.out.below hb5); have HX5 := Lib.hid (HX.out.trans (Bex.of hb5)); have hC5 := hC3.below hb5
  have hpc : 0 < m → ∀ g o, cr = some ⟨g, o, none⟩ → w.heap.size ≤ g ∧ some g ≠ (Value.slice lr k lc).ownBlock ∧ some g ≠ (Value.slice none 0 0).ownBlock := fun h0 g o e => by
    have p := PC h0 g o e
    refine ⟨by omega, fun q => ?_, by simp [Value.ownBlock]⟩
    have := (hob g q.symm).1
    omega
  have hps : 0 < k → ∀ g o, sr = some ⟨g, o, none⟩ → some g ≠ (Value.slice lr k lc).ownBlock := fun h0 g o e q => by
    have p := PS h0 g o e
    have := (hob g q.symm).1
    omega
  clear hO hb5 HS HC HX hC3 hob PC PS
  go_wp2_with fail
  refine (s_pick b B _ 10 _ hC5 (by omega) (by omega)).mono ?_; rintro e w6 ⟨j, rfl, hj1, hj2, hC6, hX6⟩
  have z6 := hX6.size
  have HD6 := Lib.hid (HD.out.bex hX6 (by omega)); have HS6 := Lib.hid (HS5.out.bex hX6 (by omega)); have HC6 := Lib.hid (HC5.out.bex hX6 (by omega)); have HX6 := Lib.hid (HX5.out.trans hX6)
  clear HD HS5 HC5 HX5 hC5 hX6
  obtain ⟨ll, hll⟩ : ∃ ll, ll = sentCs key cx m k := ⟨_, rfl⟩
  rw [← hll] at HD6
  have HLL := Lib.hid hll; clear hll
  -- what is handed back when nothing is changed
  have HR : ∀ W : World, Hid (RDuo W w.heap.size (.slice lr k lc) k ll (.slice none 0 0) 0 [] → RwP W w.heap.size lr k lc ll) := fun W hd => by
    obtain ⟨a', c', e, hr⟩ := hd.one.rwp (by omega)
    simp only [Value.slice.injEq] at e
    obtain ⟨rfl, _, rfl⟩ := e
    exact hr
  have hor : j = 0 ∨ j = 1 ∨ j = 2 ∨ 3 ≤ j := by omega
  rcases hor with rfl | rfl | rfl | hj
  · go_wp2_with (at_builtin; refine wp_rduoG w6 w.heap.size k _ ll _ 0 [] cr m cc cx _ _ rfl _ _ rfl rfl rfl (by first | rfl | simp) HD6.out HC6.out.ints hpc (by omega) (by omega) ?_; intro v7 w7 hd7 hb7 hg7; obtain ⟨a7, c7, rfl, hr7⟩ := hd7.one.rwp (by omega); have HR7 := Lib.hid hr7; have HS7 := Lib.hid ((HS6.out.below (bel_alloc _ _)).grown hg7 hps); have HC7 := Lib.hid ((HC6.out.below (bel_alloc _ _)).grown hg7 (fun h0 g o e => (hpc h0 g o e).2.1)); have hC7 := hC6.onY hb7 hbl; have HX7 := Lib.hid (HX6.out.thenY hb7); clear hd7 hb7 hg7 hr7 HD6 HS6 HC6 HX6 hC6 hpc hps HR)
    exact bodyPost_ret (v := .tuple #[.int .i64 key, .slice sr k sc, .slice cr m cc, .slice a7 (k + 1) c7]) (by simp [results, Try.results81, go_sem]) rfl
      ⟨key, sr, k, sc, sx, cr, m, cc, cx, a7, k + 1, c7, _, rfl, HK.out, HS7.out, by omega, HB.out.1, HC7.out, by omega, HB.out.2, HR7.out, by omega, hC7.more (by omega), HX7.out⟩
  · by_cases hk : 0 < k
    · have hki : (0 : Int) < (k : Int) := by omega
      have hR := Lib.hid ((HR w6).out HD6.out)
      have HRow : Hid (∀ j, j < k → (rowN ll j).length = m ∧ bitsB (rowN ll j) = true) := fun j hj => by rw [HLL.out, rowN_sentCs hj]; exact ⟨sentC_len _ _ _ _, sentC_bits _ _ _ _⟩
      clear HD6 HR hpc hps
      go_wp2_with fail
      refine (s_pick b B _ (k : Int) _ hC6 (by omega) (by omega)).mono ?_; rintro e w7 ⟨i, rfl, hi1, hi2, hC7, hX7⟩
      go_wp2_with fail
      refine (s_bits b B _ (m : Int) _ hC7 (by omega) (by omega)).mono ?_; rintro e w8 ⟨mr, mc, mx, rfl, hM, bM, hC8, hX8⟩
      rw [Int.toNat_natCast] at hM ⊢
      have X8 := hX7.trans hX8
      have z7 := hX7.size; have z8 := X8.size
      have HR8 := Lib.hid (hR.out.bex X8 (by omega)); have HS8 := Lib.hid (HS6.out.bex X8 (by omega)); have HC8 := Lib.hid (HC6.out.bex X8 (by omega)); have HX8 := Lib.hid (HX6.out.trans X8)
      clear hX7 hX8 hC7 hC6 X8 HX6 HS6 HC6 hR
      go_wp2_with fail
      refine (s_oxBend _ k _ ll i _ m _ mx _ HR8.out.rows hM.ints (by omega) (by omega) HRow bM).mono ?_; rintro e w9 ⟨nr, nc, rfl, hN, hb9⟩
      rw [bendN_len] at hN ⊢
      have HN := Lib.hid (hN.rwp.base (lo' := w.heap.size) (by omega)); have HS9 := Lib.hid (HS8.out.below hb9); have HC9 := Lib.hid (HC8.out.below hb9); have HX9 := Lib.hid (HX8.out.trans (Bex.of hb9)); have hC9 := hC8.below hb9
      clear hN hb9 HS8 HC8 HX8 hC8 HR8 hM
      go_wp2
      exact bodyPost_ret (v := .tuple #[.int .i64 key, .slice sr k sc, .slice cr m cc, .slice nr k nc]) (by simp [results, Try.results81, go_sem]) rfl
        ⟨key, sr, k, sc, sx, cr, m, cc, cx, nr, k, nc, _, rfl, HK.out, HS9.out, by omega, HB.out.1, HC9.out, by omega, HB.out.2, HN.out, by omega, hC9.more (by omega), HX9.out⟩
    · have hki : ¬ (0 : Int) < (k : Int) := by omega
      have hR := Lib.hid ((HR w6).out HD6.out)
      clear HD6 HR hpc hps
      go_wp2
      exact bodyPost_ret (v := .tuple #[.int .i64 key, .slice sr k sc, .slice cr m cc, .slice lr k lc]) (by simp [results, Try.results81, go_sem]) rfl
        ⟨key, sr, k, sc, sx, cr, m, cc, cx, lr, k, lc, ll, rfl, HK.out, HS6.out, by omega, HB.out.1, HC6.out, by omega, HB.out.2, hR.out, by omega, hC6.more (by omega), HX6.out⟩
  · by_cases hk : 0 < k
    · have hki : (0 : Int) < (k : Int) := by omega
      go_wp2_with fail
      refine (s_one b B _ 3 _ hC6 (by omega) (by omega)).mono ?_; rintro e w7 ⟨q, rfl, hC7, hX7⟩
      have z7 := hX7.size
      have HD7 := Lib.hid (HD6.out.bex hX7 (by omega)); have HS7 := Lib.hid (HS6.out.bex hX7 (by omega)); have HC7 := Lib.hid (HC6.out.bex hX7 (by omega)); have HX7 := Lib.hid (HX6.out.trans hX7)
      clear HD6 HS6 HC6 HX6 hC6 hX7
      cases q with
      | false =>
        have hR := Lib.hid ((HR w7).out HD7.out)
        clear HD7 HR hpc hps
        go_wp2
        exact bodyPost_ret (v := .tuple #[.int .i64 key, .slice sr k sc, .slice cr m cc, .slice lr k lc]) (by simp [results, Try.results81, go_sem]) rfl
          ⟨key, sr, k, sc, sx, cr, m, cc, cx, lr, k, lc, ll, rfl, HK.out, HS7.out, by omega, HB.out.1, HC7.out, by omega, HB.out.2, hR.out, by omega, hC7.more (by omega), HX7.out⟩
      | true =>
        obtain ⟨g, rfl, hg1, hg2⟩ := HD7.out.one.shapeY hk
        obtain ⟨r1, m1, c1, k0, f0, hI1⟩ := HD7.out.one.row hk
        have hm1 : m1 ≤ 25 := by have := hI1.len.out; rw [HLL.out, rowN_sentCs hk, sentC_len] at this; omega
        have hps' : Off g sr k := fun h0 g' o e q => hps h0 g' o e (by rw [q]; rfl)
        have hpc' : Off g cr m := fun h0 g' o e q => (hpc h0 g' o e).2.1 (by rw [q]; rfl)
        clear hpc hps HR
        go_wp2_with fail
        refine (s_l1Own _ m1 _ _ _ hI1 (by omega)).mono ?_; rintro e w8 ⟨r2, c2, rfl, hI2, hb8⟩
        have HO2 := Lib.hid hI2.own; have HW2 := hI2.ints.wf
        have HB8 := Lib.hid hb8
        clear hI1 hI2
        have z8 := hb8.size
        clear hb8
        go_wp2_with (at_builtin; refine wp_app w8 w7.heap.size m1 _ (rowN ll 0) 2 _ _ rfl _ _ rfl rfl rfl (by first | rfl | simp) HO2.out z8 (by omega) ?_; intro v9 w9 hv9 hb9 hg9; obtain ⟨r9, c9, rfl, hM9⟩ := Mine.of hv9 (by omega) (fun y hy => by
            rw [List.mem_append] at hy
            rcases hy with hy | hy
            · exact HW2.out y hy
            · simp at hy; rw [hy]; unfold Fits; omega); have B9 := HB8.out.trans hb9; have k9 := cell_on k0 B9; have f9 := (B9.frozen (p := ⟨g, 0, none⟩) hg2).trans f0; have HM9 := Lib.hid hM9; have HB9 := Lib.hid B9; clear hv9 hb9 hg9 hM9 HO2 HW2 HB8 k0 f0 B9)
        have z9 := HB9.out.size
        have hRG := RG.putY (HD7.out.one.below HB9.out) hk HM9.out.ints (fun h0 g' o e => by have p := HM9.out.pl h0 g' o e; exact ⟨by omega, (fun q => by simp only [Value.ownBlock, Option.some.injEq] at q; omega), by simp [Value.ownBlock]⟩)
        have hS9 := (HS7.out.below HB9.out).off (Bex.set (b := g) (i := 0) w9 (.slice r9 (m1 + 1) c9)) hps'
        have hC9 := (HC7.out.below HB9.out).off (Bex.set (b := g) (i := 0) w9 (.slice r9 (m1 + 1) c9)) hpc'
        have hCu := (hC7.below HB9.out).store (p := ⟨g, 0, none⟩) (u := .slice r9 (m1 + 1) c9) (by show g ≠ b; omega) (by have := hC7.base; show B ≤ g; omega)
        have hX9 := (HX7.out.trans (Bex.of HB9.out)).storeY (p := ⟨g, 0, none⟩) hg1 (.slice r9 (m1 + 1) c9)
        obtain ⟨a', c', e', hR⟩ := hRG.rwp (by omega)
        simp only [Value.slice.injEq] at e'
        obtain ⟨rfl, _, rfl⟩ := e'
        have HF := Lib.hid (And.intro hS9 (And.intro hC9 (And.intro hR (And.intro hCu hX9))))
        clear hRG hS9 hC9 hCu hX9 hR HS7 HC7 hC7 HX7 HD7
        go_wp2
        exact bodyPost_ret (v := .tuple #[.int .i64 key, .slice sr k sc, .slice cr m cc, .slice (some ⟨g, 0, none⟩) k lc]) (by simp [results, Try.results81, go_sem]) rfl
          ⟨key, sr, k, sc, sx, cr, m, cc, cx, _, k, lc, _, rfl, HK.out, HF.out.1, by omega, HB.out.1, HF.out.2.1, by omega, HB.out.2, HF.out.2.2.1, by omega, HF.out.2.2.2.1.more (by omega), HF.out.2.2.2.2⟩
    · have hki : ¬ (0 : Int) < (k : Int) := by omega
      have hkd : decide ((0 : Int) < (k : Int)) = false := by simp; omega
      have hR := Lib.hid ((HR w6).out HD6.out)
      clear HD6 HR hpc hps
      go_wp2
      exact bodyPost_ret (v := .tuple #[.int .i64 key, .slice sr k sc, .slice cr m cc, .slice lr k lc]) (by simp [results, Try.results81, go_sem]) rfl
        ⟨key, sr, k, sc, sx, cr, m, cc, cx, lr, k, lc, ll, rfl, HK.out, HS6.out, by omega, HB.out.1, HC6.out, by omega, HB.out.2, hR.out, by omega, hC6.more (by omega), HX6.out⟩
  · have hjz : ((j : Int) == 0) = false := by simp; omega
    have hjo : ((j : Int) == 1) = false := by simp; omega
    have hjt : ((j : Int) == 2) = false := by simp; omega
    have hR := Lib.hid ((HR w6).out HD6.out)
    clear HD6 HR hpc hps
    go_wp2
    exact bodyPost_ret (v := .tuple #[.int .i64 key, .slice sr k sc, .slice cr m cc, .slice lr k lc]) (by simp [results, Try.results81, go_sem]) rfl
      ⟨key, sr, k, sc, sx, cr, m, cc, cx, lr, k, lc, ll, rfl, HK.out, HS6.out, by omega, HB.out.1, HC6.out, by omega, HB.out.2, hR.out, by omega, hC6.more (by omega), HX6.out⟩
set_option maxHeartbeats 2000000 in
theorem s_oxSeedsG (key side : Int) (k m : Nat) (w : World) (hk : -10 ≤ key ∧ key ≤ 1000000010) (hs : 0 ≤ side ∧ side ≤ 1000) (hk8 : k ≤ 1000) (hm : m ≤ 1000) :
    Calls Try.prog 88 #[.int .i64 key, .int .i64 k, .int .i64 m, .int .i64 side] w fun e w' => RowsRet (seedCs key side m k) w e w' := by
  obtain ⟨hk1, hk2⟩ := hk; obtain ⟨hs1, hs2⟩ := hs
  go_enter Try.func88, Try.ntmps88
  go_wp2
  go_loopw [9, 10] (fun v i wr => ∃ t : Nat, t ≤ k ∧ i = .int .i64 t ∧ Hid (OwnR 23 wr w.heap.size v t (seedCs key side m t)) ∧ Hid (Below w.heap.size w wr)) (fun _ i _ => k - (intOf i).toNat)
  case atStart => exact ⟨0, by omega, rfl, (show Hid _ from OwnR.nil), (show Hid _ from Below.refl _ _)⟩
  case round =>
    obtain ⟨t, ht, rfl, HO, HB⟩ := hrel
    obtain ⟨wo, rfl⟩ : ∃ wo : World, wo = wr := ⟨_, rfl⟩
    by_cases hlt : t < k
    · have HL := Lib.hid (seedCs_succ key side m t)
      have HSM := Lib.hid (small4w (a := key) (b := t) (c := side) (d := 31) (by omega) (by omega) (by omega) (by omega))
      have hz := HB.out.size

      go_wp2_with fail
      refine (s_oxSeedG _ _ _ m _ (by omega) (by omega) (by omega) (by omega)).mono ?_; rintro e w2 ⟨r, c, rfl, hm1, hb⟩
      have hm2 := Lib.hid hm1
      have HBX := Lib.hid hb
      clear hm1 hb
      go_wp2_with (at_builtin; refine wp_appR wo w2 w.heap.size t _ _ r m c (seedC key t side m) _ _ rfl _ _ rfl rfl rfl rfl HO.out HBX.out hm2.out hz (by omega) ?_; intro v9 w9 hv9 hb9)
      go_roundw
      case rel => exact ⟨t + 1, by omega, by go_num, (by rw [HL.out]; exact hv9), (show Hid _ from HB.out.trans ((HBX.out.mono hz).trans hb9))⟩
      case measure => simp [intOf]; omega
    · obtain rfl : t = k := by omega
      obtain ⟨a, c, hv, hm⟩ := HO.out.mine (by omega) HB.out.size
      subst hv
      have HM := Lib.hid hm; clear hm HO
      go_wp2
      go_ret
      unfold RowsRet
      rw [seedCs_len]
      exact ⟨_, _, rfl, HM.out, HB.out⟩

set_option maxHeartbeats 4000000 in
theorem s_oxSenderG (key : Int) (a : Option Addr) (n cap : Nat) (s : List Int) (a' : Option Addr) (n' cap' : Nat) (cs : List (List Int)) (m : Nat) (w : World) (hk : -10 ≤ key ∧ key ≤ 1000000010) (h : Ints w a n cap s) (h' : Rws w a' n' cap' cs) (hn : n ≤ 8) (hn0 : 1 ≤ n) (hnn : n' = n) (hm : m ≤ 24) (hsb : bitsB s = true) (hc : Hid (∀ j, j < n → (rowN cs j).length = m ∧ bitsB (rowN cs j) = true)) :
    Calls Try.prog 85 #[.int .i64 key, .slice a n cap, .slice a' n' cap'] w fun e w' => RowsRet (turnL (ownCs key s cs m n) n m) w e w' := by
  subst hnn
  have hl := h.len; have hl' := h'.len
  obtain ⟨hk1, hk2⟩ := hk
  obtain ⟨b0, off0, r0, q0, c0, e0, hb0, hc0, hr0⟩ := h'.at (i := 0) (by omega)
  rw [Nat.add_zero] at hc0
  have hq0 : q0 = m := by rw [← hr0.len.out]; exact (hc.out 0 (by omega)).1
  subst hq0
  clear hr0
  have hn0i : (0 : Int) < (n' : Int) := by omega
  have HH := Lib.hid h; have HM := Lib.hid h'; have HSB := Lib.hid hsb; clear h h' hsb
  subst e0
  go_enter Try.func85, Try.ntmps85
  go_wp2
  go_loopw [8, 18] (fun v c wr => ∃ t : Nat, t ≤ n' ∧ c = .int .i64 t ∧ Hid (OwnR 23 wr w.heap.size v t (ownCs key s cs q0 t)) ∧ Hid (Below w.heap.size w wr)) (fun _ c _ => n' - (intOf c).toNat)
  case atStart => exact ⟨0, by omega, rfl, (show Hid _ from OwnR.nil), (show Hid _ from Below.refl _ _)⟩
  case round =>
    obtain ⟨t, ht, rfl, HO, HB⟩ := hrel
    obtain ⟨wo, rfl⟩ : ∃ wo : World, wo = wr := ⟨_, rfl⟩
    by_cases hlt : t < n'
    · obtain ⟨b, off, rfl, hbl, hcc⟩ := (HH.out.below HB.out).at hlt
      obtain ⟨b2, off2, r2, q2, c2, e2, hbl2, hc2, hr2⟩ := (HM.out.below HB.out).at hlt
      have HL := Lib.hid (ownCs_succ key s cs q0 t)
      have hz := HB.out.size
      have f := hc.out t hlt
      have hq2 : q2 = q0 := by rw [← hr2.len.out]; exact f.1
      subst hq2
      have HR2 := Lib.hid hr2; have HF := Lib.hid f; clear hr2 f
      have hsd := bitsB_nth HSB.out (i := t) (by rw [hl.out]; exact hlt)
      obtain ⟨s1, s2⟩ := hsd
      have hlti : (t : Int) < (n' : Int) := by omega
      simp only [Option.some.injEq, Addr.mk.injEq] at e2
      obtain ⟨rfl, rfl, _⟩ := e2
      by_cases h1 : nth s t = 1
      · skip
        have HD : Hid (ownC key s cs q2 t = xrL (seedC key t (nth s t) q2) (rowN cs t) q2) := by show _ = _; unfold ownC; rw [if_pos h1]
        have h1b : (nth s t == 1) = true := by simp [h1]
        clear h1
        go_wp2_with fail
        refine (s_oxSeedG key t (nth s t) q2 _ ⟨hk1, hk2⟩ (by omega) (by omega) (by omega)).mono ?_; rintro e w5 ⟨r6, c6, rfl, hm6, hb5⟩
        have hc2b := cell_on hc2 hb5
        have HM6 := Lib.hid hm6; have HB5 := Lib.hid hb5; clear hm6 hb5
        go_wp2_with fail
        refine (s_btXor _ _ _ _ _ _ (seedC key t (nth s t) q2) (rowN cs t) _ HM6.out.ints (HR2.out.below HB5.out) (Nat.le_refl _) (by omega) (bits2 (seedC_bits _ _ _ _) HF.out.2 (by rw [seedC_len]; exact Nat.le_refl _) (by rw [HF.out.1]; exact Nat.le_refl _))).mono ?_; rintro e w7 ⟨r7, c7, rfl, hm7, hb7⟩
        have HM7 := Lib.hid (hm7.base HB5.out.size); have HBX := Lib.hid (bel_trans HB5.out hb7); clear hm7 hb7
        go_wp2_with (at_builtin; refine wp_appR wo w7 w.heap.size t _ _ r7 q2 c7 (xrL (seedC key t (nth s t) q2) (rowN cs t) q2) _ _ rfl _ _ rfl rfl rfl rfl HO.out HBX.out HM7.out hz (by omega) ?_; intro v9 w9 hv9 hb9)
        go_roundw
        case rel => exact ⟨t + 1, by omega, by go_num, (by rw [HL.out, HD.out]; exact hv9), (show Hid _ from HB.out.trans ((HBX.out.mono hz).trans hb9))⟩
        case measure => simp [intOf]; omega
      · skip
        have HD : Hid (ownC key s cs q2 t = seedC key t (nth s t) q2) := by show _ = _; unfold ownC; rw [if_neg h1]
        have h1b : (nth s t == 1) = false := by simp [h1]
        clear h1
        go_wp2_with fail
        refine (s_oxSeedG key t (nth s t) q2 _ ⟨hk1, hk2⟩ (by omega) (by omega) (by omega)).mono ?_; rintro e w5 ⟨r6, c6, rfl, hm6, hb5⟩
        have hc2b := cell_on hc2 hb5
        have HM6 := Lib.hid hm6; have HB5 := Lib.hid hb5; clear hm6 hb5
        have HBX := HB5
        go_wp2_with (at_builtin; refine wp_appR wo w5 w.heap.size t _ _ r6 q2 c6 (seedC key t (nth s t) q2) _ _ rfl _ _ rfl rfl rfl rfl HO.out HBX.out HM6.out hz (by omega) ?_; intro v9 w9 hv9 hb9)
        go_roundw
        case rel => exact ⟨t + 1, by omega, by go_num, (by rw [HL.out, HD.out]; exact hv9), (show Hid _ from HB.out.trans ((HBX.out.mono hz).trans hb9))⟩
        case measure => simp [intOf]; omega
    · obtain rfl : t = n' := by omega
      obtain ⟨a2, c, hv, hm2⟩ := HO.out.mine (by omega) HB.out.size
      subst hv
      have HMM := Lib.hid hm2; clear hm2 HO
      go_wp2_with fail
      refine (s_oxTurn _ t _ (ownCs key s cs q0 t) q0 _ HMM.out.rows (by omega) (by omega) (show Hid _ from fun i hi => by rw [rowN_ownCs hi, ownC_len]; exact Nat.le_refl _)).mono ?_; rintro e w8 ⟨r8, c8, rfl, hm8, hb8⟩
      have HM8 := Lib.hid (hm8.wider HB.out.size (Nat.le_refl _) (Nat.le_refl _)); clear hm8
      go_wp2
      go_ret
      exact ⟨_, _, rfl, HM8.out, bel_trans HB.out hb8⟩
end Go.Proofs.Ytfejpmfcognikaa
