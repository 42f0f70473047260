/-
  The plain laws on checks: what a bent column is missed by, rows that match pass, bending twice does nothing.
-/
import Derived.Test.YtfejpmfcognikaaGreatE13
import Derived.Test.YtfejpmfcognikaaGreatY5
namespace Go.Proofs.YtfejpmfcognikaaGreat
open Go.RowKit
set_option linter.unusedVariables false
set_option linter.unusedSimpArgs false
set_option maxRecDepth 10000

/-- The sum, modulo 2, of the values whose weight is 1. -/
def spN (ws : List Int) (f : Nat → Int) : Nat → Int
  | 0 => 0
  | j + 1 => if nth ws j = 1 then xr (spN ws f j) (f j) else spN ws f j
theorem spN_bd (ws : List Int) (f : Nat → Int) : ∀ n, 0 ≤ spN ws f n ∧ spN ws f n ≤ 1
  | 0 => ⟨Int.le_refl _, by simp [spN]⟩
  | n + 1 => by
    rw [spN]; split
    · exact xr_bd _ _
    · exact spN_bd ws f n
theorem nth_sumR {ws : List Int} {qs : List (List Int)} {k c : Nat} (hc : c < k) : ∀ n, nth (sumR ws qs k n) c = spN ws (fun j => nth (rowN qs j) c) n
  | 0 => by simp [sumR, spN, nth, hc]
  | n + 1 => by
    have ih := nth_sumR (ws := ws) (qs := qs) hc n
    rw [sumR, spN]
    split
    · rw [nth_xrL hc, ih]
    · exact ih
theorem spN_congr {ws : List Int} {f g : Nat → Int} : ∀ n, (∀ j, j < n → f j = g j) → spN ws f n = spN ws g n
  | 0, _ => rfl
  | n + 1, h => by
    rw [spN, spN, spN_congr n (fun j hj => h j (by omega)), h n (by omega)]
theorem spN_xr {ws : List Int} {f g : Nat → Int} : ∀ n, spN ws (fun j => xr (f j) (g j)) n = xr (spN ws f n) (spN ws g n)
  | 0 => rfl
  | n + 1 => by
    have ih := spN_xr (ws := ws) (f := f) (g := g) n
    rw [spN, spN, spN]
    split
    · rw [ih]; unfold xr; omega
    · exact ih
theorem parC_sp {cs ws : List Int} : ∀ n, (∀ j, j < n → 0 ≤ nth ws j ∧ nth ws j ≤ 1) → parC cs ws n = spN ws (fun j => nth cs j) n
  | 0, _ => rfl
  | n + 1, h => by
    have ih := parC_sp (cs := cs) (ws := ws) n (fun j hj => h j (by omega))
    have hb := spN_bd ws (fun j => nth cs j) n
    have hw := h n (by omega)
    rw [parC, spN, ih]
    split
    · rename_i e; rw [e, Int.mul_one]
    · rename_i e
      have : nth ws n = 0 := by omega
      rw [this, Int.mul_zero]; unfold xr; omega
/-- One check, when the sender's rows are the receiver's with the secret added where a bit is 1. -/
theorem passR_at {secret ws cs : List Int} {t q : List (List Int)} {k m : Nat} {e : Nat → Nat → Int} (hk : secret.length = k) (hm : cs.length = m) (hs : bitsB secret = true) (hw : ∀ j, j < m → 0 ≤ nth ws j ∧ nth ws j ≤ 1)
    (he : ∀ c j, 0 ≤ e c j ∧ e c j ≤ 1) (ht : ∀ j, j < m → ∀ c, c < k → 0 ≤ nth (rowN t j) c ∧ nth (rowN t j) c ≤ 1)
    (hq : ∀ j, j < m → ∀ c, c < k → nth (rowN q j) c = if nth secret c = 1 then xr (nth (rowN t j) c) (e c j) else nth (rowN t j) c) :
    passR secret ws cs t q = true ↔ ∀ c, c < k → nth secret c = 1 → spN ws (e c) m = spN ws (fun j => nth cs j) m := by
  unfold passR
  rw [decide_eq_true_iff, hk, hm, parC_sp m hw]
  have hp := spN_bd ws (fun j => nth cs j) m
  have hsq : ∀ c, c < k → nth (sumR ws q k m) c = if nth secret c = 1 then xr (nth (sumR ws t k m) c) (spN ws (e c) m) else nth (sumR ws t k m) c := by
    intro c hc
    rw [nth_sumR hc, nth_sumR hc]
    split
    · rename_i es
      rw [← spN_xr]
      exact spN_congr m fun j hj => by rw [hq j hj c hc, if_pos es]
    · rename_i es
      exact spN_congr m fun j hj => by rw [hq j hj c hc, if_neg es]
  have hdu : ∀ c, c < k → nth (dueR (sumR ws t k m) secret (spN ws (fun j => nth cs j) m)) c = if nth secret c = 1 then xr (nth (sumR ws t k m) c) (spN ws (fun j => nth cs j) m) else nth (sumR ws t k m) c := by
    intro c hc
    have hsc := bitsB_nth hs (i := c) (by omega)
    have hb : 0 ≤ nth (sumR ws t k m) c ∧ nth (sumR ws t k m) c ≤ 1 := by rw [nth_sumR hc]; exact spN_bd _ _ _
    unfold dueR
    split
    · rename_i ep
      rw [nth_xrL (by rw [sumR_len]; exact hc), ep]
      split
      · rename_i es; rw [es]
      · have : nth secret c = 0 := by omega
        rw [this]; unfold xr; omega
    · have ep : spN ws (fun j => nth cs j) m = 0 := by omega
      rw [ep]
      split
      · unfold xr; omega
      · rfl
  have hbt : ∀ c, c < k → 0 ≤ nth (sumR ws t k m) c ∧ nth (sumR ws t k m) c ≤ 1 := fun c hc => by rw [nth_sumR hc]; exact spN_bd _ _ _
  constructor
  · intro h c hc hsc
    have h1 := hsq c hc
    have h2 := hdu c hc
    rw [h, h1, if_pos hsc, if_pos hsc] at h2
    have b1 := hbt c hc
    have b2 := spN_bd ws (e c) m
    unfold xr at h2
    omega
  · intro h
    have hl1 : (dueR (sumR ws t k m) secret (spN ws (fun j => nth cs j) m)).length = k := by
      unfold dueR; split
      · rw [xrL_len, sumR_len]
      · rw [sumR_len]
    refine list_nth (by rw [hl1, sumR_len]) fun c hc => ?_
    rw [hl1] at hc
    rw [hdu c hc, hsq c hc]
    split
    · rename_i es; rw [h c hc es]
    · rfl
theorem row_bit {l : List (List Int)} {m k : Nat} (h : rowsB l m k = true) {j c : Nat} (hj : j < m) (hc : c < k) : 0 ≤ nth (rowN l j) c ∧ nth (rowN l j) c ≤ 1 := by
  obtain ⟨_, _, h3, h4⟩ := rowsB_iff.1 h
  have := listsB_at h4 (i := j) (by omega)
  exact bitsB_nth this.2 (by omega)
theorem wt_bit {wss : List (List Int)} {m : Nat} (h : wtB wss m = true) {i j : Nat} (hi : i < wss.length) (hj : j < m) : 0 ≤ nth (rowN wss i) j ∧ nth (rowN wss i) j ≤ 1 := by
  obtain ⟨_, h4⟩ := wtB_iff.1 h
  have := listsB_at h4 hi
  exact bitsB_nth this.2 (by omega)
/-- Rows that match pass. -/
theorem match_pass {secret cs : List Int} {wss t q : List (List Int)} (h1 : (checkPasses secret wss cs t q).2 = true) (h2 : (rowsMatch secret cs q t).1 = true) : (checkPasses secret wss cs t q).1 = true := by
  by_cases hc : cpB secret wss cs t q = true
  · rw [cp_t hc]
    obtain ⟨c1, c2, c3, c4, c5⟩ := cpB_iff.1 hc
    by_cases hr : rmB secret cs q t = true
    · rw [rm_t hr] at h2
      have hall : rmAll secret cs q t = true := h2
      unfold rmAll at hall
      rw [List.all_eq_true] at hall
      obtain ⟨s1, s2⟩ := secB_iff.1 c1
      obtain ⟨k1, k2⟩ := chosB_iff.1 c2
      refine passA_yes fun i hi => ?_
      refine (passR_at (k := secret.length) (m := cs.length) (e := fun c j => if j < cs.length then nth cs j else 0) rfl rfl s2 (fun j hj => wt_bit c3 hi hj) (fun c j => ?_) (fun j hj c hc => row_bit c4 hj hc) (fun j hj c hc => ?_)).2 fun c hc es => spN_congr _ fun j hj => if_pos hj
      · split
        · rename_i hj; exact bitsB_nth k2 hj
        · omega
      · have he := of_decide_eq_true (hall j (List.mem_range.2 hj))
        have hl := (listsB_at (rowsB_iff.1 c4).2.2.2 (i := j) (by have := (rowsB_iff.1 c4).2.2.1; omega)).1
        have hb := row_bit c4 hj hc
        have hsc := bitsB_nth s2 hc
        have hcj := bitsB_nth k2 hj
        rw [he, if_pos hj]
        unfold dueR
        split
        · rename_i ec
          rw [nth_xrL (by omega), ec]
          split
          · rename_i es; rw [es]
          · have : nth secret c = 0 := by omega
            rw [this]; unfold xr; omega
        · have ec : nth cs j = 0 := by omega
          rw [ec]
          split
          · unfold xr; omega
          · rfl
    · rw [rm_f hr] at h2; cases h2
  · rw [cp_f hc] at h1; cases h1
/-- A weight that sees the mask. -/
def seenB (wss : List (List Int)) (mask : List Int) (m : Nat) : Bool := wss.any fun ws => decide (parC mask ws m = 1)
theorem unP_eq {wss : List (List Int)} {key : Int} {ch mask : List Int} {i m k s : Nat} (hi : i < k) (hm : ch.length = m) (hml : mask.length = m) (hcb : bitsB ch = true) (hmb : bitsB mask = true) (hw : wtB wss m = true) :
    unP wss key ch i mask m k s = (!seenB wss mask m || decide (s / 2 ^ i % 2 = 0)) := by
  have hsi : ∀ c, c < k → nth (secL s k) c = ((s / 2 ^ c % 2 : Nat) : Int) := fun c hc => by simp [nth, secL, hc]
  have hee : ∀ c j, 0 ≤ (if j < m then (if c = i then xr (nth ch j) (nth mask j) else nth ch j) else 0) ∧ (if j < m then (if c = i then xr (nth ch j) (nth mask j) else nth ch j) else 0) ≤ 1 := fun c j => by
    split
    · rename_i hj
      split
      · exact xr_bd _ _
      · exact bitsB_nth hcb (by omega)
    · omega
  have hT := (unT_row key m k).out
  have key1 : ∀ w, w < wss.length → (passR (secL s k) (rowN wss w) ch (unT key m k) (unQ key ch i mask m k s) = true ↔ (nth (secL s k) i = 1 → parC mask (rowN wss w) m = 0)) := by
    intro w hwl
    rw [passR_at (k := k) (m := m) (e := fun c j => if j < m then (if c = i then xr (nth ch j) (nth mask j) else nth ch j) else 0) (secL_len _ _) hm (secL_bits _ _) (fun j hj => wt_bit hw hwl hj) hee (fun j hj c hc => bitsB_nth (hT j hj).2 (by rw [(hT j hj).1]; exact hc)) (fun j hj c hc => ?_)]
    · rw [parC_sp m (fun j hj => wt_bit hw hwl hj)]
      have hbm := spN_bd (rowN wss w) (fun j => nth mask j) m
      have hbc := spN_bd (rowN wss w) (fun j => nth ch j) m
      have ei : spN (rowN wss w) (fun j => if j < m then (if i = i then xr (nth ch j) (nth mask j) else nth ch j) else 0) m = xr (spN (rowN wss w) (fun j => nth ch j) m) (spN (rowN wss w) (fun j => nth mask j) m) := by
        rw [← spN_xr]
        exact spN_congr m fun j hj => by rw [if_pos hj, if_pos rfl]
      constructor
      · intro h es
        have := h i hi es
        rw [ei] at this
        unfold xr at this
        omega
      · intro h c hc es
        by_cases hci : c = i
        · subst hci
          have h0 := h es
          show spN _ _ m = _
          rw [ei, h0]; unfold xr; omega
        · exact spN_congr m fun j hj => by rw [if_pos hj, if_neg hci]
    · have hseed := nth_seedC key c 0 m j hj
      have hseed1 := nth_seedC key c 1 m j hj
      have hsc := bitsB_nth (secL_bits s k) (i := c) (by rw [secL_len]; exact hc)
      have hcj := bitsB_nth hcb (i := j) (by omega)
      have hmj := bitsB_nth hmb (i := j) (by omega)
      have e0 : nth (rowN (unT key m k) j) c = nth (seedC key c 0 m) j := by unfold unT; rw [rowN_turnL hj, nth_colAt hc, rowN_seedCs hc]
      have eb : nth (rowN (unC key ch i mask m k) c) j = if c = i then xr (nth (sentC key ch m c) j) (nth mask j) else nth (sentC key ch m c) j := by
        unfold unC
        rw [rowN_bendN hc]
        unfold bendC
        by_cases hci : c = i
        · subst hci
          rw [if_pos rfl, if_pos rfl, rowN_sentCs hc, nth_xrL (by rw [sentC_len]; exact hj)]
        · rw [if_neg (by omega), if_neg hci, rowN_sentCs hc]
      have es2 : nth (sentC key ch m c) j = xr (xr (nth (seedC key c 0 m) j) (nth (seedC key c 1 m) j)) (nth ch j) := by unfold sentC; rw [nth_xrL hj, nth_xrL hj]
      rw [e0, if_pos hj]
      unfold unQ
      rw [rowN_turnL hj, nth_colAt hc, rowN_ownCs hc]
      unfold ownC
      split
      · rename_i es
        rw [nth_xrL hj, es, eb, es2]
        split
        · unfold xr; omega
        · unfold xr; omega
      · have : nth (secL s k) c = 0 := by omega
        rw [this]
  have hb := bitsB_nth (secL_bits s k) (i := i) (by rw [secL_len]; exact hi)
  have hsi' := hsi i hi
  cases hz : decide (s / 2 ^ i % 2 = 0) with
  | true =>
    rw [Bool.or_true]
    have h0 := of_decide_eq_true hz
    unfold unP
    refine passA_yes fun w hwl => (key1 w hwl).2 fun es => ?_
    rw [hsi', h0] at es; simp at es
  | false =>
    rw [Bool.or_false]
    have h0 := of_decide_eq_false hz
    have h1 : nth (secL s k) i = 1 := by rw [hsi']; omega
    cases hs : seenB wss mask m with
    | false =>
      unfold unP
      refine passA_yes fun w hwl => (key1 w hwl).2 fun _ => ?_
      unfold seenB at hs
      rw [List.any_eq_false] at hs
      have hmem : rowN wss w ∈ wss := by
        simp only [rowN, List.getD_eq_getElem?_getD, List.getElem?_eq_getElem hwl, Option.getD_some]; exact List.getElem_mem hwl
      have h2 := hs _ hmem
      have hb2 := parC_bd mask (rowN wss w) m
      simp only [decide_eq_true_eq] at h2
      omega
    | true =>
      unfold seenB at hs
      rw [List.any_eq_true] at hs
      obtain ⟨ws, hmem, hp⟩ := hs
      obtain ⟨w, hwl, rfl⟩ := List.mem_iff_getElem.1 hmem
      have hrw : rowN wss w = wss[w] := by simp only [rowN, List.getD_eq_getElem?_getD, List.getElem?_eq_getElem hwl, Option.getD_some]
      unfold unP
      refine passA_no hwl ?_
      cases hq : passR (secL s k) (rowN wss w) ch (unT key m k) (unQ key ch i mask m k s) with
      | false => rfl
      | true =>
        have := (key1 w hwl).1 hq h1
        rw [hrw, of_decide_eq_true hp] at this
        cases this
/-- How many numbers below n have the digit i zero. -/
def halfN (i : Nat) : Nat → Int
  | 0 => 0
  | s + 1 => halfN i s + (if s / 2 ^ i % 2 = 0 then 1 else 0)
theorem half_law : ∀ k, k < 9 → ∀ i, i < k → 2 * halfN i (2 ^ k) = ((2 ^ k : Nat) : Int) := by decide +kernel
theorem unN_eq {wss : List (List Int)} {key : Int} {ch mask : List Int} {i m k : Nat} (hi : i < k) (hm : ch.length = m) (hml : mask.length = m) (hcb : bitsB ch = true) (hmb : bitsB mask = true) (hw : wtB wss m = true) :
    ∀ n, unN wss key ch i mask m k n = if seenB wss mask m then halfN i n else (n : Int)
  | 0 => by rw [unN]; split <;> rfl
  | n + 1 => by
    rw [unN, unN_eq hi hm hml hcb hmb hw n, unP_eq hi hm hml hcb hmb hw]
    cases seenB wss mask m with
    | false => simp [bE]
    | true =>
      simp only [Bool.not_true, Bool.false_or, if_true, halfN]
      congr 1
      unfold bE
      by_cases h : n / 2 ^ i % 2 = 0
      · rw [if_pos h, if_pos (by exact decide_eq_true h)]
      · rw [if_neg h, if_neg (by simpa using h)]
/-- What the law on checks says of the secrets by which a bent column is missed. -/
theorem un_law {k : Int} {wss : List (List Int)} {ch : List Int} {key i : Int} {mask : List Int} (h : (countUnseen k wss ch key i mask).2 = true) :
    ∃ kn : Nat, k = kn ∧ 1 ≤ kn ∧ kn ≤ 8 ∧ wss.length ≤ 8 ∧ bitsB mask = true ∧ mask.length ≤ 24 ∧ (∀ j, j < wss.length → (rowN wss j).length = mask.length ∧ bitsB (rowN wss j) = true) ∧
      (seenB wss mask mask.length = true → 2 * (countUnseen k wss ch key i mask).1 = ((2 ^ kn : Nat) : Int)) ∧ (seenB wss mask mask.length = false → (countUnseen k wss ch key i mask).1 = ((2 ^ kn : Nat) : Int)) := by
  by_cases hb : unB k wss ch key i mask = true
  · rw [un_t hb]
    obtain ⟨u1, u2, u3, u4, u5, u6, u7⟩ := unB_iff.1 hb
    obtain ⟨k1, k2⟩ := inB_iff.1 u1
    obtain ⟨i1, i2⟩ := inB_iff.1 u5
    obtain ⟨c1, c2⟩ := chosB_iff.1 u2
    obtain ⟨w1, w2⟩ := wtB_iff.1 u3
    obtain ⟨kn, rfl⟩ : ∃ kn : Nat, k = kn := ⟨k.toNat, by omega⟩
    obtain ⟨ii, rfl⟩ : ∃ ii : Nat, i = ii := ⟨i.toNat, by omega⟩
    have hik : ii < kn := by omega
    have e := unN_eq (key := key) hik (m := ch.length) rfl u6 c2 u7 u3 (2 ^ kn)
    refine ⟨kn, rfl, by omega, by omega, w1, u7, by omega, fun j hj => ?_, fun hs => ?_, fun hs => ?_⟩
    · have := listsB_at w2 hj
      exact ⟨by omega, this.2⟩
    · rw [u6] at hs
      show 2 * unN wss key ch ii mask ch.length kn (2 ^ kn) = _
      rw [e, if_pos hs]
      exact half_law kn (by omega) ii hik
    · rw [u6] at hs
      show unN wss key ch ii mask ch.length kn (2 ^ kn) = _
      rw [e, hs]; rfl
  · rw [un_f hb] at h; cases h
/-- Bending twice does nothing. -/
theorem bend_law {cs : List (List Int)} {i : Int} {mask : List Int} (h : (bendCols cs i mask).2 = true) : bendCols (bendCols cs i mask).1 i mask = (cs, true) := by
  unfold bendCols at h ⊢
  split at h
  · rename_i hb
    rw [if_pos hb]
    have hb' := hb
    unfold bndB at hb'
    simp only [Bool.and_eq_true, decide_eq_true_iff] at hb'
    obtain ⟨hc, hi, hl, hm⟩ := hb'
    obtain ⟨c1, c2, c3⟩ := colsB_iff.1 hc
    have hrow : ∀ j, j < cs.length → ((rowN cs j).length : Int) = ((rowN cs 0).length : Int) ∧ bitsB (rowN cs j) = true := fun j hj => listsB_at c3 hj
    have h0 : 0 < cs.length := by omega
    have e0 : (rowN (bendN cs i mask cs.length) 0).length = (rowN cs 0).length := by rw [rowN_bendN h0, bendC_len]
    have hcol : colsB (bendN cs i mask cs.length) = true := colsB_iff.2 ⟨by rw [bendN_len]; exact c1, by rw [e0]; exact c2, by
      rw [e0]
      refine listsB_mk fun j hj => ?_
      rw [bendN_len] at hj
      rw [rowN_bendN hj]
      refine ⟨by rw [bendC_len]; exact (hrow j hj).1, ?_⟩
      unfold bendC
      split
      · exact xrL_bits _ _ _
      · exact (hrow j hj).2⟩
    have hbn : bndB (bendN cs i mask cs.length) i mask = true := by
      unfold bndB
      simp only [Bool.and_eq_true, decide_eq_true_iff]
      exact ⟨hcol, by rw [bendN_len]; exact hi, by rw [e0]; exact hl, hm⟩
    show (if bndB (bendN cs i mask cs.length) i mask then (bendN (bendN cs i mask cs.length) i mask (bendN cs i mask cs.length).length, true) else ([], false)) = (cs, true)
    rw [if_pos hbn, bendN_len]
    congr 1
    refine rows_ext (bendN_len _ _ _ _) fun j hj => ?_
    rw [bendN_len] at hj
    rw [rowN_bendN hj]
    unfold bendC
    split
    · rename_i e
      rw [rowN_bendN hj]
      unfold bendC
      rw [if_pos e, xrL_len]
      exact xrL_twice rfl (hrow j hj).2 (by have := (hrow j hj).1; omega) hm
    · rename_i e
      rw [rowN_bendN hj]
      unfold bendC
      rw [if_neg e]
  · cases h
end Go.Proofs.YtfejpmfcognikaaGreat
