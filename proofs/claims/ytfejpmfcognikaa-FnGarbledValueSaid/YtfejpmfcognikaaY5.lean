/-
  The plain law on extended transfers: rows of sender and receiver match, the chosen messages are taken.
-/
import Derived.Test.YtfejpmfcognikaaE11
import Derived.Test.YtfejpmfcognikaaE9
import Derived.Test.YtfejpmfcognikaaE8
namespace Go.Proofs.Ytfejpmfcognikaa
open Go.RowKit
set_option linter.unusedVariables false
set_option linter.unusedSimpArgs false

theorem xor_xorY {x : Int} (y : Int) (hx : Fits x) : bits .xor .i64 (bits .xor .i64 x y) y = x := by
  have hback : ∀ b : BitVec 64, BitVec.ofInt 64 (IntKind.i64.wrap (b.toNat : Nat)) = b := by
    intro b
    apply BitVec.eq_of_toInt_eq
    rw [BitVec.toInt_ofInt, IntKind.wrap_i64]
    have h1 := b.isLt
    rw [BitVec.toInt_eq_toNat_cond]
    simp only [Int.bmod_def]
    split <;> split <;> omega
  have h1 : bits .xor .i64 x y = IntKind.i64.wrap ((BitVec.ofInt 64 x ^^^ BitVec.ofInt 64 y).toNat : Nat) := rfl
  have h2 : ∀ z : Int, bits .xor .i64 z y = IntKind.i64.wrap ((BitVec.ofInt 64 z ^^^ BitVec.ofInt 64 y).toNat : Nat) := fun z => rfl
  rw [h2, h1, hback, BitVec.xor_assoc, BitVec.xor_self, BitVec.xor_zero, BitVec.toNat_ofInt, IntKind.wrap_i64]
  unfold Fits at hx
  omega
theorem xor16Y {x y : Int} (hx0 : 0 ≤ x) (hx : x ≤ 65535) (hy0 : 0 ≤ y) (hy : y ≤ 65535) : 0 ≤ bits .xor .i64 x y ∧ bits .xor .i64 x y ≤ 65535 := by
  have h1 : bits .xor .i64 x y = IntKind.i64.wrap ((BitVec.ofInt 64 x ^^^ BitVec.ofInt 64 y).toNat : Nat) := rfl
  have h2 : (BitVec.ofInt 64 x ^^^ BitVec.ofInt 64 y).toNat < 2 ^ 16 := by
    rw [BitVec.toNat_xor]
    refine Nat.xor_lt_two_pow ?_ ?_
    · rw [BitVec.toNat_ofInt]; omega
    · rw [BitVec.toNat_ofInt]; omega
  rw [h1, IntKind.wrap_i64]
  omega
/-- Lists of one length with the same places. -/
theorem list_nth {xs ys : List Int} (hl : xs.length = ys.length) (h : ∀ i, i < xs.length → nth xs i = nth ys i) : xs = ys := by
  refine List.ext_getElem hl fun i h1 h2 => ?_
  have := h i h1
  rw [nth_get h1, nth_get h2] at this
  exact this
theorem rows_ext {xs ys : List (List Int)} (hl : xs.length = ys.length) (h : ∀ i, i < xs.length → rowN xs i = rowN ys i) : xs = ys := by
  refine List.ext_getElem hl fun i h1 h2 => ?_
  have := h i h1
  simp only [rowN, List.getD_eq_getElem?_getD, List.getElem?_eq_getElem h1, List.getElem?_eq_getElem h2, Option.getD_some] at this
  exact this
/-- A row of the receiver. -/
def rvR (key : Int) (k j : Nat) : List Int := colAt (seedCs key 0 (j + 1) k) j k
theorem nth_seedC (key i side : Int) (m j : Nat) (hj : j < m) : 0 ≤ nth (seedC key i side m) j ∧ nth (seedC key i side m) j ≤ 1 := bitsB_nth (seedC_bits _ _ _ _) (by rw [seedC_len]; exact hj)
/-- The rows of the sender, out of those of the receiver. -/
theorem snd_row {key : Int} {ch s : List Int} {m k j : Nat} (hs : bitsB s = true) (hsl : s.length = k) (hc : bitsB ch = true) (hcl : ch.length = m) (hj : j < m) :
    rowN (turnL (ownCs key s (sentCs key ch m k) m k) k m) j = dueR (rowN (turnL (seedCs key 0 m k) k m) j) s (nth ch j) := by
  rw [rowN_turnL hj, rowN_turnL hj]
  have hcj := bitsB_nth hc (i := j) (by omega)
  have hl : (colAt (seedCs key 0 m k) j k).length = k := colAt_len _ _ _
  refine list_nth ?_ fun i hi => ?_
  · unfold dueR; split
    · rw [colAt_len, xrL_len, hl]
    · rw [colAt_len, hl]
  · rw [colAt_len] at hi
    have hsi := bitsB_nth hs (i := i) (by omega)
    rw [nth_colAt hi, rowN_ownCs hi]
    have h0 := nth_seedC key i 0 m j hj
    have h1 := nth_seedC key i 1 m j hj
    have e0 : nth (colAt (seedCs key 0 m k) j k) i = nth (seedC key i 0 m) j := by rw [nth_colAt hi, rowN_seedCs hi]
    unfold ownC dueR
    by_cases es : nth s i = 1
    · rw [if_pos es, nth_xrL hj, es, rowN_sentCs hi]
      unfold sentC
      rw [nth_xrL hj, nth_xrL hj]
      split
      · rename_i ec
        rw [nth_xrL (by rw [hl]; exact hi), e0, es, ec]
        unfold xr; omega
      · rename_i ec
        rw [e0]
        have : nth ch j = 0 := by omega
        rw [this]; unfold xr; omega
    · have ez : nth s i = 0 := by omega
      rw [if_neg es, ez]
      split
      · rw [nth_xrL (by rw [hl]; exact hi), e0, ez]
        unfold xr; omega
      · rw [e0]
theorem rowsB_turn {cs : List (List Int)} {k m : Nat} (hk : 1 ≤ k ∧ k ≤ 8) (hm : m ≤ 24) (h : ∀ i, i < k → (rowN cs i).length = m ∧ bitsB (rowN cs i) = true) : rowsB (turnL cs k m) m k = true := by
  refine rowsB_iff.2 ⟨by omega, by omega, by rw [turnL_len], listsB_mk fun j hj => ?_⟩
  rw [turnL_len] at hj
  rw [rowN_turnL hj, colAt_len]
  refine ⟨rfl, bitsB_mk fun i hi => ?_⟩
  rw [colAt_len] at hi
  rw [nth_colAt hi]
  exact bitsB_nth (h i hi).2 (by rw [(h i hi).1]; exact hj)
/-- Numbers one behind the other. -/
def numL (c : Int) (m : Nat) : List Int := (List.range m).map fun (j : Nat) => c + (j : Int)
theorem numL_len (c : Int) (m : Nat) : (numL c m).length = m := by simp [numL]
theorem numL_snoc (c : Int) (m : Nat) : numL c (m + 1) = numL c m ++ [c + (m : Int)] := by simp [numL, List.range_succ]
theorem nth_numL {c : Int} {m j : Nat} (hj : j < m) : nth (numL c m) j = c + (j : Int) := by simp [nth, numL, hj]
theorem numL_fit {c : Int} {m : Nat} (hc : 0 ≤ c ∧ c ≤ 10000) (hm : m ≤ 1000) : ∀ x ∈ numL c m, Fits x := by
  intro x hx
  simp only [numL, List.mem_map, List.mem_range] at hx
  obtain ⟨j, hj, rfl⟩ := hx
  unfold Fits; omega
theorem numL_lab {c : Int} {m : Nat} (hc : 0 ≤ c ∧ c ≤ 10000) (hm : m ≤ 1000) : labB (numL c m) = true := by
  unfold labB
  refine allIn_iff.2 fun i hi => inB_iff.2 ?_
  rw [numL_len] at hi
  rw [nth_numL hi]; omega
theorem xrL_twice {xs ys : List Int} {n : Nat} (hl : xs.length = n) (hx : bitsB xs = true) (hy : ys.length = n) (hby : bitsB ys = true) : xrL (xrL xs ys n) ys n = xs := by
  refine list_nth (by rw [xrL_len, hl]) fun i hi => ?_
  rw [xrL_len] at hi
  have h1 := bitsB_nth hx (i := i) (by omega)
  have h2 := bitsB_nth hby (i := i) (by omega)
  rw [nth_xrL hi, nth_xrL hi]; unfold xr; omega
theorem dgR_bd (j : Int) (row : List Int) : 0 ≤ dgR j row ∧ dgR j row ≤ 65535 := dgMix_bd _
/-- What the law on extended transfers says of one row. -/
structure ExtOk (key : Int) (k : Nat) (ch s : List Int) (q t hd : List (List Int)) (taken : List Int) : Prop where
  snd : senderRows key s (sentCs key ch ch.length k) = (q, true)
  rcv : receiverRows key k ch.length = (t, true)
  mat : rowsMatch s ch q t = (true, true)
  hid : hideMessages s q (numL 1000 ch.length) (numL 2000 ch.length) = (hd, true)
  tak : takeMessages ch t hd = (taken, true)
  len : taken.length = ch.length
  val : ∀ j, j < ch.length → nth taken j = if nth ch j = 1 then 2000 + (j : Int) else 1000 + (j : Int)
theorem ext_law {key k : Int} {ch : List Int} (h : (sentColumns key k ch).2 = true) :
    ∃ kn : Nat, k = kn ∧ 1 ≤ kn ∧ kn ≤ 8 ∧ ch.length ≤ 24 ∧ bitsB ch = true ∧ (0 ≤ key ∧ key ≤ 1000000000) ∧ (sentColumns key k ch).1 = sentCs key ch ch.length kn ∧
      ∃ q t hd taken, ExtOk key kn ch (bitsL [key, 5] kn) q t hd taken := by
  unfold sentColumns at h ⊢
  split at h
  · rename_i hc
    rw [if_pos hc]
    obtain ⟨hk, h2⟩ := Bool.and_eq_true_iff.1 hc
    obtain ⟨hkk, hch⟩ := Bool.and_eq_true_iff.1 h2
    obtain ⟨k1, k2⟩ := inB_iff.1 hkk
    obtain ⟨⟨c1, c2⟩, hcb⟩ := chosB_iff.1 hch
    obtain ⟨key1, key2⟩ := inB_iff.1 hk
    obtain ⟨kn, rfl⟩ : ∃ kn : Nat, k = kn := ⟨k.toNat, by omega⟩
    obtain ⟨m, hm⟩ : ∃ m, m = ch.length := ⟨_, rfl⟩
    have hm24 : m ≤ 24 := by omega
    have hsl : (bitsL [key, 5] kn).length = kn := bitsL_len _ _
    have hsb := bitsL_bits [key, 5] kn
    obtain ⟨s, hs⟩ : ∃ s, s = bitsL [key, 5] kn := ⟨_, rfl⟩
    rw [← hs] at hsl hsb
    refine ⟨kn, rfl, by omega, by omega, by omega, hcb, ⟨key1, key2⟩, rfl, ?_⟩
    rw [← hs]
    have hsec : secB s = true := secB_iff.2 ⟨by omega, hsb⟩
    have hrow0 : (rowN (sentCs key ch m kn) 0).length = m := by rw [rowN_sentCs (by omega), sentC_len]
    have hcol : colsB (sentCs key ch m kn) = true := colsB_iff.2 ⟨by rw [sentCs_len]; omega, by rw [hrow0]; omega, by
      rw [hrow0]
      exact listsB_mk fun i hi => by rw [sentCs_len] at hi; rw [rowN_sentCs hi]; exact ⟨by rw [sentC_len], sentC_bits _ _ _ _⟩⟩
    have hsnd : sndB key s (sentCs key ch m kn) = true := by unfold sndB; rw [hk, hsec, hcol]; simp [hsl, sentCs_len]
    have hrcv : (keyE key && (inB (kn : Int) 1 8 && inB (m : Int) 0 24)) = true := by rw [hk, hkk]; simp [inB]; omega
    have hq : rowsB (turnL (ownCs key s (sentCs key ch m kn) m kn) kn m) m kn = true := rowsB_turn (by omega) hm24 fun i hi => by
      rw [rowN_ownCs hi]
      refine ⟨ownC_len _ _ _ _ _, ?_⟩
      unfold ownC
      split
      · exact xrL_bits _ _ _
      · exact seedC_bits _ _ _ _
    have ht : rowsB (turnL (seedCs key 0 m kn) kn m) m kn = true := rowsB_turn (by omega) hm24 fun i hi => by
      rw [rowN_seedCs hi]; exact ⟨seedC_len _ _ _ _, seedC_bits _ _ _ _⟩
    have hrm : rmB s ch (turnL (ownCs key s (sentCs key ch m kn) m kn) kn m) (turnL (seedCs key 0 m kn) kn m) = true := by
      unfold rmB; rw [hsec, hch, hsl, ← hm, hq, ht]; rfl
    have hrow : ∀ j, j < m → rowN (turnL (ownCs key s (sentCs key ch m kn) m kn) kn m) j = dueR (rowN (turnL (seedCs key 0 m kn) kn m) j) s (nth ch j) := fun j hj => snd_row hsb hsl hcb hm.symm hj
    have hhd : hdB s (turnL (ownCs key s (sentCs key ch m kn) m kn) kn m) (numL 1000 m) (numL 2000 m) = true := by
      unfold hdB
      rw [hsec, turnL_len, hsl, hq, numL_len, numL_len, numL_lab (by omega) (by omega), numL_lab (by omega) (by omega)]
      simp
    obtain ⟨q, eq⟩ : ∃ q, q = turnL (ownCs key s (sentCs key ch m kn) m kn) kn m := ⟨_, rfl⟩
    obtain ⟨t, et⟩ : ∃ t, t = turnL (seedCs key 0 m kn) kn m := ⟨_, rfl⟩
    have hql : q.length = m := by rw [eq, turnL_len]
    have htl : t.length = m := by rw [et, turnL_len]
    have htr : ∀ j, j < m → (rowN t j).length = kn ∧ bitsB (rowN t j) = true := fun j hj => by
      have := listsB_at (rowsB_iff.1 ht).2.2.2 (i := j) (by rw [turnL_len]; exact hj)
      rw [← et] at this
      exact ⟨by omega, this.2⟩
    rw [← eq, ← et] at hrm hrow
    rw [← eq] at hhd hq
    rw [← et] at ht
    have hhl : ∀ j, j < m → rowN (hidN s (numL 1000 m) (numL 2000 m) q m) j = hidR s (numL 1000 m) (numL 2000 m) q j := fun j hj => by simp [rowN, hidN, hj]
    have htk : tkB ch t (hidN s (numL 1000 m) (numL 2000 m) q m) = true := tk_all.2 ⟨hch, by rw [← hm]; simp [hidN], by omega, fun j hj => by
      rw [← hm] at hj
      refine ⟨?_, ?_, ?_, ?_⟩
      · rw [hhl j hj]; rfl
      · rw [hhl j hj]
        unfold labB hidR
        refine allIn_iff.2 fun i hi => inB_iff.2 ?_
        have d1 := dgR_bd j (rowN q j)
        have d2 := dgR_bd j (xrL (rowN q j) s (rowN q j).length)
        rw [nth_numL hj, nth_numL hj]
        have hi2 : i = 0 ∨ i = 1 := by simp at hi; omega
        rcases hi2 with rfl | rfl
        · exact xor16Y (by omega) (by omega) d1.1 d1.2
        · exact xor16Y (by omega) (by omega) d2.1 d2.2
      · exact secB_iff.2 ⟨by rw [(htr j hj).1]; omega, (htr j hj).2⟩
      · rw [(htr j hj).1, (htr 0 (by omega)).1]⟩
    refine ⟨q, t, hidN s (numL 1000 m) (numL 2000 m) q m, tkN ch t (hidN s (numL 1000 m) (numL 2000 m) q m) m, ⟨?_, ?_, ?_, ?_, ?_, ?_, ?_⟩⟩
    · rw [← hm, snd_t hsnd]; unfold sndL; rw [hrow0, hsl, ← eq]
    · rw [← hm]; unfold receiverRows; rw [if_pos hrcv, et]; rfl
    · rw [rm_t hrm]
      have : rmAll s ch q t = true := by
        unfold rmAll
        rw [List.all_eq_true]
        intro j hj
        rw [List.mem_range, ← hm] at hj
        exact decide_eq_true (hrow j hj)
      rw [this]
    · rw [← hm, hd_t hhd, hql]
    · rw [tk_t htk, ← hm]
    · rw [← hm]; simp [tkN]
    · intro j hj
      rw [← hm] at hj
      have e1 : nth (tkN ch t (hidN s (numL 1000 m) (numL 2000 m) q m) m) j = tkV ch t (hidN s (numL 1000 m) (numL 2000 m) q m) j := by simp [nth, tkN, hj]
      rw [e1]
      unfold tkV
      rw [hhl j hj]
      unfold hidR
      rw [nth_numL hj, nth_numL hj]
      have hcj := bitsB_nth hcb (i := j) (by omega)
      have hr := hrow j hj
      have hz := htr j hj
      by_cases ec : nth ch j = 1
      · rw [if_pos ec, ec]
        rw [ec] at hr
        unfold dueR at hr
        rw [if_pos rfl, hz.1] at hr
        show bits .xor .i64 (bits .xor .i64 (2000 + (j : Int)) (dgR j (xrL (rowN q j) s (rowN q j).length))) (dgR j (rowN t j)) = _
        rw [hr, xrL_len, xrL_twice hz.1 hz.2 hsl hsb]
        exact xor_xorY _ (by unfold Fits; omega)
      · have ez : nth ch j = 0 := by omega
        rw [if_neg ec, ez]
        rw [ez] at hr
        unfold dueR at hr
        rw [if_neg (by omega)] at hr
        show bits .xor .i64 (bits .xor .i64 (1000 + (j : Int)) (dgR j (rowN q j))) (dgR j (rowN t j)) = _
        rw [hr]
        exact xor_xorY _ (by unfold Fits; omega)
  · cases h
end Go.Proofs.Ytfejpmfcognikaa
