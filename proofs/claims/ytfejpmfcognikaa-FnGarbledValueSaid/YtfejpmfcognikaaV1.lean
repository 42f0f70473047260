/-
  Plain laws: garbled circuits.
  Plain laws: the zero labels, tables and labels of a circuit.
  Plain law: extended transfers of any labels, for any secret.
  Contracts: labels and their ciphers.
  A slice of ints and a slice of rows that both grow.
  Contracts: the closure of a gate And, the zero labels of a circuit.
  Contract: the zero labels and rows of a circuit.
-/
import Derived.Test.YtfejpmfcognikaaZv
import Derived.Test.YtfejpmfcognikaaY5
import Derived.Test.YtfejpmfcognikaaDu
import Derived.Test.YtfejpmfcognikaaRH
import Derived.BigQuiet
import Derived.Deep.QuietTactic
namespace Go.Proofs.Ytfejpmfcognikaa
open Go.RowKit
set_option linter.unusedVariables false
set_option linter.unusedSimpArgs false
set_option maxRecDepth 10000

/-- The exclusive-or of labels. -/
def bx (x y : Int) : Int := bits .xor .i64 x y
def Lab (x : Int) : Prop := 0 ≤ x ∧ x ≤ 65535
theorem Lab.fits {x : Int} (h : Lab x) : Fits x := by unfold Lab at h; unfold Fits; omega
theorem hbackZ (b : BitVec 64) : BitVec.ofInt 64 (IntKind.i64.wrap (b.toNat : Nat)) = b := by
  apply BitVec.eq_of_toInt_eq
  rw [BitVec.toInt_ofInt, IntKind.wrap_i64]
  have h1 := b.isLt
  rw [BitVec.toInt_eq_toNat_cond]
  simp only [Int.bmod_def]
  split <;> split <;> omega
theorem bx_bv (x y : Int) : BitVec.ofInt 64 (bx x y) = BitVec.ofInt 64 x ^^^ BitVec.ofInt 64 y := by
  have h1 : bx x y = IntKind.i64.wrap ((BitVec.ofInt 64 x ^^^ BitVec.ofInt 64 y).toNat : Nat) := rfl
  rw [h1, hbackZ]
theorem bx_fits (x y : Int) : Fits (bx x y) := xor_fits x y
theorem bv_inj {x y : Int} (hx : Fits x) (hy : Fits y) (h : BitVec.ofInt 64 x = BitVec.ofInt 64 y) : x = y := by
  have h1 := congrArg BitVec.toInt h
  rw [BitVec.toInt_ofInt, BitVec.toInt_ofInt] at h1
  unfold Fits at hx hy
  simp only [Int.bmod_def] at h1
  split at h1 <;> split at h1 <;> omega
theorem bx_comm (x y : Int) : bx x y = bx y x := bv_inj (bx_fits _ _) (bx_fits _ _) (by rw [bx_bv, bx_bv, BitVec.xor_comm])
theorem bx_assoc (x y z : Int) : bx (bx x y) z = bx x (bx y z) := bv_inj (bx_fits _ _) (bx_fits _ _) (by rw [bx_bv, bx_bv, bx_bv, bx_bv, BitVec.xor_assoc])
theorem bx_zero {x : Int} (h : Fits x) : bx x 0 = x := bv_inj (bx_fits _ _) h (by rw [bx_bv]; simp)
theorem bx_cancel {x : Int} (h : Fits x) (y : Int) : bx (bx x y) y = x := xor_xorY y h
theorem bx_lab {x y : Int} (hx : Lab x) (hy : Lab y) : Lab (bx x y) := xor16Y hx.1 hx.2 hy.1 hy.2
theorem bx_nat {x y : Int} (hx : Lab x) (hy : Lab y) : bx x y = ((x.toNat ^^^ y.toNat : Nat) : Int) := by
  have h1 : bx x y = IntKind.i64.wrap ((BitVec.ofInt 64 x ^^^ BitVec.ofInt 64 y).toNat : Nat) := rfl
  have hxn : (BitVec.ofInt 64 x).toNat = x.toNat := by rw [BitVec.toNat_ofInt]; unfold Lab at hx; omega
  have hyn : (BitVec.ofInt 64 y).toNat = y.toNat := by rw [BitVec.toNat_ofInt]; unfold Lab at hy; omega
  have h2 : x.toNat ^^^ y.toNat < 2 ^ 16 := Nat.xor_lt_two_pow (by unfold Lab at hx; omega) (by unfold Lab at hy; omega)
  rw [h1, BitVec.toNat_xor, hxn, hyn, IntKind.wrap_i64]
  omega
theorem bx_par {x y : Int} (hx : Lab x) (hy : Lab y) : bx x y % 2 = xr (x % 2) (y % 2) := by
  have h3 := Nat.xor_mod_two_eq_one (a := x.toNat) (b := y.toNat)
  rw [bx_nat hx hy]
  obtain ⟨n, hn⟩ : ∃ n, n = x.toNat ^^^ y.toNat := ⟨_, rfl⟩
  rw [← hn] at h3 ⊢
  unfold Lab at hx hy
  have h4 : n % 2 = (x.toNat + y.toNat) % 2 := by
    by_cases e1 : x.toNat % 2 = 1 <;> by_cases e2 : y.toNat % 2 = 1 <;> simp only [e1, e2] at h3 <;> simp at h3 <;> omega
  unfold xr
  omega
/-- The label of a value. -/
def lbl (z off v : Int) : Int := bx z (off * v)
def Odd (off : Int) : Prop := Lab off ∧ off % 2 = 1
def bit2 (v : Int) : Prop := 0 ≤ v ∧ v ≤ 1
theorem lbl_zero {z : Int} (off : Int) (h : Lab z) : lbl z off 0 = z := by unfold lbl; rw [Int.mul_zero]; exact bx_zero h.fits
theorem lbl_one (z off : Int) : lbl z off 1 = bx z off := by unfold lbl; rw [Int.mul_one]
theorem lbl_lab {z off v : Int} (hz : Lab z) (ho : Odd off) (hv : bit2 v) : Lab (lbl z off v) := by
  rcases (show v = 0 ∨ v = 1 by unfold bit2 at hv; omega) with rfl | rfl
  · rw [lbl_zero _ hz]; exact hz
  · rw [lbl_one]; exact bx_lab hz ho.1
theorem lbl_par {z off v : Int} (hz : Lab z) (ho : Odd off) (hv : bit2 v) : lbl z off v % 2 = xr (z % 2) v := by
  rcases (show v = 0 ∨ v = 1 by unfold bit2 at hv; omega) with rfl | rfl
  · rw [lbl_zero _ hz]; unfold xr; omega
  · rw [lbl_one, bx_par hz ho.1, ho.2]
theorem lbl_xor {a b off u v : Int} (ha : Lab a) (hb : Lab b) (ho : Odd off) (hu : bit2 u) (hv : bit2 v) : bx (lbl a off u) (lbl b off v) = lbl (bx a b) off (xr u v) := by
  have hab := bx_lab ha hb
  rcases (show u = 0 ∨ u = 1 by unfold bit2 at hu; omega) with rfl | rfl <;> rcases (show v = 0 ∨ v = 1 by unfold bit2 at hv; omega) with rfl | rfl
  · rw [lbl_zero _ ha, lbl_zero _ hb]; exact (lbl_zero _ hab).symm
  · rw [lbl_zero _ ha, lbl_one, ← bx_assoc]; exact (lbl_one _ _).symm
  · rw [lbl_one, lbl_zero _ hb, bx_assoc, bx_comm off b, ← bx_assoc]; exact (lbl_one _ _).symm
  · rw [lbl_one, lbl_one, show xr 1 1 = 0 from rfl, lbl_zero _ hab, bx_assoc, bx_comm off, bx_assoc, bx_comm off off]
    rw [← bx_assoc, ← bx_assoc, bx_cancel hab.fits]
theorem lbl_not {z off v : Int} (hz : Lab z) (ho : Odd off) (hv : bit2 v) : lbl (bx z off) off (1 - v) = lbl z off v := by
  rcases (show v = 0 ∨ v = 1 by unfold bit2 at hv; omega) with rfl | rfl
  · rw [show (1 : Int) - 0 = 1 from rfl, lbl_one, lbl_zero _ hz, bx_cancel hz.fits]
  · rw [show (1 : Int) - 1 = 0 from rfl, lbl_one, lbl_zero _ (bx_lab hz ho.1)]
/-- The zero label of an input or of a gate One. -/
def lz (key : Int) (w : Nat) : Int := dgMix [key, w, 13, 0]
def cph (w : Nat) (x y : Int) : Int := dgMix [w, 14, x, y]
theorem lz_lab (key : Int) (w : Nat) : Lab (lz key w) := dgMix_bd _
theorem cph_lab (w : Nat) (x y : Int) : Lab (cph w x y) := dgMix_bd _
/-- The zero label of a gate And, and its rows. -/
def gz (off : Int) (w : Nat) (x y : Int) : Int := lbl (cph w (lbl x off (x % 2)) (lbl y off (y % 2))) off (x % 2 * (y % 2))
def gr (off : Int) (w : Nat) (x y ca cb : Int) : Int := bx (cph w (lbl x off (xr (x % 2) ca)) (lbl y off (xr (y % 2) cb))) (lbl (gz off w x y) off (xr (x % 2) ca * xr (y % 2) cb))
theorem par2 (x : Int) : bit2 (x % 2) := by unfold bit2; omega
theorem xr2 (x y : Int) : bit2 (xr x y) := xr_bd x y
theorem mul2 {x y : Int} (hx : bit2 x) (hy : bit2 y) : bit2 (x * y) := mul_bit hx hy
theorem gz_lab {off : Int} (ho : Odd off) (w : Nat) (x y : Int) : Lab (gz off w x y) := lbl_lab (cph_lab _ _ _) ho (mul2 (par2 x) (par2 y))
theorem gr_lab {off : Int} (ho : Odd off) (w : Nat) (x y ca cb : Int) : Lab (gr off w x y ca cb) := bx_lab (cph_lab _ _ _) (lbl_lab (gz_lab ho w x y) ho (mul2 (xr2 _ _) (xr2 _ _)))
def grow3 (off : Int) (w : Nat) (x y : Int) : List Int := [gr off w x y 0 1, gr off w x y 1 0, gr off w x y 1 1]
def opA (w : Nat) (x y : Int) (row : List Int) : Int := if 2 * (x % 2) + y % 2 = 0 then cph w x y else bx (cph w x y) (nth row (2 * (x % 2) + y % 2 - 1).toNat)
/-- A gate And is opened. -/
theorem open_law {off x y u v : Int} (w : Nat) (hx : Lab x) (hy : Lab y) (ho : Odd off) (hu : bit2 u) (hv : bit2 v) :
    opA w (lbl x off u) (lbl y off v) (grow3 off w x y) = lbl (gz off w x y) off (u * v) := by
  unfold opA
  rw [lbl_par hx ho hu, lbl_par hy ho hv]
  obtain ⟨p, hp⟩ : ∃ p, p = x % 2 := ⟨_, rfl⟩
  obtain ⟨q, hq⟩ : ∃ q, q = y % 2 := ⟨_, rfl⟩
  have bp : bit2 p := hp ▸ par2 x
  have bq : bit2 q := hq ▸ par2 y
  have hpu : xr p (xr p u) = u := by unfold xr bit2 at *; omega
  have hqv : xr q (xr q v) = v := by unfold xr bit2 at *; omega
  have hG : gz off w x y = lbl (cph w (lbl x off p) (lbl y off q)) off (p * q) := by unfold gz; rw [← hp, ← hq]
  have hR : ∀ ca cb, gr off w x y ca cb = bx (cph w (lbl x off (xr p ca)) (lbl y off (xr q cb))) (lbl (gz off w x y) off (xr p ca * xr q cb)) := fun ca cb => by unfold gr; rw [← hp, ← hq]
  have hzl := gz_lab ho w x y
  have key : ∀ ca cb, xr p u = ca → xr q v = cb → bx (cph w (lbl x off u) (lbl y off v)) (gr off w x y ca cb) = lbl (gz off w x y) off (u * v) := by
    intro ca cb h1 h2
    rw [hR, ← h1, ← h2, hpu, hqv, ← bx_assoc, bx_comm, ← bx_assoc, bx_cancel (lbl_lab hzl ho (mul2 hu hv)).fits] <;> skip
  rw [← hp, ← hq]
  rcases (show xr p u = 0 ∨ xr p u = 1 by unfold xr; omega) with h1 | h1 <;> rcases (show xr q v = 0 ∨ xr q v = 1 by unfold xr; omega) with h2 | h2 <;> rw [h1, h2]
  · have e1 : p = u := by unfold xr bit2 at *; omega
    have e2 : q = v := by unfold xr bit2 at *; omega
    rw [if_pos (by omega), hG, e1, e2]
    have hc := cph_lab w (lbl x off u) (lbl y off v)
    rcases (show u * v = 0 ∨ u * v = 1 by have := mul2 hu hv; unfold bit2 at this; omega) with h3 | h3 <;> rw [h3]
    · rw [lbl_zero _ hc, lbl_zero _ hc]
    · rw [lbl_one, lbl_one, bx_cancel hc.fits]
  · rw [if_neg (by omega)]; exact key 0 1 h1 h2
  · rw [if_neg (by omega)]; exact key 1 0 h1 h2
  · rw [if_neg (by omega)]; exact key 1 1 h1 h2
end Go.Proofs.Ytfejpmfcognikaa
namespace Go.Proofs.Ytfejpmfcognikaa
open Go.RowKit
set_option linter.unusedVariables false
set_option linter.unusedSimpArgs false
set_option maxRecDepth 10000

theorem nthA {l m : List Int} {i : Nat} (h : i < l.length) : nth (l ++ m) i = nth l i := by
  unfold nth; simp only [List.getD_eq_getElem?_getD]; rw [List.getElem?_append_left h]
theorem nthB {l m : List Int} {i : Nat} (h : l.length ≤ i) : nth (l ++ m) i = nth m (i - l.length) := by
  unfold nth; simp only [List.getD_eq_getElem?_getD]; rw [List.getElem?_append_right h]
theorem nthE {l : List Int} {x : Int} {i : Nat} (h : i = l.length) : nth (l ++ [x]) i = x := by
  subst h; rw [nthB (Nat.le_refl _)]; simp [nth]
theorem rowA {l m : List (List Int)} {i : Nat} (h : i < l.length) : rowN (l ++ m) i = rowN l i := by
  unfold rowN; simp only [List.getD_eq_getElem?_getD]; rw [List.getElem?_append_left h]
theorem rowE {l m : List (List Int)} {x : List Int} {i : Nat} (h : i = l.length) : rowN (l ++ x :: m) i = x := by
  subst h; unfold rowN; simp only [List.getD_eq_getElem?_getD]; rw [List.getElem?_append_right (Nat.le_refl _)]; simp
/-- The zero label of a gate's wire. -/
def gateZ (key off K A B : Int) (l : List Int) : Int := if K = 0 then bx (nth l A.toNat) (nth l B.toNat) else if K = 2 then bx (nth l A.toNat) off else if K = 3 then lz key l.length else gz off l.length (nth l A.toNat) (nth l B.toNat)
def inpZ (key : Int) (m : Nat) : List Int := (List.range m).map (lz key)
def zerS (key off : Int) (gs : List Int) (m : Nat) : Nat → List Int
  | 0 => inpZ key m
  | k + 1 => zerS key off gs m k ++ [gateZ key off (fld 3 gs k 0) (fld 3 gs k 1) (fld 3 gs k 2) (zerS key off gs m k)]
/-- The rows of the gates And. -/
def rowS (key off : Int) (gs : List Int) (m : Nat) : Nat → List (List Int)
  | 0 => []
  | k + 1 => if fld 3 gs k 0 = 0 ∨ fld 3 gs k 0 = 2 ∨ fld 3 gs k 0 = 3 then rowS key off gs m k else rowS key off gs m k ++ [grow3 off (m + k) (nth (zerS key off gs m k) (fld 3 gs k 1).toNat) (nth (zerS key off gs m k) (fld 3 gs k 2).toNat)]
/-- The labels of the gates One. -/
def oneS (off : Int) (gs : List Int) (m : Nat) (Z : List Int) : Nat → List Int
  | 0 => []
  | k + 1 => if fld 3 gs k 0 = 3 then oneS off gs m Z k ++ [bx (nth Z (m + k)) off] else oneS off gs m Z k
def colL (l : List Int) : List Int := l.map fun x => x % 2
theorem inpZ_len (key : Int) (m : Nat) : (inpZ key m).length = m := by simp [inpZ]
theorem inpZ_succ (key : Int) (m : Nat) : inpZ key (m + 1) = inpZ key m ++ [lz key m] := by simp [inpZ, List.range_succ]
theorem nth_inpZ {key : Int} {m i : Nat} (h : i < m) : nth (inpZ key m) i = lz key i := by simp [nth, inpZ, h]
theorem zerS_len (key off : Int) (gs : List Int) (m : Nat) : ∀ k, (zerS key off gs m k).length = m + k
  | 0 => inpZ_len key m
  | k + 1 => by rw [zerS, List.length_append, zerS_len key off gs m k]; simp; omega
theorem zerS_pre (key off : Int) (gs : List Int) (m k : Nat) : ∀ n, k ≤ n → ∀ i, i < m + k → nth (zerS key off gs m n) i = nth (zerS key off gs m k) i
  | 0, h, i, hi => by obtain rfl : k = 0 := by omega
                      rfl
  | n + 1, h, i, hi => by
    by_cases e : k = n + 1
    · subst e; rfl
    · rw [zerS, nthA (by rw [zerS_len]; omega)]; exact zerS_pre key off gs m k n (by omega) i hi
def labs (l : List Int) : Prop := ∀ x ∈ l, Lab x
theorem labs_at {l : List Int} (h : labs l) (i : Nat) : Lab (nth l i) := by
  by_cases hi : i < l.length
  · exact h _ (nth_mem hi)
  · have : nth l i = 0 := by simp [nth]; rw [List.getElem?_eq_none (by omega)]; rfl
    rw [this]; unfold Lab; omega
theorem labs_snoc {l : List Int} {x : Int} (h : labs l) (hx : Lab x) : labs (l ++ [x]) := fun y hy => by
  rcases List.mem_append.1 hy with e | e
  · exact h y e
  · simp at e; subst e; exact hx
theorem labs_fit {l : List Int} (h : labs l) : ∀ x ∈ l, Fits x := fun x hx => (h x hx).fits
theorem labs_B {l : List Int} : labB l = true ↔ labs l := by
  unfold labB labs
  rw [allIn_iff]
  constructor
  · intro h x hx
    obtain ⟨i, hi, rfl⟩ := mem_nth hx
    exact inB_iff.1 (h i hi)
  · intro h i hi; exact inB_iff.2 (h _ (nth_mem hi))
theorem gateZ_lab {key off K A B : Int} {l : List Int} (h : labs l) (ho : Odd off) : Lab (gateZ key off K A B l) := by
  unfold gateZ
  split
  · exact bx_lab (labs_at h _) (labs_at h _)
  · split
    · exact bx_lab (labs_at h _) ho.1
    · split
      · exact lz_lab _ _
      · exact gz_lab ho _ _ _
theorem zerS_lab {key off : Int} (gs : List Int) (m : Nat) (ho : Odd off) : ∀ k, labs (zerS key off gs m k)
  | 0 => fun x hx => by simp only [zerS, inpZ, List.mem_map] at hx; obtain ⟨i, _, rfl⟩ := hx; exact lz_lab _ _
  | k + 1 => labs_snoc (zerS_lab gs m ho k) (gateZ_lab (zerS_lab gs m ho k) ho)
theorem oneS_lab {off : Int} {gs Z : List Int} {m : Nat} (h : labs Z) (ho : Odd off) : ∀ k, labs (oneS off gs m Z k)
  | 0 => fun x hx => by cases hx
  | k + 1 => by
    rw [oneS]
    split
    · exact labs_snoc (oneS_lab h ho k) (bx_lab (labs_at h _) ho.1)
    · exact oneS_lab h ho k
theorem oneS_len {off : Int} {gs Z : List Int} {m : Nat} : ∀ k, ((oneS off gs m Z k).length : Int) = cntK gs 3 k
  | 0 => rfl
  | k + 1 => by
    have := oneS_len (off := off) (gs := gs) (Z := Z) (m := m) k
    rw [oneS, cntK]
    split
    · rw [List.length_append]; simp; omega
    · omega
theorem rowS_len {key off : Int} {gs : List Int} {m : Nat} {base : Int} : ∀ k, gatesB base gs k = true → ((rowS key off gs m k).length : Int) = cntK gs 1 k
  | 0, _ => rfl
  | k + 1, h => by
    have hk := gateB_kind (gatesB_at h (i := k) (by omega))
    have := rowS_len (key := key) (off := off) (gs := gs) (m := m) k (by rw [gatesB, Bool.and_eq_true] at h; exact h.1)
    rw [rowS, cntK]
    split
    · rename_i e; rw [if_neg (by omega)]; omega
    · rename_i e; rw [if_pos (by omega), List.length_append]; simp; omega
theorem rowS_rows {key off : Int} {gs : List Int} {m : Nat} (ho : Odd off) : ∀ k, ∀ r ∈ rowS key off gs m k, r.length = 3 ∧ labs r
  | 0 => fun r hr => by cases hr
  | k + 1 => by
    intro r hr
    rw [rowS] at hr
    split at hr
    · exact rowS_rows ho k r hr
    · rcases List.mem_append.1 hr with e | e
      · exact rowS_rows ho k r e
      · simp at e; subst e
        refine ⟨rfl, fun x hx => ?_⟩
        simp only [grow3, List.mem_cons, List.not_mem_nil, or_false] at hx
        rcases hx with rfl | rfl | rfl <;> exact gr_lab ho _ _ _ _ _
/-- The labels of all wires, out of those of the inputs. -/
def labStep (K A B : Int) (rows : List (List Int)) (ones : List Int) (s : List Int × Nat × Nat) : List Int × Nat × Nat :=
  if K = 0 then (s.1 ++ [bx (nth s.1 A.toNat) (nth s.1 B.toNat)], s.2.1, s.2.2)
  else if K = 2 then (s.1 ++ [nth s.1 A.toNat], s.2.1, s.2.2)
  else if K = 3 then (s.1 ++ [nth ones s.2.2], s.2.1, s.2.2 + 1)
  else (s.1 ++ [opA s.1.length (nth s.1 A.toNat) (nth s.1 B.toNat) (rowN rows s.2.1)], s.2.1 + 1, s.2.2)
def labS (gs : List Int) (rows : List (List Int)) (ones inp : List Int) : Nat → List Int × Nat × Nat
  | 0 => (inp, 0, 0)
  | k + 1 => labStep (fld 3 gs k 0) (fld 3 gs k 1) (fld 3 gs k 2) rows ones (labS gs rows ones inp k)
theorem labS_cnt (gs : List Int) (rows : List (List Int)) (ones inp : List Int) {base : Int} : ∀ k, gatesB base gs k = true → (labS gs rows ones inp k).1.length = inp.length + k ∧ ((labS gs rows ones inp k).2.1 : Int) = cntK gs 1 k ∧ ((labS gs rows ones inp k).2.2 : Int) = cntK gs 3 k
  | 0, _ => ⟨rfl, rfl, rfl⟩
  | k + 1, h => by
    have hk := gateB_kind (gatesB_at h (i := k) (by omega))
    obtain ⟨h1, h2, h3⟩ := labS_cnt gs rows ones inp k (by rw [gatesB, Bool.and_eq_true] at h; exact h.1)
    rw [labS, cntK, cntK]
    unfold labStep
    rcases hk with e | e | e | e <;> simp [e, h1, h2, h3] <;> omega
/-- The labels of given values. -/
def actL (off : Int) (Z V : List Int) (n : Nat) : List Int := (List.range n).map fun j => lbl (nth Z j) off (nth V j)
theorem actL_len (off : Int) (Z V : List Int) (n : Nat) : (actL off Z V n).length = n := by simp [actL]
theorem nth_actL {off : Int} {Z V : List Int} {n j : Nat} (h : j < n) : nth (actL off Z V n) j = lbl (nth Z j) off (nth V j) := by simp [nth, actL, h]
theorem actL_snoc (off : Int) (Z V : List Int) (n : Nat) (z v : Int) (hz : Z.length = n) (hv : V.length = n) : actL off (Z ++ [z]) (V ++ [v]) (n + 1) = actL off Z V n ++ [lbl z off v] := by
  unfold actL
  rw [List.range_succ, List.map_append]
  congr 1
  · apply List.map_congr_left
    intro j hj
    have := List.mem_range.1 hj
    rw [nthA (by omega), nthA (by omega)]
  · simp only [List.map_cons, List.map_nil]
    rw [nthE hz.symm, nthE hv.symm]
theorem inB_ltZ {a own : Int} {n : Nat} (h : inB a 0 (own - 1) = true) (hn : own = (n : Int)) : a.toNat < n := by have := inB_iff.1 h; omega
/-- Labels of all wires are those of the values. -/
theorem eval_law {key off : Int} {gs vs : List Int} {m gn : Nat} (ho : Odd off) (hv : bit1 vs) (hm : vs.length = m) (hG : gatesB ((m : Nat) : Int) gs gn = true) :
    ∀ k, k ≤ gn → ∃ tr to_, rowS key off gs m gn = rowS key off gs m k ++ tr ∧ oneS off gs m (zerS key off gs m gn) gn = oneS off gs m (zerS key off gs m gn) k ++ to_ ∧
      labS gs (rowS key off gs m gn) (oneS off gs m (zerS key off gs m gn) gn) (actL off (inpZ key m) vs m) k = (actL off (zerS key off gs m k) (valS gs vs k) (m + k), (rowS key off gs m k).length, (oneS off gs m (zerS key off gs m gn) k).length) := by
  have pre : ∀ d k, k + d = gn → ∃ tr to_, rowS key off gs m gn = rowS key off gs m k ++ tr ∧ oneS off gs m (zerS key off gs m gn) gn = oneS off gs m (zerS key off gs m gn) k ++ to_ := by
    intro d
    induction d with
    | zero => intro k h; obtain rfl : k = gn := by omega
              exact ⟨[], [], by simp, by simp⟩
    | succ d ih =>
      intro k h
      obtain ⟨tr, to_, e1, e2⟩ := ih (k + 1) (by omega)
      have r1 : ∃ t, rowS key off gs m (k + 1) = rowS key off gs m k ++ t := by
        rw [rowS]; split
        · exact ⟨[], by simp⟩
        · exact ⟨_, rfl⟩
      have r2 : ∃ t, oneS off gs m (zerS key off gs m gn) (k + 1) = oneS off gs m (zerS key off gs m gn) k ++ t := by
        rw [oneS]; split
        · exact ⟨_, rfl⟩
        · exact ⟨[], by simp⟩
      obtain ⟨t1, h1⟩ := r1
      obtain ⟨t2, h2⟩ := r2
      exact ⟨t1 ++ tr, t2 ++ to_, by rw [e1, h1, List.append_assoc], by rw [e2, h2, List.append_assoc]⟩
  intro k
  induction k with
  | zero => intro hk; obtain ⟨tr, to_, e1, e2⟩ := pre gn 0 (by omega); exact ⟨tr, to_, e1, e2, rfl⟩
  | succ k ih =>
    intro hk
    obtain ⟨_, _, _, _, e3⟩ := ih (by omega)
    obtain ⟨tr, to_, e1, e2⟩ := pre (gn - (k + 1)) (k + 1) (by omega)
    refine ⟨tr, to_, e1, e2, ?_⟩
    have hg := gatesB_at hG (i := k) (by omega)
    have zl := zerS_len key off gs m k
    have vl : (valS gs vs k).length = m + k := by rw [valS_len, hm]
    have zb := zerS_lab (key := key) gs m ho k
    have vb := valS_bit hv (gs := gs) k
    rw [show ((m : Nat) : Int) + (k : Int) = ((m + k : Nat) : Int) by omega] at hg
    have al := actL_len off (zerS key off gs m k) (valS gs vs k) (m + k)
    have hb2 : ∀ j, bit2 (nth (valS gs vs k) j) := fun j => bit1_at vb j
    show labStep _ _ _ _ _ (labS _ _ _ _ k) = _
    rw [e3]
    show labStep _ _ _ _ _ (actL off (zerS key off gs m k) (valS gs vs k) (m + k), (rowS key off gs m k).length, (oneS off gs m (zerS key off gs m gn) k).length) = _
    rw [show zerS key off gs m (k + 1) = zerS key off gs m k ++ [gateZ key off (fld 3 gs k 0) (fld 3 gs k 1) (fld 3 gs k 2) (zerS key off gs m k)] from rfl, show valS gs vs (k + 1) = valS gs vs k ++ [gval (fld 3 gs k 0) (fld 3 gs k 1) (fld 3 gs k 2) (valS gs vs k)] from rfl,
      show m + (k + 1) = (m + k) + 1 by omega, actL_snoc off _ _ (m + k) _ _ zl vl]
    rw [rowS] at e1 ⊢
    rw [oneS] at e2 ⊢
    unfold labStep gateZ gval
    by_cases k0 : fld 3 gs k 0 = 0
    · rw [k0, gateB_01 (Or.inl rfl)] at hg
      obtain ⟨g1, g2⟩ := Bool.and_eq_true_iff.1 hg
      have a1 := inB_ltZ g1 rfl; have a2 := inB_ltZ g2 rfl
      rw [if_pos k0, if_pos k0, if_pos k0, if_pos (Or.inl k0), if_neg (by omega)]
      simp only []
      rw [nth_actL a1, nth_actL a2, lbl_xor (labs_at zb _) (labs_at zb _) ho (hb2 _) (hb2 _)]
    · by_cases k2 : fld 3 gs k 0 = 2
      · rw [k2, gateB_2] at hg
        obtain ⟨g1, g2⟩ := Bool.and_eq_true_iff.1 hg
        have a1 := inB_ltZ g1 rfl
        rw [if_neg k0, if_neg k0, if_neg k0, if_pos k2, if_pos k2, if_neg (show ¬ fld 3 gs k 0 = 1 by omega), if_pos k2, if_pos (Or.inr (Or.inl k2)), if_neg (by omega)]
        simp only []
        rw [nth_actL a1, lbl_not (labs_at zb _) ho (hb2 _)]
      · by_cases k3 : fld 3 gs k 0 = 3
        · rw [if_neg k0, if_neg k0, if_neg k0, if_neg k2, if_neg k2, if_neg (show ¬ fld 3 gs k 0 = 1 by omega), if_neg k2, if_pos k3, if_pos k3, if_pos (Or.inr (Or.inr k3)), if_pos k3]
          rw [if_pos k3] at e2
          simp only []
          rw [e2, List.append_assoc, nthB (Nat.le_refl _), Nat.sub_self, zl, lbl_one]
          rw [zerS_pre key off gs m (k + 1) gn hk (m + k) (by omega), zerS, nthE zl.symm]
          unfold gateZ
          rw [if_neg k0, if_neg k2, if_pos k3, zl]
          simp [nth]
        · have k1 : fld 3 gs k 0 = 1 := by rcases gateB_kind hg with e | e | e | e <;> omega
          rw [k1, gateB_01 (Or.inr rfl)] at hg
          obtain ⟨g1, g2⟩ := Bool.and_eq_true_iff.1 hg
          have a1 := inB_ltZ g1 rfl; have a2 := inB_ltZ g2 rfl
          have kn : ¬ (fld 3 gs k 0 = 0 ∨ fld 3 gs k 0 = 2 ∨ fld 3 gs k 0 = 3) := by omega
          rw [if_neg kn] at e1
          rw [if_neg k0, if_neg k0, if_neg k0, if_neg k2, if_neg k2, if_pos k1, if_neg k3, if_neg k3, if_neg kn, if_neg k3]
          simp only []
          rw [al, zl, e1, List.append_assoc, List.singleton_append, rowE rfl, nth_actL a1, nth_actL a2, open_law (m + k) (labs_at zb _) (labs_at zb _) ho (hb2 _) (hb2 _)]
          simp
end Go.Proofs.Ytfejpmfcognikaa
namespace Go.Proofs.Ytfejpmfcognikaa
open Go.RowKit
set_option linter.unusedVariables false
set_option linter.unusedSimpArgs false
set_option maxRecDepth 10000

theorem ext_gen {key : Int} {kn m : Nat} {ch s zs os : List Int} (hk : keyE key = true) (hkn : 1 ≤ kn ∧ kn ≤ 8) (hm : m = ch.length) (hm24 : m ≤ 24) (hcb : bitsB ch = true) (hsl : s.length = kn) (hsb : bitsB s = true) (hzl : zs.length = m) (hol : os.length = m) (hzb : labB zs = true) (hob : labB os = true) :
    sentColumns key kn ch = (sentCs key ch m kn, true) ∧ ∃ q t hd taken, senderRows key s (sentCs key ch m kn) = (q, true) ∧ receiverRows key kn m = (t, true) ∧ hideMessages s q zs os = (hd, true) ∧ takeMessages ch t hd = (taken, true) ∧
      taken.length = m ∧ ∀ j, j < m → nth taken j = if nth ch j = 1 then nth os j else nth zs j := by
  have hkk : inB (kn : Int) 1 8 = true := inB_iff.2 (by omega)
  have hch : chosB ch = true := chosB_iff.2 ⟨by omega, hcb⟩
  have hz16 : ∀ j, j < m → 0 ≤ nth zs j ∧ nth zs j ≤ 65535 := fun j hj => inB_iff.1 (allIn_iff.1 hzb j (by omega))
  have ho16 : ∀ j, j < m → 0 ≤ nth os j ∧ nth os j ≤ 65535 := fun j hj => inB_iff.1 (allIn_iff.1 hob j (by omega))
  refine ⟨by unfold sentColumns; rw [hk, hkk, hch, ← hm]; rfl, ?_⟩
  have hsec : secB s = true := secB_iff.2 ⟨by omega, hsb⟩
  have hrow0 : (rowN (sentCs key ch m kn) 0).length = m := by rw [rowN_sentCs (by omega), sentC_len]
  have hcol : colsB (sentCs key ch m kn) = true := colsB_iff.2 ⟨by rw [sentCs_len]; omega, by rw [hrow0]; omega, by
    rw [hrow0]
    exact listsB_mk fun i hi => by rw [sentCs_len] at hi; rw [rowN_sentCs hi]; exact ⟨by rw [sentC_len], sentC_bits _ _ _ _⟩⟩
  have hsnd : sndB key s (sentCs key ch m kn) = true := by unfold sndB; rw [hk, hsec, hcol]; simp [hsl, sentCs_len]
  have hrcv : (keyE key && (inB (kn : Int) 1 8 && inB (m : Int) 0 24)) = true := by rw [hk, hkk]; simp [inB]; omega
  have hq : rowsB (turnL (ownCs key s (sentCs key ch m kn) m kn) kn m) m kn = true := rowsB_turn (by omega) hm24 fun i hi => by
    rw [rowN_ownCs hi]
    refine ⟨ownC_len _ _ _ _ _, ?_⟩
    unfold ownC
    split
    · exact xrL_bits _ _ _
    · exact seedC_bits _ _ _ _
  have ht : rowsB (turnL (seedCs key 0 m kn) kn m) m kn = true := rowsB_turn (by omega) hm24 fun i hi => by
    rw [rowN_seedCs hi]; exact ⟨seedC_len _ _ _ _, seedC_bits _ _ _ _⟩
  have hrow : ∀ j, j < m → rowN (turnL (ownCs key s (sentCs key ch m kn) m kn) kn m) j = dueR (rowN (turnL (seedCs key 0 m kn) kn m) j) s (nth ch j) := fun j hj => snd_row hsb hsl hcb hm.symm hj
  have hhd : hdB s (turnL (ownCs key s (sentCs key ch m kn) m kn) kn m) zs os = true := by
    unfold hdB
    rw [hsec, turnL_len, hsl, hq, hzl, hol, hzb, hob]
    simp
  obtain ⟨q, eq⟩ : ∃ q, q = turnL (ownCs key s (sentCs key ch m kn) m kn) kn m := ⟨_, rfl⟩
  obtain ⟨t, et⟩ : ∃ t, t = turnL (seedCs key 0 m kn) kn m := ⟨_, rfl⟩
  have hql : q.length = m := by rw [eq, turnL_len]
  have htl : t.length = m := by rw [et, turnL_len]
  have htr : ∀ j, j < m → (rowN t j).length = kn ∧ bitsB (rowN t j) = true := fun j hj => by
    have := listsB_at (rowsB_iff.1 ht).2.2.2 (i := j) (by rw [turnL_len]; exact hj)
    rw [← et] at this
    exact ⟨by omega, this.2⟩
  rw [← eq, ← et] at hrow
  rw [← eq] at hhd hq
  rw [← et] at ht
  have hhl : ∀ j, j < m → rowN (hidN s zs os q m) j = hidR s zs os q j := fun j hj => by simp [rowN, hidN, hj]
  have htk : tkB ch t (hidN s zs os q m) = true := tk_all.2 ⟨hch, by rw [← hm]; simp [hidN], by omega, fun j hj => by
    rw [← hm] at hj
    refine ⟨?_, ?_, ?_, ?_⟩
    · rw [hhl j hj]; rfl
    · rw [hhl j hj]
      unfold labB hidR
      refine allIn_iff.2 fun i hi => inB_iff.2 ?_
      have d1 := dgR_bd j (rowN q j)
      have d2 := dgR_bd j (xrL (rowN q j) s (rowN q j).length)
      have z1 := hz16 j hj; have o1 := ho16 j hj
      have hi2 : i = 0 ∨ i = 1 := by simp at hi; omega
      rcases hi2 with rfl | rfl
      · exact xor16Y z1.1 z1.2 d1.1 d1.2
      · exact xor16Y o1.1 o1.2 d2.1 d2.2
    · exact secB_iff.2 ⟨by rw [(htr j hj).1]; omega, (htr j hj).2⟩
    · rw [(htr j hj).1, (htr 0 (by omega)).1]⟩
  refine ⟨q, t, hidN s zs os q m, tkN ch t (hidN s zs os q m) m, ?_, ?_, ?_, ?_, ?_, ?_⟩
  · rw [snd_t hsnd]; unfold sndL; rw [hrow0, hsl, ← eq]
  · unfold receiverRows; rw [if_pos hrcv, et]; rfl
  · rw [hd_t hhd, hql]
  · rw [tk_t htk, ← hm]
  · simp [tkN]
  · intro j hj
    have e1 : nth (tkN ch t (hidN s zs os q m) m) j = tkV ch t (hidN s zs os q m) j := by simp [nth, tkN, hj]
    rw [e1]
    unfold tkV
    rw [hhl j hj]
    unfold hidR
    have hcj := bitsB_nth hcb (i := j) (by omega)
    have hr := hrow j hj
    have hz := htr j hj
    have z1 := hz16 j hj; have o1 := ho16 j hj
    by_cases ec : nth ch j = 1
    · rw [if_pos ec, ec]
      rw [ec] at hr
      unfold dueR at hr
      rw [if_pos rfl, hz.1] at hr
      show bits .xor .i64 (bits .xor .i64 (nth os j) (dgR j (xrL (rowN q j) s (rowN q j).length))) (dgR j (rowN t j)) = _
      rw [hr, xrL_len, xrL_twice hz.1 hz.2 hsl hsb]
      exact xor_xorY _ (by unfold Fits; omega)
    · have ez : nth ch j = 0 := by omega
      rw [if_neg ec, ez]
      rw [ez] at hr
      unfold dueR at hr
      rw [if_neg (by omega)] at hr
      show bits .xor .i64 (bits .xor .i64 (nth zs j) (dgR j (rowN q j))) (dgR j (rowN t j)) = _
      rw [hr]
      exact xor_xorY _ (by unfold Fits; omega)
end Go.Proofs.Ytfejpmfcognikaa
namespace Go.Proofs.Ytfejpmfcognikaa
open Go.RowKit
set_option linter.unusedVariables false
set_option linter.unusedSimpArgs false
set_option maxRecDepth 10000

theorem and_oneZ {x : Int} (hx : Lab x) : bits .and .i64 x 1 = x % 2 := by
  unfold Lab at hx
  show IntKind.i64.wrap ((BitVec.ofInt 64 x &&& BitVec.ofInt 64 1).toNat : Nat) = _
  have : (BitVec.ofInt 64 x &&& BitVec.ofInt 64 1).toNat = x.toNat % 2 := by
    rw [BitVec.toNat_and, show (BitVec.ofInt 64 1).toNat = 1 from rfl, Nat.and_one_is_mod, BitVec.toNat_ofInt]
    omega
  rw [this, IntKind.wrap_i64]; omega
theorem or_oneZ {x : Int} (hx : Lab x) : Odd (bits .or .i64 x 1) := by
  unfold Lab at hx
  have h1 : bits .or .i64 x 1 = IntKind.i64.wrap ((BitVec.ofInt 64 x ||| BitVec.ofInt 64 1).toNat : Nat) := rfl
  have h2 : (BitVec.ofInt 64 x ||| BitVec.ofInt 64 1).toNat = x.toNat ||| 1 := by
    rw [BitVec.toNat_or, show (BitVec.ofInt 64 1).toNat = 1 from rfl, BitVec.toNat_ofInt]
    congr 1; omega
  have h3 : x.toNat ||| 1 < 2 ^ 16 := Nat.or_lt_two_pow (by omega) (by omega)
  have h4 : (x.toNat ||| 1) % 2 = 1 := by
    have := Nat.or_mod_two_eq_one (a := x.toNat) (b := 1)
    rw [this]; right; rfl
  rw [h1, h2, IntKind.wrap_i64]
  unfold Odd Lab
  omega
/-- The offset of a key. -/
def ofs (key : Int) : Int := bits .or .i64 (dgMix [key, 7]) 1
theorem ofs_odd (key : Int) : Odd (ofs key) := or_oneZ (dgMix_bd _)
set_option maxHeartbeats 1000000 in
theorem i_cipher (n : Nat) (x y : Int) (w : World) (hn : n ≤ 100000) (hx : Lab x) (hy : Lab y) :
    Calls Try.prog 100 #[.int .i64 n, .int .i64 x, .int .i64 y] w fun e w' => e = .returned (.int .i64 (cph n x y)) ∧ Below w.heap.size w w' := by
  have HS : Hid (∀ z ∈ [(n : Int), 14, x, y], Small z) := fun z hz => by simp at hz; unfold Small; unfold Lab at hx hy; omega
  have f1 := hx.fits; have f2 := hy.fits
  go_enter Try.func100, Try.ntmps100
  go_wp2_with fail
  refine (i_digest _ _ _ [(n : Int), 14, x, y] _ (by exact Ints.lit4 rfl (by unfold Fits; omega) (by unfold Fits; omega) f1 f2) (by omega) HS.out).mono ?_; rintro e w1 ⟨rfl, hb⟩
  go_wp2
  go_ret
  exact ⟨rfl, by (repeat (first | exact Below.refl _ _ | assumption | refine bel_trans ?_ (bel_alloc _ _) | refine bel_set ?_ (by first | (dsimp only; omega) | (simp; omega) | simp) _ | refine bel_trans ?_ (bel_drewN _ _) | refine bel_trans ?_ (bel_drew _) | refine bel_trans ?_ (by assumption)))⟩
set_option maxHeartbeats 1000000 in
theorem i_zeroLabel (key : Int) (n : Nat) (w : World) (hk : 0 ≤ key ∧ key ≤ 1000000000) (hn : n ≤ 100000) :
    Calls Try.prog 102 #[.int .i64 key, .int .i64 n] w fun e w' => e = .returned (.int .i64 (lz key n)) ∧ Below w.heap.size w w' := by
  have HS : Hid (∀ z ∈ [key, (n : Int), 13, 0], Small z) := fun z hz => by simp at hz; unfold Small; omega
  go_enter Try.func102, Try.ntmps102
  go_wp2_with fail
  refine (i_digest _ _ _ [key, (n : Int), 13, 0] _ (by exact Ints.lit4 rfl (by unfold Fits; omega) (by unfold Fits; omega) (by unfold Fits; omega) (by unfold Fits; omega)) (by omega) HS.out).mono ?_; rintro e w1 ⟨rfl, hb⟩
  go_wp2
  go_ret
  exact ⟨rfl, by (repeat (first | exact Below.refl _ _ | assumption | refine bel_trans ?_ (bel_alloc _ _) | refine bel_set ?_ (by first | (dsimp only; omega) | (simp; omega) | simp) _ | refine bel_trans ?_ (bel_drewN _ _) | refine bel_trans ?_ (bel_drew _) | refine bel_trans ?_ (by assumption)))⟩
set_option maxHeartbeats 1000000 in
theorem i_labelOf (z off v : Int) (w : World) (ho : Odd off) (hv : bit2 v) :
    Calls Try.prog 67 #[.int .i64 z, .int .i64 off, .int .i64 v] w fun e w' => e = .returned (.int .i64 (lbl z off v)) ∧ w = w' := by
  have hb : 0 ≤ off * v ∧ off * v ≤ 65535 := by
    have h1 := ho.1; unfold Lab at h1
    rcases (show v = 0 ∨ v = 1 by unfold bit2 at hv; omega) with rfl | rfl <;> omega
  have e1 : IntKind.i64.wrap (off * v) = off * v := IntWalk.i64_in _ (by omega)
  go_enter Try.func67, Try.ntmps67
  go_wp2
  go_ret
  exact ⟨rfl, rfl⟩
set_option maxHeartbeats 1000000 in
theorem i_coloured (z off c : Int) (w : World) (hz : Lab z) (ho : Odd off) (hc : bit2 c) :
    Calls Try.prog 99 #[.int .i64 z, .int .i64 off, .int .i64 c] w fun e w' => e = .returned (.tuple #[.int .i64 (lbl z off (xr (z % 2) c)), .int .i64 (xr (z % 2) c)]) ∧ w = w' := by
  have e1 := and_oneZ hz
  have e2 := xr_eq (par2 z) hc
  have HL := i_labelOf z off (xr (z % 2) c)
  go_enter Try.func99, Try.ntmps99
  go_wp2_with fail
  refine (HL _ ho (xr2 _ _)).mono ?_; rintro e w1 ⟨rfl, rfl⟩
  go_wp2
  go_ret2
  exact ⟨rfl, rfl⟩
set_option maxHeartbeats 1000000 in
theorem i_garbledAnd (off : Int) (w : World) :
    Calls Try.prog 36 #[.int .i64 off] w fun e w' => e = .returned (.func (.func 98) #[] #[.pointer (some ⟨w.heap.size, 0, none⟩)]) ∧ w' = w.alloc (.cells #[.int .i64 off] 3) := by
  have hmf : ∀ (fn : Fn) (first cap : Array Value) (w : World), (Instr.makeFunc fn first cap).run Try.prog w = .ok (.func fn first cap) w := fun _ _ _ _ => rfl
  go_enter Try.func36, Try.ntmps36
  go_wp2
  go_ret
  exact ⟨rfl, rfl⟩
end Go.Proofs.Ytfejpmfcognikaa
namespace Go.Proofs.Ytfejpmfcognikaa
open Go.RowKit
set_option linter.unusedVariables false
set_option linter.unusedSimpArgs false
set_option maxRecDepth 10000

/-- Rows (first) and ints (second). -/
structure RI (w : World) (B : Nat) (v1 : Value) (n1 : Nat) (xs : List (List Int)) (v2 : Value) (n2 : Nat) (ys : List Int) : Prop where
  one : RG w B v1 n1 xs v2
  two : w.ownsRow B 3 1 v2 n2 (ivs ys)
  dj : ∀ g, v1.ownBlock = some g → v2.ownBlock = some g → False
  base : B ≤ w.heap.size
variable {w w' : World} {B n1 n2 : Nat} {v1 v2 v' : Value} {xs : List (List Int)} {ys : List Int}
theorem RI.bex {b : Nat} (h : RI w B v1 n1 xs v2 n2 ys) (kx : Bex b w w') (hb : b < B) : RI w' B v1 n1 xs v2 n2 ys := ⟨h.one.bex kx hb, ownsRow_bex h.two kx hb, h.dj, Nat.le_trans h.base kx.size⟩
theorem RI.below (h : RI w B v1 n1 xs v2 n2 ys) (k : Below w.heap.size w w') (hB : 0 < B) : RI w' B v1 n1 xs v2 n2 ys := h.bex (Bex.of (b := 0) k) hB
theorem RI.new (h : B ≤ w.heap.size) : RI ((w.alloc (.cells #[] 3)).alloc (.cells #[] 23)) B (.slice (some ⟨w.heap.size + 1, 0, none⟩) 0 0) 0 [] (.slice (some ⟨w.heap.size, 0, none⟩) 0 0) 0 [] := by
  have h1 : (w.alloc (.cells #[] 3)).ownsRow B 3 1 (.slice (some ⟨w.heap.size, 0, none⟩) 0 0) 0 (ivs []) := World.ownsRow_lit w #[] 0 h (by decide) rfl
  have h2 : ((w.alloc (.cells #[] 3)).alloc (.cells #[] 23)).ownsRow B 23 1 (.slice (some ⟨w.heap.size + 1, 0, none⟩) 0 0) 0 [] := by
    have := World.ownsRow_lit (base := B) (e := 23) (size := 1) (w.alloc (.cells #[] 3)) #[] 0 (by simp; omega) (by decide) rfl
    simpa using this
  exact ⟨⟨[], h2, rfl, fun i hi => by omega⟩, h1.alloc _, fun g e1 e2 => by simp [Value.ownBlock] at e1 e2; omega, by simp; omega⟩
theorem blk_or {v' v1 : Value} {s : Nat} (k3 : v'.ownBlock = v1.ownBlock ∨ v'.ownBlock = some s) : ∀ g, v'.ownBlock = some g → v1.ownBlock = some g ∨ g = s := by
  intro g e
  rcases k3 with k | k
  · exact .inl (by rw [← k]; exact e)
  · right; rw [e] at k; simpa using k
/-- The ints have grown. -/
theorem RI.growI {u : Int} (h : RI w B v1 n1 xs v2 n2 ys) (k1 : w'.ownsRow B 3 1 v' (n2 + 1) (ivs (ys ++ [u]))) (k2 : w.grownBy w' v2.ownBlock) (k3 : v'.ownBlock = v2.ownBlock ∨ v'.ownBlock = some w.heap.size) : RI w' B v1 n1 xs v' (n2 + 1) (ys ++ [u]) := by
  have hbl := blk_or k3
  obtain ⟨hs, o1, o2, o3⟩ := h.one
  refine ⟨⟨hs, o1.kept k2 ?_, o2, fun i hi => ?_⟩, k1, fun g e1 e2 => ?_, Nat.le_trans h.base k2.size⟩
  · cases hb : v1.ownBlock with
    | none => exact .inl rfl
    | some g => exact .inr (fun e => h.dj g hb e.symm)
  · obtain ⟨r, m, c, e, hm, hn⟩ := o3 i hi
    refine ⟨r, m, c, e, hm.grownBy k2 (fun h0 g o e => (hn h0 g o e).2.2), fun h0 g o e' => ?_⟩
    obtain ⟨p1, p2, p3⟩ := hn h0 g o e'
    refine ⟨p1, p2, fun q => ?_⟩
    rcases hbl g q.symm with z | z
    · exact p3 z.symm
    · obtain ⟨b, off, e2, hl', _⟩ := hm.at (i := 0) h0
      rw [e'] at e2
      simp only [Option.some.injEq, Addr.mk.injEq] at e2
      omega
  · rcases hbl g e2 with z | z
    · exact h.dj g e1 z
    · have := (h.one.lt g e1).2; omega
/-- The rows have grown. -/
theorem RI.growR {r : Option Addr} {m c : Nat} {x : List Int} {hs : List Value} (h : RI w B v1 n1 xs v2 n2 ys)
    (hl : xs.length = n1) (hlen : hs.length = n1) (h3 : ∀ i, i < n1 → ∃ r m c, hs[i]? = some (.slice r m c) ∧ Ints w r m c (rowN xs i) ∧ (0 < m → ∀ g o, r = some ⟨g, o, none⟩ → B ≤ g ∧ some g ≠ v1.ownBlock ∧ some g ≠ v2.ownBlock))
    (hm : Ints w r m c x) (hr : 0 < m → ∀ g o, r = some ⟨g, o, none⟩ → B ≤ g ∧ some g ≠ v1.ownBlock ∧ some g ≠ v2.ownBlock)
    (k1 : w'.ownsRow B 23 1 v' (n1 + 1) (hs ++ [.slice r m c])) (k2 : w.grownBy w' v1.ownBlock) (k3 : v'.ownBlock = v1.ownBlock ∨ v'.ownBlock = some w.heap.size) :
    RI w' B v' (n1 + 1) (xs ++ [x]) v2 n2 ys := by
  have hbl := blk_or k3
  have away : ∀ (r1 : Option Addr) (m1 c1 : Nat) (x1 : List Int), Ints w r1 m1 c1 x1 → (0 < m1 → ∀ g o, r1 = some ⟨g, o, none⟩ → B ≤ g ∧ some g ≠ v1.ownBlock ∧ some g ≠ v2.ownBlock) → (0 < m1 → ∀ g o, r1 = some ⟨g, o, none⟩ → B ≤ g ∧ some g ≠ v'.ownBlock ∧ some g ≠ v2.ownBlock) := by
    intro r1 m1 c1 x1 hi hp h0 g o e
    obtain ⟨p1, p2, p3⟩ := hp h0 g o e
    refine ⟨p1, fun q => ?_, p3⟩
    rcases hbl g q.symm with z | z
    · exact p2 z.symm
    · obtain ⟨b, off, e', hl', _⟩ := hi.at (i := 0) h0
      rw [e] at e'
      simp only [Option.some.injEq, Addr.mk.injEq] at e'
      omega
  refine ⟨⟨hs ++ [.slice r m c], k1, by simp [hl], fun i hi => ?_⟩, ?_, fun g e1 e2 => ?_, Nat.le_trans h.base k2.size⟩
  · rw [rowN_snoc]
    by_cases ei : i = n1
    · subst ei
      rw [if_pos hl.symm]
      exact ⟨r, m, c, by simp [hlen], hm.grownBy k2 (fun h0 g o e => (hr h0 g o e).2.1), away _ _ _ _ hm hr⟩
    · obtain ⟨r1, m1, c1, e1, hm1, hn1⟩ := h3 i (by omega)
      rw [if_neg (by omega)]
      exact ⟨r1, m1, c1, by rw [List.getElem?_append_left (by omega)]; exact e1, hm1.grownBy k2 (fun h0 g o e => (hn1 h0 g o e).2.1), away _ _ _ _ hm1 hn1⟩
  · refine h.two.kept k2 ?_
    cases hb : v2.ownBlock with
    | none => exact .inl rfl
    | some g => exact .inr (fun e => h.dj g e.symm hb)
  · rcases hbl g e1 with z | z
    · exact h.dj g z e2
    · have := (ownLt h.two g e2).2; omega
/-- Where a row lies that came about behind the world. -/
theorem RI.fresh {w0 : World} (h : RI w0 B v1 n1 xs v2 n2 ys) {r : Option Addr} {m c : Nat} {x : List Int} (hm : Mine w w0.heap.size r m c x) :
    0 < m → ∀ g o, r = some ⟨g, o, none⟩ → B ≤ g ∧ some g ≠ v1.ownBlock ∧ some g ≠ v2.ownBlock := by
  intro h0 g o e
  have p := hm.pl h0 g o e
  have hb := h.base
  refine ⟨by omega, fun q => ?_, fun q => ?_⟩
  · have := (h.one.lt g q.symm).2; omega
  · have := (ownLt h.two g q.symm).2; omega
/-- append of a row. -/
theorem wp_riR {ops : Array Oper} {rest : List Oper} {o : Oper} {a : Act} {Q : Exit → Act → World → Prop} (w : World) (B n1 : Nat) (v1 : Value) (xs : List (List Int)) (v2 : Value) (n2 : Nat) (ys : List Int) (r : Option Addr) (m c : Nat) (x : List Int) (t : TypeId) (q : Nat)
    (hg : o.guard = none) (s z : Operand) (ho : o.op = .call { callee := .builtin .append, args := #[s, z], argTypes := #[32, 32] })
    (hs : a.eval s = v1) (hx : a.eval z = .slice (some ⟨q, 0, none⟩) 1 1) (hq : q = w.heap.size)
    (hD : RI w B v1 n1 xs v2 n2 ys) (hm : Ints w r m c x) (hr : 0 < m → ∀ g o, r = some ⟨g, o, none⟩ → B ≤ g ∧ some g ≠ v1.ownBlock ∧ some g ≠ v2.ownBlock) (hB0 : 0 < B) (hn : n1 ≤ 1000000000000)
    (h : ∀ v' w', RI w' B v' (n1 + 1) (xs ++ [x]) v2 n2 ys → Below B w w' → wpList Try.prog ops Q rest (a.put o.dst v') w') :
    wpList Try.prog ops Q (o :: rest) a (w.alloc (.cells #[.slice r m c] t)) := by
  obtain ⟨i0, hi, hz0, hz1, hz2⟩ := info_parts info_row
  subst hq
  have hDa : RI (w.alloc (.cells #[.slice r m c] t)) B v1 n1 xs v2 n2 ys := hD.bex (Bex.of (b := 0) (bel_alloc _ _)) hB0
  have hma := hm.below (bel_alloc w (.cells #[.slice r m c] t))
  obtain ⟨hs', h1, h2, h3⟩ := hDa.one
  have hlen : hs'.length = n1 := by have := h1.1; omega
  have hBb := hD.base
  refine wpList_append_own_at _ hg s z 32 ho B 23 i0 (.slice none 0 0) 1 24 Try.underlying32 hi hz0 hz1 hz2 rfl (by decide) v1 n1 hs' hs h1 ⟨w.heap.size, 0, none⟩ 1 1 [.slice r m c] hx rfl ?_ ?_ (by unfold maxLen; omega) (by omega) (by simp; omega) ?_
  · intro j u hj
    match j, hj with
    | 0, hj =>
      simp at hj; subst hj
      simp [Addr.add, World.cell?_alloc_at]
  · intro u hu; simp at hu; subst hu; rfl
  · intro v' w' k1 k2 _ k3
    exact h v' w' (hDa.growR h2 hlen h3 hma hr k1 k2 k3) (((Below.refl B w).alloc (by omega) _).trans (below_grown_own h1 k2 (by simp; omega)))
/-- append of an int. -/
theorem wp_riI {ops : Array Oper} {rest : List Oper} {o : Oper} {a : Act} {Q : Exit → Act → World → Prop} (w : World) (B n1 : Nat) (v1 : Value) (xs : List (List Int)) (v2 : Value) (n2 : Nat) (ys : List Int) (u : Int) (t : TypeId) (q : Nat)
    (hg : o.guard = none) (s z : Operand) (ho : o.op = .call { callee := .builtin .append, args := #[s, z], argTypes := #[23, 23] })
    (hs : a.eval s = v2) (hx : a.eval z = .slice (some ⟨q, 0, none⟩) 1 1) (hq : q = w.heap.size)
    (hD : RI w B v1 n1 xs v2 n2 ys) (hB0 : 0 < B) (hn : n2 ≤ 1000000000000)
    (h : ∀ v' w', RI w' B v1 n1 xs v' (n2 + 1) (ys ++ [u]) → Below B w w' → wpList Try.prog ops Q rest (a.put o.dst v') w') :
    wpList Try.prog ops Q (o :: rest) a (w.alloc (.cells #[.int .i64 u] t)) := by
  obtain ⟨i0, hi, hz0, hz1, hz2⟩ := info_parts info_int
  subst hq
  have hDa : RI (w.alloc (.cells #[.int .i64 u] t)) B v1 n1 xs v2 n2 ys := hD.bex (Bex.of (b := 0) (bel_alloc _ _)) hB0
  have h1 := hDa.two
  have hBb := hD.base
  refine wpList_append_own_at _ hg s z 23 ho B 3 i0 (.int .i64 0) 1 8 Try.underlying23 hi hz0 hz1 hz2 rfl (by decide) v2 n2 (ivs ys) hs h1 ⟨w.heap.size, 0, none⟩ 1 1 [.int .i64 u] hx rfl ?_ ?_ (by unfold maxLen; omega) (by omega) (by simp; omega) ?_
  · intro j c hj
    match j, hj with
    | 0, hj =>
      simp at hj; subst hj
      simp [Addr.add, World.cell?_alloc_at]
  · intro c hc; simp at hc; subst hc; rfl
  · intro v' w' k1 k2 _ k3
    exact h v' w' (hDa.growI (by rw [ivs_snoc]; exact k1) k2 k3) (((Below.refl B w).alloc (by omega) _).trans (below_grown_own h1 k2 (by simp; omega)))
end Go.Proofs.Ytfejpmfcognikaa
namespace Go.Proofs.Ytfejpmfcognikaa
open Go.RowKit
set_option linter.unusedVariables false
set_option linter.unusedSimpArgs false
set_option maxRecDepth 10000

def rK (off : Int) (n : Nat) (x y : Int) (k : Nat) : List Int := (List.range k).map fun j => gr off n x y (((j + 1 : Nat) : Int) / 2) (((j + 1 : Nat) : Int) % 2)
theorem rK_succ (off : Int) (n : Nat) (x y : Int) (k : Nat) : rK off n x y (k + 1) = rK off n x y k ++ [gr off n x y (((k + 1 : Nat) : Int) / 2) (((k + 1 : Nat) : Int) % 2)] := by simp [rK, List.range_succ]
theorem rK_3 (off : Int) (n : Nat) (x y : Int) : rK off n x y 3 = grow3 off n x y := rfl
theorem rK_len (off : Int) (n : Nat) (x y : Int) (k : Nat) : (rK off n x y k).length = k := by simp [rK]
theorem rK_fit {off : Int} (ho : Odd off) (n : Nat) (x y : Int) (k : Nat) : ∀ z ∈ rK off n x y k, Fits z := fun z hz => by
  simp only [rK, List.mem_map] at hz
  obtain ⟨j, _, rfl⟩ := hz
  exact (gr_lab ho _ _ _ _ _).fits
def zK (off : Int) (n : Nat) (x y : Int) (k : Nat) : Int := if k = 0 then 0 else gz off n x y
set_option maxHeartbeats 4000000 in
theorem i_gAnd (off : Int) (n : Nat) (x y : Int) (g : Nat) (w : World) (hc : w.cell? ⟨g, 0, none⟩ = some (.int .i64 off)) (ho : Odd off) (hx : Lab x) (hy : Lab y) (hn : n ≤ 100000) :
    Calls Try.prog 98 #[.int .i64 n, .int .i64 x, .int .i64 y, .pointer (some ⟨g, 0, none⟩)] w fun e w' => ∃ r c, e = .returned (.tuple #[.int .i64 (gz off n x y), .slice r 3 c]) ∧ Mine w' w.heap.size r 3 c (grow3 off n x y) ∧ Below w.heap.size w w' := by
  have HH := Lib.hid (And.intro ho (And.intro hx hy))
  clear ho hx hy
  go_enter Try.func98, Try.ntmps98
  go_wp2
  go_loopw [9, 10, 18] (fun z v i wr => ∃ k : Nat, k ≤ 4 ∧ i = .int .i64 k ∧ z = .int .i64 (zK off n x y k) ∧ Hid (wr.ownsRow w.heap.size 3 1 v (k - 1) (ivs (rK off n x y (k - 1)))) ∧ Hid (Below w.heap.size w wr)) (fun _ _ i _ => 4 - (intOf i).toNat)
  case atStart => exact ⟨0, by omega, rfl, rfl, (show Hid _ from World.ownsRow_lit w #[] 0 (Nat.le_refl _) (by decide) rfl), (show Hid _ from bel_alloc w _)⟩
  case round =>
    obtain ⟨k, hk, rfl, rfl, HO, HB⟩ := hrel
    have hc0 := cell_on hc HB.out
    have hzb := HB.out.size
    by_cases hlt : k < 4
    · have hlti : (k : Int) < 4 := by omega
      have d1 : (k : Int).tdiv 2 = (k : Int) / 2 := Int.tdiv_eq_ediv_of_nonneg (by omega)
      have d2 : (k : Int).tmod 2 = (k : Int) % 2 := Int.tmod_eq_emod_of_nonneg (by omega)
      have d3 : IntKind.i64.wrap ((k : Int) / 2) = (k : Int) / 2 := IntWalk.i64_in _ (by omega)
      have d4 : IntKind.i64.wrap ((k : Int) % 2) = (k : Int) % 2 := IntWalk.i64_in _ (by omega)
      have ba : bit2 ((k : Int) / 2) := by unfold bit2; omega
      have bb : bit2 ((k : Int) % 2) := by unfold bit2; omega
      obtain ⟨u, hu⟩ : ∃ u, u = xr (x % 2) ((k : Int) / 2) := ⟨_, rfl⟩
      obtain ⟨v, hv⟩ : ∃ v, v = xr (y % 2) ((k : Int) % 2) := ⟨_, rfl⟩
      have bu : bit2 u := hu ▸ xr2 _ _
      have bv : bit2 v := hv ▸ xr2 _ _
      have e5 : bits .and .i64 u v = u * v := an_eq bu bv
      obtain ⟨A, hA⟩ : ∃ A, A = lbl x off u := ⟨_, rfl⟩
      obtain ⟨C, hC⟩ : ∃ C, C = lbl y off v := ⟨_, rfl⟩
      have lA : Lab A := hA ▸ lbl_lab HH.out.2.1 HH.out.1 bu
      have lC : Lab C := hC ▸ lbl_lab HH.out.2.2 HH.out.1 bv
      have H1 := i_coloured x off ((k : Int) / 2) wr HH.out.2.1 HH.out.1 ba
      have H2 := i_coloured y off ((k : Int) % 2) wr HH.out.2.2 HH.out.1 bb
      rw [← hu, ← hA] at H1; rw [← hv, ← hC] at H2
      have HU := Lib.hid (And.intro hu (And.intro hv (And.intro hA hC))); clear hu hv hA hC ba bb
      have HL := Lib.hid (And.intro lA (And.intro lC (And.intro bu bv))); clear lA lC bu bv
      have HC1 := Lib.hid H1; have HC2 := Lib.hid H2; clear H1 H2
      go_wp2_with fail
      refine HC1.out.mono ?_; rintro e w1 ⟨rfl, rfl⟩
      go_wp2_with fail
      refine HC2.out.mono ?_; rintro e w2 ⟨rfl, rfl⟩
      go_wp2_with fail
      refine (i_cipher n A C _ hn HL.out.1 HL.out.2.1).mono ?_; rintro e w3 ⟨rfl, hb3⟩
      have hc3 := cell_on hc0 hb3
      have HB3 := Lib.hid (bel_trans HB.out hb3); have HO3 := Lib.hid (ownsRow_below HO.out hb3)
      have hz3 := HB3.out.size
      clear hc0 hb3 HB HO HC1 HC2
      by_cases k0 : k = 0
      · subst k0
        go_wp2_with fail
        refine (i_labelOf (cph n A C) off (u * v) _ HH.out.1 (mul2 HL.out.2.2.1 HL.out.2.2.2)).mono ?_; rintro e w4 ⟨rfl, rfl⟩
        have hz : lbl (cph n A C) off (u * v) = gz off n x y := by
          obtain ⟨a1, a2, a3, a4⟩ := HU.out
          have z1 : u = x % 2 := by rw [a1]; unfold xr; simp
          have z2 : v = y % 2 := by rw [a2]; unfold xr; simp
          rw [a3, a4, z1, z2]; rfl
        rw [hz]
        go_wp2
        go_roundw
        case rel => exact ⟨1, by omega, rfl, rfl, HO3, HB3⟩
        case measure => simp [intOf]
      · have k0b : ((k : Int) == 0) = false := by simp only [beq_eq_false_iff_ne, ne_eq]; omega
        obtain ⟨j, rfl⟩ : ∃ j, k = j + 1 := ⟨k - 1, by omega⟩
        obtain ⟨Z, hZ⟩ : ∃ Z, Z = zK off n x y (j + 1) := ⟨_, rfl⟩
        have hZ2 : Z = gz off n x y := hZ
        rw [← hZ]
        have hG : bx (cph n A C) (lbl Z off (u * v)) = gr off n x y (((j + 1 : Nat) : Int) / 2) (((j + 1 : Nat) : Int) % 2) := by
          obtain ⟨a1, a2, a3, a4⟩ := HU.out
          rw [a3, a4, hZ2, a1, a2]; rfl
        have HG := Lib.hid hG; have HZ := Lib.hid (And.intro hZ hZ2); clear hG hZ hZ2
        go_wp2_with fail
        refine (i_labelOf Z off (u * v) _ HH.out.1 (mul2 HL.out.2.2.1 HL.out.2.2.2)).mono ?_; rintro e w4 ⟨rfl, rfl⟩
        obtain ⟨Q, hQ⟩ : ∃ Q, Q = bits .xor .i64 (cph n A C) (lbl Z off (u * v)) := ⟨_, rfl⟩
        have HQ := Lib.hid hQ
        have HO4 : Hid (w3.ownsRow w.heap.size 3 1 _ j (ivs (rK off n x y j))) := HO3
        go_wp2_with (at_builtin; (try rw [← HQ.out]); go_loud (refine wp_app _ w.heap.size j _ (rK off n x y j) Q _ _ rfl _ _ rfl rfl rfl (by first | rfl | simp) HO4.out (by omega) (by omega) ?_; intro v9 w9 hv9 hb9 hg9))
        go_roundw
        case rel => exact ⟨j + 2, by omega, by go_num, by rw [HZ.out.1]; rfl, by rw [show j + 2 - 1 = j + 1 by omega, rK_succ, ← HG.out]; unfold bx; rw [← HQ.out]; exact hv9, HB3.out.trans hb9⟩
        case measure => simp [intOf]; omega
    · obtain rfl : k = 4 := by omega
      have hlti : ¬ (4 : Int) < 4 := by omega
      obtain ⟨r9, c9, hv, hm⟩ := Mine.of HO.out (by omega) (rK_fit HH.out.1 n x y _)
      subst hv
      go_wp2
      go_ret2
      exact ⟨r9, c9, rfl, hm, HB.out⟩
end Go.Proofs.Ytfejpmfcognikaa
namespace Go.Proofs.Ytfejpmfcognikaa
open Go.RowKit
set_option linter.unusedVariables false
set_option linter.unusedSimpArgs false
set_option maxRecDepth 10000

theorem RI.mono {w : World} {B B' n1 n2 : Nat} {v1 v2 : Value} {xs : List (List Int)} {ys : List Int} (h : RI w B v1 n1 xs v2 n2 ys) (hb : B' ≤ B) : RI w B' v1 n1 xs v2 n2 ys := by
  obtain ⟨⟨hs, o1, o2, o3⟩, t, dj, b⟩ := h
  exact ⟨⟨hs, ownsRow_base o1 hb, o2, fun i hi => by obtain ⟨r, m, c, e, hm, hn⟩ := o3 i hi; exact ⟨r, m, c, e, hm, fun h0 g o e => ⟨by have := (hn h0 g o e).1; omega, (hn h0 g o e).2⟩⟩⟩, ownsRow_base t hb, dj, by omega⟩
theorem rowS_le (key off : Int) (gs : List Int) (m : Nat) : ∀ k, (rowS key off gs m k).length ≤ k
  | 0 => Nat.le_refl _
  | k + 1 => by
    have := rowS_le key off gs m k
    rw [rowS]; split
    · omega
    · rw [List.length_append]; simp; omega
set_option maxHeartbeats 8000000 in
theorem i_zeros (p q : Nat) (ga : Option Addr) (gn gc : Nat) (gs : List Int) (oa : Option Addr) (on oc : Nat) (key off : Int) (g : Nat) (w : World) (hg : Recs 3 w ga gn gc gs) (hc : w.cell? ⟨g, 0, none⟩ = some (.int .i64 off)) (hk : 0 ≤ key ∧ key ≤ 1000000000) (ho : Odd off)
    (hp : p ≤ 20) (hq : q ≤ 20) (hgn : gn ≤ 300) (hG : Hid (gatesB (((p + q : Nat)) : Int) gs gn = true)) :
    Calls Try.prog 44 #[.agg #[.int .i64 p, .int .i64 q, .slice ga gn gc, .slice oa on oc], .int .i64 key, .int .i64 off, .func (.func 98) #[] #[.pointer (some ⟨g, 0, none⟩)]] w fun e w' => ∃ v1 v2, e = .returned (.tuple #[v2, v1]) ∧ RI w' w.heap.size v1 (rowS key off gs (p + q) gn).length (rowS key off gs (p + q) gn) v2 (p + q + gn) (zerS key off gs (p + q) gn) ∧ Below w.heap.size w w' := by
  have eA : ∀ args w, (callFunc 98 args).run Try.prog w = .ok (.enter 98 args) w := enters_of Try.func98 (by kernel_rfl) rfl
  have A0 := bel_alloc w (.cells #[.int .i64 p, .int .i64 q, .slice ga gn gc, .slice oa on oc] 25)
  have g0 := B4.new (w := w) (x0 := .int .i64 p) (x1 := .int .i64 q) (x2 := .slice ga gn gc) (x3 := .slice oa on oc) (t := 25)
  have zz := A0.size
  have z0 : (w.alloc (.cells #[.int .i64 p, .int .i64 q, .slice ga gn gc, .slice oa on oc] 25)).heap.size = w.heap.size + 1 := by simp
  have hg0 := hg.below A0; have hc0 := cell_on hc A0
  have D0 := RI.new (w := w.alloc (.cells #[.int .i64 p, .int .i64 q, .slice ga gn gc, .slice oa on oc] 25)) (B := w.heap.size + 1) (by omega)
  have B1 := bel_trans (bel_alloc (w.alloc (.cells #[.int .i64 p, .int .i64 q, .slice ga gn gc, .slice oa on oc] 25)) (.cells #[] 3)) (bel_alloc _ (.cells #[] 23))
  have C0 := g0.on B1
  have hg1 := hg0.below B1; have hc1 := cell_on hc0 B1
  have B2 := A0.trans (B1.mono (by omega))
  have B3 : Below (w.heap.size + 1) (w.alloc (.cells #[.int .i64 p, .int .i64 q, .slice ga gn gc, .slice oa on oc] 25)) _ := z0 ▸ B1
  rw [z0] at D0
  obtain ⟨m, hm⟩ : ∃ m, m = p + q := ⟨_, rfl⟩
  have hm40 : m ≤ 40 := by omega
  rw [← hm] at hG ⊢
  have em : ((p : Int) + (q : Int)) = (m : Int) := by omega
  have HP := Lib.hid (And.intro (show (0 : Int) ≤ p ∧ (p : Int) ≤ 20 by omega) (And.intro (show (0 : Int) ≤ q ∧ (q : Int) ≤ 20 by omega) em)); clear hp hq hm em
  have HK := Lib.hid (And.intro hk ho); clear hk ho
  obtain ⟨c0, c1, c2, c3⟩ := id C0
  have HW := Lib.hid (And.intro hg hc)
  clear hg hc hg0 hc0 g0 B1 A0
  have HF := Lib.hid (And.intro hg1 (And.intro hc1 C0)); clear hg1 hc1 C0
  have HD := Lib.hid D0; have HB := Lib.hid B2; clear D0 B2 B3
  go_enter Try.func44, Try.ntmps44
  go_wp2_with fail
  refine (i_inputs p q ga gn gc oa on oc _ HP.out.1 HP.out.2.1).mono ?_; rintro e w2 ⟨he, hb2⟩; rw [HP.out.2.2] at he; subst he
  have HF2 := Lib.hid (And.intro (HF.out.1.below hb2) (And.intro (cell_on HF.out.2.1 hb2) (HF.out.2.2.on hb2)))
  have HD2 := Lib.hid (HD.out.below hb2 (by omega)); have HB2 := Lib.hid (bel_trans HB.out hb2)
  clear c0 c1 c2 c3 hb2 HF HD HB
  go_wp2
  go_loopw [10, 22] (fun v i wr => ∃ k : Nat, k ≤ m ∧ i = .int .i64 k ∧ Hid (RI wr (w.heap.size + 1) (.slice (some ⟨w.heap.size + 2, 0, none⟩) 0 0) 0 [] v k (inpZ key k)) ∧ Hid (Below (w.heap.size + 1) w2 wr)) (fun _ i _ => m - (intOf i).toNat)
  case atStart => exact ⟨0, by omega, rfl, HD2, (show Hid _ from Below.refl _ _)⟩
  case round =>
    obtain ⟨k, hk, rfl, HD, HL⟩ := hrel
    by_cases hlt : k < m
    · have hlti : (k : Int) < (m : Int) := by omega
      have e1 : IntKind.i64.wrap ((k : Int) + 1) = (k : Int) + 1 := IntWalk.i64_in _ (by omega)
      go_wp2_with fail
      refine (i_zeroLabel key k _ HK.out.1 (by omega)).mono ?_; rintro e w3 ⟨rfl, hb3⟩
      have HD3 := Lib.hid (HD.out.below hb3 (by omega)); have HL3 := Lib.hid (HL.out.trans (hb3.mono (by have := HD.out.base; omega)))
      have hB3 := HD3.out.base
      clear HD HL hb3
      go_wp2_with (at_builtin; go_loud (refine wp_riI w3 (w.heap.size + 1) 0 _ [] _ k (inpZ key k) (lz key k) _ _ rfl _ _ rfl rfl rfl (by first | rfl | simp) HD3.out (by omega) (by omega) ?_; intro v9 w9 hD9 hb9))
      go_roundw
      case rel => exact ⟨k + 1, by omega, by go_num, by rw [inpZ_succ]; exact hD9, HL3.out.trans hb9⟩
      case measure => simp [intOf]; omega
    · obtain rfl : k = m := by omega
      have hlti : ¬ (k : Int) < (k : Int) := by omega
      have k2 := (HL.out.cell (p := ⟨w.heap.size, 2, none⟩) (by show w.heap.size < w.heap.size + 1; omega)).trans HF2.out.2.2.c2
      have HB := Lib.hid (HB2.out.trans (HL.out.mono (by omega)))
      have HZ : Hid (∀ j, labs (zerS key off gs k j) ∧ (zerS key off gs k j).length = k + j) := fun j => ⟨zerS_lab gs k HK.out.2 j, zerS_len key off gs k j⟩
      clear HF2 HD2 HB2 HL
      go_wp2
      go_loopw [10, 11, 35] (fun v r i wr => ∃ j : Nat, j ≤ gn ∧ i = .int .i64 j ∧ Hid (RI wr (w.heap.size + 1) r (rowS key off gs k j).length (rowS key off gs k j) v (k + j) (zerS key off gs k j)) ∧ Hid (Below w.heap.size w wr)) (fun _ _ i _ => gn - (intOf i).toNat)
      case atStart => exact ⟨0, by omega, rfl, HD, HB⟩
      case round =>
        clear HD HB k2
        obtain ⟨j, hj9, rfl, HD, HB⟩ := hrel
        by_cases hjt : j < gn
        · have hjti : (j : Int) < (gn : Int) := by omega
          have hcw := cell_on HW.out.2 HB.out
          obtain ⟨gb, go, rfl, gl, g0, g1, g2⟩ := (HW.out.1.below HB.out).at3 hjt
          have hgt : gateB (fld 3 gs j 0) (fld 3 gs j 1) (fld 3 gs j 2) (((k + j : Nat)) : Int) = true := by have := gatesB_at hG.out hjt; rw [show (((k + j : Nat)) : Int) = (k : Int) + (j : Int) by omega]; exact this
          have hkd := gateB_kind hgt
          have HS : Hid (zerS key off gs k (j + 1) = zerS key off gs k j ++ [gateZ key off (fld 3 gs j 0) (fld 3 gs j 1) (fld 3 gs j 2) (zerS key off gs k j)]) := rfl
          have HSR : Hid (rowS key off gs k (j + 1) = if fld 3 gs j 0 = 0 ∨ fld 3 gs j 0 = 2 ∨ fld 3 gs j 0 = 3 then rowS key off gs k j else rowS key off gs k j ++ [grow3 off (k + j) (nth (zerS key off gs k j) (fld 3 gs j 1).toNat) (nth (zerS key off gs k j) (fld 3 gs j 2).toNat)]) := rfl
          have HL := HZ.out j
          obtain ⟨n, hn⟩ : ∃ n, n = k + j := ⟨_, rfl⟩
          have HRL := Lib.hid (rowS_le key off gs k j)
          rw [← hn] at hgt HL HD HSR
          generalize zerS key off gs k j = l at HS HSR HL HD
          generalize rowS key off gs k j = R at HSR HD HRL
          generalize fld 3 gs j 0 = K at hgt HS HSR g0 hkd
          generalize fld 3 gs j 1 = A at hgt HS HSR g1
          generalize fld 3 gs j 2 = B at hgt HS HSR g2
          have hn9 : n ≤ 340 := by omega
          have HNN := Lib.hid hn; clear hn
          obtain ⟨a1, k1, rfl, m1⟩ := Mine.of HD.out.two (by omega) (labs_fit HL.1)
          have A1 := bel_alloc wr (.cells #[.int .i64 K, .int .i64 A, .int .i64 B] 111)
          have GB := B3.new (w := wr) (x0 := .int .i64 K) (x1 := .int .i64 A) (x2 := .int .i64 B) (t := 111)
          have zA := A1.size
          have zB := HB.out.size
          have HD1 := Lib.hid (HD.out.below A1 (by omega)); have HB1 := Lib.hid (bel_trans HB.out A1)
          have hc1 := cell_on hcw A1
          obtain ⟨b0, b1_, b2_⟩ := id GB
          by_cases hK0 : K = 0
          · subst hK0
            rw [gateB_01 (Or.inl rfl)] at hgt
            obtain ⟨ga1, gb1⟩ := Bool.and_eq_true_iff.1 hgt
            obtain ⟨q, q', rfl, rfl, hq, hq', bb, off', rfl, hbl, hc, hd⟩ := m1.ints.wires ga1 gb1
            have hqi : (q : Int) < (n : Int) := by omega
            have hqi' : (q' : Int) < (n : Int) := by omega
            have HN : Hid (zerS key off gs k (j + 1) = l ++ [bx (nth l q) (nth l q')]) := by show _ = _; rw [HS.out]; unfold gateZ; rw [if_pos rfl]; simp
            have HR : Hid (rowS key off gs k (j + 1) = R) := by show _ = _; rw [HSR.out, if_pos (Or.inl rfl)]
            obtain ⟨Q, hQ⟩ : ∃ Q, bits .xor .i64 (nth l q) (nth l q') = Q := ⟨_, rfl⟩
            replace hc := cell_on hc A1; replace hd := cell_on hd A1
            clear hgt ga1 gb1 HS HSR m1 GB HL hcw hc1 hkd
            go_wp2_with fail
            go_quiet (fail)
            go_wp2_with (at_builtin; go_loud (refine wp_riI _ (w.heap.size + 1) R.length _ R _ n l Q _ _ rfl _ _ rfl rfl rfl (by first | rfl | simp) (HD1.out.below (by (repeat (first | exact Below.refl _ _ | assumption | refine bel_trans ?_ (bel_alloc _ _) | refine bel_set ?_ (by first | (dsimp only; omega) | (simp; omega) | simp) _ | refine bel_trans ?_ (bel_drewN _ _) | refine bel_trans ?_ (bel_drew _) | refine bel_trans ?_ (by assumption)))) (by omega)) (by omega) (by omega) ?_; intro v9 w9 hD9 hb9))
            go_roundw
            case rel => exact ⟨j + 1, by omega, by go_num, by rw [show k + (j + 1) = n + 1 by have := HNN.out; omega, HN.out, HR.out]; unfold bx; rw [hQ]; exact hD9, HB1.out.trans (((by (repeat (first | exact Below.refl _ _ | assumption | refine bel_trans ?_ (bel_alloc _ _) | refine bel_set ?_ (by first | (dsimp only; omega) | (simp; omega) | simp) _ | refine bel_trans ?_ (bel_drewN _ _) | refine bel_trans ?_ (bel_drew _) | refine bel_trans ?_ (by assumption))) : Below (wr.alloc (.cells #[.int .i64 0, .int .i64 q, .int .i64 q'] 111)).heap.size (wr.alloc (.cells #[.int .i64 0, .int .i64 q, .int .i64 q'] 111)) _).mono (by omega)).trans (hb9.mono (by omega)))⟩
            case measure => simp [intOf]; omega
          · by_cases hK2 : K = 2
            · subst hK2
              rw [gateB_2] at hgt
              obtain ⟨ga1, gb1⟩ := Bool.and_eq_true_iff.1 hgt
              obtain ⟨q, rfl, hq, bb, off', rfl, hbl, hc⟩ := m1.ints.wire ga1
              have hqi : (q : Int) < (n : Int) := by omega
              have HN : Hid (zerS key off gs k (j + 1) = l ++ [bx (nth l q) off]) := by show _ = _; rw [HS.out]; unfold gateZ; rw [if_neg (by omega), if_pos rfl]; simp
              have HR : Hid (rowS key off gs k (j + 1) = R) := by show _ = _; rw [HSR.out, if_pos (Or.inr (Or.inl rfl))]
              obtain ⟨Q, hQ⟩ : ∃ Q, bits .xor .i64 (nth l q) off = Q := ⟨_, rfl⟩
              replace hc := cell_on hc A1
              clear hgt ga1 gb1 HS HSR m1 GB HL hcw hc1 hkd hK0
              go_wp2_with (at_builtin; go_loud (refine wp_riI _ (w.heap.size + 1) R.length _ R _ n l Q _ _ rfl _ _ rfl rfl rfl (by first | rfl | simp) (HD1.out.below (by (repeat (first | exact Below.refl _ _ | assumption | refine bel_trans ?_ (bel_alloc _ _) | refine bel_set ?_ (by first | (dsimp only; omega) | (simp; omega) | simp) _ | refine bel_trans ?_ (bel_drewN _ _) | refine bel_trans ?_ (bel_drew _) | refine bel_trans ?_ (by assumption)))) (by omega)) (by omega) (by omega) ?_; intro v9 w9 hD9 hb9))
              go_roundw
              case rel => exact ⟨j + 1, by omega, by go_num, by rw [show k + (j + 1) = n + 1 by have := HNN.out; omega, HN.out, HR.out]; unfold bx; rw [hQ]; exact hD9, HB1.out.trans (hb9.mono (by omega))⟩
              case measure => simp [intOf]; omega
            · by_cases hK3 : K = 3
              · subst hK3
                have HN : Hid (zerS key off gs k (j + 1) = l ++ [lz key n]) := by show _ = _; rw [HS.out]; unfold gateZ; rw [if_neg (by omega), if_neg (by omega), if_pos rfl, HL.2]
                have HR : Hid (rowS key off gs k (j + 1) = R) := by show _ = _; rw [HSR.out, if_pos (Or.inr (Or.inr rfl))]
                clear hgt HS HSR m1 GB HL hcw hc1 hkd hK0 hK2
                go_wp2_with fail
                refine (i_zeroLabel key n _ HK.out.1 (by omega)).mono ?_; rintro e w3 ⟨rfl, hb3⟩
                have HD3 := Lib.hid (HD1.out.below hb3 (by omega)); have HB3 := Lib.hid (bel_trans HB1.out hb3)
                have hz3 := HB3.out.size
                clear hb3 HD1 HB1
                go_wp2_with (at_builtin; go_loud (refine wp_riI _ (w.heap.size + 1) R.length _ R _ n l (lz key n) _ _ rfl _ _ rfl rfl rfl (by first | rfl | simp) (HD3.out.below (by (repeat (first | exact Below.refl _ _ | assumption | refine bel_trans ?_ (bel_alloc _ _) | refine bel_set ?_ (by first | (dsimp only; omega) | (simp; omega) | simp) _ | refine bel_trans ?_ (bel_drewN _ _) | refine bel_trans ?_ (bel_drew _) | refine bel_trans ?_ (by assumption)))) (by omega)) (by omega) (by omega) ?_; intro v9 w9 hD9 hb9))
                go_roundw
                case rel => exact ⟨j + 1, by omega, by go_num, by rw [show k + (j + 1) = n + 1 by have := HNN.out; omega, HN.out, HR.out]; exact hD9, HB3.out.trans (hb9.mono (by omega))⟩
                case measure => simp [intOf]; omega
              · obtain rfl : K = 1 := by omega
                rw [gateB_01 (Or.inr rfl)] at hgt
                obtain ⟨ga1, gb1⟩ := Bool.and_eq_true_iff.1 hgt
                obtain ⟨q, q', rfl, rfl, hq, hq', bb, off', rfl, hbl, hc, hd⟩ := m1.ints.wires ga1 gb1
                have hqi : (q : Int) < (n : Int) := by omega
                have hqi' : (q' : Int) < (n : Int) := by omega
                have HN : Hid (zerS key off gs k (j + 1) = l ++ [gz off n (nth l q) (nth l q')]) := by show _ = _; rw [HS.out]; unfold gateZ; rw [if_neg (by omega), if_neg (by omega), if_neg (by omega), HL.2]; simp
                have HR : Hid (rowS key off gs k (j + 1) = R ++ [grow3 off n (nth l q) (nth l q')]) := by show _ = _; rw [HSR.out, if_neg (by omega)]; simp
                replace hc := cell_on hc A1; replace hd := cell_on hd A1
                have HLA := Lib.hid (And.intro (labs_at HL.1 q) (labs_at HL.1 q'))
                clear hgt ga1 gb1 HS HSR m1 GB HL hcw hkd hK0 hK2 hK3
                replace hc := cell_on hc (bel_drew _); replace hd := cell_on hd (bel_drew _); replace hc1 := cell_on hc1 (bel_drew _)
                go_wp2_with fail
                go_region_law (first
                  | (go_simp; go_at_fn 98; refine (i_gAnd off n (nth l q) (nth l q') g _ hc1 HK.out.2 HLA.out.1 HLA.out.2 (by omega)).mono ?_; rintro e w5 ⟨r5, k5, rfl, hM5, hb5⟩))
                all_goals
                  have HDd := HD1.out.below (bel_drew (wr.alloc (.cells #[.int .i64 1, .int .i64 q, .int .i64 q'] 111))) (by omega)
                  have hfr := HDd.fresh hM5
                  have HD5 := Lib.hid (HDd.below hb5 (by omega))
                  have HB5 := Lib.hid (bel_trans (bel_trans HB1.out (bel_drew (wr.alloc (.cells #[.int .i64 1, .int .i64 q, .int .i64 q'] 111)))) hb5)
                  have hz5 := HB5.out.size
                  have hM6 := hM5.ints
                  clear HD1 HB1 hc hd hc1 HDd hM5 hb5 b0 b1_ b2_ A1
                  have tk0 : True := trivial
                  go_wp2_with (at_builtin; first | (have t0 := tk0; clear t0 tk0; refine wp_riR w5 (w.heap.size + 1) R.length _ R _ n l r5 3 k5 (grow3 off n (nth l q) (nth l q')) _ _ rfl _ _ rfl rfl rfl (by first | rfl | simp) HD5.out hM6 hfr (by omega) (by have := HRL.out; omega) ?_; intro v8 w8 hD8 hb8; have HD8 := Lib.hid hD8; have HB8 := Lib.hid (HB5.out.trans (hb8.mono (show w.heap.size ≤ w.heap.size + 1 by omega))); have hz8 := HB8.out.size; clear hD8 hb8 HD5 HB5) | (refine wp_riI w8 (w.heap.size + 1) (R.length + 1) _ (R ++ [grow3 off n (nth l q) (nth l q')]) _ n l (gz off n (nth l q) (nth l q')) _ _ rfl _ _ rfl rfl rfl (by first | rfl | simp) HD8.out (by omega) (by omega) ?_; intro v9 w9 hD9 hb9))
                  go_roundw
                  case rel => exact ⟨j + 1, by omega, by go_num, by rw [show k + (j + 1) = n + 1 by have := HNN.out; omega, HN.out, HR.out, List.length_append]; exact hD9, HB8.out.trans (hb9.mono (by omega))⟩
                  case measure => simp [intOf]; omega
        · obtain rfl : j = gn := by omega
          have hjti : ¬ (j : Int) < (j : Int) := by omega
          go_wp2
          go_ret2
          exact ⟨_, _, rfl, HD.out.mono (by omega), HB.out⟩
end Go.Proofs.Ytfejpmfcognikaa
