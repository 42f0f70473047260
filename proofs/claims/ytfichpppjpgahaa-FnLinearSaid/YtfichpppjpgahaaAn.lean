/-
  Plain laws: arithmetic circuits: values, degrees, forms of degree one.
-/
import Derived.Test.YtfichpppjpgahaaLd
import Derived.Test.YtfichpppjpgahaaRec
import Derived.Test.YtfichpppjpgahaaLi
namespace Go.Proofs.Ytfichpppjpgahaa
set_option linter.unusedVariables false
set_option linter.unusedSimpArgs false

theorem nth_snoc (l : List Int) (x : Int) (i : Nat) : nth (l ++ [x]) i = if i = l.length then x else nth l i := by
  unfold nth
  simp only [List.getD_eq_getElem?_getD]
  split
  · rename_i h; subst h; simp
  · rename_i h
    rcases Nat.lt_or_ge i l.length with k | k
    · rw [List.getElem?_append_left k]
    · rw [List.getElem?_eq_none (by simp; omega), List.getElem?_eq_none (by omega)]
theorem nth_out {l : List Int} {i : Nat} (h : l.length ≤ i) : nth l i = 0 := by
  unfold nth; rw [List.getD_eq_getElem?_getD, List.getElem?_eq_none h]; rfl
/-- What a gate says of the wires before it. -/
def gt (zs : List Int) (m j : Nat) : Int := fld 3 zs m j
def aRaw (zs : List Int) (o : List Int) (m : Nat) : Int :=
  if gt zs m 0 = 0 then nth o (gt zs m 1).toNat + nth o (gt zs m 2).toNat
  else if gt zs m 0 = 1 then nth o (gt zs m 1).toNat * nth o (gt zs m 2).toNat
  else if gt zs m 0 = 2 then nth o (gt zs m 1).toNat * gt zs m 2
  else gt zs m 1
/-- The values of all wires behind m gates. -/
def avs (p : Int) (zs vs : List Int) : Nat → List Int
  | 0 => vs
  | m + 1 => avs p zs vs m ++ [aRaw zs (avs p zs vs m) m % p]
theorem avs_len (p : Int) (zs vs : List Int) : ∀ m, (avs p zs vs m).length = vs.length + m
  | 0 => rfl
  | m + 1 => by rw [avs, List.length_append, avs_len p zs vs m]; rfl
theorem avs_res {p : Int} (hp : 2 ≤ p) (zs vs : List Int) (hv : ∀ x ∈ vs, 0 ≤ x ∧ x < p) : ∀ m, ∀ x ∈ avs p zs vs m, 0 ≤ x ∧ x < p
  | 0 => hv
  | m + 1 => by
    intro x hx
    rw [avs, List.mem_append] at hx
    rcases hx with hx | hx
    · exact avs_res hp zs vs hv m x hx
    · simp at hx; subst hx
      exact ⟨Int.emod_nonneg _ (by omega), Int.emod_lt_of_pos _ (by omega)⟩
/-- The degree of a gate, at most C. -/
def aDeg (C : Int) (zs : List Int) (o : List Int) (m : Nat) : Int :=
  if gt zs m 0 = 0 then max (nth o (gt zs m 1).toNat) (nth o (gt zs m 2).toNat)
  else if gt zs m 0 = 1 then min (nth o (gt zs m 1).toNat + nth o (gt zs m 2).toNat) C
  else if gt zs m 0 = 2 then nth o (gt zs m 1).toNat
  else 0
def ads (C : Int) (zs : List Int) (n : Nat) : Nat → List Int
  | 0 => List.replicate n 1
  | m + 1 => ads C zs n m ++ [aDeg C zs (ads C zs n m) m]
theorem ads_len (C : Int) (zs : List Int) (n : Nat) : ∀ m, (ads C zs n m).length = n + m
  | 0 => by simp [ads]
  | m + 1 => by rw [ads, List.length_append, ads_len C zs n m]; rfl
theorem nth_rep1 (n j : Nat) (x : Int) : nth (List.replicate n x) j = if j < n then x else 0 := by
  unfold nth
  rw [List.getD_eq_getElem?_getD, List.getElem?_replicate]
  split <;> rfl
theorem ads_bd {C : Int} (hC : 1 ≤ C) (zs : List Int) (n : Nat) : ∀ m i, 0 ≤ nth (ads C zs n m) i ∧ nth (ads C zs n m) i ≤ C
  | 0, i => by rw [ads, nth_rep1]; split <;> omega
  | m + 1, i => by
    rw [ads, nth_snoc]
    split
    · have h1 := ads_bd hC zs n m (gt zs m 1).toNat
      have h2 := ads_bd hC zs n m (gt zs m 2).toNat
      unfold aDeg
      split
      · omega
      · split
        · omega
        · split <;> omega
    · exact ads_bd hC zs n m i
/-- The lower bound of degrees cuts those of the higher one. -/
theorem ads_min {c C : Int} (h1 : 1 ≤ c) (h2 : c ≤ C) (zs : List Int) (n : Nat) : ∀ m i, nth (ads c zs n m) i = min (nth (ads C zs n m) i) c
  | 0, i => by rw [ads, ads, nth_rep1]; split <;> omega
  | m + 1, i => by
    rw [ads, ads, nth_snoc, nth_snoc, ads_len, ads_len]
    split
    · have e1 := ads_min h1 h2 zs n m (gt zs m 1).toNat
      have e2 := ads_min h1 h2 zs n m (gt zs m 2).toNat
      have b1 := ads_bd (show 1 ≤ C by omega) zs n m (gt zs m 1).toNat
      have b2 := ads_bd (show 1 ≤ C by omega) zs n m (gt zs m 2).toNat
      unfold aDeg
      rw [e1, e2]
      split
      · omega
      · split
        · omega
        · split <;> omega
    · exact ads_min h1 h2 zs n m i
/-- A gate is valid before the wire u. -/
def gOk (p : Int) (zs : List Int) (u m : Nat) : Bool :=
  decide ((gt zs m 0 = 0 ∨ gt zs m 0 = 1) ∧ (0 ≤ gt zs m 1 ∧ gt zs m 1 < u) ∧ (0 ≤ gt zs m 2 ∧ gt zs m 2 < u) ∨
    gt zs m 0 = 2 ∧ (0 ≤ gt zs m 1 ∧ gt zs m 1 < u) ∧ (0 ≤ gt zs m 2 ∧ gt zs m 2 < p) ∨
    gt zs m 0 = 3 ∧ (0 ≤ gt zs m 1 ∧ gt zs m 1 < p) ∧ gt zs m 2 = 0)
theorem dotF_add (f g s : Nat → Int) : ∀ n, dotF (fun j => f j + g j) s n = dotF f s n + dotF g s n
  | 0 => rfl
  | n + 1 => by rw [dotF, dotF, dotF, dotF_add f g s n]; grind
theorem dotF_zero (f s : Nat → Int) (n : Nat) (h : ∀ j, f j = 0) : dotF f s n = 0 := by
  induction n with
  | zero => rfl
  | succ n ih => rw [dotF, ih, h]; simp
theorem dotF_zero_r (f s : Nat → Int) (n : Nat) (h : ∀ j, s j = 0) : dotF f s n = 0 := by
  induction n with
  | zero => rfl
  | succ n ih => rw [dotF, ih, h]; simp
theorem dotF_smul (c : Int) (f s : Nat → Int) : ∀ n, dotF (fun j => c * f j) s n = c * dotF f s n
  | 0 => by simp [dotF]
  | n + 1 => by rw [dotF, dotF, dotF_smul c f s n]; grind
theorem dotF_one (f : Nat → Int) (n : Nat) : ∀ j, j < n → dotF f (nth ((List.replicate n 0).set j 1)) n = f j := by
  intro j hj
  have key : ∀ m, m ≤ n → dotF f (nth ((List.replicate n 0).set j 1)) m = if j < m then f j else 0 := by
    intro m
    induction m with
    | zero => intro _; rfl
    | succ m ih =>
      intro hm
      rw [dotF, ih (by omega), nth_set (by simp; omega)]
      by_cases e : m = j
      · subst e; rw [if_pos rfl, if_neg (by omega), if_pos (by omega)]; omega
      · rw [if_neg e, nth_rep]
        by_cases g : j < m
        · rw [if_pos g, if_pos (by omega)]; omega
        · rw [if_neg g, if_neg (by omega)]; omega
  rw [key n (Nat.le_refl _), if_pos hj]
/-- A form of degree one. -/
theorem lin_ex {p C : Int} (hC : 2 ≤ C) (zs : List Int) (n : Nat) : ∀ m, (∀ k, k < m → gOk p zs (n + k) k = true) → ∀ i, i < n + m → ∃ (c0 : Int) (f : Nat → Int),
    (nth (ads C zs n m) i ≤ 1 → ∀ vs : List Int, vs.length = n → nth (avs p zs vs m) i % p = (c0 + dotF f (nth vs) n) % p) ∧ (nth (ads C zs n m) i ≤ 0 → ∀ j, f j = 0)
  | 0, _, i, hi => by
    refine ⟨0, fun j => if i = j then 1 else 0, fun _ vs hv => ?_, fun h => ?_⟩
    · rw [avs, dot_unit _ _ i n (fun j hj => rfl), if_pos (by omega), Int.zero_add]
    · rw [ads, nth_rep1, if_pos (by omega)] at h; omega
  | m + 1, hg, i, hi => by
    have ih := lin_ex hC zs n m (fun k hk => hg k (by omega))
    by_cases e : i = n + m
    · subst e
      have hk := of_decide_eq_true (hg m (by omega))
      have hN : ∀ vs : List Int, vs.length = n → nth (avs p zs vs (m + 1)) (n + m) = aRaw zs (avs p zs vs m) m % p := fun vs hv => by
        rw [avs, nth_snoc, if_pos (by rw [avs_len, hv])]
      have hD : nth (ads C zs n (m + 1)) (n + m) = aDeg C zs (ads C zs n m) m := by
        rw [ads, nth_snoc, if_pos (by rw [ads_len])]
      rw [hD]
      have bd := ads_bd (show 1 ≤ C by omega) zs n m
      unfold aDeg
      rcases hk with ⟨hk, ha, hb⟩ | ⟨hk, ha, hb⟩ | ⟨hk, ha, hb⟩
      · obtain ⟨c1, f1, p1, q1⟩ := ih (gt zs m 1).toNat (by omega)
        obtain ⟨c2, f2, p2, q2⟩ := ih (gt zs m 2).toNat (by omega)
        have b1 := bd (gt zs m 1).toNat
        have b2 := bd (gt zs m 2).toNat
        rcases hk with hk | hk
        · refine ⟨c1 + c2, fun j => f1 j + f2 j, fun h vs hv => ?_, fun h j => ?_⟩
          · rw [if_pos hk] at h
            rw [hN vs hv]
            unfold aRaw
            rw [if_pos hk, Int.emod_emod, Int.add_emod, p1 (by omega) vs hv, p2 (by omega) vs hv, ← Int.add_emod]
            congr 1
            have := dotF_add f1 f2 (nth vs) n
            omega
          · rw [if_pos hk] at h
            show f1 j + f2 j = 0
            rw [q1 (by omega) j, q2 (by omega) j]; rfl
        · have hk0 : ¬ gt zs m 0 = 0 := by omega
          by_cases hz : nth (ads C zs n m) (gt zs m 1).toNat ≤ 0
          · refine ⟨c1 * c2, fun j => c1 * f2 j, fun h vs hv => ?_, fun h j => ?_⟩
            · rw [if_neg hk0, if_pos hk] at h
              rw [hN vs hv]
              unfold aRaw
              have h1 := p1 (by omega) vs hv
              rw [dotF_zero f1 (nth vs) n (q1 hz), Int.add_zero] at h1
              rw [if_neg hk0, if_pos hk, Int.emod_emod, Int.mul_emod, h1, p2 (by omega) vs hv, ← Int.mul_emod]
              congr 1
              rw [dotF_smul c1 f2, Int.mul_add]
            · rw [if_neg hk0, if_pos hk] at h
              show c1 * f2 j = 0
              rw [q2 (by omega) j, Int.mul_zero]
          · refine ⟨c1 * c2, fun j => c2 * f1 j, fun h vs hv => ?_, fun h j => ?_⟩
            · rw [if_neg hk0, if_pos hk] at h
              rw [hN vs hv]
              unfold aRaw
              have h2 := p2 (by omega) vs hv
              rw [dotF_zero f2 (nth vs) n (q2 (by omega)), Int.add_zero] at h2
              rw [if_neg hk0, if_pos hk, Int.emod_emod, Int.mul_emod, h2, p1 (by omega) vs hv, ← Int.mul_emod]
              congr 1
              rw [dotF_smul c2 f1, Int.add_mul, Int.mul_comm (dotF f1 (nth vs) n)]
            · rw [if_neg hk0, if_pos hk] at h
              omega
      · have hk0 : ¬ gt zs m 0 = 0 := by omega
        have hk1 : ¬ gt zs m 0 = 1 := by omega
        obtain ⟨c1, f1, p1, q1⟩ := ih (gt zs m 1).toNat (by omega)
        refine ⟨c1 * gt zs m 2, fun j => gt zs m 2 * f1 j, fun h vs hv => ?_, fun h j => ?_⟩
        · rw [if_neg hk0, if_neg hk1, if_pos hk] at h
          rw [hN vs hv]
          unfold aRaw
          rw [if_neg hk0, if_neg hk1, if_pos hk, Int.emod_emod, Int.mul_emod, p1 (by omega) vs hv, ← Int.mul_emod]
          congr 1
          rw [dotF_smul, Int.add_mul, Int.mul_comm (dotF f1 (nth vs) n)]
        · rw [if_neg hk0, if_neg hk1, if_pos hk] at h
          show gt zs m 2 * f1 j = 0
          rw [q1 (by omega) j, Int.mul_zero]
      · have hk0 : ¬ gt zs m 0 = 0 := by omega
        have hk1 : ¬ gt zs m 0 = 1 := by omega
        have hk2 : ¬ gt zs m 0 = 2 := by omega
        refine ⟨gt zs m 1, fun _ => 0, fun h vs hv => ?_, fun h j => rfl⟩
        rw [hN vs hv]
        unfold aRaw
        rw [if_neg hk0, if_neg hk1, if_neg hk2, Int.emod_emod, dotF_zero _ _ n (fun _ => rfl), Int.add_zero]
    · obtain ⟨c1, f1, p1, q1⟩ := ih i (by omega)
      refine ⟨c1, f1, fun h vs hv => ?_, fun h => ?_⟩
      · rw [ads, nth_snoc, if_neg (by rw [ads_len]; omega)] at h
        rw [avs, nth_snoc, if_neg (by rw [avs_len, hv]; omega)]
        exact p1 h vs hv
      · rw [ads, nth_snoc, if_neg (by rw [ads_len]; omega)] at h
        exact q1 h
/-- A sum of weights and inputs. -/
def wsum (f : Nat → Int) (vs : List Int) (n : Nat) : Int := dotF f (nth vs) n
/-- The form of a wire of degree one, from its values at 0 and where one input is 1. -/
theorem lin_law {p C : Int} (hp : 2 ≤ p) (hC : 2 ≤ C) (zs : List Int) (n m : Nat) (hg : ∀ k, k < m → gOk p zs (n + k) k = true) {i : Nat} (hi : i < n + m) (hd : nth (ads C zs n m) i ≤ 1) (vs : List Int) (hv : vs.length = n) :
    nth (avs p zs vs m) i % p = (nth (avs p zs (List.replicate n 0) m) i + dotF (fun j => (nth (avs p zs ((List.replicate n 0).set j 1) m) i - nth (avs p zs (List.replicate n 0) m) i) % p) (nth vs) n) % p := by
  obtain ⟨c0, f, h1, _⟩ := lin_ex hC zs n m hg i hi
  have h2 := h1 hd
  have hz := h2 (List.replicate n 0) (by simp)
  rw [show dotF f (nth (List.replicate n 0)) n = 0 from dotF_zero_r f _ n (fun j => nth_rep n j), Int.add_zero] at hz
  have he : ∀ j, j < n → (nth (avs p zs ((List.replicate n 0).set j 1) m) i - nth (avs p zs (List.replicate n 0) m) i) % p % p = f j * 1 % p := by
    intro j hj
    have h3 := h2 ((List.replicate n 0).set j 1) (by simp)
    rw [dotF_one f n j hj] at h3
    rw [Int.emod_emod, Int.sub_emod, h3, hz, ← Int.sub_emod, show c0 + f j - c0 = f j * 1 by omega]
  have h4 := dotF_mod p 1 f (fun j => (nth (avs p zs ((List.replicate n 0).set j 1) m) i - nth (avs p zs (List.replicate n 0) m) i) % p) (nth vs) 0 n he
  rw [h2 vs hv, Int.add_emod, Int.add_emod (nth (avs p zs (List.replicate n 0) m) i), hz, h4, Int.one_mul]
end Go.Proofs.Ytfichpppjpgahaa
