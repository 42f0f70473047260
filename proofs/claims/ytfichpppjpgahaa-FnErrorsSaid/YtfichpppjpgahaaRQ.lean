/-
  A region that draws its order, whose operations only read but for the last one, which waits for all of them: one walk of the order of the text serves every order.
-/
import Derived.Test.YtfichpppjpgahaaPlain
import Derived.Deep.QuietTactic
namespace Go.Proofs.Ytfichpppjpgahaa
set_option linter.unusedVariables false
set_option linter.unusedSimpArgs false

section
variable {P : Program} {md : Region.Mode} {l : List Oper} {o : Oper} {C : World → Prop} {Q : Exit → Act → World → Prop}

/-- The post of the front part: the last operation is still to come. -/
def LastQ (P : Program) (o : Oper) (Q : Exit → Act → World → Prop) : Exit → Act → World → Prop
  | .normal, a, w => o.wp P a w (fun a w => Q .normal a w) Q
  | e, a, w => Q e a w
theorem letsOut_last (h : LetsOut (LastQ P o Q)) : LetsOut Q := by
  obtain ⟨a, w, h⟩ := h
  exact ⟨a, w, h⟩
theorem wp_last {x : Oper} {a : Act} {w : World} {K : Act → World → Prop} (h : x.wp P a w K (LastQ P o Q)) : x.wp P a w K Q := by
  unfold Oper.wp at *
  generalize (execOp a.eval x).run P w = r at *
  cases r with
  | ok n w' =>
    cases n <;> simp only [Oper.upon] at h ⊢ <;> first | exact h | exact Calls.mono h (fun e w'' he => by cases e <;> first | exact he | exact letsOut_last he)
  | halt x w' => cases x <;> simp only [Oper.upon] at h ⊢ <;> exact h

/-- No guards; what an operation of the front part waits for stands ahead of it. -/
def frontB (l : List Oper) (o : Oper) : Bool := (List.range l.length).all fun i => match l[i]? with | some x => x.guard.isNone && x.after.all (fun e => decide (e.on < i)) | none => true
/-- What is waited for, by whatever is waited for. -/
def needs (md : Region.Mode) (l : List Oper) : Nat → List Bool → List Bool
  | 0, nd => nd
  | k + 1, nd => needs md l k (if nd.getD k false then ((l[k]?).map fun x => (x.after.toList.filter (Region.binds md)).foldl (fun nd e => nd.set e.on true) nd).getD nd else nd)
def lastB (md : Region.Mode) (l : List Oper) (o : Oper) : Bool :=
  o.guard.isNone && o.after.all (fun e => decide (e.on < l.length)) && (needs md l l.length ((o.after.toList.filter (Region.binds md)).foldl (fun nd e => nd.set e.on true) (List.replicate l.length false))).all id

def Shut (md : Region.Mode) (l : List Oper) (L : Array Bool) : Prop := ∀ k x, l[k]? = some x → L.getD k false = true → ∀ e ∈ x.after, Region.binds md e = true → L.getD e.on false = true
theorem set_good {L : Array Bool} (es : List Edge) : ∀ (nd : List Bool), (∀ j, nd.getD j false = true → L.getD j false = true) → (∀ e ∈ es, L.getD e.on false = true) →
    ∀ j, (es.foldl (fun nd e => nd.set e.on true) nd).getD j false = true → L.getD j false = true := by
  induction es with
  | nil => intro nd h _ j hj; exact h j hj
  | cons e es ih =>
    intro nd h he
    refine ih _ (fun j hj => ?_) (fun x hx => he x (List.mem_cons_of_mem _ hx))
    by_cases ej : e.on = j
    · subst ej; exact he e (List.mem_cons_self ..)
    · refine h j ?_
      simpa [List.getD_eq_getElem?_getD, List.getElem?_set, ej] using hj
theorem needs_good {L : Array Bool} (hs : Shut md l L) : ∀ k nd, (∀ j, nd.getD j false = true → L.getD j false = true) → ∀ j, (needs md l k nd).getD j false = true → L.getD j false = true := by
  intro k
  induction k with
  | zero => intro nd h j hj; exact h j hj
  | succ k ih =>
    intro nd h
    refine ih _ ?_
    split
    · rename_i hk
      cases hx : l[k]? with
      | none => simpa using h
      | some x =>
        simp only [Option.map_some, Option.getD_some]
        refine set_good _ nd h (fun e he => ?_)
        rw [List.mem_filter] at he
        exact hs k x hx (h k hk) e (by simpa using he.1) he.2
    · exact h
theorem shut_set {L : Array Bool} {i : Nat} (hs : Shut md l L) (hi : i ∈ Region.ready md l.toArray L) : Shut md l (L.setIfInBounds i true) := by
  intro k x hk hL e he hb
  by_cases ek : i = k
  · subst ek
    obtain ⟨_, y, hy, hall⟩ := mem_ready.1 hi
    have : y = x := by simpa [hk] using hy.symm
    subst this
    exact getD_set_true (hall e he hb)
  · rw [getD_set_ne false ek] at hL
    exact getD_set_true (hs k x hk hL e he hb)
theorem front_at (hf : frontB l o = true) {i : Nat} {x : Oper} (hx : l[i]? = some x) : x.guard = none ∧ ∀ e ∈ x.after, e.on < i := by
  unfold frontB at hf
  rw [List.all_eq_true] at hf
  have hi : i < l.length := (List.getElem?_eq_some_iff.1 hx).1
  have := hf i (List.mem_range.2 hi)
  simp only [hx, Bool.and_eq_true, Option.isNone_iff_eq_none, Array.all_eq_true', decide_eq_true_iff] at this
  exact this
theorem getD_size {L : Array Bool} {j : Nat} (hj : j < L.size) (d d' : Bool) : L.getD j d = L.getD j d' := by simp [hj]
theorem all_listed (hf : frontB l o = true) {L : Array Bool} (hsz : L.size = l.length) (hr : Region.ready md l.toArray L = []) : ∀ j, j < l.length → L.getD j false = true := by
  intro j
  induction j using Nat.strongRecOn with
  | ind j ih =>
    intro hj
    cases k : L.getD j false with
    | true => rfl
    | false =>
      have hx : l[j]? = some (l[j]) := List.getElem?_eq_getElem hj
      have hm : j ∈ Region.ready md l.toArray L := mem_ready.2 ⟨by rw [getD_size (by omega) true false]; exact k, l[j], by simp, fun e he hb => by
        have h1 := (front_at hf hx).2 e he
        exact ih e.on h1 (by omega)⟩
      rw [hr] at hm; cases hm
theorem push_lt {L : Array Bool} {j : Nat} (hj : j < L.size) (d : Bool) : (L.push false).getD j d = L.getD j d := by
  simp [Array.getElem?_push_lt, hj]
theorem push_eq {L : Array Bool} (d : Bool) : (L.push false).getD L.size d = false := by simp
theorem ready_front (hf : frontB l o = true) {L : Array Bool} (hsz : L.size = l.length) {i : Nat} (hi : i < l.length) : i ∈ Region.ready md (l ++ [o]).toArray (L.push false) ↔ i ∈ Region.ready md l.toArray L := by
  rw [mem_ready, mem_ready, push_lt (by omega)]
  have h1 : (l ++ [o]).toArray[i]? = l.toArray[i]? := by simp [List.getElem?_append_left hi]
  rw [h1]
  refine and_congr Iff.rfl ⟨fun ⟨x, hx, h⟩ => ⟨x, hx, fun e he hb => ?_⟩, fun ⟨x, hx, h⟩ => ⟨x, hx, fun e he hb => ?_⟩⟩
  · have := (front_at hf (by simpa using hx)).2 e he
    rw [← push_lt (by omega)]; exact h e he hb
  · have := (front_at hf (by simpa using hx)).2 e he
    rw [push_lt (by omega)]; exact h e he hb
theorem last_ready (hl : lastB md l o = true) {L : Array Bool} (hsz : L.size = l.length) (hs : Shut md l L) (h : ∀ e ∈ o.after, Region.binds md e = true → (L.push false).getD e.on false = true) : ∀ j, j < l.length → L.getD j false = true := by
  have h2 : ∀ e ∈ o.after.toList.filter (Region.binds md), L.getD e.on false = true := by
    intro e he
    rw [List.mem_filter] at he
    have := h e (by simpa using he.1) he.2
    rcases Nat.lt_trichotomy e.on L.size with k | k | k
    · rwa [push_lt k] at this
    · rw [k, push_eq] at this; cases this
    · simp [Nat.not_lt.2 (by omega : L.size + 1 ≤ e.on)] at this
  unfold lastB at hl
  simp only [Bool.and_eq_true] at hl
  have hall := hl.2
  intro j hj
  refine needs_good hs l.length ((o.after.toList.filter (Region.binds md)).foldl (fun nd e => nd.set e.on true) (List.replicate l.length false)) (set_good _ (List.replicate l.length false) (fun j hj => ?_) h2) j ?_
  · simp only [List.getD_eq_getElem?_getD, List.getElem?_replicate] at hj
    split at hj <;> cases hj
  · rw [List.all_eq_true] at hall
    have hlen : ∀ (es : List Edge) (nd : List Bool), (es.foldl (fun nd e => nd.set e.on true) nd).length = nd.length := by
      intro es
      induction es with
      | nil => intro nd; rfl
      | cons e es ih => intro nd; rw [List.foldl_cons, ih, List.length_set]
    have hlen2 : ∀ k nd, (needs md l k nd).length = nd.length := by
      intro k
      induction k with
      | zero => intro nd; rfl
      | succ k ih =>
        intro nd
        rw [needs, ih]
        split
        · cases l[k]? with
          | none => rfl
          | some x => simp [hlen]
        · rfl
    have hj2 : j < (needs md l l.length ((o.after.toList.filter (Region.binds md)).foldl (fun nd e => nd.set e.on true) (List.replicate l.length false))).length := by
      rw [hlen2, hlen, List.length_replicate]; exact hj
    have := hall _ (List.getElem_mem hj2)
    simpa [List.getD_eq_getElem?_getD, List.getElem?_eq_getElem hj2] using this
theorem none_ready (hsz' : True) {L : Array Bool} (hsz : L.size = l.length) (h : ∀ j, j < l.length → L.getD j false = true) : Region.ready md l.toArray L = [] := by
  rw [List.eq_nil_iff_forall_not_mem]
  intro j hj
  obtain ⟨h0, x, hx, _⟩ := mem_ready.1 hj
  have hlt : j < l.length := by
    have := (List.getElem?_eq_some_iff.1 (by simpa using hx)).1
    exact this
  rw [getD_size (by omega) true false, h j hlt] at h0
  cases h0
theorem wpAny_end (hl : lastB md l o = true) (hf : frontB l o = true) {L : Array Bool} {a : Act} {w : World} {fuel : Nat} (hsz : L.size = l.length) (hr : Region.ready md l.toArray L = []) (hq : LastQ P o Q .normal a w) : wpAny P md (l ++ [o]).toArray Q (fuel + 1) (L.push false) a w := by
  have hall := all_listed hf hsz hr
  have hlb := hl
  unfold lastB at hlb
  simp only [Bool.and_eq_true, Option.isNone_iff_eq_none, Array.all_eq_true', decide_eq_true_iff] at hlb
  have hg : o.guard = none := hlb.1.1
  have hon : (l ++ [o]).toArray[l.length]? = some o := by simp
  have front : ∀ i, i < l.length → i ∉ Region.ready md (l ++ [o]).toArray (L.push false) := fun i hi hm => by
    rw [ready_front hf hsz hi, hr] at hm; cases hm
  have only : ∀ i, i ∈ Region.ready md (l ++ [o]).toArray (L.push false) → i = l.length := fun i hm => by
    obtain ⟨_, x, hx, _⟩ := mem_ready.1 hm
    have hlt : i < (l ++ [o]).length := (List.getElem?_eq_some_iff.1 (by simpa using hx)).1
    simp at hlt
    rcases Nat.lt_or_ge i l.length with k | k
    · exact absurd hm (front i k)
    · omega
  have hready : (∀ e ∈ o.after, Region.binds md e = true → (L.push false).getD e.on false = true) → l.length ∈ Region.ready md (l ++ [o]).toArray (L.push false) := fun h =>
    mem_ready.2 ⟨by rw [← hsz]; exact push_eq true, o, hon, h⟩
  have hdone : ∀ (fuel : Nat) (a : Act) (w : World), Q .normal a w → wpAny P md (l ++ [o]).toArray Q fuel ((L.push false).setIfInBounds l.length true) a w := by
    have hnil : Region.ready md (l ++ [o]).toArray ((L.push false).setIfInBounds l.length true) = [] := by
      rw [List.eq_nil_iff_forall_not_mem]
      intro j hj
      obtain ⟨h0, x, hx, _⟩ := mem_ready.1 hj
      have hlt : j < (l ++ [o]).length := (List.getElem?_eq_some_iff.1 (by simpa using hx)).1
      simp at hlt
      by_cases ej : l.length = j
      · subst ej
        rw [← hsz] at h0
        simp at h0
      · rw [getD_set_ne true ej, push_lt (by omega), getD_size (by omega) true false, hall j (by omega)] at h0
        cases h0
    intro fuel a w h
    cases fuel with
    | zero => exact ⟨hnil, h⟩
    | succ fuel => exact ⟨fun _ => h, fun i hi => by rw [hnil] at hi; cases hi⟩
  refine ⟨fun h0 => ?_, fun i hi => ?_⟩
  · have hm := hready (fun e he hb => by
      have h1 := hlb.1.2 e he
      rw [push_lt (by omega)]; exact hall _ h1)
    rw [h0] at hm; cases hm
  · have ei := only i hi
    subst ei
    unfold wpOp
    simp only [hon]
    have hw : Region.wanted o (yielded (l ++ [o]).toArray a.tmps) = true := by simp [Region.wanted, hg]
    rw [if_pos hw]
    exact .inl (Oper.wp_mono (fun a w h => hdone fuel a w h) hq)
theorem wpAny_last (hl : lastB md l o = true) (hf : frontB l o = true) : ∀ (fuel : Nat) (L : Array Bool) (a : Act) (w : World), L.size = l.length → Shut md l L →
    wpAny P md l.toArray (LastQ P o Q) fuel L a w → wpAny P md (l ++ [o]).toArray Q (fuel + 1) (L.push false) a w := by
  intro fuel
  induction fuel with
  | zero => intro L a w hsz hs h; exact wpAny_end hl hf hsz h.1 h.2
  | succ fuel ih =>
    intro L a w hsz hs h
    cases hr : Region.ready md l.toArray L with
    | nil => exact wpAny_end hl hf hsz hr (h.1 hr)
    | cons x xs =>
      refine ⟨fun h0 => ?_, fun i hi => ?_⟩
      · have hx : x ∈ Region.ready md l.toArray L := by rw [hr]; exact List.mem_cons_self ..
        have hlt : x < l.length := by
          obtain ⟨_, y, hy, _⟩ := mem_ready.1 hx
          exact (List.getElem?_eq_some_iff.1 (by simpa using hy)).1
        rw [← ready_front (o := o) hf hsz hlt, h0] at hx
        cases hx
      · rcases Nat.lt_trichotomy i l.length with k | k | k
        · have hi' := (ready_front hf hsz k).1 hi
          have h2 := h.2 i hi'
          have h1 : (l ++ [o]).toArray[i]? = l.toArray[i]? := by simp [List.getElem?_append_left k]
          have hset : (L.push false).setIfInBounds i true = (L.setIfInBounds i true).push false := by
            apply Array.ext_getElem?
            intro j
            by_cases ej : i = j
            · subst ej
              rw [Array.getElem?_setIfInBounds_self_of_lt (by simp; omega), Array.getElem?_push_lt (by simp; omega)]
              simp
            · rw [Array.getElem?_setIfInBounds_ne ej, Array.getElem?_push, Array.getElem?_push, Array.getElem?_setIfInBounds_ne ej]
              simp
          rw [hset]
          unfold wpOp at h2 ⊢
          rw [h1]
          have hx : l.toArray[i]? = some l[i] := by simp [k]
          rw [hx] at h2 ⊢
          simp only at h2 ⊢
          have hg : (l[i]).guard = none := (front_at hf (List.getElem?_eq_getElem k)).1
          have hw : ∀ ops : Array Oper, Region.wanted (l[i]) (yielded ops a.tmps) = true := fun ops => by simp [Region.wanted, hg]
          rw [if_pos (hw _)] at h2 ⊢
          rcases h2 with h2 | ⟨h2, h3⟩
          · exact .inl (Oper.wp_mono (fun a w h => ih _ a w (by simpa using hsz) (shut_set hs hi') h) (wp_last h2))
          · exact .inr ⟨h2, letsOut_last h3⟩
        · subst k
          obtain ⟨_, y, hy, hall⟩ := mem_ready.1 hi
          have : y = o := by simpa using hy.symm
          subst this
          have := none_ready (md := md) trivial hsz (last_ready hl hsz hs hall)
          rw [hr] at this; cases this
        · obtain ⟨_, y, hy, _⟩ := mem_ready.1 hi
          have hlt : i < (l ++ [o]).length := (List.getElem?_eq_some_iff.1 (by simpa using hy)).1
          simp at hlt; omega
/-- The law: a region that draws its order, written out. -/
theorem wp_region_last {id : Nat} {a : Act} {w : World} (hm : P.follows .mixedOrders = true) (hB : Region.lexB .any l.toArray = true) (hf : frontB l o = true) (hl : lastB .any l o = true)
    (h : wpQuiet P l.toArray (fun w' => ∃ n, w' = w.drewN n) (fun a' => ∀ w', (∃ n, w' = w.drewN n) → o.wp P a' w' (fun a w => Q .normal a w) Q) l a) : (Code.region id (l ++ [o]).toArray true).wp P Q a w := by
  simp only [Region.lexB, Bool.and_eq_true] at hB
  refine wp_region_any hm ?_
  have h1 := wpAny_of_quiet (P := P) (md := .any) (ops := l.toArray) (C := fun w' => ∃ n, w' = w.drewN n) (Q := fun a' => ∀ w', (∃ n, w' = w.drewN n) → o.wp P a' w' (fun a w => Q .normal a w) Q) (Q' := LastQ P o Q) (fun a w' hw' h => h w' hw') l.length (Array.replicate l.length false) a { w with drawn := w.drawn + 1 } ⟨1, rfl⟩ (by
    have := wpAnyQ_lex (P := P) (C := fun w' => ∃ n, w' = w.drewN n) (md := .any) hB.1 l 0 (Array.replicate l.length false) a (by simp) (by simpa using hB.2) h
    simpa using this)
  have h2 := wpAny_last hl hf l.length _ a _ (by simp) (fun k x hk hL => by
    have hlt := (List.getElem?_eq_some_iff.1 hk).1
    have e0 : (Array.replicate l.length false).getD k false = false := by simp [hlt]
    rw [e0] at hL; cases hL) h1
  have e : (Array.replicate l.length false).push false = Array.replicate (l ++ [o]).toArray.size false := by
    simp [Array.replicate_succ]
  rw [e] at h2
  simpa using h2
/-- The same, for a list as it stands. -/
theorem wp_region_last_lit {id : Nat} {a : Act} {w : World} {L : List Oper} (hne : L ≠ []) (hm : P.follows .mixedOrders = true) (hB : Region.lexB .any L.dropLast.toArray = true) (hf : frontB L.dropLast (L.getLast hne) = true) (hl : lastB .any L.dropLast (L.getLast hne) = true)
    (h : wpQuiet P L.dropLast.toArray (fun w' => ∃ n, w' = w.drewN n) (fun a' => ∀ w', (∃ n, w' = w.drewN n) → (L.getLast hne).wp P a' w' (fun a w => Q .normal a w) Q) L.dropLast a) : (Code.region id L.toArray true).wp P Q a w := by
  have := wp_region_last (id := id) hm hB hf hl h
  rwa [List.dropLast_concat_getLast] at this
end
end Go.Proofs.Ytfichpppjpgahaa
