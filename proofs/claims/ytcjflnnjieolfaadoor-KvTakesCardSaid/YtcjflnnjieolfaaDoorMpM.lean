/- Maps as plain data: rising rows of keys and values; how such a row reads as a datum. Over any program. -/
import Derived.Test.YtcjflnnjieolfaaDoorBase
import Derived.Maps.OwnSet
import Derived.Maps.RangeWalk
namespace Go.Proofs.YtcjflnnjieolfaaDoor
open Go.WideShapes

/-- Keys of one kind, as the reader's literals. -/
structure Kys (κ : Type) where
  lit : κ → Lit
  inj : ∀ {a b : κ}, lit a = lit b → a = b
  key : ∀ a, WideAt.IsKeyLit (lit a)
  total : ∀ {a b : κ}, a ≠ b → (lit a).before (lit b) = true ∨ (lit b).before (lit a) = true
def Kys.lt {κ : Type} (K : Kys κ) (a b : κ) : Bool := (K.lit a).before (K.lit b)
theorem Kys.lt_trans {κ : Type} (K : Kys κ) {a b c : κ} (h1 : K.lt a b = true) (h2 : K.lt b c = true) : K.lt a c = true := before_trans h1 h2
theorem Kys.lt_irrefl {κ : Type} (K : Kys κ) (a : κ) : K.lt a a = false := before_irrefl _
theorem Kys.same {κ : Type} [DecidableEq κ] (K : Kys κ) (a b : κ) : (K.lit a).sameKey (K.lit b) = decide (a = b) := by
  by_cases h : a = b
  · subst h
    rw [WideAt.sameKey_self (K.key a)]
    simp
  · rw [decide_eq_false h]
    cases hs : (K.lit a).sameKey (K.lit b) with
    | false => rfl
    | true => exact absurd (K.inj (WideAt.sameKey_eq hs)) h
def Rise {κ α : Type} (K : Kys κ) (l : List (κ × α)) : Prop := l.Pairwise fun p q => K.lt p.1 q.1 = true
def mins {κ α : Type} (K : Kys κ) (x : κ × α) : List (κ × α) → List (κ × α)
  | [] => [x]
  | y :: r => if K.lt x.1 y.1 then x :: y :: r else y :: mins K x r
theorem mem_ins {κ α : Type} {K : Kys κ} {l : List (κ × α)} {x p : κ × α} : p ∈ mins K x l ↔ p = x ∨ p ∈ l := by
  induction l with
  | nil => simp [mins]
  | cons y r ih =>
    unfold mins
    split
    · simp
    · simp only [List.mem_cons, ih]
      constructor
      · rintro (h | h | h)
        · exact .inr (.inl h)
        · exact .inl h
        · exact .inr (.inr h)
      · rintro (h | h | h)
        · exact .inr (.inl h)
        · exact .inl h
        · exact .inr (.inr h)
theorem len_ins {κ α : Type} {K : Kys κ} {l : List (κ × α)} {x : κ × α} : (mins K x l).length = l.length + 1 := by
  induction l with
  | nil => rfl
  | cons y r ih =>
    unfold mins
    split <;> simp [ih]
theorem rise_ins {κ α : Type} {K : Kys κ} {l : List (κ × α)} {x : κ × α} (h : Rise K l) (hx : ∀ p ∈ l, p.1 ≠ x.1) : Rise K (mins K x l) := by
  induction l with
  | nil => simp [mins, Rise]
  | cons y r ih =>
    obtain ⟨h1, h2⟩ := List.pairwise_cons.1 h
    unfold mins
    split
    · rename_i hlt
      refine List.pairwise_cons.2 ⟨fun q hq => ?_, h⟩
      rcases List.mem_cons.1 hq with rfl | hq
      · exact hlt
      · exact K.lt_trans hlt (h1 q hq)
    · rename_i hlt
      refine List.pairwise_cons.2 ⟨fun q hq => ?_, ih h2 fun p hp => hx p (by simp [hp])⟩
      rcases mem_ins.1 hq with rfl | hq
      · rcases K.total (hx y (by simp)) with h3 | h3
        · exact h3
        · exact absurd h3 hlt
      · exact h1 q hq
theorem rise_nil {κ α : Type} {K : Kys κ} : Rise K ([] : List (κ × α)) := List.Pairwise.nil
def toD {H κ α : Type} (K : Kys κ) (dat : α → DataW H) (l : List (κ × α)) : DataW H := .map (l.map fun p => (K.lit p.1, dat p.2))
theorem insert_toD {H κ α : Type} {K : Kys κ} {l : List (κ × α)} {dat : α → DataW H} {x : κ × α} : DataW.insert (K.lit x.1, dat x.2) (l.map fun p => (K.lit p.1, dat p.2)) = (mins K x l).map fun p => (K.lit p.1, dat p.2) := by
  induction l with
  | nil => rfl
  | cons y r ih =>
    rw [List.map_cons]
    unfold DataW.insert mins Kys.lt
    split
    · rfl
    · rw [ih, List.map_cons]
theorem toD_size {H κ α : Type} {K : Kys κ} {l : List (κ × α)} {dat : α → DataW H} : Maps.size (toD K dat l) = l.length := by simp [toD, Maps.size]
section
variable {κ α : Type} [DecidableEq κ] {K : Kys κ} {l m : List (κ × α)} {k j : κ} {v : α}
def mfind (l : List (κ × α)) (k : κ) : Option α := (l.find? fun p => decide (p.1 = k)).map (·.2)
def mdel (l : List (κ × α)) (k : κ) : List (κ × α) := l.filter fun p => !decide (p.1 = k)
def mput (K : Kys κ) (l : List (κ × α)) (k : κ) (v : α) : List (κ × α) := mins K (k, v) (mdel l k)
theorem mfind_nil : mfind ([] : List (κ × α)) k = none := rfl
theorem mfind_cons (p : κ × α) : mfind (p :: l) k = if p.1 = k then some p.2 else mfind l k := by
  unfold mfind
  by_cases h : p.1 = k <;> simp [h]
theorem mfind_none (h : ∀ p ∈ l, p.1 ≠ k) : mfind l k = none := by
  induction l with
  | nil => rfl
  | cons y r ih => rw [mfind_cons, if_neg (h y (by simp)), ih fun p hp => h p (by simp [hp])]
theorem mfind_mem (h : mfind l k = some v) : (k, v) ∈ l := by
  induction l with
  | nil => cases h
  | cons y r ih =>
    rw [mfind_cons] at h
    split at h
    · cases h
      rename_i he
      subst he
      simp
    · exact List.mem_cons_of_mem _ (ih h)
theorem mfind_ins (x : κ × α) (hx : ∀ p ∈ l, p.1 ≠ x.1) : mfind (mins K x l) k = if x.1 = k then some x.2 else mfind l k := by
  induction l with
  | nil => simp only [mins, mfind_cons]
  | cons y r ih =>
    unfold mins
    split
    · rw [mfind_cons]
    · rw [mfind_cons, ih fun p hp => hx p (by simp [hp]), mfind_cons]
      by_cases h1 : y.1 = k
      · have h2 : x.1 ≠ k := fun e => hx y (by simp) (h1.trans e.symm)
        rw [if_pos h1, if_neg h2, if_pos h1]
      · rw [if_neg h1, if_neg h1]
theorem mem_del {p : κ × α} : p ∈ mdel l k ↔ p ∈ l ∧ p.1 ≠ k := by
  unfold mdel
  rw [List.mem_filter]
  simp
theorem mfind_del : mfind (mdel l k) j = if j = k then none else mfind l j := by
  by_cases h : j = k
  · subst h
    rw [if_pos rfl]
    exact mfind_none fun p hp => (mem_del.1 hp).2
  · rw [if_neg h]
    induction l with
    | nil => rfl
    | cons y r ih =>
      unfold mdel at ih ⊢
      rw [List.filter_cons]
      by_cases h1 : y.1 = k
      · rw [if_neg (by simp [h1]), ih, mfind_cons, if_neg (fun e => h (e.symm.trans h1))]
      · rw [if_pos (by simp [h1]), mfind_cons, mfind_cons, ih]
theorem mfind_put : mfind (mput K l k v) j = if j = k then some v else mfind l j := by
  unfold mput
  rw [mfind_ins _ fun p hp => (mem_del.1 hp).2, mfind_del]
  by_cases h : j = k
  · rw [if_pos h.symm, if_pos h]
  · rw [if_neg (fun e => h e.symm), if_neg h, if_neg h]
theorem rise_del (h : Rise K l) : Rise K (mdel l k) := h.filter _
theorem rise_put (h : Rise K l) : Rise K (mput K l k v) := rise_ins (rise_del h) fun _ hp => (mem_del.1 hp).2
theorem rise_fresh {p : κ × α} (h : Rise K (p :: l)) : mfind l p.1 = none := mfind_none fun q hq e => by
  have := (List.pairwise_cons.1 h).1 q hq
  rw [e, K.lt_irrefl] at this
  cases this
/-- Rows that rise are told by what they have at each key. -/
theorem rise_ext (hl : Rise K l) (hm : Rise K m) (h : ∀ k, mfind l k = mfind m k) : l = m := by
  induction l generalizing m with
  | nil =>
    cases m with
    | nil => rfl
    | cons b r =>
      have := h b.1
      rw [mfind_nil, mfind_cons, if_pos rfl] at this
      cases this
  | cons a l ih =>
    cases m with
    | nil =>
      have := h a.1
      rw [mfind_nil, mfind_cons, if_pos rfl] at this
      cases this
    | cons b m =>
      have low : ∀ {a b : κ × α} {l : List (κ × α)}, Rise K (b :: l) → K.lt a.1 b.1 = true → mfind (b :: l) a.1 = none := by
        intro a b l h hlt
        refine mfind_none fun q hq e => ?_
        have h1 : K.lt a.1 q.1 = true := by
          rcases List.mem_cons.1 hq with rfl | hq
          · exact hlt
          · exact K.lt_trans hlt ((List.pairwise_cons.1 h).1 q hq)
        rw [e, K.lt_irrefl] at h1
        cases h1
      have he : a.1 = b.1 := by
        refine Decidable.byContradiction fun hne => ?_
        rcases K.total hne with h1 | h1
        · have h2 := h a.1
          rw [low hm h1, mfind_cons, if_pos rfl] at h2
          cases h2
        · have h2 := h b.1
          rw [low hl h1, mfind_cons, if_pos rfl] at h2
          cases h2
      have hv : a.2 = b.2 := by
        have h2 := h a.1
        rw [mfind_cons, if_pos rfl, mfind_cons, if_pos he.symm] at h2
        exact Option.some.inj h2
      have hab : a = b := Prod.ext he hv
      subst hab
      congr 1
      refine ih (List.pairwise_cons.1 hl).2 (List.pairwise_cons.1 hm).2 fun k => ?_
      by_cases hk : a.1 = k
      · subst hk
        rw [rise_fresh hl, rise_fresh hm]
      · have := h k
        rwa [mfind_cons, if_neg hk, mfind_cons, if_neg hk] at this
theorem len_del_le : (mdel l k).length ≤ l.length := List.length_filter_le _ _
theorem len_put_le : (mput K l k v).length ≤ l.length + 1 := by
  unfold mput
  rw [len_ins]
  have := len_del_le (l := l) (k := k)
  omega
theorem mem_put {p : κ × α} (h : p ∈ mput K l k v) : p = (k, v) ∨ p ∈ l := by
  rcases mem_ins.1 h with h | h
  · exact .inl h
  · exact .inr (mem_del.1 h).1
/-! ### as data -/
variable {H : Type} {dat : α → DataW H}
theorem filter_toD : (l.map fun p => (K.lit p.1, dat p.2)).filter (fun p => !p.1.sameKey (K.lit k)) = (mdel l k).map fun p => (K.lit p.1, dat p.2) := by
  unfold mdel
  rw [List.filter_map]
  congr 2
  funext p
  simp only [Function.comp_apply, K.same]
theorem toD_del : (toD K dat l).del (K.lit k) = toD K dat (mdel l k) := by
  unfold toD
  simp only [DataW.del]
  rw [filter_toD]
theorem toD_put : (toD K dat l).put (K.lit k) (dat v) = toD K dat (mput K l k v) := by
  unfold toD
  simp only [DataW.put]
  rw [filter_toD]
  exact congrArg DataW.map (insert_toD (x := (k, v)))
theorem toD_find : (l.map fun p => (K.lit p.1, dat p.2)).find? (fun p => p.1.sameKey (K.lit k)) = (mfind l k).map fun v => (K.lit k, dat v) := by
  induction l with
  | nil => rfl
  | cons y r ih =>
    rw [List.map_cons, List.find?_cons, mfind_cons]
    simp only [K.same]
    by_cases h : y.1 = k
    · rw [if_pos h]; simp [h]
    · rw [if_neg h]; simpa [h] using ih
theorem toD_at {z : DataW H} : (toD K dat l).atKey (K.lit k) z = ((mfind l k).map dat).getD z := by
  unfold toD DataW.atKey
  simp only
  rw [toD_find]
  cases mfind l k <;> rfl
theorem toD_has : Maps.has (toD K dat l) (K.lit k) = (mfind l k).isSome := by
  unfold toD
  rw [Maps.has_eq]
  have h1 := toD_find (K := K) (dat := dat) (l := l) (k := k)
  cases hf : mfind l k with
  | none =>
    rw [hf] at h1
    simp only [Option.map_none, List.find?_eq_none] at h1
    simp only [Option.isSome_none, List.any_eq_false]
    exact h1
  | some v =>
    rw [hf] at h1
    have := List.find?_some h1
    have hm := List.mem_of_find?_eq_some h1
    simp only [Option.isSome_some, List.any_eq_true]
    exact ⟨_, hm, this⟩
theorem len_del_lt (h : mfind l k = some v) : (mdel l k).length < l.length := by
  unfold mdel
  rw [List.length_filter_lt_length_iff_exists]
  exact ⟨(k, v), mfind_mem h, by simp⟩
theorem sub_len (hl : Rise K l) : ∀ {m : List (κ × α)}, (∀ k v, mfind l k = some v → ∃ u, mfind m k = some u) → l.length ≤ m.length := by
  induction l with
  | nil => simp
  | cons a t ih =>
    intro m h
    obtain ⟨u, hu⟩ := h a.1 a.2 (by rw [mfind_cons, if_pos rfl])
    have h1 := ih (List.pairwise_cons.1 hl).2 (m := mdel m a.1) fun k v hv => by
      have hne : k ≠ a.1 := fun e => by rw [e, rise_fresh hl] at hv; cases hv
      obtain ⟨u, hu⟩ := h k v (by rw [mfind_cons, if_neg (fun e => hne e.symm)]; exact hv)
      exact ⟨u, by rw [mfind_del, if_neg hne]; exact hu⟩
    have h2 := len_del_lt hu
    simp only [List.length_cons]
    omega
/-- Of one length, and one has all that the other has: they are one. -/
theorem rise_eq (hl : Rise K l) (hm : Rise K m) (hlen : l.length = m.length) (h : ∀ k v, mfind l k = some v → mfind m k = some v) : l = m := by
  refine rise_ext hl hm fun k => ?_
  cases h1 : mfind l k with
  | some v => exact (h k v h1).symm
  | none =>
    cases h2 : mfind m k with
    | none => rfl
    | some u =>
      have h3 := len_del_lt h2
      have h4 := sub_len hl (m := mdel m k) fun j v hv => ⟨v, by
        have hne : j ≠ k := fun e => by rw [e, h1] at hv; cases hv
        rw [mfind_del, if_neg hne]
        exact h j v hv⟩
      omega
end
/-- Strings as keys. -/
def strK : Kys (List UInt8) where
  lit s := .string s
  inj h := by cases h; rfl
  key _ := trivial
  total {a b} h := ChangeMaps.before_total ⟨a, rfl⟩ ⟨b, rfl⟩ (fun e => h (by cases e; rfl))
/-- Numbers as keys. -/
def numK (q : IntKind) : Kys Nat where
  lit n := .int q (n : Int)
  inj h := by cases h; omega
  key _ := trivial
  total {a b} h := by
    simp only [Lit.before, decide_eq_true_eq]
    omega
end Go.Proofs.YtcjflnnjieolfaaDoor
