/- Spans of slots, as plain data: sets in order that do not touch, what adding a span makes of them, majorities. No program here. -/
import Derived.Test.YtmedpbpjjjhhiaaBase
namespace Go.Proofs.Ytmedpbpjjjhhiaa.Vot

abbrev Sp := Nat × Nat
def inb (l : List Sp) (m : Nat) : Bool := l.any fun p => decide (p.1 ≤ m) && decide (m ≤ p.2)
def inS (l : List Sp) (m : Nat) : Prop := ∃ p ∈ l, p.1 ≤ m ∧ m ≤ p.2
theorem inb_iff {l : List Sp} {m : Nat} : inb l m = true ↔ inS l m := by
  simp [inb, inS]
theorem inS_nil {m : Nat} : ¬ inS [] m := fun ⟨_, h, _⟩ => by cases h
theorem inS_cons {p : Sp} {l : List Sp} {m : Nat} : inS (p :: l) m ↔ (p.1 ≤ m ∧ m ≤ p.2) ∨ inS l m := by
  simp [inS]
theorem inS_append {a b : List Sp} {m : Nat} : inS (a ++ b) m ↔ inS a m ∨ inS b m := by
  induction a with
  | nil => simp [inS_nil]
  | cons p a ih => rw [List.cons_append, inS_cons, inS_cons, ih, or_assoc]
/-- In order, and not touching. -/
def Norm (l : List Sp) : Prop := l.Pairwise (fun p q => p.2 + 1 < q.1) ∧ ∀ p ∈ l, p.1 ≤ p.2
theorem norm_nil : Norm [] := ⟨List.Pairwise.nil, fun _ h => by cases h⟩
theorem norm_cons {p : Sp} {l : List Sp} : Norm (p :: l) ↔ p.1 ≤ p.2 ∧ (∀ q ∈ l, p.2 + 1 < q.1) ∧ Norm l := by
  unfold Norm
  rw [List.pairwise_cons]
  constructor
  · rintro ⟨⟨h1, h2⟩, h3⟩
    exact ⟨h3 p (by simp), h1, h2, fun q hq => h3 q (by simp [hq])⟩
  · rintro ⟨h1, h2, h3, h4⟩
    refine ⟨⟨h2, h3⟩, fun q hq => ?_⟩
    rcases List.mem_cons.1 hq with rfl | hq
    · exact h1
    · exact h4 q hq
theorem norm_ext {l : List Sp} (h : Norm l) : ∀ {k : List Sp}, Norm k → (∀ m, inS l m ↔ inS k m) → l = k := by
  induction l with
  | nil =>
    intro k hk he
    cases k with
    | nil => rfl
    | cons q k => exact absurd ((he q.1).2 (inS_cons.2 (.inl ⟨Nat.le_refl _, (norm_cons.1 hk).1⟩))) inS_nil
  | cons p t ih =>
    intro k hk he
    cases k with
    | nil => exact absurd ((he p.1).1 (inS_cons.2 (.inl ⟨Nat.le_refl _, (norm_cons.1 h).1⟩))) inS_nil
    | cons q k =>
      obtain ⟨h1, h2, h3⟩ := norm_cons.1 h
      obtain ⟨k1, k2, k3⟩ := norm_cons.1 hk
      have far : ∀ {p : Sp} {t : List Sp} {m : Nat}, (∀ q ∈ t, p.2 + 1 < q.1) → inS t m → p.2 + 1 < m := fun h ⟨q, hq, h5, _⟩ => by have := h q hq; omega
      have e1 : q.1 ≤ p.1 := by
        rcases inS_cons.1 ((he p.1).1 (inS_cons.2 (.inl ⟨Nat.le_refl _, h1⟩))) with h5 | h5
        · exact h5.1
        · have := far k2 h5; omega
      have e2 : p.1 ≤ q.1 := by
        rcases inS_cons.1 ((he q.1).2 (inS_cons.2 (.inl ⟨Nat.le_refl _, k1⟩))) with h5 | h5
        · exact h5.1
        · have := far h2 h5; omega
      have e3 : q.2 ≤ p.2 := by
        rcases Nat.lt_or_ge p.2 q.2 with h6 | h6
        · rcases inS_cons.1 ((he (p.2 + 1)).2 (inS_cons.2 (.inl ⟨by omega, by omega⟩))) with h5 | h5
          · omega
          · have := far h2 h5; omega
        · exact h6
      have e4 : p.2 ≤ q.2 := by
        rcases Nat.lt_or_ge q.2 p.2 with h6 | h6
        · rcases inS_cons.1 ((he (q.2 + 1)).1 (inS_cons.2 (.inl ⟨by omega, by omega⟩))) with h5 | h5
          · omega
          · have := far k2 h5; omega
        · exact h6
      have e5 : p = q := Prod.ext (by omega) (by omega)
      subst e5
      rw [ih h3 k3 fun m => ?_]
      constructor
      · intro h5
        have h6 := far h2 h5
        rcases inS_cons.1 ((he m).1 (inS_cons.2 (.inr h5))) with h7 | h7
        · omega
        · exact h7
      · intro h5
        have h6 := far k2 h5
        rcases inS_cons.1 ((he m).2 (inS_cons.2 (.inr h5))) with h7 | h7
        · omega
        · exact h7
/-- The loop of add: those that a span does not touch, and what becomes of the span. -/
def addL : List Sp → Sp → List Sp × Sp
  | [], x => ([], x)
  | y :: ys, x => if y.2 + 1 < x.1 ∨ x.2 + 1 < y.1 then (y :: (addL ys x).1, (addL ys x).2) else addL ys (min x.1 y.1, max x.2 y.2)
theorem addL_far {l : List Sp} {x : Sp} (h : ∀ p ∈ l, x.2 + 1 < p.1) : addL l x = (l, x) := by
  induction l with
  | nil => rfl
  | cons y l ih =>
    rw [addL, if_pos (.inr (h y (by simp))), ih fun p hp => h p (by simp [hp])]
structure AddSays (l : List Sp) (x : Sp) (r : List Sp × Sp) : Prop where
  lo : r.2.1 ≤ x.1
  hi : x.2 ≤ r.2.2
  above : ∀ c, c < x.1 → (∀ p ∈ l, c < p.1) → c < r.2.1
  sub : r.1.Sublist l
  far : ∀ p ∈ r.1, p.2 + 1 < r.2.1 ∨ r.2.2 + 1 < p.1
  mem : ∀ m, (inS r.1 m ∨ (r.2.1 ≤ m ∧ m ≤ r.2.2)) ↔ (inS l m ∨ (x.1 ≤ m ∧ m ≤ x.2))
  top : ∀ c, x.2 ≤ c → (∀ p ∈ l, p.2 ≤ c) → r.2.2 ≤ c
theorem addL_says {l : List Sp} (h : Norm l) : ∀ {x : Sp}, x.1 ≤ x.2 → AddSays l x (addL l x) := by
  induction l with
  | nil =>
    intro x _
    exact ⟨Nat.le_refl _, Nat.le_refl _, fun c h _ => h, List.Sublist.refl _, fun p hp => (by cases hp), fun m => Iff.rfl, fun c h _ => h⟩
  | cons y l ih =>
    intro x hx
    obtain ⟨h1, h2, h3⟩ := norm_cons.1 h
    by_cases ha : y.2 + 1 < x.1
    · have i := ih h3 hx
      rw [addL, if_pos (.inl ha)]
      refine ⟨i.lo, i.hi, fun c hc hp => i.above c hc fun p hp' => hp p (by simp [hp']), List.Sublist.cons_cons _ i.sub, fun p hp => ?_, fun m => ?_, fun c hc hp => i.top c hc fun p hp' => hp p (by simp [hp'])⟩
      · rcases List.mem_cons.1 hp with rfl | hp
        · exact .inl (i.above _ ha h2)
        · exact i.far p hp
      · rw [inS_cons, inS_cons, or_assoc, i.mem m, or_assoc]
    · by_cases hb : x.2 + 1 < y.1
      · have hf : ∀ p ∈ l, x.2 + 1 < p.1 := fun p hp => by have := h2 p hp; omega
        rw [addL, if_pos (.inr hb), addL_far hf]
        refine ⟨Nat.le_refl _, Nat.le_refl _, fun c hc _ => hc, List.Sublist.refl _, fun p hp => ?_, fun m => Iff.rfl, fun c hc _ => hc⟩
        rcases List.mem_cons.1 hp with rfl | hp
        · exact .inr hb
        · exact .inr (hf p hp)
      · have i := ih h3 (x := (min x.1 y.1, max x.2 y.2)) (by simp only; omega)
        rw [addL, if_neg (by omega)]
        have lo := i.lo; have hi := i.hi
        simp only at lo hi
        refine ⟨by omega, by omega, fun c hc hp => i.above c (by have := hp y (by simp); simp only; omega) fun p hp' => hp p (by simp [hp']), i.sub.cons _, i.far, fun m => ?_, fun c hc hp => i.top c (by have := hp y (by simp); simp only; omega) fun p hp' => hp p (by simp [hp'])⟩
        rw [i.mem m, inS_cons]
        have : (min x.1 y.1 ≤ m ∧ m ≤ max x.2 y.2) ↔ ((y.1 ≤ m ∧ m ≤ y.2) ∨ (x.1 ≤ m ∧ m ≤ x.2)) := by omega
        simp only [this]
        constructor
        · rintro (h5 | h5 | h5)
          · exact .inl (.inr h5)
          · exact .inl (.inl h5)
          · exact .inr h5
        · rintro ((h5 | h5) | h5)
          · exact .inr (.inl h5)
          · exact .inl h5
          · exact .inr (.inr h5)
def sep (p q : Sp) : Prop := p.2 + 1 < q.1 ∨ q.2 + 1 < p.1
/-- What is sorted then is in order, and has the span's slots beside. -/
theorem added {l d : List Sp} {x : Sp} (h : Norm l) (hx : x.1 ≤ x.2) (hp : d.Perm ((addL l x).1 ++ [(addL l x).2])) (hs : d.Pairwise fun p q => p.1 ≤ q.1) : Norm d ∧ ∀ m, inS d m ↔ inS l m ∨ (x.1 ≤ m ∧ m ≤ x.2) := by
  have a := addL_says h hx
  have hle : ∀ p ∈ (addL l x).1 ++ [(addL l x).2], p.1 ≤ p.2 := fun p hp => by
    rcases List.mem_append.1 hp with h1 | h1
    · exact h.2 p (a.sub.subset h1)
    · rw [List.mem_singleton.1 h1]; have := a.lo; have := a.hi; omega
  have hsep : ((addL l x).1 ++ [(addL l x).2]).Pairwise sep := by
    refine List.pairwise_append.2 ⟨(h.1.sublist a.sub).imp fun h => .inl h, List.pairwise_singleton _ _, fun p h1 q h2 => ?_⟩
    rw [List.mem_singleton.1 h2]
    exact a.far p h1
  have hsd : d.Pairwise sep := (hp.pairwise_iff fun h => h.symm).2 hsep
  refine ⟨⟨List.Pairwise.imp_of_mem (fun {p q} h1 h2 h34 => ?_) (hs.and hsd), fun p h1 => hle p (hp.mem_iff.1 h1)⟩, fun m => ?_⟩
  · have h5 := hle p (hp.mem_iff.1 h1)
    have h6 := hle q (hp.mem_iff.1 h2)
    obtain ⟨h3, h4⟩ := h34
    rcases h4 with h4 | h4
    · exact h4
    · omega
  · rw [← a.mem m]
    constructor
    · rintro ⟨p, h1, h2⟩
      rcases List.mem_append.1 (hp.mem_iff.1 h1) with h3 | h3
      · exact .inl ⟨p, h3, h2⟩
      · rw [List.mem_singleton.1 h3] at h2; exact .inr h2
    · rintro (⟨p, h1, h2⟩ | h1)
      · exact ⟨p, hp.mem_iff.2 (List.mem_append_left _ h1), h2⟩
      · exact ⟨_, hp.mem_iff.2 (List.mem_append_right _ (List.mem_singleton.2 rfl)), h1⟩
theorem added_top {l d : List Sp} {x : Sp} {c : Nat} (h : Norm l) (hx : x.1 ≤ x.2) (hp : d.Perm ((addL l x).1 ++ [(addL l x).2])) (hl : ∀ p ∈ l, p.2 ≤ c) (hc : x.2 ≤ c) : ∀ p ∈ d, p.2 ≤ c := by
  have a := addL_says h hx
  intro p h1
  rcases List.mem_append.1 (hp.mem_iff.1 h1) with h3 | h3
  · exact hl p (a.sub.subset h3)
  · rw [List.mem_singleton.1 h3]; exact a.top c hc hl
/-- What is above a number. -/
def aboveL (n : Nat) (l : List Sp) : List Sp := l.filterMap fun p => if n < p.2 then some (max p.1 (n + 1), p.2) else none
theorem aboveL_cons (n : Nat) (p : Sp) (l : List Sp) : aboveL n (p :: l) = (if n < p.2 then [(max p.1 (n + 1), p.2)] else []) ++ aboveL n l := by
  unfold aboveL
  rw [List.filterMap_cons]
  by_cases h : n < p.2 <;> simp [h]
theorem above_mem {n m : Nat} {l : List Sp} : inS (aboveL n l) m ↔ inS l m ∧ n < m := by
  induction l with
  | nil => exact ⟨fun h => absurd h inS_nil, fun h => absurd h.1 inS_nil⟩
  | cons p l ih =>
    rw [aboveL_cons, inS_append, ih, inS_cons]
    by_cases h : n < p.2
    · rw [if_pos h, inS_cons]
      have := @inS_nil m
      simp only [this, or_false]
      constructor
      · rintro (h1 | h1)
        · exact ⟨.inl ⟨by omega, h1.2⟩, by omega⟩
        · exact ⟨.inr h1.1, h1.2⟩
      · rintro ⟨h1 | h1, h2⟩
        · exact .inl ⟨by omega, h1.2⟩
        · exact .inr ⟨h1, h2⟩
    · rw [if_neg h]
      have := @inS_nil m
      simp only [this, false_or]
      constructor
      · exact fun h1 => ⟨.inr h1.1, h1.2⟩
      · rintro ⟨h1 | h1, h2⟩
        · omega
        · exact ⟨h1, h2⟩
theorem above_ge {n : Nat} {l : List Sp} {p : Sp} (h : p ∈ aboveL n l) : ∃ q ∈ l, p = (max q.1 (n + 1), q.2) ∧ n < q.2 := by
  unfold aboveL at h
  obtain ⟨q, h1, h2⟩ := List.mem_filterMap.1 h
  by_cases h3 : n < q.2
  · rw [if_pos h3] at h2
    exact ⟨q, h1, (Option.some.inj h2).symm, h3⟩
  · rw [if_neg h3] at h2; cases h2
theorem above_norm {n : Nat} {l : List Sp} (h : Norm l) : Norm (aboveL n l) := by
  induction l with
  | nil => exact norm_nil
  | cons p l ih =>
    obtain ⟨h1, h2, h3⟩ := norm_cons.1 h
    rw [aboveL_cons]
    by_cases h4 : n < p.2
    · rw [if_pos h4, List.singleton_append]
      refine norm_cons.2 ⟨by simp only; omega, fun q hq => ?_, ih h3⟩
      obtain ⟨q', h5, rfl, h6⟩ := above_ge hq
      have := h2 q' h5
      simp only; omega
    · rw [if_neg h4]
      exact ih h3
/-- The span that has a slot. -/
def findS (l : List Sp) (m : Nat) : Option Sp := l.find? fun p => decide (p.1 ≤ m) && decide (m ≤ p.2)
theorem findS_some {l : List Sp} {m : Nat} {p : Sp} (h : findS l m = some p) : p ∈ l ∧ p.1 ≤ m ∧ m ≤ p.2 := by
  have h1 := List.find?_some h
  have h2 := List.mem_of_find?_eq_some h
  simp at h1
  exact ⟨h2, h1⟩
theorem findS_none {l : List Sp} {m : Nat} (h : findS l m = none) : ¬ inS l m := by
  rintro ⟨p, h1, h2⟩
  have := List.find?_eq_none.1 h p h1
  simp at this
  omega
theorem findS_is (l : List Sp) (m : Nat) : (findS l m).isSome = inb l m := by
  unfold findS inb
  rw [Bool.eq_iff_iff]
  simp [List.find?_isSome]
/-- How many of the first n. -/
def cnt (f : Nat → Bool) : Nat → Nat
  | 0 => 0
  | n + 1 => cnt f n + if f n then 1 else 0
theorem cnt_le (f : Nat → Bool) (n : Nat) : cnt f n ≤ n := by
  induction n with
  | zero => exact Nat.le_refl _
  | succ n ih => simp only [cnt]; split <;> omega
theorem cnt_mono {f g : Nat → Bool} {n : Nat} (h : ∀ r, r < n → f r = true → g r = true) : cnt f n ≤ cnt g n := by
  induction n with
  | zero => exact Nat.le_refl _
  | succ n ih =>
    have h1 := ih fun r hr => h r (by omega)
    simp only [cnt]
    by_cases h2 : f n = true
    · rw [if_pos h2, if_pos (h n (by omega) h2)]; omega
    · rw [if_neg h2]; split <;> omega
theorem cnt_congr {f g : Nat → Bool} {n : Nat} (h : ∀ r, r < n → f r = g r) : cnt f n = cnt g n := by
  induction n with
  | zero => rfl
  | succ n ih => simp only [cnt]; rw [ih fun r hr => h r (by omega), h n (by omega)]
/-- The ends of those that have a slot. -/
def endsL (l : Nat → List Sp) (m : Nat) : Nat → List Nat
  | 0 => []
  | n + 1 => endsL l m n ++ (match findS (l n) m with | some p => [p.2] | none => [])
theorem endsL_len (l : Nat → List Sp) (m n : Nat) : (endsL l m n).length = cnt (fun r => inb (l r) m) n := by
  induction n with
  | zero => rfl
  | succ n ih =>
    simp only [endsL, cnt, List.length_append, ih, ← findS_is]
    cases findS (l n) m <;> rfl
theorem endsL_ge {l : Nat → List Sp} {m n e : Nat} (h : e ∈ endsL l m n) : m ≤ e := by
  induction n with
  | zero => cases h
  | succ n ih =>
    simp only [endsL] at h
    rcases List.mem_append.1 h with h1 | h1
    · exact ih h1
    · cases h2 : findS (l n) m with
      | none => rw [h2] at h1; cases h1
      | some p =>
        rw [h2] at h1
        rw [List.mem_singleton.1 h1]
        exact (findS_some h2).2.2
theorem endsL_cnt {l : Nat → List Sp} {m v k n : Nat} (h1 : m ≤ k) (h2 : k ≤ v) : (endsL l m n).countP (fun e => decide (v ≤ e)) ≤ cnt (fun r => inb (l r) k) n := by
  induction n with
  | zero => exact Nat.le_refl _
  | succ n ih =>
    simp only [endsL, cnt, List.countP_append]
    cases h3 : findS (l n) m with
    | none => simp only [List.countP_nil]; split <;> omega
    | some p =>
      obtain ⟨h4, h5, h6⟩ := findS_some h3
      by_cases h7 : v ≤ p.2
      · rw [if_pos (inb_iff.2 ⟨p, h4, by omega, by omega⟩)]
        have : ([p.2] : List Nat).countP (fun e => decide (v ≤ e)) ≤ 1 := List.countP_le_length
        simp only
        omega
      · have : ([p.2] : List Nat).countP (fun e => decide (v ≤ e)) = 0 := by simp; omega
        simp only [this]
        split <;> omega
/-- Of a row in order, so many are no less than one. -/
theorem sorted_count {d : List Nat} (h : d.Pairwise (· ≤ ·)) {i v : Nat} (hi : d[i]? = some v) : d.length - i ≤ d.countP fun e => decide (v ≤ e) := by
  induction d generalizing i with
  | nil => simp at hi
  | cons a d ih =>
    rw [List.pairwise_cons] at h
    cases i with
    | zero =>
      simp at hi
      subst hi
      have : (a :: d).countP (fun e => decide (a ≤ e)) = (a :: d).length := by
        rw [List.countP_eq_length]
        intro e he
        rcases List.mem_cons.1 he with rfl | he
        · simp
        · simpa using h.1 e he
      rw [this]; omega
    | succ i =>
      have := ih h.2 (by simpa using hi)
      rw [List.length_cons, List.countP_cons]
      omega
def maj (n : Nat) : Nat := n / 2 + 1
/-- Where reach comes to. -/
theorem reached {l : Nat → List Sp} {d : List Nat} {s v n : Nat} (hp : d.Perm (endsL l (s + 1) n)) (hs : d.Pairwise (· ≤ ·)) (hm : maj n ≤ d.length) (hv : d[d.length - maj n]? = some v) :
    s < v ∧ ∀ k, s < k → k ≤ v → maj n ≤ cnt (fun r => inb (l r) k) n := by
  have h1 : v ∈ d := List.mem_of_getElem? hv
  refine ⟨endsL_ge (hp.mem_iff.1 h1), fun k h2 h3 => ?_⟩
  have h4 := sorted_count hs hv
  have h5 := endsL_cnt (l := l) (n := n) (v := v) (show s + 1 ≤ k from h2) h3
  rw [← hp.countP_eq] at h5
  omega
end Go.Proofs.Ytmedpbpjjjhhiaa.Vot
