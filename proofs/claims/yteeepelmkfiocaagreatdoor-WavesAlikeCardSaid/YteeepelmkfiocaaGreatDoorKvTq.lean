/- What a command changes, and hangs on, are its keys alone; the keys that a command touches: sorted, each once (KvApM and KvTo in one). No program here. -/
import Derived.Test.YteeepelmkfiocaaGreatDoorKvLaw
import Derived.Test.YteeepelmkfiocaaGreatDoorGenAll
import Derived.Lib.SlicesCompact
import Derived.Sort.Walk0
namespace Go.Proofs.YteeepelmkfiocaaGreatDoor.Kv
set_option linter.unusedSimpArgs false
set_option linter.unusedVariables false
set_option linter.unnecessarySimpa false
open Go.RowKit Go.Proofs.YteeepelmkfiocaaGreatDoor.Crc Go.Proofs.YteeepelmkfiocaaGreatDoor.Cm

theorem find_dels (ks : List (List UInt8)) : ∀ (m : KM) (k : List UInt8), mfind (delsM m ks) k = if k ∈ ks then none else mfind m k := by
  induction ks with
  | nil => intro m k; simp [delsM]
  | cons x ks ih =>
    intro m k
    show mfind (delsM (mdel m x) ks) k = _
    rw [ih, mfind_del]
    by_cases h1 : k ∈ ks
    · simp [h1]
    · by_cases h2 : k = x <;> simp [h1, h2]
theorem find_set (m : KM) (k : List UInt8) (o : Option (List UInt8)) (j : List UInt8) : mfind (mset m k o) j = if j = k then o else mfind m j := by
  cases o with
  | none => show mfind (mdel m k) j = _; rw [mfind_del]
  | some v =>
    show mfind (mput strK (mdel m k) k v) j = _
    rw [mfind_put, mfind_del]
    by_cases h : j = k <;> simp [h]
theorem len_del (m : KM) (k : List UInt8) (h : Rise strK m) : (mdel m k).length + (if (mfind m k).isSome then 1 else 0) = m.length := by
  induction m with
  | nil => rfl
  | cons p t ih =>
    have h1 := rise_fresh h
    have h2 : Rise strK t := List.Pairwise.of_cons h
    have h3 := ih h2
    rw [mfind_cons]
    by_cases e : p.1 = k
    · rw [if_pos e]
      rw [e] at h1
      rw [h1] at h3
      have : mdel (p :: t) k = mdel t k := by simp [mdel, e]
      rw [this]
      simp at h3 ⊢
      omega
    · rw [if_neg e]
      have : mdel (p :: t) k = p :: mdel t k := by simp [mdel, e]
      rw [this, List.length_cons, List.length_cons]
      omega
/-- How many keys go. -/
def delN (m : KM) : List (List UInt8) → Nat
  | [] => 0
  | k :: ks => (if (mfind m k).isSome then 1 else 0) + delN (mdel m k) ks
theorem delN_len (ks : List (List UInt8)) : ∀ m : KM, Rise strK m → (delsM m ks).length + delN m ks = m.length := by
  induction ks with
  | nil => intro m _; rfl
  | cons k ks ih =>
    intro m h
    have h1 := ih (mdel m k) (rise_del h)
    have h2 := len_del m k h
    show (delsM (mdel m k) ks).length + ((if (mfind m k).isSome then 1 else 0) + delN (mdel m k) ks) = _
    omega
theorem delN_local (ks : List (List UInt8)) : ∀ m m' : KM, (∀ k ∈ ks, mfind m k = mfind m' k) → delN m ks = delN m' ks := by
  induction ks with
  | nil => intro _ _ _; rfl
  | cons k ks ih =>
    intro m m' h
    show (if (mfind m k).isSome then 1 else 0) + delN (mdel m k) ks = (if (mfind m' k).isSome then 1 else 0) + delN (mdel m' k) ks
    rw [h k (by simp), ih (mdel m k) (mdel m' k) (fun j hj => by rw [mfind_del, mfind_del, h j (by simp [hj])])]
theorem join_local (ks : List (List UInt8)) (m m' : KM) (h : ∀ k ∈ ks, mfind m k = mfind m' k) : joinM m ks = joinM m' ks := by
  induction ks with
  | nil => rfl
  | cons k ks ih => simp only [joinM]; rw [h k (by simp), ih (fun j hj => h j (by simp [hj]))]
theorem keyA_mem {c : Cm} (h : Cm.Good c) : keyA c ∈ c.keys := by
  have h2 := (Good.keys h).2.1
  unfold keyA
  rw [List.getD_eq_getElem?_getD, List.getElem?_eq_getElem (by omega)]
  exact List.getElem_mem _
theorem keyB_mem {c : Cm} (h : Cm.Good c) (h6 : c.kind = 6) : keyB c ∈ c.keys := by
  have h2 : 1 < c.keys.length := by have := h.2.2.2.1; rw [h6] at this; exact this
  unfold keyB
  rw [List.getD_eq_getElem?_getD, List.getElem?_eq_getElem h2]
  exact List.getElem_mem _
theorem kind_of {c : Cm} (h : Cm.Good c) : c.kind = 1 ∨ c.kind = 2 ∨ c.kind = 3 ∨ c.kind = 4 ∨ c.kind = 5 ∨ c.kind = 6 ∨ c.kind = 7 ∨ c.kind = 8 := by
  have := h.2.1; have := h.2.2.1; omega
theorem rise_dels {m : KM} (ks : List (List UInt8)) (h : Rise strK m) : Rise strK (delsM m ks) := by
  induction ks generalizing m with
  | nil => exact h
  | cons k ks ih => exact ih (rise_del h)
theorem rise_set {m : KM} {k : List UInt8} {o : Option (List UInt8)} (h : Rise strK m) : Rise strK (mset m k o) := by
  cases o with
  | none => exact rise_del h
  | some v => exact rise_put (rise_del h)
theorem rise_do {m : KM} {c : Cm} (h : Rise strK m) : Rise strK (kvDo m c).1 := by
  unfold kvDo
  split
  · rename_i hg
    unfold doM
    split
    · exact rise_put h
    · exact h
    · exact rise_del h
    · unfold addM
      split
      · exact h
      · split
        · exact rise_put h
        · exact h
    · unfold casM
      split
      · exact h
      · split
        · exact rise_put h
        · exact h
    · exact rise_set (rise_set h)
    · exact h
    · exact rise_dels _ h
  · exact h
theorem do_frame {m : KM} {c : Cm} {k : List UInt8} (hk : k ∉ c.keys) : mfind (kvDo m c).1 k = mfind m k := by
  unfold kvDo
  split
  · rename_i hg
    have hA : k ≠ keyA c := fun e => hk (e ▸ keyA_mem hg)
    rcases kind_of hg with h | h | h | h | h | h | h | h <;> simp only [doM, h]
    · rw [mfind_put, if_neg hA]
    · rw [mfind_del, if_neg hA]
    · unfold addM
      split
      · rfl
      · split
        · simp only; rw [mfind_put, if_neg hA]
        · rfl
    · unfold casM
      split
      · rfl
      · split
        · simp only; rw [mfind_put, if_neg hA]
        · rfl
    · have hB : k ≠ keyB c := fun e => hk (e ▸ keyB_mem hg h)
      unfold swapM
      rw [find_set, if_neg hB, find_set, if_neg hA]
    · rw [find_dels, if_neg hk]
  · rfl
theorem do_local {m m' : KM} {c : Cm} (hm : Rise strK m) (hm' : Rise strK m') (h : ∀ k ∈ c.keys, mfind m k = mfind m' k) : (kvDo m c).2 = (kvDo m' c).2 ∧ ∀ k ∈ c.keys, mfind (kvDo m c).1 k = mfind (kvDo m' c).1 k := by
  unfold kvDo
  split
  · rename_i hg
    have hA := h _ (keyA_mem hg)
    rcases kind_of hg with h1 | h1 | h1 | h1 | h1 | h1 | h1 | h1 <;> simp only [doM, h1]
    · exact ⟨trivial, fun k hk => by rw [mfind_put, mfind_put, h k hk]⟩
    · unfold getM
      rw [hA]
      exact ⟨rfl, h⟩
    · unfold getM
      rw [hA]
      exact ⟨rfl, fun k hk => by rw [mfind_del, mfind_del, h k hk]⟩
    · unfold addM
      rw [hA]
      split
      · exact ⟨rfl, h⟩
      · split
        · exact ⟨rfl, fun k hk => by simp only; rw [mfind_put, mfind_put, h k hk]⟩
        · exact ⟨rfl, h⟩
    · unfold casM
      rw [hA]
      split
      · exact ⟨rfl, h⟩
      · split
        · exact ⟨rfl, fun k hk => by simp only; rw [mfind_put, mfind_put, h k hk]⟩
        · exact ⟨rfl, h⟩
    · have hB := h _ (keyB_mem hg h1)
      unfold swapM
      exact ⟨trivial, fun k hk => by rw [find_set, find_set, find_set, find_set, hA, hB, h k hk]⟩
    · exact ⟨by rw [join_local _ _ _ h], h⟩
    · refine ⟨?_, fun k hk => by rw [find_dels, find_dels, h k hk]⟩
      have e1 := delN_len c.keys m hm
      have e2 := delN_len c.keys m' hm'
      have e3 := delN_local c.keys m m' h
      rw [show (m.length : Int) - ((delsM m c.keys).length : Int) = (m'.length : Int) - ((delsM m' c.keys).length : Int) by omega]
  · exact ⟨rfl, h⟩
theorem do_apart {m : KM} {a b : Cm} (hm : Rise strK m) (hab : ∀ k ∈ b.keys, k ∉ a.keys) :
    (kvDo (kvDo m a).1 b).2 = (kvDo m b).2 ∧ (kvDo (kvDo m b).1 a).2 = (kvDo m a).2 ∧ (kvDo (kvDo m a).1 b).1 = (kvDo (kvDo m b).1 a).1 := by
  have fa : ∀ k ∈ b.keys, mfind (kvDo m a).1 k = mfind m k := fun k hk => do_frame (hab k hk)
  have fb : ∀ k ∈ a.keys, mfind (kvDo m b).1 k = mfind m k := fun k hk => do_frame (fun h => hab k h hk)
  have lb := do_local (c := b) (rise_do (c := a) hm) hm fa
  have la := do_local (c := a) (rise_do (c := b) hm) hm fb
  refine ⟨lb.1, la.1, rise_ext (rise_do (rise_do hm)) (rise_do (rise_do hm)) fun k => ?_⟩
  by_cases ha : k ∈ a.keys
  · rw [do_frame (c := b) (fun h => hab k h ha), la.2 k ha]
  · rw [do_frame (c := a) ha]
    by_cases hb : k ∈ b.keys
    · exact lb.2 k hb
    · rw [do_frame (c := b) hb, do_frame (c := a) ha, do_frame (c := b) hb]
/-- Another key's change changes nothing. -/
theorem do_other {m : KM} {c : Cm} {o v : List UInt8} (hm : Rise strK m) (ho : o ∉ c.keys) : (kvDo (mput strK m o v) c).2 = (kvDo m c).2 ∧ mfind (kvDo (mput strK m o v) c).1 o = some v ∧ mfind (kvDo m c).1 o = mfind m o := by
  refine ⟨(do_local (c := c) (rise_put hm) hm fun k hk => ?_).1, ?_, do_frame ho⟩
  · rw [mfind_put, if_neg (fun e => ho (by rw [← e]; exact hk))]
  · rw [do_frame ho, mfind_put, if_pos rfl]
end Go.Proofs.YteeepelmkfiocaaGreatDoor.Kv
namespace Go.Proofs.YteeepelmkfiocaaGreatDoor.Kv
set_option linter.unusedSimpArgs false
set_option linter.unusedVariables false
set_option linter.unnecessarySimpa false
open Go.RowKit Go.Proofs.YteeepelmkfiocaaGreatDoor.Crc Go.Proofs.YteeepelmkfiocaaGreatDoor.Cm

theorem before_less : ∀ a b : List UInt8, bytesBefore a b = Op.bytesLess a b
  | [], [] => rfl
  | [], _ :: _ => rfl
  | _ :: _, [] => rfl
  | a :: x, b :: y => by simp only [bytesBefore, Op.bytesLess, before_less x y]
theorem less_eq : ∀ x y : List UInt8, Op.bytesLess x y = decide (x < y)
  | [], [] => rfl
  | [], _ :: _ => by simp [Op.bytesLess]
  | _ :: _, [] => by simp [Op.bytesLess]
  | a :: x, b :: y => by
    simp only [Op.bytesLess, less_eq x y, List.cons_lt_cons_iff]
    by_cases h1 : a < b
    · simp [h1]
    · by_cases h2 : a = b
      · simp [h2]
      · simp [h1, h2]
theorem strK_lt (a b : List UInt8) : strK.lt a b = decide (a < b) := by
  show bytesBefore a b = _
  rw [before_less]
  exact less_eq a b
theorem lex_trans {a b c : List UInt8} (h1 : a < b) (h2 : b < c) : a < c := by
  have := strK.lt_trans (a := a) (b := b) (c := c) (by rw [strK_lt]; simpa using h1) (by rw [strK_lt]; simpa using h2)
  rw [strK_lt] at this
  simpa using this
theorem lex_total {a b : List UInt8} (h : a ≠ b) : a < b ∨ b < a := by
  have := strK.total (a := a) (b := b) (by exact h)
  rcases this with h1 | h1
  · exact .inl (by have h2 : strK.lt a b = true := h1; rw [strK_lt] at h2; simpa using h2)
  · exact .inr (by have h2 : strK.lt b a = true := h1; rw [strK_lt] at h2; simpa using h2)
theorem lex_irrefl (a : List UInt8) : ¬ a < a := fun h => by
  have := strK.lt_irrefl a
  rw [strK_lt, decide_eq_true h] at this
  cases this
theorem lex_le {a b : List UInt8} : a ≤ b ↔ (a < b ∨ a = b) := by
  constructor
  · intro h
    by_cases e : a = b
    · exact .inr e
    · rcases lex_total e with h1 | h1
      · exact .inl h1
      · exact absurd h1 (List.not_lt.2 h)
  · rintro (h | rfl)
    · exact List.le_of_lt h
    · exact List.le_refl _
/-- Strictly rising. -/
abbrev Asc (l : List (List UInt8)) : Prop := l.Pairwise (· < ·)
theorem asc_ext {a b : List (List UInt8)} (ha : Asc a) (hb : Asc b) (h : ∀ x, x ∈ a ↔ x ∈ b) : a = b := by
  have key : ∀ l : List (List UInt8), Asc l → Rise strK (l.map fun k => (k, ([] : List UInt8))) := fun l hl => by
    unfold Rise
    rw [List.pairwise_map]
    exact hl.imp fun {x y} hxy => by rw [strK_lt]; simpa using hxy
  have find : ∀ (l : List (List UInt8)) (j : List UInt8), mfind (l.map fun k => (k, ([] : List UInt8))) j = if j ∈ l then some [] else none := fun l j => by
    induction l with
    | nil => rfl
    | cons x t ih =>
      rw [List.map_cons, mfind_cons]
      by_cases e : x = j
      · subst e; simp
      · rw [if_neg e, ih]
        by_cases hj : j ∈ t
        · simp [hj]
        · rw [if_neg hj, if_neg]
          simp only [List.mem_cons, not_or]
          exact ⟨fun h => e h.symm, hj⟩
  have e := rise_ext (key a ha) (key b hb) fun k => by
    rw [find, find]
    by_cases hk : k ∈ a
    · rw [if_pos hk, if_pos ((h k).1 hk)]
    · rw [if_neg hk, if_neg (fun hb' => hk ((h k).2 hb'))]
  have := congrArg (List.map Prod.fst) e
  rw [List.map_map, List.map_map] at this
  have hid : (Prod.fst ∘ fun k : List UInt8 => (k, ([] : List UInt8))) = id := rfl
  rw [hid, List.map_id, List.map_id] at this
  exact this
def sortM (ks : List (List UInt8)) : List (List UInt8) := Lib.compact (ks.mergeSort fun x y => decide (x ≤ y))
theorem upTo_says {zs : List (List UInt8)} (hs : zs.Pairwise (· ≤ ·)) : ∀ m, m ≤ zs.length → Asc (Lib.compactUpTo zs.toArray m) ∧ (∀ x, x ∈ Lib.compactUpTo zs.toArray m ↔ ∃ j, j < m ∧ zs[j]? = some x) := by
  have get : ∀ (j : Nat) (h : j < zs.length), zs.toArray[j]! = zs[j] := fun j h => by simp [h]
  have le : ∀ (i j : Nat) (hi : i < zs.length) (hj : j < zs.length), i ≤ j → zs[i] ≤ zs[j] := fun i j hi hj hij => by
    rcases Nat.lt_or_ge i j with h | h
    · exact List.pairwise_iff_getElem.1 hs i j hi hj h
    · have : i = j := by omega
      subst this
      exact List.le_refl _
  intro m
  induction m with
  | zero => intro _; exact ⟨by simp [Lib.compactUpTo], by simp [Lib.compactUpTo]⟩
  | succ m ih =>
    intro hm
    obtain ⟨h1, h2⟩ := ih (by omega)
    rw [Lib.compactUpTo_succ]
    have hmz : zs[m]? = some zs[m] := List.getElem?_eq_getElem (by omega)
    by_cases hk : Lib.keeps zs.toArray m = true
    · rw [if_pos hk, get m (by omega)]
      refine ⟨List.pairwise_append.2 ⟨h1, by simp, fun a ha b hb => ?_⟩, fun x => ?_⟩
      · simp only [List.mem_singleton] at hb
        subst hb
        obtain ⟨j, hj, hja⟩ := (h2 a).1 ha
        obtain ⟨hjl, rfl⟩ := List.getElem?_eq_some_iff.1 hja
        simp only [Lib.keeps, decide_eq_true_eq] at hk
        rcases hk with hk | hk
        · omega
        · rw [get m (by omega), get (m - 1) (by omega)] at hk
          have q1 := le j (m - 1) hjl (by omega) (by omega)
          have q2 := le (m - 1) m (by omega) (by omega) (by omega)
          have q3 : zs[m - 1] < zs[m] := by
            rcases lex_le.1 q2 with h | h
            · exact h
            · exact absurd h.symm hk
          rcases lex_le.1 q1 with h | h
          · exact lex_trans h q3
          · rw [h]; exact q3
      · rw [List.mem_append, h2, List.mem_singleton]
        constructor
        · rintro (⟨j, hj, hx⟩ | rfl)
          · exact ⟨j, by omega, hx⟩
          · exact ⟨m, by omega, hmz⟩
        · rintro ⟨j, hj, hx⟩
          by_cases e : j = m
          · subst e; rw [hmz] at hx; cases hx; exact .inr rfl
          · exact .inl ⟨j, by omega, hx⟩
    · rw [if_neg hk, List.append_nil]
      refine ⟨h1, fun x => ?_⟩
      rw [h2]
      constructor
      · rintro ⟨j, hj, hx⟩; exact ⟨j, by omega, hx⟩
      · rintro ⟨j, hj, hx⟩
        by_cases e : j = m
        · subst e
          simp only [Lib.keeps, decide_eq_true_eq, not_or, Decidable.not_not] at hk
          rw [get j (by omega), get (j - 1) (by omega)] at hk
          refine ⟨j - 1, by omega, ?_⟩
          rw [← hx, hmz, hk.2, List.getElem?_eq_getElem (by omega)]
        · exact ⟨j, by omega, hx⟩
theorem sorted_of (ks : List (List UInt8)) : (ks.mergeSort fun x y => decide (x ≤ y)).Pairwise (· ≤ ·) := by
  have h := List.pairwise_mergeSort (le := fun x y : List UInt8 => decide (x ≤ y)) (fun a b c h1 h2 => by
    simp only [decide_eq_true_eq] at h1 h2 ⊢
    exact List.le_trans h1 h2) (fun a b => by
    simp only [Bool.or_eq_true, decide_eq_true_eq]
    exact List.le_total a b) ks
  exact h.imp fun {a b} h => by simpa using h
theorem sortM_says (ks : List (List UInt8)) : Asc (sortM ks) ∧ ∀ x, x ∈ sortM ks ↔ x ∈ ks := by
  obtain ⟨h1, h2⟩ := upTo_says (sorted_of ks) _ (Nat.le_refl _)
  refine ⟨h1, fun x => ?_⟩
  show x ∈ Lib.compactUpTo _ _ ↔ _
  rw [h2, ← List.mem_mergeSort (le := fun x y : List UInt8 => decide (x ≤ y)) (l := ks)]
  constructor
  · rintro ⟨j, -, h⟩; exact List.mem_of_getElem? h
  · intro h
    obtain ⟨j, hj⟩ := List.mem_iff_getElem?.1 h
    exact ⟨j, (List.getElem?_eq_some_iff.1 hj).1, hj⟩
/-- The document's: pairs without values. -/
def touchP (ks : List (List UInt8)) : KM := ks.foldl (fun m k => mput strK m k []) []
theorem touchP_next {ks : List (List UInt8)} {i : Nat} {k : List UInt8} (h : ks[i]? = some k) : touchP (ks.take (i + 1)) = mput strK (touchP (ks.take i)) k [] := by
  rw [List.take_add_one, h]
  unfold touchP
  rw [List.foldl_append]
  rfl
theorem fold_says (ks : List (List UInt8)) : ∀ m : KM, Rise strK m → Rise strK (ks.foldl (fun m k => mput strK m k []) m) ∧ ∀ x, (mfind (ks.foldl (fun m k => mput strK m k []) m) x).isSome = true ↔ (x ∈ ks ∨ (mfind m x).isSome = true) := by
  induction ks with
  | nil => intro m hm; exact ⟨hm, by simp⟩
  | cons k ks ih =>
    intro m hm
    obtain ⟨h1, h2⟩ := ih (mput strK m k []) (rise_put hm)
    refine ⟨h1, fun x => ?_⟩
    rw [List.foldl_cons, h2, mfind_put]
    by_cases e : x = k
    · simp [e]
    · simp [e]
theorem touchP_says (ks : List (List UInt8)) : Rise strK (touchP ks) ∧ ∀ x, (mfind (touchP ks) x).isSome = true ↔ x ∈ ks := by
  obtain ⟨h1, h2⟩ := fold_says ks [] rise_nil
  exact ⟨h1, fun x => by have h := h2 x; rw [mfind_nil] at h; unfold touchP; simpa using h⟩
theorem touchP_len (ks : List (List UInt8)) : (touchP ks).length ≤ ks.length := by
  have key : ∀ (ks : List (List UInt8)) (m : KM), (ks.foldl (fun m k => mput strK m k []) m).length ≤ m.length + ks.length := by
    intro ks
    induction ks with
    | nil => intro m; simp
    | cons k ks ih =>
      intro m
      have h1 := ih (mput strK m k [])
      have h2 := len_put_le (K := strK) (l := m) (k := k) (v := [])
      simp only [List.foldl_cons, List.length_cons]
      omega
  simpa [touchP] using key ks []
theorem mem_find {m : KM} (x : List UInt8) : x ∈ m.map (·.1) ↔ (mfind m x).isSome = true := by
  constructor
  · intro h
    obtain ⟨p, hp, rfl⟩ := List.mem_map.1 h
    obtain ⟨v, hv⟩ := mfind_of_mem hp
    rw [hv]; rfl
  · intro h
    obtain ⟨v, hv⟩ := Option.isSome_iff_exists.1 h
    exact List.mem_map.2 ⟨_, mfind_mem hv, rfl⟩
theorem touch_same (ks : List (List UInt8)) : (touchP ks).map (·.1) = sortM ks := by
  obtain ⟨h1, h2⟩ := touchP_says ks
  obtain ⟨k1, k2⟩ := sortM_says ks
  refine asc_ext ?_ k1 fun x => by rw [mem_find, h2, k2]
  show List.Pairwise _ _
  rw [List.pairwise_map]
  exact List.Pairwise.imp (fun {p q} h => by rw [strK_lt] at h; simpa using h) h1
end Go.Proofs.YteeepelmkfiocaaGreatDoor.Kv
