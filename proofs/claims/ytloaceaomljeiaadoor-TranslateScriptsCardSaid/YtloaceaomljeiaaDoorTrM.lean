/- What was told, as plain data: slots with their commands and answers; the first of each; those from 1 on; a script. No program here. -/
import Derived.Test.YtloaceaomljeiaaDoorCmT
namespace Go.Proofs.YtloaceaomljeiaaDoor.Tr
open Go.RowKit Go.Proofs.YtloaceaomljeiaaDoor.Crc Go.Proofs.YtloaceaomljeiaaDoor.Cm

/-- An answer. -/
structure An where
  client : Nat
  seq : Nat
  code : Nat
  text : List UInt8
deriving DecidableEq
/-- A slot. -/
structure Sl where
  slot : Nat
  cmds : List Cm
  ans : List An
abbrev Dn := Nat × List UInt8
/-- What was told. -/
structure Td where
  ans : List An
  done : List Dn
def partedM : List Dn → List An → List Sl
  | [], _ => []
  | d :: ds, left => ⟨d.1, (parseM d.2).1, left.take (parseM d.2).1.length⟩ :: partedM ds (left.drop (parseM d.2).1.length)
/-- How many answers the first ones take. -/
def ate : List Dn → Nat
  | [] => 0
  | d :: ds => (parseM d.2).1.length + ate ds
theorem ate_append (a b : List Dn) : ate (a ++ b) = ate a + ate b := by
  induction a with
  | nil => simp [ate]
  | cons d a ih => simp [ate, ih, Nat.add_assoc]
theorem partedM_append (a b : List Dn) (left : List An) : partedM (a ++ b) left = partedM a left ++ partedM b (left.drop (ate a)) := by
  induction a generalizing left with
  | nil => simp [partedM, ate]
  | cons d a ih => simp [partedM, ate, ih, List.drop_drop]
theorem partedM_len (a : List Dn) (left : List An) : (partedM a left).length = a.length := by
  induction a generalizing left with
  | nil => rfl
  | cons d a ih => simp [partedM, ih]
def allM (told : List Td) : List Sl := told.flatMap fun t => partedM t.done t.ans
/-- The first of a slot. -/
def findM (l : List Sl) (s : Nat) : Option Sl := l.find? fun x => decide (x.slot = s)
theorem findM_append (a b : List Sl) (s : Nat) : findM (a ++ b) s = (findM a s).or (findM b s) := by
  unfold findM; rw [List.find?_append]
theorem findM_slot {l : List Sl} {s : Nat} {x : Sl} (h : findM l s = some x) : x.slot = s := by
  unfold findM at h
  have := List.find?_some h
  simpa using this
theorem findM_mem {l : List Sl} {s : Nat} {x : Sl} (h : findM l s = some x) : x ∈ l := List.mem_of_find?_eq_some h
/-- What a log is: from 1 on, as far as there are any. -/
def LogTo (l out : List Sl) : Prop := ∀ i x, out[i]? = some x → findM l (i + 1) = some x
def LogIs (l out : List Sl) : Prop := LogTo l out ∧ findM l (out.length + 1) = none
theorem LogTo.nil (l : List Sl) : LogTo l [] := fun i x h => by simp at h
theorem LogTo.more {l out : List Sl} {x : Sl} (h : LogTo l out) (hx : findM l (out.length + 1) = some x) : LogTo l (out ++ [x]) := by
  intro i y hi
  by_cases h1 : i < out.length
  · rw [List.getElem?_append_left h1] at hi
    exact h i y hi
  · rw [List.getElem?_append_right (by omega)] at hi
    have h2 : i - out.length = 0 := by
      have := (List.getElem?_eq_some_iff.1 hi).1
      simp at this
      omega
    rw [h2] at hi
    simp at hi
    subst hi
    rw [show i = out.length by omega]
    exact hx
theorem some_long : ∀ (n : Nat) (l : List Nat), (∀ i, i < n → i + 1 ∈ l) → n ≤ l.length := by
  intro n
  induction n with
  | zero => simp
  | succ n ih =>
    intro l h
    have h1 := h n (by omega)
    have h2 := ih (l.erase (n + 1)) fun i hi => (List.mem_erase_of_ne (by omega)).2 (h i (by omega))
    rw [List.length_erase_of_mem h1] at h2
    have h3 : 0 < l.length := List.length_pos_of_mem h1
    omega
theorem LogTo.le {l out : List Sl} (h : LogTo l out) : out.length ≤ l.length := by
  have := some_long out.length (l.map (·.slot)) fun i hi => by
    have h1 := h i _ (List.getElem?_eq_getElem hi)
    exact List.mem_map.2 ⟨_, findM_mem h1, findM_slot h1⟩
  simpa using this
theorem LogIs.unique {l a b : List Sl} (h : LogIs l a) (k : LogIs l b) : a = b := by
  have key : ∀ {a b : List Sl}, LogIs l a → LogIs l b → ¬ a.length < b.length := by
    intro a b h k hlt
    have h1 := k.1 a.length _ (List.getElem?_eq_getElem hlt)
    rw [h.2] at h1
    cases h1
  have hlen : a.length = b.length := by have := key h k; have := key k h; omega
  apply List.ext_getElem? fun i => ?_
  by_cases hi : i < a.length
  · have h1 := h.1 i _ (List.getElem?_eq_getElem hi)
    have h2 := k.1 i _ (List.getElem?_eq_getElem (by omega))
    rw [h1] at h2
    rw [List.getElem?_eq_getElem hi, List.getElem?_eq_getElem (by omega)]
    exact h2
  · rw [List.getElem?_eq_none (by omega), List.getElem?_eq_none (by omega)]
/-- What there is at a place. -/
theorem partedM_get {ds : List Dn} {left : List An} {k : Nat} {d : Dn} (h : ds[k]? = some d) : partedM ds left = partedM (ds.take k) left ++ ⟨d.1, (parseM d.2).1, (left.drop (ate (ds.take k))).take (parseM d.2).1.length⟩ :: partedM (ds.drop (k + 1)) (left.drop (ate (ds.take (k + 1)))) := by
  have hlt := (List.getElem?_eq_some_iff.1 h).1
  have he := (List.getElem?_eq_some_iff.1 h).2
  have e : ds = ds.take k ++ d :: ds.drop (k + 1) := by
    rw [← he, ← List.drop_eq_getElem_cons hlt, List.take_append_drop]
  have e2 : ate (ds.take (k + 1)) = ate (ds.take k) + (parseM d.2).1.length := by
    rw [List.take_succ_eq_append_getElem hlt, ate_append, he]
    simp [ate]
  rw [e2]
  conv => lhs; rw [e]
  rw [partedM_append, partedM, List.drop_drop]
theorem allM_get {told : List Td} {i : Nat} {t : Td} (h : told[i]? = some t) : allM told = allM (told.take i) ++ (partedM t.done t.ans ++ allM (told.drop (i + 1))) := by
  have hlt := (List.getElem?_eq_some_iff.1 h).1
  have he := (List.getElem?_eq_some_iff.1 h).2
  have e : told = told.take i ++ t :: told.drop (i + 1) := by
    rw [← he, ← List.drop_eq_getElem_cons hlt, List.take_append_drop]
  conv => lhs; rw [e]
  simp [allM]
/-- A hit is the first one, where there was none ahead. -/
theorem findM_hit {told : List Td} {i k s : Nat} {t : Td} {d : Dn} (ht : told[i]? = some t) (hd : t.done[k]? = some d) (h1 : findM (allM (told.take i)) s = none) (h2 : findM (partedM (t.done.take k) t.ans) s = none) (hs : d.1 = s) :
    findM (allM told) s = some ⟨d.1, (parseM d.2).1, (t.ans.drop (ate (t.done.take k))).take (parseM d.2).1.length⟩ := by
  rw [allM_get ht, findM_append, h1, Option.none_or, findM_append, partedM_get hd, findM_append, h2, Option.none_or]
  simp [findM, hs]
theorem findM_pass {ds : List Dn} {left : List An} {k s : Nat} {d : Dn} (hd : ds[k]? = some d) (h2 : findM (partedM (ds.take k) left) s = none) (hs : d.1 ≠ s) : findM (partedM (ds.take (k + 1)) left) s = none := by
  have hlt := (List.getElem?_eq_some_iff.1 hd).1
  have h3 : (ds.take (k + 1))[k]? = some d := by rw [List.getElem?_take, if_pos (by omega)]; exact hd
  rw [partedM_get h3, findM_append, List.take_take, Nat.min_eq_left (by omega), h2, Option.none_or, (List.drop_eq_nil_of_le (by rw [List.length_take]; omega) : (ds.take (k + 1)).drop (k + 1) = [])]
  simp [findM, partedM, hs]
theorem allM_take {told : List Td} {i s : Nat} {t : Td} (ht : told[i]? = some t) (h1 : findM (allM (told.take i)) s = none) (h2 : findM (partedM t.done t.ans) s = none) : findM (allM (told.take (i + 1))) s = none := by
  have hlt := (List.getElem?_eq_some_iff.1 ht).1
  have he := (List.getElem?_eq_some_iff.1 ht).2
  rw [List.take_succ_eq_append_getElem hlt, he]
  unfold allM at h1 ⊢
  rw [List.flatMap_append, findM_append, h1, Option.none_or]
  simpa using h2

/-! ### scripts -/
/-- An entry of a script, as far as it is asked for. -/
structure En where
  kind : Nat
  r : Int
  k : Int
  cmd : Cm
def subsM (l : List En) : List Cm := (l.filter fun e => decide (e.kind = 1) && decide (Cm.Good e.cmd)).map (·.cmd)
def submitE (c : Cm) : En := ⟨1, 0, 0, c⟩
def electE (k : Nat) : En := ⟨3, 0, k, Cm.zero⟩
def takeE : En := ⟨4, 0, 0, Cm.zero⟩
/-- The place of the first one that is alike. -/
def placeM (ws : List Cm) (c : Cm) : Option Nat := ws.findIdx? fun x => decide (x = c)
def electsM (m : Nat) : List Cm → List Cm → List En
  | _, [] => []
  | ws, c :: cs => match placeM ws c with
    | none => []
    | some k => electE k :: (List.replicate (5 * m) takeE ++ electsM m (ws.eraseIdx k) cs)
def scriptM (m : Nat) (l : List En) (log : List Sl) : List En := (subsM l).map submitE ++ electsM m (subsM l) (log.flatMap (·.cmds))
end Go.Proofs.YtloaceaomljeiaaDoor.Tr
