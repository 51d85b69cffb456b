/- CmT, TrM, KvMo, KvLaw, AuP, AuQ, AuR in one text. -/
import Derived.Test.YtfmaflaoplkdbaaGreatDoorVarAll
import Derived.Test.YtfmaflaoplkdbaaGreatDoorCmM
import Derived.Test.YtfmaflaoplkdbaaGreatDoorGenAll
import Derived.Laws.Closers25b
import Derived.Lib.ParseIntB
import Derived.Lib.ItoaNum
import Derived.Lib.ItoaLen
set_option linter.unusedSimpArgs false
set_option linter.unusedVariables false
set_option linter.unnecessarySimpa false
namespace Go.Proofs.YtfmaflaoplkdbaaGreatDoor.Cm
open Go.RowKit Go.Proofs.YtfmaflaoplkdbaaGreatDoor.Crc Go.Proofs.YtfmaflaoplkdbaaGreatDoor.Var

abbrev St := Int × List UInt8
/-- So many texts, one behind the other. -/
def textsM (lim : Nat) : Nat → St → List (List UInt8) × St
  | 0, s => ([], s)
  | k + 1, s => ((textsM lim k s).1 ++ [(textM lim (textsM lim k s).2).1], (textM lim (textsM lim k s).2).2)
theorem textsM_len (lim k : Nat) (s : St) : (textsM lim k s).1.length = k := by
  induction k with
  | zero => rfl
  | succ k ih => simp [textsM, ih]
theorem textM_len (lim : Nat) (s : St) : (textM lim s).1.length ≤ lim := by
  unfold textM
  split
  · simp
  · split
    · simp
    · split
      · simp
      · simp; omega
theorem textM_left (lim : Nat) (s : St) : (textM lim s).2.2.length ≤ s.2.length := by
  have := uintM_len s
  unfold textM
  split
  · exact this
  · split
    · exact this
    · split
      · exact this
      · simp; omega
theorem textsM_left (lim k : Nat) (s : St) : (textsM lim k s).2.2.length ≤ s.2.length := by
  induction k with
  | zero => exact Nat.le_refl _
  | succ k ih => exact Nat.le_trans (textM_left _ _) ih
theorem textsM_lens (lim k : Nat) (s : St) : ∀ t ∈ (textsM lim k s).1, t.length ≤ lim := by
  induction k with
  | zero => simp [textsM]
  | succ k ih =>
    intro t ht
    simp only [textsM, List.mem_append, List.mem_singleton] at ht
    rcases ht with ht | rfl
    · exact ih t ht
    · exact textM_len _ _
/-- The heads' numbers. -/
structure Heads where
  client : Nat
  seq : Nat
  kind : Nat
  n : Nat
  s : St
def headsM (s : St) : Heads :=
  let a := uintM s
  let b := uintM a.2
  let c := uintM b.2
  let d := uintM c.2
  ⟨a.1, b.1, c.1, d.1, d.2⟩
def Heads.ok (h : Heads) : Bool := decide (h.client ≤ 4294967295) && decide (h.seq ≤ 4294967295) && decide (h.kind ≤ 255) && decide (h.n ≤ 16)
/-- What is behind the heads. -/
def tailM (lim : Nat) (h : Heads) : Cm × St :=
  let ks := textsM lim h.n h.s
  let a := textM lim ks.2
  let b := textM lim a.2
  let c := uintM b.2
  (⟨h.client, h.seq, h.kind, ks.1, a.1, b.1, intV c.1⟩, c.2)
/-- take. -/
def takeM (lim : Nat) (s : St) : Cm × Bool × St := if (headsM s).ok then ((tailM lim (headsM s)).1, true, (tailM lim (headsM s)).2) else (Cm.zero, false, (headsM s).s)
/-- The end of a batch. -/
def endM (out : List Cm) (s : St) : List Cm × Int := if s.1 ≠ 0 then ([], s.1) else if (doneM s).1 ≠ 0 then ([], 11) else (out, 0)
/-- So many commands more. -/
def goM : Nat → List Cm → St → List Cm × Int
  | 0, out, s => endM out s
  | k + 1, out, s => if s.1 ≠ 0 then endM out s else if (takeM 64 s).2.2.1 = 0 ∧ ((takeM 64 s).2.1 = false ∨ ¬ Good (takeM 64 s).1) then ([], 11) else goM k (out ++ [(takeM 64 s).1]) (takeM 64 s).2.2
/-- Parse. -/
def parseM (b : List UInt8) : List Cm × Int :=
  if (uintM (0, b)).1 ≤ 8 then goM (uintM (0, b)).1 [] (uintM (0, b)).2 else if (uintM (0, b)).2.1 ≠ 0 then ([], (uintM (0, b)).2.1) else ([], 11)
theorem headsM_left (s : St) : (headsM s).s.2.length ≤ s.2.length := by
  unfold headsM
  exact Nat.le_trans (uintM_len _) (Nat.le_trans (uintM_len _) (Nat.le_trans (uintM_len _) (uintM_len _)))
theorem tailM_left (lim : Nat) (h : Heads) : (tailM lim h).2.2.length ≤ h.s.2.length := by
  unfold tailM
  exact Nat.le_trans (uintM_len _) (Nat.le_trans (textM_left _ _) (Nat.le_trans (textM_left _ _) (textsM_left _ _ _)))
theorem takeM_left (lim : Nat) (s : St) : (takeM lim s).2.2.2.length ≤ s.2.length := by
  unfold takeM
  split
  · exact Nat.le_trans (tailM_left _ _) (headsM_left _)
  · exact headsM_left _
theorem goM_says (k : Nat) : ∀ (out : List Cm) (s : St), out.length + k ≤ 8 → (s.1 = 0 → ∀ c ∈ out, Good c) → (goM k out s).1.length ≤ 8 ∧ ∀ c ∈ (goM k out s).1, Good c := by
  have hend : ∀ (out : List Cm) (s : St), out.length ≤ 8 → (s.1 = 0 → ∀ c ∈ out, Good c) → (endM out s).1.length ≤ 8 ∧ ∀ c ∈ (endM out s).1, Good c := by
    intro out s h1 h2
    unfold endM
    split
    · simp
    · split
      · simp
      · rename_i h _
        exact ⟨h1, h2 (by simpa using h)⟩
  induction k with
  | zero => exact fun out s h1 h2 => hend out s (by omega) h2
  | succ k ih =>
    intro out s h1 h2
    unfold goM
    split
    · exact hend out s (by omega) h2
    · rename_i h0
      split
      · simp
      · rename_i h3
        refine ih _ _ (by simp; omega) fun h4 c hc => ?_
        rcases List.mem_append.1 hc with h5 | h5
        · exact h2 (by simpa using h0) c h5
        · simp at h5
          subst h5
          exact Decidable.byContradiction fun h6 => h3 ⟨h4, .inr h6⟩
/-- What is parsed may be, and is no more than 8. -/
theorem parseM_says (b : List UInt8) : (parseM b).1.length ≤ 8 ∧ ∀ c ∈ (parseM b).1, Good c := by
  unfold parseM
  split
  · exact goM_says _ _ _ (by simpa) (by simp)
  · split <;> simp
theorem bits_i64 (op : BinOp) (a b : Int) : -9223372036854775808 ≤ Go.bits op .i64 a b ∧ Go.bits op .i64 a b ≤ 9223372036854775807 :=
  ⟨bits_lo_i64 op a b, bits_hi_i64 op a b⟩
theorem intV_in (n : Nat) : -9223372036854775808 ≤ intV n ∧ intV n ≤ 9223372036854775807 := bits_i64 _ _ _
theorem tailM_fits {h : Heads} (hk : h.ok = true) : (tailM 64 h).1.Fits := by
  unfold Heads.ok at hk
  simp only [Bool.and_eq_true, decide_eq_true_eq] at hk
  obtain ⟨⟨⟨h1, h2⟩, h3⟩, h4⟩ := hk
  have i := intV_in (uintM (textM 64 (textM 64 (textsM 64 h.n h.s).2).2).2).1
  refine ⟨by simp only [tailM]; omega, by simp only [tailM]; omega, by simp only [tailM]; omega, i.1, i.2, ?_, ?_, ?_, ?_⟩
  · simp only [tailM, textsM_len]; omega
  · exact Nat.le_trans (textM_len _ _) (by decide)
  · exact Nat.le_trans (textM_len _ _) (by decide)
  · exact fun k hk => Nat.le_trans (textsM_lens _ _ _ k hk) (by decide)
theorem zero_fits : Cm.zero.Fits := ⟨by decide, by decide, by decide, by decide, by decide, by decide, by decide, by decide, by simp [Cm.zero]⟩
theorem takeM_fits (s : St) : (takeM 64 s).1.Fits := by
  unfold takeM
  split
  · rename_i h; exact tailM_fits h
  · exact zero_fits
end Go.Proofs.YtfmaflaoplkdbaaGreatDoor.Cm
namespace Go.Proofs.YtfmaflaoplkdbaaGreatDoor.Tr
open Go.RowKit Go.Proofs.YtfmaflaoplkdbaaGreatDoor.Crc Go.Proofs.YtfmaflaoplkdbaaGreatDoor.Cm

/-- An answer. -/
structure An where
  client : Nat
  seq : Nat
  code : Nat
  text : List UInt8
deriving DecidableEq
/-- A slot. -/
structure Sl where
  slot : Nat
  cmds : List Cm
  ans : List An
abbrev Dn := Nat × List UInt8
/-- What was told. -/
structure Td where
  ans : List An
  done : List Dn
def partedM : List Dn → List An → List Sl
  | [], _ => []
  | d :: ds, left => ⟨d.1, (parseM d.2).1, left.take (parseM d.2).1.length⟩ :: partedM ds (left.drop (parseM d.2).1.length)
/-- How many answers the first ones take. -/
def ate : List Dn → Nat
  | [] => 0
  | d :: ds => (parseM d.2).1.length + ate ds
theorem ate_append (a b : List Dn) : ate (a ++ b) = ate a + ate b := by
  induction a with
  | nil => simp [ate]
  | cons d a ih => simp [ate, ih, Nat.add_assoc]
theorem partedM_append (a b : List Dn) (left : List An) : partedM (a ++ b) left = partedM a left ++ partedM b (left.drop (ate a)) := by
  induction a generalizing left with
  | nil => simp [partedM, ate]
  | cons d a ih => simp [partedM, ate, ih, List.drop_drop]
theorem partedM_len (a : List Dn) (left : List An) : (partedM a left).length = a.length := by
  induction a generalizing left with
  | nil => rfl
  | cons d a ih => simp [partedM, ih]
def allM (told : List Td) : List Sl := told.flatMap fun t => partedM t.done t.ans
/-- The first of a slot. -/
def findM (l : List Sl) (s : Nat) : Option Sl := l.find? fun x => decide (x.slot = s)
theorem findM_append (a b : List Sl) (s : Nat) : findM (a ++ b) s = (findM a s).or (findM b s) := by
  unfold findM; rw [List.find?_append]
theorem findM_slot {l : List Sl} {s : Nat} {x : Sl} (h : findM l s = some x) : x.slot = s := by
  unfold findM at h
  have := List.find?_some h
  simpa using this
theorem findM_mem {l : List Sl} {s : Nat} {x : Sl} (h : findM l s = some x) : x ∈ l := List.mem_of_find?_eq_some h
/-- What a log is: from 1 on, as far as there are any. -/
def LogTo (l out : List Sl) : Prop := ∀ i x, out[i]? = some x → findM l (i + 1) = some x
def LogIs (l out : List Sl) : Prop := LogTo l out ∧ findM l (out.length + 1) = none
theorem LogTo.nil (l : List Sl) : LogTo l [] := fun i x h => by simp at h
theorem LogTo.more {l out : List Sl} {x : Sl} (h : LogTo l out) (hx : findM l (out.length + 1) = some x) : LogTo l (out ++ [x]) := by
  intro i y hi
  by_cases h1 : i < out.length
  · rw [List.getElem?_append_left h1] at hi
    exact h i y hi
  · rw [List.getElem?_append_right (by omega)] at hi
    have h2 : i - out.length = 0 := by
      have := (List.getElem?_eq_some_iff.1 hi).1
      simp at this
      omega
    rw [h2] at hi
    simp at hi
    subst hi
    rw [show i = out.length by omega]
    exact hx
theorem some_long : ∀ (n : Nat) (l : List Nat), (∀ i, i < n → i + 1 ∈ l) → n ≤ l.length := by
  intro n
  induction n with
  | zero => simp
  | succ n ih =>
    intro l h
    have h1 := h n (by omega)
    have h2 := ih (l.erase (n + 1)) fun i hi => (List.mem_erase_of_ne (by omega)).2 (h i (by omega))
    rw [List.length_erase_of_mem h1] at h2
    have h3 : 0 < l.length := List.length_pos_of_mem h1
    omega
theorem LogTo.le {l out : List Sl} (h : LogTo l out) : out.length ≤ l.length := by
  have := some_long out.length (l.map (·.slot)) fun i hi => by
    have h1 := h i _ (List.getElem?_eq_getElem hi)
    exact List.mem_map.2 ⟨_, findM_mem h1, findM_slot h1⟩
  simpa using this
theorem LogIs.unique {l a b : List Sl} (h : LogIs l a) (k : LogIs l b) : a = b := by
  have key : ∀ {a b : List Sl}, LogIs l a → LogIs l b → ¬ a.length < b.length := by
    intro a b h k hlt
    have h1 := k.1 a.length _ (List.getElem?_eq_getElem hlt)
    rw [h.2] at h1
    cases h1
  have hlen : a.length = b.length := by have := key h k; have := key k h; omega
  apply List.ext_getElem? fun i => ?_
  by_cases hi : i < a.length
  · have h1 := h.1 i _ (List.getElem?_eq_getElem hi)
    have h2 := k.1 i _ (List.getElem?_eq_getElem (by omega))
    rw [h1] at h2
    rw [List.getElem?_eq_getElem hi, List.getElem?_eq_getElem (by omega)]
    exact h2
  · rw [List.getElem?_eq_none (by omega), List.getElem?_eq_none (by omega)]
/-- What there is at a place. -/
theorem partedM_get {ds : List Dn} {left : List An} {k : Nat} {d : Dn} (h : ds[k]? = some d) : partedM ds left = partedM (ds.take k) left ++ ⟨d.1, (parseM d.2).1, (left.drop (ate (ds.take k))).take (parseM d.2).1.length⟩ :: partedM (ds.drop (k + 1)) (left.drop (ate (ds.take (k + 1)))) := by
  have hlt := (List.getElem?_eq_some_iff.1 h).1
  have he := (List.getElem?_eq_some_iff.1 h).2
  have e : ds = ds.take k ++ d :: ds.drop (k + 1) := by
    rw [← he, ← List.drop_eq_getElem_cons hlt, List.take_append_drop]
  have e2 : ate (ds.take (k + 1)) = ate (ds.take k) + (parseM d.2).1.length := by
    rw [List.take_succ_eq_append_getElem hlt, ate_append, he]
    simp [ate]
  rw [e2]
  conv => lhs; rw [e]
  rw [partedM_append, partedM, List.drop_drop]
theorem allM_get {told : List Td} {i : Nat} {t : Td} (h : told[i]? = some t) : allM told = allM (told.take i) ++ (partedM t.done t.ans ++ allM (told.drop (i + 1))) := by
  have hlt := (List.getElem?_eq_some_iff.1 h).1
  have he := (List.getElem?_eq_some_iff.1 h).2
  have e : told = told.take i ++ t :: told.drop (i + 1) := by
    rw [← he, ← List.drop_eq_getElem_cons hlt, List.take_append_drop]
  conv => lhs; rw [e]
  simp [allM]
/-- A hit is the first one, where there was none ahead. -/
theorem findM_hit {told : List Td} {i k s : Nat} {t : Td} {d : Dn} (ht : told[i]? = some t) (hd : t.done[k]? = some d) (h1 : findM (allM (told.take i)) s = none) (h2 : findM (partedM (t.done.take k) t.ans) s = none) (hs : d.1 = s) :
    findM (allM told) s = some ⟨d.1, (parseM d.2).1, (t.ans.drop (ate (t.done.take k))).take (parseM d.2).1.length⟩ := by
  rw [allM_get ht, findM_append, h1, Option.none_or, findM_append, partedM_get hd, findM_append, h2, Option.none_or]
  simp [findM, hs]
theorem findM_pass {ds : List Dn} {left : List An} {k s : Nat} {d : Dn} (hd : ds[k]? = some d) (h2 : findM (partedM (ds.take k) left) s = none) (hs : d.1 ≠ s) : findM (partedM (ds.take (k + 1)) left) s = none := by
  have hlt := (List.getElem?_eq_some_iff.1 hd).1
  have h3 : (ds.take (k + 1))[k]? = some d := by rw [List.getElem?_take, if_pos (by omega)]; exact hd
  rw [partedM_get h3, findM_append, List.take_take, Nat.min_eq_left (by omega), h2, Option.none_or, (List.drop_eq_nil_of_le (by rw [List.length_take]; omega) : (ds.take (k + 1)).drop (k + 1) = [])]
  simp [findM, partedM, hs]
theorem allM_take {told : List Td} {i s : Nat} {t : Td} (ht : told[i]? = some t) (h1 : findM (allM (told.take i)) s = none) (h2 : findM (partedM t.done t.ans) s = none) : findM (allM (told.take (i + 1))) s = none := by
  have hlt := (List.getElem?_eq_some_iff.1 ht).1
  have he := (List.getElem?_eq_some_iff.1 ht).2
  rw [List.take_succ_eq_append_getElem hlt, he]
  unfold allM at h1 ⊢
  rw [List.flatMap_append, findM_append, h1, Option.none_or]
  simpa using h2

/-! ### scripts -/
/-- An entry of a script, as far as it is asked for. -/
structure En where
  kind : Nat
  r : Int
  k : Int
  cmd : Cm
def subsM (l : List En) : List Cm := (l.filter fun e => decide (e.kind = 1) && decide (Cm.Good e.cmd)).map (·.cmd)
def submitE (c : Cm) : En := ⟨1, 0, 0, c⟩
def electE (k : Nat) : En := ⟨3, 0, k, Cm.zero⟩
def takeE : En := ⟨4, 0, 0, Cm.zero⟩
/-- The place of the first one that is alike. -/
def placeM (ws : List Cm) (c : Cm) : Option Nat := ws.findIdx? fun x => decide (x = c)
def electsM (m : Nat) : List Cm → List Cm → List En
  | _, [] => []
  | ws, c :: cs => match placeM ws c with
    | none => []
    | some k => electE k :: (List.replicate (5 * m) takeE ++ electsM m (ws.eraseIdx k) cs)
def scriptM (m : Nat) (l : List En) (log : List Sl) : List En := (subsM l).map submitE ++ electsM m (subsM l) (log.flatMap (·.cmds))
end Go.Proofs.YtfmaflaoplkdbaaGreatDoor.Tr
namespace Go.Proofs.YtfmaflaoplkdbaaGreatDoor.Kv
open Go.RowKit Go.Proofs.YtfmaflaoplkdbaaGreatDoor.Crc Go.Proofs.YtfmaflaoplkdbaaGreatDoor.Cm

/-- A reply. -/
structure Rp where
  code : Nat
  text : List UInt8
deriving DecidableEq
abbrev KM := List (List UInt8 × List UInt8)
def keyA (c : Cm) : List UInt8 := c.keys.getD 0 []
def keyB (c : Cm) : List UInt8 := c.keys.getD 1 []
/-- The number that a text is, in its own digits. -/
def numM (v : List UInt8) : Option Int := match Lib.parseIntB 64 v with
  | .ok n => if Lib.itoa n = v then some n else none
  | _ => none
def fits (n : Int) : Bool := decide (-9223372036854775808 ≤ n) && decide (n ≤ 9223372036854775807)
def mset (m : KM) (k : List UInt8) : Option (List UInt8) → KM
  | none => mdel m k
  | some v => mput strK (mdel m k) k v
def joinM (m : KM) : List (List UInt8) → List UInt8
  | [] => []
  | k :: ks => (mfind m k).getD [] ++ [44] ++ joinM m ks
def delsM (m : KM) (ks : List (List UInt8)) : KM := ks.foldl mdel m
def getM (m : KM) (k : List UInt8) : Rp := match mfind m k with
  | none => ⟨1, []⟩
  | some v => ⟨0, v⟩
def addM (m : KM) (k : List UInt8) (z : Int) : KM × Rp := match numM ((mfind m k).getD [48]) with
  | none => (m, ⟨2, []⟩)
  | some n => if fits (n + z) then (mput strK m k (Lib.itoa (n + z)), ⟨0, Lib.itoa (n + z)⟩) else (m, ⟨2, []⟩)
def casM (m : KM) (k old new : List UInt8) : KM × Rp := match mfind m k with
  | none => (m, ⟨1, []⟩)
  | some v => if v = old then (mput strK m k new, ⟨0, []⟩) else (m, ⟨2, []⟩)
def swapM (m : KM) (a b : List UInt8) : KM := mset (mset m a (mfind m b)) b (mfind m a)
/-- What a command does that may be. -/
def doM (m : KM) (c : Cm) : KM × Rp :=
  match c.kind with
  | 1 => (mput strK m (keyA c) c.new, ⟨0, []⟩)
  | 2 => (m, getM m (keyA c))
  | 3 => (mdel m (keyA c), getM m (keyA c))
  | 4 => addM m (keyA c) c.n
  | 5 => casM m (keyA c) c.old c.new
  | 6 => (swapM m (keyA c) (keyB c), ⟨0, []⟩)
  | 7 => (m, ⟨0, joinM m c.keys⟩)
  | _ => (delsM m c.keys, ⟨0, Lib.itoa ((m.length : Int) - ((delsM m c.keys).length : Int))⟩)
def kvDo (m : KM) (c : Cm) : KM × Rp := if Cm.Good c then doM m c else (m, ⟨2, []⟩)

/-! ### what a state has is no longer than what commands bring -/
def KvOk (m : KM) : Prop := Rise strK m ∧ ∀ p ∈ m, p.1.length ≤ 32 ∧ p.2.length ≤ 64
theorem KvOk.nil : KvOk [] := ⟨rise_nil, by simp⟩
theorem KvOk.put {m : KM} {k v : List UInt8} (h : KvOk m) (hk : k.length ≤ 32) (hv : v.length ≤ 64) : KvOk (mput strK m k v) :=
  ⟨rise_put h.1, fun p hp => by
    rcases mem_put hp with rfl | hp
    · exact ⟨hk, hv⟩
    · exact h.2 p hp⟩
theorem KvOk.del {m : KM} (h : KvOk m) (k : List UInt8) : KvOk (mdel m k) := ⟨rise_del h.1, fun p hp => h.2 p (mem_del.1 hp).1⟩
theorem KvOk.dels {m : KM} (h : KvOk m) (ks : List (List UInt8)) : KvOk (delsM m ks) := by
  induction ks generalizing m with
  | nil => exact h
  | cons k ks ih => exact ih (h.del k)
theorem KvOk.find {m : KM} {k v : List UInt8} (h : KvOk m) (hf : mfind m k = some v) : v.length ≤ 64 := (h.2 _ (mfind_mem hf)).2
theorem KvOk.set {m : KM} {k : List UInt8} {o : Option (List UInt8)} (h : KvOk m) (hk : k.length ≤ 32) (hv : ∀ v, o = some v → v.length ≤ 64) : KvOk (mset m k o) := by
  cases o with
  | none => exact h.del k
  | some v => exact (h.del k).put hk (hv v rfl)

/-! ### sessions and applications -/
/-- A client's last number, and what was told. -/
structure La where
  seq : Nat
  r : Rp
deriving DecidableEq
abbrev TM := List (Nat × La)
abbrev cliK : Kys Nat := numK .u32
def lookM (t : TM) (client seq : Nat) : Rp × Nat := match mfind t client with
  | none => (⟨0, []⟩, 0)
  | some x => if x.seq < seq then (⟨0, []⟩, 0) else if seq = x.seq then (x.r, 1) else (⟨3, []⟩, 2)
structure Ap where
  m : KM
  t : TM
  n : Nat
def ap0 : Ap := ⟨[], [], 0⟩
def apDo (a : Ap) (c : Cm) : Ap × Rp × Bool :=
  if c.client = 0 then (a, ⟨2, []⟩, false)
  else if (lookM a.t c.client c.seq).2 = 0 then (⟨(kvDo a.m c).1, mput cliK a.t c.client ⟨c.seq, (kvDo a.m c).2⟩, a.n + 1⟩, (kvDo a.m c).2, true)
  else (a, (lookM a.t c.client c.seq).1, false)
end Go.Proofs.YtfmaflaoplkdbaaGreatDoor.Kv
namespace Go.Proofs.YtfmaflaoplkdbaaGreatDoor.Au
open Go.RowKit Go.Proofs.YtfmaflaoplkdbaaGreatDoor.Crc Go.Proofs.YtfmaflaoplkdbaaGreatDoor.Cm Go.Proofs.YtfmaflaoplkdbaaGreatDoor.Tr Go.Proofs.YtfmaflaoplkdbaaGreatDoor.Kv

abbrev Nu := Nat × Nat
/-- What an entry told. -/
structure To where
  e : Int
  ans : List An
  done : List Dn
def To.td (t : To) : Td := ⟨t.ans, t.done⟩
def anNu (a : An) : Nu := (a.client, a.seq)
def cmNu (c : Cm) : Nu := (c.client, c.seq)
def entM (l : List En) (i : Nat) : En := (l[i]?).getD ⟨0, 0, 0, Cm.zero⟩
def handsM (l : List En) (t : To) (i : Nat) : Bool := decide ((entM l i).kind = 1) && (decide (t.e = 0) || decide (t.e = 21))
/-- What the first entries told. -/
def dones (told : List To) (n : Nat) : List Dn := (told.take n).flatMap (·.done)
def anss (told : List To) (n : Nat) : List An := (told.take n).flatMap (·.ans)
def handedM (l : List En) (told : List To) (n : Nat) : List Cm := (List.range n).filterMap fun i => (told[i]?).bind fun t => if handsM l t i then some (entM l i).cmd else none
def findD (L : List Dn) (s : Nat) : Option (List UInt8) := (L.find? fun d => decide (d.1 = s)).map (·.2)
def findA (L : List An) (k : Nu) : Option An := L.find? fun a => !decide (a.code = 3) && decide (anNu a = k)
def placeN (cmds : List Cm) (k : Nu) : Option Nat := cmds.findIdx? fun c => decide (cmNu c = k)
def numbered (L : List Cm) (k : Nu) : Bool := L.any fun c => decide (cmNu c = k)
/-- The greatest place of those that were answered. -/
def lastOf (cmds : List Cm) (z : Int) (L : List An) : Int := L.foldl (fun m a => match placeN cmds (anNu a) with
  | none => m
  | some p => if a.code = 3 then m else max m (p : Int)) z
def lastM (cmds : List Cm) (told : List To) (n : Nat) : Int := lastOf cmds (-1) (anss told n)
/-- The answers of a slot's commands, one by one; the application behind them. -/
def wantM : Ap → List Cm → List An × Ap
  | a, [] => ([], a)
  | a, c :: cs => (⟨c.client, c.seq, (apDo a c).2.1.code, (apDo a c).2.1.text⟩ :: (wantM (apDo a c).1 cs).1, (wantM (apDo a c).1 cs).2)
/-- Slots whose answers are not the fold's: what a map has of them. -/
def wrongM : Ap → List Sl → Nat → Option Bool
  | _, [], _ => none
  | a, s :: ss, k => match wrongM (wantM a s.cmds).2 ss k with
    | some b => some b
    | none => if s.slot = k then some (!decide ((wantM a s.cmds).1 = s.ans)) else none
def b1 (told : List To) (i : Nat) (t : To) : Bool := t.done.any fun d => !decide (findD (dones told i ++ t.done) d.1 = some d.2)
def b2 (told : List To) (i : Nat) (t : To) : Bool := t.ans.any fun a => !decide (a.code = 3) && !decide (findA (anss told i ++ t.ans) (anNu a) = some a)
def b3 (l : List En) (told : List To) (i : Nat) (t : To) : Bool := t.done.any fun d => (parseM d.2).1.any fun c => !decide (c ∈ handedM l told (i + 1))
def risesM : List Dn → Bool
  | d :: e :: l => !decide (e.1 = 0) && decide (e.1 = (d.1 + 1) % 18446744073709551616) && risesM (e :: l)
  | _ => true
def b5 (wr : Nat → Option Bool) (told : List To) (i : Nat) (t : To) : Bool := t.done.any fun d => (findD (dones told i) d.1).isNone && (wr d.1).getD false
def b6 (cmds : List Cm) (l : List En) (told : List To) (i : Nat) (t : To) : Bool := handsM l t i && match placeN cmds (cmNu (entM l i).cmd) with
  | none => false
  | some p => !numbered (handedM l told i) (cmNu (entM l i).cmd) && decide ((p : Int) ≤ lastM cmds told i)
/-- The kinds of an entry's findings. -/
def bitsM (cmds : List Cm) (wr : Nat → Option Bool) (l : List En) (told : List To) (i : Nat) (t : To) : List Bool := [b1 told i t, b2 told i t, b3 l told i t, !risesM t.done, b5 wr told i t, b6 cmds l told i t]
def kindsOf : Nat → List Bool → List Nat
  | _, [] => []
  | k, b :: bs => if b then k :: kindsOf (k + 1) bs else kindsOf (k + 1) bs
def auditM (log : List Sl) (l : List En) (told : List To) (n : Nat) : List (Nat × Nat) := (List.range n).flatMap fun i => match told[i]? with
  | none => []
  | some t => (kindsOf 1 (bitsM (log.flatMap (·.cmds)) (wrongM ap0 log) l told i t)).map fun k => (i, k)
section
variable {told : List To} {n : Nat} {t : To} {l : List En}
theorem flat_next {X Y : Type} (f : X → List Y) {l : List X} {k : Nat} {x : X} (h : l[k]? = some x) : (l.take (k + 1)).flatMap f = (l.take k).flatMap f ++ f x := by
  obtain ⟨hlt, e⟩ := List.getElem?_eq_some_iff.1 h
  rw [List.take_succ_eq_append_getElem hlt, List.flatMap_append, e]
  simp
theorem dones_next (h : told[n]? = some t) : dones told (n + 1) = dones told n ++ t.done := flat_next (fun t : To => t.done) h
theorem anss_next (h : told[n]? = some t) : anss told (n + 1) = anss told n ++ t.ans := flat_next (fun t : To => t.ans) h
theorem handed_next (h : told[n]? = some t) : handedM l told (n + 1) = handedM l told n ++ if handsM l t n then [(entM l n).cmd] else [] := by
  unfold handedM
  rw [List.range_succ, List.filterMap_append]
  congr 1
  by_cases hh : handsM l t n <;> simp [h, hh]
theorem findD_append (a b : List Dn) (s : Nat) : findD (a ++ b) s = (findD a s).or (findD b s) := by
  unfold findD
  rw [List.find?_append]
  cases List.find? (fun d => decide (d.1 = s)) a <;> rfl
theorem findD_one (d : Dn) (s : Nat) : findD [d] s = if s = d.1 then some d.2 else none := by
  unfold findD
  by_cases h : s = d.1
  · simp [h]
  · have : ¬ d.1 = s := fun e => h e.symm
    simp [h, this]
theorem findA_append (a b : List An) (k : Nu) : findA (a ++ b) k = (findA a k).or (findA b k) := by
  unfold findA
  rw [List.find?_append]
theorem findA_old {a : An} (h : a.code = 3) (k : Nu) : findA [a] k = none := by simp [findA, h]
theorem findA_one {a : An} (h : a.code ≠ 3) (k : Nu) : findA [a] k = if k = anNu a then some a else none := by
  unfold findA
  by_cases e : k = anNu a
  · simp [e, h]
  · have : ¬ anNu a = k := fun e' => e e'.symm
    simp [e, this]
theorem numbered_append (a b : List Cm) (k : Nu) : numbered (a ++ b) k = (numbered a k || numbered b k) := by simp [numbered]
theorem lastOf_append (cmds : List Cm) (z : Int) (a b : List An) : lastOf cmds z (a ++ b) = lastOf cmds (lastOf cmds z a) b := by simp [lastOf]
end
end Go.Proofs.YtfmaflaoplkdbaaGreatDoor.Au
namespace Go.Proofs.YtfmaflaoplkdbaaGreatDoor.Kv
open Go.RowKit Go.Proofs.YtfmaflaoplkdbaaGreatDoor.Crc Go.Proofs.YtfmaflaoplkdbaaGreatDoor.Cm

theorem itoa_len {n : Int} (h : fits n = true) : (Lib.itoa n).length ≤ 21 := by
  simp only [fits, Bool.and_eq_true, decide_eq_true_eq] at h
  exact Lib.itoa_length_le n (by omega) (by omega)
theorem Good.keys {c : Cm} (h : Cm.Good c) : c.keys.length ≤ 16 ∧ 1 ≤ c.keys.length ∧ ∀ k ∈ c.keys, k.length ≤ 32 := by
  obtain ⟨-, h1, h2, h3, h4, h5, -⟩ := h
  have hb : hi c.kind ≤ 16 ∧ 1 ≤ lo c.kind := by
    have key : ∀ q, q < 9 → q ≠ 0 → hi q ≤ 16 ∧ 1 ≤ lo q := by decide
    exact key _ h2 h1
  exact ⟨by omega, by omega, fun k hk => (h5 k hk).2⟩
theorem keyA_len {c : Cm} (h : Cm.Good c) : (keyA c).length ≤ 32 := by
  obtain ⟨h1, h2, h3⟩ := Good.keys h
  unfold keyA
  rw [List.getD_eq_getElem?_getD, List.getElem?_eq_getElem (by omega)]
  exact h3 _ (List.getElem_mem _)
theorem keyB_len {c : Cm} (h : Cm.Good c) : (keyB c).length ≤ 32 := by
  obtain ⟨h1, h2, h3⟩ := Good.keys h
  unfold keyB
  rw [List.getD_eq_getElem?_getD]
  cases hk : c.keys[1]? with
  | none => simp
  | some k => exact h3 _ (List.mem_of_getElem? hk)
theorem join_len {m : KM} (h : KvOk m) (ks : List (List UInt8)) : (joinM m ks).length ≤ 65 * ks.length := by
  induction ks with
  | nil => simp [joinM]
  | cons k ks ih =>
    have hv : ((mfind m k).getD []).length ≤ 64 := by
      cases hf : mfind m k with
      | none => simp
      | some v => simpa using h.find hf
    simp only [joinM, List.length_append, List.length_cons, List.length_nil]
    omega
theorem dels_len (m : KM) (ks : List (List UInt8)) : (delsM m ks).length ≤ m.length := by
  induction ks generalizing m with
  | nil => exact Nat.le_refl _
  | cons k ks ih => exact Nat.le_trans (ih (mdel m k)) len_del_le
theorem set_len (m : KM) (k : List UInt8) (o : Option (List UInt8)) : (mset m k o).length ≤ m.length + 1 := by
  have h := len_del_le (l := m) (k := k)
  cases o with
  | none => show (mdel m k).length ≤ _; omega
  | some v => have := len_put_le (K := strK) (l := mdel m k) (k := k) (v := v); show (mput strK (mdel m k) k v).length ≤ _; omega
/-- What a state, and a reply, is behind a command. -/
structure Bound (m m' : KM) (r : Rp) : Prop where
  ok : KvOk m'
  len : m'.length ≤ m.length + 2
  text : r.text.length ≤ 1100
  code : r.code ≤ 3
theorem get_bound {m : KM} (h : KvOk m) (k : List UInt8) : (getM m k).text.length ≤ 1100 ∧ (getM m k).code ≤ 3 := by
  unfold getM
  cases hf : mfind m k with
  | none => simp
  | some v => have := h.find hf; exact ⟨by simp only; omega, by simp⟩
theorem do_bound {m : KM} {c : Cm} (h : KvOk m) (hl : m.length ≤ 1000000) : Bound m (kvDo m c).1 (kvDo m c).2 := by
  unfold kvDo
  split
  · rename_i hg
    have hA := keyA_len hg
    have hB := keyB_len hg
    have hn : c.new.length ≤ 64 := hg.2.2.2.2.2.2.2.1
    have hp := fun (k v : List UInt8) => len_put_le (K := strK) (l := m) (k := k) (v := v)
    have hd := fun (k : List UInt8) => len_del_le (l := m) (k := k)
    have hget := get_bound h (keyA c)
    unfold doM
    split
    · exact ⟨h.put hA hn, by have := hp (keyA c) c.new; simp only; omega, by simp, by simp⟩
    · exact ⟨h, by simp only; omega, hget.1, hget.2⟩
    · exact ⟨h.del _, by have := hd (keyA c); simp only; omega, hget.1, hget.2⟩
    · unfold addM
      cases numM ((mfind m (keyA c)).getD [48]) with
      | none => exact ⟨h, by simp only; omega, by simp, by simp⟩
      | some n =>
        simp only
        split
        · rename_i hf
          have := itoa_len hf
          exact ⟨h.put hA (by omega), by have := hp (keyA c) (Lib.itoa (n + c.n)); simp only; omega, by simp only; omega, by simp⟩
        · exact ⟨h, by simp only; omega, by simp, by simp⟩
    · unfold casM
      cases mfind m (keyA c) with
      | none => exact ⟨h, by simp only; omega, by simp, by simp⟩
      | some v =>
        simp only
        split
        · exact ⟨h.put hA hn, by have := hp (keyA c) c.new; simp only; omega, by simp, by simp⟩
        · exact ⟨h, by simp only; omega, by simp, by simp⟩
    · have h1 := h.set (o := mfind m (keyB c)) hA (fun v hv => h.find hv)
      have h2 := h1.set (o := mfind m (keyA c)) hB (fun v hv => h.find hv)
      have l1 := set_len m (keyA c) (mfind m (keyB c))
      have l2 := set_len (mset m (keyA c) (mfind m (keyB c))) (keyB c) (mfind m (keyA c))
      exact ⟨h2, by unfold swapM; simp only; omega, by simp, by simp⟩
    · have := join_len h c.keys
      have := (Good.keys hg).1
      exact ⟨h, by simp only; omega, by simp only; omega, by simp⟩
    · have l1 := dels_len m c.keys
      have l2 := itoa_len (n := (m.length : Int) - ((delsM m c.keys).length : Int)) (by simp only [fits, Bool.and_eq_true, decide_eq_true_eq]; omega)
      exact ⟨h.dels _, by simp only; omega, by simp only; omega, by simp⟩
  · exact ⟨h, by simp only; omega, by simp, by simp⟩

/-! ### once -/
theorem look_known {t : TM} {client seq : Nat} {x : La} (h : mfind t client = some x) (hs : seq ≤ x.seq) : (lookM t client seq).2 ≠ 0 := by
  unfold lookM
  rw [h]
  simp only
  rw [if_neg (by omega)]
  split <;> simp
theorem apDo_known {a : Ap} {c : Cm} {x : La} (h : mfind a.t c.client = some x) (hs : c.seq ≤ x.seq) : (apDo a c).1 = a ∧ (apDo a c).2.2 = false := by
  unfold apDo
  split
  · exact ⟨rfl, rfl⟩
  · rw [if_neg (look_known h hs)]
    exact ⟨rfl, rfl⟩
theorem apDo_none {a : Ap} {c : Cm} (h : c.client = 0) : apDo a c = (a, ⟨2, []⟩, false) := by
  unfold apDo
  rw [if_pos h]
/-- What was fresh is told again. -/
theorem apDo_again {a : Ap} {c : Cm} (h : (apDo a c).2.2 = true) : apDo (apDo a c).1 c = ((apDo a c).1, (apDo a c).2.1, false) := by
  have h0 : c.client ≠ 0 := fun e => by rw [apDo_none e] at h; cases h
  have h1 : (lookM a.t c.client c.seq).2 = 0 := by
    refine Decidable.byContradiction fun hne => ?_
    unfold apDo at h
    rw [if_neg h0, if_neg hne] at h
    cases h
  have e : apDo a c = (⟨(kvDo a.m c).1, mput cliK a.t c.client ⟨c.seq, (kvDo a.m c).2⟩, a.n + 1⟩, (kvDo a.m c).2, true) := by
    unfold apDo
    rw [if_neg h0, if_pos h1]
  rw [e]
  unfold apDo
  rw [if_neg h0]
  have hl : lookM (mput cliK a.t c.client ⟨c.seq, (kvDo a.m c).2⟩) c.client c.seq = ((kvDo a.m c).2, 1) := by
    unfold lookM
    rw [mfind_put, if_pos rfl]
    simp
  rw [hl]
  simp
/-- Each command that came has its client's number, or one below. -/
def Told (l : List Cm) (i : Nat) (a : Ap) : Prop := ∀ j c, j < i → l[j]? = some c → c.client ≠ 0 → ∃ x, mfind a.t c.client = some x ∧ c.seq ≤ x.seq
theorem Told.zero (l : List Cm) (a : Ap) : Told l 0 a := fun j c hj => by omega
theorem Told.next {l : List Cm} {i : Nat} {a : Ap} {c : Cm} (h : Told l i a) (hc : l[i]? = some c) : Told l (i + 1) (apDo a c).1 := by
  intro j d hj hd h0
  have key : ∀ x, mfind a.t d.client = some x → d.seq ≤ x.seq → ∃ x, mfind (apDo a c).1.t d.client = some x ∧ d.seq ≤ x.seq := by
    intro x hf hs
    unfold apDo
    split
    · exact ⟨x, hf, hs⟩
    · split
      · rename_i h1 h2
        simp only
        rw [mfind_put]
        by_cases he : d.client = c.client
        · rw [if_pos he]
          refine ⟨_, rfl, ?_⟩
          unfold lookM at h2
          rw [← he, hf] at h2
          simp only at h2
          split at h2
          · show d.seq ≤ c.seq; omega
          · split at h2 <;> simp at h2
        · rw [if_neg he]
          exact ⟨x, hf, hs⟩
      · exact ⟨x, hf, hs⟩
  rcases Nat.lt_or_ge j i with h1 | h1
  · obtain ⟨x, hf, hs⟩ := h j d h1 hd h0
    exact key x hf hs
  · have : j = i := by omega
    subst this
    rw [hc] at hd
    cases hd
    unfold apDo
    rw [if_neg h0]
    split
    · simp only
      rw [mfind_put, if_pos rfl]
      exact ⟨_, rfl, Nat.le_refl _⟩
    · rename_i h2
      simp only
      unfold lookM at h2
      cases hf : mfind a.t c.client with
      | none => rw [hf] at h2; simp at h2
      | some x =>
        rw [hf] at h2
        simp only at h2
        refine ⟨x, rfl, ?_⟩
        split at h2
        · simp at h2
        · omega
/-- What an application has is bounded by how many commands it was handed. -/
structure ApOk (a : Ap) (i : Nat) : Prop where
  kv : KvOk a.m
  rise : Rise cliK a.t
  len : a.m.length ≤ 2 * i
  tab : a.t.length ≤ i
  n : a.n ≤ i
  row : ∀ p ∈ a.t, p.1 < 4294967296 ∧ p.2.seq < 4294967296 ∧ p.2.r.code ≤ 3 ∧ p.2.r.text.length ≤ 1100
theorem ApOk.zero : ApOk ap0 0 := ⟨KvOk.nil, rise_nil, by simp [ap0], by simp [ap0], by simp [ap0], by simp [ap0]⟩
theorem ApOk.mono {a : Ap} {i j : Nat} (h : ApOk a i) (hij : i ≤ j) : ApOk a j := ⟨h.kv, h.rise, by have := h.len; omega, by have := h.tab; omega, by have := h.n; omega, h.row⟩
theorem ApOk.next {a : Ap} {i : Nat} {c : Cm} (h : ApOk a i) (hi : i ≤ 10000) (h1 : c.client < 4294967296) (h2 : c.seq < 4294967296) : ApOk (apDo a c).1 (i + 1) := by
  unfold apDo
  split
  · exact h.mono (by omega)
  · split
    · have hb := do_bound (c := c) h.kv (by have := h.len; omega)
      have hp := len_put_le (K := cliK) (l := a.t) (k := c.client) (v := ⟨c.seq, (kvDo a.m c).2⟩)
      refine ⟨hb.ok, rise_put h.rise, ?_, ?_, ?_, fun p hp' => ?_⟩
      · have := hb.len; have := h.len; simp only; omega
      · have := h.tab; simp only; omega
      · have := h.n; simp only; omega
      · rcases mem_put hp' with rfl | hp'
        · exact ⟨h1, h2, hb.code, hb.text⟩
        · exact h.row p hp'
    · exact h.mono (by omega)
theorem apDo_bound {a : Ap} {i : Nat} {c : Cm} (h : ApOk a i) (hi : i ≤ 10000) : (apDo a c).2.1.code ≤ 3 ∧ (apDo a c).2.1.text.length ≤ 1100 := by
  unfold apDo
  split
  · simp
  · split
    · have hb := do_bound (c := c) h.kv (by have := h.len; omega)
      exact ⟨hb.code, hb.text⟩
    · simp only
      unfold lookM
      cases hf : mfind a.t c.client with
      | none => simp
      | some x =>
        have := h.row _ (mfind_mem hf)
        simp only
        split
        · simp
        · split
          · exact ⟨this.2.2.1, this.2.2.2⟩
          · simp
end Go.Proofs.YtfmaflaoplkdbaaGreatDoor.Kv
namespace Go.Proofs.YtfmaflaoplkdbaaGreatDoor.Au
open Go.RowKit Go.Proofs.YtfmaflaoplkdbaaGreatDoor.Crc Go.Proofs.YtfmaflaoplkdbaaGreatDoor.Cm Go.Proofs.YtfmaflaoplkdbaaGreatDoor.Tr Go.Proofs.YtfmaflaoplkdbaaGreatDoor.Kv

def wantA (a : Ap) (c : Cm) : An := ⟨c.client, c.seq, (apDo a c).2.1.code, (apDo a c).2.1.text⟩
theorem wantM_snoc (c : Cm) : ∀ (cs : List Cm) (a : Ap), wantM a (cs ++ [c]) = ((wantM a cs).1 ++ [wantA (wantM a cs).2 c], (apDo (wantM a cs).2 c).1)
  | [], a => rfl
  | d :: cs, a => by
    simp only [List.cons_append, wantM, wantM_snoc c cs]
theorem wantM_len : ∀ (cs : List Cm) (a : Ap), (wantM a cs).1.length = cs.length
  | [], a => rfl
  | c :: cs, a => by simp [wantM, wantM_len cs]
/-- The application behind slots. -/
def apAll (a : Ap) (l : List Sl) : Ap := l.foldl (fun a s => (wantM a s.cmds).2) a
theorem apAll_snoc (a : Ap) (l : List Sl) (s : Sl) : apAll a (l ++ [s]) = (wantM (apAll a l) s.cmds).2 := by simp [apAll]
theorem wrongM_snoc (s : Sl) (k : Nat) : ∀ (l : List Sl) (a : Ap), wrongM a (l ++ [s]) k = if s.slot = k then some (!decide ((wantM (apAll a l) s.cmds).1 = s.ans)) else wrongM a l k
  | [], a => rfl
  | x :: l, a => by
    simp only [List.cons_append, wrongM, wrongM_snoc s k l]
    by_cases h : s.slot = k
    · rw [if_pos h, if_pos h]
      rfl
    · rw [if_neg h, if_neg h]
theorem placeN_snoc (cs : List Cm) (c : Cm) (k : Nu) : placeN (cs ++ [c]) k = (placeN cs k).or (if k = cmNu c then some cs.length else none) := by
  unfold placeN
  rw [List.findIdx?_append]
  by_cases h : k = cmNu c
  · simp [h]
  · have : ¬ cmNu c = k := fun e => h e.symm
    simp [h, this]
/-- Places as a map of ints. -/
def plM (cs : List Cm) (k : Nu) : Option Int := (placeN cs k).map fun n => (n : Int)
theorem plM_old {cs : List Cm} {c : Cm} {p : Int} (h : plM cs (cmNu c) = some p) (k : Nu) : plM (cs ++ [c]) k = plM cs k := by
  unfold plM at *
  rw [placeN_snoc]
  by_cases e : k = cmNu c
  · subst e
    cases h1 : placeN cs (cmNu c) with
    | none => rw [h1] at h; cases h
    | some q => rfl
  · simp [e]
theorem plM_new {cs : List Cm} {c : Cm} (h : plM cs (cmNu c) = none) (k : Nu) : plM (cs ++ [c]) k = if k = cmNu c then some (cs.length : Int) else plM cs k := by
  unfold plM at *
  rw [placeN_snoc]
  by_cases e : k = cmNu c
  · subst e
    cases h1 : placeN cs (cmNu c) with
    | none => simp
    | some q => rw [h1] at h; cases h
  · simp [e]
def numMap (L : List Cm) (k : Nu) : Option Bool := if numbered L k then some true else none
/-- What a history has ahead of an entry. -/
theorem lastOf_eq (cs : List Cm) (z : Int) (L : List An) : lastOf cs z L = L.foldl (fun m a => match plM cs (anNu a) with
  | none => m
  | some p => if a.code = 3 then m else max m p) z := by
  unfold lastOf
  congr 1
  funext m a
  unfold plM
  cases placeN cs (anNu a) <;> rfl
end Go.Proofs.YtfmaflaoplkdbaaGreatDoor.Au
namespace Go.Proofs.YtfmaflaoplkdbaaGreatDoor.Au
open Go.RowKit Go.Proofs.YtfmaflaoplkdbaaGreatDoor.Crc Go.Proofs.YtfmaflaoplkdbaaGreatDoor.Cm Go.Proofs.YtfmaflaoplkdbaaGreatDoor.Tr Go.Proofs.YtfmaflaoplkdbaaGreatDoor.Kv

theorem findD_none {L : List Dn} {s : Nat} : findD L s = none ↔ ∀ d ∈ L, d.1 ≠ s := by
  unfold findD
  rw [Option.map_eq_none_iff, List.find?_eq_none]
  exact ⟨fun h d hd e => h d hd (by simp [e]), fun h d hd e => h d hd (by simpa using e)⟩
theorem findA_none {L : List An} {k : Nu} : findA L k = none ↔ ∀ a ∈ L, ¬ (a.code ≠ 3 ∧ anNu a = k) := by
  unfold findA
  rw [List.find?_eq_none]
  refine ⟨fun h a ha e => h a ha (by simp [e.1, e.2]), fun h a ha e => h a ha ?_⟩
  simpa using e
/-- A command's place; -1: none. -/
def placeI (cs : List Cm) (k : Nu) : Int := match placeN cs k with
  | none => -1
  | some p => (p : Int)
def geA (cs : List Cm) (p : Int) (a : An) : Bool := !decide (a.code = 3) && decide (p ≤ placeI cs (anNu a))
theorem le_last (cs : List Cm) (p : Int) (hp : 0 ≤ p) : ∀ (L : List An) (z : Int), decide (p ≤ lastOf cs z L) = (decide (p ≤ z) || L.any (geA cs p))
  | [], z => (Bool.or_false _).symm
  | a :: L, z => by
    have ih := le_last cs p hp L (match placeN cs (anNu a) with
      | none => z
      | some q => if a.code = 3 then z else max z (q : Int))
    have e : lastOf cs z (a :: L) = lastOf cs (match placeN cs (anNu a) with
      | none => z
      | some q => if a.code = 3 then z else max z (q : Int)) L := rfl
    rw [e, ih, List.any_cons, ← Bool.or_assoc]
    congr 1
    unfold geA placeI
    cases placeN cs (anNu a) with
    | none =>
      have : decide (p ≤ -1) = false := by simp; omega
      simp [this]
    | some q =>
      by_cases hc : a.code = 3
      · simp [hc]
      · have e2 : decide (p ≤ max z (q : Int)) = (decide (p ≤ z) || decide (p ≤ (q : Int))) := by
          by_cases h1 : p ≤ z
          · rw [decide_eq_true h1, decide_eq_true (show p ≤ max z (q : Int) by omega)]; rfl
          · by_cases h2 : p ≤ (q : Int)
            · rw [decide_eq_true h2, decide_eq_true (show p ≤ max z (q : Int) by omega), Bool.or_true]
            · rw [decide_eq_false h1, decide_eq_false h2, decide_eq_false (show ¬ p ≤ max z (q : Int) by omega)]; rfl
        simp only [hc, if_false, e2, decide_false, Bool.not_false, Bool.true_and]
theorem late_eq {cs : List Cm} {l : List En} {told : List To} {i : Nat} {t : To} : b6 cs l told i t = (handsM l t i && decide (0 ≤ placeI cs (cmNu (entM l i).cmd)) && !numbered (handedM l told i) (cmNu (entM l i).cmd) && (anss told i).any (geA cs (placeI cs (cmNu (entM l i).cmd)))) := by
  unfold b6
  cases handsM l t i with
  | false => rfl
  | true =>
    unfold placeI
    cases placeN cs (cmNu (entM l i).cmd) with
    | none => rfl
    | some p =>
      have e1 : decide (0 ≤ (p : Int)) = true := decide_eq_true (by omega)
      have e2 : decide ((p : Int) ≤ -1) = false := decide_eq_false (by omega)
      show (true && (_ && decide ((p : Int) ≤ lastM cs told i))) = _
      unfold lastM
      rw [le_last cs (p : Int) (by omega), e1, e2]
      simp
/-- Is a slot's answer not the fold's? As it is asked from the first slot on. -/
def foldedM : Ap → List Sl → Nat → Bool
  | _, [], _ => false
  | a, s :: ss, k => if s.slot = k then !decide ((wantM a s.cmds).1 = s.ans) else foldedM (wantM a s.cmds).2 ss k
theorem folded_eq : ∀ (l : List Sl) (a : Ap) (k : Nat), (l.map (·.slot)).Nodup → foldedM a l k = (wrongM a l k).getD false
  | [], _, _, _ => rfl
  | s :: ss, a, k, h => by
    rw [List.map_cons, List.nodup_cons] at h
    unfold foldedM wrongM
    rw [folded_eq ss _ k h.2]
    by_cases e : s.slot = k
    · have : wrongM (wantM a s.cmds).2 ss k = none := by
        have key : ∀ (l : List Sl) (a : Ap), k ∉ l.map (·.slot) → wrongM a l k = none := by
          intro l
          induction l with
          | nil => intro a _; rfl
          | cons x l ih =>
            intro a hx
            rw [List.map_cons, List.mem_cons, not_or] at hx
            unfold wrongM
            rw [ih _ hx.2, if_neg (fun e => hx.1 e.symm)]
        exact key ss _ (by rw [← e]; exact h.1)
      rw [if_pos e, this, if_pos e]
      rfl
    · rw [if_neg e, if_neg e]
      cases wrongM (wantM a s.cmds).2 ss k <;> rfl
theorem folded_step {a : Ap} {l : List Sl} {k : Nat} (n : Nat) (h : ∀ s ∈ l.take n, s.slot ≠ k) : foldedM a l k = foldedM (apAll a (l.take n)) (l.drop n) k := by
  induction n generalizing a l with
  | zero => simp [apAll]
  | succ n ih =>
    cases l with
    | nil => simp [apAll]
    | cons s l =>
      rw [List.take_succ_cons] at h ⊢
      rw [List.drop_succ_cons]
      have h1 := h s (by simp)
      rw [show foldedM a (s :: l) k = foldedM (wantM a s.cmds).2 l k by conv => lhs; unfold foldedM; rw [if_neg h1]]
      rw [ih (fun x hx => h x (by simp [hx]))]
      rfl
theorem log_nodup {l out : List Sl} (h : LogTo l out) : (out.map (·.slot)).Nodup := by
  have e : out.map (·.slot) = (List.range out.length).map (· + 1) := by
    apply List.ext_getElem? fun i => ?_
    rw [List.getElem?_map, List.getElem?_map]
    by_cases hi : i < out.length
    · have h1 := h i _ (List.getElem?_eq_getElem hi)
      have h2 := findM_slot h1
      rw [List.getElem?_eq_getElem hi, List.getElem?_range hi]
      simp [h2]
    · rw [List.getElem?_eq_none (by omega), List.getElem?_eq_none (by simp; omega)]
      rfl
  rw [e]
  refine List.Pairwise.map _ (fun a b h => ?_) (List.nodup_range (n := out.length))
  intro h2
  exact h (by omega)
theorem numbered_eq {L : List Cm} {c : Cm} : numbered L (cmNu c) = L.any fun x => decide (x.client = c.client) && decide (x.seq = c.seq) := by
  unfold numbered
  congr 1
  funext x
  unfold cmNu
  simp [Prod.mk.injEq, Bool.decide_and]
/-- What it takes that a log is. -/
theorem log_cmds {told : List Td} {out : List Sl} (h : LogTo (allM told) out) (hd : ∀ t ∈ told, t.done.length ≤ 20) (ht : told.length ≤ 40) : out.length ≤ 800 ∧ ∀ n, ((out.take n).flatMap (·.cmds)).length ≤ 6400 := by
  have h1 : (allM told).length ≤ 800 := by
    unfold allM
    rw [List.length_flatMap]
    have : ∀ l : List Td, (∀ t ∈ l, t.done.length ≤ 20) → (l.map fun t => (partedM t.done t.ans).length).sum ≤ 20 * l.length := by
      intro l
      induction l with
      | nil => simp
      | cons t l ih =>
        intro hl
        have h5 := hl t (by simp)
        have h6 := ih (fun x hx => hl x (by simp [hx]))
        simp only [List.map_cons, List.sum_cons, List.length_cons]
        rw [partedM_len]
        omega
    have := this told hd
    omega
  have h2 := h.le
  have h8 : ∀ s ∈ out, s.cmds.length ≤ 8 := by
    intro s hs
    obtain ⟨i, hi⟩ := List.mem_iff_getElem?.1 hs
    have h3 := findM_mem (h i s hi)
    unfold allM at h3
    obtain ⟨t, -, h4⟩ := List.mem_flatMap.1 h3
    have key : ∀ (ds : List Dn) (left : List An), s ∈ partedM ds left → s.cmds.length ≤ 8 := by
      intro ds
      induction ds with
      | nil => intro left h; cases h
      | cons d ds ih =>
        intro left h
        unfold partedM at h
        rcases List.mem_cons.1 h with rfl | h
        · exact (parseM_says d.2).1
        · exact ih _ h
    exact key _ _ h4
  refine ⟨by omega, fun n => ?_⟩
  have : ∀ l : List Sl, (∀ s ∈ l, s.cmds.length ≤ 8) → (l.flatMap (·.cmds)).length ≤ 8 * l.length := by
    intro l
    induction l with
    | nil => simp
    | cons s l ih =>
      intro hl
      have h5 := hl s (by simp)
      have h6 := ih (fun x hx => hl x (by simp [hx]))
      simp only [List.flatMap_cons, List.length_append, List.length_cons]
      omega
  have h9 := this (out.take n) (fun s hs => h8 s (List.mem_of_mem_take hs))
  have h10 := List.length_take (i := n) (l := out)
  omega
end Go.Proofs.YtfmaflaoplkdbaaGreatDoor.Au
