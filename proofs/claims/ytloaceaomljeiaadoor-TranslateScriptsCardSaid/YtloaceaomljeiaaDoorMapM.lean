/- Maps in memory, keyed by integers or by strings, with values of whatever make: what a look-up, a store and a delete do, said by one function 'mget' of the entries. Over any program. -/
import Derived.Test.YtloaceaomljeiaaDoorBase
namespace Go.Proofs.YtloaceaomljeiaaDoor
open Go.RowKit

theorem ba_beq (a b : ByteArray) : (a == b) = decide (a = b) := by
  cases a; cases b
  rw [Bool.eq_iff_iff]
  simp only [decide_eq_true_eq, ByteArray.mk.injEq]
  show ((_ : Array UInt8) == _) = true ↔ _
  simp

/-- The two kinds of keys. -/
inductive MK where
  | num (k : IntKind)
  | txt
def MK.desc : MK → TypeDesc
  | .num k => .int k
  | .txt => .string
def MK.is : MK → Value → Prop
  | .num k, v => ∃ a : Int, v = .int k a
  | .txt, v => ∃ s : ByteArray, v = .string s
def keyEq : Value → Value → Bool
  | .int _ a, .int _ b => a == b
  | .string a, .string b => decide (a = b)
  | _, _ => false
def MKeys (m : MK) (es : List MapEntry) : Prop := ∀ e ∈ es, m.is e.key
/-- What a map has at a key. -/
def mget : List MapEntry → Value → Option Value
  | [], _ => none
  | e :: es, k => if keyEq k e.key then some e.val else mget es k

theorem keyEq_iff {m : MK} {a b : Value} (ha : m.is a) (hb : m.is b) : keyEq a b = true ↔ a = b := by
  cases m with
  | num k => obtain ⟨x, rfl⟩ := ha; obtain ⟨y, rfl⟩ := hb; simp [keyEq]
  | txt => obtain ⟨x, rfl⟩ := ha; obtain ⟨y, rfl⟩ := hb; simp [keyEq]
theorem sameNow_of {m : MK} {a b : Value} (ha : m.is a) (hb : m.is b) : Instr.sameNow m.desc a b = some (keyEq a b) := by
  cases m with
  | num k => obtain ⟨x, rfl⟩ := ha; obtain ⟨y, rfl⟩ := hb; simp [Instr.sameNow, MK.desc, keyEq]
  | txt => obtain ⟨x, rfl⟩ := ha; obtain ⟨y, rfl⟩ := hb; simp [Instr.sameNow, MK.desc, keyEq, ba_beq]
theorem sameBits_of {m : MK} {a : Value} (ha : m.is a) : Instr.sameBits 10000 a a = true := by
  cases m with
  | num k => obtain ⟨x, rfl⟩ := ha; simp [Instr.sameBits]
  | txt => obtain ⟨x, rfl⟩ := ha; simp [Instr.sameBits, ba_beq]

/-- The first entry of a key, if there is one. -/
inductive At (k : Value) : List MapEntry → Nat → Value → Prop
  | here (e : MapEntry) (es : List MapEntry) (h : keyEq k e.key = true) : At k (e :: es) 0 e.val
  | later (e : MapEntry) (es : List MapEntry) (j : Nat) (v : Value) (h : keyEq k e.key = false) (t : At k es j v) : At k (e :: es) (j + 1) v
theorem findNow_of {m : MK} {k : Value} (hk : m.is k) : ∀ (es : List MapEntry) (i : Nat), MKeys m es →
    (Instr.findNow m.desc k es i = some none ∧ mget es k = none) ∨ ∃ j v, Instr.findNow m.desc k es i = some (some (i + j, v)) ∧ mget es k = some v ∧ At k es j v
  | [], i, _ => .inl ⟨rfl, rfl⟩
  | e :: es, i, h => by
    rw [Instr.findNow, sameNow_of hk (h e (by simp))]
    cases hq : keyEq k e.key with
    | true => exact .inr ⟨0, e.val, rfl, by simp [mget, hq], .here e es hq⟩
    | false =>
      rcases findNow_of hk es (i + 1) (fun e' he' => h e' (by simp [he'])) with ⟨h1, h2⟩ | ⟨j, v, h1, h2, h3⟩
      · exact .inl ⟨h1, by simp [mget, hq, h2]⟩
      · exact .inr ⟨j + 1, v, by rw [h1, show i + 1 + j = i + (j + 1) from by omega], by simp [mget, hq, h2], .later e es j v hq h3⟩
theorem At.get {k : Value} {es : List MapEntry} {j : Nat} {v : Value} (h : At k es j v) : ∃ e, es[j]? = some e ∧ keyEq k e.key = true ∧ e.val = v := by
  induction h with
  | here e es h => exact ⟨e, rfl, h, rfl⟩
  | later e es j v h t ih => obtain ⟨e', h1, h2⟩ := ih; exact ⟨e', by simpa using h1, h2⟩
theorem At.set {m : MK} {k : Value} (hk : m.is k) {es : List MapEntry} {j : Nat} {v : Value} (h : At k es j v) (u : Value) (hm : MKeys m es) {k' : Value} (hk' : m.is k') :
    mget (es.modify j fun e => { e with key := k, val := u }) k' = if keyEq k' k then some u else mget es k' := by
  induction h with
  | here e es h =>
    have he : e.key = k := ((keyEq_iff hk (hm e (by simp))).1 h).symm
    simp only [List.modify_zero_cons, mget, he]
    split <;> rfl
  | later e es j v h t ih =>
    have ih' := ih (fun e' he' => hm e' (by simp [he']))
    simp only [List.modify_succ_cons, mget, ih']
    by_cases h1 : keyEq k' e.key = true
    · have e1 : k' = e.key := (keyEq_iff hk' (hm e (by simp))).1 h1
      have h2 : keyEq k' k = false := by
        rw [Bool.eq_false_iff]
        intro h3
        have e2 : k' = k := (keyEq_iff hk' hk).1 h3
        rw [e2] at h1
        rw [h1] at h
        cases h
      simp [h1, h2]
    · simp [h1]
theorem At.keys {m : MK} {k : Value} (hk : m.is k) {es : List MapEntry} {j : Nat} {u : Value} (hm : MKeys m es) : MKeys m (es.modify j fun e => { e with key := k, val := u }) := by
  intro e he
  obtain ⟨i, hi⟩ := List.mem_iff_getElem?.1 he
  rw [List.getElem?_modify] at hi
  cases hx : es[i]? with
  | none => rw [hx] at hi; simp at hi
  | some x =>
    rw [hx] at hi
    simp at hi
    split at hi
    · rw [← hi]; exact hk
    · rw [← hi]; exact hm x (List.mem_of_getElem? hx)
theorem mget_push {m : MK} {k : Value} (hk : m.is k) (u : Value) (born : Nat) {k' : Value} (hk' : m.is k') : ∀ {es : List MapEntry}, MKeys m es → mget es k = none →
    mget (es ++ [{ key := k, val := u, born }]) k' = if keyEq k' k then some u else mget es k'
  | [], _, _ => by simp [mget]
  | e :: es, hm, h => by
    simp only [mget] at h
    have h1 : keyEq k e.key = false := by
      rw [Bool.eq_false_iff]; intro h2; rw [if_pos h2] at h; cases h
    rw [if_neg (by simp [h1])] at h
    have ih := mget_push hk u born hk' (es := es) (fun e' he' => hm e' (by simp [he'])) h
    simp only [List.cons_append, mget, ih]
    by_cases h2 : keyEq k' e.key = true
    · have e1 : k' = e.key := (keyEq_iff hk' (hm e (by simp))).1 h2
      have h3 : keyEq k' k = false := by
        rw [Bool.eq_false_iff]
        intro h4
        have e2 : k' = k := (keyEq_iff hk' hk).1 h4
        rw [e2, h1] at h2
        cases h2
      simp [h2, h3]
    · simp [h2]
section
variable {P : Program} {w : World} {m : MK} {K E T b clock : Nat} {es : Array MapEntry} {k : Value}
theorem run_checkKey {x : Bool} (hK : P.underlying K = some m.desc) (hk : m.is k) : (Instr.checkKey x 10000 K k).run P w = .ok () w := by
  unfold Instr.checkKey
  rw [Sem.run_bind, run_underlying hK]
  cases m with
  | num kd => obtain ⟨a, rfl⟩ := hk; rfl
  | txt => obtain ⟨a, rfl⟩ := hk; rfl
theorem run_getMap (hb : w.heap[b]? = some (.map es clock)) : (getObj b).run P w = .ok (.map es clock) w := by simp [getObj, Sem.run, hb]
theorem run_findKey (hK : P.underlying K = some m.desc) (hk : m.is k) (hm : MKeys m es.toList) :
    ((Instr.findKey K k es.toList).run P w = .ok none w ∧ mget es.toList k = none) ∨ ∃ j v, (Instr.findKey K k es.toList).run P w = .ok (some (j, v)) w ∧ mget es.toList k = some v ∧ At k es.toList j v := by
  rcases findNow_of hk es.toList 0 hm with ⟨h1, h2⟩ | ⟨j, v, h1, h2, h3⟩
  · refine .inl ⟨?_, h2⟩
    unfold Instr.findKey
    rw [Sem.run_bind, run_underlying hK]
    simp [Result.andThen, h1]
  · refine .inr ⟨j, v, ?_, h2, h3⟩
    unfold Instr.findKey
    rw [Sem.run_bind, run_underlying hK]
    simp [Result.andThen, h1]
/-- 'v, ok := m[k]' -/
theorem run_lookup_ok (hT : P.underlying T = some (.map K E)) (hK : P.underlying K = some m.desc) {z : Value} (hz : (zeroValue E).run P w = .ok z w) (hb : w.heap[b]? = some (.map es clock)) (hm : MKeys m es.toList) (hk : m.is k) :
    (Instr.lookup T (.map (some b)) k true).run P w = .ok (.tuple #[(mget es.toList k).getD z, .bool (mget es.toList k).isSome]) w := by
  rcases run_findKey (P := P) (w := w) hK hk hm with ⟨h1, h2⟩ | ⟨j, v, h1, h2, _⟩
  · simp [Instr.lookup, run_underlying hT, run_getMap hb, run_checkKey hK hk, h1, h2, hz, Result.andThen]
  · simp [Instr.lookup, run_underlying hT, run_getMap hb, run_checkKey hK hk, h1, h2, Result.andThen]
/-- 'v := m[k]' -/
theorem run_lookup (hT : P.underlying T = some (.map K E)) (hK : P.underlying K = some m.desc) {z : Value} (hz : (zeroValue E).run P w = .ok z w) (hb : w.heap[b]? = some (.map es clock)) (hm : MKeys m es.toList) (hk : m.is k) :
    (Instr.lookup T (.map (some b)) k false).run P w = .ok ((mget es.toList k).getD z) w := by
  rcases run_findKey (P := P) (w := w) hK hk hm with ⟨h1, h2⟩ | ⟨j, v, h1, h2, _⟩
  · simp [Instr.lookup, run_underlying hT, run_getMap hb, run_checkKey hK hk, h1, h2, hz, Result.andThen]
  · simp [Instr.lookup, run_underlying hT, run_getMap hb, run_checkKey hK hk, h1, h2, Result.andThen]
theorem run_setMap {o : Obj} (hb : w.heap[b]? = some (.map es clock)) : (setObj b o).run P w = .ok () (w.putObj b o) := by simp [setObj, Sem.run, hb, World.putObj]
/-- 'm[k] = v' -/
theorem run_mapUpdate (hT : P.underlying T = some (.map K E)) (hK : P.underlying K = some m.desc) (hb : w.heap[b]? = some (.map es clock)) (hm : MKeys m es.toList) (hk : m.is k) (u : Value) :
    ∃ es' clock', (Instr.mapUpdate T (.map (some b)) k u).run P w = .ok () (w.putObj b (.map es' clock')) ∧ MKeys m es'.toList ∧ ∀ k', m.is k' → mget es'.toList k' = if keyEq k' k then some u else mget es.toList k' := by
  rcases run_findKey (P := P) (w := w) hK hk hm with ⟨h1, h2⟩ | ⟨j, v, h1, h2, h3⟩
  · refine ⟨_, _, by simp [Instr.mapUpdate, run_underlying hT, run_getMap hb, run_checkKey hK hk, h1, Result.andThen]; exact run_setMap hb, ?_, fun k' hk' => ?_⟩
    · intro e he
      simp at he
      rcases he with he | rfl
      · exact hm e (by simpa using he)
      · exact hk
    · simp only [Array.toList_push]
      exact mget_push hk u clock hk' hm h2
  · obtain ⟨e, he1, he2, he3⟩ := h3.get
    have hek : e.key = k := ((keyEq_iff hk (hm e (List.mem_of_getElem? he1))).1 he2).symm
    have he1' : es[j]? = some e := by simpa using he1
    refine ⟨es.modify j fun e => { e with key := k, val := u }, clock, ?_, ?_, fun k' hk' => ?_⟩
    · simp [Instr.mapUpdate, run_underlying hT, run_getMap hb, run_checkKey hK hk, h1, Result.andThen, Instr.keyThatStays, he1', hek, sameBits_of hk]
      exact run_setMap hb
    · rw [Array.toList_modify]; exact At.keys hk hm
    · rw [Array.toList_modify]; exact h3.set hk u hm hk'
/-- The same, the world behind it under a name. -/
theorem run_mapUpdate' (hT : P.underlying T = some (.map K E)) (hK : P.underlying K = some m.desc) (hb : w.heap[b]? = some (.map es clock)) (hm : MKeys m es.toList) (hk : m.is k) (u : Value) :
    ∃ W es' clock', (Instr.mapUpdate T (.map (some b)) k u).run P w = .ok () W ∧ Upd [b] w W ∧ W.heap.size = w.heap.size ∧ W.heap[b]? = some (.map es' clock') ∧ MKeys m es'.toList ∧ ∀ k', m.is k' → mget es'.toList k' = if keyEq k' k then some u else mget es.toList k' := by
  obtain ⟨es', clock', h1, h2, h3⟩ := run_mapUpdate (P := P) hT hK hb hm hk u
  exact ⟨_, es', clock', h1, (Upd.refl _ _).putObj (.inl (by simp)) _, World.putObj_size, World.putObj_heap_same (blk_lt hb), h2, h3⟩
end
end Go.Proofs.YtloaceaomljeiaaDoor
