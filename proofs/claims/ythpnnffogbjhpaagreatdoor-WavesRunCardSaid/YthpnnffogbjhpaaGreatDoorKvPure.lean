/- KvMo, KvLaw, KvPM, KvTq, NumM, KvFo, R11p, WvM, WvO, WvP, WvQ, WvS, WvNb in one text. -/
import Derived.Test.YthpnnffogbjhpaaGreatDoorGenAll
import Derived.Test.YthpnnffogbjhpaaGreatDoorCmM
import Derived.Lib.ParseIntB
import Derived.Lib.ItoaNum
import Derived.Lib.ItoaLen
import Derived.Lib.SlicesCompact
import Derived.Sort.Walk0
import Derived.Lib.ItoaMem
set_option linter.unusedSimpArgs false
set_option linter.unusedVariables false
set_option linter.unnecessarySimpa false
namespace Go.Proofs.YthpnnffogbjhpaaGreatDoor.Kv
open Go.RowKit Go.Proofs.YthpnnffogbjhpaaGreatDoor.Crc Go.Proofs.YthpnnffogbjhpaaGreatDoor.Cm

/-- A reply. -/
structure Rp where
  code : Nat
  text : List UInt8
deriving DecidableEq
abbrev KM := List (List UInt8 × List UInt8)
def keyA (c : Cm) : List UInt8 := c.keys.getD 0 []
def keyB (c : Cm) : List UInt8 := c.keys.getD 1 []
/-- The number that a text is, in its own digits. -/
def numM (v : List UInt8) : Option Int := match Lib.parseIntB 64 v with
  | .ok n => if Lib.itoa n = v then some n else none
  | _ => none
def fits (n : Int) : Bool := decide (-9223372036854775808 ≤ n) && decide (n ≤ 9223372036854775807)
def mset (m : KM) (k : List UInt8) : Option (List UInt8) → KM
  | none => mdel m k
  | some v => mput strK (mdel m k) k v
def joinM (m : KM) : List (List UInt8) → List UInt8
  | [] => []
  | k :: ks => (mfind m k).getD [] ++ [44] ++ joinM m ks
def delsM (m : KM) (ks : List (List UInt8)) : KM := ks.foldl mdel m
def getM (m : KM) (k : List UInt8) : Rp := match mfind m k with
  | none => ⟨1, []⟩
  | some v => ⟨0, v⟩
def addM (m : KM) (k : List UInt8) (z : Int) : KM × Rp := match numM ((mfind m k).getD [48]) with
  | none => (m, ⟨2, []⟩)
  | some n => if fits (n + z) then (mput strK m k (Lib.itoa (n + z)), ⟨0, Lib.itoa (n + z)⟩) else (m, ⟨2, []⟩)
def casM (m : KM) (k old new : List UInt8) : KM × Rp := match mfind m k with
  | none => (m, ⟨1, []⟩)
  | some v => if v = old then (mput strK m k new, ⟨0, []⟩) else (m, ⟨2, []⟩)
def swapM (m : KM) (a b : List UInt8) : KM := mset (mset m a (mfind m b)) b (mfind m a)
/-- What a command does that may be. -/
def doM (m : KM) (c : Cm) : KM × Rp :=
  match c.kind with
  | 1 => (mput strK m (keyA c) c.new, ⟨0, []⟩)
  | 2 => (m, getM m (keyA c))
  | 3 => (mdel m (keyA c), getM m (keyA c))
  | 4 => addM m (keyA c) c.n
  | 5 => casM m (keyA c) c.old c.new
  | 6 => (swapM m (keyA c) (keyB c), ⟨0, []⟩)
  | 7 => (m, ⟨0, joinM m c.keys⟩)
  | _ => (delsM m c.keys, ⟨0, Lib.itoa ((m.length : Int) - ((delsM m c.keys).length : Int))⟩)
def kvDo (m : KM) (c : Cm) : KM × Rp := if Cm.Good c then doM m c else (m, ⟨2, []⟩)

/-! ### what a state has is no longer than what commands bring -/
def KvOk (m : KM) : Prop := Rise strK m ∧ ∀ p ∈ m, p.1.length ≤ 32 ∧ p.2.length ≤ 64
theorem KvOk.nil : KvOk [] := ⟨rise_nil, by simp⟩
theorem KvOk.put {m : KM} {k v : List UInt8} (h : KvOk m) (hk : k.length ≤ 32) (hv : v.length ≤ 64) : KvOk (mput strK m k v) :=
  ⟨rise_put h.1, fun p hp => by
    rcases mem_put hp with rfl | hp
    · exact ⟨hk, hv⟩
    · exact h.2 p hp⟩
theorem KvOk.del {m : KM} (h : KvOk m) (k : List UInt8) : KvOk (mdel m k) := ⟨rise_del h.1, fun p hp => h.2 p (mem_del.1 hp).1⟩
theorem KvOk.dels {m : KM} (h : KvOk m) (ks : List (List UInt8)) : KvOk (delsM m ks) := by
  induction ks generalizing m with
  | nil => exact h
  | cons k ks ih => exact ih (h.del k)
theorem KvOk.find {m : KM} {k v : List UInt8} (h : KvOk m) (hf : mfind m k = some v) : v.length ≤ 64 := (h.2 _ (mfind_mem hf)).2
theorem KvOk.set {m : KM} {k : List UInt8} {o : Option (List UInt8)} (h : KvOk m) (hk : k.length ≤ 32) (hv : ∀ v, o = some v → v.length ≤ 64) : KvOk (mset m k o) := by
  cases o with
  | none => exact h.del k
  | some v => exact (h.del k).put hk (hv v rfl)

/-! ### sessions and applications -/
/-- A client's last number, and what was told. -/
structure La where
  seq : Nat
  r : Rp
deriving DecidableEq
abbrev TM := List (Nat × La)
abbrev cliK : Kys Nat := numK .u32
def lookM (t : TM) (client seq : Nat) : Rp × Nat := match mfind t client with
  | none => (⟨0, []⟩, 0)
  | some x => if x.seq < seq then (⟨0, []⟩, 0) else if seq = x.seq then (x.r, 1) else (⟨3, []⟩, 2)
structure Ap where
  m : KM
  t : TM
  n : Nat
def ap0 : Ap := ⟨[], [], 0⟩
def apDo (a : Ap) (c : Cm) : Ap × Rp × Bool :=
  if c.client = 0 then (a, ⟨2, []⟩, false)
  else if (lookM a.t c.client c.seq).2 = 0 then (⟨(kvDo a.m c).1, mput cliK a.t c.client ⟨c.seq, (kvDo a.m c).2⟩, a.n + 1⟩, (kvDo a.m c).2, true)
  else (a, (lookM a.t c.client c.seq).1, false)
end Go.Proofs.YthpnnffogbjhpaaGreatDoor.Kv
namespace Go.Proofs.YthpnnffogbjhpaaGreatDoor.Kv
open Go.RowKit Go.Proofs.YthpnnffogbjhpaaGreatDoor.Crc Go.Proofs.YthpnnffogbjhpaaGreatDoor.Cm

theorem itoa_len {n : Int} (h : fits n = true) : (Lib.itoa n).length ≤ 21 := by
  simp only [fits, Bool.and_eq_true, decide_eq_true_eq] at h
  exact Lib.itoa_length_le n (by omega) (by omega)
theorem Good.keys {c : Cm} (h : Cm.Good c) : c.keys.length ≤ 16 ∧ 1 ≤ c.keys.length ∧ ∀ k ∈ c.keys, k.length ≤ 32 := by
  obtain ⟨-, h1, h2, h3, h4, h5, -⟩ := h
  have hb : hi c.kind ≤ 16 ∧ 1 ≤ lo c.kind := by
    have key : ∀ q, q < 9 → q ≠ 0 → hi q ≤ 16 ∧ 1 ≤ lo q := by decide
    exact key _ h2 h1
  exact ⟨by omega, by omega, fun k hk => (h5 k hk).2⟩
theorem keyA_len {c : Cm} (h : Cm.Good c) : (keyA c).length ≤ 32 := by
  obtain ⟨h1, h2, h3⟩ := Good.keys h
  unfold keyA
  rw [List.getD_eq_getElem?_getD, List.getElem?_eq_getElem (by omega)]
  exact h3 _ (List.getElem_mem _)
theorem keyB_len {c : Cm} (h : Cm.Good c) : (keyB c).length ≤ 32 := by
  obtain ⟨h1, h2, h3⟩ := Good.keys h
  unfold keyB
  rw [List.getD_eq_getElem?_getD]
  cases hk : c.keys[1]? with
  | none => simp
  | some k => exact h3 _ (List.mem_of_getElem? hk)
theorem join_len {m : KM} (h : KvOk m) (ks : List (List UInt8)) : (joinM m ks).length ≤ 65 * ks.length := by
  induction ks with
  | nil => simp [joinM]
  | cons k ks ih =>
    have hv : ((mfind m k).getD []).length ≤ 64 := by
      cases hf : mfind m k with
      | none => simp
      | some v => simpa using h.find hf
    simp only [joinM, List.length_append, List.length_cons, List.length_nil]
    omega
theorem dels_len (m : KM) (ks : List (List UInt8)) : (delsM m ks).length ≤ m.length := by
  induction ks generalizing m with
  | nil => exact Nat.le_refl _
  | cons k ks ih => exact Nat.le_trans (ih (mdel m k)) len_del_le
theorem set_len (m : KM) (k : List UInt8) (o : Option (List UInt8)) : (mset m k o).length ≤ m.length + 1 := by
  have h := len_del_le (l := m) (k := k)
  cases o with
  | none => show (mdel m k).length ≤ _; omega
  | some v => have := len_put_le (K := strK) (l := mdel m k) (k := k) (v := v); show (mput strK (mdel m k) k v).length ≤ _; omega
/-- What a state, and a reply, is behind a command. -/
structure Bound (m m' : KM) (r : Rp) : Prop where
  ok : KvOk m'
  len : m'.length ≤ m.length + 2
  text : r.text.length ≤ 1100
  code : r.code ≤ 3
theorem get_bound {m : KM} (h : KvOk m) (k : List UInt8) : (getM m k).text.length ≤ 1100 ∧ (getM m k).code ≤ 3 := by
  unfold getM
  cases hf : mfind m k with
  | none => simp
  | some v => have := h.find hf; exact ⟨by simp only; omega, by simp⟩
theorem do_bound {m : KM} {c : Cm} (h : KvOk m) (hl : m.length ≤ 1000000) : Bound m (kvDo m c).1 (kvDo m c).2 := by
  unfold kvDo
  split
  · rename_i hg
    have hA := keyA_len hg
    have hB := keyB_len hg
    have hn : c.new.length ≤ 64 := hg.2.2.2.2.2.2.2.1
    have hp := fun (k v : List UInt8) => len_put_le (K := strK) (l := m) (k := k) (v := v)
    have hd := fun (k : List UInt8) => len_del_le (l := m) (k := k)
    have hget := get_bound h (keyA c)
    unfold doM
    split
    · exact ⟨h.put hA hn, by have := hp (keyA c) c.new; simp only; omega, by simp, by simp⟩
    · exact ⟨h, by simp only; omega, hget.1, hget.2⟩
    · exact ⟨h.del _, by have := hd (keyA c); simp only; omega, hget.1, hget.2⟩
    · unfold addM
      cases numM ((mfind m (keyA c)).getD [48]) with
      | none => exact ⟨h, by simp only; omega, by simp, by simp⟩
      | some n =>
        simp only
        split
        · rename_i hf
          have := itoa_len hf
          exact ⟨h.put hA (by omega), by have := hp (keyA c) (Lib.itoa (n + c.n)); simp only; omega, by simp only; omega, by simp⟩
        · exact ⟨h, by simp only; omega, by simp, by simp⟩
    · unfold casM
      cases mfind m (keyA c) with
      | none => exact ⟨h, by simp only; omega, by simp, by simp⟩
      | some v =>
        simp only
        split
        · exact ⟨h.put hA hn, by have := hp (keyA c) c.new; simp only; omega, by simp, by simp⟩
        · exact ⟨h, by simp only; omega, by simp, by simp⟩
    · have h1 := h.set (o := mfind m (keyB c)) hA (fun v hv => h.find hv)
      have h2 := h1.set (o := mfind m (keyA c)) hB (fun v hv => h.find hv)
      have l1 := set_len m (keyA c) (mfind m (keyB c))
      have l2 := set_len (mset m (keyA c) (mfind m (keyB c))) (keyB c) (mfind m (keyA c))
      exact ⟨h2, by unfold swapM; simp only; omega, by simp, by simp⟩
    · have := join_len h c.keys
      have := (Good.keys hg).1
      exact ⟨h, by simp only; omega, by simp only; omega, by simp⟩
    · have l1 := dels_len m c.keys
      have l2 := itoa_len (n := (m.length : Int) - ((delsM m c.keys).length : Int)) (by simp only [fits, Bool.and_eq_true, decide_eq_true_eq]; omega)
      exact ⟨h.dels _, by simp only; omega, by simp only; omega, by simp⟩
  · exact ⟨h, by simp only; omega, by simp, by simp⟩

/-! ### once -/
theorem apDo_none {a : Ap} {c : Cm} (h : c.client = 0) : apDo a c = (a, ⟨2, []⟩, false) := by
  unfold apDo
  rw [if_pos h]
/-- Each command that came has its client's number, or one below. -/
def Told (l : List Cm) (i : Nat) (a : Ap) : Prop := ∀ j c, j < i → l[j]? = some c → c.client ≠ 0 → ∃ x, mfind a.t c.client = some x ∧ c.seq ≤ x.seq
theorem Told.zero (l : List Cm) (a : Ap) : Told l 0 a := fun j c hj => by omega
theorem Told.next {l : List Cm} {i : Nat} {a : Ap} {c : Cm} (h : Told l i a) (hc : l[i]? = some c) : Told l (i + 1) (apDo a c).1 := by
  intro j d hj hd h0
  have key : ∀ x, mfind a.t d.client = some x → d.seq ≤ x.seq → ∃ x, mfind (apDo a c).1.t d.client = some x ∧ d.seq ≤ x.seq := by
    intro x hf hs
    unfold apDo
    split
    · exact ⟨x, hf, hs⟩
    · split
      · rename_i h1 h2
        simp only
        rw [mfind_put]
        by_cases he : d.client = c.client
        · rw [if_pos he]
          refine ⟨_, rfl, ?_⟩
          unfold lookM at h2
          rw [← he, hf] at h2
          simp only at h2
          split at h2
          · show d.seq ≤ c.seq; omega
          · split at h2 <;> simp at h2
        · rw [if_neg he]
          exact ⟨x, hf, hs⟩
      · exact ⟨x, hf, hs⟩
  rcases Nat.lt_or_ge j i with h1 | h1
  · obtain ⟨x, hf, hs⟩ := h j d h1 hd h0
    exact key x hf hs
  · have : j = i := by omega
    subst this
    rw [hc] at hd
    cases hd
    unfold apDo
    rw [if_neg h0]
    split
    · simp only
      rw [mfind_put, if_pos rfl]
      exact ⟨_, rfl, Nat.le_refl _⟩
    · rename_i h2
      simp only
      unfold lookM at h2
      cases hf : mfind a.t c.client with
      | none => rw [hf] at h2; simp at h2
      | some x =>
        rw [hf] at h2
        simp only at h2
        refine ⟨x, rfl, ?_⟩
        split at h2
        · simp at h2
        · omega
/-- What an application has is bounded by how many commands it was handed. -/
structure ApOk (a : Ap) (i : Nat) : Prop where
  kv : KvOk a.m
  rise : Rise cliK a.t
  len : a.m.length ≤ 2 * i
  tab : a.t.length ≤ i
  n : a.n ≤ i
  row : ∀ p ∈ a.t, p.1 < 4294967296 ∧ p.2.seq < 4294967296 ∧ p.2.r.code ≤ 3 ∧ p.2.r.text.length ≤ 1100
theorem ApOk.zero : ApOk ap0 0 := ⟨KvOk.nil, rise_nil, by simp [ap0], by simp [ap0], by simp [ap0], by simp [ap0]⟩
theorem ApOk.mono {a : Ap} {i j : Nat} (h : ApOk a i) (hij : i ≤ j) : ApOk a j := ⟨h.kv, h.rise, by have := h.len; omega, by have := h.tab; omega, by have := h.n; omega, h.row⟩
theorem ApOk.next {a : Ap} {i : Nat} {c : Cm} (h : ApOk a i) (hi : i ≤ 10000) (h1 : c.client < 4294967296) (h2 : c.seq < 4294967296) : ApOk (apDo a c).1 (i + 1) := by
  unfold apDo
  split
  · exact h.mono (by omega)
  · split
    · have hb := do_bound (c := c) h.kv (by have := h.len; omega)
      have hp := len_put_le (K := cliK) (l := a.t) (k := c.client) (v := ⟨c.seq, (kvDo a.m c).2⟩)
      refine ⟨hb.ok, rise_put h.rise, ?_, ?_, ?_, fun p hp' => ?_⟩
      · have := hb.len; have := h.len; simp only; omega
      · have := h.tab; simp only; omega
      · have := h.n; simp only; omega
      · rcases mem_put hp' with rfl | hp'
        · exact ⟨h1, h2, hb.code, hb.text⟩
        · exact h.row p hp'
    · exact h.mono (by omega)
end Go.Proofs.YthpnnffogbjhpaaGreatDoor.Kv
namespace Go.Proofs.YthpnnffogbjhpaaGreatDoor.Kv
set_option linter.unusedSimpArgs false
set_option linter.unusedVariables false
set_option linter.unnecessarySimpa false
open Go.RowKit Go.Proofs.YthpnnffogbjhpaaGreatDoor.Crc Go.Proofs.YthpnnffogbjhpaaGreatDoor.Cm

theorem find_dels (ks : List (List UInt8)) : ∀ (m : KM) (k : List UInt8), mfind (delsM m ks) k = if k ∈ ks then none else mfind m k := by
  induction ks with
  | nil => intro m k; simp [delsM]
  | cons x ks ih =>
    intro m k
    show mfind (delsM (mdel m x) ks) k = _
    rw [ih, mfind_del]
    by_cases h1 : k ∈ ks
    · simp [h1]
    · by_cases h2 : k = x <;> simp [h1, h2]
theorem find_set (m : KM) (k : List UInt8) (o : Option (List UInt8)) (j : List UInt8) : mfind (mset m k o) j = if j = k then o else mfind m j := by
  cases o with
  | none => show mfind (mdel m k) j = _; rw [mfind_del]
  | some v =>
    show mfind (mput strK (mdel m k) k v) j = _
    rw [mfind_put, mfind_del]
    by_cases h : j = k <;> simp [h]
theorem len_del (m : KM) (k : List UInt8) (h : Rise strK m) : (mdel m k).length + (if (mfind m k).isSome then 1 else 0) = m.length := by
  induction m with
  | nil => rfl
  | cons p t ih =>
    have h1 := rise_fresh h
    have h2 : Rise strK t := List.Pairwise.of_cons h
    have h3 := ih h2
    rw [mfind_cons]
    by_cases e : p.1 = k
    · rw [if_pos e]
      rw [e] at h1
      rw [h1] at h3
      have : mdel (p :: t) k = mdel t k := by simp [mdel, e]
      rw [this]
      simp at h3 ⊢
      omega
    · rw [if_neg e]
      have : mdel (p :: t) k = p :: mdel t k := by simp [mdel, e]
      rw [this, List.length_cons, List.length_cons]
      omega
/-- How many keys go. -/
def delN (m : KM) : List (List UInt8) → Nat
  | [] => 0
  | k :: ks => (if (mfind m k).isSome then 1 else 0) + delN (mdel m k) ks
theorem delN_len (ks : List (List UInt8)) : ∀ m : KM, Rise strK m → (delsM m ks).length + delN m ks = m.length := by
  induction ks with
  | nil => intro m _; rfl
  | cons k ks ih =>
    intro m h
    have h1 := ih (mdel m k) (rise_del h)
    have h2 := len_del m k h
    show (delsM (mdel m k) ks).length + ((if (mfind m k).isSome then 1 else 0) + delN (mdel m k) ks) = _
    omega
theorem delN_local (ks : List (List UInt8)) : ∀ m m' : KM, (∀ k ∈ ks, mfind m k = mfind m' k) → delN m ks = delN m' ks := by
  induction ks with
  | nil => intro _ _ _; rfl
  | cons k ks ih =>
    intro m m' h
    show (if (mfind m k).isSome then 1 else 0) + delN (mdel m k) ks = (if (mfind m' k).isSome then 1 else 0) + delN (mdel m' k) ks
    rw [h k (by simp), ih (mdel m k) (mdel m' k) (fun j hj => by rw [mfind_del, mfind_del, h j (by simp [hj])])]
theorem join_local (ks : List (List UInt8)) (m m' : KM) (h : ∀ k ∈ ks, mfind m k = mfind m' k) : joinM m ks = joinM m' ks := by
  induction ks with
  | nil => rfl
  | cons k ks ih => simp only [joinM]; rw [h k (by simp), ih (fun j hj => h j (by simp [hj]))]
theorem keyA_mem {c : Cm} (h : Cm.Good c) : keyA c ∈ c.keys := by
  have h2 := (Good.keys h).2.1
  unfold keyA
  rw [List.getD_eq_getElem?_getD, List.getElem?_eq_getElem (by omega)]
  exact List.getElem_mem _
theorem keyB_mem {c : Cm} (h : Cm.Good c) (h6 : c.kind = 6) : keyB c ∈ c.keys := by
  have h2 : 1 < c.keys.length := by have := h.2.2.2.1; rw [h6] at this; exact this
  unfold keyB
  rw [List.getD_eq_getElem?_getD, List.getElem?_eq_getElem h2]
  exact List.getElem_mem _
theorem kind_of {c : Cm} (h : Cm.Good c) : c.kind = 1 ∨ c.kind = 2 ∨ c.kind = 3 ∨ c.kind = 4 ∨ c.kind = 5 ∨ c.kind = 6 ∨ c.kind = 7 ∨ c.kind = 8 := by
  have := h.2.1; have := h.2.2.1; omega
theorem rise_dels {m : KM} (ks : List (List UInt8)) (h : Rise strK m) : Rise strK (delsM m ks) := by
  induction ks generalizing m with
  | nil => exact h
  | cons k ks ih => exact ih (rise_del h)
theorem rise_set {m : KM} {k : List UInt8} {o : Option (List UInt8)} (h : Rise strK m) : Rise strK (mset m k o) := by
  cases o with
  | none => exact rise_del h
  | some v => exact rise_put (rise_del h)
theorem rise_do {m : KM} {c : Cm} (h : Rise strK m) : Rise strK (kvDo m c).1 := by
  unfold kvDo
  split
  · rename_i hg
    unfold doM
    split
    · exact rise_put h
    · exact h
    · exact rise_del h
    · unfold addM
      split
      · exact h
      · split
        · exact rise_put h
        · exact h
    · unfold casM
      split
      · exact h
      · split
        · exact rise_put h
        · exact h
    · exact rise_set (rise_set h)
    · exact h
    · exact rise_dels _ h
  · exact h
theorem do_frame {m : KM} {c : Cm} {k : List UInt8} (hk : k ∉ c.keys) : mfind (kvDo m c).1 k = mfind m k := by
  unfold kvDo
  split
  · rename_i hg
    have hA : k ≠ keyA c := fun e => hk (e ▸ keyA_mem hg)
    rcases kind_of hg with h | h | h | h | h | h | h | h <;> simp only [doM, h]
    · rw [mfind_put, if_neg hA]
    · rw [mfind_del, if_neg hA]
    · unfold addM
      split
      · rfl
      · split
        · simp only; rw [mfind_put, if_neg hA]
        · rfl
    · unfold casM
      split
      · rfl
      · split
        · simp only; rw [mfind_put, if_neg hA]
        · rfl
    · have hB : k ≠ keyB c := fun e => hk (e ▸ keyB_mem hg h)
      unfold swapM
      rw [find_set, if_neg hB, find_set, if_neg hA]
    · rw [find_dels, if_neg hk]
  · rfl
theorem do_local {m m' : KM} {c : Cm} (hm : Rise strK m) (hm' : Rise strK m') (h : ∀ k ∈ c.keys, mfind m k = mfind m' k) : (kvDo m c).2 = (kvDo m' c).2 ∧ ∀ k ∈ c.keys, mfind (kvDo m c).1 k = mfind (kvDo m' c).1 k := by
  unfold kvDo
  split
  · rename_i hg
    have hA := h _ (keyA_mem hg)
    rcases kind_of hg with h1 | h1 | h1 | h1 | h1 | h1 | h1 | h1 <;> simp only [doM, h1]
    · exact ⟨trivial, fun k hk => by rw [mfind_put, mfind_put, h k hk]⟩
    · unfold getM
      rw [hA]
      exact ⟨rfl, h⟩
    · unfold getM
      rw [hA]
      exact ⟨rfl, fun k hk => by rw [mfind_del, mfind_del, h k hk]⟩
    · unfold addM
      rw [hA]
      split
      · exact ⟨rfl, h⟩
      · split
        · exact ⟨rfl, fun k hk => by simp only; rw [mfind_put, mfind_put, h k hk]⟩
        · exact ⟨rfl, h⟩
    · unfold casM
      rw [hA]
      split
      · exact ⟨rfl, h⟩
      · split
        · exact ⟨rfl, fun k hk => by simp only; rw [mfind_put, mfind_put, h k hk]⟩
        · exact ⟨rfl, h⟩
    · have hB := h _ (keyB_mem hg h1)
      unfold swapM
      exact ⟨trivial, fun k hk => by rw [find_set, find_set, find_set, find_set, hA, hB, h k hk]⟩
    · exact ⟨by rw [join_local _ _ _ h], h⟩
    · refine ⟨?_, fun k hk => by rw [find_dels, find_dels, h k hk]⟩
      have e1 := delN_len c.keys m hm
      have e2 := delN_len c.keys m' hm'
      have e3 := delN_local c.keys m m' h
      rw [show (m.length : Int) - ((delsM m c.keys).length : Int) = (m'.length : Int) - ((delsM m' c.keys).length : Int) by omega]
  · exact ⟨rfl, h⟩
theorem do_apart {m : KM} {a b : Cm} (hm : Rise strK m) (hab : ∀ k ∈ b.keys, k ∉ a.keys) :
    (kvDo (kvDo m a).1 b).2 = (kvDo m b).2 ∧ (kvDo (kvDo m b).1 a).2 = (kvDo m a).2 ∧ (kvDo (kvDo m a).1 b).1 = (kvDo (kvDo m b).1 a).1 := by
  have fa : ∀ k ∈ b.keys, mfind (kvDo m a).1 k = mfind m k := fun k hk => do_frame (hab k hk)
  have fb : ∀ k ∈ a.keys, mfind (kvDo m b).1 k = mfind m k := fun k hk => do_frame (fun h => hab k h hk)
  have lb := do_local (c := b) (rise_do (c := a) hm) hm fa
  have la := do_local (c := a) (rise_do (c := b) hm) hm fb
  refine ⟨lb.1, la.1, rise_ext (rise_do (rise_do hm)) (rise_do (rise_do hm)) fun k => ?_⟩
  by_cases ha : k ∈ a.keys
  · rw [do_frame (c := b) (fun h => hab k h ha), la.2 k ha]
  · rw [do_frame (c := a) ha]
    by_cases hb : k ∈ b.keys
    · exact lb.2 k hb
    · rw [do_frame (c := b) hb, do_frame (c := a) ha, do_frame (c := b) hb]
end Go.Proofs.YthpnnffogbjhpaaGreatDoor.Kv
namespace Go.Proofs.YthpnnffogbjhpaaGreatDoor.Kv
set_option linter.unusedSimpArgs false
set_option linter.unusedVariables false
set_option linter.unnecessarySimpa false
open Go.RowKit Go.Proofs.YthpnnffogbjhpaaGreatDoor.Crc Go.Proofs.YthpnnffogbjhpaaGreatDoor.Cm

theorem before_less : ∀ a b : List UInt8, bytesBefore a b = Op.bytesLess a b
  | [], [] => rfl
  | [], _ :: _ => rfl
  | _ :: _, [] => rfl
  | a :: x, b :: y => by simp only [bytesBefore, Op.bytesLess, before_less x y]
theorem less_eq : ∀ x y : List UInt8, Op.bytesLess x y = decide (x < y)
  | [], [] => rfl
  | [], _ :: _ => by simp [Op.bytesLess]
  | _ :: _, [] => by simp [Op.bytesLess]
  | a :: x, b :: y => by
    simp only [Op.bytesLess, less_eq x y, List.cons_lt_cons_iff]
    by_cases h1 : a < b
    · simp [h1]
    · by_cases h2 : a = b
      · simp [h2]
      · simp [h1, h2]
theorem strK_lt (a b : List UInt8) : strK.lt a b = decide (a < b) := by
  show bytesBefore a b = _
  rw [before_less]
  exact less_eq a b
theorem lex_trans {a b c : List UInt8} (h1 : a < b) (h2 : b < c) : a < c := by
  have := strK.lt_trans (a := a) (b := b) (c := c) (by rw [strK_lt]; simpa using h1) (by rw [strK_lt]; simpa using h2)
  rw [strK_lt] at this
  simpa using this
theorem lex_total {a b : List UInt8} (h : a ≠ b) : a < b ∨ b < a := by
  have := strK.total (a := a) (b := b) (by exact h)
  rcases this with h1 | h1
  · exact .inl (by have h2 : strK.lt a b = true := h1; rw [strK_lt] at h2; simpa using h2)
  · exact .inr (by have h2 : strK.lt b a = true := h1; rw [strK_lt] at h2; simpa using h2)
theorem lex_irrefl (a : List UInt8) : ¬ a < a := fun h => by
  have := strK.lt_irrefl a
  rw [strK_lt, decide_eq_true h] at this
  cases this
theorem lex_le {a b : List UInt8} : a ≤ b ↔ (a < b ∨ a = b) := by
  constructor
  · intro h
    by_cases e : a = b
    · exact .inr e
    · rcases lex_total e with h1 | h1
      · exact .inl h1
      · exact absurd h1 (List.not_lt.2 h)
  · rintro (h | rfl)
    · exact List.le_of_lt h
    · exact List.le_refl _
/-- Strictly rising. -/
abbrev Asc (l : List (List UInt8)) : Prop := l.Pairwise (· < ·)
theorem asc_ext {a b : List (List UInt8)} (ha : Asc a) (hb : Asc b) (h : ∀ x, x ∈ a ↔ x ∈ b) : a = b := by
  have key : ∀ l : List (List UInt8), Asc l → Rise strK (l.map fun k => (k, ([] : List UInt8))) := fun l hl => by
    unfold Rise
    rw [List.pairwise_map]
    exact hl.imp fun {x y} hxy => by rw [strK_lt]; simpa using hxy
  have find : ∀ (l : List (List UInt8)) (j : List UInt8), mfind (l.map fun k => (k, ([] : List UInt8))) j = if j ∈ l then some [] else none := fun l j => by
    induction l with
    | nil => rfl
    | cons x t ih =>
      rw [List.map_cons, mfind_cons]
      by_cases e : x = j
      · subst e; simp
      · rw [if_neg e, ih]
        by_cases hj : j ∈ t
        · simp [hj]
        · rw [if_neg hj, if_neg]
          simp only [List.mem_cons, not_or]
          exact ⟨fun h => e h.symm, hj⟩
  have e := rise_ext (key a ha) (key b hb) fun k => by
    rw [find, find]
    by_cases hk : k ∈ a
    · rw [if_pos hk, if_pos ((h k).1 hk)]
    · rw [if_neg hk, if_neg (fun hb' => hk ((h k).2 hb'))]
  have := congrArg (List.map Prod.fst) e
  rw [List.map_map, List.map_map] at this
  have hid : (Prod.fst ∘ fun k : List UInt8 => (k, ([] : List UInt8))) = id := rfl
  rw [hid, List.map_id, List.map_id] at this
  exact this
def sortM (ks : List (List UInt8)) : List (List UInt8) := Lib.compact (ks.mergeSort fun x y => decide (x ≤ y))
theorem upTo_says {zs : List (List UInt8)} (hs : zs.Pairwise (· ≤ ·)) : ∀ m, m ≤ zs.length → Asc (Lib.compactUpTo zs.toArray m) ∧ (∀ x, x ∈ Lib.compactUpTo zs.toArray m ↔ ∃ j, j < m ∧ zs[j]? = some x) := by
  have get : ∀ (j : Nat) (h : j < zs.length), zs.toArray[j]! = zs[j] := fun j h => by simp [h]
  have le : ∀ (i j : Nat) (hi : i < zs.length) (hj : j < zs.length), i ≤ j → zs[i] ≤ zs[j] := fun i j hi hj hij => by
    rcases Nat.lt_or_ge i j with h | h
    · exact List.pairwise_iff_getElem.1 hs i j hi hj h
    · have : i = j := by omega
      subst this
      exact List.le_refl _
  intro m
  induction m with
  | zero => intro _; exact ⟨by simp [Lib.compactUpTo], by simp [Lib.compactUpTo]⟩
  | succ m ih =>
    intro hm
    obtain ⟨h1, h2⟩ := ih (by omega)
    rw [Lib.compactUpTo_succ]
    have hmz : zs[m]? = some zs[m] := List.getElem?_eq_getElem (by omega)
    by_cases hk : Lib.keeps zs.toArray m = true
    · rw [if_pos hk, get m (by omega)]
      refine ⟨List.pairwise_append.2 ⟨h1, by simp, fun a ha b hb => ?_⟩, fun x => ?_⟩
      · simp only [List.mem_singleton] at hb
        subst hb
        obtain ⟨j, hj, hja⟩ := (h2 a).1 ha
        obtain ⟨hjl, rfl⟩ := List.getElem?_eq_some_iff.1 hja
        simp only [Lib.keeps, decide_eq_true_eq] at hk
        rcases hk with hk | hk
        · omega
        · rw [get m (by omega), get (m - 1) (by omega)] at hk
          have q1 := le j (m - 1) hjl (by omega) (by omega)
          have q2 := le (m - 1) m (by omega) (by omega) (by omega)
          have q3 : zs[m - 1] < zs[m] := by
            rcases lex_le.1 q2 with h | h
            · exact h
            · exact absurd h.symm hk
          rcases lex_le.1 q1 with h | h
          · exact lex_trans h q3
          · rw [h]; exact q3
      · rw [List.mem_append, h2, List.mem_singleton]
        constructor
        · rintro (⟨j, hj, hx⟩ | rfl)
          · exact ⟨j, by omega, hx⟩
          · exact ⟨m, by omega, hmz⟩
        · rintro ⟨j, hj, hx⟩
          by_cases e : j = m
          · subst e; rw [hmz] at hx; cases hx; exact .inr rfl
          · exact .inl ⟨j, by omega, hx⟩
    · rw [if_neg hk, List.append_nil]
      refine ⟨h1, fun x => ?_⟩
      rw [h2]
      constructor
      · rintro ⟨j, hj, hx⟩; exact ⟨j, by omega, hx⟩
      · rintro ⟨j, hj, hx⟩
        by_cases e : j = m
        · subst e
          simp only [Lib.keeps, decide_eq_true_eq, not_or, Decidable.not_not] at hk
          rw [get j (by omega), get (j - 1) (by omega)] at hk
          refine ⟨j - 1, by omega, ?_⟩
          rw [← hx, hmz, hk.2, List.getElem?_eq_getElem (by omega)]
        · exact ⟨j, by omega, hx⟩
theorem sorted_of (ks : List (List UInt8)) : (ks.mergeSort fun x y => decide (x ≤ y)).Pairwise (· ≤ ·) := by
  have h := List.pairwise_mergeSort (le := fun x y : List UInt8 => decide (x ≤ y)) (fun a b c h1 h2 => by
    simp only [decide_eq_true_eq] at h1 h2 ⊢
    exact List.le_trans h1 h2) (fun a b => by
    simp only [Bool.or_eq_true, decide_eq_true_eq]
    exact List.le_total a b) ks
  exact h.imp fun {a b} h => by simpa using h
theorem sortM_says (ks : List (List UInt8)) : Asc (sortM ks) ∧ ∀ x, x ∈ sortM ks ↔ x ∈ ks := by
  obtain ⟨h1, h2⟩ := upTo_says (sorted_of ks) _ (Nat.le_refl _)
  refine ⟨h1, fun x => ?_⟩
  show x ∈ Lib.compactUpTo _ _ ↔ _
  rw [h2, ← List.mem_mergeSort (le := fun x y : List UInt8 => decide (x ≤ y)) (l := ks)]
  constructor
  · rintro ⟨j, -, h⟩; exact List.mem_of_getElem? h
  · intro h
    obtain ⟨j, hj⟩ := List.mem_iff_getElem?.1 h
    exact ⟨j, (List.getElem?_eq_some_iff.1 hj).1, hj⟩
/-- The document's: pairs without values. -/
def touchP (ks : List (List UInt8)) : KM := ks.foldl (fun m k => mput strK m k []) []
theorem touchP_next {ks : List (List UInt8)} {i : Nat} {k : List UInt8} (h : ks[i]? = some k) : touchP (ks.take (i + 1)) = mput strK (touchP (ks.take i)) k [] := by
  rw [List.take_add_one, h]
  unfold touchP
  rw [List.foldl_append]
  rfl
theorem fold_says (ks : List (List UInt8)) : ∀ m : KM, Rise strK m → Rise strK (ks.foldl (fun m k => mput strK m k []) m) ∧ ∀ x, (mfind (ks.foldl (fun m k => mput strK m k []) m) x).isSome = true ↔ (x ∈ ks ∨ (mfind m x).isSome = true) := by
  induction ks with
  | nil => intro m hm; exact ⟨hm, by simp⟩
  | cons k ks ih =>
    intro m hm
    obtain ⟨h1, h2⟩ := ih (mput strK m k []) (rise_put hm)
    refine ⟨h1, fun x => ?_⟩
    rw [List.foldl_cons, h2, mfind_put]
    by_cases e : x = k
    · simp [e]
    · simp [e]
theorem touchP_says (ks : List (List UInt8)) : Rise strK (touchP ks) ∧ ∀ x, (mfind (touchP ks) x).isSome = true ↔ x ∈ ks := by
  obtain ⟨h1, h2⟩ := fold_says ks [] rise_nil
  exact ⟨h1, fun x => by have h := h2 x; rw [mfind_nil] at h; unfold touchP; simpa using h⟩
theorem touchP_len (ks : List (List UInt8)) : (touchP ks).length ≤ ks.length := by
  have key : ∀ (ks : List (List UInt8)) (m : KM), (ks.foldl (fun m k => mput strK m k []) m).length ≤ m.length + ks.length := by
    intro ks
    induction ks with
    | nil => intro m; simp
    | cons k ks ih =>
      intro m
      have h1 := ih (mput strK m k [])
      have h2 := len_put_le (K := strK) (l := m) (k := k) (v := [])
      simp only [List.foldl_cons, List.length_cons]
      omega
  simpa [touchP] using key ks []
theorem mem_find {m : KM} (x : List UInt8) : x ∈ m.map (·.1) ↔ (mfind m x).isSome = true := by
  constructor
  · intro h
    obtain ⟨p, hp, rfl⟩ := List.mem_map.1 h
    obtain ⟨v, hv⟩ := mfind_of_mem hp
    rw [hv]; rfl
  · intro h
    obtain ⟨v, hv⟩ := Option.isSome_iff_exists.1 h
    exact List.mem_map.2 ⟨_, mfind_mem hv, rfl⟩
theorem touch_same (ks : List (List UInt8)) : (touchP ks).map (·.1) = sortM ks := by
  obtain ⟨h1, h2⟩ := touchP_says ks
  obtain ⟨k1, k2⟩ := sortM_says ks
  refine asc_ext ?_ k1 fun x => by rw [mem_find, h2, k2]
  show List.Pairwise _ _
  rw [List.pairwise_map]
  exact List.Pairwise.imp (fun {p q} h => by rw [strK_lt] at h; simpa using h) h1
end Go.Proofs.YthpnnffogbjhpaaGreatDoor.Kv
namespace Go.Proofs.YthpnnffogbjhpaaGreatDoor.Kv
set_option linter.unusedSimpArgs false
set_option linter.unusedVariables false
set_option linter.unnecessarySimpa false
open Go.RowKit Go.Proofs.YthpnnffogbjhpaaGreatDoor.Crc Go.Proofs.YthpnnffogbjhpaaGreatDoor.Cm

theorem look_put {t : TM} {i j q : Nat} {x : La} (h : i ≠ j) : lookM (mput cliK t i x) j q = lookM t j q := by
  unfold lookM
  rw [mfind_put, if_neg (fun e => h e.symm)]
theorem put_swap {t : TM} {i j : Nat} {x y : La} (ht : Rise cliK t) (h : i ≠ j) : mput cliK (mput cliK t i x) j y = mput cliK (mput cliK t j y) i x :=
  rise_ext (rise_put (rise_put ht)) (rise_put (rise_put ht)) fun k => by
    rw [mfind_put, mfind_put, mfind_put, mfind_put]
    by_cases h1 : k = j
    · subst h1; rw [if_pos rfl, if_neg (fun e => h e.symm), if_pos rfl]
    · by_cases h2 : k = i
      · subst h2; rw [if_neg h1, if_pos rfl, if_pos rfl]
      · rw [if_neg h1, if_neg h2, if_neg h2, if_neg h1]
/-- An application's rows rise. -/
structure ApRise (a : Ap) : Prop where
  m : Rise strK a.m
  t : Rise cliK a.t
theorem ApRise.next {a : Ap} {c : Cm} (h : ApRise a) : ApRise (apDo a c).1 := by
  unfold apDo
  split
  · exact h
  · split
    · exact ⟨rise_do h.m, rise_put h.t⟩
    · exact h
/-- Not in each other's way. -/
def Apart (c d : Cm) : Prop := c.client ≠ d.client ∧ ∀ k ∈ d.keys, k ∉ c.keys
theorem Apart.symm {c d : Cm} (h : Apart c d) : Apart d c := ⟨fun e => h.1 e.symm, fun k hk hd => h.2 k hd hk⟩
def Fr (a : Ap) (c : Cm) : Prop := c.client ≠ 0 ∧ (lookM a.t c.client c.seq).2 = 0
theorem ap_old {a : Ap} {c : Cm} (h : ¬ Fr a c) : ∃ r, ∀ b : Ap, lookM b.t c.client c.seq = lookM a.t c.client c.seq → apDo b c = (b, r, false) := by
  by_cases h0 : c.client = 0
  · exact ⟨_, fun b _ => by unfold apDo; rw [if_pos h0]⟩
  · have h1 : ¬ (lookM a.t c.client c.seq).2 = 0 := fun e => h ⟨h0, e⟩
    exact ⟨_, fun b hb => by unfold apDo; rw [if_neg h0, hb, if_neg h1]⟩
theorem ap_fresh {a b : Ap} {c : Cm} (h : Fr a c) (hb : lookM b.t c.client c.seq = lookM a.t c.client c.seq) :
    apDo b c = (⟨(kvDo b.m c).1, mput cliK b.t c.client ⟨c.seq, (kvDo b.m c).2⟩, b.n + 1⟩, (kvDo b.m c).2, true) := by
  unfold apDo
  rw [if_neg h.1, hb, if_pos h.2]
theorem ap_apart {a : Ap} {c d : Cm} (ha : ApRise a) (h : Apart c d) :
    (apDo (apDo a c).1 d).2 = (apDo a d).2 ∧ (apDo (apDo a d).1 c).2 = (apDo a c).2 ∧ (apDo (apDo a c).1 d).1 = (apDo (apDo a d).1 c).1 := by
  obtain ⟨e1, e2, e3⟩ := do_apart (a := c) (b := d) ha.m h.2
  have l1 := fun (x : La) => look_put (t := a.t) (x := x) (q := d.seq) h.1
  have l2 := fun (x : La) => look_put (t := a.t) (x := x) (q := c.seq) (fun e => h.1 e.symm)
  by_cases fc : Fr a c
  · have hc := ap_fresh fc (b := a) rfl
    by_cases fd : Fr a d
    · have hd := ap_fresh fd (b := a) rfl
      rw [hc, hd]
      simp only
      rw [ap_fresh fd (l1 _), ap_fresh fc (l2 _)]
      simp only
      rw [e1, e2, e3, put_swap ha.t h.1]
      exact ⟨rfl, rfl, rfl⟩
    · obtain ⟨r, hr⟩ := ap_old fd
      have hd := hr a rfl
      rw [hc, hd]
      simp only
      rw [hr _ (l1 _), hc]
      exact ⟨rfl, rfl, rfl⟩
  · obtain ⟨r, hr⟩ := ap_old fc
    have hc := hr a rfl
    by_cases fd : Fr a d
    · have hd := ap_fresh fd (b := a) rfl
      rw [hc, hd]
      simp only
      rw [hr _ (l2 _)]
      exact ⟨trivial, rfl, rfl⟩
    · obtain ⟨r2, hr2⟩ := ap_old fd
      have hd := hr2 a rfl
      rw [hc, hd]
      simp only
      rw [hc]
      exact ⟨trivial, rfl, rfl⟩
/-! ### runs: of places, in some order -/
def cm0 : Cm := ⟨0, 0, 0, [], [], [], 0⟩
/-- What a run tells: of each place in its order, the reply and whether it was fresh; and the application behind it. -/
def runM (l : List Cm) : Ap → List Nat → Ap × List (Nat × Rp × Bool)
  | a, [] => (a, [])
  | a, p :: ps => ((runM l (apDo a (l.getD p cm0)).1 ps).1, (p, (apDo a (l.getD p cm0)).2) :: (runM l (apDo a (l.getD p cm0)).1 ps).2)
theorem run_app (l : List Cm) : ∀ (ps qs : List Nat) (a : Ap), runM l a (ps ++ qs) = ((runM l (runM l a ps).1 qs).1, (runM l a ps).2 ++ (runM l (runM l a ps).1 qs).2)
  | [], qs, a => rfl
  | p :: ps, qs, a => by
    simp only [List.cons_append, runM]
    rw [run_app l ps qs]
/-- A place goes to the front past places that are not in its way. -/
theorem run_front (l : List Cm) (x : Nat) : ∀ (us : List Nat) (a : Ap), ApRise a → (∀ p ∈ us, Apart (l.getD p cm0) (l.getD x cm0)) →
    (runM l a (us ++ [x])).1 = (runM l a (x :: us)).1 ∧ ∃ t, (runM l a (us ++ [x])).2 = (runM l (apDo a (l.getD x cm0)).1 us).2 ++ [t] ∧ t = (x, (apDo a (l.getD x cm0)).2)
  | [], a, ha, _ => ⟨rfl, _, rfl, rfl⟩
  | p :: us, a, ha, h => by
    obtain ⟨k1, k2, k3⟩ := ap_apart ha (h p (by simp))
    obtain ⟨i1, t, i2, i3⟩ := run_front l x us (apDo a (l.getD p cm0)).1 ha.next (fun q hq => h q (by simp [hq]))
    simp only [List.cons_append, runM] at i1 i2 i3 ⊢
    rw [i1, k3]
    refine ⟨rfl, t, ?_, ?_⟩
    · rw [i2, k2, k3]
    · rw [i3, k1]
/-- An order in which what is in each other's way rises tells what the places one by one tell. -/
theorem run_sorted (l : List Cm) : ∀ (qs ps : List Nat) (a : Ap), ApRise a → ps.Perm qs → qs.Pairwise (· < ·) → ps.Pairwise (fun p q => q < p → Apart (l.getD p cm0) (l.getD q cm0)) →
    (runM l a ps).1 = (runM l a qs).1 ∧ ∀ t, t ∈ (runM l a ps).2 ↔ t ∈ (runM l a qs).2
  | [], ps, a, _, hp, _, _ => by
    rw [List.perm_nil.1 hp]
    exact ⟨rfl, fun _ => Iff.rfl⟩
  | x :: qs, ps, a, ha, hp, hs, hw => by
    obtain ⟨us, vs, rfl⟩ := List.append_of_mem (hp.mem_iff.2 (List.mem_cons_self))
    obtain ⟨hx, hs'⟩ := List.pairwise_cons.1 hs
    have hp' : (us ++ vs).Perm qs := by
      have h1 : (us ++ x :: vs).Perm (x :: (us ++ vs)) := List.perm_middle
      exact (List.perm_cons x).1 (h1.symm.trans hp)
    obtain ⟨w1, w2, w3⟩ := List.pairwise_append.1 hw
    have hfr : ∀ p ∈ us, Apart (l.getD p cm0) (l.getD x cm0) := fun p hpu => by
      refine w3 p hpu x (by simp) ?_
      exact hx p (hp'.mem_iff.1 (by simp [hpu]))
    have hw' : (us ++ vs).Pairwise (fun p q => q < p → Apart (l.getD p cm0) (l.getD q cm0)) :=
      List.pairwise_append.2 ⟨w1, (List.pairwise_cons.1 w2).2, fun p hpu q hq => w3 p hpu q (by simp [hq])⟩
    obtain ⟨i1, i2⟩ := run_sorted l qs (us ++ vs) (apDo a (l.getD x cm0)).1 ha.next hp' hs' hw'
    obtain ⟨f1, t, f2, rfl⟩ := run_front l x us a ha hfr
    have e : us ++ x :: vs = (us ++ [x]) ++ vs := by simp
    rw [e, run_app, f1, f2]
    rw [run_app] at i1 i2
    simp only [runM] at i1 i2 ⊢
    refine ⟨i1, fun t => ?_⟩
    have := i2 t
    simp only [List.mem_append, List.mem_cons, List.not_mem_nil, or_false] at this ⊢
    rw [← this]
    constructor
    · rintro ((h | h) | h)
      · exact .inr (.inl h)
      · exact .inl h
      · exact .inr (.inr h)
    · rintro (h | h | h)
      · exact .inl (.inr h)
      · exact .inl (.inl h)
      · exact .inr h
end Go.Proofs.YthpnnffogbjhpaaGreatDoor.Kv
namespace Go.Proofs.YthpnnffogbjhpaaGreatDoor.Kv
set_option linter.unusedSimpArgs false
set_option linter.unusedVariables false
set_option linter.unnecessarySimpa false
open Go.RowKit Go.Proofs.YthpnnffogbjhpaaGreatDoor.Crc Go.Proofs.YthpnnffogbjhpaaGreatDoor.Cm

/-- The next wave behind those that touched a key, or a client's; and behind the last lone one. -/
structure Ft where
  ks : List (List UInt8 × Nat)
  cs : List (Nat × Nat)
  lone : Nat
  top : Nat
def at0 {κ : Type} [DecidableEq κ] (m : List (κ × Nat)) (k : κ) : Nat := (mfind m k).getD 0
def wvMax (m : List (List UInt8 × Nat)) (l : List (List UInt8)) (w : Nat) : Nat := l.foldl (fun w k => max w (at0 m k)) w
def wvPut (m : List (List UInt8 × Nat)) (l : List (List UInt8)) (v : Nat) : List (List UInt8 × Nat) := l.foldl (fun m k => mput strK m k v) m
def loneM (c : Cm) : Bool := decide (4 < (sortM c.keys).length)
def ftW (f : Ft) (c : Cm) : Nat := if loneM c then f.top else wvMax f.ks (sortM c.keys) (max f.lone (at0 f.cs c.client))
def ftNext (f : Ft) (c : Cm) : Ft :=
  ⟨wvPut f.ks (sortM c.keys) (ftW f c + 1), mput cliK f.cs c.client (ftW f c + 1), if loneM c then ftW f c + 1 else f.lone, max f.top (ftW f c + 1)⟩
def wavesF : Ft → List Cm → List Nat
  | _, [] => []
  | f, c :: l => ftW f c :: wavesF (ftNext f c) l
def ft0 : Ft := ⟨[], [], 0, 0⟩
def wavesM (l : List Cm) : List Nat := wavesF ft0 l
theorem waves_len : ∀ (l : List Cm) (f : Ft), (wavesF f l).length = l.length
  | [], _ => rfl
  | c :: l, f => by simp [wavesF, waves_len l]
theorem at0_put {κ : Type} [DecidableEq κ] {K : Kys κ} {m : List (κ × Nat)} {k j : κ} {v : Nat} : at0 (mput K m k v) j = if j = k then v else at0 m j := by
  unfold at0; rw [mfind_put]; split <;> rfl
theorem at0_wvPut : ∀ {l : List (List UInt8)} {m : List (List UInt8 × Nat)} {v : Nat} {j : List UInt8}, at0 (wvPut m l v) j = if j ∈ l then v else at0 m j
  | [], m, v, j => by simp [wvPut]
  | k :: l, m, v, j => by
    have := at0_wvPut (l := l) (m := mput strK m k v) (v := v) (j := j)
    unfold wvPut at this ⊢
    rw [List.foldl_cons, this, at0_put]
    by_cases h1 : j ∈ l
    · simp [h1]
    · by_cases h2 : j = k
      · simp [h2]
      · simp [h1, h2]
theorem wvMax_ge {m : List (List UInt8 × Nat)} : ∀ {l : List (List UInt8)} {w : Nat}, w ≤ wvMax m l w ∧ ∀ k ∈ l, at0 m k ≤ wvMax m l w
  | [], w => ⟨Nat.le_refl _, fun _ h => nomatch h⟩
  | k :: l, w => by
    obtain ⟨h1, h2⟩ := wvMax_ge (m := m) (l := l) (w := max w (at0 m k))
    have e : wvMax m (k :: l) w = wvMax m l (max w (at0 m k)) := rfl
    rw [e]
    refine ⟨by omega, fun j hj => ?_⟩
    rcases List.mem_cons.1 hj with rfl | hj
    · omega
    · exact h2 j hj
theorem wvMax_le {m : List (List UInt8 × Nat)} {b : Nat} (hm : ∀ k, at0 m k ≤ b) : ∀ {l : List (List UInt8)} {w : Nat}, w ≤ b → wvMax m l w ≤ b
  | [], w, h => h
  | k :: l, w, h => by
    have e : wvMax m (k :: l) w = wvMax m l (max w (at0 m k)) := rfl
    rw [e]
    exact wvMax_le hm (Nat.max_le.2 ⟨h, hm k⟩)
structure FtOk (f : Ft) : Prop where
  l : f.lone ≤ f.top
  k : ∀ k, at0 f.ks k ≤ f.top
  c : ∀ k, at0 f.cs k ≤ f.top
theorem ft0_ok : FtOk ft0 := ⟨Nat.le_refl _, fun _ => Nat.le_refl _, fun _ => Nat.le_refl _⟩
theorem FtOk.w {f : Ft} {c : Cm} (h : FtOk f) : ftW f c ≤ f.top := by
  unfold ftW
  split
  · exact Nat.le_refl _
  · exact wvMax_le h.k (Nat.max_le.2 ⟨h.l, h.c _⟩)
theorem FtOk.next {f : Ft} {c : Cm} (h : FtOk f) : FtOk (ftNext f c) := by
  have h1 := h.l
  refine ⟨?_, fun k => ?_, fun k => ?_⟩
  · show (if loneM c then ftW f c + 1 else f.lone) ≤ max f.top (ftW f c + 1)
    split <;> omega
  · show at0 (wvPut f.ks (sortM c.keys) (ftW f c + 1)) k ≤ max f.top (ftW f c + 1)
    rw [at0_wvPut]; have := h.k k; split <;> omega
  · show at0 (mput cliK f.cs c.client (ftW f c + 1)) k ≤ max f.top (ftW f c + 1)
    rw [at0_put]; have := h.c k; split <;> omega
/-- A command had a wave: what is in its way comes behind it. -/
structure Past (f : Ft) (c : Cm) (w : Nat) : Prop where
  cl : w < at0 f.cs c.client
  ke : ∀ k ∈ sortM c.keys, w < at0 f.ks k
  lo : loneM c = true → w < f.lone
  tp : w < f.top
theorem past_self {f : Ft} {c : Cm} : Past (ftNext f c) c (ftW f c) := by
  refine ⟨?_, fun k hk => ?_, fun hl => ?_, ?_⟩
  · show _ < at0 (mput cliK f.cs c.client (ftW f c + 1)) _
    rw [at0_put, if_pos rfl]; omega
  · show _ < at0 (wvPut f.ks (sortM c.keys) (ftW f c + 1)) k
    rw [at0_wvPut, if_pos hk]; omega
  · show _ < (if loneM c then ftW f c + 1 else f.lone)
    rw [if_pos hl]; omega
  · show _ < max f.top (ftW f c + 1)
    omega
theorem Past.way {f : Ft} {c d : Cm} {w : Nat} (h : Past f c w) (hw : c.client = d.client ∨ (∃ k, k ∈ sortM c.keys ∧ k ∈ sortM d.keys) ∨ loneM c = true ∨ loneM d = true) : w < ftW f d := by
  unfold ftW
  split
  · exact h.tp
  · rename_i hd
    obtain ⟨g1, g2⟩ := wvMax_ge (m := f.ks) (l := sortM d.keys) (w := max f.lone (at0 f.cs d.client))
    rcases hw with e | ⟨k, hk, hk'⟩ | e | e
    · have := h.cl; rw [e] at this; omega
    · have := h.ke k hk; have := g2 k hk'; omega
    · have := h.lo e; omega
    · exact absurd e hd
theorem Past.next {f : Ft} {c d : Cm} {w : Nat} (h : Past f c w) : Past (ftNext f d) c w := by
  refine ⟨?_, fun k hk => ?_, fun hl => ?_, ?_⟩
  · show _ < at0 (mput cliK f.cs d.client (ftW f d + 1)) _
    rw [at0_put]
    split
    · rename_i e; have := h.way (d := d) (.inl e); omega
    · exact h.cl
  · show _ < at0 (wvPut f.ks (sortM d.keys) (ftW f d + 1)) k
    rw [at0_wvPut]
    split
    · rename_i e; have := h.way (d := d) (.inr (.inl ⟨k, hk, e⟩)); omega
    · exact h.ke k hk
  · show _ < (if loneM d then ftW f d + 1 else f.lone)
    have := h.lo hl
    split
    · rename_i e; have := h.way (d := d) (.inr (.inr (.inr e))); omega
    · exact this
  · show _ < max f.top (ftW f d + 1)
    have := h.tp; omega
def Way (c d : Cm) : Prop := c.client = d.client ∨ (∃ k, k ∈ sortM c.keys ∧ k ∈ sortM d.keys) ∨ loneM c = true ∨ loneM d = true
theorem past_waves {c : Cm} {w : Nat} : ∀ {l : List Cm} {f : Ft}, Past f c w → ∀ p ∈ l.zip (wavesF f l), Way c p.1 → w < p.2
  | [], f, _, p, hp, _ => by simp [wavesF] at hp
  | d :: l, f, h, p, hp, hw => by
    simp only [wavesF, List.zip_cons_cons, List.mem_cons] at hp
    rcases hp with rfl | hp
    · exact h.way hw
    · exact past_waves h.next p hp hw
/-- What is in each other's way rises. -/
theorem waves_way : ∀ (l : List Cm) (f : Ft), (l.zip (wavesF f l)).Pairwise fun p q => Way p.1 q.1 → p.2 < q.2
  | [], f => by simp [wavesF]
  | c :: l, f => by
    simp only [wavesF, List.zip_cons_cons]
    exact List.pairwise_cons.2 ⟨fun q hq hw => past_waves past_self q hq hw, waves_way l _⟩
end Go.Proofs.YthpnnffogbjhpaaGreatDoor.Kv
namespace Go.Proofs.YthpnnffogbjhpaaGreatDoor.Kv
set_option linter.unusedSimpArgs false
set_option linter.unusedVariables false
set_option linter.unnecessarySimpa false
open Go.RowKit Go.Proofs.YthpnnffogbjhpaaGreatDoor.Crc Go.Proofs.YthpnnffogbjhpaaGreatDoor.Cm

theorem getD_at {α : Type} (l : List α) (d : α) {i : Nat} (h : i < l.length) : l.getD i d = l[i] := by simp [List.getD, h]
theorem erase_perm {α : Type} : ∀ {l : List α} {k : Nat} (h : k < l.length), (l[k] :: l.eraseIdx k).Perm l
  | a :: l, 0, h => by simp
  | a :: l, k + 1, h => by
    simp only [List.getElem_cons_succ, List.eraseIdx_cons_succ]
    exact (List.Perm.swap _ _ _).trans ((erase_perm (l := l) (k := k) (by simpa using h)).cons a)
/-- A wave's places as a pick says. -/
def drain (kf : Nat → Nat → Nat) : Nat → Nat → List Nat → List Nat
  | 0, _, _ => []
  | n + 1, done, left => left.getD (kf done (n + 1)) 0 :: drain kf n (done + 1) (left.eraseIdx (kf done (n + 1)))
theorem drain_perm {kf : Nat → Nat → Nat} (hk : ∀ d n, 0 < n → kf d n < n) : ∀ (n d : Nat) (l : List Nat), l.length = n → (drain kf n d l).Perm l
  | 0, d, l, h => by rw [List.length_eq_zero_iff.1 h]; rfl
  | n + 1, d, l, h => by
    have h1 : kf d (n + 1) < l.length := h ▸ hk d (n + 1) (by omega)
    have h2 := drain_perm hk n (d + 1) (l.eraseIdx (kf d (n + 1))) (by rw [List.length_eraseIdx, if_pos h1]; omega)
    show (l.getD (kf d (n + 1)) 0 :: _).Perm l
    rw [getD_at _ _ h1]
    exact (h2.cons _).trans (erase_perm h1)
/-- The places of each wave's commands. -/
def groupsM (ws : List Nat) (top : Nat) : List (List Nat) := (List.range top).map fun w => (List.range ws.length).filter fun i => decide (ws.getD i 0 = w)
def orderG (kf : Nat → Nat → Nat → Nat) : Nat → List (List Nat) → List (Nat × Nat)
  | _, [] => []
  | w, g :: gs => (drain (kf w) g.length 0 g).map (fun i => (i, w)) ++ orderG kf (w + 1) gs
section
variable {kf : Nat → Nat → Nat → Nat} (hk : ∀ w d n, 0 < n → kf w d n < n)
include hk
theorem order_mem : ∀ (gs : List (List Nat)) (w : Nat) (p : Nat × Nat), p ∈ orderG kf w gs ↔ w ≤ p.2 ∧ p.2 < w + gs.length ∧ p.1 ∈ gs.getD (p.2 - w) []
  | [], w, p => by
    simp only [orderG, List.not_mem_nil, List.length_nil, false_iff]; omega
  | g :: gs, w, (i, v) => by
    simp only [orderG, List.mem_append, List.mem_map, (drain_perm (hk w) _ 0 g rfl).mem_iff, order_mem gs (w + 1), List.length_cons, Prod.mk.injEq]
    constructor
    · rintro (⟨j, hj, rfl, rfl⟩ | ⟨h1, h2, h3⟩)
      · exact ⟨by omega, by omega, by simpa using hj⟩
      · refine ⟨by omega, by omega, ?_⟩
        have e : v - w = (v - (w + 1)) + 1 := by omega
        rw [e]; simpa using h3
    · rintro ⟨h1, h2, h3⟩
      by_cases e : v = w
      · subst e
        exact .inl ⟨i, by simpa using h3, rfl, rfl⟩
      · refine .inr ⟨by omega, by omega, ?_⟩
        have e2 : v - w = (v - (w + 1)) + 1 := by omega
        rw [e2] at h3; simpa using h3
theorem order_up : ∀ (gs : List (List Nat)) (w : Nat), (orderG kf w gs).Pairwise fun p q => p.2 ≤ q.2
  | [], w => List.Pairwise.nil
  | g :: gs, w => by
    refine List.pairwise_append.2 ⟨?_, order_up gs (w + 1), ?_⟩
    · rw [List.pairwise_map]
      exact List.pairwise_of_forall fun _ _ => Nat.le_refl _
    · intro p hp q hq
      obtain ⟨i, _, rfl⟩ := List.mem_map.1 hp
      have := ((order_mem hk gs (w + 1) q).1 hq).1
      show w ≤ q.2
      omega
theorem order_nodup : ∀ (gs : List (List Nat)) (w : Nat), (∀ g ∈ gs, g.Nodup) → gs.Pairwise (fun g h => ∀ x ∈ g, x ∉ h) → ((orderG kf w gs).map (·.1)).Nodup
  | [], w, _, _ => List.Pairwise.nil
  | g :: gs, w, hn, hd => by
    obtain ⟨d1, d2⟩ := List.pairwise_cons.1 hd
    simp only [orderG, List.map_append, List.map_map]
    have e : (Prod.fst ∘ fun i : Nat => (i, w)) = id := rfl
    rw [e, List.map_id]
    refine List.pairwise_append.2 ⟨(drain_perm (hk w) _ 0 g rfl).nodup_iff.2 (hn g (by simp)), order_nodup gs (w + 1) (fun h hh => hn h (by simp [hh])) d2, ?_⟩
    intro x hx y hy e
    subst e
    obtain ⟨p, hp, rfl⟩ := List.mem_map.1 hy
    obtain ⟨h1, h2, h3⟩ := (order_mem hk gs (w + 1) p).1 hp
    have h4 : p.2 - (w + 1) < gs.length := by omega
    rw [getD_at _ _ h4] at h3
    exact d1 _ (List.getElem_mem h4) _ ((drain_perm (hk w) _ 0 g rfl).mem_iff.1 hx) h3
theorem order_says {ws : List Nat} {top : Nat} {p : Nat × Nat} : p ∈ orderG kf 0 (groupsM ws top) ↔ p.1 < ws.length ∧ ws.getD p.1 0 = p.2 ∧ p.2 < top := by
  rw [order_mem hk]
  have hl : (groupsM ws top).length = top := by simp [groupsM]
  rw [hl]
  constructor
  · rintro ⟨_, h2, h3⟩
    have h2' : p.2 < top := by omega
    rw [Nat.sub_zero, getD_at _ _ (i := p.2) (by rw [hl]; exact h2')] at h3
    simp [groupsM] at h3
    exact ⟨h3.1, by simpa using h3.2, h2'⟩
  · rintro ⟨h1, h2, h3⟩
    refine ⟨Nat.zero_le _, by omega, ?_⟩
    rw [Nat.sub_zero, getD_at _ _ (i := p.2) (by rw [hl]; exact h3)]
    simp [groupsM]
    exact ⟨h1, by simpa using h2⟩
/-- Each place has its turn, once. -/
theorem order_perm {ws : List Nat} {top : Nat} (ht : ∀ w ∈ ws, w < top) : ((orderG kf 0 (groupsM ws top)).map (·.1)).Perm (List.range ws.length) := by
  rw [List.perm_ext_iff_of_nodup ?_ List.nodup_range]
  · intro i
    rw [List.mem_range]
    constructor
    · intro h
      obtain ⟨p, hp, rfl⟩ := List.mem_map.1 h
      exact ((order_says hk).1 hp).1
    · intro h
      refine List.mem_map.2 ⟨(i, ws.getD i 0), (order_says hk).2 ⟨h, rfl, ?_⟩, rfl⟩
      show ws.getD i 0 < top
      rw [getD_at _ _ h]
      exact ht _ (List.getElem_mem h)
  · refine order_nodup hk _ _ ?_ ?_
    · intro g hg
      obtain ⟨w, _, rfl⟩ := List.mem_map.1 hg
      exact List.nodup_range.filter _
    · unfold groupsM
      rw [List.pairwise_map]
      refine List.pairwise_lt_range.imp fun {a b} hab x hx hx' => ?_
      have h1 := (List.mem_filter.1 hx).2
      have h2 := (List.mem_filter.1 hx').2
      simp only [decide_eq_true_eq] at h1 h2
      omega
/-- Where what is in each other's way has rising waves, the order keeps it so. -/
theorem order_way {ws : List Nat} {top : Nat} {W : Nat → Nat → Prop} (hw : ∀ i j, i < j → j < ws.length → W i j → ws.getD i 0 < ws.getD j 0) :
    ((orderG kf 0 (groupsM ws top)).map (·.1)).Pairwise fun p q => q < p → ¬ W q p := by
  rw [List.pairwise_map]
  refine (List.pairwise_iff_getElem.2 fun i j hi hj hij => ?_)
  have up := List.pairwise_iff_getElem.1 (order_up hk (groupsM ws top) 0) i j hi hj hij
  obtain ⟨a1, a2, _⟩ := (order_says hk).1 (List.getElem_mem hi)
  obtain ⟨b1, b2, _⟩ := (order_says hk).1 (List.getElem_mem hj)
  intro hlt hW
  have := hw _ _ hlt a1 hW
  omega
end
end Go.Proofs.YthpnnffogbjhpaaGreatDoor.Kv
namespace Go.Proofs.YthpnnffogbjhpaaGreatDoor.Kv
set_option linter.unusedSimpArgs false
set_option linter.unusedVariables false
set_option linter.unnecessarySimpa false
open Go.RowKit Go.Proofs.YthpnnffogbjhpaaGreatDoor.Crc Go.Proofs.YthpnnffogbjhpaaGreatDoor.Cm

/-! ### again -/
def TdC (a : Ap) (c : Cm) : Prop := c.client ≠ 0 → ∃ x, mfind a.t c.client = some x ∧ c.seq ≤ x.seq
theorem TdC.next {a : Ap} {c d : Cm} (h : TdC a d) : TdC (apDo a c).1 d := by
  have h1 : Told [d, c] 1 a := fun j e hj he => by
    have : j = 0 := by omega
    subst this
    cases he; exact h
  exact h1.next (c := c) rfl 0 d (by omega) rfl
theorem TdC.old {a : Ap} {c : Cm} (h : TdC a c) : (apDo a c).1 = a ∧ (apDo a c).2.2 = false := by
  unfold apDo
  split
  · exact ⟨rfl, rfl⟩
  · rename_i h0
    obtain ⟨x, hf, hs⟩ := h h0
    rw [if_neg]
    · exact ⟨rfl, rfl⟩
    · unfold lookM
      rw [hf]
      simp only
      rw [if_neg (by omega)]
      split <;> simp
/-! ### what is left at the places -/
theorem run_places (l : List Cm) : ∀ (ps : List Nat) (a : Ap), (runM l a ps).2.map (·.1) = ps
  | [], a => rfl
  | p :: ps, a => by simp only [runM, List.map_cons]; rw [run_places l ps]
theorem run_one {l : List Cm} {ps : List Nat} {a : Ap} (hn : ps.Nodup) {p : Nat} {x y : Rp × Bool} (hx : (p, x) ∈ (runM l a ps).2) (hy : (p, y) ∈ (runM l a ps).2) : x = y := by
  have hp := run_places l ps a
  obtain ⟨i, hi, ei⟩ := List.mem_iff_getElem.1 hx
  obtain ⟨j, hj, ej⟩ := List.mem_iff_getElem.1 hy
  have hn' : ((runM l a ps).2.map (·.1)).Nodup := by rw [hp]; exact hn
  have h := List.pairwise_iff_getElem.1 hn'
  rcases Nat.lt_trichotomy i j with g | g | g
  · have := h i j (by simpa using hi) (by simpa using hj) g
    simp [ei, ej] at this
  · subst g; rw [ei] at ej; exact (Prod.mk.inj ej).2
  · have := h j i (by simpa using hj) (by simpa using hi) g
    simp [ei, ej] at this
structure Dn where
  r : Rp
  fresh : Bool
  wave : Nat
  turn : Nat
def dn0 : Dn := ⟨⟨0, []⟩, false, 0, 0⟩
/-- The run of an order: what is set at each place. -/
def runD (l : List Cm) : Ap → List (Nat × Nat) → Nat → List Dn → Ap × List Dn
  | a, [], _, out => (a, out)
  | a, p :: ps, t, out => runD l (apDo a (l.getD p.1 cm0)).1 ps (t + 1) (out.set p.1 ⟨(apDo a (l.getD p.1 cm0)).2.1, (apDo a (l.getD p.1 cm0)).2.2, p.2, t⟩)
theorem runD_app (l : List Cm) : ∀ (ps qs : List (Nat × Nat)) (a : Ap) (t : Nat) (out : List Dn),
    runD l a (ps ++ qs) t out = runD l (runD l a ps t out).1 qs (t + ps.length) (runD l a ps t out).2
  | [], qs, a, t, out => rfl
  | p :: ps, qs, a, t, out => by
    simp only [List.cons_append, runD, List.length_cons]
    rw [runD_app l ps qs, show t + 1 + ps.length = t + (ps.length + 1) by omega]
theorem runD_len (l : List Cm) : ∀ (ps : List (Nat × Nat)) (a : Ap) (t : Nat) (out : List Dn), (runD l a ps t out).2.length = out.length
  | [], a, t, out => rfl
  | p :: ps, a, t, out => by simp only [runD]; rw [runD_len l ps]; simp
theorem runD_ap (l : List Cm) : ∀ (ps : List (Nat × Nat)) (a : Ap) (t : Nat) (out : List Dn), (runD l a ps t out).1 = (runM l a (ps.map (·.1))).1
  | [], a, t, out => rfl
  | p :: ps, a, t, out => by simp only [runD, List.map_cons, runM]; rw [runD_ap l ps]
theorem runD_other (l : List Cm) (q : Nat) : ∀ (ps : List (Nat × Nat)) (a : Ap) (t : Nat) (out : List Dn), q ∉ ps.map (·.1) → (runD l a ps t out).2[q]? = out[q]?
  | [], a, t, out, _ => rfl
  | p :: ps, a, t, out, h => by
    simp only [List.map_cons, List.mem_cons, not_or] at h
    simp only [runD]
    rw [runD_other l q ps _ _ _ h.2, List.getElem?_set_ne (fun e => h.1 e.symm)]
theorem runD_says (l : List Cm) : ∀ (ps : List (Nat × Nat)) (a : Ap) (t : Nat) (out : List Dn), (ps.map (·.1)).Nodup → (∀ p ∈ ps, p.1 < out.length) →
    ∀ k (h : k < ps.length), ∃ r f, (ps[k].1, r, f) ∈ (runM l a (ps.map (·.1))).2 ∧ (runD l a ps t out).2[ps[k].1]? = some ⟨r, f, ps[k].2, t + k⟩
  | [], a, t, out, _, _, k, h => absurd h (Nat.not_lt_zero _)
  | p :: ps, a, t, out, hn, ho, 0, h => by
    obtain ⟨h1, h2⟩ := List.pairwise_cons.1 hn
    refine ⟨_, _, List.mem_cons_self, ?_⟩
    simp only [runD, List.getElem_cons_zero, Nat.add_zero]
    rw [runD_other l _ ps _ _ _ (fun hm => h1 _ hm rfl), List.getElem?_set_self (ho p (by simp))]
  | p :: ps, a, t, out, hn, ho, k + 1, h => by
    obtain ⟨h1, h2⟩ := List.pairwise_cons.1 hn
    obtain ⟨r, f, i1, i2⟩ := runD_says l ps (apDo a (l.getD p.1 cm0)).1 (t + 1) (out.set p.1 ⟨(apDo a (l.getD p.1 cm0)).2.1, (apDo a (l.getD p.1 cm0)).2.2, p.2, t⟩) h2
      (fun q hq => by rw [List.length_set]; exact ho q (by simp [hq])) k (by simpa using h)
    refine ⟨r, f, List.mem_cons_of_mem _ i1, ?_⟩
    simp only [runD, List.getElem_cons_succ]
    rw [i2, show t + 1 + k = t + (k + 1) by omega]
end Go.Proofs.YthpnnffogbjhpaaGreatDoor.Kv
namespace Go.Proofs.YthpnnffogbjhpaaGreatDoor.Kv
set_option linter.unusedSimpArgs false
set_option linter.unusedVariables false
set_option linter.unnecessarySimpa false
open Go.RowKit Go.Proofs.YthpnnffogbjhpaaGreatDoor.Crc Go.Proofs.YthpnnffogbjhpaaGreatDoor.Cm

/-- A pick that is a table of numbers: the place among n that it picks of a wave w when d were done. -/
def kfP (ps : List Int) (w d n : Nat) : Nat := (Int.tmod (Int.tmod (ps.getD (7 * w + d) 0) n + n) n).toNat
theorem kfP_lt (ps : List Int) (w d n : Nat) (h : 0 < n) : kfP ps w d n < n := by
  unfold kfP
  have h1 : (0 : Int) < n := by exact_mod_cast h
  generalize ps.getD (7 * w + d) 0 = v
  have h2 := Int.tmod_lt_of_pos (Int.tmod v n + n) h1
  omega
def topM (ws : List Nat) : Nat := ws.foldl (fun m w => max m (w + 1)) 0
theorem foldl_top : ∀ (ws : List Nat) (m : Nat), m ≤ ws.foldl (fun m w => max m (w + 1)) m ∧ ∀ w ∈ ws, w < ws.foldl (fun m w => max m (w + 1)) m
  | [], m => ⟨Nat.le_refl _, fun _ h => nomatch h⟩
  | v :: ws, m => by
    obtain ⟨h1, h2⟩ := foldl_top ws (max m (v + 1))
    simp only [List.foldl_cons]
    refine ⟨by omega, fun w hw => ?_⟩
    rcases List.mem_cons.1 hw with rfl | hw
    · omega
    · exact h2 w hw
theorem top_gt {ws : List Nat} : ∀ w ∈ ws, w < topM ws := (foldl_top ws 0).2
def orderM (l : List Cm) (ps : List Int) : List (Nat × Nat) := orderG (kfP ps) 0 (groupsM (wavesM l) (topM (wavesM l)))
theorem orderM_perm (l : List Cm) (ps : List Int) : ((orderM l ps).map (·.1)).Perm (List.range l.length) := by
  have h := order_perm (kfP_lt ps) (ws := wavesM l) top_gt
  rw [show (wavesM l).length = l.length from waves_len l ft0] at h
  exact h
theorem orderM_len (l : List Cm) (ps : List Int) : (orderM l ps).length = l.length := by
  have h := (orderM_perm l ps).length_eq
  simpa using h
theorem waves_rise (l : List Cm) (i j : Nat) (hij : i < j) (hj : j < (wavesM l).length) (hw : Way (l.getD i cm0) (l.getD j cm0)) : (wavesM l).getD i 0 < (wavesM l).getD j 0 := by
  have hl : (wavesM l).length = l.length := waves_len l ft0
  have h := List.pairwise_iff_getElem.1 (waves_way l ft0) i j (by simp [waves_len]; omega) (by simp [waves_len]; omega) hij
  rw [getD_at _ _ (by omega : i < (wavesM l).length), getD_at _ _ hj]
  rw [getD_at _ _ (by omega : i < l.length), getD_at _ _ (by omega : j < l.length)] at hw
  simp only [List.getElem_zip] at h
  exact h hw
theorem way_apart {c d : Cm} (h : ¬ Way c d) : Apart d c := by
  unfold Way at h
  simp only [not_or, not_exists, not_and] at h
  exact ⟨fun e => h.1 e.symm, fun k hk hd => h.2.1 k (((sortM_says _).2 k).2 hk) (((sortM_says _).2 k).2 hd)⟩
theorem orderM_apart (l : List Cm) (ps : List Int) : ((orderM l ps).map (·.1)).Pairwise fun p q => q < p → Apart (l.getD p cm0) (l.getD q cm0) :=
  (order_way (kfP_lt ps) (ws := wavesM l) (top := topM (wavesM l)) (W := fun i j => Way (l.getD i cm0) (l.getD j cm0)) (waves_rise l)).imp fun h hlt => way_apart (h hlt)
theorem runM_order {l : List Cm} {ps : List Int} {a : Ap} (ha : ApRise a) :
    (runM l a ((orderM l ps).map (·.1))).1 = (runM l a (List.range l.length)).1 ∧ ∀ t, t ∈ (runM l a ((orderM l ps).map (·.1))).2 ↔ t ∈ (runM l a (List.range l.length)).2 :=
  run_sorted l _ _ a ha (orderM_perm l ps) List.pairwise_lt_range (orderM_apart l ps)
/-- What is at each place of a batch's run, by whatever picks. -/
theorem alike {l : List Cm} {ps : List Int} {a : Ap} (ha : ApRise a) :
    (runD l a (orderM l ps) 0 (List.replicate l.length dn0)).1 = (runM l a (List.range l.length)).1 ∧
    (runD l a (orderM l ps) 0 (List.replicate l.length dn0)).2.length = l.length ∧
    ∀ i, i < l.length → ∃ d, (runD l a (orderM l ps) 0 (List.replicate l.length dn0)).2[i]? = some d ∧ (i, d.r, d.fresh) ∈ (runM l a (List.range l.length)).2 ∧ (orderM l ps)[d.turn]? = some (i, d.wave) := by
  obtain ⟨h1, h2⟩ := runM_order (l := l) (ps := ps) ha
  refine ⟨by rw [runD_ap, h1], by rw [runD_len]; simp, fun i hi => ?_⟩
  have hp := orderM_perm l ps
  have hm : i ∈ (orderM l ps).map (·.1) := hp.mem_iff.2 (by simpa using hi)
  obtain ⟨p, hpm, rfl⟩ := List.mem_map.1 hm
  obtain ⟨k, hk, rfl⟩ := List.mem_iff_getElem.1 hpm
  obtain ⟨r, f, g1, g2⟩ := runD_says l (orderM l ps) a 0 (List.replicate l.length dn0) (hp.nodup_iff.2 List.nodup_range)
    (fun p hp' => by rw [List.length_replicate]; have := hp.mem_iff.1 (List.mem_map_of_mem (f := (·.1)) hp'); simpa using this) k hk
  refine ⟨_, g2, (h2 _).1 g1, ?_⟩
  simp only [Nat.zero_add]
  rw [List.getElem?_eq_getElem hk]
end Go.Proofs.YthpnnffogbjhpaaGreatDoor.Kv
namespace Go.Proofs.YthpnnffogbjhpaaGreatDoor.Kv
open Go.RowKit Go.Proofs.YthpnnffogbjhpaaGreatDoor.Crc Go.Proofs.YthpnnffogbjhpaaGreatDoor.Cm Go.Proofs.YthpnnffogbjhpaaGreatDoor.Var
/-- A text's bytes. -/
def txB (t : List UInt8) : List UInt8 := uv t.length ++ t
def prB (p : List UInt8 × List UInt8) : List UInt8 := txB p.1 ++ txB p.2
def kvB (m : KM) : List UInt8 := uv m.length ++ m.flatMap prB
/-- A client's bytes; a table's. -/
def laB (p : Nat × La) : List UInt8 := uv p.1 ++ (uv p.2.seq ++ (uv p.2.r.code ++ txB p.2.r.text))
def tbB (t : TM) : List UInt8 := uv t.length ++ t.flatMap laB
/-- An application's. -/
def apB (a : Ap) : List UInt8 := uv a.n ++ (kvB a.m ++ tbB a.t)
theorem cliK_lt {a b : Nat} : cliK.lt a b = decide (a < b) := by
  show decide ((a : Int) < (b : Int)) = decide (a < b)
  simp
theorem riseU_find {m : TM} {p : Nat × La} (h : Rise cliK m) (hp : p ∈ m) : mfind m p.1 = some p.2 := by
  induction m with
  | nil => cases hp
  | cons a t ih =>
    obtain ⟨h1, h2⟩ := List.pairwise_cons.1 h
    rw [mfind_cons]
    rcases List.mem_cons.1 hp with rfl | hp
    · rw [if_pos rfl]
    · have := h1 p hp
      rw [if_neg (fun e => by rw [e, cliK.lt_irrefl] at this; cases this)]
      exact ih h2 hp
end Go.Proofs.YthpnnffogbjhpaaGreatDoor.Kv
namespace Go.Proofs.YthpnnffogbjhpaaGreatDoor.Kv
set_option linter.unusedSimpArgs false
set_option linter.unusedVariables false
open Go.RowKit Go.Proofs.YthpnnffogbjhpaaGreatDoor.Crc Go.Proofs.YthpnnffogbjhpaaGreatDoor.Cm

def PlaceU (q : TM) (k : Nat) (a : Nat) : Prop := a ≤ q.length ∧ (∀ j p, j < a → q[j]? = some p → p.1 < k) ∧ ∀ p, q[a]? = some p → ¬ p.1 < k
theorem mdel_none {t : TM} {k : Nat} (h : ∀ p ∈ t, p.1 ≠ k) : mdel t k = t := List.filter_eq_self.2 fun p hp => by simp [h p hp]
theorem riseU_lt {p : Nat × La} {t : TM} (h : Rise cliK (p :: t)) : (∀ q ∈ t, p.1 < q.1) ∧ Rise cliK t := by
  obtain ⟨h1, h2⟩ := List.pairwise_cons.1 h
  exact ⟨fun q hq => by have := h1 q hq; rwa [cliK_lt, decide_eq_true_eq] at this, h2⟩
theorem mins_front {t : TM} {k : Nat} {x : La} (h : ∀ p ∈ t, k < p.1) : mins cliK (k, x) t = (k, x) :: t := by
  cases t with
  | nil => rfl
  | cons p t =>
    have := h p (by simp)
    simp only [mins]
    rw [if_pos (by rw [cliK_lt, decide_eq_true_eq]; exact this)]
theorem placeU_own {q : TM} {k a : Nat} {x y : La} (hr : Rise cliK q) (hy : q[a]? = some (k, y)) : q.take a ++ [(k, x)] ++ q.drop (a + 1) = mput cliK q k x := by
  unfold mput
  induction q generalizing a with
  | nil => simp at hy
  | cons p t ih =>
    obtain ⟨h1, h2⟩ := riseU_lt hr
    cases a with
    | zero =>
      simp at hy
      subst hy
      have hd : mdel ((k, y) :: t) k = t := by
        have : mdel ((k, y) :: t) k = mdel t k := by simp [mdel]
        rw [this, mdel_none fun p hp => by have := h1 p hp; simp only at this; omega]
      rw [hd, mins_front fun p hp => h1 p hp]
      simp
    | succ a =>
      have hy' : t[a]? = some (k, y) := by simpa using hy
      have hp := h1 (k, y) (List.mem_of_getElem? hy')
      simp only at hp
      have hd : mdel (p :: t) k = p :: mdel t k := by
        have : p.1 ≠ k := by omega
        simp [mdel, this]
      rw [hd]
      simp only [mins]
      rw [if_neg (by rw [cliK_lt]; simp; omega), ← ih h2 hy']
      simp
theorem placeU_new {q : TM} {k a : Nat} {x : La} (hr : Rise cliK q) (h : PlaceU q k a) (hn : ∀ p, q[a]? = some p → p.1 ≠ k) : q.take a ++ [(k, x)] ++ q.drop a = mput cliK q k x := by
  unfold mput
  induction q generalizing a with
  | nil => simp [mdel, mins]
  | cons p t ih =>
    obtain ⟨k1, k2, k3⟩ := h
    obtain ⟨h1, h2⟩ := riseU_lt hr
    cases a with
    | zero =>
      have h4 := k3 p rfl
      have h5 := hn p rfl
      have hd : mdel (p :: t) k = p :: t := mdel_none fun q hq => by
        rcases List.mem_cons.1 hq with rfl | hq
        · exact h5
        · have := h1 q hq; omega
      rw [hd, mins_front fun q hq => by
        rcases List.mem_cons.1 hq with rfl | hq
        · omega
        · have := h1 q hq; omega]
      simp
    | succ a =>
      have h4 : p.1 < k := k2 0 p (by omega) rfl
      have hd : mdel (p :: t) k = p :: mdel t k := by
        have : p.1 ≠ k := by omega
        simp [mdel, this]
      rw [hd]
      simp only [mins]
      rw [if_neg (by rw [cliK_lt]; simp; omega), ← ih h2 ⟨by simpa using k1, fun j y hj hy => k2 (j + 1) y (by omega) (by simpa using hy), fun y hy => k3 y (by simpa using hy)⟩ (fun y hy => hn y (by simpa using hy))]
      simp
theorem placeU_find {q : TM} {k a : Nat} (hr : Rise cliK q) (h : PlaceU q k a) (hn : ∀ p, q[a]? = some p → p.1 ≠ k) : mfind q k = none := by
  induction q generalizing a with
  | nil => rfl
  | cons p t ih =>
    obtain ⟨k1, k2, k3⟩ := h
    obtain ⟨h1, h2⟩ := riseU_lt hr
    rw [mfind_cons]
    cases a with
    | zero =>
      have h4 := k3 p rfl
      have h5 := hn p rfl
      rw [if_neg h5]
      exact ih (a := 0) h2 ⟨by omega, by omega, fun y hy => by have := h1 y (List.mem_of_getElem? hy); omega⟩ (fun y hy => by have := h1 y (List.mem_of_getElem? hy); omega)
    | succ a =>
      have h4 : p.1 < k := k2 0 p (by omega) rfl
      rw [if_neg (by omega)]
      exact ih h2 ⟨by simpa using k1, fun j y hj hy => k2 (j + 1) y (by omega) (by simpa using hy), fun y hy => k3 y (by simpa using hy)⟩ (fun y hy => hn y (by simpa using hy))
end Go.Proofs.YthpnnffogbjhpaaGreatDoor.Kv
namespace Go.Proofs.YthpnnffogbjhpaaGreatDoor.Kv
set_option linter.unusedSimpArgs false
set_option linter.unusedVariables false
open Go.Lib

def isD (c : UInt8) : Prop := 48 ≤ c.toNat ∧ c.toNat ≤ 57
instance (c : UInt8) : Decidable (isD c) := by unfold isD; infer_instance
def valF (a : Nat) (l : List UInt8) : Nat := l.foldl (fun a c => a * 10 + (c.toNat - 48)) a
theorem valF_snoc (a : Nat) (l : List UInt8) (c : UInt8) : valF a (l ++ [c]) = valF a l * 10 + (c.toNat - 48) := by simp [valF, List.foldl_append]
theorem valF_le (a : Nat) (l : List UInt8) : a ≤ valF a l := by
  induction l generalizing a with
  | nil => exact Nat.le_refl _
  | cons c l ih => have := ih (a * 10 + (c.toNat - 48)); show a ≤ valF (a * 10 + (c.toNat - 48)) l; omega
structure Canon (d : List UInt8) : Prop where
  ne : d ≠ []
  all : ∀ c ∈ d, isD c
  head : d.head? ≠ some 48 ∨ d.length = 1
theorem Canon.front {d : List UInt8} {c : UInt8} (h : Canon (d ++ [c])) (hd : d ≠ []) : Canon d ∧ d.head? ≠ some 48 := by
  have hh : (d ++ [c]).head? = d.head? := by
    cases d with
    | nil => exact absurd rfl hd
    | cons x t => rfl
  have h1 : d.head? ≠ some 48 := by
    rcases h.head with h2 | h2
    · rwa [hh] at h2
    · simp at h2; exact absurd h2 hd
  exact ⟨⟨hd, fun x hx => h.all x (by simp [hx]), .inl h1⟩, h1⟩
theorem ofNat_dig {c : UInt8} (h : isD c) : UInt8.ofNat (48 + (c.toNat - 48)) = c := by
  obtain ⟨h1, h2⟩ := h
  rw [show 48 + (c.toNat - 48) = c.toNat by omega]
  simp
theorem snoc_ind {P : List UInt8 → Prop} (h0 : P []) (h1 : ∀ l c, P l → P (l ++ [c])) (l : List UInt8) : P l := by
  have key : ∀ r : List UInt8, P r.reverse := by
    intro r
    induction r with
    | nil => exact h0
    | cons c r ih => rw [List.reverse_cons]; exact h1 _ _ ih
  have := key l.reverse
  rwa [List.reverse_reverse] at this
theorem dec_val (d : List UInt8) : Canon d → decDigits (valF 0 d) = d := by
  refine snoc_ind (P := fun d => Canon d → decDigits (valF 0 d) = d) (fun h => absurd rfl h.ne) (fun l c ih h => ?_) d
  have hc := h.all c (by simp)
  rw [valF_snoc]
  by_cases hl : l = []
  · subst hl
    have : c.toNat - 48 < 10 := by have := hc.2; omega
    show decDigits (0 * 10 + (c.toNat - 48)) = [c]
    rw [Nat.zero_mul, Nat.zero_add, decDigits_one this, ofNat_dig hc]
  · obtain ⟨h1, h2⟩ := h.front hl
    have h3 := ih h1
    have h4 : 1 ≤ valF 0 l := by
      rcases Nat.eq_zero_or_pos (valF 0 l) with e | e
      · rw [e, decDigits_one (by omega)] at h3
        rw [← h3] at h2
        exact absurd rfl h2
      · exact e
    have h5 : c.toNat - 48 < 10 := by have := hc.2; omega
    rw [decDigits, dif_neg (by omega), show (valF 0 l * 10 + (c.toNat - 48)) / 10 = valF 0 l by omega, show (valF 0 l * 10 + (c.toNat - 48)) % 10 = c.toNat - 48 by omega, h3, ofNat_dig hc]
theorem dec_canon (u : Nat) : Canon (decDigits u) ∧ valF 0 (decDigits u) = u ∧ (1 ≤ u → (decDigits u).head? ≠ some 48) := by
  induction u using Nat.strongRecOn with
  | _ u ih =>
    by_cases h : u < 10
    · rw [decDigits_one h]
      have e : (UInt8.ofNat (48 + u)).toNat = 48 + u := by rw [UInt8.toNat_ofNat_of_lt' (by show 48 + u < 256; omega)]
      refine ⟨⟨by simp, fun c hc => ?_, .inr rfl⟩, ?_, fun h1 h2 => ?_⟩
      · rw [List.mem_singleton] at hc; subst hc; unfold isD; rw [e]; omega
      · show 0 * 10 + ((UInt8.ofNat (48 + u)).toNat - 48) = u; rw [e]; omega
      · have h3 := congrArg UInt8.toNat (Option.some.inj h2)
        rw [e] at h3
        have : (48 : UInt8).toNat = 48 := rfl
        omega
    · obtain ⟨h1, h2, h3⟩ := ih (u / 10) (by omega)
      have h4 := h3 (by omega)
      have e : (UInt8.ofNat (48 + u % 10)).toNat = 48 + u % 10 := by rw [UInt8.toNat_ofNat_of_lt' (by show 48 + u % 10 < 256; omega)]
      rw [decDigits, dif_neg h]
      have hh : (decDigits (u / 10) ++ [UInt8.ofNat (48 + u % 10)]).head? = (decDigits (u / 10)).head? := by
        have := h1.ne
        cases hx : decDigits (u / 10) with
        | nil => exact absurd hx this
        | cons x t => rfl
      refine ⟨⟨by simp, fun c hc => ?_, .inl (by rw [hh]; exact h4)⟩, ?_, fun _ => by rw [hh]; exact h4⟩
      · rcases List.mem_append.1 hc with hc | hc
        · exact h1.all c hc
        · rw [List.mem_singleton] at hc; subst hc; unfold isD; rw [e]; omega
      · rw [valF_snoc, h2, e]; omega
theorem dec_len {u : Nat} (h : u < 10000000000000000000) : (decDigits u).length ≤ 19 := by
  rw [decDigits_length]
  refine Classical.byContradiction fun hn => ?_
  have key : ∀ k u, u < 10 ^ (k + 1) → nDigits u ≤ k + 1 := by
    intro k
    induction k with
    | zero => intro u h; rw [nDigits_small (by simpa using h)]; omega
    | succ k ih =>
      intro u h
      by_cases h1 : u < 10
      · rw [nDigits_small h1]; omega
      · rw [nDigits_big h1]
        have := ih (u / 10) (by rw [Nat.pow_succ] at h; omega)
        omega
  have := key 18 u (by simpa using h)
  omega
theorem val_len : ∀ (l : List UInt8) (a k : Nat), (∀ c ∈ l, isD c) → a < 10 ^ k → valF a l < 10 ^ (k + l.length)
  | [], a, k, _, h => h
  | c :: l, a, k, hall, h => by
    have hc := hall c (by simp)
    have := val_len l (a * 10 + (c.toNat - 48)) (k + 1) (fun x hx => hall x (by simp [hx])) (by rw [Nat.pow_succ]; have := hc.2; omega)
    rw [List.length_cons, show k + (l.length + 1) = k + 1 + l.length by omega]
    exact this
theorem parseU_ok : ∀ (l : List UInt8) (a : Nat), (∀ c ∈ l, isD c) → valF a l < 18446744073709551616 → parseUintM (2 ^ 64 - 1) a l = .ok (valF a l)
  | [], a, _, _ => rfl
  | c :: l, a, hall, h => by
    have hc : 48 ≤ c.toNat ∧ c.toNat ≤ 57 := hall c (by simp)
    have h1 := valF_le (a * 10 + (c.toNat - 48)) l
    have h2 : valF a (c :: l) = valF (a * 10 + (c.toNat - 48)) l := rfl
    rw [h2] at h
    rw [parseUintM, if_pos hc, if_neg (by omega), if_neg (by omega), h2]
    exact parseU_ok l _ (fun x hx => hall x (by simp [hx])) h
theorem numM_itoa {n : Int} (h : fits n = true) : numM (itoa n) = some n := by
  simp only [fits, Bool.and_eq_true, decide_eq_true_eq] at h
  have key : parseIntB 64 (itoa n) = .ok n := by
    by_cases hn : n < 0
    · obtain ⟨u, hu⟩ : ∃ u : Nat, n = -(u : Int) := ⟨n.natAbs, by omega⟩
      subst hu
      obtain ⟨h1, h2, -⟩ := dec_canon u
      rw [itoa_neg u (by omega)]
      have hp := parseU_ok (decDigits u) 0 h1.all (by rw [h2]; omega)
      rw [h2] at hp
      have e45 : (45 : UInt8).toNat = 45 := rfl
      simp only [parseIntB, e45, or_true, if_true, parseUintB, if_neg h1.ne, hp, not_true_eq_false, false_and, if_false, true_and]
      rw [if_neg (by omega)]
    · obtain ⟨u, rfl⟩ : ∃ u : Nat, n = (u : Int) := ⟨n.toNat, by omega⟩
      obtain ⟨h1, h2, -⟩ := dec_canon u
      rw [itoa_nonneg u]
      have hp := parseU_ok (decDigits u) 0 h1.all (by rw [h2]; omega)
      rw [h2] at hp
      cases hx : decDigits u with
      | nil => exact absurd hx h1.ne
      | cons c r =>
        have hc : 48 ≤ c.toNat ∧ c.toNat ≤ 57 := h1.all c (by rw [hx]; simp)
        have hc1 : ¬ (c.toNat = 43 ∨ c.toNat = 45) := by omega
        have hc2 : (c.toNat = 45) = False := by simp; omega
        have hc3 : (c.toNat = 43) = False := by simp; omega
        rw [hx] at hp
        simp only [parseIntB, hc2, hc3, or_false, if_false, parseUintB, if_neg (List.cons_ne_nil c r), hp, not_false_eq_true, true_and, false_and]
        rw [if_neg (by omega)]
  unfold numM
  rw [key]
  simp
theorem numM_some {s : List UInt8} {n : Int} (h : numM s = some n) : s = itoa n ∧ ∃ m : Int, parseIntB 64 s = .ok m ∧ m = n := by
  unfold numM at h
  split at h
  · rename_i m hm
    split at h
    · rename_i he
      cases h
      exact ⟨he.symm, _, hm, rfl⟩
    · cases h
  · cases h
/-- The document's Number: how it goes on digits. -/
def negM (s : List UInt8) : Bool := decide (s.head? = some 45)
def digM (s : List UInt8) : List UInt8 := if negM s then s.tail else s
def badM (s : List UInt8) : Prop := digM s = [] ∨ 19 < (digM s).length ∨ ((digM s).head? = some 48 ∧ (1 < (digM s).length ∨ negM s = true))
theorem number_ok {s : List UInt8} (h1 : ¬ badM s) (h2 : ∀ c ∈ digM s, isD c) (h3 : if negM s then valF 0 (digM s) ≤ 9223372036854775808 else valF 0 (digM s) < 9223372036854775808) :
    numM s = some (if negM s then -(valF 0 (digM s) : Int) else (valF 0 (digM s) : Int)) := by
  unfold badM at h1
  have hc : Canon (digM s) := ⟨fun e => h1 (.inl e), h2, by
    by_cases hh : (digM s).head? = some 48
    · right
      have : ¬ 1 < (digM s).length := fun e => h1 (.inr (.inr ⟨hh, .inl e⟩))
      have h5 : (digM s).length ≠ 0 := fun e => h1 (.inl (List.eq_nil_of_length_eq_zero e))
      omega
    · exact .inl hh⟩
  have hd := dec_val _ hc
  by_cases hn : negM s = true
  · rw [if_pos hn] at h3 ⊢
    have hv : 1 ≤ valF 0 (digM s) := by
      rcases Nat.eq_zero_or_pos (valF 0 (digM s)) with e | e
      · rw [e, decDigits_one (by omega)] at hd
        exact absurd (.inr (.inr ⟨by rw [← hd]; rfl, .inr hn⟩)) h1
      · exact e
    have hs : s = itoa (-(valF 0 (digM s) : Int)) := by
      rw [itoa_neg _ hv, hd]
      unfold digM
      rw [if_pos hn]
      unfold negM at hn
      rw [decide_eq_true_eq] at hn
      cases s with
      | nil => cases hn
      | cons c r => cases hn; rfl
    have := numM_itoa (n := -(valF 0 (digM s) : Int)) (by simp [fits]; omega)
    rwa [← hs] at this
  · rw [if_neg hn] at h3 ⊢
    have hs : s = itoa (valF 0 (digM s) : Int) := by
      rw [itoa_nonneg, hd]
      unfold digM
      rw [if_neg hn]
    have := numM_itoa (n := (valF 0 (digM s) : Int)) (by simp [fits]; omega)
    rwa [← hs] at this
theorem number_no {s : List UInt8} {n : Int} (h : numM s = some n) (hb : -9223372036854775808 ≤ n ∧ n ≤ 9223372036854775807) : ¬ badM s ∧ (∀ c ∈ digM s, isD c) ∧ (if negM s then valF 0 (digM s) ≤ 9223372036854775808 else valF 0 (digM s) < 9223372036854775808) := by
  obtain ⟨hs, -⟩ := numM_some h
  by_cases hn : n < 0
  · obtain ⟨u, rfl⟩ : ∃ u : Nat, n = -(u : Int) := ⟨n.natAbs, by omega⟩
    rw [itoa_neg u (by omega)] at hs
    obtain ⟨h1, h2, h3⟩ := dec_canon u
    have hneg : negM s = true := by rw [hs]; rfl
    have hdig : digM s = decDigits u := by unfold digM; rw [if_pos hneg, hs]; rfl
    unfold badM
    rw [hdig, if_pos hneg, h2]
    refine ⟨?_, h1.all, by omega⟩
    rintro (e | e | ⟨e, -⟩)
    · exact h1.ne e
    · have := dec_len (u := u) (by omega); omega
    · exact h3 (by omega) e
  · obtain ⟨u, rfl⟩ : ∃ u : Nat, n = (u : Int) := ⟨n.toNat, by omega⟩
    rw [itoa_nonneg u] at hs
    obtain ⟨h1, h2, h3⟩ := dec_canon u
    have hneg : negM s = false := by
      rw [hs]
      unfold negM
      rw [decide_eq_false_iff_not]
      intro e
      cases hx : decDigits u with
      | nil => exact h1.ne hx
      | cons c r =>
        rw [hx] at e
        cases e
        have := (h1.all 45 (by rw [hx]; simp)).1
        exact absurd this (by decide)
    have hdig : digM s = decDigits u := by unfold digM; rw [hneg, hs]; rfl
    unfold badM
    rw [hdig, hneg, h2]
    refine ⟨?_, h1.all, by simp; omega⟩
    rintro (e | e | ⟨e, e2 | e2⟩)
    · exact h1.ne e
    · have := dec_len (u := u) (by omega); omega
    · rcases h1.head with h4 | h4
      · exact h4 e
      · omega
    · cases e2
end Go.Proofs.YthpnnffogbjhpaaGreatDoor.Kv
namespace Go.Proofs.YthpnnffogbjhpaaGreatDoor.Kv
set_option linter.unusedSimpArgs false
set_option linter.unusedVariables false
open Go.RowKit Go.Proofs.YthpnnffogbjhpaaGreatDoor.Crc Go.Proofs.YthpnnffogbjhpaaGreatDoor.Cm

/-- What commands come to. -/
def foldA (l : List Cm) : Ap := l.foldl (fun a c => (apDo a c).1) ap0
theorem foldA_snoc (l : List Cm) (c : Cm) : foldA (l ++ [c]) = (apDo (foldA l) c).1 := by unfold foldA; rw [List.foldl_append]; rfl
theorem foldA_next {l : List Cm} {i : Nat} {c : Cm} (h : l[i]? = some c) : foldA (l.take (i + 1)) = (apDo (foldA (l.take i)) c).1 := by
  rw [List.take_add_one, h]
  exact foldA_snoc _ _
end Go.Proofs.YthpnnffogbjhpaaGreatDoor.Kv
namespace Go.Proofs.YthpnnffogbjhpaaGreatDoor.Kv
set_option linter.unusedSimpArgs false
set_option linter.unusedVariables false
set_option linter.unnecessarySimpa false
open Go.RowKit Go.Proofs.YthpnnffogbjhpaaGreatDoor.Crc Go.Proofs.YthpnnffogbjhpaaGreatDoor.Cm

theorem runM_ok {l : List Cm} (hf : ∀ c ∈ l, c.client < 4294967296 ∧ c.seq < 4294967296) : ∀ (ps : List Nat) (a : Ap) (k : Nat), ApOk a k → k + ps.length ≤ 10000 → ApOk (runM l a ps).1 (k + ps.length)
  | [], a, k, h, _ => h
  | p :: ps, a, k, h, hk => by
    have hc : (l.getD p cm0).client < 4294967296 ∧ (l.getD p cm0).seq < 4294967296 := by
      rw [List.getD_eq_getElem?_getD]
      cases hp : l[p]? with
      | none => simp [cm0]
      | some c => exact hf c (List.mem_of_getElem? hp)
    simp only [List.length_cons] at hk
    have h1 := h.next (c := l.getD p cm0) (by omega) hc.1 hc.2
    have h2 := runM_ok hf ps _ _ h1 (by omega)
    simp only [runM, List.length_cons]
    rw [show k + (ps.length + 1) = k + 1 + ps.length by omega]
    exact h2
theorem runD_same {l : List Cm} {ps qs : List Int} {a : Ap} (ha : ApRise a) : (runD l a (orderM l ps) 0 (List.replicate l.length dn0)).1 = (runD l a (orderM l qs) 0 (List.replicate l.length dn0)).1 := by
  rw [(alike (l := l) (ps := ps) ha).1, (alike (l := l) (ps := qs) ha).1]
theorem runD_reply {l : List Cm} {ps qs : List Int} {a : Ap} {i : Nat} {d e : Dn} (ha : ApRise a) (hi : i < l.length) (hd : (runD l a (orderM l ps) 0 (List.replicate l.length dn0)).2[i]? = some d) (he : (runD l a (orderM l qs) 0 (List.replicate l.length dn0)).2[i]? = some e) : d.r = e.r := by
  obtain ⟨d', g1, g2, -⟩ := (alike (l := l) (ps := ps) ha).2.2 i hi
  obtain ⟨e', g3, g4, -⟩ := (alike (l := l) (ps := qs) ha).2.2 i hi
  rw [hd] at g1
  rw [he] at g3
  cases g1
  cases g3
  have h2 := run_one (l := l) (a := a) List.nodup_range (p := i) (x := (d.r, d.fresh)) (y := (e.r, e.fresh)) g2 g4
  exact (Prod.mk.inj h2).1
theorem runD_wave {l : List Cm} {ps : List Int} {a : Ap} {i : Nat} {d : Dn} (ha : ApRise a) (hi : i < l.length) (hd : (runD l a (orderM l ps) 0 (List.replicate l.length dn0)).2[i]? = some d) : (wavesM l)[i]? = some d.wave := by
  obtain ⟨d', g1, -, g3⟩ := (alike (l := l) (ps := ps) ha).2.2 i hi
  rw [hd] at g1
  cases g1
  have hm := List.mem_of_getElem? g3
  unfold orderM at hm
  obtain ⟨-, h2, h3⟩ := (order_mem (kfP_lt ps) _ _ _).1 hm
  simp only [Nat.zero_add, Nat.sub_zero] at h2 h3
  have hl : (groupsM (wavesM l) (topM (wavesM l))).length = topM (wavesM l) := by simp [groupsM]
  rw [hl] at h2
  have hwl : (wavesM l).length = l.length := waves_len l ft0
  have hg : (groupsM (wavesM l) (topM (wavesM l)))[d.wave]? = some ((List.range (wavesM l).length).filter fun i => decide ((wavesM l).getD i 0 = d.wave)) := by
    unfold groupsM
    rw [List.getElem?_map, List.getElem?_range h2]
    rfl
  rw [List.getD_eq_getElem?_getD, hg] at h3
  have h4 := (List.mem_filter.1 h3).2
  simp only [decide_eq_true_eq] at h4
  rw [List.getD_eq_getElem?_getD] at h4
  cases hx : (wavesM l)[i]? with
  | none => have := List.getElem?_eq_none_iff.1 hx; omega
  | some x => rw [hx] at h4; simp at h4; rw [h4]
end Go.Proofs.YthpnnffogbjhpaaGreatDoor.Kv
