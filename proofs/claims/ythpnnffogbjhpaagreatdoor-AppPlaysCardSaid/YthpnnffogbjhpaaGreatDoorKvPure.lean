/- KvMo, KvLaw, KvPM, KvTq, KvTkM, SeTkM, KvTb, NumM, KvFo, R11p in one text. -/
import Derived.Test.YthpnnffogbjhpaaGreatDoorGenAll
import Derived.Test.YthpnnffogbjhpaaGreatDoorCmM
import Derived.Test.YthpnnffogbjhpaaGreatDoorVarAll
import Derived.Lib.ParseIntB
import Derived.Lib.ItoaNum
import Derived.Lib.ItoaLen
import Derived.Lib.SlicesCompact
import Derived.Sort.Walk0
import Derived.Lib.ItoaMem
set_option linter.unusedSimpArgs false
set_option linter.unusedVariables false
set_option linter.unnecessarySimpa false
namespace Go.Proofs.YthpnnffogbjhpaaGreatDoor.Kv
open Go.RowKit Go.Proofs.YthpnnffogbjhpaaGreatDoor.Crc Go.Proofs.YthpnnffogbjhpaaGreatDoor.Cm

/-- A reply. -/
structure Rp where
  code : Nat
  text : List UInt8
deriving DecidableEq
abbrev KM := List (List UInt8 × List UInt8)
def keyA (c : Cm) : List UInt8 := c.keys.getD 0 []
def keyB (c : Cm) : List UInt8 := c.keys.getD 1 []
/-- The number that a text is, in its own digits. -/
def numM (v : List UInt8) : Option Int := match Lib.parseIntB 64 v with
  | .ok n => if Lib.itoa n = v then some n else none
  | _ => none
def fits (n : Int) : Bool := decide (-9223372036854775808 ≤ n) && decide (n ≤ 9223372036854775807)
def mset (m : KM) (k : List UInt8) : Option (List UInt8) → KM
  | none => mdel m k
  | some v => mput strK (mdel m k) k v
def joinM (m : KM) : List (List UInt8) → List UInt8
  | [] => []
  | k :: ks => (mfind m k).getD [] ++ [44] ++ joinM m ks
def delsM (m : KM) (ks : List (List UInt8)) : KM := ks.foldl mdel m
def getM (m : KM) (k : List UInt8) : Rp := match mfind m k with
  | none => ⟨1, []⟩
  | some v => ⟨0, v⟩
def addM (m : KM) (k : List UInt8) (z : Int) : KM × Rp := match numM ((mfind m k).getD [48]) with
  | none => (m, ⟨2, []⟩)
  | some n => if fits (n + z) then (mput strK m k (Lib.itoa (n + z)), ⟨0, Lib.itoa (n + z)⟩) else (m, ⟨2, []⟩)
def casM (m : KM) (k old new : List UInt8) : KM × Rp := match mfind m k with
  | none => (m, ⟨1, []⟩)
  | some v => if v = old then (mput strK m k new, ⟨0, []⟩) else (m, ⟨2, []⟩)
def swapM (m : KM) (a b : List UInt8) : KM := mset (mset m a (mfind m b)) b (mfind m a)
/-- What a command does that may be. -/
def doM (m : KM) (c : Cm) : KM × Rp :=
  match c.kind with
  | 1 => (mput strK m (keyA c) c.new, ⟨0, []⟩)
  | 2 => (m, getM m (keyA c))
  | 3 => (mdel m (keyA c), getM m (keyA c))
  | 4 => addM m (keyA c) c.n
  | 5 => casM m (keyA c) c.old c.new
  | 6 => (swapM m (keyA c) (keyB c), ⟨0, []⟩)
  | 7 => (m, ⟨0, joinM m c.keys⟩)
  | _ => (delsM m c.keys, ⟨0, Lib.itoa ((m.length : Int) - ((delsM m c.keys).length : Int))⟩)
def kvDo (m : KM) (c : Cm) : KM × Rp := if Cm.Good c then doM m c else (m, ⟨2, []⟩)

/-! ### what a state has is no longer than what commands bring -/
def KvOk (m : KM) : Prop := Rise strK m ∧ ∀ p ∈ m, p.1.length ≤ 32 ∧ p.2.length ≤ 64
theorem KvOk.nil : KvOk [] := ⟨rise_nil, by simp⟩
theorem KvOk.put {m : KM} {k v : List UInt8} (h : KvOk m) (hk : k.length ≤ 32) (hv : v.length ≤ 64) : KvOk (mput strK m k v) :=
  ⟨rise_put h.1, fun p hp => by
    rcases mem_put hp with rfl | hp
    · exact ⟨hk, hv⟩
    · exact h.2 p hp⟩
theorem KvOk.del {m : KM} (h : KvOk m) (k : List UInt8) : KvOk (mdel m k) := ⟨rise_del h.1, fun p hp => h.2 p (mem_del.1 hp).1⟩
theorem KvOk.dels {m : KM} (h : KvOk m) (ks : List (List UInt8)) : KvOk (delsM m ks) := by
  induction ks generalizing m with
  | nil => exact h
  | cons k ks ih => exact ih (h.del k)
theorem KvOk.find {m : KM} {k v : List UInt8} (h : KvOk m) (hf : mfind m k = some v) : v.length ≤ 64 := (h.2 _ (mfind_mem hf)).2
theorem KvOk.set {m : KM} {k : List UInt8} {o : Option (List UInt8)} (h : KvOk m) (hk : k.length ≤ 32) (hv : ∀ v, o = some v → v.length ≤ 64) : KvOk (mset m k o) := by
  cases o with
  | none => exact h.del k
  | some v => exact (h.del k).put hk (hv v rfl)

/-! ### sessions and applications -/
/-- A client's last number, and what was told. -/
structure La where
  seq : Nat
  r : Rp
deriving DecidableEq
abbrev TM := List (Nat × La)
abbrev cliK : Kys Nat := numK .u32
def lookM (t : TM) (client seq : Nat) : Rp × Nat := match mfind t client with
  | none => (⟨0, []⟩, 0)
  | some x => if x.seq < seq then (⟨0, []⟩, 0) else if seq = x.seq then (x.r, 1) else (⟨3, []⟩, 2)
structure Ap where
  m : KM
  t : TM
  n : Nat
def ap0 : Ap := ⟨[], [], 0⟩
def apDo (a : Ap) (c : Cm) : Ap × Rp × Bool :=
  if c.client = 0 then (a, ⟨2, []⟩, false)
  else if (lookM a.t c.client c.seq).2 = 0 then (⟨(kvDo a.m c).1, mput cliK a.t c.client ⟨c.seq, (kvDo a.m c).2⟩, a.n + 1⟩, (kvDo a.m c).2, true)
  else (a, (lookM a.t c.client c.seq).1, false)
end Go.Proofs.YthpnnffogbjhpaaGreatDoor.Kv
namespace Go.Proofs.YthpnnffogbjhpaaGreatDoor.Kv
open Go.RowKit Go.Proofs.YthpnnffogbjhpaaGreatDoor.Crc Go.Proofs.YthpnnffogbjhpaaGreatDoor.Cm

theorem itoa_len {n : Int} (h : fits n = true) : (Lib.itoa n).length ≤ 21 := by
  simp only [fits, Bool.and_eq_true, decide_eq_true_eq] at h
  exact Lib.itoa_length_le n (by omega) (by omega)
theorem Good.keys {c : Cm} (h : Cm.Good c) : c.keys.length ≤ 16 ∧ 1 ≤ c.keys.length ∧ ∀ k ∈ c.keys, k.length ≤ 32 := by
  obtain ⟨-, h1, h2, h3, h4, h5, -⟩ := h
  have hb : hi c.kind ≤ 16 ∧ 1 ≤ lo c.kind := by
    have key : ∀ q, q < 9 → q ≠ 0 → hi q ≤ 16 ∧ 1 ≤ lo q := by decide
    exact key _ h2 h1
  exact ⟨by omega, by omega, fun k hk => (h5 k hk).2⟩
theorem keyA_len {c : Cm} (h : Cm.Good c) : (keyA c).length ≤ 32 := by
  obtain ⟨h1, h2, h3⟩ := Good.keys h
  unfold keyA
  rw [List.getD_eq_getElem?_getD, List.getElem?_eq_getElem (by omega)]
  exact h3 _ (List.getElem_mem _)
theorem keyB_len {c : Cm} (h : Cm.Good c) : (keyB c).length ≤ 32 := by
  obtain ⟨h1, h2, h3⟩ := Good.keys h
  unfold keyB
  rw [List.getD_eq_getElem?_getD]
  cases hk : c.keys[1]? with
  | none => simp
  | some k => exact h3 _ (List.mem_of_getElem? hk)
theorem join_len {m : KM} (h : KvOk m) (ks : List (List UInt8)) : (joinM m ks).length ≤ 65 * ks.length := by
  induction ks with
  | nil => simp [joinM]
  | cons k ks ih =>
    have hv : ((mfind m k).getD []).length ≤ 64 := by
      cases hf : mfind m k with
      | none => simp
      | some v => simpa using h.find hf
    simp only [joinM, List.length_append, List.length_cons, List.length_nil]
    omega
theorem dels_len (m : KM) (ks : List (List UInt8)) : (delsM m ks).length ≤ m.length := by
  induction ks generalizing m with
  | nil => exact Nat.le_refl _
  | cons k ks ih => exact Nat.le_trans (ih (mdel m k)) len_del_le
theorem set_len (m : KM) (k : List UInt8) (o : Option (List UInt8)) : (mset m k o).length ≤ m.length + 1 := by
  have h := len_del_le (l := m) (k := k)
  cases o with
  | none => show (mdel m k).length ≤ _; omega
  | some v => have := len_put_le (K := strK) (l := mdel m k) (k := k) (v := v); show (mput strK (mdel m k) k v).length ≤ _; omega
/-- What a state, and a reply, is behind a command. -/
structure Bound (m m' : KM) (r : Rp) : Prop where
  ok : KvOk m'
  len : m'.length ≤ m.length + 2
  text : r.text.length ≤ 1100
  code : r.code ≤ 3
theorem get_bound {m : KM} (h : KvOk m) (k : List UInt8) : (getM m k).text.length ≤ 1100 ∧ (getM m k).code ≤ 3 := by
  unfold getM
  cases hf : mfind m k with
  | none => simp
  | some v => have := h.find hf; exact ⟨by simp only; omega, by simp⟩
theorem do_bound {m : KM} {c : Cm} (h : KvOk m) (hl : m.length ≤ 1000000) : Bound m (kvDo m c).1 (kvDo m c).2 := by
  unfold kvDo
  split
  · rename_i hg
    have hA := keyA_len hg
    have hB := keyB_len hg
    have hn : c.new.length ≤ 64 := hg.2.2.2.2.2.2.2.1
    have hp := fun (k v : List UInt8) => len_put_le (K := strK) (l := m) (k := k) (v := v)
    have hd := fun (k : List UInt8) => len_del_le (l := m) (k := k)
    have hget := get_bound h (keyA c)
    unfold doM
    split
    · exact ⟨h.put hA hn, by have := hp (keyA c) c.new; simp only; omega, by simp, by simp⟩
    · exact ⟨h, by simp only; omega, hget.1, hget.2⟩
    · exact ⟨h.del _, by have := hd (keyA c); simp only; omega, hget.1, hget.2⟩
    · unfold addM
      cases numM ((mfind m (keyA c)).getD [48]) with
      | none => exact ⟨h, by simp only; omega, by simp, by simp⟩
      | some n =>
        simp only
        split
        · rename_i hf
          have := itoa_len hf
          exact ⟨h.put hA (by omega), by have := hp (keyA c) (Lib.itoa (n + c.n)); simp only; omega, by simp only; omega, by simp⟩
        · exact ⟨h, by simp only; omega, by simp, by simp⟩
    · unfold casM
      cases mfind m (keyA c) with
      | none => exact ⟨h, by simp only; omega, by simp, by simp⟩
      | some v =>
        simp only
        split
        · exact ⟨h.put hA hn, by have := hp (keyA c) c.new; simp only; omega, by simp, by simp⟩
        · exact ⟨h, by simp only; omega, by simp, by simp⟩
    · have h1 := h.set (o := mfind m (keyB c)) hA (fun v hv => h.find hv)
      have h2 := h1.set (o := mfind m (keyA c)) hB (fun v hv => h.find hv)
      have l1 := set_len m (keyA c) (mfind m (keyB c))
      have l2 := set_len (mset m (keyA c) (mfind m (keyB c))) (keyB c) (mfind m (keyA c))
      exact ⟨h2, by unfold swapM; simp only; omega, by simp, by simp⟩
    · have := join_len h c.keys
      have := (Good.keys hg).1
      exact ⟨h, by simp only; omega, by simp only; omega, by simp⟩
    · have l1 := dels_len m c.keys
      have l2 := itoa_len (n := (m.length : Int) - ((delsM m c.keys).length : Int)) (by simp only [fits, Bool.and_eq_true, decide_eq_true_eq]; omega)
      exact ⟨h.dels _, by simp only; omega, by simp only; omega, by simp⟩
  · exact ⟨h, by simp only; omega, by simp, by simp⟩

/-! ### once -/
theorem look_known {t : TM} {client seq : Nat} {x : La} (h : mfind t client = some x) (hs : seq ≤ x.seq) : (lookM t client seq).2 ≠ 0 := by
  unfold lookM
  rw [h]
  simp only
  rw [if_neg (by omega)]
  split <;> simp
theorem apDo_known {a : Ap} {c : Cm} {x : La} (h : mfind a.t c.client = some x) (hs : c.seq ≤ x.seq) : (apDo a c).1 = a ∧ (apDo a c).2.2 = false := by
  unfold apDo
  split
  · exact ⟨rfl, rfl⟩
  · rw [if_neg (look_known h hs)]
    exact ⟨rfl, rfl⟩
theorem apDo_none {a : Ap} {c : Cm} (h : c.client = 0) : apDo a c = (a, ⟨2, []⟩, false) := by
  unfold apDo
  rw [if_pos h]
/-- What was fresh is told again. -/
theorem apDo_again {a : Ap} {c : Cm} (h : (apDo a c).2.2 = true) : apDo (apDo a c).1 c = ((apDo a c).1, (apDo a c).2.1, false) := by
  have h0 : c.client ≠ 0 := fun e => by rw [apDo_none e] at h; cases h
  have h1 : (lookM a.t c.client c.seq).2 = 0 := by
    refine Decidable.byContradiction fun hne => ?_
    unfold apDo at h
    rw [if_neg h0, if_neg hne] at h
    cases h
  have e : apDo a c = (⟨(kvDo a.m c).1, mput cliK a.t c.client ⟨c.seq, (kvDo a.m c).2⟩, a.n + 1⟩, (kvDo a.m c).2, true) := by
    unfold apDo
    rw [if_neg h0, if_pos h1]
  rw [e]
  unfold apDo
  rw [if_neg h0]
  have hl : lookM (mput cliK a.t c.client ⟨c.seq, (kvDo a.m c).2⟩) c.client c.seq = ((kvDo a.m c).2, 1) := by
    unfold lookM
    rw [mfind_put, if_pos rfl]
    simp
  rw [hl]
  simp
/-- Each command that came has its client's number, or one below. -/
def Told (l : List Cm) (i : Nat) (a : Ap) : Prop := ∀ j c, j < i → l[j]? = some c → c.client ≠ 0 → ∃ x, mfind a.t c.client = some x ∧ c.seq ≤ x.seq
theorem Told.zero (l : List Cm) (a : Ap) : Told l 0 a := fun j c hj => by omega
theorem Told.next {l : List Cm} {i : Nat} {a : Ap} {c : Cm} (h : Told l i a) (hc : l[i]? = some c) : Told l (i + 1) (apDo a c).1 := by
  intro j d hj hd h0
  have key : ∀ x, mfind a.t d.client = some x → d.seq ≤ x.seq → ∃ x, mfind (apDo a c).1.t d.client = some x ∧ d.seq ≤ x.seq := by
    intro x hf hs
    unfold apDo
    split
    · exact ⟨x, hf, hs⟩
    · split
      · rename_i h1 h2
        simp only
        rw [mfind_put]
        by_cases he : d.client = c.client
        · rw [if_pos he]
          refine ⟨_, rfl, ?_⟩
          unfold lookM at h2
          rw [← he, hf] at h2
          simp only at h2
          split at h2
          · show d.seq ≤ c.seq; omega
          · split at h2 <;> simp at h2
        · rw [if_neg he]
          exact ⟨x, hf, hs⟩
      · exact ⟨x, hf, hs⟩
  rcases Nat.lt_or_ge j i with h1 | h1
  · obtain ⟨x, hf, hs⟩ := h j d h1 hd h0
    exact key x hf hs
  · have : j = i := by omega
    subst this
    rw [hc] at hd
    cases hd
    unfold apDo
    rw [if_neg h0]
    split
    · simp only
      rw [mfind_put, if_pos rfl]
      exact ⟨_, rfl, Nat.le_refl _⟩
    · rename_i h2
      simp only
      unfold lookM at h2
      cases hf : mfind a.t c.client with
      | none => rw [hf] at h2; simp at h2
      | some x =>
        rw [hf] at h2
        simp only at h2
        refine ⟨x, rfl, ?_⟩
        split at h2
        · simp at h2
        · omega
/-- What an application has is bounded by how many commands it was handed. -/
structure ApOk (a : Ap) (i : Nat) : Prop where
  kv : KvOk a.m
  rise : Rise cliK a.t
  len : a.m.length ≤ 2 * i
  tab : a.t.length ≤ i
  n : a.n ≤ i
  row : ∀ p ∈ a.t, p.1 < 4294967296 ∧ p.2.seq < 4294967296 ∧ p.2.r.code ≤ 3 ∧ p.2.r.text.length ≤ 1100
theorem ApOk.zero : ApOk ap0 0 := ⟨KvOk.nil, rise_nil, by simp [ap0], by simp [ap0], by simp [ap0], by simp [ap0]⟩
theorem ApOk.mono {a : Ap} {i j : Nat} (h : ApOk a i) (hij : i ≤ j) : ApOk a j := ⟨h.kv, h.rise, by have := h.len; omega, by have := h.tab; omega, by have := h.n; omega, h.row⟩
theorem ApOk.next {a : Ap} {i : Nat} {c : Cm} (h : ApOk a i) (hi : i ≤ 10000) (h1 : c.client < 4294967296) (h2 : c.seq < 4294967296) : ApOk (apDo a c).1 (i + 1) := by
  unfold apDo
  split
  · exact h.mono (by omega)
  · split
    · have hb := do_bound (c := c) h.kv (by have := h.len; omega)
      have hp := len_put_le (K := cliK) (l := a.t) (k := c.client) (v := ⟨c.seq, (kvDo a.m c).2⟩)
      refine ⟨hb.ok, rise_put h.rise, ?_, ?_, ?_, fun p hp' => ?_⟩
      · have := hb.len; have := h.len; simp only; omega
      · have := h.tab; simp only; omega
      · have := h.n; simp only; omega
      · rcases mem_put hp' with rfl | hp'
        · exact ⟨h1, h2, hb.code, hb.text⟩
        · exact h.row p hp'
    · exact h.mono (by omega)
theorem apDo_bound {a : Ap} {i : Nat} {c : Cm} (h : ApOk a i) (hi : i ≤ 10000) : (apDo a c).2.1.code ≤ 3 ∧ (apDo a c).2.1.text.length ≤ 1100 := by
  unfold apDo
  split
  · simp
  · split
    · have hb := do_bound (c := c) h.kv (by have := h.len; omega)
      exact ⟨hb.code, hb.text⟩
    · simp only
      unfold lookM
      cases hf : mfind a.t c.client with
      | none => simp
      | some x =>
        have := h.row _ (mfind_mem hf)
        simp only
        split
        · simp
        · split
          · exact ⟨this.2.2.1, this.2.2.2⟩
          · simp
end Go.Proofs.YthpnnffogbjhpaaGreatDoor.Kv
namespace Go.Proofs.YthpnnffogbjhpaaGreatDoor.Kv
open Go.RowKit Go.Proofs.YthpnnffogbjhpaaGreatDoor.Crc Go.Proofs.YthpnnffogbjhpaaGreatDoor.Cm Go.Proofs.YthpnnffogbjhpaaGreatDoor.Var
/-- A text's bytes. -/
def txB (t : List UInt8) : List UInt8 := uv t.length ++ t
def prB (p : List UInt8 × List UInt8) : List UInt8 := txB p.1 ++ txB p.2
def kvB (m : KM) : List UInt8 := uv m.length ++ m.flatMap prB
/-- A client's bytes; a table's. -/
def laB (p : Nat × La) : List UInt8 := uv p.1 ++ (uv p.2.seq ++ (uv p.2.r.code ++ txB p.2.r.text))
def tbB (t : TM) : List UInt8 := uv t.length ++ t.flatMap laB
/-- An application's. -/
def apB (a : Ap) : List UInt8 := uv a.n ++ (kvB a.m ++ tbB a.t)
theorem cliK_lt {a b : Nat} : cliK.lt a b = decide (a < b) := by
  show decide ((a : Int) < (b : Int)) = decide (a < b)
  simp
theorem riseU_find {m : TM} {p : Nat × La} (h : Rise cliK m) (hp : p ∈ m) : mfind m p.1 = some p.2 := by
  induction m with
  | nil => cases hp
  | cons a t ih =>
    obtain ⟨h1, h2⟩ := List.pairwise_cons.1 h
    rw [mfind_cons]
    rcases List.mem_cons.1 hp with rfl | hp
    · rw [if_pos rfl]
    · have := h1 p hp
      rw [if_neg (fun e => by rw [e, cliK.lt_irrefl] at this; cases this)]
      exact ih h2 hp
end Go.Proofs.YthpnnffogbjhpaaGreatDoor.Kv
namespace Go.Proofs.YthpnnffogbjhpaaGreatDoor.Kv
set_option linter.unusedSimpArgs false
set_option linter.unusedVariables false
open Go.RowKit Go.Proofs.YthpnnffogbjhpaaGreatDoor.Crc Go.Proofs.YthpnnffogbjhpaaGreatDoor.Cm

def PlaceU (q : TM) (k : Nat) (a : Nat) : Prop := a ≤ q.length ∧ (∀ j p, j < a → q[j]? = some p → p.1 < k) ∧ ∀ p, q[a]? = some p → ¬ p.1 < k
theorem mdel_none {t : TM} {k : Nat} (h : ∀ p ∈ t, p.1 ≠ k) : mdel t k = t := List.filter_eq_self.2 fun p hp => by simp [h p hp]
theorem riseU_lt {p : Nat × La} {t : TM} (h : Rise cliK (p :: t)) : (∀ q ∈ t, p.1 < q.1) ∧ Rise cliK t := by
  obtain ⟨h1, h2⟩ := List.pairwise_cons.1 h
  exact ⟨fun q hq => by have := h1 q hq; rwa [cliK_lt, decide_eq_true_eq] at this, h2⟩
theorem mins_front {t : TM} {k : Nat} {x : La} (h : ∀ p ∈ t, k < p.1) : mins cliK (k, x) t = (k, x) :: t := by
  cases t with
  | nil => rfl
  | cons p t =>
    have := h p (by simp)
    simp only [mins]
    rw [if_pos (by rw [cliK_lt, decide_eq_true_eq]; exact this)]
theorem placeU_own {q : TM} {k a : Nat} {x y : La} (hr : Rise cliK q) (hy : q[a]? = some (k, y)) : q.take a ++ [(k, x)] ++ q.drop (a + 1) = mput cliK q k x := by
  unfold mput
  induction q generalizing a with
  | nil => simp at hy
  | cons p t ih =>
    obtain ⟨h1, h2⟩ := riseU_lt hr
    cases a with
    | zero =>
      simp at hy
      subst hy
      have hd : mdel ((k, y) :: t) k = t := by
        have : mdel ((k, y) :: t) k = mdel t k := by simp [mdel]
        rw [this, mdel_none fun p hp => by have := h1 p hp; simp only at this; omega]
      rw [hd, mins_front fun p hp => h1 p hp]
      simp
    | succ a =>
      have hy' : t[a]? = some (k, y) := by simpa using hy
      have hp := h1 (k, y) (List.mem_of_getElem? hy')
      simp only at hp
      have hd : mdel (p :: t) k = p :: mdel t k := by
        have : p.1 ≠ k := by omega
        simp [mdel, this]
      rw [hd]
      simp only [mins]
      rw [if_neg (by rw [cliK_lt]; simp; omega), ← ih h2 hy']
      simp
theorem placeU_new {q : TM} {k a : Nat} {x : La} (hr : Rise cliK q) (h : PlaceU q k a) (hn : ∀ p, q[a]? = some p → p.1 ≠ k) : q.take a ++ [(k, x)] ++ q.drop a = mput cliK q k x := by
  unfold mput
  induction q generalizing a with
  | nil => simp [mdel, mins]
  | cons p t ih =>
    obtain ⟨k1, k2, k3⟩ := h
    obtain ⟨h1, h2⟩ := riseU_lt hr
    cases a with
    | zero =>
      have h4 := k3 p rfl
      have h5 := hn p rfl
      have hd : mdel (p :: t) k = p :: t := mdel_none fun q hq => by
        rcases List.mem_cons.1 hq with rfl | hq
        · exact h5
        · have := h1 q hq; omega
      rw [hd, mins_front fun q hq => by
        rcases List.mem_cons.1 hq with rfl | hq
        · omega
        · have := h1 q hq; omega]
      simp
    | succ a =>
      have h4 : p.1 < k := k2 0 p (by omega) rfl
      have hd : mdel (p :: t) k = p :: mdel t k := by
        have : p.1 ≠ k := by omega
        simp [mdel, this]
      rw [hd]
      simp only [mins]
      rw [if_neg (by rw [cliK_lt]; simp; omega), ← ih h2 ⟨by simpa using k1, fun j y hj hy => k2 (j + 1) y (by omega) (by simpa using hy), fun y hy => k3 y (by simpa using hy)⟩ (fun y hy => hn y (by simpa using hy))]
      simp
theorem placeU_find {q : TM} {k a : Nat} (hr : Rise cliK q) (h : PlaceU q k a) (hn : ∀ p, q[a]? = some p → p.1 ≠ k) : mfind q k = none := by
  induction q generalizing a with
  | nil => rfl
  | cons p t ih =>
    obtain ⟨k1, k2, k3⟩ := h
    obtain ⟨h1, h2⟩ := riseU_lt hr
    rw [mfind_cons]
    cases a with
    | zero =>
      have h4 := k3 p rfl
      have h5 := hn p rfl
      rw [if_neg h5]
      exact ih (a := 0) h2 ⟨by omega, by omega, fun y hy => by have := h1 y (List.mem_of_getElem? hy); omega⟩ (fun y hy => by have := h1 y (List.mem_of_getElem? hy); omega)
    | succ a =>
      have h4 : p.1 < k := k2 0 p (by omega) rfl
      rw [if_neg (by omega)]
      exact ih h2 ⟨by simpa using k1, fun j y hj hy => k2 (j + 1) y (by omega) (by simpa using hy), fun y hy => k3 y (by simpa using hy)⟩ (fun y hy => hn y (by simpa using hy))
end Go.Proofs.YthpnnffogbjhpaaGreatDoor.Kv
namespace Go.Proofs.YthpnnffogbjhpaaGreatDoor.Kv
set_option linter.unusedSimpArgs false
set_option linter.unusedVariables false
set_option linter.unnecessarySimpa false
open Go.RowKit Go.Proofs.YthpnnffogbjhpaaGreatDoor.Crc Go.Proofs.YthpnnffogbjhpaaGreatDoor.Cm

theorem find_dels (ks : List (List UInt8)) : ∀ (m : KM) (k : List UInt8), mfind (delsM m ks) k = if k ∈ ks then none else mfind m k := by
  induction ks with
  | nil => intro m k; simp [delsM]
  | cons x ks ih =>
    intro m k
    show mfind (delsM (mdel m x) ks) k = _
    rw [ih, mfind_del]
    by_cases h1 : k ∈ ks
    · simp [h1]
    · by_cases h2 : k = x <;> simp [h1, h2]
theorem find_set (m : KM) (k : List UInt8) (o : Option (List UInt8)) (j : List UInt8) : mfind (mset m k o) j = if j = k then o else mfind m j := by
  cases o with
  | none => show mfind (mdel m k) j = _; rw [mfind_del]
  | some v =>
    show mfind (mput strK (mdel m k) k v) j = _
    rw [mfind_put, mfind_del]
    by_cases h : j = k <;> simp [h]
theorem len_del (m : KM) (k : List UInt8) (h : Rise strK m) : (mdel m k).length + (if (mfind m k).isSome then 1 else 0) = m.length := by
  induction m with
  | nil => rfl
  | cons p t ih =>
    have h1 := rise_fresh h
    have h2 : Rise strK t := List.Pairwise.of_cons h
    have h3 := ih h2
    rw [mfind_cons]
    by_cases e : p.1 = k
    · rw [if_pos e]
      rw [e] at h1
      rw [h1] at h3
      have : mdel (p :: t) k = mdel t k := by simp [mdel, e]
      rw [this]
      simp at h3 ⊢
      omega
    · rw [if_neg e]
      have : mdel (p :: t) k = p :: mdel t k := by simp [mdel, e]
      rw [this, List.length_cons, List.length_cons]
      omega
/-- How many keys go. -/
def delN (m : KM) : List (List UInt8) → Nat
  | [] => 0
  | k :: ks => (if (mfind m k).isSome then 1 else 0) + delN (mdel m k) ks
theorem delN_len (ks : List (List UInt8)) : ∀ m : KM, Rise strK m → (delsM m ks).length + delN m ks = m.length := by
  induction ks with
  | nil => intro m _; rfl
  | cons k ks ih =>
    intro m h
    have h1 := ih (mdel m k) (rise_del h)
    have h2 := len_del m k h
    show (delsM (mdel m k) ks).length + ((if (mfind m k).isSome then 1 else 0) + delN (mdel m k) ks) = _
    omega
theorem delN_local (ks : List (List UInt8)) : ∀ m m' : KM, (∀ k ∈ ks, mfind m k = mfind m' k) → delN m ks = delN m' ks := by
  induction ks with
  | nil => intro _ _ _; rfl
  | cons k ks ih =>
    intro m m' h
    show (if (mfind m k).isSome then 1 else 0) + delN (mdel m k) ks = (if (mfind m' k).isSome then 1 else 0) + delN (mdel m' k) ks
    rw [h k (by simp), ih (mdel m k) (mdel m' k) (fun j hj => by rw [mfind_del, mfind_del, h j (by simp [hj])])]
theorem join_local (ks : List (List UInt8)) (m m' : KM) (h : ∀ k ∈ ks, mfind m k = mfind m' k) : joinM m ks = joinM m' ks := by
  induction ks with
  | nil => rfl
  | cons k ks ih => simp only [joinM]; rw [h k (by simp), ih (fun j hj => h j (by simp [hj]))]
theorem keyA_mem {c : Cm} (h : Cm.Good c) : keyA c ∈ c.keys := by
  have h2 := (Good.keys h).2.1
  unfold keyA
  rw [List.getD_eq_getElem?_getD, List.getElem?_eq_getElem (by omega)]
  exact List.getElem_mem _
theorem keyB_mem {c : Cm} (h : Cm.Good c) (h6 : c.kind = 6) : keyB c ∈ c.keys := by
  have h2 : 1 < c.keys.length := by have := h.2.2.2.1; rw [h6] at this; exact this
  unfold keyB
  rw [List.getD_eq_getElem?_getD, List.getElem?_eq_getElem h2]
  exact List.getElem_mem _
theorem kind_of {c : Cm} (h : Cm.Good c) : c.kind = 1 ∨ c.kind = 2 ∨ c.kind = 3 ∨ c.kind = 4 ∨ c.kind = 5 ∨ c.kind = 6 ∨ c.kind = 7 ∨ c.kind = 8 := by
  have := h.2.1; have := h.2.2.1; omega
theorem rise_dels {m : KM} (ks : List (List UInt8)) (h : Rise strK m) : Rise strK (delsM m ks) := by
  induction ks generalizing m with
  | nil => exact h
  | cons k ks ih => exact ih (rise_del h)
theorem rise_set {m : KM} {k : List UInt8} {o : Option (List UInt8)} (h : Rise strK m) : Rise strK (mset m k o) := by
  cases o with
  | none => exact rise_del h
  | some v => exact rise_put (rise_del h)
theorem rise_do {m : KM} {c : Cm} (h : Rise strK m) : Rise strK (kvDo m c).1 := by
  unfold kvDo
  split
  · rename_i hg
    unfold doM
    split
    · exact rise_put h
    · exact h
    · exact rise_del h
    · unfold addM
      split
      · exact h
      · split
        · exact rise_put h
        · exact h
    · unfold casM
      split
      · exact h
      · split
        · exact rise_put h
        · exact h
    · exact rise_set (rise_set h)
    · exact h
    · exact rise_dels _ h
  · exact h
theorem do_frame {m : KM} {c : Cm} {k : List UInt8} (hk : k ∉ c.keys) : mfind (kvDo m c).1 k = mfind m k := by
  unfold kvDo
  split
  · rename_i hg
    have hA : k ≠ keyA c := fun e => hk (e ▸ keyA_mem hg)
    rcases kind_of hg with h | h | h | h | h | h | h | h <;> simp only [doM, h]
    · rw [mfind_put, if_neg hA]
    · rw [mfind_del, if_neg hA]
    · unfold addM
      split
      · rfl
      · split
        · simp only; rw [mfind_put, if_neg hA]
        · rfl
    · unfold casM
      split
      · rfl
      · split
        · simp only; rw [mfind_put, if_neg hA]
        · rfl
    · have hB : k ≠ keyB c := fun e => hk (e ▸ keyB_mem hg h)
      unfold swapM
      rw [find_set, if_neg hB, find_set, if_neg hA]
    · rw [find_dels, if_neg hk]
  · rfl
theorem do_local {m m' : KM} {c : Cm} (hm : Rise strK m) (hm' : Rise strK m') (h : ∀ k ∈ c.keys, mfind m k = mfind m' k) : (kvDo m c).2 = (kvDo m' c).2 ∧ ∀ k ∈ c.keys, mfind (kvDo m c).1 k = mfind (kvDo m' c).1 k := by
  unfold kvDo
  split
  · rename_i hg
    have hA := h _ (keyA_mem hg)
    rcases kind_of hg with h1 | h1 | h1 | h1 | h1 | h1 | h1 | h1 <;> simp only [doM, h1]
    · exact ⟨trivial, fun k hk => by rw [mfind_put, mfind_put, h k hk]⟩
    · unfold getM
      rw [hA]
      exact ⟨rfl, h⟩
    · unfold getM
      rw [hA]
      exact ⟨rfl, fun k hk => by rw [mfind_del, mfind_del, h k hk]⟩
    · unfold addM
      rw [hA]
      split
      · exact ⟨rfl, h⟩
      · split
        · exact ⟨rfl, fun k hk => by simp only; rw [mfind_put, mfind_put, h k hk]⟩
        · exact ⟨rfl, h⟩
    · unfold casM
      rw [hA]
      split
      · exact ⟨rfl, h⟩
      · split
        · exact ⟨rfl, fun k hk => by simp only; rw [mfind_put, mfind_put, h k hk]⟩
        · exact ⟨rfl, h⟩
    · have hB := h _ (keyB_mem hg h1)
      unfold swapM
      exact ⟨trivial, fun k hk => by rw [find_set, find_set, find_set, find_set, hA, hB, h k hk]⟩
    · exact ⟨by rw [join_local _ _ _ h], h⟩
    · refine ⟨?_, fun k hk => by rw [find_dels, find_dels, h k hk]⟩
      have e1 := delN_len c.keys m hm
      have e2 := delN_len c.keys m' hm'
      have e3 := delN_local c.keys m m' h
      rw [show (m.length : Int) - ((delsM m c.keys).length : Int) = (m'.length : Int) - ((delsM m' c.keys).length : Int) by omega]
  · exact ⟨rfl, h⟩
theorem do_apart {m : KM} {a b : Cm} (hm : Rise strK m) (hab : ∀ k ∈ b.keys, k ∉ a.keys) :
    (kvDo (kvDo m a).1 b).2 = (kvDo m b).2 ∧ (kvDo (kvDo m b).1 a).2 = (kvDo m a).2 ∧ (kvDo (kvDo m a).1 b).1 = (kvDo (kvDo m b).1 a).1 := by
  have fa : ∀ k ∈ b.keys, mfind (kvDo m a).1 k = mfind m k := fun k hk => do_frame (hab k hk)
  have fb : ∀ k ∈ a.keys, mfind (kvDo m b).1 k = mfind m k := fun k hk => do_frame (fun h => hab k h hk)
  have lb := do_local (c := b) (rise_do (c := a) hm) hm fa
  have la := do_local (c := a) (rise_do (c := b) hm) hm fb
  refine ⟨lb.1, la.1, rise_ext (rise_do (rise_do hm)) (rise_do (rise_do hm)) fun k => ?_⟩
  by_cases ha : k ∈ a.keys
  · rw [do_frame (c := b) (fun h => hab k h ha), la.2 k ha]
  · rw [do_frame (c := a) ha]
    by_cases hb : k ∈ b.keys
    · exact lb.2 k hb
    · rw [do_frame (c := b) hb, do_frame (c := a) ha, do_frame (c := b) hb]
/-- Another key's change changes nothing. -/
theorem do_other {m : KM} {c : Cm} {o v : List UInt8} (hm : Rise strK m) (ho : o ∉ c.keys) : (kvDo (mput strK m o v) c).2 = (kvDo m c).2 ∧ mfind (kvDo (mput strK m o v) c).1 o = some v ∧ mfind (kvDo m c).1 o = mfind m o := by
  refine ⟨(do_local (c := c) (rise_put hm) hm fun k hk => ?_).1, ?_, do_frame ho⟩
  · rw [mfind_put, if_neg (fun e => ho (by rw [← e]; exact hk))]
  · rw [do_frame ho, mfind_put, if_pos rfl]
end Go.Proofs.YthpnnffogbjhpaaGreatDoor.Kv
namespace Go.Proofs.YthpnnffogbjhpaaGreatDoor.Kv
set_option linter.unusedSimpArgs false
set_option linter.unusedVariables false
set_option linter.unnecessarySimpa false
open Go.RowKit Go.Proofs.YthpnnffogbjhpaaGreatDoor.Crc Go.Proofs.YthpnnffogbjhpaaGreatDoor.Cm

theorem before_less : ∀ a b : List UInt8, bytesBefore a b = Op.bytesLess a b
  | [], [] => rfl
  | [], _ :: _ => rfl
  | _ :: _, [] => rfl
  | a :: x, b :: y => by simp only [bytesBefore, Op.bytesLess, before_less x y]
theorem less_eq : ∀ x y : List UInt8, Op.bytesLess x y = decide (x < y)
  | [], [] => rfl
  | [], _ :: _ => by simp [Op.bytesLess]
  | _ :: _, [] => by simp [Op.bytesLess]
  | a :: x, b :: y => by
    simp only [Op.bytesLess, less_eq x y, List.cons_lt_cons_iff]
    by_cases h1 : a < b
    · simp [h1]
    · by_cases h2 : a = b
      · simp [h2]
      · simp [h1, h2]
theorem strK_lt (a b : List UInt8) : strK.lt a b = decide (a < b) := by
  show bytesBefore a b = _
  rw [before_less]
  exact less_eq a b
theorem lex_trans {a b c : List UInt8} (h1 : a < b) (h2 : b < c) : a < c := by
  have := strK.lt_trans (a := a) (b := b) (c := c) (by rw [strK_lt]; simpa using h1) (by rw [strK_lt]; simpa using h2)
  rw [strK_lt] at this
  simpa using this
theorem lex_total {a b : List UInt8} (h : a ≠ b) : a < b ∨ b < a := by
  have := strK.total (a := a) (b := b) (by exact h)
  rcases this with h1 | h1
  · exact .inl (by have h2 : strK.lt a b = true := h1; rw [strK_lt] at h2; simpa using h2)
  · exact .inr (by have h2 : strK.lt b a = true := h1; rw [strK_lt] at h2; simpa using h2)
theorem lex_irrefl (a : List UInt8) : ¬ a < a := fun h => by
  have := strK.lt_irrefl a
  rw [strK_lt, decide_eq_true h] at this
  cases this
theorem lex_le {a b : List UInt8} : a ≤ b ↔ (a < b ∨ a = b) := by
  constructor
  · intro h
    by_cases e : a = b
    · exact .inr e
    · rcases lex_total e with h1 | h1
      · exact .inl h1
      · exact absurd h1 (List.not_lt.2 h)
  · rintro (h | rfl)
    · exact List.le_of_lt h
    · exact List.le_refl _
/-- Strictly rising. -/
abbrev Asc (l : List (List UInt8)) : Prop := l.Pairwise (· < ·)
theorem asc_ext {a b : List (List UInt8)} (ha : Asc a) (hb : Asc b) (h : ∀ x, x ∈ a ↔ x ∈ b) : a = b := by
  have key : ∀ l : List (List UInt8), Asc l → Rise strK (l.map fun k => (k, ([] : List UInt8))) := fun l hl => by
    unfold Rise
    rw [List.pairwise_map]
    exact hl.imp fun {x y} hxy => by rw [strK_lt]; simpa using hxy
  have find : ∀ (l : List (List UInt8)) (j : List UInt8), mfind (l.map fun k => (k, ([] : List UInt8))) j = if j ∈ l then some [] else none := fun l j => by
    induction l with
    | nil => rfl
    | cons x t ih =>
      rw [List.map_cons, mfind_cons]
      by_cases e : x = j
      · subst e; simp
      · rw [if_neg e, ih]
        by_cases hj : j ∈ t
        · simp [hj]
        · rw [if_neg hj, if_neg]
          simp only [List.mem_cons, not_or]
          exact ⟨fun h => e h.symm, hj⟩
  have e := rise_ext (key a ha) (key b hb) fun k => by
    rw [find, find]
    by_cases hk : k ∈ a
    · rw [if_pos hk, if_pos ((h k).1 hk)]
    · rw [if_neg hk, if_neg (fun hb' => hk ((h k).2 hb'))]
  have := congrArg (List.map Prod.fst) e
  rw [List.map_map, List.map_map] at this
  have hid : (Prod.fst ∘ fun k : List UInt8 => (k, ([] : List UInt8))) = id := rfl
  rw [hid, List.map_id, List.map_id] at this
  exact this
def sortM (ks : List (List UInt8)) : List (List UInt8) := Lib.compact (ks.mergeSort fun x y => decide (x ≤ y))
theorem upTo_says {zs : List (List UInt8)} (hs : zs.Pairwise (· ≤ ·)) : ∀ m, m ≤ zs.length → Asc (Lib.compactUpTo zs.toArray m) ∧ (∀ x, x ∈ Lib.compactUpTo zs.toArray m ↔ ∃ j, j < m ∧ zs[j]? = some x) := by
  have get : ∀ (j : Nat) (h : j < zs.length), zs.toArray[j]! = zs[j] := fun j h => by simp [h]
  have le : ∀ (i j : Nat) (hi : i < zs.length) (hj : j < zs.length), i ≤ j → zs[i] ≤ zs[j] := fun i j hi hj hij => by
    rcases Nat.lt_or_ge i j with h | h
    · exact List.pairwise_iff_getElem.1 hs i j hi hj h
    · have : i = j := by omega
      subst this
      exact List.le_refl _
  intro m
  induction m with
  | zero => intro _; exact ⟨by simp [Lib.compactUpTo], by simp [Lib.compactUpTo]⟩
  | succ m ih =>
    intro hm
    obtain ⟨h1, h2⟩ := ih (by omega)
    rw [Lib.compactUpTo_succ]
    have hmz : zs[m]? = some zs[m] := List.getElem?_eq_getElem (by omega)
    by_cases hk : Lib.keeps zs.toArray m = true
    · rw [if_pos hk, get m (by omega)]
      refine ⟨List.pairwise_append.2 ⟨h1, by simp, fun a ha b hb => ?_⟩, fun x => ?_⟩
      · simp only [List.mem_singleton] at hb
        subst hb
        obtain ⟨j, hj, hja⟩ := (h2 a).1 ha
        obtain ⟨hjl, rfl⟩ := List.getElem?_eq_some_iff.1 hja
        simp only [Lib.keeps, decide_eq_true_eq] at hk
        rcases hk with hk | hk
        · omega
        · rw [get m (by omega), get (m - 1) (by omega)] at hk
          have q1 := le j (m - 1) hjl (by omega) (by omega)
          have q2 := le (m - 1) m (by omega) (by omega) (by omega)
          have q3 : zs[m - 1] < zs[m] := by
            rcases lex_le.1 q2 with h | h
            · exact h
            · exact absurd h.symm hk
          rcases lex_le.1 q1 with h | h
          · exact lex_trans h q3
          · rw [h]; exact q3
      · rw [List.mem_append, h2, List.mem_singleton]
        constructor
        · rintro (⟨j, hj, hx⟩ | rfl)
          · exact ⟨j, by omega, hx⟩
          · exact ⟨m, by omega, hmz⟩
        · rintro ⟨j, hj, hx⟩
          by_cases e : j = m
          · subst e; rw [hmz] at hx; cases hx; exact .inr rfl
          · exact .inl ⟨j, by omega, hx⟩
    · rw [if_neg hk, List.append_nil]
      refine ⟨h1, fun x => ?_⟩
      rw [h2]
      constructor
      · rintro ⟨j, hj, hx⟩; exact ⟨j, by omega, hx⟩
      · rintro ⟨j, hj, hx⟩
        by_cases e : j = m
        · subst e
          simp only [Lib.keeps, decide_eq_true_eq, not_or, Decidable.not_not] at hk
          rw [get j (by omega), get (j - 1) (by omega)] at hk
          refine ⟨j - 1, by omega, ?_⟩
          rw [← hx, hmz, hk.2, List.getElem?_eq_getElem (by omega)]
        · exact ⟨j, by omega, hx⟩
theorem sorted_of (ks : List (List UInt8)) : (ks.mergeSort fun x y => decide (x ≤ y)).Pairwise (· ≤ ·) := by
  have h := List.pairwise_mergeSort (le := fun x y : List UInt8 => decide (x ≤ y)) (fun a b c h1 h2 => by
    simp only [decide_eq_true_eq] at h1 h2 ⊢
    exact List.le_trans h1 h2) (fun a b => by
    simp only [Bool.or_eq_true, decide_eq_true_eq]
    exact List.le_total a b) ks
  exact h.imp fun {a b} h => by simpa using h
theorem sortM_says (ks : List (List UInt8)) : Asc (sortM ks) ∧ ∀ x, x ∈ sortM ks ↔ x ∈ ks := by
  obtain ⟨h1, h2⟩ := upTo_says (sorted_of ks) _ (Nat.le_refl _)
  refine ⟨h1, fun x => ?_⟩
  show x ∈ Lib.compactUpTo _ _ ↔ _
  rw [h2, ← List.mem_mergeSort (le := fun x y : List UInt8 => decide (x ≤ y)) (l := ks)]
  constructor
  · rintro ⟨j, -, h⟩; exact List.mem_of_getElem? h
  · intro h
    obtain ⟨j, hj⟩ := List.mem_iff_getElem?.1 h
    exact ⟨j, (List.getElem?_eq_some_iff.1 hj).1, hj⟩
/-- The document's: pairs without values. -/
def touchP (ks : List (List UInt8)) : KM := ks.foldl (fun m k => mput strK m k []) []
theorem touchP_next {ks : List (List UInt8)} {i : Nat} {k : List UInt8} (h : ks[i]? = some k) : touchP (ks.take (i + 1)) = mput strK (touchP (ks.take i)) k [] := by
  rw [List.take_add_one, h]
  unfold touchP
  rw [List.foldl_append]
  rfl
theorem fold_says (ks : List (List UInt8)) : ∀ m : KM, Rise strK m → Rise strK (ks.foldl (fun m k => mput strK m k []) m) ∧ ∀ x, (mfind (ks.foldl (fun m k => mput strK m k []) m) x).isSome = true ↔ (x ∈ ks ∨ (mfind m x).isSome = true) := by
  induction ks with
  | nil => intro m hm; exact ⟨hm, by simp⟩
  | cons k ks ih =>
    intro m hm
    obtain ⟨h1, h2⟩ := ih (mput strK m k []) (rise_put hm)
    refine ⟨h1, fun x => ?_⟩
    rw [List.foldl_cons, h2, mfind_put]
    by_cases e : x = k
    · simp [e]
    · simp [e]
theorem touchP_says (ks : List (List UInt8)) : Rise strK (touchP ks) ∧ ∀ x, (mfind (touchP ks) x).isSome = true ↔ x ∈ ks := by
  obtain ⟨h1, h2⟩ := fold_says ks [] rise_nil
  exact ⟨h1, fun x => by have h := h2 x; rw [mfind_nil] at h; unfold touchP; simpa using h⟩
theorem touchP_len (ks : List (List UInt8)) : (touchP ks).length ≤ ks.length := by
  have key : ∀ (ks : List (List UInt8)) (m : KM), (ks.foldl (fun m k => mput strK m k []) m).length ≤ m.length + ks.length := by
    intro ks
    induction ks with
    | nil => intro m; simp
    | cons k ks ih =>
      intro m
      have h1 := ih (mput strK m k [])
      have h2 := len_put_le (K := strK) (l := m) (k := k) (v := [])
      simp only [List.foldl_cons, List.length_cons]
      omega
  simpa [touchP] using key ks []
theorem mem_find {m : KM} (x : List UInt8) : x ∈ m.map (·.1) ↔ (mfind m x).isSome = true := by
  constructor
  · intro h
    obtain ⟨p, hp, rfl⟩ := List.mem_map.1 h
    obtain ⟨v, hv⟩ := mfind_of_mem hp
    rw [hv]; rfl
  · intro h
    obtain ⟨v, hv⟩ := Option.isSome_iff_exists.1 h
    exact List.mem_map.2 ⟨_, mfind_mem hv, rfl⟩
theorem touch_same (ks : List (List UInt8)) : (touchP ks).map (·.1) = sortM ks := by
  obtain ⟨h1, h2⟩ := touchP_says ks
  obtain ⟨k1, k2⟩ := sortM_says ks
  refine asc_ext ?_ k1 fun x => by rw [mem_find, h2, k2]
  show List.Pairwise _ _
  rw [List.pairwise_map]
  exact List.Pairwise.imp (fun {p q} h => by rw [strK_lt] at h; simpa using h) h1
end Go.Proofs.YthpnnffogbjhpaaGreatDoor.Kv
namespace Go.Proofs.YthpnnffogbjhpaaGreatDoor.Kv
set_option linter.unusedSimpArgs false
set_option linter.unusedVariables false
open Go.Lib

def isD (c : UInt8) : Prop := 48 ≤ c.toNat ∧ c.toNat ≤ 57
instance (c : UInt8) : Decidable (isD c) := by unfold isD; infer_instance
def valF (a : Nat) (l : List UInt8) : Nat := l.foldl (fun a c => a * 10 + (c.toNat - 48)) a
theorem valF_snoc (a : Nat) (l : List UInt8) (c : UInt8) : valF a (l ++ [c]) = valF a l * 10 + (c.toNat - 48) := by simp [valF, List.foldl_append]
theorem valF_le (a : Nat) (l : List UInt8) : a ≤ valF a l := by
  induction l generalizing a with
  | nil => exact Nat.le_refl _
  | cons c l ih => have := ih (a * 10 + (c.toNat - 48)); show a ≤ valF (a * 10 + (c.toNat - 48)) l; omega
structure Canon (d : List UInt8) : Prop where
  ne : d ≠ []
  all : ∀ c ∈ d, isD c
  head : d.head? ≠ some 48 ∨ d.length = 1
theorem Canon.front {d : List UInt8} {c : UInt8} (h : Canon (d ++ [c])) (hd : d ≠ []) : Canon d ∧ d.head? ≠ some 48 := by
  have hh : (d ++ [c]).head? = d.head? := by
    cases d with
    | nil => exact absurd rfl hd
    | cons x t => rfl
  have h1 : d.head? ≠ some 48 := by
    rcases h.head with h2 | h2
    · rwa [hh] at h2
    · simp at h2; exact absurd h2 hd
  exact ⟨⟨hd, fun x hx => h.all x (by simp [hx]), .inl h1⟩, h1⟩
theorem ofNat_dig {c : UInt8} (h : isD c) : UInt8.ofNat (48 + (c.toNat - 48)) = c := by
  obtain ⟨h1, h2⟩ := h
  rw [show 48 + (c.toNat - 48) = c.toNat by omega]
  simp
theorem snoc_ind {P : List UInt8 → Prop} (h0 : P []) (h1 : ∀ l c, P l → P (l ++ [c])) (l : List UInt8) : P l := by
  have key : ∀ r : List UInt8, P r.reverse := by
    intro r
    induction r with
    | nil => exact h0
    | cons c r ih => rw [List.reverse_cons]; exact h1 _ _ ih
  have := key l.reverse
  rwa [List.reverse_reverse] at this
theorem dec_val (d : List UInt8) : Canon d → decDigits (valF 0 d) = d := by
  refine snoc_ind (P := fun d => Canon d → decDigits (valF 0 d) = d) (fun h => absurd rfl h.ne) (fun l c ih h => ?_) d
  have hc := h.all c (by simp)
  rw [valF_snoc]
  by_cases hl : l = []
  · subst hl
    have : c.toNat - 48 < 10 := by have := hc.2; omega
    show decDigits (0 * 10 + (c.toNat - 48)) = [c]
    rw [Nat.zero_mul, Nat.zero_add, decDigits_one this, ofNat_dig hc]
  · obtain ⟨h1, h2⟩ := h.front hl
    have h3 := ih h1
    have h4 : 1 ≤ valF 0 l := by
      rcases Nat.eq_zero_or_pos (valF 0 l) with e | e
      · rw [e, decDigits_one (by omega)] at h3
        rw [← h3] at h2
        exact absurd rfl h2
      · exact e
    have h5 : c.toNat - 48 < 10 := by have := hc.2; omega
    rw [decDigits, dif_neg (by omega), show (valF 0 l * 10 + (c.toNat - 48)) / 10 = valF 0 l by omega, show (valF 0 l * 10 + (c.toNat - 48)) % 10 = c.toNat - 48 by omega, h3, ofNat_dig hc]
theorem dec_canon (u : Nat) : Canon (decDigits u) ∧ valF 0 (decDigits u) = u ∧ (1 ≤ u → (decDigits u).head? ≠ some 48) := by
  induction u using Nat.strongRecOn with
  | _ u ih =>
    by_cases h : u < 10
    · rw [decDigits_one h]
      have e : (UInt8.ofNat (48 + u)).toNat = 48 + u := by rw [UInt8.toNat_ofNat_of_lt' (by show 48 + u < 256; omega)]
      refine ⟨⟨by simp, fun c hc => ?_, .inr rfl⟩, ?_, fun h1 h2 => ?_⟩
      · rw [List.mem_singleton] at hc; subst hc; unfold isD; rw [e]; omega
      · show 0 * 10 + ((UInt8.ofNat (48 + u)).toNat - 48) = u; rw [e]; omega
      · have h3 := congrArg UInt8.toNat (Option.some.inj h2)
        rw [e] at h3
        have : (48 : UInt8).toNat = 48 := rfl
        omega
    · obtain ⟨h1, h2, h3⟩ := ih (u / 10) (by omega)
      have h4 := h3 (by omega)
      have e : (UInt8.ofNat (48 + u % 10)).toNat = 48 + u % 10 := by rw [UInt8.toNat_ofNat_of_lt' (by show 48 + u % 10 < 256; omega)]
      rw [decDigits, dif_neg h]
      have hh : (decDigits (u / 10) ++ [UInt8.ofNat (48 + u % 10)]).head? = (decDigits (u / 10)).head? := by
        have := h1.ne
        cases hx : decDigits (u / 10) with
        | nil => exact absurd hx this
        | cons x t => rfl
      refine ⟨⟨by simp, fun c hc => ?_, .inl (by rw [hh]; exact h4)⟩, ?_, fun _ => by rw [hh]; exact h4⟩
      · rcases List.mem_append.1 hc with hc | hc
        · exact h1.all c hc
        · rw [List.mem_singleton] at hc; subst hc; unfold isD; rw [e]; omega
      · rw [valF_snoc, h2, e]; omega
theorem dec_len {u : Nat} (h : u < 10000000000000000000) : (decDigits u).length ≤ 19 := by
  rw [decDigits_length]
  refine Classical.byContradiction fun hn => ?_
  have key : ∀ k u, u < 10 ^ (k + 1) → nDigits u ≤ k + 1 := by
    intro k
    induction k with
    | zero => intro u h; rw [nDigits_small (by simpa using h)]; omega
    | succ k ih =>
      intro u h
      by_cases h1 : u < 10
      · rw [nDigits_small h1]; omega
      · rw [nDigits_big h1]
        have := ih (u / 10) (by rw [Nat.pow_succ] at h; omega)
        omega
  have := key 18 u (by simpa using h)
  omega
theorem val_len : ∀ (l : List UInt8) (a k : Nat), (∀ c ∈ l, isD c) → a < 10 ^ k → valF a l < 10 ^ (k + l.length)
  | [], a, k, _, h => h
  | c :: l, a, k, hall, h => by
    have hc := hall c (by simp)
    have := val_len l (a * 10 + (c.toNat - 48)) (k + 1) (fun x hx => hall x (by simp [hx])) (by rw [Nat.pow_succ]; have := hc.2; omega)
    rw [List.length_cons, show k + (l.length + 1) = k + 1 + l.length by omega]
    exact this
theorem parseU_ok : ∀ (l : List UInt8) (a : Nat), (∀ c ∈ l, isD c) → valF a l < 18446744073709551616 → parseUintM (2 ^ 64 - 1) a l = .ok (valF a l)
  | [], a, _, _ => rfl
  | c :: l, a, hall, h => by
    have hc : 48 ≤ c.toNat ∧ c.toNat ≤ 57 := hall c (by simp)
    have h1 := valF_le (a * 10 + (c.toNat - 48)) l
    have h2 : valF a (c :: l) = valF (a * 10 + (c.toNat - 48)) l := rfl
    rw [h2] at h
    rw [parseUintM, if_pos hc, if_neg (by omega), if_neg (by omega), h2]
    exact parseU_ok l _ (fun x hx => hall x (by simp [hx])) h
theorem numM_itoa {n : Int} (h : fits n = true) : numM (itoa n) = some n := by
  simp only [fits, Bool.and_eq_true, decide_eq_true_eq] at h
  have key : parseIntB 64 (itoa n) = .ok n := by
    by_cases hn : n < 0
    · obtain ⟨u, hu⟩ : ∃ u : Nat, n = -(u : Int) := ⟨n.natAbs, by omega⟩
      subst hu
      obtain ⟨h1, h2, -⟩ := dec_canon u
      rw [itoa_neg u (by omega)]
      have hp := parseU_ok (decDigits u) 0 h1.all (by rw [h2]; omega)
      rw [h2] at hp
      have e45 : (45 : UInt8).toNat = 45 := rfl
      simp only [parseIntB, e45, or_true, if_true, parseUintB, if_neg h1.ne, hp, not_true_eq_false, false_and, if_false, true_and]
      rw [if_neg (by omega)]
    · obtain ⟨u, rfl⟩ : ∃ u : Nat, n = (u : Int) := ⟨n.toNat, by omega⟩
      obtain ⟨h1, h2, -⟩ := dec_canon u
      rw [itoa_nonneg u]
      have hp := parseU_ok (decDigits u) 0 h1.all (by rw [h2]; omega)
      rw [h2] at hp
      cases hx : decDigits u with
      | nil => exact absurd hx h1.ne
      | cons c r =>
        have hc : 48 ≤ c.toNat ∧ c.toNat ≤ 57 := h1.all c (by rw [hx]; simp)
        have hc1 : ¬ (c.toNat = 43 ∨ c.toNat = 45) := by omega
        have hc2 : (c.toNat = 45) = False := by simp; omega
        have hc3 : (c.toNat = 43) = False := by simp; omega
        rw [hx] at hp
        simp only [parseIntB, hc2, hc3, or_false, if_false, parseUintB, if_neg (List.cons_ne_nil c r), hp, not_false_eq_true, true_and, false_and]
        rw [if_neg (by omega)]
  unfold numM
  rw [key]
  simp
theorem numM_some {s : List UInt8} {n : Int} (h : numM s = some n) : s = itoa n ∧ ∃ m : Int, parseIntB 64 s = .ok m ∧ m = n := by
  unfold numM at h
  split at h
  · rename_i m hm
    split at h
    · rename_i he
      cases h
      exact ⟨he.symm, _, hm, rfl⟩
    · cases h
  · cases h
/-- The document's Number: how it goes on digits. -/
def negM (s : List UInt8) : Bool := decide (s.head? = some 45)
def digM (s : List UInt8) : List UInt8 := if negM s then s.tail else s
def badM (s : List UInt8) : Prop := digM s = [] ∨ 19 < (digM s).length ∨ ((digM s).head? = some 48 ∧ (1 < (digM s).length ∨ negM s = true))
theorem number_ok {s : List UInt8} (h1 : ¬ badM s) (h2 : ∀ c ∈ digM s, isD c) (h3 : if negM s then valF 0 (digM s) ≤ 9223372036854775808 else valF 0 (digM s) < 9223372036854775808) :
    numM s = some (if negM s then -(valF 0 (digM s) : Int) else (valF 0 (digM s) : Int)) := by
  unfold badM at h1
  have hc : Canon (digM s) := ⟨fun e => h1 (.inl e), h2, by
    by_cases hh : (digM s).head? = some 48
    · right
      have : ¬ 1 < (digM s).length := fun e => h1 (.inr (.inr ⟨hh, .inl e⟩))
      have h5 : (digM s).length ≠ 0 := fun e => h1 (.inl (List.eq_nil_of_length_eq_zero e))
      omega
    · exact .inl hh⟩
  have hd := dec_val _ hc
  by_cases hn : negM s = true
  · rw [if_pos hn] at h3 ⊢
    have hv : 1 ≤ valF 0 (digM s) := by
      rcases Nat.eq_zero_or_pos (valF 0 (digM s)) with e | e
      · rw [e, decDigits_one (by omega)] at hd
        exact absurd (.inr (.inr ⟨by rw [← hd]; rfl, .inr hn⟩)) h1
      · exact e
    have hs : s = itoa (-(valF 0 (digM s) : Int)) := by
      rw [itoa_neg _ hv, hd]
      unfold digM
      rw [if_pos hn]
      unfold negM at hn
      rw [decide_eq_true_eq] at hn
      cases s with
      | nil => cases hn
      | cons c r => cases hn; rfl
    have := numM_itoa (n := -(valF 0 (digM s) : Int)) (by simp [fits]; omega)
    rwa [← hs] at this
  · rw [if_neg hn] at h3 ⊢
    have hs : s = itoa (valF 0 (digM s) : Int) := by
      rw [itoa_nonneg, hd]
      unfold digM
      rw [if_neg hn]
    have := numM_itoa (n := (valF 0 (digM s) : Int)) (by simp [fits]; omega)
    rwa [← hs] at this
theorem number_no {s : List UInt8} {n : Int} (h : numM s = some n) (hb : -9223372036854775808 ≤ n ∧ n ≤ 9223372036854775807) : ¬ badM s ∧ (∀ c ∈ digM s, isD c) ∧ (if negM s then valF 0 (digM s) ≤ 9223372036854775808 else valF 0 (digM s) < 9223372036854775808) := by
  obtain ⟨hs, -⟩ := numM_some h
  by_cases hn : n < 0
  · obtain ⟨u, rfl⟩ : ∃ u : Nat, n = -(u : Int) := ⟨n.natAbs, by omega⟩
    rw [itoa_neg u (by omega)] at hs
    obtain ⟨h1, h2, h3⟩ := dec_canon u
    have hneg : negM s = true := by rw [hs]; rfl
    have hdig : digM s = decDigits u := by unfold digM; rw [if_pos hneg, hs]; rfl
    unfold badM
    rw [hdig, if_pos hneg, h2]
    refine ⟨?_, h1.all, by omega⟩
    rintro (e | e | ⟨e, -⟩)
    · exact h1.ne e
    · have := dec_len (u := u) (by omega); omega
    · exact h3 (by omega) e
  · obtain ⟨u, rfl⟩ : ∃ u : Nat, n = (u : Int) := ⟨n.toNat, by omega⟩
    rw [itoa_nonneg u] at hs
    obtain ⟨h1, h2, h3⟩ := dec_canon u
    have hneg : negM s = false := by
      rw [hs]
      unfold negM
      rw [decide_eq_false_iff_not]
      intro e
      cases hx : decDigits u with
      | nil => exact h1.ne hx
      | cons c r =>
        rw [hx] at e
        cases e
        have := (h1.all 45 (by rw [hx]; simp)).1
        exact absurd this (by decide)
    have hdig : digM s = decDigits u := by unfold digM; rw [hneg, hs]; rfl
    unfold badM
    rw [hdig, hneg, h2]
    refine ⟨?_, h1.all, by simp; omega⟩
    rintro (e | e | ⟨e, e2 | e2⟩)
    · exact h1.ne e
    · have := dec_len (u := u) (by omega); omega
    · rcases h1.head with h4 | h4
      · exact h4 e
      · omega
    · cases e2
end Go.Proofs.YthpnnffogbjhpaaGreatDoor.Kv
namespace Go.Proofs.YthpnnffogbjhpaaGreatDoor.Kv
set_option linter.unusedSimpArgs false
set_option linter.unusedVariables false
set_option linter.unnecessarySimpa false
open Go.RowKit Go.Proofs.YthpnnffogbjhpaaGreatDoor.Crc Go.Proofs.YthpnnffogbjhpaaGreatDoor.Cm Go.Proofs.YthpnnffogbjhpaaGreatDoor.Var

theorem text_ok {lim : Nat} {s : Int × List UInt8} {t r : List UInt8} (h : textM lim s = (t, (0, r))) : s.1 = 0 ∧ s.2 = txB t ++ r ∧ t.length ≤ lim := by
  unfold textM at h
  split at h
  · rename_i h1
    simp only [Prod.mk.injEq] at h
    exact absurd (by rw [h.2]) h1
  rename_i h1'
  have h1 : (uintM s).2.1 = 0 := by simpa using h1'
  clear h1'
  split at h
  · simp at h
  rename_i h2
  split at h
  · simp at h
  rename_i h3
  simp only [Prod.mk.injEq] at h
  obtain ⟨ht, -, hr⟩ := h
  by_cases h0 : s.1 = 0
  · obtain ⟨n, k, e, hrd⟩ : ∃ n k e, rd s.2 = (n, k, e) := ⟨_, _, _, rfl⟩
    have hU : uintM s = (n, (e, s.2.drop k)) := by unfold uintM; rw [if_pos h0, hrd]
    rw [hU] at h1 h2 h3 ht hr
    simp only at h1 h2 h3 ht hr
    obtain ⟨a, b, c, d, f⟩ := rd_ok hrd h1
    have hl : t.length = n := by rw [← ht, List.length_take]; omega
    refine ⟨h0, ?_, by omega⟩
    rw [txB, hl, d, ← ht, ← hr, List.append_assoc, List.take_append_drop, List.take_append_drop]
  · have hU : uintM s = (0, s) := by unfold uintM; rw [if_neg h0]
    rw [hU] at h1
    exact absurd h1 h0
theorem text_err {lim : Nat} {s : Int × List UInt8} (h : s.1 = 0 ∨ s.1 = 10 ∨ s.1 = 11) : (textM lim s).2.1 = 0 ∨ (textM lim s).2.1 = 10 ∨ (textM lim s).2.1 = 11 := by
  have hu : (uintM s).2.1 = 0 ∨ (uintM s).2.1 = 10 ∨ (uintM s).2.1 = 11 := by
    unfold uintM
    split
    · rcases rd_err s.2 with h | ⟨-, -, h | h⟩ <;> simp [h]
    · exact h
  unfold textM
  split
  · exact hu
  split
  · simp
  split <;> simp
theorem text_len {lim : Nat} (s : Int × List UInt8) : (textM lim s).2.2.length ≤ s.2.length := by
  have := uintM_len s
  unfold textM
  split
  · exact this
  split
  · exact this
  split
  · exact this
  · simp; omega
theorem text_le {lim : Nat} (s : Int × List UInt8) : (textM lim s).1.length ≤ lim := by
  unfold textM
  split
  · simp
  split
  · simp
  split
  · simp
  · rw [List.length_take]; omega
/-- kv.Take's loop: what it has at the end (none: the keys do not rise), the reader. -/
def takeL (lim : Nat) : Nat → (Int × List UInt8) → KM → List UInt8 → Option KM × (Int × List UInt8)
  | 0, s, m, _ => (some m, s)
  | n + 1, s, m, last => if s.1 ≠ 0 then (some m, s) else
    if (textM lim (textM lim s).2).2.1 = 0 ∧ (¬ last < (textM lim s).1 ∨ 32 < (textM lim s).1.length ∨ 64 < (textM lim (textM lim s).2).1.length) then (none, (textM lim (textM lim s).2).2)
    else takeL lim n (textM lim (textM lim s).2).2 (mput strK m (textM lim s).1 (textM lim (textM lim s).2).1) (textM lim s).1
theorem put_end {m : KM} {k v : List UInt8} (h : ∀ p ∈ m, p.1 < k) : mput strK m k v = m ++ [(k, v)] := by
  have hd : mdel m k = m := List.filter_eq_self.2 fun p hp => by
    have : p.1 ≠ k := fun e => lex_irrefl k (by have := h p hp; rwa [e] at this)
    simp [this]
  unfold mput
  rw [hd]
  clear hd
  induction m with
  | nil => rfl
  | cons p m ih =>
    have h1 := h p (by simp)
    have h2 : ¬ k < p.1 := fun h2 => lex_irrefl _ (lex_trans h1 h2)
    simp only [mins, strK_lt, h2, decide_false, Bool.false_eq_true, if_false, List.cons_append]
    rw [ih fun q hq => h q (by simp [hq])]
theorem takeL_err {lim : Nat} : ∀ (n : Nat) (s : Int × List UInt8) (m : KM) (last : List UInt8) , s.1 ≠ 0 → takeL lim n s m last = (some m, s)
  | 0, _, _, _, _ => rfl
  | n + 1, s, m, last, h => by rw [takeL, if_pos h]
theorem takeL_ok {lim : Nat} : ∀ (n : Nat) (s : Int × List UInt8) (m : KM) (last : List UInt8) (m' : KM) (r : List UInt8), takeL lim n s m last = (some m', (0, r)) → KvOk m → (∀ p ∈ m, p.1 < last ∨ p.1 = last) →
    ∃ l, m' = m ++ l ∧ l.length = n ∧ s.2 = l.flatMap prB ++ r ∧ KvOk m' := by
  intro n
  induction n with
  | zero =>
    intro s m last m' r h hm hl
    simp only [takeL, Prod.mk.injEq, Option.some.injEq] at h
    exact ⟨[], by simp [h.1], rfl, by simp [h.2], h.1 ▸ hm⟩
  | succ n ih =>
    intro s m last m' r h hm hl
    by_cases h0 : s.1 = 0
    · rw [takeL, if_neg (by simpa using h0)] at h
      obtain ⟨k, s1, h1⟩ : ∃ k s1, textM lim s = (k, s1) := ⟨_, _, rfl⟩
      obtain ⟨v, s2, h2⟩ : ∃ v s2, textM lim s1 = (v, s2) := ⟨_, _, rfl⟩
      simp only [h1, h2] at h
      by_cases h3 : s2.1 = 0
      · obtain ⟨e2, r2⟩ := s2
        obtain rfl : e2 = 0 := h3
        obtain ⟨a1, a2, a3⟩ := text_ok h2
        obtain ⟨e1, r1⟩ := s1
        obtain rfl : e1 = 0 := a1
        obtain ⟨b1, b2, b3⟩ := text_ok h1
        by_cases h4 : ¬ last < k ∨ 32 < k.length ∨ 64 < v.length
        · rw [if_pos ⟨rfl, h4⟩] at h; simp at h
        rw [if_neg (fun h => h4 h.2)] at h
        have h5 : last < k := Classical.byContradiction fun h => h4 (Or.inl h)
        have h6 : k.length ≤ 32 := by omega
        have h8 : v.length ≤ 64 := by omega
        have h7 : ∀ p ∈ m, p.1 < k := fun p hp => by
          rcases hl p hp with h | h
          · exact lex_trans h h5
          · rw [h]; exact h5
        obtain ⟨l, c1, c2, c3, c4⟩ := ih _ _ _ _ _ h (hm.put h6 h8) (fun p hp => by
          rcases mem_put hp with h | h
          · exact Or.inr (by rw [h])
          · exact Or.inl (h7 p h))
        refine ⟨(k, v) :: l, ?_, by simp [c2], ?_, c4⟩
        · rw [c1, put_end h7]; simp
        · rw [b2]
          simp only at a2 c3
          rw [a2, c3]
          simp [prB]
      · rw [if_neg (fun h => h3 h.1), takeL_err _ _ _ _ h3] at h
        simp only [Prod.mk.injEq] at h
        exact absurd (by rw [h.2]) h3
    · rw [takeL_err _ _ _ _ h0] at h
      simp only [Prod.mk.injEq] at h
      exact absurd (by rw [h.2]) h0
theorem takeL_bad {lim : Nat} : ∀ (n : Nat) (s : Int × List UInt8) (m : KM) (last : List UInt8), s.1 = 0 ∨ s.1 = 10 ∨ s.1 = 11 → ((takeL lim n s m last).2.1 = 0 ∨ (takeL lim n s m last).2.1 = 10 ∨ (takeL lim n s m last).2.1 = 11) := by
  intro n
  induction n with
  | zero => intro s m last h; exact h
  | succ n ih =>
    intro s m last h
    rw [takeL]
    split
    · exact h
    split
    · exact text_err (text_err h)
    · exact ih _ _ _ (text_err (text_err h))
/-- kv.Take: the store or none, the error, the reader. -/
def takeF : Option KM × (Int × List UInt8) → Option KM × Int × (Int × List UInt8)
  | (none, s') => (none, 11, s')
  | (some m, s') => if s'.1 ≠ 0 then (none, s'.1, s') else (some m, 0, s')
def takeK (lim : Nat) (s : Int × List UInt8) : Option KM × Int × (Int × List UInt8) := takeF (takeL lim (uintM s).1 (uintM s).2 [] [])
theorem takeK_bad {lim : Nat} {s : Int × List UInt8} (h : s.1 = 0 ∨ s.1 = 10 ∨ s.1 = 11) (he : (takeK lim s).2.1 ≠ 0) : (takeK lim s).1 = none ∧ ((takeK lim s).2.1 = 10 ∨ (takeK lim s).2.1 = 11) := by
  have hu : (uintM s).2.1 = 0 ∨ (uintM s).2.1 = 10 ∨ (uintM s).2.1 = 11 := by
    unfold uintM
    split
    · rcases rd_err s.2 with h | ⟨-, -, h | h⟩ <;> simp [h]
    · exact h
  have hb := takeL_bad (lim := lim) (uintM s).1 (uintM s).2 [] [] hu
  unfold takeK takeF at *
  rcases ht : takeL lim (uintM s).1 (uintM s).2 [] [] with ⟨_ | m, s'⟩
  · simp
  · rw [ht] at hb he
    simp only at hb he ⊢
    split at he
    · rename_i h1
      rw [if_pos h1]
      exact ⟨rfl, hb.resolve_left (by simpa using h1)⟩
    · simp at he
theorem takeK_ok {lim : Nat} {s : Int × List UInt8} {r : List UInt8} {m : KM} (h : takeK lim s = (some m, 0, (0, r))) : s.2 = kvB m ++ r ∧ KvOk m := by
  unfold takeK takeF at h
  rcases ht : takeL lim (uintM s).1 (uintM s).2 [] [] with ⟨_ | m', s'⟩
  · rw [ht] at h; simp at h
  rw [ht] at h
  simp only at h
  split at h
  · simp at h
  simp only [Prod.mk.injEq, Option.some.injEq] at h
  obtain ⟨rfl, -, rfl⟩ := h
  obtain ⟨l, c1, c2, c3, c4⟩ := takeL_ok _ _ _ _ _ _ ht KvOk.nil (by simp)
  have hu : (uintM s).2.1 = 0 := by
    by_cases h : (uintM s).2.1 = 0
    · exact h
    · rw [takeL_err _ _ _ _ h] at ht
      simp only [Prod.mk.injEq] at ht
      rw [ht.2]
  rw [List.nil_append] at c1
  subst c1
  refine ⟨?_, c4⟩
  by_cases h0 : s.1 = 0
  · obtain ⟨n, k, e, hrd⟩ : ∃ n k e, rd s.2 = (n, k, e) := ⟨_, _, _, rfl⟩
    have hU : uintM s = (n, (e, s.2.drop k)) := by unfold uintM; rw [if_pos h0, hrd]
    rw [hU] at hu c2 c3
    simp only at hu c2 c3
    obtain ⟨a, b, c, d, f⟩ := rd_ok hrd hu
    rw [kvB, c2, d, List.append_assoc, ← c3, List.take_append_drop]
  · have hU : uintM s = (0, s) := by unfold uintM; rw [if_neg h0]
    rw [hU] at hu
    exact absurd hu h0
/-- A store, and the same with one key more. -/
theorem put_other {m : KM} {k v : List UInt8} (h : mfind m k = none) : mput strK m k v ≠ m := fun e => by
  have := mfind_put (K := strK) (l := m) (k := k) (v := v) (j := k)
  rw [e, h, if_pos rfl] at this
  simp at this
end Go.Proofs.YthpnnffogbjhpaaGreatDoor.Kv
namespace Go.Proofs.YthpnnffogbjhpaaGreatDoor.Kv
set_option linter.unusedSimpArgs false
set_option linter.unusedVariables false
set_option linter.unnecessarySimpa false
open Go.RowKit Go.Proofs.YthpnnffogbjhpaaGreatDoor.Crc Go.Proofs.YthpnnffogbjhpaaGreatDoor.Cm Go.Proofs.YthpnnffogbjhpaaGreatDoor.Var

theorem uint_ok {s : Int × List UInt8} {n : Nat} {r : List UInt8} (h : uintM s = (n, (0, r))) : s.1 = 0 ∧ s.2 = uv n ++ r := by
  by_cases h0 : s.1 = 0
  · obtain ⟨n', k, e, hrd⟩ : ∃ n k e, rd s.2 = (n, k, e) := ⟨_, _, _, rfl⟩
    have hU : uintM s = (n', (e, s.2.drop k)) := by unfold uintM; rw [if_pos h0, hrd]
    rw [hU] at h
    simp only [Prod.mk.injEq] at h
    obtain ⟨rfl, rfl, rfl⟩ := h
    obtain ⟨a, b, c, d, f⟩ := rd_ok hrd rfl
    refine ⟨h0, ?_⟩
    rw [d, List.take_append_drop]
  · have hU : uintM s = (0, s) := by unfold uintM; rw [if_neg h0]
    rw [hU] at h
    simp only [Prod.mk.injEq] at h
    exact absurd (by rw [h.2]) h0
theorem uint_err {s : Int × List UInt8} (h : s.1 = 0 ∨ s.1 = 10 ∨ s.1 = 11) : (uintM s).2.1 = 0 ∨ (uintM s).2.1 = 10 ∨ (uintM s).2.1 = 11 := by
  unfold uintM
  split
  · rcases rd_err s.2 with h | ⟨-, -, h | h⟩ <;> simp [h]
  · exact h
theorem put_endG {κ α : Type} [DecidableEq κ] {K : Kys κ} {m : List (κ × α)} {k : κ} {v : α} (h : ∀ p ∈ m, K.lt p.1 k = true) : mput K m k v = m ++ [(k, v)] := by
  have hd : mdel m k = m := List.filter_eq_self.2 fun p hp => by
    have : p.1 ≠ k := fun e => by have := h p hp; rw [e, K.lt_irrefl] at this; cases this
    simp [this]
  unfold mput
  rw [hd]
  clear hd
  induction m with
  | nil => rfl
  | cons p m ih =>
    have h1 := h p (by simp)
    have h2 : K.lt k p.1 = false := by
      cases h3 : K.lt k p.1 with
      | false => rfl
      | true => have := K.lt_trans h1 h3; rw [K.lt_irrefl] at this; cases this
    simp only [mins, h2, Bool.false_eq_true, if_false, List.cons_append]
    rw [ih fun q hq => h q (by simp [hq])]
/-- What there is in a table that was read. -/
def TbOk (lim : Nat) (t : TM) : Prop := Rise cliK t ∧ ∀ p ∈ t, 0 < p.1 ∧ p.1 < 4294967296 ∧ p.2.seq < 4294967296 ∧ p.2.r.code ≤ 3 ∧ p.2.r.text.length ≤ lim
theorem TbOk.nil (lim : Nat) : TbOk lim [] := ⟨rise_nil, by simp⟩
/-- session.Take's loop. -/
def sTakeL (lim : Nat) : Nat → (Int × List UInt8) → TM → Nat → Option TM × (Int × List UInt8)
  | 0, s, t, _ => (some t, s)
  | n + 1, s, t, before => if s.1 ≠ 0 then (some t, s) else
    if (textM lim (uintM (uintM (uintM s).2).2).2).2.1 = 0 ∧ ((uintM s).1 ≤ before ∨ 4294967296 ≤ (uintM s).1 ∨ 4294967296 ≤ (uintM (uintM s).2).1 ∨ 3 < (uintM (uintM (uintM s).2).2).1) then (none, (textM lim (uintM (uintM (uintM s).2).2).2).2)
    else sTakeL lim n (textM lim (uintM (uintM (uintM s).2).2).2).2
      (mput cliK t ((uintM s).1 % 4294967296) ⟨(uintM (uintM s).2).1 % 4294967296, ⟨(uintM (uintM (uintM s).2).2).1 % 256, (textM lim (uintM (uintM (uintM s).2).2).2).1⟩⟩) (uintM s).1
theorem sTakeL_err {lim : Nat} : ∀ (n : Nat) (s : Int × List UInt8) (t : TM) (b : Nat), s.1 ≠ 0 → sTakeL lim n s t b = (some t, s)
  | 0, _, _, _, _ => rfl
  | n + 1, s, t, b, h => by rw [sTakeL, if_pos h]
theorem sTakeL_ok {lim : Nat} : ∀ (n : Nat) (s : Int × List UInt8) (t : TM) (b : Nat) (t' : TM) (r : List UInt8), sTakeL lim n s t b = (some t', (0, r)) → TbOk lim t → (∀ p ∈ t, p.1 ≤ b) →
    ∃ l, t' = t ++ l ∧ l.length = n ∧ s.2 = l.flatMap laB ++ r ∧ TbOk lim t' := by
  intro n
  induction n with
  | zero =>
    intro s t b t' r h hm hl
    simp only [sTakeL, Prod.mk.injEq, Option.some.injEq] at h
    exact ⟨[], by simp [h.1], rfl, by simp [h.2], h.1 ▸ hm⟩
  | succ n ih =>
    intro s t b t' r h hm hl
    by_cases h0 : s.1 = 0
    · rw [sTakeL, if_neg (by simpa using h0)] at h
      obtain ⟨c, s1, h1⟩ : ∃ c s1, uintM s = (c, s1) := ⟨_, _, rfl⟩
      obtain ⟨q, s2, h2⟩ : ∃ q s2, uintM s1 = (q, s2) := ⟨_, _, rfl⟩
      obtain ⟨d, s3, h3⟩ : ∃ d s3, uintM s2 = (d, s3) := ⟨_, _, rfl⟩
      obtain ⟨x, s4, h4⟩ : ∃ x s4, textM lim s3 = (x, s4) := ⟨_, _, rfl⟩
      simp only [h1, h2, h3, h4] at h
      by_cases h5 : s4.1 = 0
      · obtain ⟨e4, r4⟩ := s4
        obtain rfl : e4 = 0 := h5
        obtain ⟨a1, a2, a3⟩ := text_ok h4
        obtain ⟨e3, r3⟩ := s3
        obtain rfl : e3 = 0 := a1
        obtain ⟨b1, b2⟩ := uint_ok h3
        obtain ⟨e2, r2⟩ := s2
        obtain rfl : e2 = 0 := b1
        obtain ⟨c1, c2⟩ := uint_ok h2
        obtain ⟨e1, r1⟩ := s1
        obtain rfl : e1 = 0 := c1
        obtain ⟨d1, d2⟩ := uint_ok h1
        by_cases h6 : c ≤ b ∨ 4294967296 ≤ c ∨ 4294967296 ≤ q ∨ 3 < d
        · rw [if_pos ⟨rfl, h6⟩] at h; simp at h
        rw [if_neg (fun h => h6 h.2), Nat.mod_eq_of_lt (by omega), Nat.mod_eq_of_lt (by omega), Nat.mod_eq_of_lt (by omega)] at h
        have hpe : mput cliK t c (⟨q, ⟨d, x⟩⟩ : La) = t ++ [(c, ⟨q, ⟨d, x⟩⟩)] := put_endG fun p hp => by rw [cliK_lt, decide_eq_true_eq]; have := hl p hp; omega
        have hok : TbOk lim (mput cliK t c (⟨q, ⟨d, x⟩⟩ : La)) := ⟨rise_put hm.1, fun p hp => by
          rcases mem_put hp with h | h
          · rw [h]; exact ⟨by simp only; omega, by simp only; omega, by simp only; omega, by simp only; omega, a3⟩
          · exact hm.2 p h⟩
        obtain ⟨l, k1, k2, k3, k4⟩ := ih _ _ _ _ _ h hok (fun p hp => by
          rcases mem_put hp with h | h
          · rw [h]; exact Nat.le_refl _
          · have := hl p h; omega)
        refine ⟨(c, ⟨q, ⟨d, x⟩⟩) :: l, ?_, by simp [k2], ?_, k4⟩
        · rw [k1, hpe]; simp
        · rw [d2]
          simp only at a2 b2 c2 k3
          rw [c2, b2, a2, k3]
          simp [laB]
      · rw [if_neg (fun h => h5 h.1), sTakeL_err _ _ _ _ h5] at h
        simp only [Prod.mk.injEq] at h
        exact absurd (by rw [h.2]) h5
    · rw [sTakeL_err _ _ _ _ h0] at h
      simp only [Prod.mk.injEq] at h
      exact absurd (by rw [h.2]) h0
theorem sTakeL_bad {lim : Nat} : ∀ (n : Nat) (s : Int × List UInt8) (t : TM) (b : Nat), s.1 = 0 ∨ s.1 = 10 ∨ s.1 = 11 → ((sTakeL lim n s t b).2.1 = 0 ∨ (sTakeL lim n s t b).2.1 = 10 ∨ (sTakeL lim n s t b).2.1 = 11) := by
  intro n
  induction n with
  | zero => intro s t b h; exact h
  | succ n ih =>
    intro s t b h
    rw [sTakeL]
    split
    · exact h
    split
    · exact text_err (uint_err (uint_err (uint_err h)))
    · exact ih _ _ _ (text_err (uint_err (uint_err (uint_err h))))
def sTakeF : Option TM × (Int × List UInt8) → Option TM × Int × (Int × List UInt8)
  | (none, s') => (none, 11, s')
  | (some t, s') => if s'.1 ≠ 0 then (none, s'.1, s') else (some t, 0, s')
def sTakeK (lim : Nat) (s : Int × List UInt8) : Option TM × Int × (Int × List UInt8) := sTakeF (sTakeL lim (uintM s).1 (uintM s).2 [] 0)
theorem sTakeK_bad {lim : Nat} {s : Int × List UInt8} (h : s.1 = 0 ∨ s.1 = 10 ∨ s.1 = 11) (he : (sTakeK lim s).2.1 ≠ 0) : (sTakeK lim s).1 = none ∧ ((sTakeK lim s).2.1 = 10 ∨ (sTakeK lim s).2.1 = 11) := by
  have hb := sTakeL_bad (lim := lim) (uintM s).1 (uintM s).2 [] 0 (uint_err h)
  unfold sTakeK sTakeF at *
  rcases ht : sTakeL lim (uintM s).1 (uintM s).2 [] 0 with ⟨_ | m, s'⟩
  · simp
  · rw [ht] at hb he
    simp only at hb he ⊢
    split at he
    · rename_i h1
      rw [if_pos h1]
      exact ⟨rfl, hb.resolve_left (by simpa using h1)⟩
    · simp at he
theorem sTakeK_ok {lim : Nat} {s : Int × List UInt8} {r : List UInt8} {t : TM} (h : sTakeK lim s = (some t, 0, (0, r))) : s.2 = tbB t ++ r ∧ TbOk lim t := by
  unfold sTakeK sTakeF at h
  rcases ht : sTakeL lim (uintM s).1 (uintM s).2 [] 0 with ⟨_ | m', s'⟩
  · rw [ht] at h; simp at h
  rw [ht] at h
  simp only at h
  split at h
  · simp at h
  simp only [Prod.mk.injEq, Option.some.injEq] at h
  obtain ⟨rfl, -, rfl⟩ := h
  obtain ⟨l, c1, c2, c3, c4⟩ := sTakeL_ok _ _ _ _ _ _ ht (TbOk.nil lim) (by simp)
  have hu : (uintM s).2.1 = 0 := by
    by_cases h : (uintM s).2.1 = 0
    · exact h
    · rw [sTakeL_err _ _ _ _ h] at ht
      simp only [Prod.mk.injEq] at ht
      rw [ht.2]
  rw [List.nil_append] at c1
  subst c1
  obtain ⟨n, ⟨e, r1⟩, h1⟩ : ∃ n s1, uintM s = (n, s1) := ⟨_, _, rfl⟩
  rw [h1] at hu c2 c3
  simp only at hu c2 c3
  subst hu
  obtain ⟨-, h3⟩ := uint_ok h1
  refine ⟨?_, c4⟩
  rw [h3, tbB, c2, c3, List.append_assoc]
end Go.Proofs.YthpnnffogbjhpaaGreatDoor.Kv
namespace Go.Proofs.YthpnnffogbjhpaaGreatDoor.Kv
set_option linter.unusedSimpArgs false
set_option linter.unusedVariables false
set_option linter.unnecessarySimpa false
open Go.RowKit Go.Proofs.YthpnnffogbjhpaaGreatDoor.Crc Go.Proofs.YthpnnffogbjhpaaGreatDoor.Cm Go.Proofs.YthpnnffogbjhpaaGreatDoor.Var

theorem uint_fwd {n : Nat} (h : n < 18446744073709551616) (r : List UInt8) : uintM (0, uv n ++ r) = (n, (0, r)) := by
  unfold uintM
  rw [if_pos rfl, rd_uv h]
  simp
theorem text_fwd {lim : Nat} {t : List UInt8} (h : t.length ≤ lim) (hl : lim < 18446744073709551616) (r : List UInt8) : textM lim (0, txB t ++ r) = (t, (0, r)) := by
  have e : txB t ++ r = uv t.length ++ (t ++ r) := by simp [txB]
  unfold textM
  rw [e, uint_fwd (by omega)]
  simp only [ne_eq, not_true_eq_false, if_false]
  rw [if_neg (by omega), if_neg (by simp)]
  simp
theorem rise_app {l m : KM} {p : List UInt8 × List UInt8} (h : Rise strK (m ++ p :: l)) : (∀ q ∈ m, q.1 < p.1) ∧ ∀ q ∈ l, p.1 < q.1 := by
  have h' := List.pairwise_append.1 h
  refine ⟨fun q hq => ?_, fun q hq => ?_⟩
  · have := h'.2.2 q hq p (by simp)
    simpa [strK_lt] using this
  · have := (List.pairwise_cons.1 h'.2.1).1 q hq
    simpa [strK_lt] using this
theorem takeL_fwd {lim : Nat} (h64 : 64 ≤ lim) (hl : lim < 18446744073709551616) : ∀ (l m : KM) (last r : List UInt8), (∀ p ∈ l, p.1.length ≤ 32 ∧ p.2.length ≤ 64) → Rise strK (m ++ l) → (∀ p ∈ l, last < p.1) →
    takeL lim l.length (0, l.flatMap prB ++ r) m last = (some (m ++ l), (0, r)) := by
  intro l
  induction l with
  | nil => intro m last r _ _ _; simp [takeL]
  | cons p l ih =>
    intro m last r hb hr hlast
    have hp := hb p (by simp)
    have e1 : (p :: l).flatMap prB ++ r = txB p.1 ++ (txB p.2 ++ (l.flatMap prB ++ r)) := by simp [prB]
    obtain ⟨h1, h2⟩ := rise_app hr
    rw [List.length_cons, takeL, if_neg (by simp), e1, text_fwd (by omega) hl]
    simp only
    rw [text_fwd (by omega) hl]
    simp only
    rw [if_neg (by
      rintro ⟨-, h | h | h⟩
      · exact h (hlast p (by simp))
      · omega
      · omega), put_end h1]
    have := ih (m ++ [p]) p.1 r (fun q hq => hb q (by simp [hq])) (by simpa using hr) h2
    rw [show (m ++ [(p.1, p.2)] : KM) = m ++ [p] from rfl, this]
    simp
def KvNe (m : KM) : Prop := ∀ p ∈ m, p.1 ≠ []
theorem nil_lt {k : List UInt8} (h : k ≠ []) : ([] : List UInt8) < k := by
  cases k with
  | nil => exact absurd rfl h
  | cons a t => exact List.nil_lt_cons _ _
theorem takeK_fwd {lim : Nat} {m : KM} (h64 : 64 ≤ lim) (hl : lim < 18446744073709551616) (hm : KvOk m) (hn : KvNe m) (hlen : m.length < 18446744073709551616) (r : List UInt8) : takeK lim (0, kvB m ++ r) = (some m, 0, (0, r)) := by
  have e : kvB m ++ r = uv m.length ++ (m.flatMap prB ++ r) := by simp [kvB]
  unfold takeK
  rw [e, uint_fwd hlen]
  simp only
  rw [takeL_fwd h64 hl m [] [] r hm.2 (by simpa using hm.1) (fun p hp => nil_lt (hn p hp))]
  simp [takeF]
theorem KvNe.put {m : KM} {k v : List UInt8} (h : KvNe m) (hk : k ≠ []) : KvNe (mput strK m k v) := fun p hp => by
  rcases mem_put hp with rfl | hp
  · exact hk
  · exact h p hp
theorem KvNe.del {m : KM} (h : KvNe m) (k : List UInt8) : KvNe (mdel m k) := fun p hp => h p (mem_del.1 hp).1
theorem KvNe.dels {m : KM} (h : KvNe m) (ks : List (List UInt8)) : KvNe (delsM m ks) := by
  induction ks generalizing m with
  | nil => exact h
  | cons k ks ih => exact ih (h.del k)
theorem KvNe.set {m : KM} {k : List UInt8} {o : Option (List UInt8)} (h : KvNe m) (hk : k ≠ []) : KvNe (mset m k o) := by
  cases o with
  | none => exact h.del k
  | some v => exact (h.del k).put hk
theorem good_ne {c : Cm} (h : Cm.Good c) : ∀ k ∈ c.keys, k ≠ [] := fun k hk e => by
  have := (h.2.2.2.2.2.1 k hk).1
  rw [e] at this
  simp at this
theorem keyA_ne {c : Cm} (h : Cm.Good c) : keyA c ≠ [] := by
  have h1 := (Good.keys h).2.1
  unfold keyA
  rw [List.getD_eq_getElem?_getD, List.getElem?_eq_getElem (by omega)]
  exact good_ne h _ (List.getElem_mem _)
theorem KvNe.do {m : KM} {c : Cm} (h : KvNe m) : KvNe (kvDo m c).1 := by
  unfold kvDo
  split
  · rename_i hg
    have hA := keyA_ne hg
    unfold doM
    split
    · exact h.put hA
    · exact h
    · exact h.del _
    · unfold addM
      split
      · exact h
      · split
        · exact h.put hA
        · exact h
    · unfold casM
      split
      · exact h
      · split
        · exact h.put hA
        · exact h
    · rename_i hk
      have h2 : 2 ≤ c.keys.length := by
        have := hg.2.2.2.1
        rw [hk] at this
        exact this
      have hB : keyB c ≠ [] := by
        unfold keyB
        rw [List.getD_eq_getElem?_getD, List.getElem?_eq_getElem (by omega)]
        exact good_ne hg _ (List.getElem_mem _)
      exact (h.set hA).set hB
    · exact h
    · exact h.dels _
  · exact h
/-- What commands come to. -/
def foldM (l : List Cm) : KM := l.foldl (fun m c => (kvDo m c).1) []
theorem fold_snoc (l : List Cm) (c : Cm) : foldM (l ++ [c]) = (kvDo (foldM l) c).1 := by unfold foldM; rw [List.foldl_append]; rfl
theorem fold_next {l : List Cm} {i : Nat} {c : Cm} (h : l[i]? = some c) : foldM (l.take (i + 1)) = (kvDo (foldM (l.take i)) c).1 := by
  rw [List.take_add_one, h]
  exact fold_snoc _ _
theorem fold_ok (l : List Cm) : ∀ i, i ≤ l.length → i ≤ 100000 → KvOk (foldM (l.take i)) ∧ KvNe (foldM (l.take i)) ∧ (foldM (l.take i)).length ≤ 2 * i := by
  intro i
  induction i with
  | zero => intro _ _; exact ⟨KvOk.nil, fun p hp => (by cases hp), by simp [foldM]⟩
  | succ i ih =>
    intro h1 h2
    obtain ⟨a, b, d⟩ := ih (by omega) (by omega)
    obtain ⟨c, hc⟩ : ∃ c, l[i]? = some c := ⟨_, List.getElem?_eq_getElem (by omega)⟩
    have hb := do_bound (c := c) a (by omega)
    rw [fold_next hc]
    exact ⟨hb.ok, b.do, by have := hb.len; omega⟩
end Go.Proofs.YthpnnffogbjhpaaGreatDoor.Kv
namespace Go.Proofs.YthpnnffogbjhpaaGreatDoor.Kv
set_option linter.unusedSimpArgs false
set_option linter.unusedVariables false
open Go.RowKit Go.Proofs.YthpnnffogbjhpaaGreatDoor.Crc Go.Proofs.YthpnnffogbjhpaaGreatDoor.Cm

/-- What commands come to. -/
def foldA (l : List Cm) : Ap := l.foldl (fun a c => (apDo a c).1) ap0
theorem foldA_snoc (l : List Cm) (c : Cm) : foldA (l ++ [c]) = (apDo (foldA l) c).1 := by unfold foldA; rw [List.foldl_append]; rfl
theorem foldA_next {l : List Cm} {i : Nat} {c : Cm} (h : l[i]? = some c) : foldA (l.take (i + 1)) = (apDo (foldA (l.take i)) c).1 := by
  rw [List.take_add_one, h]
  exact foldA_snoc _ _
theorem apDo_stale {a : Ap} {c : Cm} (h : (apDo a c).2.2 = false) : (apDo a c).1 = a := by
  unfold apDo at *
  split
  · rfl
  · split
    · rename_i h1 h2
      rw [if_neg h1, if_pos h2] at h
      cases h
    · rfl
theorem apDo_fresh {a : Ap} {c : Cm} (h : (apDo a c).2.2 = true) : (apDo a c).1.n = a.n + 1 := by
  unfold apDo at *
  split
  · rename_i h1
    rw [if_pos h1] at h
    cases h
  · split
    · rfl
    · rename_i h1 h2
      rw [if_neg h1, if_neg h2] at h
      cases h
end Go.Proofs.YthpnnffogbjhpaaGreatDoor.Kv
