/- The states of kv, session and app, as plain data. No program here. -/
import Derived.Test.YteeepelmkfiocaaGreatDoorGenAll
import Derived.Test.YteeepelmkfiocaaGreatDoorCmM
import Derived.Lib.ParseIntB
import Derived.Lib.ItoaNum
namespace Go.Proofs.YteeepelmkfiocaaGreatDoor.Kv
open Go.RowKit Go.Proofs.YteeepelmkfiocaaGreatDoor.Crc Go.Proofs.YteeepelmkfiocaaGreatDoor.Cm

/-- A reply. -/
structure Rp where
  code : Nat
  text : List UInt8
deriving DecidableEq
abbrev KM := List (List UInt8 × List UInt8)
def keyA (c : Cm) : List UInt8 := c.keys.getD 0 []
def keyB (c : Cm) : List UInt8 := c.keys.getD 1 []
/-- The number that a text is, in its own digits. -/
def numM (v : List UInt8) : Option Int := match Lib.parseIntB 64 v with
  | .ok n => if Lib.itoa n = v then some n else none
  | _ => none
def fits (n : Int) : Bool := decide (-9223372036854775808 ≤ n) && decide (n ≤ 9223372036854775807)
def mset (m : KM) (k : List UInt8) : Option (List UInt8) → KM
  | none => mdel m k
  | some v => mput strK (mdel m k) k v
def joinM (m : KM) : List (List UInt8) → List UInt8
  | [] => []
  | k :: ks => (mfind m k).getD [] ++ [44] ++ joinM m ks
def delsM (m : KM) (ks : List (List UInt8)) : KM := ks.foldl mdel m
def getM (m : KM) (k : List UInt8) : Rp := match mfind m k with
  | none => ⟨1, []⟩
  | some v => ⟨0, v⟩
def addM (m : KM) (k : List UInt8) (z : Int) : KM × Rp := match numM ((mfind m k).getD [48]) with
  | none => (m, ⟨2, []⟩)
  | some n => if fits (n + z) then (mput strK m k (Lib.itoa (n + z)), ⟨0, Lib.itoa (n + z)⟩) else (m, ⟨2, []⟩)
def casM (m : KM) (k old new : List UInt8) : KM × Rp := match mfind m k with
  | none => (m, ⟨1, []⟩)
  | some v => if v = old then (mput strK m k new, ⟨0, []⟩) else (m, ⟨2, []⟩)
def swapM (m : KM) (a b : List UInt8) : KM := mset (mset m a (mfind m b)) b (mfind m a)
/-- What a command does that may be. -/
def doM (m : KM) (c : Cm) : KM × Rp :=
  match c.kind with
  | 1 => (mput strK m (keyA c) c.new, ⟨0, []⟩)
  | 2 => (m, getM m (keyA c))
  | 3 => (mdel m (keyA c), getM m (keyA c))
  | 4 => addM m (keyA c) c.n
  | 5 => casM m (keyA c) c.old c.new
  | 6 => (swapM m (keyA c) (keyB c), ⟨0, []⟩)
  | 7 => (m, ⟨0, joinM m c.keys⟩)
  | _ => (delsM m c.keys, ⟨0, Lib.itoa ((m.length : Int) - ((delsM m c.keys).length : Int))⟩)
def kvDo (m : KM) (c : Cm) : KM × Rp := if Cm.Good c then doM m c else (m, ⟨2, []⟩)

/-! ### what a state has is no longer than what commands bring -/
def KvOk (m : KM) : Prop := Rise strK m ∧ ∀ p ∈ m, p.1.length ≤ 32 ∧ p.2.length ≤ 64
theorem KvOk.nil : KvOk [] := ⟨rise_nil, by simp⟩
theorem KvOk.put {m : KM} {k v : List UInt8} (h : KvOk m) (hk : k.length ≤ 32) (hv : v.length ≤ 64) : KvOk (mput strK m k v) :=
  ⟨rise_put h.1, fun p hp => by
    rcases mem_put hp with rfl | hp
    · exact ⟨hk, hv⟩
    · exact h.2 p hp⟩
theorem KvOk.del {m : KM} (h : KvOk m) (k : List UInt8) : KvOk (mdel m k) := ⟨rise_del h.1, fun p hp => h.2 p (mem_del.1 hp).1⟩
theorem KvOk.dels {m : KM} (h : KvOk m) (ks : List (List UInt8)) : KvOk (delsM m ks) := by
  induction ks generalizing m with
  | nil => exact h
  | cons k ks ih => exact ih (h.del k)
theorem KvOk.find {m : KM} {k v : List UInt8} (h : KvOk m) (hf : mfind m k = some v) : v.length ≤ 64 := (h.2 _ (mfind_mem hf)).2
theorem KvOk.set {m : KM} {k : List UInt8} {o : Option (List UInt8)} (h : KvOk m) (hk : k.length ≤ 32) (hv : ∀ v, o = some v → v.length ≤ 64) : KvOk (mset m k o) := by
  cases o with
  | none => exact h.del k
  | some v => exact (h.del k).put hk (hv v rfl)

/-! ### sessions and applications -/
/-- A client's last number, and what was told. -/
structure La where
  seq : Nat
  r : Rp
deriving DecidableEq
abbrev TM := List (Nat × La)
abbrev cliK : Kys Nat := numK .u32
def lookM (t : TM) (client seq : Nat) : Rp × Nat := match mfind t client with
  | none => (⟨0, []⟩, 0)
  | some x => if x.seq < seq then (⟨0, []⟩, 0) else if seq = x.seq then (x.r, 1) else (⟨3, []⟩, 2)
structure Ap where
  m : KM
  t : TM
  n : Nat
def ap0 : Ap := ⟨[], [], 0⟩
def apDo (a : Ap) (c : Cm) : Ap × Rp × Bool :=
  if c.client = 0 then (a, ⟨2, []⟩, false)
  else if (lookM a.t c.client c.seq).2 = 0 then (⟨(kvDo a.m c).1, mput cliK a.t c.client ⟨c.seq, (kvDo a.m c).2⟩, a.n + 1⟩, (kvDo a.m c).2, true)
  else (a, (lookM a.t c.client c.seq).1, false)
end Go.Proofs.YteeepelmkfiocaaGreatDoor.Kv
