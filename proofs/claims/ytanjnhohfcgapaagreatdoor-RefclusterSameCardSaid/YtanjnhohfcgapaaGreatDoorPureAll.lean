/- TrT, KvMo, KvLaw, BaM, SgM, SgP, SgQ, SgL, RcM, RfP in one text. -/
import Derived.Test.YtanjnhohfcgapaaGreatDoorCmM
import Derived.Test.YtanjnhohfcgapaaGreatDoorGenAll
import Derived.Lib.ParseIntB
import Derived.Lib.ItoaNum
import Derived.Lib.ItoaLen
set_option linter.unusedSimpArgs false
set_option linter.unusedVariables false
set_option linter.unnecessarySimpa false
namespace Go.Proofs.YtanjnhohfcgapaaGreatDoor.Tr
open Go.RowKit Go.Proofs.YtanjnhohfcgapaaGreatDoor.Crc Go.Proofs.YtanjnhohfcgapaaGreatDoor.Cm

/-- An answer. -/
structure An where
  client : Nat
  seq : Nat
  code : Nat
  text : List UInt8
deriving DecidableEq
/-- A slot. -/
structure Sl where
  slot : Nat
  cmds : List Cm
  ans : List An
abbrev Dn := Nat × List UInt8
/-- What was told. -/
structure Td where
  ans : List An
  done : List Dn
/-- An entry of a script, as far as it is asked for. -/
structure En where
  kind : Nat
  r : Int
  k : Int
  cmd : Cm
def submitE (c : Cm) : En := ⟨1, 0, 0, c⟩
def electE (k : Nat) : En := ⟨3, 0, k, Cm.zero⟩
def takeE : En := ⟨4, 0, 0, Cm.zero⟩
end Go.Proofs.YtanjnhohfcgapaaGreatDoor.Tr
namespace Go.Proofs.YtanjnhohfcgapaaGreatDoor.Sg

/-- A ballot. -/
structure Bal where
  n : Nat
  r : Int
deriving DecidableEq
def Bal.zero : Bal := ⟨0, 0⟩
/-- One is below another one. -/
def bLess (a b : Bal) : Prop := a.n < b.n ∨ a.n = b.n ∧ a.r < b.r
instance (a b : Bal) : Decidable (bLess a b) := by unfold bLess; infer_instance
theorem bLess_irrefl (a : Bal) : ¬ bLess a a := by unfold bLess; omega
theorem bLess_trans {a b c : Bal} (h : bLess a b) (k : bLess b c) : bLess a c := by unfold bLess at *; omega
theorem bLess_tri (a b : Bal) : bLess a b ∨ a = b ∨ bLess b a := by
  obtain ⟨n, r⟩ := a; obtain ⟨m, q⟩ := b
  simp only [bLess, Bal.mk.injEq]; omega
/-- The greater of two. -/
def maxB (a b : Bal) : Bal := if bLess a b then b else a
/-- A replica's next one, where there is one. -/
def nextB (b : Bal) (r : Int) : Option Bal :=
  if 0 < b.n ∧ b.r < r then some ⟨b.n, r⟩ else if b.n + 1 = 18446744073709551616 then none else some ⟨b.n + 1, r⟩
end Go.Proofs.YtanjnhohfcgapaaGreatDoor.Sg
namespace Go.Proofs.YtanjnhohfcgapaaGreatDoor.Kv
open Go.RowKit Go.Proofs.YtanjnhohfcgapaaGreatDoor.Crc Go.Proofs.YtanjnhohfcgapaaGreatDoor.Cm

/-- A reply. -/
structure Rp where
  code : Nat
  text : List UInt8
deriving DecidableEq
abbrev KM := List (List UInt8 × List UInt8)
def keyA (c : Cm) : List UInt8 := c.keys.getD 0 []
def keyB (c : Cm) : List UInt8 := c.keys.getD 1 []
/-- The number that a text is, in its own digits. -/
def numM (v : List UInt8) : Option Int := match Lib.parseIntB 64 v with
  | .ok n => if Lib.itoa n = v then some n else none
  | _ => none
def fits (n : Int) : Bool := decide (-9223372036854775808 ≤ n) && decide (n ≤ 9223372036854775807)
def mset (m : KM) (k : List UInt8) : Option (List UInt8) → KM
  | none => mdel m k
  | some v => mput strK (mdel m k) k v
def joinM (m : KM) : List (List UInt8) → List UInt8
  | [] => []
  | k :: ks => (mfind m k).getD [] ++ [44] ++ joinM m ks
def delsM (m : KM) (ks : List (List UInt8)) : KM := ks.foldl mdel m
def getM (m : KM) (k : List UInt8) : Rp := match mfind m k with
  | none => ⟨1, []⟩
  | some v => ⟨0, v⟩
def addM (m : KM) (k : List UInt8) (z : Int) : KM × Rp := match numM ((mfind m k).getD [48]) with
  | none => (m, ⟨2, []⟩)
  | some n => if fits (n + z) then (mput strK m k (Lib.itoa (n + z)), ⟨0, Lib.itoa (n + z)⟩) else (m, ⟨2, []⟩)
def casM (m : KM) (k old new : List UInt8) : KM × Rp := match mfind m k with
  | none => (m, ⟨1, []⟩)
  | some v => if v = old then (mput strK m k new, ⟨0, []⟩) else (m, ⟨2, []⟩)
def swapM (m : KM) (a b : List UInt8) : KM := mset (mset m a (mfind m b)) b (mfind m a)
/-- What a command does that may be. -/
def doM (m : KM) (c : Cm) : KM × Rp :=
  match c.kind with
  | 1 => (mput strK m (keyA c) c.new, ⟨0, []⟩)
  | 2 => (m, getM m (keyA c))
  | 3 => (mdel m (keyA c), getM m (keyA c))
  | 4 => addM m (keyA c) c.n
  | 5 => casM m (keyA c) c.old c.new
  | 6 => (swapM m (keyA c) (keyB c), ⟨0, []⟩)
  | 7 => (m, ⟨0, joinM m c.keys⟩)
  | _ => (delsM m c.keys, ⟨0, Lib.itoa ((m.length : Int) - ((delsM m c.keys).length : Int))⟩)
def kvDo (m : KM) (c : Cm) : KM × Rp := if Cm.Good c then doM m c else (m, ⟨2, []⟩)

/-! ### what a state has is no longer than what commands bring -/
def KvOk (m : KM) : Prop := Rise strK m ∧ ∀ p ∈ m, p.1.length ≤ 32 ∧ p.2.length ≤ 64
theorem KvOk.nil : KvOk [] := ⟨rise_nil, by simp⟩
theorem KvOk.put {m : KM} {k v : List UInt8} (h : KvOk m) (hk : k.length ≤ 32) (hv : v.length ≤ 64) : KvOk (mput strK m k v) :=
  ⟨rise_put h.1, fun p hp => by
    rcases mem_put hp with rfl | hp
    · exact ⟨hk, hv⟩
    · exact h.2 p hp⟩
theorem KvOk.del {m : KM} (h : KvOk m) (k : List UInt8) : KvOk (mdel m k) := ⟨rise_del h.1, fun p hp => h.2 p (mem_del.1 hp).1⟩
theorem KvOk.dels {m : KM} (h : KvOk m) (ks : List (List UInt8)) : KvOk (delsM m ks) := by
  induction ks generalizing m with
  | nil => exact h
  | cons k ks ih => exact ih (h.del k)
theorem KvOk.find {m : KM} {k v : List UInt8} (h : KvOk m) (hf : mfind m k = some v) : v.length ≤ 64 := (h.2 _ (mfind_mem hf)).2
theorem KvOk.set {m : KM} {k : List UInt8} {o : Option (List UInt8)} (h : KvOk m) (hk : k.length ≤ 32) (hv : ∀ v, o = some v → v.length ≤ 64) : KvOk (mset m k o) := by
  cases o with
  | none => exact h.del k
  | some v => exact (h.del k).put hk (hv v rfl)

/-! ### sessions and applications -/
/-- A client's last number, and what was told. -/
structure La where
  seq : Nat
  r : Rp
deriving DecidableEq
abbrev TM := List (Nat × La)
abbrev cliK : Kys Nat := numK .u32
def lookM (t : TM) (client seq : Nat) : Rp × Nat := match mfind t client with
  | none => (⟨0, []⟩, 0)
  | some x => if x.seq < seq then (⟨0, []⟩, 0) else if seq = x.seq then (x.r, 1) else (⟨3, []⟩, 2)
structure Ap where
  m : KM
  t : TM
  n : Nat
def ap0 : Ap := ⟨[], [], 0⟩
def apDo (a : Ap) (c : Cm) : Ap × Rp × Bool :=
  if c.client = 0 then (a, ⟨2, []⟩, false)
  else if (lookM a.t c.client c.seq).2 = 0 then (⟨(kvDo a.m c).1, mput cliK a.t c.client ⟨c.seq, (kvDo a.m c).2⟩, a.n + 1⟩, (kvDo a.m c).2, true)
  else (a, (lookM a.t c.client c.seq).1, false)
end Go.Proofs.YtanjnhohfcgapaaGreatDoor.Kv
namespace Go.Proofs.YtanjnhohfcgapaaGreatDoor.Sg
open Go.Proofs.YtanjnhohfcgapaaGreatDoor.Cm Go.Proofs.YtanjnhohfcgapaaGreatDoor.Kv Go.Proofs.YtanjnhohfcgapaaGreatDoor.Tr
set_option linter.unusedVariables false

/-- A vote, or none. -/
structure Vt where
  has : Bool
  b : Bal
  c : Cm
def Vt.zero : Vt := ⟨false, Bal.zero, Cm.zero⟩
/-- What is asked for. -/
structure Ak where
  b : Bal
  votes : Bool
  c : Cm
  heard : Nat → Option Vt
/-- A message. -/
structure Mg where
  kind : Nat
  slot : Nat
  b : Bal
  has : Bool
  vote : Bal
  cmd : Cm
/-- .. with a kind, a slot and a ballot alone. -/
def mg (kind slot : Nat) (b : Bal) : Mg := ⟨kind, slot, b, false, Bal.zero, Cm.zero⟩
def mgc (kind slot : Nat) (b : Bal) (c : Cm) : Mg := ⟨kind, slot, b, false, Bal.zero, c⟩
/-- What is sent to whom. -/
abbrev Se := Int × Mg
/-- What a step tells. -/
structure Ou where
  send : List Se
  ans : List An
  done : List Cm
def Ou.zero : Ou := ⟨[], [], []⟩
structure Sg where
  self : Nat
  n : Nat
  log : List Cm
  app : Ap
  promise : Bal
  seen : Bal
  vote : Vt
  waits : List Cm
  asks : Option Ak
def sg0 (self n : Nat) : Sg := ⟨self, n, [], ap0, Bal.zero, Bal.zero, Vt.zero, [], none⟩
abbrev SO := Sg × Ou
def Sg.slot (x : Sg) : Nat := x.log.length + 1
def noneH : Nat → Option Vt := fun _ => none
def putH (f : Nat → Option Vt) (r : Nat) (v : Vt) : Nat → Option Vt := fun k => if k = r then some v else f k
/-- How many were heard. -/
def cntH (n : Nat) (f : Nat → Option Vt) : Nat := (List.range n).countP fun k => (f k).isSome
def sendM (o : Ou) (dst : Int) (m : Mg) : Ou := { o with send := o.send ++ [(dst, m)] }
/-- To whom: all others that were not heard. -/
def toM (self : Nat) (f : Nat → Option Vt) (l : List Nat) : List Nat := l.filter fun r => (f r).isNone && decide (r ≠ self)
def othersM (self n : Nat) (f : Nat → Option Vt) (m : Mg) (o : Ou) : Ou := { o with send := o.send ++ (toM self f (List.range n)).map fun (r : Nat) => ((r : Int), m) }
/-- A command's answer. -/
def ansM (c : Cm) (r : Rp) : An := ⟨c.client, c.seq, r.code, r.text⟩
/-- The first of a command's like goes. -/
def dropM (l : List Cm) (c : Cm) : List Cm := match l.findIdx? fun w => decide (w = c) with
  | none => l
  | some k => l.eraseIdx k
def knowM (c : Cm) (s : SO) : SO :=
  ({ s.1 with log := s.1.log ++ [c], app := (apDo s.1.app c).1, promise := Bal.zero, seen := Bal.zero, vote := Vt.zero, asks := none, waits := dropM s.1.waits c },
   { s.2 with done := s.2.done ++ [c], ans := s.2.ans ++ [ansM c (apDo s.1.app c).2.1] })
/-- Best of the votes up to a place. -/
def bestV (f : Nat → Option Vt) : Nat → Vt
  | 0 => Vt.zero
  | k + 1 => match f k with
    | none => bestV f k
    | some v => if v.has && (!(bestV f k).has || decide (bLess (bestV f k).b v.b)) then v else bestV f k
def bestM (n : Nat) (a : Ak) : Cm := if (bestV a.heard n).has then (bestV a.heard n).c else a.c
def maj (n : Nat) : Nat := n / 2 + 1
/-- One is heard, where votes are asked for. -/
def hears2M (a : Ak) (r : Nat) (v : Vt) (s : SO) : SO :=
  if cntH s.1.n (putH a.heard r v) < maj s.1.n then ({ s.1 with asks := some { a with heard := putH a.heard r v } }, s.2)
  else knowM a.c ({ s.1 with asks := some { a with heard := noneH } }, othersM s.1.self s.1.n noneH (mgc 6 s.1.slot Bal.zero a.c) s.2)
/-- One is heard, where promises are. -/
def hears1M (a : Ak) (r : Nat) (v : Vt) (s : SO) : SO :=
  if cntH s.1.n (putH a.heard r v) < maj s.1.n then ({ s.1 with asks := some { a with heard := putH a.heard r v } }, s.2)
  else
    let c := bestM s.1.n { a with heard := putH a.heard r v }
    let k : Ak := ⟨a.b, true, c, noneH⟩
    hears2M k s.1.self ⟨true, a.b, c⟩ ({ s.1 with vote := ⟨true, a.b, c⟩, asks := some k }, othersM s.1.self s.1.n noneH (mgc 4 s.1.slot a.b c) s.2)
def hearsM (a : Ak) (r : Nat) (v : Vt) (s : SO) : SO := if a.votes then hears2M a r v s else hears1M a r v s
def askM (c : Cm) (s : SO) : SO := match nextB (maxB s.1.promise s.1.seen) s.1.self with
  | none => ({ s.1 with asks := none }, s.2)
  | some b => hears1M ⟨b, false, c, noneH⟩ s.1.self s.1.vote ({ s.1 with promise := b, asks := some ⟨b, false, c, noneH⟩ }, othersM s.1.self s.1.n noneH (mg 1 s.1.slot b) s.2)
def submitM (c : Cm) (x : Sg) : Sg × Nat :=
  if ¬ Cm.Good c then (x, 1) else if x.waits.length = 4096 then (x, 30) else ({ x with waits := x.waits ++ [c] }, 0)
/-- Lets it ask with what waits at a place. -/
def askAtM (k : Int) (x : Sg) : SO × Nat :=
  match (if k < 0 then none else x.waits[k.toNat]?) with
  | none => ((x, Ou.zero), 1)
  | some c => (askM c (x, Ou.zero), 0)
def tickM (x : Sg) : SO := match x.asks with
  | none => (x, Ou.zero)
  | some a => (x, othersM x.self x.n a.heard (if a.votes then mgc 4 x.slot a.b a.c else mg 1 x.slot a.b) Ou.zero)
/-- May it hear a message? -/
def mayT (x : Sg) (from_ : Int) (m : Mg) : Prop :=
  0 ≤ from_ ∧ from_ < x.n ∧ from_ ≠ x.self ∧ 1 ≤ m.kind ∧ m.kind ≤ 7 ∧ 0 ≤ m.b.r ∧ m.b.r < x.n ∧ ((m.kind = 4 ∨ m.kind = 6 ∨ m.kind = 2 ∧ m.has = true) → Cm.Good m.cmd)
instance (x : Sg) (f : Int) (m : Mg) : Decidable (mayT x f m) := by unfold mayT; infer_instance
def yieldsM (b : Bal) (x : Sg) : Sg := match x.asks with
  | none => x
  | some a => if bLess a.b b then { x with asks := none } else x
def bowsM (from_ : Int) (m : Mg) (s : SO) : SO :=
  if bLess m.b s.1.promise then (s.1, sendM s.2 from_ (mg 3 m.slot s.1.promise))
  else
    let x := yieldsM m.b { s.1 with promise := m.b }
    if m.kind = 4 then ({ x with vote := ⟨true, m.b, m.cmd⟩ }, sendM s.2 from_ (mg 5 m.slot m.b))
    else (x, sendM s.2 from_ ⟨2, m.slot, m.b, x.vote.has, x.vote.b, x.vote.c⟩)
def answeredM (from_ : Int) (m : Mg) (s : SO) : SO := match s.1.asks with
  | none => s
  | some a => if a.b = m.b ∧ a.votes = decide (m.kind = 5) ∧ (a.heard from_.toNat).isNone = true then hearsM a from_.toNat ⟨m.has, m.vote, m.cmd⟩ s else s
def refusedM (m : Mg) (s : SO) : SO := (yieldsM m.b { s.1 with seen := maxB s.1.seen m.b }, s.2)
/-- What is done with a message of its slot. -/
def actM (from_ : Int) (m : Mg) (s : SO) : SO :=
  match m.kind with
  | 1 => bowsM from_ m s
  | 4 => bowsM from_ m s
  | 2 => answeredM from_ m s
  | 5 => answeredM from_ m s
  | 3 => refusedM m s
  | 6 => knowM m.cmd s
  | _ => s
def takeS (from_ : Int) (m : Mg) (x : Sg) : SO :=
  if ¬ mayT x from_ m then (x, Ou.zero)
  else if x.slot < m.slot then (x, if m.kind = 7 then Ou.zero else sendM Ou.zero from_ (mg 7 x.slot Bal.zero))
  else if m.slot < x.slot then (x, if 0 < m.slot ∧ (m.kind = 1 ∨ m.kind = 4 ∨ m.kind = 7) then sendM Ou.zero from_ (mgc 6 m.slot Bal.zero (x.log.getD (m.slot - 1) Cm.zero)) else Ou.zero)
  else actM from_ m (x, Ou.zero)
end Go.Proofs.YtanjnhohfcgapaaGreatDoor.Sg
namespace Go.Proofs.YtanjnhohfcgapaaGreatDoor.Kv
open Go.RowKit Go.Proofs.YtanjnhohfcgapaaGreatDoor.Crc Go.Proofs.YtanjnhohfcgapaaGreatDoor.Cm

theorem itoa_len {n : Int} (h : fits n = true) : (Lib.itoa n).length ≤ 21 := by
  simp only [fits, Bool.and_eq_true, decide_eq_true_eq] at h
  exact Lib.itoa_length_le n (by omega) (by omega)
theorem Good.keys {c : Cm} (h : Cm.Good c) : c.keys.length ≤ 16 ∧ 1 ≤ c.keys.length ∧ ∀ k ∈ c.keys, k.length ≤ 32 := by
  obtain ⟨-, h1, h2, h3, h4, h5, -⟩ := h
  have hb : hi c.kind ≤ 16 ∧ 1 ≤ lo c.kind := by
    have key : ∀ q, q < 9 → q ≠ 0 → hi q ≤ 16 ∧ 1 ≤ lo q := by decide
    exact key _ h2 h1
  exact ⟨by omega, by omega, fun k hk => (h5 k hk).2⟩
theorem keyA_len {c : Cm} (h : Cm.Good c) : (keyA c).length ≤ 32 := by
  obtain ⟨h1, h2, h3⟩ := Good.keys h
  unfold keyA
  rw [List.getD_eq_getElem?_getD, List.getElem?_eq_getElem (by omega)]
  exact h3 _ (List.getElem_mem _)
theorem keyB_len {c : Cm} (h : Cm.Good c) : (keyB c).length ≤ 32 := by
  obtain ⟨h1, h2, h3⟩ := Good.keys h
  unfold keyB
  rw [List.getD_eq_getElem?_getD]
  cases hk : c.keys[1]? with
  | none => simp
  | some k => exact h3 _ (List.mem_of_getElem? hk)
theorem join_len {m : KM} (h : KvOk m) (ks : List (List UInt8)) : (joinM m ks).length ≤ 65 * ks.length := by
  induction ks with
  | nil => simp [joinM]
  | cons k ks ih =>
    have hv : ((mfind m k).getD []).length ≤ 64 := by
      cases hf : mfind m k with
      | none => simp
      | some v => simpa using h.find hf
    simp only [joinM, List.length_append, List.length_cons, List.length_nil]
    omega
theorem dels_len (m : KM) (ks : List (List UInt8)) : (delsM m ks).length ≤ m.length := by
  induction ks generalizing m with
  | nil => exact Nat.le_refl _
  | cons k ks ih => exact Nat.le_trans (ih (mdel m k)) len_del_le
theorem set_len (m : KM) (k : List UInt8) (o : Option (List UInt8)) : (mset m k o).length ≤ m.length + 1 := by
  have h := len_del_le (l := m) (k := k)
  cases o with
  | none => show (mdel m k).length ≤ _; omega
  | some v => have := len_put_le (K := strK) (l := mdel m k) (k := k) (v := v); show (mput strK (mdel m k) k v).length ≤ _; omega
/-- What a state, and a reply, is behind a command. -/
structure Bound (m m' : KM) (r : Rp) : Prop where
  ok : KvOk m'
  len : m'.length ≤ m.length + 2
  text : r.text.length ≤ 1100
  code : r.code ≤ 3
theorem get_bound {m : KM} (h : KvOk m) (k : List UInt8) : (getM m k).text.length ≤ 1100 ∧ (getM m k).code ≤ 3 := by
  unfold getM
  cases hf : mfind m k with
  | none => simp
  | some v => have := h.find hf; exact ⟨by simp only; omega, by simp⟩
theorem do_bound {m : KM} {c : Cm} (h : KvOk m) (hl : m.length ≤ 1000000) : Bound m (kvDo m c).1 (kvDo m c).2 := by
  unfold kvDo
  split
  · rename_i hg
    have hA := keyA_len hg
    have hB := keyB_len hg
    have hn : c.new.length ≤ 64 := hg.2.2.2.2.2.2.2.1
    have hp := fun (k v : List UInt8) => len_put_le (K := strK) (l := m) (k := k) (v := v)
    have hd := fun (k : List UInt8) => len_del_le (l := m) (k := k)
    have hget := get_bound h (keyA c)
    unfold doM
    split
    · exact ⟨h.put hA hn, by have := hp (keyA c) c.new; simp only; omega, by simp, by simp⟩
    · exact ⟨h, by simp only; omega, hget.1, hget.2⟩
    · exact ⟨h.del _, by have := hd (keyA c); simp only; omega, hget.1, hget.2⟩
    · unfold addM
      cases numM ((mfind m (keyA c)).getD [48]) with
      | none => exact ⟨h, by simp only; omega, by simp, by simp⟩
      | some n =>
        simp only
        split
        · rename_i hf
          have := itoa_len hf
          exact ⟨h.put hA (by omega), by have := hp (keyA c) (Lib.itoa (n + c.n)); simp only; omega, by simp only; omega, by simp⟩
        · exact ⟨h, by simp only; omega, by simp, by simp⟩
    · unfold casM
      cases mfind m (keyA c) with
      | none => exact ⟨h, by simp only; omega, by simp, by simp⟩
      | some v =>
        simp only
        split
        · exact ⟨h.put hA hn, by have := hp (keyA c) c.new; simp only; omega, by simp, by simp⟩
        · exact ⟨h, by simp only; omega, by simp, by simp⟩
    · have h1 := h.set (o := mfind m (keyB c)) hA (fun v hv => h.find hv)
      have h2 := h1.set (o := mfind m (keyA c)) hB (fun v hv => h.find hv)
      have l1 := set_len m (keyA c) (mfind m (keyB c))
      have l2 := set_len (mset m (keyA c) (mfind m (keyB c))) (keyB c) (mfind m (keyA c))
      exact ⟨h2, by unfold swapM; simp only; omega, by simp, by simp⟩
    · have := join_len h c.keys
      have := (Good.keys hg).1
      exact ⟨h, by simp only; omega, by simp only; omega, by simp⟩
    · have l1 := dels_len m c.keys
      have l2 := itoa_len (n := (m.length : Int) - ((delsM m c.keys).length : Int)) (by simp only [fits, Bool.and_eq_true, decide_eq_true_eq]; omega)
      exact ⟨h.dels _, by simp only; omega, by simp only; omega, by simp⟩
  · exact ⟨h, by simp only; omega, by simp, by simp⟩

/-! ### once -/
theorem look_known {t : TM} {client seq : Nat} {x : La} (h : mfind t client = some x) (hs : seq ≤ x.seq) : (lookM t client seq).2 ≠ 0 := by
  unfold lookM
  rw [h]
  simp only
  rw [if_neg (by omega)]
  split <;> simp
theorem apDo_known {a : Ap} {c : Cm} {x : La} (h : mfind a.t c.client = some x) (hs : c.seq ≤ x.seq) : (apDo a c).1 = a ∧ (apDo a c).2.2 = false := by
  unfold apDo
  split
  · exact ⟨rfl, rfl⟩
  · rw [if_neg (look_known h hs)]
    exact ⟨rfl, rfl⟩
theorem apDo_none {a : Ap} {c : Cm} (h : c.client = 0) : apDo a c = (a, ⟨2, []⟩, false) := by
  unfold apDo
  rw [if_pos h]
/-- What was fresh is told again. -/
theorem apDo_again {a : Ap} {c : Cm} (h : (apDo a c).2.2 = true) : apDo (apDo a c).1 c = ((apDo a c).1, (apDo a c).2.1, false) := by
  have h0 : c.client ≠ 0 := fun e => by rw [apDo_none e] at h; cases h
  have h1 : (lookM a.t c.client c.seq).2 = 0 := by
    refine Decidable.byContradiction fun hne => ?_
    unfold apDo at h
    rw [if_neg h0, if_neg hne] at h
    cases h
  have e : apDo a c = (⟨(kvDo a.m c).1, mput cliK a.t c.client ⟨c.seq, (kvDo a.m c).2⟩, a.n + 1⟩, (kvDo a.m c).2, true) := by
    unfold apDo
    rw [if_neg h0, if_pos h1]
  rw [e]
  unfold apDo
  rw [if_neg h0]
  have hl : lookM (mput cliK a.t c.client ⟨c.seq, (kvDo a.m c).2⟩) c.client c.seq = ((kvDo a.m c).2, 1) := by
    unfold lookM
    rw [mfind_put, if_pos rfl]
    simp
  rw [hl]
  simp
/-- Each command that came has its client's number, or one below. -/
def Told (l : List Cm) (i : Nat) (a : Ap) : Prop := ∀ j c, j < i → l[j]? = some c → c.client ≠ 0 → ∃ x, mfind a.t c.client = some x ∧ c.seq ≤ x.seq
theorem Told.zero (l : List Cm) (a : Ap) : Told l 0 a := fun j c hj => by omega
theorem Told.next {l : List Cm} {i : Nat} {a : Ap} {c : Cm} (h : Told l i a) (hc : l[i]? = some c) : Told l (i + 1) (apDo a c).1 := by
  intro j d hj hd h0
  have key : ∀ x, mfind a.t d.client = some x → d.seq ≤ x.seq → ∃ x, mfind (apDo a c).1.t d.client = some x ∧ d.seq ≤ x.seq := by
    intro x hf hs
    unfold apDo
    split
    · exact ⟨x, hf, hs⟩
    · split
      · rename_i h1 h2
        simp only
        rw [mfind_put]
        by_cases he : d.client = c.client
        · rw [if_pos he]
          refine ⟨_, rfl, ?_⟩
          unfold lookM at h2
          rw [← he, hf] at h2
          simp only at h2
          split at h2
          · show d.seq ≤ c.seq; omega
          · split at h2 <;> simp at h2
        · rw [if_neg he]
          exact ⟨x, hf, hs⟩
      · exact ⟨x, hf, hs⟩
  rcases Nat.lt_or_ge j i with h1 | h1
  · obtain ⟨x, hf, hs⟩ := h j d h1 hd h0
    exact key x hf hs
  · have : j = i := by omega
    subst this
    rw [hc] at hd
    cases hd
    unfold apDo
    rw [if_neg h0]
    split
    · simp only
      rw [mfind_put, if_pos rfl]
      exact ⟨_, rfl, Nat.le_refl _⟩
    · rename_i h2
      simp only
      unfold lookM at h2
      cases hf : mfind a.t c.client with
      | none => rw [hf] at h2; simp at h2
      | some x =>
        rw [hf] at h2
        simp only at h2
        refine ⟨x, rfl, ?_⟩
        split at h2
        · simp at h2
        · omega
/-- What an application has is bounded by how many commands it was handed. -/
structure ApOk (a : Ap) (i : Nat) : Prop where
  kv : KvOk a.m
  rise : Rise cliK a.t
  len : a.m.length ≤ 2 * i
  tab : a.t.length ≤ i
  n : a.n ≤ i
  row : ∀ p ∈ a.t, p.1 < 4294967296 ∧ p.2.seq < 4294967296 ∧ p.2.r.code ≤ 3 ∧ p.2.r.text.length ≤ 1100
theorem ApOk.zero : ApOk ap0 0 := ⟨KvOk.nil, rise_nil, by simp [ap0], by simp [ap0], by simp [ap0], by simp [ap0]⟩
theorem ApOk.mono {a : Ap} {i j : Nat} (h : ApOk a i) (hij : i ≤ j) : ApOk a j := ⟨h.kv, h.rise, by have := h.len; omega, by have := h.tab; omega, by have := h.n; omega, h.row⟩
theorem ApOk.next {a : Ap} {i : Nat} {c : Cm} (h : ApOk a i) (hi : i ≤ 10000) (h1 : c.client < 4294967296) (h2 : c.seq < 4294967296) : ApOk (apDo a c).1 (i + 1) := by
  unfold apDo
  split
  · exact h.mono (by omega)
  · split
    · have hb := do_bound (c := c) h.kv (by have := h.len; omega)
      have hp := len_put_le (K := cliK) (l := a.t) (k := c.client) (v := ⟨c.seq, (kvDo a.m c).2⟩)
      refine ⟨hb.ok, rise_put h.rise, ?_, ?_, ?_, fun p hp' => ?_⟩
      · have := hb.len; have := h.len; simp only; omega
      · have := h.tab; simp only; omega
      · have := h.n; simp only; omega
      · rcases mem_put hp' with rfl | hp'
        · exact ⟨h1, h2, hb.code, hb.text⟩
        · exact h.row p hp'
    · exact h.mono (by omega)
theorem apDo_bound {a : Ap} {i : Nat} {c : Cm} (h : ApOk a i) (hi : i ≤ 10000) : (apDo a c).2.1.code ≤ 3 ∧ (apDo a c).2.1.text.length ≤ 1100 := by
  unfold apDo
  split
  · simp
  · split
    · have hb := do_bound (c := c) h.kv (by have := h.len; omega)
      exact ⟨hb.code, hb.text⟩
    · simp only
      unfold lookM
      cases hf : mfind a.t c.client with
      | none => simp
      | some x =>
        have := h.row _ (mfind_mem hf)
        simp only
        split
        · simp
        · split
          · exact ⟨this.2.2.1, this.2.2.2⟩
          · simp
end Go.Proofs.YtanjnhohfcgapaaGreatDoor.Kv
namespace Go.Proofs.YtanjnhohfcgapaaGreatDoor.Sg
open Go.Proofs.YtanjnhohfcgapaaGreatDoor.Cm Go.Proofs.YtanjnhohfcgapaaGreatDoor.Kv Go.Proofs.YtanjnhohfcgapaaGreatDoor.Tr
set_option linter.unusedVariables false
set_option linter.unusedSimpArgs false

/-- A command that is not beyond all measure. -/
def Sm (c : Cm) : Prop := c.Fits ∧ c.keys.length ≤ 1000000
theorem Sm.zero : Sm Cm.zero := ⟨zero_fits, by simp [Cm.zero]⟩
def Vt.Ok (v : Vt) : Prop := v.b.n < 18446744073709551616 ∧ Sm v.c
theorem Vt.Ok.zero : Vt.zero.Ok := ⟨by simp [Vt.zero, Bal.zero], Sm.zero⟩
def HOk (n : Nat) (f : Nat → Option Vt) : Prop := ∀ k v, f k = some v → k < n ∧ v.Ok
theorem HOk.none (n : Nat) : HOk n noneH := fun k v h => by cases h
theorem HOk.put {n r : Nat} {f : Nat → Option Vt} {v : Vt} (h : HOk n f) (hr : r < n) (hv : v.Ok) : HOk n (putH f r v) := fun k u hk => by
  unfold putH at hk
  split at hk
  · rename_i e; cases hk; subst e; exact ⟨hr, hv⟩
  · exact h k u hk
def Ak.Ok (n : Nat) (a : Ak) : Prop := a.b.n < 18446744073709551616 ∧ Sm a.c ∧ HOk n a.heard
structure SgOk (L : Nat) (x : Sg) : Prop where
  self : x.self < x.n
  n : x.n ≤ 7
  len : x.log.length ≤ L
  app : ApOk x.app L
  waits : x.waits.length ≤ 4096
  pn : x.promise.n < 18446744073709551616
  sn : x.seen.n < 18446744073709551616
  vote : x.vote.Ok
  asks : ∀ a, x.asks = some a → a.Ok x.n
  log : ∀ c ∈ x.log, Sm c
  wait : ∀ c ∈ x.waits, Sm c
section
variable {L : Nat} {x : Sg} {o : Ou}
theorem SgOk.zero {self n : Nat} (h : self < n) (hn : n ≤ 7) : SgOk 0 (sg0 self n) :=
  ⟨h, hn, by simp [sg0], ApOk.zero, by simp [sg0], by simp [sg0, Bal.zero], by simp [sg0, Bal.zero], Vt.Ok.zero, by simp [sg0], by simp [sg0], by simp [sg0]⟩
theorem SgOk.mono {L' : Nat} (h : SgOk L x) (hl : L ≤ L') : SgOk L' x := ⟨h.self, h.n, Nat.le_trans h.len hl, h.app.mono hl, h.waits, h.pn, h.sn, h.vote, h.asks, h.log, h.wait⟩
theorem maxB_n {a b : Bal} {m : Nat} (ha : a.n < m) (hb : b.n < m) : (maxB a b).n < m := by unfold maxB; split <;> assumption
theorem nextB_n {a b : Bal} {r : Int} (ha : a.n < 18446744073709551616) (h : nextB a r = some b) : b.n < 18446744073709551616 := by
  unfold nextB at h
  split at h
  · cases h; exact ha
  · split at h
    · cases h
    · cases h; simp only; omega
theorem mem_drop {l : List Cm} {c d : Cm} (h : d ∈ dropM l c) : d ∈ l := by
  unfold dropM at h
  split at h
  · exact h
  · exact List.mem_of_mem_eraseIdx h
theorem drop_len (l : List Cm) (c : Cm) : (dropM l c).length ≤ l.length := by
  unfold dropM
  split
  · exact Nat.le_refl _
  · exact List.length_eraseIdx_le _ _
theorem know_ok {c : Cm} (h : SgOk L x) (hL : L ≤ 10000) (hc : Sm c) : SgOk (L + 1) (knowM c (x, o)).1 := by
  refine ⟨h.self, h.n, ?_, h.app.next hL hc.1.1 hc.1.2.1, Nat.le_trans (drop_len _ _) h.waits, by simp [knowM, Bal.zero], by simp [knowM, Bal.zero], Vt.Ok.zero, by simp [knowM], fun d hd => ?_, fun d hd => h.wait d (mem_drop hd)⟩
  · have := h.len
    simp [knowM]
    exact this
  · simp only [knowM, List.mem_append, List.mem_singleton] at hd
    rcases hd with hd | rfl
    · exact h.log d hd
    · exact hc
theorem bestV_ok {n : Nat} {f : Nat → Option Vt} (h : HOk n f) (k : Nat) : (bestV f k).Ok := by
  induction k with
  | zero => exact Vt.Ok.zero
  | succ k ih =>
    unfold bestV
    split
    · exact ih
    · rename_i v hv
      split
      · exact (h k v hv).2
      · exact ih
theorem bestM_ok {n : Nat} {a : Ak} (h : a.Ok n) : Sm (bestM n a) := by
  unfold bestM
  split
  · exact (bestV_ok h.2.2 n).2
  · exact h.2.1
theorem hears2_ok {a : Ak} {r : Nat} {v : Vt} (h : SgOk L x) (hL : L ≤ 10000) (ha : a.Ok x.n) (hr : r < x.n) (hv : v.Ok) : SgOk (L + 1) (hears2M a r v (x, o)).1 := by
  unfold hears2M
  split
  · exact SgOk.mono ⟨h.self, h.n, h.len, h.app, h.waits, h.pn, h.sn, h.vote, fun k hk => by cases hk; exact ⟨ha.1, ha.2.1, ha.2.2.put hr hv⟩, h.log, h.wait⟩ (Nat.le_succ _)
  · exact know_ok ⟨h.self, h.n, h.len, h.app, h.waits, h.pn, h.sn, h.vote, fun k hk => by cases hk; exact ⟨ha.1, ha.2.1, HOk.none _⟩, h.log, h.wait⟩ hL ha.2.1
theorem hears1_ok {a : Ak} {r : Nat} {v : Vt} (h : SgOk L x) (hL : L ≤ 10000) (ha : a.Ok x.n) (hr : r < x.n) (hv : v.Ok) : SgOk (L + 1) (hears1M a r v (x, o)).1 := by
  unfold hears1M
  split
  · exact SgOk.mono ⟨h.self, h.n, h.len, h.app, h.waits, h.pn, h.sn, h.vote, fun k hk => by cases hk; exact ⟨ha.1, ha.2.1, ha.2.2.put hr hv⟩, h.log, h.wait⟩ (Nat.le_succ _)
  · have hb : Sm (bestM x.n { a with heard := putH a.heard r v }) := bestM_ok ⟨ha.1, ha.2.1, ha.2.2.put hr hv⟩
    exact hears2_ok ⟨h.self, h.n, h.len, h.app, h.waits, h.pn, h.sn, ⟨ha.1, hb⟩, fun k hk => by cases hk; exact ⟨ha.1, hb, HOk.none _⟩, h.log, h.wait⟩ hL ⟨ha.1, hb, HOk.none _⟩ h.self ⟨ha.1, hb⟩
theorem hears_ok {a : Ak} {r : Nat} {v : Vt} (h : SgOk L x) (hL : L ≤ 10000) (ha : a.Ok x.n) (hr : r < x.n) (hv : v.Ok) : SgOk (L + 1) (hearsM a r v (x, o)).1 := by
  unfold hearsM
  split
  · exact hears2_ok h hL ha hr hv
  · exact hears1_ok h hL ha hr hv
theorem ask_ok {c : Cm} (h : SgOk L x) (hL : L ≤ 10000) (hc : Sm c) : SgOk (L + 1) (askM c (x, o)).1 := by
  unfold askM
  split
  · exact SgOk.mono ⟨h.self, h.n, h.len, h.app, h.waits, h.pn, h.sn, h.vote, by simp, h.log, h.wait⟩ (Nat.le_succ _)
  · rename_i b hb
    have hn := nextB_n (maxB_n h.pn h.sn) hb
    exact hears1_ok ⟨h.self, h.n, h.len, h.app, h.waits, hn, h.sn, h.vote, fun k hk => by cases hk; exact ⟨hn, hc, HOk.none _⟩, h.log, h.wait⟩ hL ⟨hn, hc, HOk.none _⟩ h.self h.vote
theorem submit_ok {c : Cm} (h : SgOk L x) (hc : Sm c) : SgOk L (submitM c x).1 := by
  unfold submitM
  split
  · exact h
  · split
    · exact h
    · refine ⟨h.self, h.n, h.len, h.app, ?_, h.pn, h.sn, h.vote, h.asks, h.log, fun d hd => ?_⟩
      · have := h.waits
        simp only [List.length_append, List.length_singleton]
        omega
      · simp only [List.mem_append, List.mem_singleton] at hd
        rcases hd with hd | rfl
        · exact h.wait d hd
        · exact hc
theorem askAt_ok {k : Int} (h : SgOk L x) (hL : L ≤ 10000) : SgOk (L + 1) (askAtM k x).1.1 := by
  unfold askAtM
  split
  · exact h.mono (Nat.le_succ _)
  · rename_i c hc
    split at hc
    · cases hc
    · exact ask_ok h hL (h.wait c (List.mem_of_getElem? hc))
theorem tick_ok (h : SgOk L x) : SgOk L (tickM x).1 := by
  unfold tickM
  split <;> exact h
theorem yields_ok {b : Bal} (h : SgOk L x) : SgOk L (yieldsM b x) := by
  unfold yieldsM
  split
  · exact h
  · split
    · exact ⟨h.self, h.n, h.len, h.app, h.waits, h.pn, h.sn, h.vote, by simp, h.log, h.wait⟩
    · exact h
/-- A message that may be read. -/
def MgOk (m : Mg) : Prop := m.kind < 256 ∧ m.slot < 18446744073709551616 ∧ m.b.n < 18446744073709551616 ∧ m.vote.n < 18446744073709551616 ∧ Sm m.cmd
theorem bows_ok {f : Int} {m : Mg} (h : SgOk L x) (hm : MgOk m) : SgOk L (bowsM f m (x, o)).1 := by
  unfold bowsM
  split
  · exact h
  · have hy : SgOk L (yieldsM m.b { x with promise := m.b }) := yields_ok ⟨h.self, h.n, h.len, h.app, h.waits, hm.2.2.1, h.sn, h.vote, h.asks, h.log, h.wait⟩
    simp only
    split
    · exact ⟨hy.self, hy.n, hy.len, hy.app, hy.waits, hy.pn, hy.sn, ⟨hm.2.2.1, hm.2.2.2.2⟩, hy.asks, hy.log, hy.wait⟩
    · exact hy
theorem answered_ok {f : Int} {m : Mg} (h : SgOk L x) (hL : L ≤ 10000) (hm : MgOk m) (hf : f.toNat < x.n) : SgOk (L + 1) (answeredM f m (x, o)).1 := by
  unfold answeredM
  split
  · exact h.mono (Nat.le_succ _)
  · rename_i a ha
    split
    · exact hears_ok h hL (h.asks a ha) hf ⟨hm.2.2.2.1, hm.2.2.2.2⟩
    · exact h.mono (Nat.le_succ _)
theorem refused_ok {m : Mg} (h : SgOk L x) (hm : MgOk m) : SgOk L (refusedM m (x, o)).1 :=
  yields_ok ⟨h.self, h.n, h.len, h.app, h.waits, h.pn, maxB_n h.sn hm.2.2.1, h.vote, h.asks, h.log, h.wait⟩
theorem act_ok {f : Int} {m : Mg} (h : SgOk L x) (hL : L ≤ 10000) (hm : MgOk m) (hf : f.toNat < x.n) : SgOk (L + 1) (actM f m (x, o)).1 := by
  unfold actM
  split
  · exact (bows_ok h hm).mono (Nat.le_succ _)
  · exact (bows_ok h hm).mono (Nat.le_succ _)
  · exact answered_ok h hL hm hf
  · exact answered_ok h hL hm hf
  · exact (refused_ok h hm).mono (Nat.le_succ _)
  · exact know_ok h hL hm.2.2.2.2
  · exact h.mono (Nat.le_succ _)
theorem take_ok {f : Int} {m : Mg} (h : SgOk L x) (hL : L ≤ 10000) (hm : MgOk m) : SgOk (L + 1) (takeS f m x).1 := by
  unfold takeS
  split
  · exact h.mono (Nat.le_succ _)
  · rename_i hmay
    split
    · exact h.mono (Nat.le_succ _)
    · split
      · exact h.mono (Nat.le_succ _)
      · have hmay : mayT x f m := Classical.not_not.1 hmay
        exact act_ok h hL hm (by have := hmay.1; have := hmay.2.1; omega)
end
end Go.Proofs.YtanjnhohfcgapaaGreatDoor.Sg
namespace Go.Proofs.YtanjnhohfcgapaaGreatDoor.Sg
open Go.Proofs.YtanjnhohfcgapaaGreatDoor.Cm Go.Proofs.YtanjnhohfcgapaaGreatDoor.Kv Go.Proofs.YtanjnhohfcgapaaGreatDoor.Tr
set_option linter.unusedVariables false
set_option linter.unusedSimpArgs false

/-! ### majorities -/
def Maj (n : Nat) (p : Nat → Prop) : Prop := ∃ q : Nat → Bool, (∀ k, k < n → q k = true → p k) ∧ n / 2 + 1 ≤ (List.range n).countP q
theorem count_apart {l : List Nat} {p q : Nat → Bool} (h : ∀ x ∈ l, ¬ (p x = true ∧ q x = true)) : l.countP p + l.countP q ≤ l.length := by
  induction l with
  | nil => simp
  | cons a l ih =>
    have ih := ih fun x hx => h x (by simp [hx])
    have ha := h a (by simp)
    rw [List.countP_cons, List.countP_cons, List.length_cons]
    cases hp : p a <;> cases hq : q a <;> simp [hp, hq] at ha ⊢ <;> omega
section
variable {n : Nat} {p q : Nat → Prop}
theorem Maj.mono (h : Maj n p) (hk : ∀ k, k < n → p k → q k) : Maj n q := by
  obtain ⟨b, h1, h2⟩ := h
  exact ⟨b, fun k hl hb => hk k hl (h1 k hl hb), h2⟩
theorem Maj.meet (h : Maj n p) (k : Maj n q) : ∃ r, r < n ∧ p r ∧ q r := by
  obtain ⟨a, h1, h2⟩ := h
  obtain ⟨b, k1, k2⟩ := k
  refine Classical.byContradiction fun hc => ?_
  have := count_apart (l := List.range n) (p := a) (q := b) fun x hx hab => hc ⟨x, List.mem_range.1 hx, h1 x (List.mem_range.1 hx) hab.1, k1 x (List.mem_range.1 hx) hab.2⟩
  rw [List.length_range] at this
  omega
theorem Maj.one (h : Maj n p) : ∃ r, r < n ∧ p r := by
  obtain ⟨r, h1, h2, -⟩ := h.meet h
  exact ⟨r, h1, h2⟩
end

/-! ### what was ever voted, and proposed -/
structure Gt where
  V : Nat → Nat → Bal → Cm → Prop
  P : Nat → Bal → Cm → Prop
/-- One does not vote there any more. -/
def Closed (xs : Nat → Sg) (s r : Nat) (b : Bal) : Prop := s < (xs r).slot ∨ s = (xs r).slot ∧ bLess b (xs r).promise
def Chosen (n : Nat) (G : Gt) (s : Nat) (c : Cm) : Prop := ∃ b, Maj n fun r => G.V s r b c
def NoneO (n : Nat) (G : Gt) (xs : Nat → Sg) (s : Nat) (b : Bal) (c : Cm) : Prop := Maj n fun r => G.V s r b c ∨ (Closed xs s r b ∧ ∀ c', ¬ G.V s r b c')
def Safe (n : Nat) (G : Gt) (xs : Nat → Sg) (s : Nat) (b : Bal) (c : Cm) : Prop := ∀ b', bLess b' b → NoneO n G xs s b' c
def Said (G : Gt) (xs : Nat → Sg) (s r : Nat) (b : Bal) (v : Vt) : Prop := (∀ b', bLess b' b → Closed xs s r b') ∧ (v.has = true → G.V s r v.b v.c) ∧ ∀ b' c', bLess b' b → G.V s r b' c' → v.has = true ∧ ¬ bLess v.b b'
def Good (n : Nat) (G : Gt) (xs : Nat → Sg) (f : Int) (m : Mg) : Prop :=
  (m.kind = 2 → ∃ r : Nat, f = r ∧ Said G xs m.slot r m.b ⟨m.has, m.vote, m.cmd⟩) ∧ (m.kind = 4 → G.P m.slot m.b m.cmd) ∧ (m.kind = 5 → ∃ r : Nat, f = r ∧ ∃ c, G.V m.slot r m.b c) ∧ (m.kind = 6 → Chosen n G m.slot m.cmd)
/-- A later state. -/
structure Le (G G' : Gt) (xs xs' : Nat → Sg) : Prop where
  v : ∀ s r b c, G.V s r b c → G'.V s r b c
  p : ∀ s b c, G.P s b c → G'.P s b c
  cl : ∀ s r b, Closed xs s r b → Closed xs' s r b
  nv : ∀ s r b c, G'.V s r b c → Closed xs s r b → G.V s r b c
section
variable {n : Nat} {G G' G2 : Gt} {xs xs' xs2 : Nat → Sg} {s r : Nat} {b : Bal} {c : Cm} {v : Vt} {f : Int} {m : Mg}
theorem Le.refl (G : Gt) (xs : Nat → Sg) : Le G G xs xs := ⟨fun _ _ _ _ h => h, fun _ _ _ h => h, fun _ _ _ h => h, fun _ _ _ _ h _ => h⟩
theorem Le.trans (h : Le G G' xs xs') (k : Le G' G2 xs' xs2) : Le G G2 xs xs2 :=
  ⟨fun _ _ _ _ q => k.v _ _ _ _ (h.v _ _ _ _ q), fun _ _ _ q => k.p _ _ _ (h.p _ _ _ q), fun _ _ _ q => k.cl _ _ _ (h.cl _ _ _ q), fun _ _ _ _ q hc => h.nv _ _ _ _ (k.nv _ _ _ _ q (h.cl _ _ _ hc)) hc⟩
theorem Chosen.le (h : Chosen n G s c) (l : Le G G' xs xs') : Chosen n G' s c := by
  obtain ⟨b, hb⟩ := h
  exact ⟨b, hb.mono fun k _ hk => l.v _ _ _ _ hk⟩
theorem NoneO.le (h : NoneO n G xs s b c) (l : Le G G' xs xs') : NoneO n G' xs' s b c := by
  refine Maj.mono h fun k _ hk => ?_
  rcases hk with hk | ⟨h1, h2⟩
  · exact .inl (l.v _ _ _ _ hk)
  · exact .inr ⟨l.cl _ _ _ h1, fun c' hv => h2 c' (l.nv _ _ _ _ hv h1)⟩
theorem Safe.le (h : Safe n G xs s b c) (l : Le G G' xs xs') : Safe n G' xs' s b c := fun b' hb => (h b' hb).le l
theorem Said.le (h : Said G xs s r b v) (l : Le G G' xs xs') : Said G' xs' s r b v :=
  ⟨fun b' hb => l.cl _ _ _ (h.1 b' hb), fun hh => l.v _ _ _ _ (h.2.1 hh), fun b' c' hb hv => h.2.2 b' c' hb (l.nv _ _ _ _ hv (h.1 b' hb))⟩
theorem Good.le (h : Good n G xs f m) (l : Le G G' xs xs') : Good n G' xs' f m := by
  obtain ⟨h2, h4, h5, h6⟩ := h
  refine ⟨fun e => ?_, fun e => l.p _ _ _ (h4 e), fun e => ?_, fun e => (h6 e).le l⟩
  · obtain ⟨r, hr, hs⟩ := h2 e
    exact ⟨r, hr, hs.le l⟩
  · obtain ⟨r, hr, c, hc⟩ := h5 e
    exact ⟨r, hr, c, l.v _ _ _ _ hc⟩
theorem Good.other (h2 : m.kind ≠ 2) (h4 : m.kind ≠ 4) (h5 : m.kind ≠ 5) (h6 : m.kind ≠ 6) : Good n G xs f m := ⟨fun e => absurd e h2, fun e => absurd e h4, fun e => absurd e h5, fun e => absurd e h6⟩
end

structure Inv (n : Nat) (H : Cm → Prop) (G : Gt) (xs : Nat → Sg) : Prop where
  pUniq : ∀ s b c c', G.P s b c → G.P s b c' → c = c'
  pSafe : ∀ s b c, G.P s b c → Safe n G xs s b c
  pH : ∀ s b c, G.P s b c → H c
  pOwn : ∀ s b c, G.P s b c → ∃ r : Nat, r < n ∧ b.r = r ∧ (s < (xs r).slot ∨ s = (xs r).slot ∧ (bLess b (xs r).promise ∨ b = (xs r).promise ∧ ∀ a, (xs r).asks = some a → a.votes = true))
  vP : ∀ s r b c, G.V s r b c → G.P s b c
  vR : ∀ s r b c, G.V s r b c → s < (xs r).slot ∨ s = (xs r).slot ∧ (xs r).vote.has = true ∧ ¬ bLess (xs r).vote.b b
  self : ∀ r, r < n → (xs r).self = r ∧ (xs r).n = n
  vote : ∀ r, r < n → (xs r).vote.has = true → G.V (xs r).slot r (xs r).vote.b (xs r).vote.c ∧ ¬ bLess (xs r).promise (xs r).vote.b
  log : ∀ r, r < n → ∀ i c, (xs r).log[i]? = some c → Chosen n G (i + 1) c
  asks : ∀ r, r < n → ∀ a, (xs r).asks = some a → a.b = (xs r).promise ∧ a.b.r = r ∧ H a.c ∧ (a.votes = true → G.P (xs r).slot a.b a.c) ∧
    ∀ k v, a.heard k = some v → k < n ∧ (a.votes = true → G.V (xs r).slot k a.b a.c) ∧ (a.votes = false → Said G xs (xs r).slot k a.b v)
  waits : ∀ r, r < n → ∀ c ∈ (xs r).waits, H c
def up (xs : Nat → Sg) (r : Nat) (x : Sg) : Nat → Sg := fun k => if k = r then x else xs k
section
variable {n r : Nat} {H : Cm → Prop} {G : Gt} {xs : Nat → Sg} {x : Sg}
theorem up_self (xs : Nat → Sg) (r : Nat) (x : Sg) : up xs r x r = x := if_pos rfl
theorem up_ne {k : Nat} (h : k ≠ r) : up xs r x k = xs k := if_neg h
theorem up_up (xs : Nat → Sg) (r : Nat) (x y : Sg) : up (up xs r x) r y = up xs r y := by
  funext k
  unfold up
  split <;> rfl
theorem up_id (xs : Nat → Sg) (r : Nat) : up xs r (xs r) = xs := by
  funext k
  unfold up
  split
  · rename_i e; rw [e]
  · rfl
theorem Inv.mono {H' : Cm → Prop} (h : Inv n H G xs) (hH : ∀ c, H c → H' c) : Inv n H' G xs :=
  ⟨h.pUniq, h.pSafe, fun s b c q => hH c (h.pH s b c q), h.pOwn, h.vP, h.vR, h.self, h.vote, h.log, fun r hr a ha => by obtain ⟨h1, h2, h3, h4⟩ := h.asks r hr a ha; exact ⟨h1, h2, hH _ h3, h4⟩, fun r hr c hc => hH c (h.waits r hr c hc)⟩
/-- One slot, one command. -/
theorem Inv.uniq {s : Nat} {c c' : Cm} (h : Inv n H G xs) (h1 : Chosen n G s c) (h2 : Chosen n G s c') : c = c' := by
  have key : ∀ (b b' : Bal) (c c' : Cm), bLess b b' → (Maj n fun r => G.V s r b c) → (Maj n fun r => G.V s r b' c') → c = c' := by
    intro b b' c c' hl k1 k2
    obtain ⟨r, -, hr⟩ := k2.one
    obtain ⟨q, -, hq1, hq2⟩ := k1.meet (h.pSafe _ _ _ (h.vP _ _ _ _ hr) b hl)
    rcases hq2 with hq2 | ⟨-, hq2⟩
    · exact h.pUniq _ _ _ _ (h.vP _ _ _ _ hq1) (h.vP _ _ _ _ hq2)
    · exact absurd hq1 (hq2 c)
  obtain ⟨b, k1⟩ := h1
  obtain ⟨b', k2⟩ := h2
  rcases bLess_tri b b' with hl | rfl | hl
  · exact key b b' c c' hl k1 k2
  · obtain ⟨r, -, h3, h4⟩ := k1.meet k2
    exact h.pUniq _ _ _ _ (h.vP _ _ _ _ h3) (h.vP _ _ _ _ h4)
  · exact (key b' b c' c hl k2 k1).symm
theorem Inv.chosenH {s : Nat} {c : Cm} (h : Inv n H G xs) (h1 : Chosen n G s c) : H c := by
  obtain ⟨b, k⟩ := h1
  obtain ⟨r, -, hr⟩ := k.one
  exact h.pH _ _ _ (h.vP _ _ _ _ hr)
theorem not_less_trans {a b c : Bal} (h : ¬ bLess a b) (k : ¬ bLess b c) : ¬ bLess a c := by
  intro hl
  rcases bLess_tri b c with h1 | h1 | h1
  · exact k h1
  · subst h1; exact h hl
  · exact h (bLess_trans hl h1)
theorem less_of {a b c : Bal} (h : bLess a b) (k : ¬ bLess c b) : bLess a c := by
  rcases bLess_tri b c with h1 | h1 | h1
  · exact bLess_trans h h1
  · exact h1 ▸ h
  · exact absurd h1 k
/-- Nothing is voted, nor proposed. -/
theorem Inv.quiet {x' : Sg} (h : Inv n H G xs) (hr : r < n) (hself : x'.self = (xs r).self) (hn : x'.n = (xs r).n) (hlog : x'.log = (xs r).log) (hp : ¬ bLess x'.promise (xs r).promise) (hvote : x'.vote = (xs r).vote)
    (hw : ∀ c ∈ x'.waits, H c)
    (ha : ∀ a, x'.asks = some a → a.b = x'.promise ∧ a.b.r = r ∧ H a.c ∧ (a.votes = true → G.P (xs r).slot a.b a.c) ∧ ∀ k v, a.heard k = some v → k < n ∧ (a.votes = true → G.V (xs r).slot k a.b a.c) ∧ (a.votes = false → Said G xs (xs r).slot k a.b v))
    (ho : bLess (xs r).promise x'.promise ∨ ∀ a', x'.asks = some a' → a'.votes = false → ∃ a, (xs r).asks = some a ∧ a.votes = false) : Inv n H G (up xs r x') ∧ Le G G xs (up xs r x') := by
  have hs : x'.slot = (xs r).slot := by unfold Sg.slot; rw [hlog]
  have le : Le G G xs (up xs r x') := by
    refine ⟨fun _ _ _ _ h => h, fun _ _ _ h => h, fun s k b hc => ?_, fun _ _ _ _ h _ => h⟩
    unfold Closed at hc ⊢
    by_cases hk : k = r
    · subst hk
      rw [up_self, hs]
      exact hc.imp id fun hc => ⟨hc.1, less_of hc.2 hp⟩
    · rw [up_ne hk]; exact hc
  refine ⟨⟨h.pUniq, fun s b c q => (h.pSafe s b c q).le le, h.pH, fun s b c q => ?_, h.vP, fun s k b c q => ?_, fun k hk => ?_, fun k hk hh => ?_, fun k hk => ?_, fun k hk a e => ?_, fun k hk => ?_⟩, le⟩
  · obtain ⟨k, hk, hb, h5⟩ := h.pOwn s b c q
    refine ⟨k, hk, hb, ?_⟩
    by_cases hkr : k = r
    · subst hkr
      rw [up_self, hs]
      refine h5.imp id fun h5 => ⟨h5.1, ?_⟩
      rcases h5.2 with h6 | ⟨h6, h7⟩
      · exact .inl (less_of h6 hp)
      · rcases ho with ho | ho
        · exact .inl (h6 ▸ ho)
        · rcases bLess_tri (xs k).promise x'.promise with h8 | h8 | h8
          · exact .inl (h6 ▸ h8)
          · refine .inr ⟨h6.trans h8, fun a' ha' => ?_⟩
            cases hv : a'.votes with
            | true => rfl
            | false =>
              obtain ⟨a, e1, e2⟩ := ho a' ha' hv
              rw [h7 a e1] at e2
              cases e2
          · exact absurd h8 hp
    · rw [up_ne hkr]; exact h5
  · have h5 := h.vR s k b c q
    by_cases hkr : k = r
    · subst hkr; rw [up_self, hs, hvote]; exact h5
    · rw [up_ne hkr]; exact h5
  · by_cases hkr : k = r
    · subst hkr; rw [up_self, hself, hn]; exact h.self k hk
    · rw [up_ne hkr]; exact h.self k hk
  · by_cases hkr : k = r
    · subst hkr
      rw [up_self] at hh ⊢
      rw [hs, hvote]
      obtain ⟨h5, h6⟩ := h.vote k hk (hvote ▸ hh)
      exact ⟨h5, not_less_trans hp h6⟩
    · rw [up_ne hkr] at hh ⊢; exact h.vote k hk hh
  · by_cases hkr : k = r
    · subst hkr; rw [up_self, hlog]; exact h.log k hk
    · rw [up_ne hkr]; exact h.log k hk
  · by_cases hkr : k = r
    · subst hkr
      rw [up_self] at e ⊢
      obtain ⟨h1, h2, h3, h4, h5⟩ := ha a e
      rw [hs]
      exact ⟨h1, h2, h3, h4, fun j v hj => by obtain ⟨h6, h7, h8⟩ := h5 j v hj; exact ⟨h6, h7, fun hv => (h8 hv).le le⟩⟩
    · rw [up_ne hkr] at e ⊢
      obtain ⟨h1, h2, h3, h4, h5⟩ := h.asks k hk a e
      exact ⟨h1, h2, h3, h4, fun j v hj => by obtain ⟨h6, h7, h8⟩ := h5 j v hj; exact ⟨h6, h7, fun hv => (h8 hv).le le⟩⟩
  · by_cases hkr : k = r
    · subst hkr; rw [up_self]; exact hw
    · rw [up_ne hkr]; exact h.waits k hk
/-- A proposal. -/
def Gt.addP (G : Gt) (s : Nat) (b : Bal) (c : Cm) : Gt := ⟨G.V, fun s' b' c' => G.P s' b' c' ∨ s' = s ∧ b' = b ∧ c' = c⟩
theorem Inv.addP {a : Ak} {c : Cm} (h : Inv n H G xs) (hr : r < n) (ha : (xs r).asks = some a) (hv : a.votes = false) (hsafe : Safe n G xs (xs r).slot a.b c) (hH : H c) :
    Inv n H (G.addP (xs r).slot a.b c) (up xs r { xs r with asks := some ⟨a.b, true, c, noneH⟩ }) ∧ Le G (G.addP (xs r).slot a.b c) xs (up xs r { xs r with asks := some ⟨a.b, true, c, noneH⟩ }) := by
  obtain ⟨a1, a2, -⟩ := h.asks r hr a ha
  have hno : ∀ c', ¬ G.P (xs r).slot a.b c' := by
    intro c' q
    obtain ⟨k, hk, hb, h5⟩ := h.pOwn _ _ _ q
    have hkr : k = r := by omega
    subst hkr
    rcases h5 with h5 | ⟨-, h5 | ⟨-, h5⟩⟩
    · omega
    · rw [a1] at h5; exact bLess_irrefl _ h5
    · rw [h5 a ha] at hv; cases hv
  obtain ⟨X, hX⟩ : ∃ X : Sg, { xs r with asks := some ⟨a.b, true, c, noneH⟩ } = X := ⟨_, rfl⟩
  have x1 : X.self = (xs r).self := by rw [← hX]
  have x2 : X.n = (xs r).n := by rw [← hX]
  have x3 : X.log = (xs r).log := by rw [← hX]
  have x4 : X.promise = (xs r).promise := by rw [← hX]
  have x5 : X.vote = (xs r).vote := by rw [← hX]
  have x6 : X.waits = (xs r).waits := by rw [← hX]
  have x7 : X.asks = some ⟨a.b, true, c, noneH⟩ := by rw [← hX]
  rw [hX]
  have hs : X.slot = (xs r).slot := by unfold Sg.slot; rw [x3]
  have le : Le G (G.addP (xs r).slot a.b c) xs (up xs r X) := by
    refine ⟨fun _ _ _ _ h => h, fun _ _ _ h => .inl h, fun s k b hc => ?_, fun _ _ _ _ h _ => h⟩
    unfold Closed at hc ⊢
    by_cases hk : k = r
    · subst hk
      rw [up_self, hs, x4]
      exact hc
    · rw [up_ne hk]; exact hc
  refine ⟨⟨fun s b d d' q q' => ?_, fun s b d q => ?_, fun s b d q => ?_, fun s b d q => ?_, fun s k b d q => .inl (h.vP s k b d q), fun s k b d q => ?_, fun k hk => ?_, fun k hk hh => ?_, fun k hk i d hi => ?_, fun k hk e he => ?_, fun k hk => ?_⟩, le⟩
  · rcases q with q | ⟨rfl, rfl, rfl⟩ <;> rcases q' with q' | ⟨e1, e2, e3⟩
    · exact h.pUniq _ _ _ _ q q'
    · subst e1 e2; exact absurd q (hno d)
    · exact absurd q' (hno d')
    · exact e3.symm
  · rcases q with q | ⟨rfl, rfl, rfl⟩
    · exact (h.pSafe s b d q).le le
    · exact hsafe.le le
  · rcases q with q | ⟨rfl, rfl, rfl⟩
    · exact h.pH s b d q
    · exact hH
  · rcases q with q | ⟨rfl, rfl, rfl⟩
    · obtain ⟨k, hk, hb, h5⟩ := h.pOwn s b d q
      refine ⟨k, hk, hb, ?_⟩
      by_cases hkr : k = r
      · subst hkr
        rw [up_self, hs, x4, x7]
        refine h5.imp id fun h5 => ⟨h5.1, h5.2.imp id fun h6 => ⟨h6.1, fun e he => by cases he; rfl⟩⟩
      · rw [up_ne hkr]; exact h5
    · refine ⟨r, hr, a2, ?_⟩
      rw [up_self, hs, x4, x7]
      exact .inr ⟨rfl, .inr ⟨a1, fun e he => by cases he; rfl⟩⟩
  · have h5 := h.vR s k b d q
    by_cases hkr : k = r
    · subst hkr; rw [up_self, hs, x5]; exact h5
    · rw [up_ne hkr]; exact h5
  · by_cases hkr : k = r
    · subst hkr; rw [up_self, x1, x2]; exact h.self k hk
    · rw [up_ne hkr]; exact h.self k hk
  · by_cases hkr : k = r
    · subst hkr
      rw [up_self] at hh ⊢
      rw [hs, x5, x4]
      exact h.vote k hk (x5 ▸ hh)
    · rw [up_ne hkr] at hh ⊢; exact h.vote k hk hh
  · by_cases hkr : k = r
    · subst hkr; rw [up_self, x3] at hi; exact (h.log k hk i d hi).le le
    · rw [up_ne hkr] at hi; exact (h.log k hk i d hi).le le
  · by_cases hkr : k = r
    · subst hkr
      rw [up_self] at he ⊢
      rw [x7] at he
      cases he
      rw [x4, hs]
      exact ⟨a1, a2, hH, fun _ => .inr ⟨rfl, rfl, rfl⟩, fun j v hj => by cases hj⟩
    · rw [up_ne hkr] at he ⊢
      obtain ⟨h1, h2, h3, h4, h5⟩ := h.asks k hk e he
      exact ⟨h1, h2, h3, fun q => .inl (h4 q), fun j v hj => by obtain ⟨h6, h7, h8⟩ := h5 j v hj; exact ⟨h6, h7, fun hv => (h8 hv).le le⟩⟩
  · by_cases hkr : k = r
    · subst hkr; rw [up_self, x6]; exact h.waits k hk
    · rw [up_ne hkr]; exact h.waits k hk
/-- A vote. -/
def Gt.addV (G : Gt) (s r : Nat) (b : Bal) (c : Cm) : Gt := ⟨fun s' r' b' c' => G.V s' r' b' c' ∨ s' = s ∧ r' = r ∧ b' = b ∧ c' = c, G.P⟩
theorem Inv.addV {b : Bal} {c : Cm} {X : Sg} (h : Inv n H G xs) (hr : r < n) (hb : ¬ bLess b (xs r).promise) (hP : G.P (xs r).slot b c) (x1 : X.self = (xs r).self) (x2 : X.n = (xs r).n) (x3 : X.log = (xs r).log) (x4 : X.promise = b)
    (x5 : X.vote = ⟨true, b, c⟩) (x6 : X.waits = (xs r).waits) (x7 : ∀ a, X.asks = some a → (xs r).asks = some a ∧ b = (xs r).promise) :
    Inv n H (G.addV (xs r).slot r b c) (up xs r X) ∧ Le G (G.addV (xs r).slot r b c) xs (up xs r X) := by
  have hs : X.slot = (xs r).slot := by unfold Sg.slot; rw [x3]
  have le : Le G (G.addV (xs r).slot r b c) xs (up xs r X) := by
    refine ⟨fun _ _ _ _ h => .inl h, fun _ _ _ h => h, fun s k b' hc => ?_, fun s k b' c' q hc => ?_⟩
    · unfold Closed at hc ⊢
      by_cases hk : k = r
      · subst hk
        rw [up_self, hs, x4]
        exact hc.imp id fun hc => ⟨hc.1, less_of hc.2 hb⟩
      · rw [up_ne hk]; exact hc
    · rcases q with q | ⟨rfl, rfl, rfl, rfl⟩
      · exact q
      · rcases hc with hc | hc
        · omega
        · exact absurd hc.2 hb
  refine ⟨⟨h.pUniq, fun s b' d q => (h.pSafe s b' d q).le le, h.pH, fun s b' d q => ?_, fun s k b' d q => ?_, fun s k b' d q => ?_, fun k hk => ?_, fun k hk hh => ?_, fun k hk i d hi => ?_, fun k hk e he => ?_, fun k hk => ?_⟩, le⟩
  · obtain ⟨k, hk, hb', h5⟩ := h.pOwn s b' d q
    refine ⟨k, hk, hb', ?_⟩
    by_cases hkr : k = r
    · subst hkr
      rw [up_self, hs, x4]
      refine h5.imp id fun h5 => ⟨h5.1, ?_⟩
      rcases h5.2 with h6 | ⟨h6, h7⟩
      · exact .inl (less_of h6 hb)
      · rcases bLess_tri (xs k).promise b with h8 | h8 | h8
        · exact .inl (h6 ▸ h8)
        · exact .inr ⟨h6.trans h8, fun a ha => h7 a (x7 a ha).1⟩
        · exact absurd h8 hb
    · rw [up_ne hkr]; exact h5
  · rcases q with q | ⟨rfl, rfl, rfl, rfl⟩
    · exact h.vP s k b' d q
    · exact hP
  · rcases q with q | ⟨rfl, rfl, rfl, rfl⟩
    · have h5 := h.vR s k b' d q
      by_cases hkr : k = r
      · subst hkr
        rw [up_self, hs, x5]
        refine h5.imp id fun h5 => ⟨h5.1, rfl, ?_⟩
        exact not_less_trans (not_less_trans hb (h.vote k hr h5.2.1).2) h5.2.2
      · rw [up_ne hkr]; exact h5
    · rw [up_self, hs, x5]
      exact .inr ⟨rfl, rfl, bLess_irrefl _⟩
  · by_cases hkr : k = r
    · subst hkr; rw [up_self, x1, x2]; exact h.self k hk
    · rw [up_ne hkr]; exact h.self k hk
  · by_cases hkr : k = r
    · subst hkr
      rw [up_self, hs, x5, x4]
      exact ⟨.inr ⟨rfl, rfl, rfl, rfl⟩, bLess_irrefl _⟩
    · rw [up_ne hkr] at hh ⊢
      exact ⟨.inl (h.vote k hk hh).1, (h.vote k hk hh).2⟩
  · by_cases hkr : k = r
    · subst hkr; rw [up_self, x3] at hi; exact (h.log k hk i d hi).le le
    · rw [up_ne hkr] at hi; exact (h.log k hk i d hi).le le
  · by_cases hkr : k = r
    · subst hkr
      rw [up_self] at he ⊢
      obtain ⟨e1, e2⟩ := x7 e he
      obtain ⟨h1, h2, h3, h4, h5⟩ := h.asks k hk e e1
      rw [x4, hs]
      exact ⟨h1.trans e2.symm, h2, h3, h4, fun j v hj => by obtain ⟨h6, h7, h8⟩ := h5 j v hj; exact ⟨h6, fun hv => .inl (h7 hv), fun hv => (h8 hv).le le⟩⟩
    · rw [up_ne hkr] at he ⊢
      obtain ⟨h1, h2, h3, h4, h5⟩ := h.asks k hk e he
      exact ⟨h1, h2, h3, h4, fun j v hj => by obtain ⟨h6, h7, h8⟩ := h5 j v hj; exact ⟨h6, fun hv => .inl (h7 hv), fun hv => (h8 hv).le le⟩⟩
  · by_cases hkr : k = r
    · subst hkr; rw [up_self, x6]; exact h.waits k hk
    · rw [up_ne hkr]; exact h.waits k hk
/-- A command is known. -/
theorem Inv.know {c : Cm} {X : Sg} (h : Inv n H G xs) (hr : r < n) (hc : Chosen n G (xs r).slot c) (x1 : X.self = (xs r).self) (x2 : X.n = (xs r).n) (x3 : X.log = (xs r).log ++ [c])
    (x5 : X.vote = Vt.zero) (x6 : ∀ d ∈ X.waits, d ∈ (xs r).waits) (x7 : X.asks = none) : Inv n H G (up xs r X) ∧ Le G G xs (up xs r X) := by
  have hs : X.slot = (xs r).slot + 1 := by unfold Sg.slot; rw [x3]; simp
  have le : Le G G xs (up xs r X) := by
    refine ⟨fun _ _ _ _ h => h, fun _ _ _ h => h, fun s k b' hc => ?_, fun s k b' c' q hc => q⟩
    unfold Closed at hc ⊢
    by_cases hk : k = r
    · subst hk
      rw [up_self, hs]
      rcases hc with hc | hc
      · exact .inl (by omega)
      · exact .inl (by omega)
    · rw [up_ne hk]; exact hc
  refine ⟨⟨h.pUniq, fun s b' d q => (h.pSafe s b' d q).le le, h.pH, fun s b' d q => ?_, h.vP, fun s k b' d q => ?_, fun k hk => ?_, fun k hk hh => ?_, fun k hk i d hi => ?_, fun k hk e he => ?_, fun k hk d hd => ?_⟩, le⟩
  · obtain ⟨k, hk, hb', h5⟩ := h.pOwn s b' d q
    refine ⟨k, hk, hb', ?_⟩
    by_cases hkr : k = r
    · subst hkr
      rw [up_self, hs]
      rcases h5 with h5 | h5 <;> exact .inl (by omega)
    · rw [up_ne hkr]; exact h5
  · have h5 := h.vR s k b' d q
    by_cases hkr : k = r
    · subst hkr
      rw [up_self, hs]
      rcases h5 with h5 | h5 <;> exact .inl (by omega)
    · rw [up_ne hkr]; exact h5
  · by_cases hkr : k = r
    · subst hkr; rw [up_self, x1, x2]; exact h.self k hk
    · rw [up_ne hkr]; exact h.self k hk
  · by_cases hkr : k = r
    · subst hkr
      rw [up_self, x5] at hh
      cases hh
    · rw [up_ne hkr] at hh ⊢; exact h.vote k hk hh
  · by_cases hkr : k = r
    · subst hkr
      rw [up_self, x3] at hi
      by_cases hl : i < (xs k).log.length
      · rw [List.getElem?_append_left hl] at hi; exact h.log k hk i d hi
      · rw [List.getElem?_append_right (by omega)] at hi
        have h0 : i - (xs k).log.length = 0 := by
          have := (List.getElem?_eq_some_iff.1 hi).1
          simp at this
          omega
        rw [h0] at hi
        simp only [List.getElem?_cons_zero, Option.some.injEq] at hi
        subst hi
        have : i + 1 = (xs k).slot := by unfold Sg.slot; omega
        rw [this]
        exact hc
    · rw [up_ne hkr] at hi; exact h.log k hk i d hi
  · by_cases hkr : k = r
    · subst hkr
      rw [up_self, x7] at he
      cases he
    · rw [up_ne hkr] at he ⊢
      obtain ⟨h1, h2, h3, h4, h5⟩ := h.asks k hk e he
      exact ⟨h1, h2, h3, h4, fun j v hj => by obtain ⟨h6, h7, h8⟩ := h5 j v hj; exact ⟨h6, h7, fun hv => (h8 hv).le le⟩⟩
  · by_cases hkr : k = r
    · subst hkr; rw [up_self] at hd; exact h.waits k hk d (x6 d hd)
    · rw [up_ne hkr] at hd; exact h.waits k hk d hd
end
end Go.Proofs.YtanjnhohfcgapaaGreatDoor.Sg
namespace Go.Proofs.YtanjnhohfcgapaaGreatDoor.Sg
open Go.Proofs.YtanjnhohfcgapaaGreatDoor.Cm Go.Proofs.YtanjnhohfcgapaaGreatDoor.Kv Go.Proofs.YtanjnhohfcgapaaGreatDoor.Tr
set_option linter.unusedVariables false
set_option linter.unusedSimpArgs false

/-- A step of one, under way. -/
structure Way (n : Nat) (H : Cm → Prop) (G0 : Gt) (xs0 : Nat → Sg) (r : Nat) (G : Gt) (s : SO) : Prop where
  inv : Inv n H G (up xs0 r s.1)
  le : Le G0 G xs0 (up xs0 r s.1)
  send : ∀ e ∈ s.2.send, Good n G (up xs0 r s.1) r e.2 ∧ 0 ≤ e.1 ∧ e.1 < n ∧ e.1 ≠ r
section
variable {n r : Nat} {H : Cm → Prop} {G0 G G' : Gt} {xs0 : Nat → Sg} {x x' : Sg} {o o' : Ou} {a : Ak} {k : Nat} {v : Vt} {c : Cm} {b : Bal} {f : Int} {m : Mg}
theorem Way.start (h : Inv n H G xs0) (r : Nat) (ho : o.send = []) : Way n H G xs0 r G (xs0 r, o) := by
  refine ⟨?_, ?_, fun e he => by rw [ho] at he; cases he⟩
  · rw [up_id]; exact h
  · rw [up_id]; exact Le.refl _ _
theorem Way.out (w : Way n H G0 xs0 r G (x, o)) (h : o'.send = o.send) : Way n H G0 xs0 r G (x, o') := ⟨w.inv, w.le, fun e he => w.send e (h ▸ he)⟩
theorem Way.to (w : Way n H G0 xs0 r G (x, o)) (h : Inv n H G' (up (up xs0 r x) r x') ∧ Le G G' (up xs0 r x) (up (up xs0 r x) r x')) : Way n H G0 xs0 r G' (x', o) := by
  rw [up_up] at h
  exact ⟨h.1, w.le.trans h.2, fun e he => by obtain ⟨h1, h2⟩ := w.send e he; exact ⟨h1.le h.2, h2⟩⟩
theorem Way.self (w : Way n H G0 xs0 r G (x, o)) (hr : r < n) : x.self = r ∧ x.n = n := by
  have := w.inv.self r hr
  rw [up_self] at this
  exact this
theorem Way.asks (w : Way n H G0 xs0 r G (x, o)) (hr : r < n) (ha : x.asks = some a) : a.b = x.promise ∧ a.b.r = r ∧ H a.c ∧ (a.votes = true → G.P x.slot a.b a.c) ∧
    ∀ k v, a.heard k = some v → k < n ∧ (a.votes = true → G.V x.slot k a.b a.c) ∧ (a.votes = false → Said G (up xs0 r x) x.slot k a.b v) := by
  have := w.inv.asks r hr a (by rw [up_self]; exact ha)
  rw [up_self] at this
  exact this
theorem Way.waits (w : Way n H G0 xs0 r G (x, o)) (hr : r < n) : ∀ c ∈ x.waits, H c := by
  have := w.inv.waits r hr
  rw [up_self] at this
  exact this
theorem Way.more (w : Way n H G0 xs0 r G (x, o)) {l : List Se} (hl : ∀ e ∈ l, Good n G (up xs0 r x) r e.2 ∧ 0 ≤ e.1 ∧ e.1 < n ∧ e.1 ≠ r) : Way n H G0 xs0 r G (x, { o with send := o.send ++ l }) :=
  ⟨w.inv, w.le, fun e he => by
    rcases List.mem_append.1 he with he | he
    · exact w.send e he
    · exact hl e he⟩
theorem Way.one (w : Way n H G0 xs0 r G (x, o)) (hg : Good n G (up xs0 r x) r m) (h0 : 0 ≤ f) (h1 : f < n) (h2 : f ≠ r) : Way n H G0 xs0 r G (x, sendM o f m) :=
  w.more fun e he => by
    simp only [List.mem_singleton] at he
    subst he
    exact ⟨hg, h0, h1, h2⟩
theorem Way.others (w : Way n H G0 xs0 r G (x, o)) (hr : r < n) (g : Nat → Option Vt) (hg : Good n G (up xs0 r x) r m) : Way n H G0 xs0 r G (x, othersM x.self x.n g m o) := by
  obtain ⟨h1, h2⟩ := w.self hr
  refine w.more fun e he => ?_
  obtain ⟨k, hk, rfl⟩ := List.mem_map.1 he
  simp only [toM, List.mem_filter, Bool.and_eq_true, decide_eq_true_eq] at hk
  obtain ⟨hk, -, hne⟩ := hk
  rw [h2] at hk
  rw [h1] at hne
  have := List.mem_range.1 hk
  exact ⟨hg, by simp, by simp; omega, by simp; omega⟩
theorem Way.quiet (w : Way n H G0 xs0 r G (x, o)) (hr : r < n) (hself : x'.self = x.self) (hn : x'.n = x.n) (hlog : x'.log = x.log) (hp : ¬ bLess x'.promise x.promise) (hvote : x'.vote = x.vote)
    (hw : ∀ c ∈ x'.waits, H c)
    (ha : ∀ a, x'.asks = some a → a.b = x'.promise ∧ a.b.r = r ∧ H a.c ∧ (a.votes = true → G.P x.slot a.b a.c) ∧ ∀ k v, a.heard k = some v → k < n ∧ (a.votes = true → G.V x.slot k a.b a.c) ∧ (a.votes = false → Said G (up xs0 r x) x.slot k a.b v))
    (ho : bLess x.promise x'.promise ∨ ∀ a', x'.asks = some a' → a'.votes = false → ∃ a, x.asks = some a ∧ a.votes = false) : Way n H G0 xs0 r G (x', o) :=
  w.to (Inv.quiet w.inv hr (by rw [up_self]; exact hself) (by rw [up_self]; exact hn) (by rw [up_self]; exact hlog) (by rw [up_self]; exact hp) (by rw [up_self]; exact hvote) hw (by rw [up_self]; exact ha) (by rw [up_self]; exact ho))
theorem Way.know (w : Way n H G0 xs0 r G (x, o)) (hr : r < n) (hc : Chosen n G x.slot c) : Way n H G0 xs0 r G (knowM c (x, o)) := by
  refine Way.out (o := o) (w.to (Inv.know (c := c) w.inv hr (by rw [up_self]; exact hc) ?_ ?_ ?_ rfl ?_ rfl)) rfl
  · rw [up_self]; try rfl
  · rw [up_self]; try rfl
  · rw [up_self]; try rfl
  · rw [up_self]; exact fun d hd => mem_drop hd
theorem Way.hears2 (w : Way n H G0 xs0 r G (x, o)) (hr : r < n) (ha : x.asks = some a) (hv : a.votes = true) (hk : k < n) (hV : G.V x.slot k a.b a.c) : Way n H G0 xs0 r G (hears2M a k v (x, o)) := by
  obtain ⟨a1, a2, a3, a4, a5⟩ := w.asks hr ha
  obtain ⟨s1, s2⟩ := w.self hr
  have hput : ∀ j u, putH a.heard k v j = some u → j < n ∧ G.V x.slot j a.b a.c := fun j u hj => by
    unfold putH at hj
    split at hj
    · rename_i e; subst e; exact ⟨hk, hV⟩
    · obtain ⟨h1, h2, -⟩ := a5 j u hj; exact ⟨h1, h2 hv⟩
  unfold hears2M
  split
  · refine w.quiet hr rfl rfl rfl (bLess_irrefl _) rfl (w.waits hr) (fun d hd => ?_) (.inr fun d hd hdv => ?_)
    · cases hd
      exact ⟨a1, a2, a3, a4, fun j u hj => ⟨(hput j u hj).1, fun _ => (hput j u hj).2, fun h => by rw [hv] at h; cases h⟩⟩
    · cases hd; rw [hv] at hdv; cases hdv
  · rename_i hm
    have hch : Chosen n G x.slot a.c := ⟨a.b, fun j => (putH a.heard k v j).isSome, fun j hj hs => by
      obtain ⟨u, hu⟩ := Option.isSome_iff_exists.1 hs
      exact (hput j u hu).2, by
        simp only [cntH, maj, s2] at hm
        omega⟩
    have w1 : Way n H G0 xs0 r G ({ x with asks := some { a with heard := noneH } }, o) := w.quiet hr rfl rfl rfl (bLess_irrefl _) rfl (w.waits hr) (fun d hd => by
      cases hd
      exact ⟨a1, a2, a3, a4, fun j u hj => by cases hj⟩) (.inr fun d hd hdv => by cases hd; rw [hv] at hdv; cases hdv)
    have w2 := w1.others hr noneH (m := mgc 6 x.slot Bal.zero a.c) ⟨fun e => (by cases e), fun e => (by cases e), fun e => (by cases e), fun _ => hch⟩
    exact w2.know hr hch
/-! ### the best of the votes -/
theorem bestV_mem {g : Nat → Option Vt} : ∀ {j : Nat}, (bestV g j).has = true → ∃ i, i < j ∧ g i = some (bestV g j)
  | 0, h => by cases h
  | j + 1, h => by
    cases hg : g j with
    | none =>
      have e : bestV g (j + 1) = bestV g j := by simp only [bestV, hg]
      rw [e] at h ⊢
      obtain ⟨i, h1, h2⟩ := bestV_mem h
      exact ⟨i, by omega, h2⟩
    | some u =>
      by_cases hc : (u.has && (!(bestV g j).has || decide (bLess (bestV g j).b u.b))) = true
      · have e : bestV g (j + 1) = u := by simp only [bestV, hg]; rw [if_pos hc]
        rw [e]
        exact ⟨j, by omega, hg⟩
      · have e : bestV g (j + 1) = bestV g j := by simp only [bestV, hg]; rw [if_neg hc]
        rw [e] at h ⊢
        obtain ⟨i, h1, h2⟩ := bestV_mem h
        exact ⟨i, by omega, h2⟩
theorem bestV_max {g : Nat → Option Vt} : ∀ {j i : Nat} {u : Vt}, i < j → g i = some u → u.has = true → (bestV g j).has = true ∧ ¬ bLess (bestV g j).b u.b
  | 0, i, u, hi, _, _ => absurd hi (Nat.not_lt_zero _)
  | j + 1, i, u, hi, he, hu => by
    unfold bestV
    by_cases hij : i = j
    · subst hij
      simp only [he]
      split
      · exact ⟨hu, bLess_irrefl _⟩
      · rename_i h5
        simp only [hu, Bool.true_and, Bool.or_eq_true, Bool.not_eq_true', decide_eq_true_eq, not_or, Bool.not_eq_false] at h5
        exact h5
    · have hr := bestV_max (show i < j by omega) he hu
      split
      · exact hr
      · rename_i w hw
        split
        · rename_i h5
          simp only [Bool.and_eq_true, Bool.or_eq_true, Bool.not_eq_true', decide_eq_true_eq] at h5
          refine ⟨h5.1, fun hl => ?_⟩
          rcases h5.2 with h6 | h6
          · rw [hr.1] at h6; cases h6
          · exact hr.2 (bLess_trans h6 hl)
        · exact hr
theorem Way.hears1 (w : Way n H G0 xs0 r G (x, o)) (hr : r < n) (ha : x.asks = some a) (hv : a.votes = false) (hk : k < n) (hS : Said G (up xs0 r x) x.slot k a.b v) : ∃ G', Way n H G0 xs0 r G' (hears1M a k v (x, o)) := by
  obtain ⟨a1, a2, a3, a4, a5⟩ := w.asks hr ha
  obtain ⟨s1, s2⟩ := w.self hr
  have hput : ∀ j u, putH a.heard k v j = some u → j < n ∧ Said G (up xs0 r x) x.slot j a.b u := fun j u hj => by
    unfold putH at hj
    split at hj
    · rename_i e; subst e; cases hj; exact ⟨hk, hS⟩
    · obtain ⟨h1, -, h2⟩ := a5 j u hj; exact ⟨h1, h2 hv⟩
  unfold hears1M
  split
  · refine ⟨G, w.quiet hr rfl rfl rfl (bLess_irrefl _) rfl (w.waits hr) (fun d hd => ?_) (.inr fun d hd hdv => ⟨a, ha, hv⟩)⟩
    cases hd
    exact ⟨a1, a2, a3, a4, fun j u hj => ⟨(hput j u hj).1, fun h => (by rw [hv] at h; cases h), fun _ => (hput j u hj).2⟩⟩
  · rename_i hm
    have hmaj : ∀ p : Nat → Prop, (∀ j u, putH a.heard k v j = some u → p j) → Maj n p := fun p hp => ⟨fun j => (putH a.heard k v j).isSome, fun j hj hs => by
      obtain ⟨u, hu⟩ := Option.isSome_iff_exists.1 hs
      exact hp j u hu, by
        simp only [cntH, maj, s2] at hm
        omega⟩
    have hmax : ∀ j u, putH a.heard k v j = some u → u.has = true → (bestV (putH a.heard k v) n).has = true ∧ ¬ bLess (bestV (putH a.heard k v) n).b u.b := fun j u hj hu => bestV_max (hput j u hj).1 hj hu
    have hmem : (bestV (putH a.heard k v) n).has = true → G.V x.slot (Classical.choose (hmaj (fun _ => True) fun _ _ _ => trivial).one) (bestV (putH a.heard k v) n).b (bestV (putH a.heard k v) n).c ∨ ∃ j, G.V x.slot j (bestV (putH a.heard k v) n).b (bestV (putH a.heard k v) n).c := fun h => by
      obtain ⟨i, -, h2⟩ := bestV_mem h
      exact .inr ⟨i, (hput i _ h2).2.2.1 h⟩
    have hmem : (bestV (putH a.heard k v) n).has = true → G.P x.slot (bestV (putH a.heard k v) n).b (bestV (putH a.heard k v) n).c := fun h => by
      obtain ⟨i, -, h2⟩ := bestV_mem h
      exact w.inv.vP _ _ _ _ ((hput i _ h2).2.2.1 h)
    have key : Safe n G (up xs0 r x) x.slot a.b (bestM x.n { a with heard := putH a.heard k v }) ∧ H (bestM x.n { a with heard := putH a.heard k v }) := by
      rw [s2]
      unfold bestM
      simp only
      generalize bestV (putH a.heard k v) n = B at hmax hmem ⊢
      cases hB : B.has with
      | false =>
        rw [if_neg (by simp)]
        refine ⟨fun b' hb' => hmaj _ fun j u hj => .inr ⟨(hput j u hj).2.1 b' hb', fun c' hc' => ?_⟩, a3⟩
        have h5 := ((hput j u hj).2.2.2 b' c' hb' hc').1
        have h6 := (hmax j u hj h5).1
        rw [hB] at h6
        cases h6
      | true =>
        rw [if_pos rfl]
        refine ⟨fun b' hb' => ?_, w.inv.pH _ _ _ (hmem hB)⟩
        rcases bLess_tri b' B.b with h5 | h5 | h5
        · exact w.inv.pSafe _ _ _ (hmem hB) b' h5
        · subst h5
          refine hmaj _ fun j u hj => ?_
          by_cases hc : G.V x.slot j B.b B.c
          · exact .inl hc
          · refine .inr ⟨(hput j u hj).2.1 _ hb', fun c' hc' => hc ?_⟩
            rw [w.inv.pUniq _ _ _ _ (hmem hB) (w.inv.vP _ _ _ _ hc')]
            exact hc'
        · refine hmaj _ fun j u hj => .inr ⟨(hput j u hj).2.1 _ hb', fun c' hc' => ?_⟩
          obtain ⟨h6, h7⟩ := (hput j u hj).2.2.2 b' c' hb' hc'
          exact not_less_trans (hmax j u hj h6).2 h7 h5
    generalize bestM x.n { a with heard := putH a.heard k v } = d at key ⊢
    have w1 : Way n H G0 xs0 r (G.addP x.slot a.b d) ({ x with asks := some ⟨a.b, true, d, noneH⟩ }, o) := w.to (by
      have h5 := Inv.addP (a := a) (c := d) w.inv hr (by rw [up_self]; exact ha) hv (by rw [up_self]; exact key.1) key.2
      rw [up_self] at h5
      exact h5)
    have hP1 : (G.addP x.slot a.b d).P x.slot a.b d := .inr ⟨rfl, rfl, rfl⟩
    generalize G.addP x.slot a.b d = G1 at w1 hP1
    have w2 : Way n H G0 xs0 r (G1.addV x.slot r a.b d) ({ x with vote := ⟨true, a.b, d⟩, asks := some ⟨a.b, true, d, noneH⟩ }, o) := w1.to (by
      have h5 := Inv.addV (b := a.b) (c := d) (X := { x with vote := ⟨true, a.b, d⟩, asks := some ⟨a.b, true, d, noneH⟩ }) w1.inv hr (by rw [up_self, a1]; exact bLess_irrefl _) (by rw [up_self]; exact hP1) (by rw [up_self]) (by rw [up_self]) (by rw [up_self]) a1.symm rfl (by rw [up_self]) (fun e he => by rw [up_self]; exact ⟨he, a1⟩)
      rw [up_self] at h5
      exact h5)
    have hP2 : (G1.addV x.slot r a.b d).P x.slot a.b d := hP1
    have hV2 : (G1.addV x.slot r a.b d).V x.slot r a.b d := .inr ⟨rfl, rfl, rfl, rfl⟩
    generalize G1.addV x.slot r a.b d = G2 at w2 hP2 hV2
    have w3 := w2.others hr noneH (m := mgc 4 x.slot a.b d) ⟨fun e => (by cases e), fun _ => hP2, fun e => (by cases e), fun e => (by cases e)⟩
    refine ⟨G2, ?_⟩
    exact w3.hears2 hr (k := x.self) (a := ⟨a.b, true, d, noneH⟩) rfl rfl (s1 ▸ hr) (by rw [s1]; exact hV2)
theorem Way.hears1s {q : Nat} (w : Way n H G0 xs0 r G (x, o)) (hr : r < n) (hkq : k = q) (ha : x.asks = some a) (hv : a.votes = false) (hk : q < n) (hS : Said G (up xs0 r x) x.slot q a.b v) : ∃ G', Way n H G0 xs0 r G' (hears1M a k v (x, o)) := by
  subst hkq
  exact w.hears1 hr ha hv hk hS
theorem Way.hears (w : Way n H G0 xs0 r G (x, o)) (hr : r < n) (ha : x.asks = some a) (hk : k < n) (hV : a.votes = true → G.V x.slot k a.b a.c) (hS : a.votes = false → Said G (up xs0 r x) x.slot k a.b v) : ∃ G', Way n H G0 xs0 r G' (hearsM a k v (x, o)) := by
  unfold hearsM
  cases hv : a.votes with
  | true => rw [if_pos rfl]; exact ⟨G, w.hears2 hr ha hv hk (hV hv)⟩
  | false => rw [if_neg (by simp)]; exact w.hears1 hr ha hv hk (hS hv)
theorem maxB_le (a b : Bal) : ¬ bLess (maxB a b) a := by
  unfold maxB
  split
  · rename_i h; exact fun h5 => bLess_irrefl _ (bLess_trans h h5)
  · exact bLess_irrefl _
theorem nextB_some {a b : Bal} {k : Int} (h : nextB a k = some b) : b.r = k ∧ bLess a b := by
  unfold nextB at h
  split at h
  · cases h
    rename_i h5
    exact ⟨rfl, .inr ⟨rfl, h5.2⟩⟩
  · split at h
    · cases h
    · cases h
      exact ⟨rfl, .inl (by simp)⟩
/-- What its own vote says. -/
theorem Way.said (w : Way n H G0 xs0 r G (x, o)) (hr : r < n) : Said G (up xs0 r x) x.slot r x.promise x.vote := by
  refine ⟨fun b' hb' => .inr ⟨by rw [up_self], by rw [up_self]; exact hb'⟩, fun hh => ?_, fun b' c' hb' hv => ?_⟩
  · have := w.inv.vote r hr (by rw [up_self]; exact hh)
    rw [up_self] at this
    exact this.1
  · have := w.inv.vR _ _ _ _ hv
    rw [up_self] at this
    simp only at this
    rcases this with h5 | h5
    · omega
    · exact h5.2
theorem Way.ask (w : Way n H G0 xs0 r G (x, o)) (hr : r < n) (hc : H c) : ∃ G', Way n H G0 xs0 r G' (askM c (x, o)) := by
  obtain ⟨s1, s2⟩ := w.self hr
  unfold askM
  simp only
  split
  · exact ⟨G, w.quiet hr rfl rfl rfl (bLess_irrefl _) rfl (w.waits hr) (fun d hd => by cases hd) (.inr fun d hd => by cases hd)⟩
  · rename_i b hb
    obtain ⟨b1, b2⟩ := nextB_some hb
    have b3 : bLess x.promise b := by
      rcases bLess_tri x.promise (maxB x.promise x.seen) with h5 | h5 | h5
      · exact bLess_trans h5 b2
      · rw [← h5] at b2; exact b2
      · exact absurd h5 (maxB_le _ _)
    have w1 : Way n H G0 xs0 r G ({ x with promise := b, asks := some ⟨b, false, c, noneH⟩ }, o) := w.quiet hr rfl rfl rfl (fun h5 => bLess_irrefl _ (bLess_trans b3 h5)) rfl (w.waits hr) (fun d hd => by
      cases hd
      exact ⟨rfl, by rw [b1, s1], hc, fun e => (by cases e), fun j u hj => by cases hj⟩) (.inl b3)
    have w2 := w1.others hr noneH (m := mg 1 x.slot b) (Good.other (by simp [mg, mgc]) (by simp [mg, mgc]) (by simp [mg, mgc]) (by simp [mg, mgc]))
    exact w2.hears1s hr s1 (a := ⟨b, false, c, noneH⟩) rfl rfl hr (w1.said hr)
theorem yields_asks (h : (yieldsM b x).asks = some a) : x.asks = some a ∧ ¬ bLess a.b b := by
  unfold yieldsM at h
  split at h
  · rename_i e; rw [e] at h; cases h
  · rename_i d e
    split at h
    · cases h
    · rename_i h5
      rw [e] at h
      cases h
      exact ⟨e, h5⟩
theorem yields_rest (b : Bal) (x : Sg) : (yieldsM b x).self = x.self ∧ (yieldsM b x).n = x.n ∧ (yieldsM b x).log = x.log ∧ (yieldsM b x).promise = x.promise ∧ (yieldsM b x).vote = x.vote ∧ (yieldsM b x).waits = x.waits := by
  unfold yieldsM
  split
  · exact ⟨rfl, rfl, rfl, rfl, rfl, rfl⟩
  · split <;> exact ⟨rfl, rfl, rfl, rfl, rfl, rfl⟩
theorem Way.bows (w : Way n H G0 xs0 r G (x, o)) (hr : r < n) (hs : m.slot = x.slot) (h0 : 0 ≤ f) (h1 : f < n) (h2 : f ≠ r) (hP : m.kind = 4 → G.P x.slot m.b m.cmd) : ∃ G', Way n H G0 xs0 r G' (bowsM f m (x, o)) := by
  unfold bowsM
  split
  · exact ⟨G, w.one (Good.other (by simp [mg, mgc]) (by simp [mg, mgc]) (by simp [mg, mgc]) (by simp [mg, mgc])) h0 h1 h2⟩
  · rename_i hb
    simp only at hb ⊢
    obtain ⟨y1, y2, y3, y4, y5, y6⟩ := yields_rest m.b { x with promise := m.b }
    have y7 : ∀ a, (yieldsM m.b { x with promise := m.b }).asks = some a → x.asks = some a ∧ m.b = x.promise := fun a ha => by
      obtain ⟨h5, h6⟩ := yields_asks ha
      obtain ⟨a1, -⟩ := w.asks hr h5
      refine ⟨h5, ?_⟩
      rcases bLess_tri m.b x.promise with h7 | h7 | h7
      · exact absurd h7 hb
      · exact h7
      · rw [← a1] at h7; exact absurd h7 h6
    generalize yieldsM m.b { x with promise := m.b } = y at y1 y2 y3 y4 y5 y6 y7 ⊢
    have ys : y.slot = x.slot := by unfold Sg.slot; rw [y3]
    split
    · rename_i h4
      have w1 : Way n H G0 xs0 r (G.addV x.slot r m.b m.cmd) ({ y with vote := ⟨true, m.b, m.cmd⟩ }, o) := w.to (by
        have h5 := Inv.addV (b := m.b) (c := m.cmd) (X := { y with vote := ⟨true, m.b, m.cmd⟩ }) w.inv hr (by rw [up_self]; exact hb) (by rw [up_self]; exact hP h4) (by rw [up_self]; exact y1) (by rw [up_self]; exact y2) (by rw [up_self]; exact y3) y4 rfl (by rw [up_self]; exact y6) (fun a ha => by rw [up_self]; exact y7 a ha)
        rw [up_self] at h5
        exact h5)
      refine ⟨_, w1.one ⟨fun e => (by cases e), fun e => (by cases e), fun _ => ⟨r, rfl, m.cmd, .inr ⟨?_, rfl, rfl, rfl⟩⟩, fun e => (by cases e)⟩ h0 h1 h2⟩
      exact hs
    · have w1 : Way n H G0 xs0 r G (y, o) := w.quiet hr y1 y2 y3 (by rw [y4]; exact hb) y5 (by rw [y6]; exact w.waits hr) (fun a ha => by
        obtain ⟨h5, h6⟩ := y7 a ha
        obtain ⟨a1, a2, a3, a4, a5⟩ := w.asks hr h5
        rw [y4]
        exact ⟨a1.trans h6.symm, a2, a3, a4, a5⟩) (.inr fun a ha hv => ⟨a, (y7 a ha).1, hv⟩)
      have h5 := w1.said hr
      rw [y4] at h5
      rw [ys, ← hs] at h5
      exact ⟨G, w1.one ⟨fun _ => ⟨r, rfl, h5⟩, fun e => (by cases e), fun e => (by cases e), fun e => (by cases e)⟩ h0 h1 h2⟩
theorem Way.act (w : Way n H G0 xs0 r G (x, o)) (hr : r < n) (hs : m.slot = x.slot) (hmay : mayT x f m) (hg : Good n G (up xs0 r x) f m) : ∃ G', Way n H G0 xs0 r G' (actM f m (x, o)) := by
  obtain ⟨s1, s2⟩ := w.self hr
  obtain ⟨m1, m2, m3, -⟩ := hmay
  rw [s2] at m2
  rw [s1] at m3
  obtain ⟨g2, g4, g5, g6⟩ := hg
  rw [hs] at g2 g4 g5 g6
  have answ : (m.kind = 2 ∨ m.kind = 5) → ∃ G', Way n H G0 xs0 r G' (answeredM f m (x, o)) := fun hk => by
    unfold answeredM
    simp only
    split
    · exact ⟨G, w⟩
    · rename_i a ha
      split
      · rename_i h5
        obtain ⟨h5, h6, -⟩ := h5
        obtain ⟨a1, a2, a3, a4, a5⟩ := w.asks hr ha
        refine w.hears hr ha (by omega) (fun hv => ?_) (fun hv => ?_)
        · rw [hv] at h6
          obtain ⟨q, hq, d, hd⟩ := g5 (by simpa using h6.symm)
          rw [← h5] at hd
          rw [show f.toNat = q by omega, w.inv.pUniq _ _ _ _ (a4 hv) (w.inv.vP _ _ _ _ hd)]
          exact hd
        · rw [hv] at h6
          have h7 : m.kind ≠ 5 := fun e => by simp [e] at h6
          obtain ⟨q, hq, hd⟩ := g2 (by omega)
          rw [show f.toNat = q by omega, h5]
          exact hd
      · exact ⟨G, w⟩
  unfold actM
  split
  · exact w.bows hr hs m1 m2 m3 fun e => g4 e
  · exact w.bows hr hs m1 m2 m3 fun e => g4 e
  · rename_i e; exact answ (.inl e)
  · rename_i e; exact answ (.inr e)
  · unfold refusedM
    obtain ⟨y1, y2, y3, y4, y5, y6⟩ := yields_rest m.b { x with seen := maxB x.seen m.b }
    refine ⟨G, w.quiet hr y1 y2 y3 (by rw [y4]; exact bLess_irrefl _) y5 (by rw [y6]; exact w.waits hr) (fun a ha => ?_) (.inr fun a ha hv => ⟨a, (yields_asks ha).1, hv⟩)⟩
    obtain ⟨h5, h6⟩ := yields_asks ha
    rw [y4]
    exact w.asks hr h5
  · rename_i e; exact ⟨G, w.know hr (g6 e)⟩
  · exact ⟨G, w⟩
theorem Way.take (h : Inv n H G xs0) (hr : r < n) (hg : Good n G xs0 f m) : ∃ G', Way n H G xs0 r G' (takeS f m (xs0 r)) := by
  have w : Way n H G xs0 r G (xs0 r, Ou.zero) := Way.start h r rfl
  obtain ⟨s1, s2⟩ := w.self hr
  unfold takeS
  split
  · exact ⟨G, w⟩
  · rename_i hmay
    have hmay : mayT (xs0 r) f m := Classical.not_not.1 hmay
    have m1 := hmay.1; have m2 := hmay.2.1; have m3 := hmay.2.2.1
    rw [s2] at m2
    rw [s1] at m3
    split
    · split
      · exact ⟨G, w⟩
      · exact ⟨G, w.one (Good.other (by simp [mg, mgc]) (by simp [mg, mgc]) (by simp [mg, mgc]) (by simp [mg, mgc])) m1 m2 m3⟩
    · split
      · rename_i hl
        split
        · rename_i h5
          refine ⟨G, w.one ⟨fun e => (by cases e), fun e => (by cases e), fun e => (by cases e), fun _ => ?_⟩ m1 m2 m3⟩
          have hlt : m.slot - 1 < (xs0 r).log.length := by unfold Sg.slot at hl; omega
          have := h.log r hr (m.slot - 1) ((xs0 r).log.getD (m.slot - 1) Cm.zero) (by rw [List.getD_eq_getElem?_getD, List.getElem?_eq_getElem hlt]; rfl)
          rw [show m.slot - 1 + 1 = m.slot by omega] at this
          have h6 : Chosen n G m.slot ((xs0 r).log.getD (m.slot - 1) Cm.zero) := this
          exact h6
        · exact ⟨G, w⟩
      · have hs : m.slot = (xs0 r).slot := by omega
        exact w.act hr hs hmay (by rw [up_id]; exact hg)
theorem Way.askAt {k : Int} (h : Inv n H G xs0) (hr : r < n) : ∃ G', Way n H G xs0 r G' (askAtM k (xs0 r)).1 := by
  have w : Way n H G xs0 r G (xs0 r, Ou.zero) := Way.start h r rfl
  unfold askAtM
  split
  · exact ⟨G, w⟩
  · rename_i c hc
    split at hc
    · cases hc
    · exact w.ask hr (h.waits r hr c (List.mem_of_getElem? hc))
theorem Way.tick (h : Inv n H G xs0) (hr : r < n) : Way n H G xs0 r G (tickM (xs0 r)) := by
  have w : Way n H G xs0 r G (xs0 r, Ou.zero) := Way.start h r rfl
  unfold tickM
  split
  · exact w
  · rename_i a ha
    obtain ⟨a1, a2, a3, a4, a5⟩ := w.asks hr ha
    cases hv : a.votes with
    | true => exact w.others hr a.heard ⟨fun e => (by cases e), fun _ => a4 hv, fun e => (by cases e), fun e => (by cases e)⟩
    | false => exact w.others hr a.heard (Good.other (by simp [mg, mgc]) (by simp [mg, mgc]) (by simp [mg, mgc]) (by simp [mg, mgc]))
theorem Way.submit (h : Inv n H G xs0) (hr : r < n) : Way n (fun d => H d ∨ (submitM c (xs0 r)).2 = 0 ∧ d = c) G xs0 r G ((submitM c (xs0 r)).1, Ou.zero) := by
  have w : Way n (fun d => H d ∨ (submitM c (xs0 r)).2 = 0 ∧ d = c) G xs0 r G (xs0 r, Ou.zero) := Way.start (h.mono fun d hd => .inl hd) r rfl
  have key : ∀ y : Sg × Nat, submitM c (xs0 r) = y → Way n (fun d => H d ∨ y.2 = 0 ∧ d = c) G xs0 r G (xs0 r, Ou.zero) → Way n (fun d => H d ∨ y.2 = 0 ∧ d = c) G xs0 r G (y.1, Ou.zero) := fun y hy w => by
    unfold submitM at hy
    split at hy
    · subst hy; exact w
    · split at hy
      · subst hy; exact w
      · subst hy
        refine w.quiet hr rfl rfl rfl (bLess_irrefl _) rfl (fun d hd => ?_) (fun a ha => w.asks hr ha) (.inr fun a ha hv => ⟨a, ha, hv⟩)
        simp only [List.mem_append, List.mem_singleton] at hd
        rcases hd with hd | hd
        · exact w.waits hr d hd
        · exact .inr ⟨rfl, hd⟩
  exact key _ rfl w
theorem Inv.zero (n : Nat) (H : Cm → Prop) : Inv n H ⟨fun _ _ _ _ => False, fun _ _ _ => False⟩ (fun r => sg0 r n) :=
  ⟨fun _ _ _ _ h => h.elim, fun _ _ _ h => h.elim, fun _ _ _ h => h.elim, fun _ _ _ h => h.elim, fun _ _ _ _ h => h.elim, fun _ _ _ _ h => h.elim, fun r _ => ⟨rfl, rfl⟩, fun r _ h => (by cases h), fun r _ i c h => (by simp [sg0] at h), fun r _ a h => (by cases h), fun r _ c h => (by simp [sg0] at h)⟩
end
end Go.Proofs.YtanjnhohfcgapaaGreatDoor.Sg
namespace Go.Proofs.YtanjnhohfcgapaaGreatDoor.Sg
open Go.Proofs.YtanjnhohfcgapaaGreatDoor.Cm Go.Proofs.YtanjnhohfcgapaaGreatDoor.Kv Go.Proofs.YtanjnhohfcgapaaGreatDoor.Tr
set_option linter.unusedVariables false
set_option linter.unusedSimpArgs false

/-- What an entry tells. -/
structure Tl where
  r : Int
  e : Int
  ans : List An
  done : List Cm
/-- A message under way: of whom, to whom, what. -/
abbrev Lt := Int × Se
structure Rc where
  n : Nat
  xs : Nat → Sg
  row : List Lt
def rc0 (n : Nat) : Rc := ⟨n, fun r => sg0 r n, []⟩
/-- One goes behind, where there is room. -/
def push1 (row : List Lt) (l : Lt) : List Lt := if row.length = 256 then row else row ++ [l]
def behindM (row : List Lt) (r : Int) (l : List Se) : List Lt := l.foldl (fun q s => push1 q (r, s)) row
def tellsM (x : Rc) (r : Nat) (s : SO) (e : Int) : Rc × Tl := (⟨x.n, up x.xs r s.1, behindM x.row r s.2.send⟩, ⟨r, e, s.2.ans, s.2.done⟩)
def noT (e : Int) : Tl := ⟨-1, e, [], []⟩
def ownM (x : Rc) (e : En) : Rc × Tl :=
  if e.r < 0 ∨ (x.n : Int) ≤ e.r then (x, noT 50)
  else if e.kind = 2 then tellsM x e.r.toNat (tickM (x.xs e.r.toNat)) 0
  else if e.kind = 3 then tellsM x e.r.toNat (askAtM e.k (x.xs e.r.toNat)).1 ((askAtM e.k (x.xs e.r.toNat)).2 : Nat)
  else (⟨x.n, up x.xs e.r.toNat (submitM e.cmd (x.xs e.r.toNat)).1, x.row⟩, ⟨e.r, ((submitM e.cmd (x.xs e.r.toNat)).2 : Nat), [], []⟩)
def letterM (x : Rc) (e : En) : Rc × Tl := match (if e.k < 0 then none else x.row[e.k.toNat]?) with
  | none => (x, noT 1)
  | some l =>
    if e.kind = 6 then if x.row.length = 256 then (x, noT 30) else (⟨x.n, x.xs, x.row ++ [l]⟩, noT 0)
    else if e.kind = 4 then tellsM ⟨x.n, x.xs, x.row.eraseIdx e.k.toNat⟩ l.2.1.toNat (takeS l.1 l.2.2 (x.xs l.2.1.toNat)) 0
    else if e.kind = 7 then (⟨x.n, x.xs, push1 (x.row.eraseIdx e.k.toNat) l⟩, noT 0)
    else (⟨x.n, x.xs, x.row.eraseIdx e.k.toNat⟩, noT 0)
def doR (x : Rc) (e : En) : Rc × Tl :=
  if e.kind = 1 ∨ e.kind = 2 ∨ e.kind = 3 then ownM x e
  else if e.kind = 4 ∨ e.kind = 5 ∨ e.kind = 6 ∨ e.kind = 7 then letterM x e
  else (x, noT 50)
/-- A script, from a state and what was told. -/
def runR : List En → Rc → List Tl → Rc × List Tl × Int
  | [], x, out => (x, out, 0)
  | e :: l, x, out => if (doR x e).2.e = 50 then ((doR x e).1, out, 50) else runR l (doR x e).1 (out ++ [(doR x e).2])
def runM (n : Int) (l : List En) : List Tl × Int := if n < 1 ∨ 7 < n then ([], 1) else (runR l (rc0 n.toNat) []).2

/-! ### what holds -/
/-- A letter that may be. -/
def LtOk (n : Nat) (G : Gt) (xs : Nat → Sg) (l : Lt) : Prop := Good n G xs l.1 l.2.2 ∧ 0 ≤ l.2.1 ∧ l.2.1 < n
structure RcOk (H : Cm → Prop) (x : Rc) : Prop where
  inv : ∃ G, Inv x.n H G x.xs ∧ ∀ l ∈ x.row, LtOk x.n G x.xs l
  len : x.row.length ≤ 256
section
variable {H : Cm → Prop} {x : Rc} {r : Nat} {l : Lt} {row : List Lt} {n : Nat} {G : Gt} {xs : Nat → Sg}
theorem push_len (h : row.length ≤ 256) (l : Lt) : (push1 row l).length ≤ 256 := by
  unfold push1
  split
  · exact h
  · simp only [List.length_append, List.length_singleton]; omega
theorem push_mem {k : Lt} (h : k ∈ push1 row l) : k ∈ row ∨ k = l := by
  unfold push1 at h
  split at h
  · exact .inl h
  · simpa using h
theorem behind_len (ss : List Se) : ∀ {row : List Lt} (r : Int), row.length ≤ 256 → (behindM row r ss).length ≤ 256 := by
  induction ss with
  | nil => exact fun r h => h
  | cons s ss ih => exact fun r h => ih r (push_len h _)
theorem behind_mem (ss : List Se) : ∀ {row : List Lt} (r : Int) {k : Lt}, k ∈ behindM row r ss → k ∈ row ∨ ∃ s ∈ ss, k = (r, s) := by
  induction ss with
  | nil => exact fun r k h => .inl h
  | cons s ss ih =>
    intro row r k h
    rcases ih r h with h5 | ⟨s', h5, h6⟩
    · rcases push_mem h5 with h7 | h7
      · exact .inl h7
      · exact .inr ⟨s, by simp, h7⟩
    · exact .inr ⟨s', by simp [h5], h6⟩
theorem RcOk.zero (H : Cm → Prop) (n : Nat) : RcOk H (rc0 n) := ⟨⟨_, Inv.zero n H, by simp [rc0]⟩, by simp [rc0]⟩
theorem RcOk.sub (h : RcOk H x) (hr : ∀ l ∈ row, l ∈ x.row) (hl : row.length ≤ 256) : RcOk H ⟨x.n, x.xs, row⟩ := by
  obtain ⟨G, h1, h2⟩ := h.inv
  exact ⟨⟨G, h1, fun l hl => h2 l (hr l hl)⟩, hl⟩
theorem RcOk.tells {s : SO} (e : Int) (hr : r < x.n) (hlen : x.row.length ≤ 256) (hrow : ∀ l ∈ x.row, LtOk x.n G x.xs l) (hw : ∃ G', Way x.n H G x.xs r G' s) : RcOk H (tellsM x r s e).1 := by
  obtain ⟨G', w⟩ := hw
  refine ⟨⟨G', w.inv, fun l hl => ?_⟩, behind_len _ _ hlen⟩
  rcases behind_mem _ _ hl with h5 | ⟨t, h5, h6⟩
  · obtain ⟨g1, g2⟩ := hrow l h5
    exact ⟨g1.le w.le, g2⟩
  · subst h6
    obtain ⟨g1, g2, g3, -⟩ := w.send t h5
    exact ⟨g1, g2, g3⟩
theorem RcOk.own {e : En} (h : RcOk H x) (hH : ∀ c, H c) : RcOk H (ownM x e).1 := by
  obtain ⟨G, h1, h2⟩ := h.inv
  unfold ownM
  split
  · exact h
  · have hr : e.r.toNat < x.n := by omega
    split
    · exact RcOk.tells 0 hr h.len h2 ⟨G, Way.tick h1 hr⟩
    · split
      · exact RcOk.tells _ hr h.len h2 (Way.askAt h1 hr)
      · have w := Way.submit (c := e.cmd) h1 hr
        refine ⟨⟨G, w.inv.mono fun c _ => hH c, fun l hl => ?_⟩, h.len⟩
        obtain ⟨g1, g2⟩ := h2 l hl
        exact ⟨g1.le w.le, g2⟩
theorem RcOk.letter {e : En} (h : RcOk H x) : RcOk H (letterM x e).1 := by
  obtain ⟨G, h1, h2⟩ := h.inv
  unfold letterM
  split
  · exact h
  · rename_i l hl
    have hm : l ∈ x.row := by
      split at hl
      · cases hl
      · exact List.mem_of_getElem? hl
    have her : ∀ q ∈ x.row.eraseIdx e.k.toNat, q ∈ x.row := fun q hq => List.mem_of_mem_eraseIdx hq
    have hel : (x.row.eraseIdx e.k.toNat).length ≤ 256 := Nat.le_trans (List.length_eraseIdx_le _ _) h.len
    obtain ⟨g1, g2, g3⟩ := h2 l hm
    have hr : l.2.1.toNat < x.n := by omega
    split
    · split
      · exact h
      · rename_i hne
        refine h.sub (fun q hq => ?_) (by have := h.len; simp only [List.length_append, List.length_singleton]; omega)
        rcases List.mem_append.1 hq with hq | hq
        · exact hq
        · rw [List.mem_singleton.1 hq]; exact hm
    · split
      · exact RcOk.tells (x := ⟨x.n, x.xs, x.row.eraseIdx e.k.toNat⟩) 0 hr hel (fun q hq => h2 q (her q hq)) (Way.take h1 hr g1)
      · split
        · refine h.sub (fun q hq => ?_) (push_len hel _)
          rcases push_mem hq with hq | hq
          · exact her q hq
          · rw [hq]; exact hm
        · exact h.sub her hel
theorem RcOk.do {e : En} (h : RcOk H x) (hH : ∀ c, H c) : RcOk H (doR x e).1 := by
  unfold doR
  split
  · exact h.own hH
  · split
    · exact h.letter
    · exact h
end
end Go.Proofs.YtanjnhohfcgapaaGreatDoor.Sg
namespace Go.Proofs.YtanjnhohfcgapaaGreatDoor.Sg
open Go.Proofs.YtanjnhohfcgapaaGreatDoor.Cm Go.Proofs.YtanjnhohfcgapaaGreatDoor.Kv Go.Proofs.YtanjnhohfcgapaaGreatDoor.Tr
set_option linter.unusedVariables false
set_option linter.unusedSimpArgs false

def putC (c : Nat) : Cm := ⟨c, 1, 1, [[107]], [], [118], 0⟩
def wkL : List En := [⟨1, 0, 0, putC 1⟩, ⟨3, 0, 0, Cm.zero⟩] ++ List.replicate 10 takeE ++ [takeE, ⟨9, 0, 0, Cm.zero⟩]
theorem wk_run : (runM 3 wkL).2 = 50 ∧ (runM 3 wkL).1.length = 13 := by
  constructor <;> kernel_rfl
theorem wk_shape : ((runM 3 wkL).1.map fun t => (t.done, t.ans.length, t.e)) = [([], 0, 0), ([], 0, 0), ([], 0, 0), ([], 0, 0), ([], 0, 0), ([], 0, 0), ([], 0, 0), ([], 0, 0), ([putC 1], 1, 0), ([], 0, 0), ([putC 1], 1, 0), ([putC 1], 1, 0), ([], 0, 1)] := by kernel_rfl
/-- What one told. -/
theorem wk_at {i : Nat} {t : Tl} (h : (runM 3 wkL).1[i]? = some t) : t.done.length ≤ 1 ∧ (∀ c ∈ t.done, c = putC 1) ∧ t.ans.length = t.done.length := by
  have h1 : ((runM 3 wkL).1.map fun t => (t.done, t.ans.length, t.e))[i]? = some (t.done, t.ans.length, t.e) := by rw [List.getElem?_map, h]; rfl
  rw [wk_shape] at h1
  have h2 := List.mem_of_getElem? h1
  have key : ∀ x ∈ [(([] : List Cm), 0, (0 : Int)), ([], 0, 0), ([], 0, 0), ([], 0, 0), ([], 0, 0), ([], 0, 0), ([], 0, 0), ([], 0, 0), ([putC 1], 1, 0), ([], 0, 0), ([putC 1], 1, 0), ([putC 1], 1, 0), ([], 0, 1)], x.1.length ≤ 1 ∧ (∀ c ∈ x.1, c = putC 1) ∧ x.2.1 = x.1.length := by decide
  exact key _ h2
def wkN (i : Nat) : Nat := (((runM 3 wkL).1.take i).map fun t => t.done.length).sum
theorem wkN_zero : wkN 0 = 0 := rfl
theorem wkN_succ {i : Nat} {t : Tl} (h : (runM 3 wkL).1[i]? = some t) : wkN (i + 1) = wkN i + t.done.length := by
  obtain ⟨hi, he⟩ := List.getElem?_eq_some_iff.1 h
  unfold wkN
  rw [List.take_succ_eq_append_getElem hi, he, List.map_append, List.sum_append]
  simp
theorem wkN_le (i : Nat) : wkN i ≤ i := by
  induction i with
  | zero => exact Nat.le_refl _
  | succ i ih =>
    cases h : (runM 3 wkL).1[i]? with
    | none =>
      have hl := List.getElem?_eq_none_iff.1 h
      unfold wkN at ih ⊢
      rw [List.take_of_length_le (by omega)] at ih ⊢
      omega
    | some t => rw [wkN_succ h]; have := (wk_at h).1; omega
theorem wkN_end : wkN 13 = 3 := by kernel_rfl
theorem wk_ends : ((runM 3 wkL).1[12]?.map (·.e)) = some 1 ∧ ((runM 3 wkL).1[11]?.map (·.e)) = some 0 := by
  constructor <;> kernel_rfl
theorem wkL_eq : [(⟨1, 0, 0, putC 1⟩ : En), ⟨3, 0, 0, Cm.zero⟩] ++ List.replicate 10 takeE ++ [takeE, ⟨9, 0, 0, Cm.zero⟩] = wkL := rfl
end Go.Proofs.YtanjnhohfcgapaaGreatDoor.Sg
