/- SgK, SgR in one text. -/
import Derived.Test.YtanjnhohfcgapaaGreatDoorPureAll
import Derived.Test.YtanjnhohfcgapaaGreatDoorLawAll
import Derived.Test.YtanjnhohfcgapaaGreatDoorKvT
import Derived.Test.YtanjnhohfcgapaaGreatDoorGenAll
set_option linter.unusedSimpArgs false
set_option linter.unusedVariables false
set_option linter.unnecessarySimpa false
namespace Go.Proofs.YtanjnhohfcgapaaGreatDoor.Sg
open Go.RowKit Go.Proofs.YtanjnhohfcgapaaGreatDoor.Crc Go.Proofs.YtanjnhohfcgapaaGreatDoor.Cm Go.Proofs.YtanjnhohfcgapaaGreatDoor.Tr Go.Proofs.YtanjnhohfcgapaaGreatDoor.Kv Go.Proofs.YtanjnhohfcgapaaGreatDoor.Au
set_option linter.unusedSimpArgs false
set_option linter.unusedVariables false

abbrev TSg : TypeId := 134
abbrev TAk : TypeId := 140
abbrev TSe : TypeId := 127
abbrev TAn : TypeId := 117

/-! ### rows that no one writes -/
/-- A command's keys at ks. -/
def Ky (w : World) (T : Nat → Prop) (ks : Value) (c : Cm) : Prop := c.Fits ∧ Strs w T ks c.keys
section
variable {w w' : World} {T U : Nat → Prop} {ks v : Value} {c : Cm}
theorem Ky.mono (h : Ky w T ks c) (hT : ∀ k, T k → U k) : Ky w U ks c := ⟨h.1, h.2.mono hT⟩
theorem Ky.upd {S : List Nat} (h : Ky w T ks c) (hu : Upd S w w') (hS : ∀ k ∈ S, ¬ T k) : Ky w' T ks c := ⟨h.1, h.2.upd hu hS⟩
theorem Ky.zero (w : World) (T : Nat → Prop) : Ky w T (.slice none 0 0) Cm.zero := ⟨zero_fits, Strs.nil _ _⟩
theorem Ky.at (h : Ky w T ks c) : CmAt w T (cmv c ks) c := ⟨h.1, ks, rfl, h.2⟩
theorem Ky.of (h : CmAt w T v c) : ∃ ks, v = cmv c ks ∧ Ky w T ks c := by
  obtain ⟨h1, ks, e, h2⟩ := h
  exact ⟨ks, e, h1, h2⟩
theorem Ky.slice (h : Ky w T ks c) : ∃ xo cp, ks = .slice xo c.keys.length cp := by
  obtain ⟨xo, cp, e, -⟩ := h.2.get
  exact ⟨xo, cp, e⟩
end
/-- A vote's value. -/
def vtv (v : Vt) (ks : Value) : Value := .agg #[.bool v.has, .int .u64 (v.b.n : Int), .int .i64 v.b.r, .int .u32 (v.c.client : Int), .int .u32 (v.c.seq : Int), .int .u8 (v.c.kind : Int), ks, strV v.c.old, strV v.c.new, .int .i64 v.c.n]
/-- What was heard, in memory. -/
def HmAt (w : World) (T : Nat → Prop) (g : Nat) (f : Nat → Option Vt) : Prop :=
  ∃ F : Nat → Option Value, NIs (numF 3 .i64 Tryz.underlying3) w g F ∧ ∀ k, (f k = none → F k = none) ∧ ∀ v, f k = some v → ∃ ks, F k = some (vtv v ks) ∧ Ky w T ks v.c
/-- A message's value. -/
def mgv (m : Mg) (ks : Value) : Value := .agg #[.int .u8 (m.kind : Int), .int .u64 (m.slot : Int), .int .u64 (m.b.n : Int), .int .i64 m.b.r, .bool m.has, .int .u64 (m.vote.n : Int), .int .i64 m.vote.r, .int .u32 (m.cmd.client : Int), .int .u32 (m.cmd.seq : Int), .int .u8 (m.cmd.kind : Int), ks, strV m.cmd.old, strV m.cmd.new, .int .i64 m.cmd.n]
/-- Numbers of a message as they may be; keys that are not beyond all measure. -/
def Mg.Ok (m : Mg) : Prop := m.kind < 256 ∧ m.slot < 18446744073709551616 ∧ m.b.n < 18446744073709551616 ∧ m.vote.n < 18446744073709551616 ∧ m.cmd.keys.length ≤ 1000000
def sec (s : Se) (ks : Value) : List Value := [.int .i64 s.1, .int .u8 (s.2.kind : Int), .int .u64 (s.2.slot : Int), .int .u64 (s.2.b.n : Int), .int .i64 s.2.b.r, .bool s.2.has, .int .u64 (s.2.vote.n : Int), .int .i64 s.2.vote.r, .int .u32 (s.2.cmd.client : Int), .int .u32 (s.2.cmd.seq : Int), .int .u8 (s.2.cmd.kind : Int), ks, strV s.2.cmd.old, strV s.2.cmd.new, .int .i64 s.2.cmd.n]
/-- What is sent, in memory. -/
def seK : Kind Se where
  z := 15
  hz := by decide
  holds w T s cs := s.2.Ok ∧ ∃ ks, cs = sec s ks ∧ Ky w T ks s.2.cmd
  len := by rintro w T c cs ⟨-, ks, rfl, -⟩; rfl
  one := by
    rintro w T c cs ⟨-, ks, rfl, h⟩
    obtain ⟨xo, cp, rfl⟩ := h.slice
    simp [sec, strV, Value.oneCell']
  upd := by rintro w w' T c cs S ⟨h1, ks, e, h⟩ hu hS; exact ⟨h1, ks, e, h.upd hu hS⟩
  mono := by rintro w T U c cs ⟨h1, ks, e, h⟩ hT; exact ⟨h1, ks, e, h.mono hT⟩

/-! ### how the blocks grow -/
/-- From a world to a later one: what was written lies in M, or is new; T and M grow by what is new. -/
structure Ext (w : World) (T M : Nat → Prop) (w' : World) (T' M' : Nat → Prop) : Prop where
  upd : ∃ S : List Nat, (∀ k ∈ S, M k) ∧ Upd S w w'
  keep : ∀ k, T k → T' k
  newT : ∀ k, T' k → T k ∨ w.heap.size ≤ k
  newM : ∀ k, M' k → M k ∨ w.heap.size ≤ k
/-- T and M lie apart, in the world. -/
structure Apt (w : World) (T M : Nat → Prop) : Prop where
  apart : ∀ k, T k → ¬ M k
  ltT : ∀ k, T k → k < w.heap.size
  ltM : ∀ k, M k → k < w.heap.size
section
variable {w w' w2 : World} {T M T' M' T2 M2 : Nat → Prop}
theorem Ext.refl (w : World) (T M : Nat → Prop) : Ext w T M w T M := ⟨⟨[], by simp, Upd.refl _ _⟩, fun _ h => h, fun _ h => .inl h, fun _ h => .inl h⟩
theorem Ext.size (h : Ext w T M w' T' M') : w.heap.size ≤ w'.heap.size := by
  obtain ⟨S, -, hu⟩ := h.upd
  exact hu.size
theorem Ext.trans (h : Ext w T M w' T' M') (k : Ext w' T' M' w2 T2 M2) : Ext w T M w2 T2 M2 := by
  obtain ⟨S, h1, hu⟩ := h.upd
  obtain ⟨R, k1, ku⟩ := k.upd
  have hz := hu.size
  refine ⟨⟨S ++ R.filter fun k => decide (k < w.heap.size), fun k hk => ?_, ?_⟩, fun j hj => k.keep j (h.keep j hj), fun j hj => ?_, fun j hj => ?_⟩
  · rcases List.mem_append.1 hk with hk | hk
    · exact h1 k hk
    · obtain ⟨hk, hl⟩ := List.mem_filter.1 hk
      have hl : k < w.heap.size := by simpa using hl
      rcases h.newM k (k1 k hk) with h5 | h5
      · exact h5
      · omega
  · refine (hu.mono (by simp +contextual)).trans_new ku fun k hk => ?_
    by_cases hl : k < w.heap.size
    · exact .inl (List.mem_append.2 (.inr (List.mem_filter.2 ⟨hk, by simpa using hl⟩)))
    · exact .inr (by omega)
  · rcases k.newT j hj with h5 | h5
    · exact h.newT j h5
    · exact .inr (by omega)
  · rcases k.newM j hj with h5 | h5
    · exact h.newM j h5
    · exact .inr (by omega)
/-- .. and on, by what writes M's blocks, or such as were made on the way. -/
theorem Ext.on {S : List Nat} (h : Ext w T M w' T' M') (hu : Upd S w' w2) (hS : ∀ k ∈ S, M' k ∨ w.heap.size ≤ k) : Ext w T M w2 T' M' := by
  obtain ⟨R, h1, hr⟩ := h.upd
  refine ⟨⟨R ++ S.filter fun k => decide (k < w.heap.size), fun k hk => ?_, ?_⟩, h.keep, h.newT, h.newM⟩
  · rcases List.mem_append.1 hk with hk | hk
    · exact h1 k hk
    · obtain ⟨hk, hl⟩ := List.mem_filter.1 hk
      have hl : k < w.heap.size := by simpa using hl
      rcases hS k hk with h5 | h5
      · rcases h.newM k h5 with h6 | h6
        · exact h6
        · omega
      · omega
  · refine (hr.mono (by simp +contextual)).trans_new hu fun k hk => ?_
    by_cases hl : k < w.heap.size
    · exact .inl (List.mem_append.2 (.inr (List.mem_filter.2 ⟨hk, by simpa using hl⟩)))
    · exact .inr (by omega)
/-- A step that only makes. -/
theorem Ext.of_nil (h : Upd [] w w') (T M : Nat → Prop) : Ext w T M w' T M := ⟨⟨[], by simp, h⟩, fun _ h => h, fun _ h => .inl h, fun _ h => .inl h⟩
/-- T with all that is new. -/
def fresh (w w' : World) (T : Nat → Prop) (k : Nat) : Prop := T k ∨ since w.heap.size w' k
theorem Ext.fresh (h : Upd [] w w') (T M : Nat → Prop) : Ext w T M w' (fresh w w' T) M := ⟨⟨[], by simp, h⟩, fun _ h => .inl h, fun k h => h.imp id (fun h => h.1), fun _ h => .inl h⟩
theorem Apt.fresh (h : Apt w T M) (hu : Upd [] w w') : Apt w' (Sg.fresh w w' T) M := by
  have hz := hu.size
  refine ⟨fun k hk hm => ?_, fun k hk => ?_, fun k hk => by have := h.ltM k hk; omega⟩
  · rcases hk with hk | hk
    · exact h.apart k hk hm
    · have := h.ltM k hm; have := hk.1; omega
  · rcases hk with hk | hk
    · have := h.ltT k hk; omega
    · exact hk.2
theorem Apt.size (h : Apt w T M) (hz : w.heap.size ≤ w'.heap.size) : Apt w' T M := ⟨h.apart, fun k hk => by have := h.ltT k hk; omega, fun k hk => by have := h.ltM k hk; omega⟩
/-- M and a new block. -/
def plus (M : Nat → Prop) (o : Option Nat) (k : Nat) : Prop := M k ∨ o = some k
theorem Ext.plus (h : Ext w T M w' T' M') {o : Option Nat} (ho : ∀ k, o = some k → M' k ∨ w.heap.size ≤ k) : Ext w T M w' T' (plus M' o) :=
  ⟨h.upd, h.keep, h.newT, fun k hk => by
    rcases hk with hk | hk
    · exact h.newM k hk
    · rcases ho k hk with h5 | h5
      · exact h.newM k h5
      · exact .inr h5⟩
theorem Apt.plus (h : Apt w T M) (hz : w.heap.size ≤ w'.heap.size) {o : Option Nat} (ho : ∀ k, o = some k → M k ∨ w.heap.size ≤ k ∧ k < w'.heap.size) : Apt w' T (plus M o) := by
  refine ⟨fun k hk hm => ?_, fun k hk => by have := h.ltT k hk; omega, fun k hk => ?_⟩
  · rcases hm with hm | hm
    · exact h.apart k hk hm
    · rcases ho k hm with h5 | h5
      · exact h.apart k hk h5
      · have := h.ltT k hk; omega
  · rcases hk with hk | hk
    · have := h.ltM k hk; omega
    · rcases ho k hk with h5 | h5
      · have := h.ltM k h5; omega
      · exact h5.2
theorem Apt.new (h : Apt w T M) {k : Nat} (hk : w.heap.size ≤ k) : ¬ M k ∧ ¬ T k := ⟨fun h1 => by have := h.ltM k h1; omega, fun h1 => by have := h.ltT k h1; omega⟩
theorem Ext.not (h : Ext w T M w' T' M') {k : Nat} (hk : k < w.heap.size) (hn : ¬ M k ∧ ¬ T k) : ¬ M' k ∧ ¬ T' k :=
  ⟨fun h1 => by rcases h.newM k h1 with h2 | h2; exact hn.1 h2; omega, fun h1 => by rcases h.newT k h1 with h2 | h2; exact hn.2 h2; omega⟩
theorem Ext.strs {v : Value} {l : List (List UInt8)} (h : Ext w T M w' T' M') (ha : ∀ k, T k → ¬ M k) (hs : Strs w T v l) : Strs w' T' v l := by
  obtain ⟨S, h1, hu⟩ := h.upd
  exact (hs.upd hu fun k hk ht => ha k ht (h1 k hk)).mono h.keep
theorem Ext.ky {v : Value} {c : Cm} (h : Ext w T M w' T' M') (ha : ∀ k, T k → ¬ M k) (hs : Ky w T v c) : Ky w' T' v c := ⟨hs.1, h.strs ha hs.2⟩
theorem Ext.row {X : Type} {K : Kind X} {v : Value} {l : List X} (h : Ext w T M w' T' M') (ha : ∀ k, T k → ¬ M k) (hs : K.row w T v l) : K.row w' T' v l := by
  obtain ⟨S, h1, hu⟩ := h.upd
  exact K.row_mono (K.row_upd hs hu fun k hk ht => ha k ht (h1 k hk)) h.keep
theorem Ext.get {b : Nat} {o : Obj} (h : Ext w T M w' T' M') (hb : w.heap[b]? = some o) (hn : ¬ M b) : w'.heap[b]? = some o := by
  obtain ⟨S, h1, hu⟩ := h.upd
  exact hu.get hb fun hk => hn (h1 _ hk)
theorem Ext.env (h : Ext w T M w' T' M') (he : EnvAt w) (hn : ∀ k ∈ [0, 1, 2, 3], ¬ M k) : EnvAt w' := by
  obtain ⟨S, h1, hu⟩ := h.upd
  have key : ∀ k ∈ [0, 1, 2, 3], k ∉ S := fun k hk hS => hn k hk (h1 k hS)
  exact he.upd hu (key _ (by simp)) (key _ (by simp)) (key _ (by simp)) (key _ (by simp))
end

/-! ### named blocks -/
/-- Blocks with names: no two are one; all are M's, none is the application's. -/
structure Nm (w : World) (M : Nat → Prop) (lo hi : Nat) (B : List (Option Nat)) : Prop where
  one : ∀ i j k : Nat, B[i]? = some (some k) → B[j]? = some (some k) → i = j
  inM : ∀ i k : Nat, B[i]? = some (some k) → M k ∧ k < w.heap.size ∧ (k < lo ∨ hi ≤ k)
section
variable {w w' : World} {M M' : Nat → Prop} {lo hi : Nat} {B : List (Option Nat)}
theorem Nm.set (h : Nm w M lo hi B) {i : Nat} {o : Option Nat} (hz : w.heap.size ≤ w'.heap.size) (hM : ∀ k, M k → M' k) (hh : hi ≤ w.heap.size)
    (ho : ∀ k, o = some k → B[i]? = some (some k) ∨ (w.heap.size ≤ k ∧ k < w'.heap.size ∧ M' k)) : Nm w' M' lo hi (B.set i o) := by
  have key : ∀ a k, (B.set i o)[a]? = some (some k) → (a = i ∧ w.heap.size ≤ k ∧ k < w'.heap.size ∧ M' k) ∨ B[a]? = some (some k) := by
    intro a k ha
    rw [List.getElem?_set] at ha
    split at ha
    · rename_i e
      subst e
      split at ha
      · simp only [Option.some.injEq] at ha
        rcases ho k ha with h5 | h5
        · exact .inr h5
        · exact .inl ⟨rfl, h5⟩
      · cases ha
    · exact .inr ha
  refine ⟨fun a b k ha hb => ?_, fun a k ha => ?_⟩
  · rcases key a k ha with h1 | h1 <;> rcases key b k hb with h2 | h2
    · rw [h1.1, h2.1]
    · have := (h.inM b k h2).2.1; omega
    · have := (h.inM a k h1).2.1; omega
    · exact h.one a b k h1 h2
  · rcases key a k ha with h1 | h1
    · exact ⟨h1.2.2.2, h1.2.2.1, .inr (by omega)⟩
    · obtain ⟨h2, h3, h4⟩ := h.inM a k h1
      exact ⟨hM k h2, by omega, h4⟩
theorem Nm.later (h : Nm w M lo hi B) (hz : w.heap.size ≤ w'.heap.size) (hM : ∀ k, M k → M' k) : Nm w' M' lo hi B :=
  ⟨h.one, fun i k hk => by obtain ⟨h1, h2, h3⟩ := h.inM i k hk; exact ⟨hM k h1, by omega, h3⟩⟩
/-- Two names, two blocks. -/
theorem Nm.ne (h : Nm w M lo hi B) {i j a b : Nat} (ha : B[i]? = some (some a)) (hb : B[j]? = some (some b)) (hij : i ≠ j) : a ≠ b := by
  rintro rfl
  exact hij (h.one _ _ _ ha hb)
end

/-! ### the replica -/
/-- Where its things lie. -/
structure Gh where
  lo : Nat
  hi : Nat
  ap : Nat
  lv : Value
  ks : Value
  wv : Value
  akv : Value
  sv : Value
  av : Value
  dv : Value
  ab : Option Nat
  gb : Option Nat
def sgc (x : Sg) (G : Gh) : Array Value := #[.int .i64 (x.self : Int), .int .i64 (x.n : Int), G.lv, .pointer (some ⟨G.ap, 0, none⟩), .int .u64 (x.promise.n : Int), .int .i64 x.promise.r, .int .u64 (x.seen.n : Int), .int .i64 x.seen.r,
  .bool x.vote.has, .int .u64 (x.vote.b.n : Int), .int .i64 x.vote.b.r, .int .u32 (x.vote.c.client : Int), .int .u32 (x.vote.c.seq : Int), .int .u8 (x.vote.c.kind : Int), G.ks, strV x.vote.c.old, strV x.vote.c.new, .int .i64 x.vote.c.n, G.wv, G.akv, G.sv, G.av, G.dv]
def akc (a : Ak) (g : Nat) (ks : Value) : Array Value := #[.int .u64 (a.b.n : Int), .int .i64 a.b.r, .bool a.votes, .int .u32 (a.c.client : Int), .int .u32 (a.c.seq : Int), .int .u8 (a.c.kind : Int), ks, strV a.c.old, strV a.c.new, .int .i64 a.c.n, .map (some g)]
/-- What it asks for. -/
def AkIs (w : World) (T : Nat → Prop) (G : Gh) : Option Ak → Prop
  | none => G.akv = .pointer none ∧ G.ab = none ∧ G.gb = none
  | some a => ∃ b g ks, G.akv = .pointer (some ⟨b, 0, none⟩) ∧ G.ab = some b ∧ G.gb = some g ∧ w.heap[b]? = some (.cells (akc a g ks) TAk (0, 0)) ∧ HmAt w T g a.heard ∧ Ky w T ks a.c
def Gh.names (G : Gh) (p : Nat) : List (Option Nat) := [some p, G.lv.ownBlock, G.wv.ownBlock, G.sv.ownBlock, G.av.ownBlock, G.dv.ownBlock, G.ab, G.gb]
/-- All but the replica's own block. -/
structure Rs (w : World) (T M : Nat → Prop) (z p : Nat) (log waits : List Cm) (app : Ap) (vote : Cm) (asks : Option Ak) (o : Ou) (G : Gh) : Prop where
  log : Own w 0 Cm.TCmd 7 (cmK.holds w T) G.lv log
  waits : Own w 0 Cm.TCmd 7 (cmK.holds w T) G.wv waits
  send : Own w z TSe 15 (seK.holds w T) G.sv o.send
  ans : Own w z TAn 4 (anK.holds w T) G.av o.ans
  done : Own w z Cm.TCmd 7 (cmK.holds w T) G.dv o.done
  app : ApIs w G.lo G.hi G.ap app
  appM : ∀ k, G.lo ≤ k → k < G.hi → M k
  hi : G.hi ≤ w.heap.size
  vote : Ky w T G.ks vote
  asks : AkIs w T G asks
  nm : Nm w M G.lo G.hi (G.names p)
  apt : Apt w T M
def XAt (w : World) (T M : Nat → Prop) (z p : Nat) (x : Sg) (o : Ou) (G : Gh) : Prop := w.heap[p]? = some (.cells (sgc x G) TSg (0, 0)) ∧ Rs w T M z p x.log x.waits x.app x.vote.c x.asks o G
section
variable {w w' : World} {T M T' M' : Nat → Prop} {z p : Nat} {log waits : List Cm} {app : Ap} {vote : Cm} {asks : Option Ak} {o : Ou} {G : Gh}
theorem Rs.pM (h : Rs w T M z p log waits app vote asks o G) : M p := (h.nm.inM 0 p rfl).1
theorem HmAt.upd {S : List Nat} {g : Nat} {f : Nat → Option Vt} (h : HmAt w T g f) (hu : Upd S w w') (hg : g ∉ S) (hS : ∀ k ∈ S, ¬ T k) : HmAt w' T g f := by
  obtain ⟨F, h1, h2⟩ := h
  exact ⟨F, h1.upd hu hg, fun k => ⟨(h2 k).1, fun v hv => by obtain ⟨ks, h3, h4⟩ := (h2 k).2 v hv; exact ⟨ks, h3, h4.upd hu hS⟩⟩⟩
theorem HmAt.mono {g : Nat} {f : Nat → Option Vt} (h : HmAt w T g f) (hT : ∀ k, T k → T' k) : HmAt w T' g f := by
  obtain ⟨F, h1, h2⟩ := h
  exact ⟨F, h1, fun k => ⟨(h2 k).1, fun v hv => by obtain ⟨ks, h3, h4⟩ := (h2 k).2 v hv; exact ⟨ks, h3, h4.mono hT⟩⟩⟩
theorem AkIs.upd {S : List Nat} (h : AkIs w T G asks) (hu : Upd S w w') (ha : ∀ k, G.ab = some k → k ∉ S) (hg : ∀ k, G.gb = some k → k ∉ S) (hS : ∀ k ∈ S, ¬ T k) : AkIs w' T G asks := by
  cases asks with
  | none => exact h
  | some a =>
    obtain ⟨b, g, ks, h1, h2, h3, h4, h5, h6⟩ := h
    exact ⟨b, g, ks, h1, h2, h3, hu.get h4 (ha b h2), h5.upd hu (hg g h3) hS, h6.upd hu hS⟩
theorem AkIs.mono (h : AkIs w T G asks) (hT : ∀ k, T k → T' k) : AkIs w T' G asks := by
  cases asks with
  | none => exact h
  | some a =>
    obtain ⟨b, g, ks, h1, h2, h3, h4, h5, h6⟩ := h
    exact ⟨b, g, ks, h1, h2, h3, h4, h5.mono hT, h6.mono hT⟩
theorem apIs_upd {S : List Nat} {lo hi a : Nat} (h : ApIs w lo hi a app) (hu : Upd S w w') (hS : ∀ k ∈ S, k < lo ∨ hi ≤ k) : ApIs w' lo hi a app := by
  obtain ⟨sb, sg, tb, tc, tg, h, h1, h2, h3, h4, h5, h6, h7, h8, h9, h10, h11, h12⟩ := h
  have key : ∀ k, lo ≤ k → k < hi → k ∉ S := fun k q1 q2 hk => by have := hS k hk; omega
  exact ⟨sb, sg, tb, tc, tg, h.upd hu (key _ h1 h2) (key _ h3 h4) (key _ h5 h6) (key _ h7 h8) (key _ h9 h10) (key _ h11 h12), h1, h2, h3, h4, h5, h6, h7, h8, h9, h10, h11, h12⟩
theorem own_keep {X : Type} {K : Kind X} {S : List Nat} {b : Nat} {ty : TypeId} {v : Value} {l : List X} (ho : Own w b ty K.z (K.holds w T) v l) (hu : Upd S w w') (hv : ∀ k, v.ownBlock = some k → k ∉ S) (hT : ∀ k ∈ S, ¬ T k) (hTT : ∀ k, T k → T' k) : Own w' b ty K.z (K.holds w' T') v l :=
  Own.upd ho hu hv fun x cs _ hx => K.mono (K.upd hx hu hT) hTT
/-- What is left as it was, where only the blocks named I, the application (8), and new ones are written. -/
structure Left (w : World) (T : Nat → Prop) (z : Nat) (log waits : List Cm) (app : Ap) (vote : Cm) (asks : Option Ak) (o : Ou) (G : Gh) (I : List Nat) : Prop where
  log : 1 ∉ I → Own w 0 Cm.TCmd 7 (cmK.holds w T) G.lv log
  waits : 2 ∉ I → Own w 0 Cm.TCmd 7 (cmK.holds w T) G.wv waits
  send : 3 ∉ I → Own w z TSe 15 (seK.holds w T) G.sv o.send
  ans : 4 ∉ I → Own w z TAn 4 (anK.holds w T) G.av o.ans
  done : 5 ∉ I → Own w z Cm.TCmd 7 (cmK.holds w T) G.dv o.done
  asks : 6 ∉ I ∧ 7 ∉ I → AkIs w T G asks
  app : 8 ∉ I → ApIs w G.lo G.hi G.ap app
  vote : Ky w T G.ks vote
theorem Rs.left {S : List Nat} (h : Rs w T M z p log waits app vote asks o G) (hu : Upd S w w') (I : List Nat)
    (hS : ∀ k ∈ S, (∃ i ∈ I, (G.names p)[i]? = some (some k)) ∨ (8 ∈ I ∧ G.lo ≤ k ∧ k < G.hi) ∨ (¬ M k ∧ ¬ T k)) (hTT : ∀ k, T k → T' k) : Left w' T' z log waits app vote asks o G I := by
  have hz := hu.size
  have hT : ∀ k ∈ S, ¬ T k := fun k hk ht => by
    rcases hS k hk with ⟨i, -, h5⟩ | h5 | h5
    · exact h.apt.apart k ht (h.nm.inM i k h5).1
    · exact h.apt.apart k ht (h.appM k h5.2.1 h5.2.2)
    · exact h5.2 ht
  have hn : ∀ i k, i ∉ I → (G.names p)[i]? = some (some k) → k ∉ S := fun i k hi hk hm => by
    have hk' := h.nm.inM i k hk
    rcases hS k hm with ⟨j, h4, h5⟩ | h5 | h5
    · exact hi (h.nm.one i j k hk h5 ▸ h4)
    · omega
    · exact h5.1 hk'.1
  have own : ∀ {X : Type} {K : Kind X} {b : Nat} {ty : TypeId} {v : Value} {l : List X} (i : Nat), i ∉ I → (G.names p)[i]? = some v.ownBlock → Own w b ty K.z (K.holds w T) v l → Own w' b ty K.z (K.holds w' T') v l := fun {X K b ty v l} i hi hv ho =>
    own_keep ho hu (fun k hk => hn i k hi (by rw [hv, hk])) hT hTT
  exact ⟨fun hi => own 1 hi rfl h.log, fun hi => own 2 hi rfl h.waits, fun hi => own (K := seK) 3 hi rfl h.send, fun hi => own (K := anK) 4 hi rfl h.ans, fun hi => own 5 hi rfl h.done,
    fun hi => (h.asks.upd hu (fun k hk => hn 6 k hi.1 (congrArg some hk)) (fun k hk => hn 7 k hi.2 (congrArg some hk)) hT).mono hTT,
    fun hi => apIs_upd h.app hu (fun k hk => by
      rcases hS k hk with ⟨i, -, h5⟩ | h5 | h5
      · exact (h.nm.inM i k h5).2.2
      · exact absurd h5.1 hi
      · by_cases h6 : G.lo ≤ k ∧ k < G.hi
        · exact absurd (h.appM k h6.1 h6.2) h5.1
        · omega), (h.vote.upd hu hT).mono hTT⟩
/-- What writes the replica's own block alone, and new ones, keeps the rest. -/
theorem Rs.shift {S : List Nat} (h : Rs w T M z p log waits app vote asks o G) (hu : Upd S w w') (hS : ∀ k ∈ S, k = p ∨ (¬ M k ∧ ¬ T k)) : Rs w' T M z p log waits app vote asks o G := by
  have hz := hu.size
  have hl := h.left (T' := T) hu [0] (fun k hk => by
    rcases hS k hk with rfl | h5
    · exact .inl ⟨0, by simp, rfl⟩
    · exact .inr (.inr h5)) fun _ h => h
  exact ⟨hl.log (by decide), hl.waits (by decide), hl.send (by decide), hl.ans (by decide), hl.done (by decide), hl.app (by decide), h.appM, Nat.le_trans h.hi hz, hl.vote, hl.asks (by decide), h.nm.later hz fun _ h => h, h.apt.size hz⟩
theorem Rs.shift_nil (h : Rs w T M z p log waits app vote asks o G) (hu : Upd [] w w') : Rs w' T M z p log waits app vote asks o G := h.shift hu (by simp)
/-- T grows by what is new. -/
theorem Rs.fresh (h : Rs w T M z p log waits app vote asks o G) (hu : Upd [] w w') : Rs w' (Sg.fresh w w' T) M z p log waits app vote asks o G := by
  have hz := hu.size
  have hl := h.left (T' := Sg.fresh w w' T) hu [] (by simp) fun _ h => .inl h
  exact ⟨hl.log (by decide), hl.waits (by decide), hl.send (by decide), hl.ans (by decide), hl.done (by decide), hl.app (by decide), h.appM, Nat.le_trans h.hi hz, hl.vote, hl.asks (by decide), h.nm.later hz fun _ h => h, h.apt.fresh hu⟩
end
end Go.Proofs.YtanjnhohfcgapaaGreatDoor.Sg
namespace Go.Proofs.YtanjnhohfcgapaaGreatDoor.Sg
open Go.RowKit Go.Proofs.YtanjnhohfcgapaaGreatDoor.Crc Go.Proofs.YtanjnhohfcgapaaGreatDoor.Cm Go.Proofs.YtanjnhohfcgapaaGreatDoor.Tr Go.Proofs.YtanjnhohfcgapaaGreatDoor.Kv Go.Proofs.YtanjnhohfcgapaaGreatDoor.Au
set_option linter.unusedSimpArgs false
set_option linter.unusedVariables false

section
variable {w w' : World} {T M T' M' : Nat → Prop} {z p : Nat} {log waits : List Cm} {app : Ap} {vote : Cm} {asks : Option Ak} {o : Ou} {G : Gh}
theorem Nm.upd {lo hi : Nat} {B B' : List (Option Nat)} (h : Nm w M lo hi B) (hz : w.heap.size ≤ w'.heap.size) (hM : ∀ k, M k → M' k) (hh : hi ≤ w.heap.size)
    (hB : ∀ i k : Nat, B'[i]? = some (some k) → B[i]? = some (some k) ∨ (w.heap.size ≤ k ∧ k < w'.heap.size ∧ M' k))
    (hd : ∀ i j k : Nat, w.heap.size ≤ k → B'[i]? = some (some k) → B'[j]? = some (some k) → i = j) : Nm w' M' lo hi B' := by
  refine ⟨fun i j k hi hj => ?_, fun i k hi => ?_⟩
  · by_cases hk : w.heap.size ≤ k
    · exact hd i j k hk hi hj
    · rcases hB i k hi with h1 | h1
      · rcases hB j k hj with h2 | h2
        · exact h.one i j k h1 h2
        · omega
      · omega
  · rcases hB i k hi with h1 | h1
    · obtain ⟨h2, h3, h4⟩ := h.inM i k h1
      exact ⟨hM k h2, by omega, h4⟩
    · exact ⟨h1.2.2, h1.2.1, .inr (by omega)⟩
theorem Rs.log' (h : Rs w T M z p log waits app vote asks o G) {v' : Value} {l' : List Cm} {S : List Nat} (hu : Upd S w w') (hS : ∀ k ∈ S, G.lv.ownBlock = some k) (hown : Own w' 0 Cm.TCmd 7 (cmK.holds w' T) v' l') (hn : ∀ k, v'.ownBlock = some k → G.lv.ownBlock = some k ∨ w.heap.size ≤ k) :
    Rs w' T (plus M v'.ownBlock) z p l' waits app vote asks o { G with lv := v' } := by
  have hz := hu.size
  have hl := h.left (T' := T) hu [1] (fun k hk => .inl ⟨1, by simp, congrArg some (hS k hk)⟩) fun _ h => h
  have hlt := Own.lt hown
  have hnm : Nm w' (plus M v'.ownBlock) G.lo G.hi ((G.names p).set 1 v'.ownBlock) := h.nm.set hz (fun k hk => .inl hk) h.hi fun k hk => by
    rcases hn k hk with h5 | h5
    · exact .inl (congrArg some h5)
    · exact .inr ⟨h5, (hlt k hk).2, .inr hk⟩
  exact ⟨hown, hl.waits (by decide), hl.send (by decide), hl.ans (by decide), hl.done (by decide), hl.app (by decide), fun k h1 h2 => .inl (h.appM k h1 h2), Nat.le_trans h.hi hz, hl.vote, hl.asks (by decide), hnm, h.apt.plus hz fun k hk => by
    rcases hn k hk with h5 | h5
    · exact .inl (h.nm.inM 1 k (congrArg some h5)).1
    · exact .inr ⟨h5, (hlt k hk).2⟩⟩
theorem Rs.waits' (h : Rs w T M z p log waits app vote asks o G) {v' : Value} {l' : List Cm} {S : List Nat} (hu : Upd S w w') (hS : ∀ k ∈ S, G.wv.ownBlock = some k) (hown : Own w' 0 Cm.TCmd 7 (cmK.holds w' T) v' l') (hn : ∀ k, v'.ownBlock = some k → G.wv.ownBlock = some k ∨ w.heap.size ≤ k) :
    Rs w' T (plus M v'.ownBlock) z p log l' app vote asks o { G with wv := v' } := by
  have hz := hu.size
  have hl := h.left (T' := T) hu [2] (fun k hk => .inl ⟨2, by simp, congrArg some (hS k hk)⟩) fun _ h => h
  have hlt := Own.lt hown
  have hnm : Nm w' (plus M v'.ownBlock) G.lo G.hi ((G.names p).set 2 v'.ownBlock) := h.nm.set hz (fun k hk => .inl hk) h.hi fun k hk => by
    rcases hn k hk with h5 | h5
    · exact .inl (congrArg some h5)
    · exact .inr ⟨h5, (hlt k hk).2, .inr hk⟩
  exact ⟨hl.log (by decide), hown, hl.send (by decide), hl.ans (by decide), hl.done (by decide), hl.app (by decide), fun k h1 h2 => .inl (h.appM k h1 h2), Nat.le_trans h.hi hz, hl.vote, hl.asks (by decide), hnm, h.apt.plus hz fun k hk => by
    rcases hn k hk with h5 | h5
    · exact .inl (h.nm.inM 2 k (congrArg some h5)).1
    · exact .inr ⟨h5, (hlt k hk).2⟩⟩
theorem Rs.send' (h : Rs w T M z p log waits app vote asks o G) {v' : Value} {l' : List Se} {S : List Nat} (hu : Upd S w w') (hS : ∀ k ∈ S, G.sv.ownBlock = some k) (hown : Own w' z TSe 15 (seK.holds w' T) v' l') (hn : ∀ k, v'.ownBlock = some k → G.sv.ownBlock = some k ∨ w.heap.size ≤ k) :
    Rs w' T (plus M v'.ownBlock) z p log waits app vote asks { o with send := l' } { G with sv := v' } := by
  have hz := hu.size
  have hl := h.left (T' := T) hu [3] (fun k hk => .inl ⟨3, by simp, congrArg some (hS k hk)⟩) fun _ h => h
  have hlt := Own.lt hown
  have hnm : Nm w' (plus M v'.ownBlock) G.lo G.hi ((G.names p).set 3 v'.ownBlock) := h.nm.set hz (fun k hk => .inl hk) h.hi fun k hk => by
    rcases hn k hk with h5 | h5
    · exact .inl (congrArg some h5)
    · exact .inr ⟨h5, (hlt k hk).2, .inr hk⟩
  exact ⟨hl.log (by decide), hl.waits (by decide), hown, hl.ans (by decide), hl.done (by decide), hl.app (by decide), fun k h1 h2 => .inl (h.appM k h1 h2), Nat.le_trans h.hi hz, hl.vote, hl.asks (by decide), hnm, h.apt.plus hz fun k hk => by
    rcases hn k hk with h5 | h5
    · exact .inl (h.nm.inM 3 k (congrArg some h5)).1
    · exact .inr ⟨h5, (hlt k hk).2⟩⟩
theorem Rs.ans' (h : Rs w T M z p log waits app vote asks o G) {v' : Value} {l' : List An} {S : List Nat} (hu : Upd S w w') (hS : ∀ k ∈ S, G.av.ownBlock = some k) (hown : Own w' z TAn 4 (anK.holds w' T) v' l') (hn : ∀ k, v'.ownBlock = some k → G.av.ownBlock = some k ∨ w.heap.size ≤ k) :
    Rs w' T (plus M v'.ownBlock) z p log waits app vote asks { o with ans := l' } { G with av := v' } := by
  have hz := hu.size
  have hl := h.left (T' := T) hu [4] (fun k hk => .inl ⟨4, by simp, congrArg some (hS k hk)⟩) fun _ h => h
  have hlt := Own.lt hown
  have hnm : Nm w' (plus M v'.ownBlock) G.lo G.hi ((G.names p).set 4 v'.ownBlock) := h.nm.set hz (fun k hk => .inl hk) h.hi fun k hk => by
    rcases hn k hk with h5 | h5
    · exact .inl (congrArg some h5)
    · exact .inr ⟨h5, (hlt k hk).2, .inr hk⟩
  exact ⟨hl.log (by decide), hl.waits (by decide), hl.send (by decide), hown, hl.done (by decide), hl.app (by decide), fun k h1 h2 => .inl (h.appM k h1 h2), Nat.le_trans h.hi hz, hl.vote, hl.asks (by decide), hnm, h.apt.plus hz fun k hk => by
    rcases hn k hk with h5 | h5
    · exact .inl (h.nm.inM 4 k (congrArg some h5)).1
    · exact .inr ⟨h5, (hlt k hk).2⟩⟩
theorem Rs.done' (h : Rs w T M z p log waits app vote asks o G) {v' : Value} {l' : List Cm} {S : List Nat} (hu : Upd S w w') (hS : ∀ k ∈ S, G.dv.ownBlock = some k) (hown : Own w' z Cm.TCmd 7 (cmK.holds w' T) v' l') (hn : ∀ k, v'.ownBlock = some k → G.dv.ownBlock = some k ∨ w.heap.size ≤ k) :
    Rs w' T (plus M v'.ownBlock) z p log waits app vote asks { o with done := l' } { G with dv := v' } := by
  have hz := hu.size
  have hl := h.left (T' := T) hu [5] (fun k hk => .inl ⟨5, by simp, congrArg some (hS k hk)⟩) fun _ h => h
  have hlt := Own.lt hown
  have hnm : Nm w' (plus M v'.ownBlock) G.lo G.hi ((G.names p).set 5 v'.ownBlock) := h.nm.set hz (fun k hk => .inl hk) h.hi fun k hk => by
    rcases hn k hk with h5 | h5
    · exact .inl (congrArg some h5)
    · exact .inr ⟨h5, (hlt k hk).2, .inr hk⟩
  exact ⟨hl.log (by decide), hl.waits (by decide), hl.send (by decide), hl.ans (by decide), hown, hl.app (by decide), fun k h1 h2 => .inl (h.appM k h1 h2), Nat.le_trans h.hi hz, hl.vote, hl.asks (by decide), hnm, h.apt.plus hz fun k hk => by
    rcases hn k hk with h5 | h5
    · exact .inl (h.nm.inM 5 k (congrArg some h5)).1
    · exact .inr ⟨h5, (hlt k hk).2⟩⟩
theorem Rs.app' (h : Rs w T M z p log waits app vote asks o G) {app' : Ap} (ht : Turned G.lo G.hi w w') (ha : ApIs w' G.lo G.hi G.ap app') : Rs w' T M z p log waits app' vote asks o G := by
  obtain ⟨S, hS, hu⟩ := ht
  have hz := hu.size
  have hl := h.left (T' := T) hu [8] (fun k hk => .inr (.inl ⟨by simp, hS k hk⟩)) fun _ h => h
  exact ⟨hl.log (by decide), hl.waits (by decide), hl.send (by decide), hl.ans (by decide), hl.done (by decide), ha, h.appM, Nat.le_trans h.hi hz, hl.vote, hl.asks (by decide), h.nm.later hz fun _ h => h, h.apt.size hz⟩
theorem Rs.asks' (h : Rs w T M z p log waits app vote asks o G) {S : List Nat} {akv : Value} {ab gb : Option Nat} {asks' : Option Ak} (hu : Upd S w w') (hS : ∀ k ∈ S, G.ab = some k ∨ G.gb = some k ∨ (¬ M k ∧ ¬ T k))
    (hA : AkIs w' T { G with akv := akv, ab := ab, gb := gb } asks') (h1 : ∀ k, ab = some k → G.ab = some k ∨ w.heap.size ≤ k ∧ k < w'.heap.size) (h2 : ∀ k, gb = some k → G.gb = some k ∨ w.heap.size ≤ k ∧ k < w'.heap.size)
    (hd : ∀ k, ab = some k → gb = some k → False) : Rs w' T (plus (plus M ab) gb) z p log waits app vote asks' o { G with akv := akv, ab := ab, gb := gb } := by
  have hz := hu.size
  have hl := h.left (T' := T) hu [6, 7] (fun k hk => by
    rcases hS k hk with h5 | h5 | h5
    · exact .inl ⟨6, by simp, congrArg some h5⟩
    · exact .inl ⟨7, by simp, congrArg some h5⟩
    · exact .inr (.inr h5)) fun _ h => h
  have hnm : Nm w' (plus (plus M ab) gb) G.lo G.hi [some p, G.lv.ownBlock, G.wv.ownBlock, G.sv.ownBlock, G.av.ownBlock, G.dv.ownBlock, ab, gb] := h.nm.upd hz (fun k hk => .inl (.inl hk)) h.hi (fun i k hi => by
      match i, hi with
      | 0, hi => exact .inl hi
      | 1, hi => exact .inl hi
      | 2, hi => exact .inl hi
      | 3, hi => exact .inl hi
      | 4, hi => exact .inl hi
      | 5, hi => exact .inl hi
      | 6, hi =>
        have hi : ab = some k := by simpa using hi
        rcases h1 k hi with h5 | h5
        · exact .inl (congrArg some h5)
        · exact .inr ⟨h5.1, h5.2, .inl (.inr hi)⟩
      | 7, hi =>
        have hi : gb = some k := by simpa using hi
        rcases h2 k hi with h5 | h5
        · exact .inl (congrArg some h5)
        · exact .inr ⟨h5.1, h5.2, .inr hi⟩
      | n + 8, hi => simp at hi) (fun i j k hk hi hj => by
      have old : ∀ i, i < 6 → [some p, G.lv.ownBlock, G.wv.ownBlock, G.sv.ownBlock, G.av.ownBlock, G.dv.ownBlock, ab, gb][i]? = some (some k) → False := fun i hi6 h6 => by
        have h7 : (G.names p)[i]? = some (some k) := by
          match i, h6 with
          | 0, h6 => exact h6
          | 1, h6 => exact h6
          | 2, h6 => exact h6
          | 3, h6 => exact h6
          | 4, h6 => exact h6
          | 5, h6 => exact h6
          | n + 6, _ => omega
        have := (h.nm.inM i k h7).2.1
        omega
      have two : ∀ i, [some p, G.lv.ownBlock, G.wv.ownBlock, G.sv.ownBlock, G.av.ownBlock, G.dv.ownBlock, ab, gb][i]? = some (some k) → i = 6 ∨ i = 7 := fun i h6 => by
        by_cases hi6 : i < 6
        · exact absurd (old i hi6 h6) id
        · have := (List.getElem?_eq_some_iff.1 h6).1
          simp at this
          omega
      rcases two i hi with rfl | rfl <;> rcases two j hj with rfl | rfl
      · rfl
      · exact absurd (hd k (by simpa using hi) (by simpa using hj)) id
      · exact absurd (hd k (by simpa using hj) (by simpa using hi)) id
      · rfl)
  have ha : Apt w' T (plus (plus M ab) gb) := by
    refine (h.apt.plus (w' := w') hz (o := ab) fun k hk => ?_) |> fun a => ⟨fun k hk hm => ?_, a.ltT, fun k hm => ?_⟩
    · rcases h1 k hk with h5 | h5
      · exact .inl (h.nm.inM 6 k (congrArg some h5)).1
      · exact .inr h5
    · rcases hm with hm | hm
      · exact a.apart k hk hm
      · rcases h2 k hm with h5 | h5
        · exact h.apt.apart k hk (h.nm.inM 7 k (congrArg some h5)).1
        · have := h.apt.ltT k hk; omega
    · rcases hm with hm | hm
      · exact a.ltM k hm
      · rcases h2 k hm with h5 | h5
        · have := (h.nm.inM 7 k (congrArg some h5)).2.1; omega
        · exact h5.2
  exact ⟨hl.log (by decide), hl.waits (by decide), hl.send (by decide), hl.ans (by decide), hl.done (by decide), hl.app (by decide), fun k h5 h6 => .inl (.inl (h.appM k h5 h6)), Nat.le_trans h.hi hz, hl.vote, hA, hnm, ha⟩
theorem Rs.vote' (h : Rs w T M z p log waits app vote asks o G) {c : Cm} {ks : Value} (hk : Ky w T ks c) : Rs w T M z p log waits app c asks o { G with ks := ks } :=
  ⟨h.log, h.waits, h.send, h.ans, h.done, h.app, h.appM, h.hi, hk, h.asks, h.nm, h.apt⟩
end
end Go.Proofs.YtanjnhohfcgapaaGreatDoor.Sg
