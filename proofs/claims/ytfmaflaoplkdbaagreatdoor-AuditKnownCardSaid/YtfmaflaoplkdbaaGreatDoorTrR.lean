/- Commands, answers, slots and what was told, in memory: as kinds of things. -/
import Derived.Test.YtfmaflaoplkdbaaGreatDoorPureAll
import Derived.Test.YtfmaflaoplkdbaaGreatDoorGenAll
set_option linter.unusedSimpArgs false
set_option linter.unusedVariables false
set_option linter.unnecessarySimpa false
namespace Go.Proofs.YtfmaflaoplkdbaaGreatDoor.Tr
open Go.RowKit Go.Proofs.YtfmaflaoplkdbaaGreatDoor.Crc Go.Proofs.YtfmaflaoplkdbaaGreatDoor.Cm

def cmK : Kind Cm where
  z := 7
  hz := by decide
  holds w T c cs := c.Fits ∧ ∃ ks, cs = cmc c ks ∧ Strs w T ks c.keys
  len := by rintro w T c cs ⟨-, ks, rfl, -⟩; rfl
  one := by
    rintro w T c cs ⟨-, ks, rfl, h⟩
    obtain ⟨xo, cp, rfl, -⟩ := h.get
    simp [cmc, strV, Value.oneCell']
  upd := by rintro w w' T c cs S ⟨h1, ks, e, h⟩ hu hS; exact ⟨h1, ks, e, h.upd hu hS⟩
  mono := by rintro w T U c cs ⟨h1, ks, e, h⟩ hT; exact ⟨h1, ks, e, h.mono hT⟩
/-- An answer's cells. -/
def anc (a : An) : List Value := [.int .u32 (a.client : Int), .int .u32 (a.seq : Int), .int .u8 (a.code : Int), strV a.text]
def An.Fits (a : An) : Prop := a.text.length ≤ 4611686018427387904
def anK : Kind An where
  z := 4
  hz := by decide
  holds _ _ a cs := a.Fits ∧ cs = anc a
  len := by rintro w T c cs ⟨-, rfl⟩; rfl
  one := by rintro w T c cs ⟨-, rfl⟩; simp [anc, strV, Value.oneCell']
  upd := by rintro w w' T c cs S h hu hS; exact h
  mono := by rintro w T U c cs h hT; exact h
theorem row_one {X : Type} {K : Kind X} {w : World} {T : Nat → Prop} {v : Value} {l : List X} (h : K.row w T v l) : v.oneCell' = true := by
  obtain ⟨xo, c, rfl, -⟩ := Row.slice h
  rfl
def slK : Kind Sl where
  z := 3
  hz := by decide
  holds w T s cs := s.slot < 18446744073709551616 ∧ ∃ vc va, cs = [.int .u64 (s.slot : Int), vc, va] ∧ cmK.row w T vc s.cmds ∧ anK.row w T va s.ans
  len := by rintro w T c cs ⟨-, vc, va, rfl, -⟩; rfl
  one := by
    rintro w T c cs ⟨-, vc, va, rfl, h1, h2⟩
    have := row_one h1; have := row_one h2
    intro u hu
    simp only [List.mem_cons, List.not_mem_nil, or_false] at hu
    rcases hu with rfl | rfl | rfl
    · rfl
    · assumption
    · assumption
  upd := by rintro w w' T c cs S ⟨h0, vc, va, e, h1, h2⟩ hu hS; exact ⟨h0, vc, va, e, cmK.row_upd h1 hu hS, anK.row_upd h2 hu hS⟩
  mono := by rintro w T U c cs ⟨h0, vc, va, e, h1, h2⟩ hT; exact ⟨h0, vc, va, e, cmK.row_mono h1 hT, anK.row_mono h2 hT⟩
/-- Bytes at v, within the blocks T. -/
def Bts (w : World) (T : Nat → Prop) (v : Value) (bs : List UInt8) : Prop := ∃ xo m c, v = .slice xo m c ∧ SrcAt w xo m c (bs.map u8v) 1 ∧ m ≤ c ∧ c ≤ maxLen ∧ ∀ a, xo = some a → m ≠ 0 → T a.block
def dnK : Kind Dn where
  z := 2
  hz := by decide
  holds w T d cs := d.1 < 18446744073709551616 ∧ ∃ v, cs = [.int .u64 (d.1 : Int), v] ∧ Bts w T v d.2
  len := by rintro w T c cs ⟨-, v, rfl, -⟩; rfl
  one := by
    rintro w T c cs ⟨-, v, rfl, xo, m, cp, rfl, -⟩
    simp [Value.oneCell']
  upd := by rintro w w' T c cs S ⟨h0, v, e, xo, m, cp, rfl, h1, h2, h3, h4⟩ hu hS; exact ⟨h0, _, e, xo, m, cp, rfl, src_upd h1 hu (fun a ha hm hb => hS _ hb (h4 a ha hm)), h2, h3, h4⟩
  mono := by rintro w T U c cs ⟨h0, v, e, xo, m, cp, rfl, h1, h2, h3, h4⟩ hT; exact ⟨h0, _, e, xo, m, cp, rfl, h1, h2, h3, fun a ha hm => hT _ (h4 a ha hm)⟩
def tdK : Kind Td where
  z := 5
  hz := by decide
  holds w T t cs := ∃ (r e n : Int) (va vd : Value), cs = [.int .i64 r, .int .i64 e, .int .i64 n, va, vd] ∧ anK.row w T va t.ans ∧ dnK.row w T vd t.done
  len := by rintro w T c cs ⟨r, e, n, va, vd, rfl, -⟩; rfl
  one := by
    rintro w T c cs ⟨r, e, n, va, vd, rfl, h1, h2⟩
    have := row_one h1; have := row_one h2
    intro u hu
    simp only [List.mem_cons, List.not_mem_nil, or_false] at hu
    rcases hu with rfl | rfl | rfl | rfl | rfl
    · rfl
    · rfl
    · rfl
    · assumption
    · assumption
  upd := by rintro w w' T c cs S ⟨r, e, n, va, vd, h0, h1, h2⟩ hu hS; exact ⟨r, e, n, va, vd, h0, anK.row_upd h1 hu hS, dnK.row_upd h2 hu hS⟩
  mono := by rintro w T U c cs ⟨r, e, n, va, vd, h0, h1, h2⟩ hT; exact ⟨r, e, n, va, vd, h0, anK.row_mono h1 hT, dnK.row_mono h2 hT⟩
def enc (e : En) (torn pick : Int) (ks : Value) : List Value := [.int .u8 (e.kind : Int), .int .i64 e.r, .int .i64 e.k, .int .i64 torn, .int .u64 pick, .int .u32 (e.cmd.client : Int), .int .u32 (e.cmd.seq : Int), .int .u8 (e.cmd.kind : Int), ks, strV e.cmd.old, strV e.cmd.new, .int .i64 e.cmd.n]
def enK : Kind En where
  z := 12
  hz := by decide
  holds w T e cs := e.cmd.Fits ∧ ∃ torn pick ks, cs = enc e torn pick ks ∧ Strs w T ks e.cmd.keys
  len := by rintro w T c cs ⟨-, t, p, ks, rfl, -⟩; rfl
  one := by
    rintro w T c cs ⟨-, t, p, ks, rfl, h⟩
    obtain ⟨xo, cp, rfl, -⟩ := h.get
    simp [enc, strV, Value.oneCell']
  upd := by rintro w w' T c cs S ⟨h1, t, p, ks, e, h⟩ hu hS; exact ⟨h1, t, p, ks, e, h.upd hu hS⟩
  mono := by rintro w T U c cs ⟨h1, t, p, ks, e, h⟩ hT; exact ⟨h1, t, p, ks, e, h.mono hT⟩
end Go.Proofs.YtfmaflaoplkdbaaGreatDoor.Tr
