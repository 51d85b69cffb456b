/- Commands: as plain data, in memory, and the table of how many keys each kind has. -/
import Derived.Test.YthpnnffogbjhpaaGreatDoorGenAll
import Derived.IntWalk
set_option linter.unusedSimpArgs false
set_option linter.unusedVariables false
set_option linter.unnecessarySimpa false
namespace Go.Proofs.YthpnnffogbjhpaaGreatDoor.Cm
open Go.RowKit Go.Proofs.YthpnnffogbjhpaaGreatDoor.Crc

abbrev TCmd : TypeId := 45
/-- A command, as plain data. -/
structure Cm where
  client : Nat
  seq : Nat
  kind : Nat
  keys : List (List UInt8)
  old : List UInt8
  new : List UInt8
  n : Int
deriving DecidableEq
def Cm.zero : Cm := ⟨0, 0, 0, [], [], [], 0⟩
def strV (k : List UInt8) : Value := .string (strOf k)
/-- Its cells, where its keys lie at ks. -/
def cmc (c : Cm) (ks : Value) : List Value := [.int .u32 (c.client : Int), .int .u32 (c.seq : Int), .int .u8 (c.kind : Int), ks, strV c.old, strV c.new, .int .i64 c.n]
def cmv (c : Cm) (ks : Value) : Value := .agg #[.int .u32 (c.client : Int), .int .u32 (c.seq : Int), .int .u8 (c.kind : Int), ks, strV c.old, strV c.new, .int .i64 c.n]
/-- A row of strings at v, within the blocks T. -/
def Strs (w : World) (T : Nat → Prop) (v : Value) (l : List (List UInt8)) : Prop :=
  ∃ (xo : Option Addr) (c : Nat), v = .slice xo l.length c ∧ SrcAt w xo l.length c (l.map strV) 1 ∧ l.length ≤ c ∧ c ≤ maxLen ∧ ∀ a, xo = some a → l.length ≠ 0 → T a.block
theorem srcS_upd {w w' : World} {S : List Nat} {xo : Option Addr} {m cp z : Nat} {xs : List Value} (h : SrcAt w xo m cp xs z) (hu : Upd S w w') (hS : ∀ a, xo = some a → m ≠ 0 → a.block ∉ S) : SrcAt w' xo m cp xs z :=
  ⟨h.len, h.one, h.nil, fun a e j u hj => by
    have h1 := h.cells a e j u hj
    have h2 := World.block_lt_of_cell? w _ h1
    have hb : (a.add j).block = a.block := by unfold Addr.add; split <;> rfl
    have hm : m ≠ 0 := by
      intro h0
      have := h.len
      rw [h0] at this
      simp at this
      rw [this] at hj
      simp at hj
    have h3 := hu.block _ h2 (by rw [hb]; exact hS a e hm)
    rw [← h1]
    simp only [World.cell?, h3]⟩
section
variable {w w' : World} {S : List Nat} {T U : Nat → Prop} {v : Value} {l : List (List UInt8)}
theorem Strs.upd (h : Strs w T v l) (hu : Upd S w w') (hS : ∀ k ∈ S, ¬ T k) : Strs w' T v l := by
  obtain ⟨xo, c, e, h1, h2, h3, h4⟩ := h
  exact ⟨xo, c, e, srcS_upd h1 hu (fun a ha hm hb => hS _ hb (h4 a ha hm)), h2, h3, h4⟩
theorem Strs.upd_nil (h : Strs w T v l) (hu : Upd [] w w') : Strs w' T v l := h.upd hu (by simp)
theorem Strs.mono (h : Strs w T v l) (hT : ∀ k, T k → U k) : Strs w U v l := by
  obtain ⟨xo, c, e, h1, h2, h3, h4⟩ := h
  exact ⟨xo, c, e, h1, h2, h3, fun a ha hm => hT _ (h4 a ha hm)⟩
theorem Strs.nil (w : World) (T : Nat → Prop) : Strs w T (.slice none 0 0) [] := ⟨none, 0, rfl, ⟨rfl, by simp, fun _ => ⟨rfl, rfl⟩, by simp⟩, Nat.le_refl _, by simp [maxLen], by simp⟩
/-- What there is at index j. -/
theorem Strs.get (h : Strs w T v l) : ∃ (xo : Option Addr) (c : Nat), v = .slice xo l.length c ∧ l.length ≤ c ∧ c ≤ maxLen ∧ ∀ j k, l[j]? = some k → ∃ b off, xo = some ⟨b, off, none⟩ ∧ b < w.heap.size ∧ w.cell? ⟨b, off + j, none⟩ = some (.string (strOf k)) := by
  obtain ⟨xo, c, e, h1, h2, h3, h4⟩ := h
  refine ⟨xo, c, e, h2, h3, fun j k hj => ?_⟩
  have hlt := (List.getElem?_eq_some_iff.1 hj).1
  cases xo with
  | none => have := (h1.nil rfl).1; omega
  | some a =>
    obtain ⟨b, off, sp⟩ := a
    have c0 := h1.cells _ rfl 0 (strV (l[0]'(by omega))) (by rw [List.getElem?_map, List.getElem?_eq_getElem (by omega)]; rfl)
    have hsp : sp = none := by
      have := World.cell?_spot c0
      simpa [Addr.add] using this
    subst hsp
    have c1 := h1.cells _ rfl j (strV k) (by rw [List.getElem?_map, hj]; rfl)
    have ad : (⟨b, off, none⟩ : Addr).add j = ⟨b, off + j, none⟩ := by unfold Addr.add; split <;> simp_all
    rw [ad] at c1
    exact ⟨b, off, rfl, World.block_lt_of_cell? w _ c1, c1⟩
end
/-- Its numbers are in their types. -/
def Cm.Fits (c : Cm) : Prop := c.client < 4294967296 ∧ c.seq < 4294967296 ∧ c.kind < 256 ∧ -9223372036854775808 ≤ c.n ∧ c.n ≤ 9223372036854775807 ∧ c.keys.length ≤ 4611686018427387904 ∧ c.old.length ≤ 4611686018427387904 ∧ c.new.length ≤ 4611686018427387904 ∧ ∀ k ∈ c.keys, k.length ≤ 4611686018427387904
/-- A command at v. -/
def CmAt (w : World) (T : Nat → Prop) (v : Value) (c : Cm) : Prop := c.Fits ∧ ∃ ks, v = cmv c ks ∧ Strs w T ks c.keys
section
variable {w w' : World} {S : List Nat} {T U : Nat → Prop} {v : Value} {c : Cm}
theorem CmAt.upd (h : CmAt w T v c) (hu : Upd S w w') (hS : ∀ k ∈ S, ¬ T k) : CmAt w' T v c := ⟨h.1, by obtain ⟨ks, e, h1⟩ := h.2; exact ⟨ks, e, h1.upd hu hS⟩⟩
theorem CmAt.upd_nil (h : CmAt w T v c) (hu : Upd [] w w') : CmAt w' T v c := h.upd hu (by simp)
theorem CmAt.mono (h : CmAt w T v c) (hT : ∀ k, T k → U k) : CmAt w U v c := ⟨h.1, by obtain ⟨ks, e, h1⟩ := h.2; exact ⟨ks, e, h1.mono hT⟩⟩
end

/-- How many keys: from, to. -/
def lo (k : Nat) : Nat := if k = 6 then 2 else if k = 0 then 0 else 1
def hi (k : Nat) : Nat := if k = 6 then 2 else if k = 7 ∨ k = 8 then 16 else if k = 0 then 0 else 1
/-- Where the kinds' table lies. -/
def CntAt (w : World) : Prop := ∀ k, k < 9 → w.cell? ⟨0, k * 2, none⟩ = some (.int .i64 ((lo k : Nat) : Int)) ∧ w.cell? ⟨0, k * 2 + 1, none⟩ = some (.int .i64 ((hi k : Nat) : Int))
theorem CntAt.lt {w : World} (h : CntAt w) : 0 < w.heap.size := World.block_lt_of_cell? w _ (h 0 (by decide)).1
theorem CntAt.upd {S : List Nat} {w w' : World} (h : CntAt w) (hu : Upd S w w') (hS : 0 ∉ S) : CntAt w' := fun i hi => by
  have h1 := h i hi
  have h2 := hu.block _ h.lt hS
  rw [← h1.1, ← h1.2]
  simp only [World.cell?, h2, true_and]
theorem CntAt.upd_nil {w w' : World} (h : CntAt w) (hu : Upd [] w w') : CntAt w' := h.upd hu (by simp)
/-- May a command be? -/
def Good (c : Cm) : Prop := c.client ≠ 0 ∧ c.kind ≠ 0 ∧ c.kind < 9 ∧ lo c.kind ≤ c.keys.length ∧ c.keys.length ≤ hi c.kind ∧ (∀ k ∈ c.keys, k ≠ [] ∧ k.length ≤ 32) ∧ c.old.length ≤ 64 ∧ c.new.length ≤ 64 ∧
  (c.old = [] ∨ c.kind = 5) ∧ (c.new = [] ∨ c.kind = 5 ∨ c.kind = 1) ∧ (c.n = 0 ∨ c.kind = 4)
instance (c : Cm) : Decidable (Good c) := by unfold Good; infer_instance
/-- What Check answers. -/
def checkM (c : Cm) : Int := if Good c then 0 else 1
theorem checkM_bad {c : Cm} (h : ¬ Good c) : Ending.returned (.int .i64 1) = .returned (.int .i64 (checkM c)) := by unfold checkM; rw [if_neg h]
theorem checkM_good {c : Cm} (h : Good c) : Ending.returned (.int .i64 0) = .returned (.int .i64 (checkM c)) := by unfold checkM; rw [if_pos h]
end Go.Proofs.YthpnnffogbjhpaaGreatDoor.Cm
