/- Rows of commands in memory. -/
import Derived.Test.YthpnnffogbjhpaaGreatDoorCmCK
import Derived.Test.YthpnnffogbjhpaaGreatDoorGenAll
set_option linter.unusedSimpArgs false
set_option linter.unusedVariables false
set_option linter.unnecessarySimpa false
namespace Go.Proofs.YthpnnffogbjhpaaGreatDoor.Kv
open Go.RowKit Go.Proofs.YthpnnffogbjhpaaGreatDoor.Crc Go.Proofs.YthpnnffogbjhpaaGreatDoor.Cm

def cmK : Kind Cm where
  z := 7
  hz := by decide
  holds w T c cs := c.Fits ∧ ∃ ks, cs = cmc c ks ∧ Strs w T ks c.keys
  len := by rintro w T c cs ⟨-, ks, rfl, -⟩; rfl
  one := by
    rintro w T c cs ⟨-, ks, rfl, h⟩
    obtain ⟨xo, cp, rfl, -⟩ := h.get
    simp [cmc, strV, Value.oneCell']
  upd := by rintro w w' T c cs S ⟨h1, ks, e, h⟩ hu hS; exact ⟨h1, ks, e, h.upd hu hS⟩
  mono := by rintro w T U c cs ⟨h1, ks, e, h⟩ hT; exact ⟨h1, ks, e, h.mono hT⟩
/-- A command's cells. -/
def Cells7 (w : World) (b o : Nat) (c : Cm) (x : Option Addr) (n : Nat) : Prop :=
  w.cell? ⟨b, o, none⟩ = some (.int .u32 (c.client : Int)) ∧ w.cell? ⟨b, o + 1, none⟩ = some (.int .u32 (c.seq : Int)) ∧ w.cell? ⟨b, o + 2, none⟩ = some (.int .u8 (c.kind : Int)) ∧ w.cell? ⟨b, o + 3, none⟩ = some (.slice x c.keys.length n) ∧
    w.cell? ⟨b, o + 4, none⟩ = some (.string (strOf c.old)) ∧ w.cell? ⟨b, o + 5, none⟩ = some (.string (strOf c.new)) ∧ w.cell? ⟨b, o + 6, none⟩ = some (.int .i64 c.n)
theorem Cells7.upd {w w' : World} {b o : Nat} {c : Cm} {x : Option Addr} {n : Nat} {S : List Nat} (h : Cells7 w b o c x n) (hu : Upd S w w') (hb : b < w.heap.size) (hS : b ∉ S) : Cells7 w' b o c x n := by
  have hk : ∀ i u, w.cell? ⟨b, i, none⟩ = some u → w'.cell? ⟨b, i, none⟩ = some u := fun i u hi => by
    rw [← hi]; have := hu.block b hb hS; simp only [World.cell?, this]
  obtain ⟨h0, h1, h2, h3, h4, h5, h6⟩ := h
  exact ⟨hk _ _ h0, hk _ _ h1, hk _ _ h2, hk _ _ h3, hk _ _ h4, hk _ _ h5, hk _ _ h6⟩
/-- A row's command. -/
theorem cm_get {w : World} {T : Nat → Prop} {v : Value} {l : List Cm} (h : cmK.row w T v l) : ∃ (xo : Option Addr) (c : Nat), v = .slice xo l.length c ∧ l.length ≤ c ∧ c ≤ maxLen ∧
    ∀ i c, l[i]? = some c → ∃ b off ka kc, xo = some ⟨b, off, none⟩ ∧ b < w.heap.size ∧ T b ∧ c.Fits ∧ Strs w T (.slice ka c.keys.length kc) c.keys ∧ Cells7 w b (off + i * 7) c ka kc := by
  obtain ⟨xo, c, rfl, h1, h2, hg⟩ := Row.get cmK.hz h
  refine ⟨xo, c, rfl, h1, h2, fun i c hi => ?_⟩
  obtain ⟨b, off, cs, rfl, hb, hT, ⟨fit, ks, rfl, hks⟩, -, hcell⟩ := hg i c hi
  obtain ⟨ka, kc, rfl, -, -, -⟩ := hks.get
  have cc : ∀ j u, (cmc c (.slice ka c.keys.length kc))[j]? = some u → w.cell? ⟨b, off + i * 7 + j, none⟩ = some u := fun j u hj => hcell j u hj
  exact ⟨b, off, ka, kc, rfl, hb, hT, fit, hks, cc 0 _ rfl, cc 1 _ rfl, cc 2 _ rfl, cc 3 _ rfl, cc 4 _ rfl, cc 5 _ rfl, cc 6 _ rfl⟩
end Go.Proofs.YthpnnffogbjhpaaGreatDoor.Kv
