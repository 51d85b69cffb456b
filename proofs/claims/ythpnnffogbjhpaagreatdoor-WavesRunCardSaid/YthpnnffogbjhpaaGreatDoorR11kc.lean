/- R11k, CutK in one text. -/
import Derived.Test.YthpnnffogbjhpaaGreatDoorKvR
import Derived.Test.YthpnnffogbjhpaaGreatDoorKvS
set_option linter.unusedSimpArgs false
set_option linter.unusedVariables false
set_option linter.unnecessarySimpa false
namespace Go.Proofs.YthpnnffogbjhpaaGreatDoor.Kv
set_option linter.unusedSimpArgs false
set_option linter.unusedVariables false
open Go.RowKit Go.Lib Go.Proofs.YthpnnffogbjhpaaGreatDoor.Crc Go.Proofs.YthpnnffogbjhpaaGreatDoor.Cm

abbrev TLast : TypeId := 89
/-- A client's last, as the document keeps it. -/
def laK : Kind (Nat × La) where
  z := 4
  hz := by decide
  holds _ _ p cs := cs = [.int .u32 (p.1 : Int), .int .u32 (p.2.seq : Int), .int .u8 (p.2.r.code : Int), strV p.2.r.text]
  len := by rintro w T p cs rfl; rfl
  one := by rintro w T p cs rfl; simp [strV, Value.oneCell']
  upd := by rintro w w' T p cs S h hu hS; exact h
  mono := by rintro w T U p cs h hT; exact h
theorem la_get {w : World} {T : Nat → Prop} {v : Value} {l : TM} (h : laK.row w T v l) : ∃ (xo : Option Addr) (c : Nat), v = .slice xo l.length c ∧ l.length ≤ c ∧ c ≤ maxLen ∧
    ∀ i p, l[i]? = some p → ∃ b off, xo = some ⟨b, off, none⟩ ∧ b < w.heap.size ∧ T b ∧ w.cell? ⟨b, off + i * 4, none⟩ = some (.int .u32 (p.1 : Int)) ∧ w.cell? ⟨b, off + i * 4 + 1, none⟩ = some (.int .u32 (p.2.seq : Int)) ∧
      w.cell? ⟨b, off + i * 4 + 2, none⟩ = some (.int .u8 (p.2.r.code : Int)) ∧ w.cell? ⟨b, off + i * 4 + 3, none⟩ = some (.string (strOf p.2.r.text)) := by
  obtain ⟨xo, c, rfl, h1, h2, hg⟩ := Row.get laK.hz h
  refine ⟨xo, c, rfl, h1, h2, fun i p hi => ?_⟩
  obtain ⟨b, off, cs, rfl, hb, hT, rfl, -, hcell⟩ := hg i p hi
  exact ⟨b, off, rfl, hb, hT, hcell 0 _ rfl, hcell 1 _ rfl, hcell 2 _ rfl, hcell 3 _ rfl⟩
theorem infoLa : (Tryz.prog.info? TLast).map (fun i => (i.zero, i.size, i.bytes)) = some (some (.agg #[.int .u32 0, .int .u32 0, .int .u8 0, .string ByteArray.empty]), 4, 32) := by kernel_rfl
theorem la_src {w : World} {b : Nat} {p : Nat × La} {t : TypeId} (h : w.heap[b]? = some (.cells #[.int .u32 (p.1 : Int), .int .u32 (p.2.seq : Int), .int .u8 (p.2.r.code : Int), .string (strOf p.2.r.text)] t (0, 0))) :
    SrcAt w (some ⟨b, 0, none⟩) 1 1 [.int .u32 (p.1 : Int), .int .u32 (p.2.seq : Int), .int .u8 (p.2.r.code : Int), strV p.2.r.text] 4 := by
  refine ⟨rfl, by simp [strV, Value.oneCell'], by simp, fun a e j u hj => ?_⟩
  cases e
  rw [show (⟨b, 0, none⟩ : Addr).add j = ⟨b, j, none⟩ by unfold Addr.add; split <;> simp_all]
  simp only [World.cell?, h]
  simpa [strV] using hj
theorem sizeLa : ∀ w, (sizeOf TLast).run Tryz.prog w = .ok 4 w := fun w => by kernel_rfl
end Go.Proofs.YthpnnffogbjhpaaGreatDoor.Kv
namespace Go.Proofs.YthpnnffogbjhpaaGreatDoor.Kv
set_option linter.unusedSimpArgs false
set_option linter.unusedVariables false
open Go.RowKit Go.Proofs.YthpnnffogbjhpaaGreatDoor.Crc Go.Proofs.YthpnnffogbjhpaaGreatDoor.Cm

theorem cutZ_zero' (z : Nat) (xo : Option Addr) (c : Nat) : cutZ z xo 0 c = xo := by
  unfold cutZ
  split
  · rfl
  · cases xo with
    | none => rfl
    | some a => simp [Addr.add]
section
variable {P : Program} (t e : TypeId) (z : Nat) (ht : P.underlying t = some (.slice e)) (hz : ∀ w, (sizeOf e).run P w = .ok z w) (xo : Option Addr) (m c : Nat)
include ht hz
theorem run_cutz_l' (l : Nat) (i : Int) (hi : i = l) (h : l ≤ m) (w : World) : (Instr.slice t (.slice xo m c) (some (.int .i64 i)) none none).run P w = .ok (.slice (cutZ z xo l c) (m - l) (c - l)) w := by
  subst hi
  have hel : P.elem t = e := by simp [Program.elem, ht]
  rw [run_slice_l (P := P) w t xo m c (by rw [hel]; exact ht) .i64 l (by omega) (by omega), hel, hz]
  simp [Result.andThen, sliced, cutZ]
theorem run_cutz_h' (h : Nat) (j : Int) (hj : j = h) (h2 : h ≤ c) (w : World) : (Instr.slice t (.slice xo m c) none (some (.int .i64 j)) none).run P w = .ok (.slice xo h c) w := by
  subst hj
  have hel : P.elem t = e := by simp [Program.elem, ht]
  rw [run_slice_h (P := P) w t xo m c (by rw [hel]; exact ht) .i64 h (by omega) (by omega), hel, hz]
  have := cutZ_zero' z xo c
  simp only [cutZ] at this
  simp [Result.andThen, sliced]
  rw [← this]
  split <;> simp_all
end
theorem row_src' {X : Type} {w : World} {T : Nat → Prop} {z : Nat} {P : X → List Value → Prop} {xo : Option Addr} {n c : Nat} {l : List X} (h : Row w T z P (.slice xo n c) l) : n = l.length ∧ ∃ css, Each P l css ∧ (∀ cs ∈ css, cs.length = z) ∧ SrcAt w xo n c css.flatten z := by
  obtain ⟨xo', c', css, e, -, -, h1, h2, h3, -⟩ := Row.src h
  cases e
  exact ⟨rfl, css, h1, h2, h3⟩
end Go.Proofs.YthpnnffogbjhpaaGreatDoor.Kv
