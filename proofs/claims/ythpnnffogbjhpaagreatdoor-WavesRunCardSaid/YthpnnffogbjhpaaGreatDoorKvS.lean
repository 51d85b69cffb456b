/- The maps of kv and session in memory; states, tables. -/
import Derived.Test.YthpnnffogbjhpaaGreatDoorGenAll
import Derived.Test.YthpnnffogbjhpaaGreatDoorKvPure
import Derived.Maps.StringElems
import Derived.StringKeys
set_option linter.unusedSimpArgs false
set_option linter.unusedVariables false
set_option linter.unnecessarySimpa false
namespace Go.Proofs.YthpnnffogbjhpaaGreatDoor.Kv
open Go.RowKit Go.Lib Go.Proofs.YthpnnffogbjhpaaGreatDoor.Crc Go.Proofs.YthpnnffogbjhpaaGreatDoor.Cm

abbrev TStr : TypeId := 9
theorem strOf_list (s : List UInt8) : (strOf s).data.toList = s := by simp [strOf]
theorem strOf_back (s : ByteArray) : strOf s.data.toList = s := by simp [strOf]
theorem zeroStr (w : World) : (zeroValue TStr).run Tryz.prog w = .ok (.string (strOf [])) w := Tryz.zeroValue9 w
/-- The map of a state. -/
noncomputable def kvK : MapKind Tryz.prog (List UInt8) (List UInt8) where
  t := 113
  kt := TStr
  et := TStr
  K := strK
  kv s := .string (strOf s)
  ev s := .string (strOf s)
  okk s := s.length ≤ maxLen
  oke s := s.length ≤ maxLen
  dat s := .lit (.string s)
  R := plainElem Tryz.prog TStr
  z := []
  ht := Tryz.underlying113
  keyed := Maps.string_keyed Tryz.underlying9
  hkey {k} h := by
    rw [WideMaps.keyOf_string_mk Tryz.underlying9 (by rw [strOf_size]; exact h), strOf_list]
    rfl
  hR {a} h := by
    rw [plainElem_string Tryz.underlying9 (by rw [strOf_size]; exact h), strOf_list]
  inv {v a ps} h := by
    obtain ⟨s, rfl, h1, -⟩ := plainElem_string_inv Tryz.underlying9 h
    cases h1
    rw [strOf_back]
  okz := by simp [maxLen]
  hz := zeroStr
/-- The map of a table. -/
def lastV (x : La) : Value := .agg #[.int .u32 (x.seq : Int), .int .u8 (x.r.code : Int), .string (strOf x.r.text)]
def lastD (x : La) : DataW Unit := .agg [.lit (.int .u32 (x.seq : Int)), .lit (.int .u8 (x.r.code : Int)), .lit (.string x.r.text)]
open Classical in
noncomputable def lastR (v : Value) : Option (DataW Unit × List MemPlace) := if h : ∃ x, v = lastV x then some (lastD h.choose, []) else none
theorem strOf_inj {a b : List UInt8} (h : strOf a = strOf b) : a = b := by rw [← strOf_list a, h, strOf_list]
theorem lastV_inj {x y : La} (h : lastV x = lastV y) : x = y := by
  obtain ⟨a, b, s⟩ := x
  obtain ⟨c, d, t⟩ := y
  simp only [lastV, Value.agg.injEq, Array.mk.injEq, List.cons.injEq, Value.int.injEq, Value.string.injEq, true_and, and_true] at h
  obtain ⟨h1, h2, h3⟩ := h
  rw [strOf_inj h3, show a = c by omega, show b = d by omega]
theorem lastD_inj {x y : La} (h : lastD x = lastD y) : x = y := by
  obtain ⟨a, b, s⟩ := x
  obtain ⟨c, d, t⟩ := y
  simp only [lastD, DataW.agg.injEq, List.cons.injEq, DataW.lit.injEq, Lit.int.injEq, Lit.string.injEq, true_and, and_true] at h
  obtain ⟨h1, h2, h3⟩ := h
  rw [h3, show a = c by omega, show b = d by omega]
theorem lastR_mk (x : La) : lastR (lastV x) = some (lastD x, []) := by
  have h : ∃ y, lastV x = lastV y := ⟨x, rfl⟩
  unfold lastR
  rw [dif_pos h, ← lastV_inj h.choose_spec]
theorem lastR_inv {v : Value} {x : La} {ps : List MemPlace} (h : lastR v = some (lastD x, ps)) : v = lastV x := by
  unfold lastR at h
  split at h
  · rename_i hx
    simp only [Option.some.injEq, Prod.mk.injEq] at h
    rw [← lastD_inj h.1]
    exact hx.choose_spec
  · cases h
theorem zeroLast (w : World) : (zeroValue 104).run Tryz.prog w = .ok (lastV ⟨0, ⟨0, []⟩⟩) w := Tryz.zeroValue104 w
noncomputable def tbK : MapKind Tryz.prog Nat La where
  t := 108
  kt := 42
  et := 104
  K := cliK
  kv n := .int .u32 (n : Int)
  ev := lastV
  okk n := n < 4294967296
  oke _ := True
  dat := lastD
  R := lastR
  z := ⟨0, ⟨0, []⟩⟩
  ht := Tryz.underlying108
  keyed := Maps.int_keyed Tryz.underlying42
  hkey {k} h := by
    exact Maps.keyOf_int_mk Tryz.underlying42 (WalkArith.wf_u32 (by omega))
  hR {a} _ := lastR_mk a
  inv {v a ps} h := lastR_inv h
  okz := trivial
  hz := zeroLast
/-- A state: its block, and its map's. -/
structure StIs (w : World) (b g : Nat) (m : KM) : Prop where
  blk : w.heap[b]? = some (.cells #[.map (some g)] 115 (0, 0))
  map : kvK.is w g m
theorem StIs.ne {w : World} {b g : Nat} {m : KM} (h : StIs w b g m) : b ≠ g := by
  intro e
  obtain ⟨es, clock, hb, -⟩ := h.map
  rw [← e, h.blk] at hb
  cases hb
theorem StIs.upd {w w' : World} {b g : Nat} {m : KM} {S : List Nat} (h : StIs w b g m) (hu : Upd S w w') (hb : b ∉ S) (hg : g ∉ S) : StIs w' b g m :=
  ⟨hu.get h.blk hb, MapKind.is_upd h.map hu hg⟩
theorem StIs.upd_nil {w w' : World} {b g : Nat} {m : KM} (h : StIs w b g m) (hu : Upd [] w w') : StIs w' b g m := h.upd hu (by simp) (by simp)
theorem StIs.turn {w w' : World} {b g : Nat} {m m' : KM} (h : StIs w b g m) (hu : Upd [g] w w') (hm : kvK.is w' g m') : StIs w' b g m' :=
  ⟨hu.get h.blk (by simpa using h.ne), hm⟩
def rpv (r : Rp) : Value := .agg #[.int .u8 (r.code : Int), .string (strOf r.text)]
end Go.Proofs.YthpnnffogbjhpaaGreatDoor.Kv
