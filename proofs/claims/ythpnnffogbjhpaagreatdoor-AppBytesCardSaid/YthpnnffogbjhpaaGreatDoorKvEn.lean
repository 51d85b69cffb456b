/- m[k], x = v, y on a map of strings: the entry and the store together are the update. -/
import Derived.Test.YthpnnffogbjhpaaGreatDoorKvS
import Derived.WideKeyEntry
set_option linter.unusedSimpArgs false
set_option linter.unusedVariables false
set_option linter.unnecessarySimpa false
namespace Go.Proofs.YthpnnffogbjhpaaGreatDoor.Kv
open Go.RowKit Go.Proofs.YthpnnffogbjhpaaGreatDoor.Crc Go.Proofs.YthpnnffogbjhpaaGreatDoor.Cm

theorem kv_entry {w : World} {g : Nat} {m : KM} {k v : List UInt8} (h : kvK.is w g m) (hk : k.length ≤ maxLen) (hv : v.length ≤ maxLen) (hn : m.length < maxLen) :
    ∃ v0 st wa w', (Instr.mapEntry 113 (.map (some g)) (.string (strOf k))).run Tryz.prog w = .ok (.tuple #[v0, goInt st]) wa ∧
      (Instr.entryStore 113 (.map (some g)) (.int .i64 st) (.string (strOf v))).run Tryz.prog wa = .ok () w' ∧ kvK.is w' g (mput strK m k v) ∧ Upd [g] w w' := by
  obtain ⟨w', hr, hm, hu⟩ := MapKind.store h (k := k) (v := v) hk hv hn
  have hlt := MapKind.is_lt h
  obtain ⟨es, clock, hb, F, hs, hd⟩ := h
  obtain ⟨v0, st, es1, clock1, h1, -, h2⟩ := WideElems.entry_then_store (WideMaps.string_law Tryz.underlying9) Tryz.underlying113 (z := .string (strOf [])) zeroStr hb F (kvK.hkey hk)
  have hw : (ChangeMaps.setBlock w g (.map es1 clock1)).heap[g]? = some (.map es1 clock1) := by
    simp [ChangeMaps.setBlock, hlt]
  obtain ⟨es', clock', h3, h4⟩ := h2 _ (.string (strOf v)) hw
  have e : ChangeMaps.setBlock (ChangeMaps.setBlock w g (.map es1 clock1)) g (.map es' clock') = ChangeMaps.setBlock w g (.map es' clock') := by
    simp [ChangeMaps.setBlock]
  have e2 : ChangeMaps.setBlock w g (.map es' clock') = w' := by
    have hr' : (Instr.mapUpdate 113 (.map (some g)) (.string (strOf k)) (.string (strOf v))).run Tryz.prog w = .ok () w' := hr
    have h4' : (Instr.mapUpdate 113 (.map (some g)) (.string (strOf k)) (.string (strOf v))).run Tryz.prog w = .ok () (ChangeMaps.setBlock w g (.map es' clock')) := h4
    rw [hr'] at h4'
    simp only [Result.ok.injEq, true_and] at h4'
    exact h4'.symm
  refine ⟨v0, st, _, w', h1, ?_, hm, hu⟩
  have h5 := h3
  rw [e, e2] at h5
  exact h5
end Go.Proofs.YthpnnffogbjhpaaGreatDoor.Kv
