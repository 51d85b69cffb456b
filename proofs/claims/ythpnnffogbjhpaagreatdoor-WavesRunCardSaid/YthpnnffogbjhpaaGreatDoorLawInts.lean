/- An argument that is a slice of numbers, opened. -/
import Derived.Test.YthpnnffogbjhpaaGreatDoorLawAll
import Derived.Test.YthpnnffogbjhpaaGreatDoorWvRows
set_option linter.unusedSimpArgs false
set_option linter.unusedVariables false
set_option linter.unnecessarySimpa false
namespace Go.Proofs.YthpnnffogbjhpaaGreatDoor.Door
open Go.ChangeShapes Go.WideShapes Go.ChangeAt Go.RowKit Go.Deep

theorem open_nums {H : Type} {enc : TypeId × Value → H} {w : World} {n : Nat} {v : Value} {y : DataW H × List MemPlace}
    (h : DataW.trod enc Tryz.prog w 0 (fun _ => true) true n 59 [v] = some y) :
    ∃ (bo : Option Addr) (bl bc : Nat) (bs : List Int), v = .slice bo bl bc ∧ SrcAt w bo bl bc (bs.map Kv.pV) 1 ∧ bl ≤ bc ∧ bc ≤ maxLen := by
  rcases open_ints Tryz.underlying59 Tryz.underlying3 (by kernel_rfl) h with ⟨hcs, hx⟩ | ⟨a, len', cap', zs, hcs, hb, hl, hm, hz, hx, hcell, hwz⟩
  · simp only [List.cons.injEq, and_true] at hcs
    subst hcs
    exact ⟨none, 0, 0, [], rfl, ⟨rfl, by simp, fun _ => ⟨rfl, rfl⟩, by simp⟩, Nat.le_refl _, by simp [maxLen]⟩
  · simp only [List.cons.injEq, and_true] at hcs
    subst hcs
    simp only [if_true] at hz
    refine ⟨some a, len', cap', zs.take len', rfl, ⟨?_, ?_, by simp, fun a' e j u hj => ?_⟩, hl, hm⟩
    · simp; omega
    · intro u hu
      obtain ⟨b, -, rfl⟩ := List.mem_map.1 hu
      rfl
    · cases e
      simp only [List.getElem?_map, Option.map_eq_some_iff] at hj
      obtain ⟨z, hz1, rfl⟩ := hj
      have hjl : j < zs.length := by
        rw [List.getElem?_take] at hz1
        split at hz1
        · exact (List.getElem?_eq_some_iff.1 hz1).1
        · cases hz1
      have hz2 : zs[j]? = some z := by
        rw [List.getElem?_take] at hz1
        split at hz1
        · exact hz1
        · cases hz1
      rw [hcell j hjl]
      simp only [Kv.pV, List.getD_eq_getElem?_getD, hz2, Option.getD_some]
end Go.Proofs.YthpnnffogbjhpaaGreatDoor.Door
