/- An argument that is a slice of bytes, opened. -/
import Derived.Test.YteeepelmkfiocaaGreatDoorLawKit
import Derived.Test.YteeepelmkfiocaaGreatDoorGenAll
namespace Go.Proofs.YteeepelmkfiocaaGreatDoor.Door
open Go.ChangeShapes Go.WideShapes Go.ChangeAt Go.RowKit Go.Deep

/-- A slice of bytes, opened: its cells. -/
theorem open_bytes {H : Type} {enc : TypeId × Value → H} {w : World} {n : Nat} {v : Value} {y : DataW H × List MemPlace}
    (h : DataW.trod enc Tryz.prog w 0 (fun _ => true) true n 120 [v] = some y) :
    ∃ (bo : Option Addr) (bl bc : Nat) (bs : List UInt8), v = .slice bo bl bc ∧ SrcAt w bo bl bc (bs.map u8v) 1 ∧ bl ≤ bc ∧ bc ≤ maxLen := by
  rcases open_ints Tryz.underlying120 Tryz.underlying5 (by kernel_rfl) h with ⟨hcs, hx⟩ | ⟨a, len', cap', zs, hcs, hb, hl, hm, hz, hx, hcell, hwz⟩
  · simp only [List.cons.injEq, and_true] at hcs
    subst hcs
    exact ⟨none, 0, 0, [], rfl, ⟨rfl, by simp, fun _ => ⟨rfl, rfl⟩, by simp⟩, Nat.le_refl _, by simp [maxLen]⟩
  · simp only [List.cons.injEq, and_true] at hcs
    subst hcs
    simp only [if_true] at hz
    refine ⟨some a, len', cap', (zs.take len').map fun z => UInt8.ofNat z.toNat, rfl, ⟨?_, ?_, by simp, fun a' e j u hj => ?_⟩, hl, hm⟩
    · simp; omega
    · intro u hu
      obtain ⟨b, -, rfl⟩ := List.mem_map.1 hu
      rfl
    · cases e
      simp only [List.map_map, List.getElem?_map, Option.map_eq_some_iff] at hj
      obtain ⟨z, hz1, rfl⟩ := hj
      have hjl : j < zs.length := by
        rw [List.getElem?_take] at hz1
        split at hz1
        · exact (List.getElem?_eq_some_iff.1 hz1).1
        · cases hz1
      have hz2 : zs[j]? = some z := by
        rw [List.getElem?_take] at hz1
        split at hz1
        · exact hz1
        · cases hz1
      rw [hcell j hjl]
      have hb := range_u8 hwz j
      rw [hz2] at hb
      simp only [Option.getD_some] at hb
      have : (((UInt8.ofNat z.toNat).toNat : Nat) : Int) = z := by
        rw [UInt8.toNat_ofNat_of_lt' (by show z.toNat < 256; omega)]
        omega
      simp only [Function.comp_apply, u8v, this, List.getD_eq_getElem?_getD, hz2, Option.getD_some]

end Go.Proofs.YteeepelmkfiocaaGreatDoor.Door
