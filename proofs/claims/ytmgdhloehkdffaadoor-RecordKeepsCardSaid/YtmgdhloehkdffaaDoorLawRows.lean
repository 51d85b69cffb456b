/- An argument that is a slice of slices of bytes, opened. -/
import Derived.Test.YtmgdhloehkdffaaDoorLawBytes
import Derived.Test.YtmgdhloehkdffaaDoorFrA
namespace Go.Proofs.YtmgdhloehkdffaaDoor.Door
open Go.ChangeShapes Go.WideShapes Go.ChangeAt Go.RowKit Go.Deep Go.Proofs.YtmgdhloehkdffaaDoor.Fr

theorem open_rows {H : Type} {enc : TypeId × Value → H} {W : World} {fuel : Nat} {ao : Option Addr} {len cap : Nat} {y : DataW H × List MemPlace}
    (hf : DataW.trod enc Tryd.prog W 0 (fun _ => true) true fuel 30 [.slice ao len cap] = some y) : ∃ ls, ls.length = len ∧ ReadsRows W (.slice ao len cap) ls := by
  rcases open_slice1 Tryd.underlying30 (by kernel_rfl) hf with ⟨hcs, hx⟩ | ⟨a, len', cap', m, n, V, D, Pl, hcs, hb, hl, hm, hmm, hx, hi⟩
  · simp only [List.cons.injEq, Value.slice.injEq, and_true] at hcs
    obtain ⟨rfl, rfl, rfl⟩ := hcs
    exact ⟨[], rfl, none, 0, rfl, Nat.le_refl _, by simp [maxLen], fun i l h => by simp at h⟩
  · simp only [List.cons.injEq, Value.slice.injEq, and_true] at hcs
    obtain ⟨rfl, rfl, rfl⟩ := hcs
    simp only [if_true] at hmm
    subst hmm
    have hrow : ∀ i, ∃ r : Option Addr × Nat × Nat × List UInt8, i < len → V i = .slice r.1 r.2.1 r.2.2.1 ∧ SrcAt W r.1 r.2.1 r.2.2.1 (r.2.2.2.map u8v) 1 ∧ r.2.1 ≤ r.2.2.1 ∧ r.2.2.1 ≤ maxLen := fun i => by
      by_cases hlt : i < len
      · obtain ⟨-, h2⟩ := hi i (by omega)
        obtain ⟨bo, bl, bc, bs, e, h3, h4, h5⟩ := open_bytes h2
        exact ⟨(bo, bl, bc, bs), fun _ => ⟨e, h3, h4, h5⟩⟩
      · exact ⟨(none, 0, 0, []), fun h => absurd h hlt⟩
    refine ⟨(List.range len).map fun i => (hrow i).choose.2.2.2, by simp, some a, m, by simp, by simpa using hl, hm, fun i l h => ?_⟩
    rw [List.getElem?_map, Option.map_eq_some_iff] at h
    obtain ⟨i', h1, rfl⟩ := h
    have hil : i < len := by
      have := (List.getElem?_eq_some_iff.1 h1).1
      simpa using this
    have e1 : i' = i := by
      have := (List.getElem?_eq_some_iff.1 h1).2
      simpa using this.symm
    subst e1
    have hspot : a.spot = none := by
      obtain ⟨c0, -⟩ := hi 0 (by omega)
      have := World.cell?_spot c0
      simpa [Addr.add] using this
    obtain ⟨b, off, sp⟩ := a
    have hsp : sp = none := hspot
    subst hsp
    obtain ⟨c1, -⟩ := hi i' (by omega)
    have ad : (⟨b, off, none⟩ : Addr).add i' = ⟨b, off + i', none⟩ := by unfold Addr.add; split <;> simp_all
    rw [ad] at c1
    obtain ⟨e, h3, h4, h5⟩ := (hrow i').choose_spec hil
    refine ⟨b, off, _, _, _, rfl, ?_, h3, h4, h5⟩
    exact c1.trans (congrArg some e)
end Go.Proofs.YtmgdhloehkdffaaDoor.Door
