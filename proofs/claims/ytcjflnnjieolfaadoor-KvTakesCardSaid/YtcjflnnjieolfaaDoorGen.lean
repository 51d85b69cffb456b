/- Bytes that are read out of whatever slice. -/
import Derived.Test.YtcjflnnjieolfaaDoorDiskM
import Derived.Laws.BitsAllLaws
namespace Go.Proofs.YtcjflnnjieolfaaDoor.Crc
open Go.RowKit

theorem src_at {w : World} {xo : Option Addr} {m cp j : Nat} {bs : List UInt8} (h : SrcAt w xo m cp (bs.map u8v) 1) (hj : j < m) :
    ∃ b off, xo = some ⟨b, off, none⟩ ∧ w.cell? ⟨b, off + j, none⟩ = some (.int .u8 ((bs.getD j 0).toNat : Nat)) := by
  have hlen : bs.length = m := by have := h.len; simpa using this
  cases xo with
  | none => have := (h.nil rfl).1; omega
  | some a =>
    obtain ⟨b, off, sp⟩ := a
    have hu : (bs.map u8v)[j]? = some (.int .u8 ((bs.getD j 0).toNat : Nat)) := by
      rw [List.getElem?_map, List.getElem?_eq_getElem (by omega), List.getD_eq_getElem?_getD, List.getElem?_eq_getElem (by omega)]
      rfl
    have h0 : ∃ u, (bs.map u8v)[0]? = some u := ⟨_, List.getElem?_eq_getElem (by simp; omega)⟩
    obtain ⟨u, hu0⟩ := h0
    have c0 := h.cells _ rfl 0 u hu0
    have hsp : sp = none := by
      have := World.cell?_spot c0
      simpa [Addr.add] using this
    subst hsp
    refine ⟨b, off, rfl, ?_⟩
    have c1 := h.cells _ rfl j _ hu
    have ad : (⟨b, off, none⟩ : Addr).add j = ⟨b, off + j, none⟩ := by unfold Addr.add; split <;> simp_all
    rwa [ad] at c1
theorem src_lt {w : World} {b off m cp : Nat} {bs : List UInt8} (h : SrcAt w (some ⟨b, off, none⟩) m cp (bs.map u8v) 1) (hm : 0 < m) : b < w.heap.size := by
  obtain ⟨b', off', e, hc⟩ := src_at h hm
  cases e
  exact World.block_lt_of_cell? w _ hc
theorem src_upd {w w' : World} {S : List Nat} {xo : Option Addr} {m cp : Nat} {xs : List Value} (h : SrcAt w xo m cp xs 1) (hu : Upd S w w') (hS : ∀ a, xo = some a → m ≠ 0 → a.block ∉ S) : SrcAt w' xo m cp xs 1 :=
  ⟨h.len, h.one, h.nil, fun a e j u hj => by
    have h1 := h.cells a e j u hj
    have h2 := World.block_lt_of_cell? w _ h1
    have hb : (a.add j).block = a.block := by unfold Addr.add; split <;> rfl
    have hm : m ≠ 0 := by
      intro h0
      have := h.len
      rw [h0] at this
      simp at this
      rw [this] at hj
      simp at hj
    have h3 := hu.block _ h2 (by rw [hb]; exact hS a e hm)
    rw [← h1]
    simp only [World.cell?, h3]⟩
theorem src_upd_nil {w w' : World} {xo : Option Addr} {m cp : Nat} {xs : List Value} (h : SrcAt w xo m cp xs 1) (hu : Upd [] w w') : SrcAt w' xo m cp xs 1 :=
  src_upd h hu (fun _ _ _ => by simp)
theorem take_snoc8 (bs : List UInt8) (k : Nat) (h : k < bs.length) : bs.take (k + 1) = bs.take k ++ [bs.getD k 0] := by
  rw [List.take_succ_eq_append_getElem h, List.getD_eq_getElem?_getD, List.getElem?_eq_getElem h]
  rfl

end Go.Proofs.YtcjflnnjieolfaaDoor.Crc
