/- What the argument of RecordOpens holds: a row of acts. -/
import Derived.Test.YtmgdhloehkdffaaDoorLawBytes
import Derived.Test.YtmgdhloehkdffaaDoorDiskA
namespace Go.Proofs.YtmgdhloehkdffaaDoor.Rec
open Go.ChangeShapes Go.WideShapes Go.ChangeAt Go.RowKit Go.Deep Go.Proofs.YtmgdhloehkdffaaDoor.DiskW

theorem open_acts {H : Type} {enc : TypeId × Value → H} {W : World} {fuel : Nat} {ao : Option Addr} {len cap : Nat} {y : DataW H × List MemPlace}
    (hf : DataW.trod enc Tryd.prog W 0 (fun _ => true) true fuel 49 [.slice ao len cap] = some y) :
    len ≤ maxLen ∧ ∃ dos ns bos bls bcs bss, Acts W ao len dos ns bos bls bcs bss := by
  rcases open_slice_fields Tryd.underlying49 Tryd.underlying53 (by kernel_rfl) (by kernel_rfl) hf with ⟨hcs, hx⟩ | ⟨a, len', cap', m, D, Pl, hcs, hb, hl, hm, hmm, hx, hi⟩
  · simp only [List.cons.injEq, Value.slice.injEq, and_true] at hcs
    obtain ⟨rfl, rfl, rfl⟩ := hcs
    exact ⟨by simp [maxLen], fun _ => 0, fun _ => 0, fun _ => none, fun _ => 0, fun _ => 0, fun _ => [], fun i hi => by omega⟩
  · simp only [List.cons.injEq, Value.slice.injEq, and_true] at hcs
    obtain ⟨rfl, rfl, rfl⟩ := hcs
    simp only [if_true] at hmm
    subst hmm
    have hsp : 0 < len → a.spot = none := by
      intro h0
      obtain ⟨ys, n, -, -, -, hfd⟩ := hi 0 (by omega)
      obtain ⟨u0, y0, c0, -, t0⟩ := hfd 0 _ rfl
      have := World.cell?_spot c0
      simpa [Addr.add] using this
    have hrow : ∀ i, ∃ (r : Nat × Int × Option Addr × Nat × Nat × List UInt8), i < len → ∃ b off, a = ⟨b, off, none⟩ ∧ ActAt W b off i r.1 r.2.1 r.2.2.1 r.2.2.2.1 r.2.2.2.2.1 r.2.2.2.2.2 := by
      intro i
      by_cases hlti : i < len
      · obtain ⟨ys, n, -, -, -, hfd⟩ := hi i (by omega)
        obtain ⟨u0, y0, c0, -, t0⟩ := hfd 0 _ rfl
        obtain ⟨u1, y1, c1, -, t1⟩ := hfd 1 _ rfl
        obtain ⟨u2, y2, c2, -, t2⟩ := hfd 2 _ rfl
        obtain ⟨x0, e0, -, w0⟩ := DataW.trod_int Tryd.underlying5 t0
        obtain ⟨x1, e1, -, w1⟩ := DataW.trod_int Tryd.underlying3 t1
        obtain ⟨bo, bl, bc, bs, rfl, h1, h2, h3⟩ := Door.open_bytes t2
        simp only [List.cons.injEq, and_true] at e0 e1
        subst e0 e1
        have b0 := bounds_u8 w0
        have b1 := bounds_i64 w1
        refine ⟨(x0.toNat, x1, bo, bl, bc, bs), fun _ => ?_⟩
        obtain ⟨b, off, spot⟩ := a
        have hspot : spot = none := hsp (by omega)
        subst hspot
        have ad : ∀ j, (⟨b, off, none⟩ : Addr).add j = ⟨b, off + j, none⟩ := fun j => by
          unfold Addr.add; split <;> simp_all
        rw [ad] at c0 c1 c2
        refine ⟨b, off, rfl, ?_, ?_, ?_, ?_, b1.2, h1, h2, h3, b1.1⟩
        · show W.cell? _ = some (.int .u8 (x0.toNat : Nat))
          rw [Int.toNat_of_nonneg b0.1]; exact c0
        · exact c1
        · exact c2
        · show x0.toNat < 256; omega
      · exact ⟨(0, 0, none, 0, 0, []), fun h => absurd h hlti⟩
    refine ⟨by omega, fun i => (hrow i).choose.1, fun i => (hrow i).choose.2.1, fun i => (hrow i).choose.2.2.1, fun i => (hrow i).choose.2.2.2.1, fun i => (hrow i).choose.2.2.2.2.1, fun i => (hrow i).choose.2.2.2.2.2, fun i hlti => ?_⟩
    obtain ⟨b, off, rfl, h⟩ := (hrow i).choose_spec hlti
    exact ⟨b, off, rfl, h⟩
end Go.Proofs.YtmgdhloehkdffaaDoor.Rec
