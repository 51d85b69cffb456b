/- varint.Text: a text's bytes behind a row that the caller owns. -/
import Derived.Test.YthpnnffogbjhpaaGreatDoorKvMJ
import Derived.Test.YthpnnffogbjhpaaGreatDoorKvPure
import Derived.Test.YthpnnffogbjhpaaGreatDoorVarAll
set_option linter.unusedSimpArgs false
set_option linter.unusedVariables false
set_option linter.unnecessarySimpa false
namespace Go.Proofs.YthpnnffogbjhpaaGreatDoor.Kv
set_option linter.unusedSimpArgs false
set_option linter.unusedVariables false
open Go.RowKit Go.Lib Go.Proofs.YthpnnffogbjhpaaGreatDoor.Crc Go.Proofs.YthpnnffogbjhpaaGreatDoor.Cm Go.Proofs.YthpnnffogbjhpaaGreatDoor.Var

theorem Grew.trans {w w1 w2 : World} {base : Nat} {v v1 v2 : Value} {b1 b2 : List UInt8} (h : Grew w base v b1 v1 w1) (k : Grew w1 base v1 b2 v2 w2) (hz : w.heap.size ≤ w1.heap.size) : Grew w base v b2 v2 w2 :=
  ⟨k.own, h.upd.trans_new k.upd (fun g hm => by
    have hg : v1.ownBlock = some g := by simpa using hm
    rcases h.new g hg with h1 | h1
    · exact .inl (by simp [h1])
    · exact .inr h1), fun g hg => by
    rcases k.new g hg with h1 | h1
    · exact h.new g h1
    · exact .inr (by omega)⟩
theorem Grew.upd_nil {w w1 w2 : World} {base : Nat} {v v1 : Value} {b1 : List UInt8} (h : Grew w base v b1 v1 w1) (hu : Upd [] w1 w2) : Grew w base v b1 v1 w2 :=
  ⟨owns_upd h.own hu (by simp), h.upd.trans (hu.mono (by simp)), h.new⟩
set_option maxRecDepth 100000 in
set_option maxHeartbeats 1000000 in
theorem text_any {base : Nat} {v : Value} {bs s : List UInt8} (w : World) (hv : w.ownsRow base 5 1 v bs.length (bs.map u8v)) (hb : base ≤ w.heap.size) (hl : bs.length ≤ 1000000000) (hs : s.length ≤ 1000000000) :
    Calls Tryz.prog 66 #[v, .string (strOf s)] w fun e w' => ∃ v', e = .returned v' ∧ Grew w base v (bs ++ txB s) v' w' := by
  have hz := strOf_size s
  obtain ⟨i0, hi, hz0, hz1, hz2⟩ := info_parts infoB
  obtain ⟨ao, cap, rfl, -, -, -⟩ := owns_slice hv
  have HV := hide hv
  clear hv
  go_enter Tryz.func66, Tryz.ntmps66
  go_wp2_with fail
  refine (uint_any (base := base) (n := s.length) _ HV.out hb (by omega) (by omega)).mono ?_
  rintro e w1 ⟨v1, rfl, h1⟩
  have hul := uv_len10 (n := s.length) (by omega)
  have hz1' := h1.upd.size
  have G1 := hide h1
  clear h1
  go_wp2_with (at_builtin; go_must (refine wpList_append_mystr _ rfl _ _ 22 9 rfl base 5 i0 Tryz.underlying22 Tryz.underlying9 hi hz0 hz1 hz2 v1 _ _ rfl G1.out.own (strOf s) rfl (by rw [hz, List.length_append]; unfold maxLen; omega) (by rw [hz, List.length_append]; omega) (by omega) ?_))
  intro v2 w2 ho hu hn
  have hg2 : Grew w1 base v1 (bs ++ txB s) v2 w2 := ⟨by simpa [strCells_of, Nat.add_assoc, txB] using ho, hu, hn⟩
  have HG := hide (Grew.trans G1.out hg2 hz1')
  clear ho hu hn hg2 hz G1
  go_wp2_with fail
  go_ret
  exact ⟨_, rfl, HG.out⟩
end Go.Proofs.YthpnnffogbjhpaaGreatDoor.Kv
