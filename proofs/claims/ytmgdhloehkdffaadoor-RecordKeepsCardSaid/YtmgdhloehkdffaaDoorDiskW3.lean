/- The disk: an append within the fuse. -/
import Derived.Test.YtmgdhloehkdffaaDoorDiskW
namespace Go.Proofs.YtmgdhloehkdffaaDoor.DiskW
open Go.RowKit

set_option maxHeartbeats 1000000 in
/-- The fuse is long: all is put behind. -/
theorem append1_fits {D p0 p1 base : Nat} {bv : Value} {d : DS} {bo : Option Addr} {bl bc : Nat} {bs : List UInt8} (w : World) (h : Bx w D p0 p1 base bv d bo bl bc bs) (f : Nat) (hfu : d.fuse = f) (hfl : bl ≤ f) (hfs : f ≤ 9223372036854775807) :
    Calls Tryd.prog 59 #[.pointer (some ⟨p0, 0, none⟩), .pointer (some ⟨p1, 0, none⟩)] w fun e w' => ∃ v, e = .returned v ∧ v = .int .i64 0 ∧ ∃ bv', DiskAt w' D base bv' { d with byt := d.byt ++ bs, fuse := d.fuse - bs.length } ∧
      Upd (D :: bv.ownBlock.toList) w w' ∧ (∀ g, bv'.ownBlock = some g → bv.ownBlock = some g ∨ w.heap.size ≤ g) := by
  have hb1 := h.bb
  have hl1 := h.ok.len
  have hcp0 := blk_cell (i := 0) h.h0 rfl
  have hcp1 := blk_cell (i := 0) h.h1 rfl
  have hc0 := h.disk.c0
  have hc3 := h.disk.c3
  rw [hfu] at hc3
  have hd2 : decide ((f : Int) < bl) = false := by simp; omega
  have hd3 : decide (f < bl) = false := by simp; omega
  have HFU := hide hfu
  have hdp := h.d0
  have hdp1 := h.d1
  simp only [List.getElem_toArray, List.getElem_cons_zero] at hcp0 hcp1
  have hsl : bs.length = bl := by have := h.src.len; simpa using this
  have HSL := hide hsl
  clear hsl hfu
  obtain ⟨i0, hi, hz0, hz1, hz2⟩ := info_parts infoB
  obtain ⟨ao, cap, rfl, hcap1, hcap2, -⟩ := owns_slice h.disk.row
  have H := hide h
  clear h
  go_enter Tryd.func59, Tryd.ntmps59
  go_wp2_with fail
  go_quiet (fail)
  go_wp2_with fail
  refine wp_region_z (fun w' => w'.cell? ⟨p0, 0, none⟩ = some (.pointer (some ⟨D, 0, none⟩)) ∧ w'.cell? ⟨p1, 0, none⟩ = some (.slice bo bl bc) ∧ w'.cell? ⟨D, 0, none⟩ = some (.slice ao d.byt.length cap)) 9 (by kernel_rfl) ?_
  refine wpAnyZ_takeE 0 rfl (by kernel_rfl) (by kernel_rfl) (by kernel_rfl) (by kernel_rfl) (fun _ _ _ _ h => h) rfl (by exact ⟨hcp0, hcp1, hc0⟩) ?_
  apply Exists.intro
  refine ⟨fun wx hS => ?_, ?_⟩
  · obtain ⟨s0, s1, s2⟩ := hS; go_simp; rfl
  simp only [Act.put, List.setIfInBounds_toArray, List.set_cons_succ, List.set_cons_zero, List.getElem_toArray, List.getElem_cons_zero]
  refine wpAnyZ_takeE 1 rfl (by kernel_rfl) (by kernel_rfl) (by kernel_rfl) (by kernel_rfl) (fun _ _ _ _ h => h) rfl (by exact ⟨hcp0, hcp1, hc0⟩) ?_
  apply Exists.intro
  refine ⟨fun wx hS => ?_, ?_⟩
  · obtain ⟨s0, s1, s2⟩ := hS; go_simp; rfl
  simp only [Act.put, List.setIfInBounds_toArray, List.set_cons_succ, List.set_cons_zero, List.getElem_toArray, List.getElem_cons_succ, List.getElem_cons_zero]
  refine wpAnyZ_takeE 2 rfl (by kernel_rfl) (by kernel_rfl) (by kernel_rfl) (by kernel_rfl) (fun _ _ _ _ h => h) rfl (by exact ⟨hcp0, hcp1, hc0⟩) ?_
  apply Exists.intro
  refine ⟨fun wx hS => ?_, ?_⟩
  · obtain ⟨s0, s1, s2⟩ := hS; go_simp; rfl
  simp only [Act.put, List.setIfInBounds_toArray, List.set_cons_succ, List.set_cons_zero, List.getElem_toArray, List.getElem_cons_succ, List.getElem_cons_zero]
  refine wpAnyZ_takeE 3 rfl (by kernel_rfl) (by kernel_rfl) (by kernel_rfl) (by kernel_rfl) (fun _ _ _ _ h => h) rfl (by exact ⟨hcp0, hcp1, hc0⟩) ?_
  apply Exists.intro
  refine ⟨fun wx hS => ?_, ?_⟩
  · obtain ⟨s0, s1, s2⟩ := hS; go_simp; rfl
  simp only [Act.put, List.setIfInBounds_toArray, List.set_cons_succ, List.set_cons_zero, List.getElem_toArray, List.getElem_cons_succ, List.getElem_cons_zero]
  refine wpAnyZ_takeE 4 rfl (by kernel_rfl) (by kernel_rfl) (by kernel_rfl) (by kernel_rfl) (fun _ _ _ _ h => h) rfl (by exact ⟨hcp0, hcp1, hc0⟩) ?_
  apply Exists.intro
  refine ⟨fun wx hS => ?_, ?_⟩
  · obtain ⟨s0, s1, s2⟩ := hS; go_simp; rfl
  simp only [Act.put, List.setIfInBounds_toArray, List.set_cons_succ, List.set_cons_zero, List.getElem_toArray, List.getElem_cons_succ, List.getElem_cons_zero]
  refine wpAnyZ_takeE 5 rfl (by kernel_rfl) (by kernel_rfl) (by kernel_rfl) (by kernel_rfl) (fun _ _ _ _ h => h) rfl (by exact ⟨hcp0, hcp1, hc0⟩) ?_
  apply Exists.intro
  refine ⟨fun wx hS => ?_, ?_⟩
  · obtain ⟨s0, s1, s2⟩ := hS; go_simp; rfl
  simp only [Act.put, List.setIfInBounds_toArray, List.set_cons_succ, List.set_cons_zero, List.getElem_toArray, List.getElem_cons_succ, List.getElem_cons_zero]
  refine wpAnyZ_one 6 (by kernel_rfl) rfl rfl (fun K hK => ?_)
  try simp only [List.getElem_toArray, List.getElem_cons_succ, List.getElem_cons_zero]
  refine wp_append_src _ _ _ 22 rfl base 5 i0 (.int .u8 0) 1 1 Tryd.underlying22 hi hz0 hz1 hz2 rfl (by decide) (.slice ao d.byt.length cap) d.byt.length (d.byt.map u8v) rfl (by exact H.out.disk.row) bo bl bc (bs.map u8v) rfl (by exact ⟨H.out.src.len, H.out.src.one, H.out.src.nil, H.out.src.cells⟩) (by unfold maxLen; omega) (by omega) (by exact H.out.ba) ?_
  intro ao1 cap1 w1 hown1 hU1 hn1
  have hB1 := hU1.get (b := D) H.out.disk.hD (by simpa using H.out.disk.ne)
  have hP0 := hU1.get (b := p0) H.out.h0 (by simpa using H.out.n0)
  have hP1 := hU1.get (b := p1) H.out.h1 (by simpa using H.out.n1)
  have hx0 := blk_cell (i := 0) hB1 rfl
  have hx1 := blk_free (i := 0) hB1
  have hx2 := blk_cell (i := 0) hP0 rfl
  have hx3 := blk_cell (i := 3) hB1 rfl
  have hx5 := blk_cell (i := 0) hP1 rfl
  simp only [List.getElem_toArray, List.getElem_cons_zero, List.getElem_cons_succ] at hx0 hx2 hx3 hx5
  rw [HFU.out] at hx3
  have HP1 := hide hP1
  have hx6 := blk_free (i := 3) hB1
  have HB1 := hide hB1; have HU1 := hide hU1; have HO1 := hide hown1; have HN1 := hide hn1
  clear hB1 hP0 hP1 hU1 hown1 hn1
  refine hK _ _ (.inr ⟨hx2, hx5, hx0⟩) ?_
  clear hK K
  try simp only [Act.put, List.setIfInBounds_toArray, List.set_cons_succ, List.set_cons_zero]
  refine wpAnyZ_one 7 (by kernel_rfl) rfl rfl (fun K hK => ?_)
  try simp only [List.getElem_toArray, List.getElem_cons_succ, List.getElem_cons_zero]
  go_simp
  refine hK _ _ (.inr ⟨hx2, hx5, hx0⟩) ?_
  clear hK K
  try simp only [Act.put, List.setIfInBounds_toArray, List.set_cons_succ, List.set_cons_zero]
  refine wpAnyZ_one 8 (by kernel_rfl) rfl rfl (fun K hK => ?_)
  try simp only [List.getElem_toArray, List.getElem_cons_succ, List.getElem_cons_zero]
  go_simp
  refine hK _ _ (.inr ⟨hx2, hx5, hx0⟩) ?_
  clear hK K
  try simp only [Act.put, List.setIfInBounds_toArray, List.set_cons_succ, List.set_cons_zero]
  refine wpAnyZ_one 9 (by kernel_rfl) rfl rfl (fun K hK => ?_)
  try simp only [List.getElem_toArray, List.getElem_cons_succ, List.getElem_cons_zero]
  go_simp
  refine hK _ _ (.inl rfl) ?_
  clear hK K
  refine wpAnyZ_done (by kernel_rfl) ?_ _
  go_wp2_with fail
  go_region
  go_wp2_with fail
  go_ret
  have hr := H.out.done (k := _ + 1) HU1.out HB1.out HO1.out HSL.out HN1.out
  refine ⟨_, rfl, rfl, _, ?_, (hr.2.1.setCell (.inl (by simp)) _).drew, hr.2.2⟩
  rw [HFU.out, HSL.out]
  exact (hr.1.setFuse _).drewN 1
end Go.Proofs.YtmgdhloehkdffaaDoor.DiskW
