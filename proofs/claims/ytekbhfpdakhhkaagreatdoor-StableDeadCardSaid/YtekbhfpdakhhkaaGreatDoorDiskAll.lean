/- DiskW3, DiskW4, DiskW5, DiskW6 in one text. -/
import Derived.Test.YtekbhfpdakhhkaaGreatDoorDiskW
import Derived.Deep.RegionHeld
namespace Go.Proofs.YtekbhfpdakhhkaaGreatDoor.DiskW
open Go.RowKit

set_option maxHeartbeats 1000000 in
/-- The fuse is long: all is put behind. -/
theorem append1_fits {D p0 p1 base : Nat} {bv : Value} {d : DS} {bo : Option Addr} {bl bc : Nat} {bs : List UInt8} (w : World) (h : Bx w D p0 p1 base bv d bo bl bc bs) (f : Nat) (hfu : d.fuse = f) (hfl : bl ≤ f) (hfs : f ≤ 9223372036854775807) :
    Calls Tryz.prog 52 #[.pointer (some ⟨p0, 0, none⟩), .pointer (some ⟨p1, 0, none⟩)] w fun e w' => ∃ v, e = .returned v ∧ v = .int .i64 0 ∧ ∃ bv', DiskAt w' D base bv' { d with byt := d.byt ++ bs, fuse := d.fuse - bs.length } ∧
      Upd (D :: bv.ownBlock.toList) w w' ∧ (∀ g, bv'.ownBlock = some g → bv.ownBlock = some g ∨ w.heap.size ≤ g) := by
  have hb1 := h.bb
  have hl1 := h.ok.len
  have hcp0 := blk_cell (i := 0) h.h0 rfl
  have hcp1 := blk_cell (i := 0) h.h1 rfl
  have hc0 := h.disk.c0
  have hc3 := h.disk.c3
  rw [hfu] at hc3
  have hd2 : decide ((f : Int) < bl) = false := by simp; omega
  have hd3 : decide (f < bl) = false := by simp; omega
  have HFU := hide hfu
  have hdp := h.d0
  have hdp1 := h.d1
  simp only [List.getElem_toArray, List.getElem_cons_zero] at hcp0 hcp1
  have hsl : bs.length = bl := by have := h.src.len; simpa using this
  have HSL := hide hsl
  clear hsl hfu
  obtain ⟨i0, hi, hz0, hz1, hz2⟩ := info_parts infoB
  obtain ⟨ao, cap, rfl, hcap1, hcap2, -⟩ := owns_slice h.disk.row
  have H := hide h
  clear h
  go_enter Tryz.func52, Tryz.ntmps52
  go_wp2_with fail
  go_quiet (fail)
  go_wp2_with fail
  refine wp_region_z (fun w' => w'.cell? ⟨p0, 0, none⟩ = some (.pointer (some ⟨D, 0, none⟩)) ∧ w'.cell? ⟨p1, 0, none⟩ = some (.slice bo bl bc) ∧ w'.cell? ⟨D, 0, none⟩ = some (.slice ao d.byt.length cap)) 9 (by kernel_rfl) ?_
  refine wpAnyZ_takeE 0 rfl (by kernel_rfl) (by kernel_rfl) (by kernel_rfl) (by kernel_rfl) (fun _ _ _ _ h => h) rfl (by exact ⟨hcp0, hcp1, hc0⟩) ?_
  apply Exists.intro
  refine ⟨fun wx hS => ?_, ?_⟩
  · obtain ⟨s0, s1, s2⟩ := hS; go_simp; rfl
  simp only [Act.put, List.setIfInBounds_toArray, List.set_cons_succ, List.set_cons_zero, List.getElem_toArray, List.getElem_cons_zero]
  refine wpAnyZ_takeE 1 rfl (by kernel_rfl) (by kernel_rfl) (by kernel_rfl) (by kernel_rfl) (fun _ _ _ _ h => h) rfl (by exact ⟨hcp0, hcp1, hc0⟩) ?_
  apply Exists.intro
  refine ⟨fun wx hS => ?_, ?_⟩
  · obtain ⟨s0, s1, s2⟩ := hS; go_simp; rfl
  simp only [Act.put, List.setIfInBounds_toArray, List.set_cons_succ, List.set_cons_zero, List.getElem_toArray, List.getElem_cons_succ, List.getElem_cons_zero]
  refine wpAnyZ_takeE 2 rfl (by kernel_rfl) (by kernel_rfl) (by kernel_rfl) (by kernel_rfl) (fun _ _ _ _ h => h) rfl (by exact ⟨hcp0, hcp1, hc0⟩) ?_
  apply Exists.intro
  refine ⟨fun wx hS => ?_, ?_⟩
  · obtain ⟨s0, s1, s2⟩ := hS; go_simp; rfl
  simp only [Act.put, List.setIfInBounds_toArray, List.set_cons_succ, List.set_cons_zero, List.getElem_toArray, List.getElem_cons_succ, List.getElem_cons_zero]
  refine wpAnyZ_takeE 3 rfl (by kernel_rfl) (by kernel_rfl) (by kernel_rfl) (by kernel_rfl) (fun _ _ _ _ h => h) rfl (by exact ⟨hcp0, hcp1, hc0⟩) ?_
  apply Exists.intro
  refine ⟨fun wx hS => ?_, ?_⟩
  · obtain ⟨s0, s1, s2⟩ := hS; go_simp; rfl
  simp only [Act.put, List.setIfInBounds_toArray, List.set_cons_succ, List.set_cons_zero, List.getElem_toArray, List.getElem_cons_succ, List.getElem_cons_zero]
  refine wpAnyZ_takeE 4 rfl (by kernel_rfl) (by kernel_rfl) (by kernel_rfl) (by kernel_rfl) (fun _ _ _ _ h => h) rfl (by exact ⟨hcp0, hcp1, hc0⟩) ?_
  apply Exists.intro
  refine ⟨fun wx hS => ?_, ?_⟩
  · obtain ⟨s0, s1, s2⟩ := hS; go_simp; rfl
  simp only [Act.put, List.setIfInBounds_toArray, List.set_cons_succ, List.set_cons_zero, List.getElem_toArray, List.getElem_cons_succ, List.getElem_cons_zero]
  refine wpAnyZ_takeE 5 rfl (by kernel_rfl) (by kernel_rfl) (by kernel_rfl) (by kernel_rfl) (fun _ _ _ _ h => h) rfl (by exact ⟨hcp0, hcp1, hc0⟩) ?_
  apply Exists.intro
  refine ⟨fun wx hS => ?_, ?_⟩
  · obtain ⟨s0, s1, s2⟩ := hS; go_simp; rfl
  simp only [Act.put, List.setIfInBounds_toArray, List.set_cons_succ, List.set_cons_zero, List.getElem_toArray, List.getElem_cons_succ, List.getElem_cons_zero]
  refine wpAnyZ_one 6 (by kernel_rfl) rfl rfl (fun K hK => ?_)
  try simp only [List.getElem_toArray, List.getElem_cons_succ, List.getElem_cons_zero]
  refine wp_append_src _ _ _ 39 rfl base 5 i0 (.int .u8 0) 1 1 Tryz.underlying39 hi hz0 hz1 hz2 rfl (by decide) (.slice ao d.byt.length cap) d.byt.length (d.byt.map u8v) rfl (by exact H.out.disk.row) bo bl bc (bs.map u8v) rfl (by exact ⟨H.out.src.len, H.out.src.one, H.out.src.nil, H.out.src.cells⟩) (by unfold maxLen; omega) (by omega) (by exact H.out.ba) ?_
  intro ao1 cap1 w1 hown1 hU1 hn1
  have hB1 := hU1.get (b := D) H.out.disk.hD (by simpa using H.out.disk.ne)
  have hP0 := hU1.get (b := p0) H.out.h0 (by simpa using H.out.n0)
  have hP1 := hU1.get (b := p1) H.out.h1 (by simpa using H.out.n1)
  have hx0 := blk_cell (i := 0) hB1 rfl
  have hx1 := blk_free (i := 0) hB1
  have hx2 := blk_cell (i := 0) hP0 rfl
  have hx3 := blk_cell (i := 3) hB1 rfl
  have hx5 := blk_cell (i := 0) hP1 rfl
  simp only [List.getElem_toArray, List.getElem_cons_zero, List.getElem_cons_succ] at hx0 hx2 hx3 hx5
  rw [HFU.out] at hx3
  have HP1 := hide hP1
  have hx6 := blk_free (i := 3) hB1
  have HB1 := hide hB1; have HU1 := hide hU1; have HO1 := hide hown1; have HN1 := hide hn1
  clear hB1 hP0 hP1 hU1 hown1 hn1
  refine hK _ _ (.inr ⟨hx2, hx5, hx0⟩) ?_
  clear hK K
  try simp only [Act.put, List.setIfInBounds_toArray, List.set_cons_succ, List.set_cons_zero]
  refine wpAnyZ_one 7 (by kernel_rfl) rfl rfl (fun K hK => ?_)
  try simp only [List.getElem_toArray, List.getElem_cons_succ, List.getElem_cons_zero]
  go_simp
  refine hK _ _ (.inr ⟨hx2, hx5, hx0⟩) ?_
  clear hK K
  try simp only [Act.put, List.setIfInBounds_toArray, List.set_cons_succ, List.set_cons_zero]
  refine wpAnyZ_one 8 (by kernel_rfl) rfl rfl (fun K hK => ?_)
  try simp only [List.getElem_toArray, List.getElem_cons_succ, List.getElem_cons_zero]
  go_simp
  refine hK _ _ (.inr ⟨hx2, hx5, hx0⟩) ?_
  clear hK K
  try simp only [Act.put, List.setIfInBounds_toArray, List.set_cons_succ, List.set_cons_zero]
  refine wpAnyZ_one 9 (by kernel_rfl) rfl rfl (fun K hK => ?_)
  try simp only [List.getElem_toArray, List.getElem_cons_succ, List.getElem_cons_zero]
  go_simp
  refine hK _ _ (.inl rfl) ?_
  clear hK K
  refine wpAnyZ_done (by kernel_rfl) ?_ _
  go_wp2_with fail
  go_region
  go_wp2_with fail
  go_ret
  have hr := H.out.done (k := _ + 1) HU1.out HB1.out HO1.out HSL.out HN1.out
  refine ⟨_, rfl, rfl, _, ?_, (hr.2.1.setCell (.inl (by simp)) _).drew, hr.2.2⟩
  rw [HFU.out, HSL.out]
  exact (hr.1.setFuse _).drewN 1
end Go.Proofs.YtekbhfpdakhhkaaGreatDoor.DiskW
namespace Go.Proofs.YtekbhfpdakhhkaaGreatDoor.DiskW
open Go.RowKit

set_option maxHeartbeats 400000 in
theorem off_any {D base : Nat} {bv : Value} {d : DS} (w : World) (h : DiskAt w D base bv d) :
    Calls Tryz.prog 32 #[.pointer (some ⟨D, 0, none⟩)] w fun e w' => e = .returned (.tuple #[]) ∧ DiskAt w' D base bv { d with dead := true, fuse := -1 } ∧ Upd [D] w w' := by
  have hc2 := h.c2
  have hc3 := h.c3
  have hf2 := h.fr 2
  have hf3 := h.fr 3
  have H := hide h
  clear h
  go_enter Tryz.func32, Tryz.ntmps32
  go_wp2_with fail
  go_end0
  exact ⟨rfl, (H.out.setDead true).setFuse (-1), ((Upd.refl _ _).setCell (.inl (by simp)) _).setCell (.inl (by simp)) _⟩

theorem src_take {w : World} {bo : Option Addr} {bl bc : Nat} {bs : List UInt8} (h : SrcAt w bo bl bc (bs.map u8v) 1) (m : Nat) (hm : m < bl) : SrcAt w bo m bc ((bs.take m).map u8v) 1 := by
  have hl := h.len
  simp at hl
  refine ⟨by simp; omega, fun u hu => ?_, fun e => by have := h.nil e; omega, fun a e j u hj => h.cells a e j u ?_⟩
  · obtain ⟨x, -, rfl⟩ := List.mem_map.1 hu
    rfl
  · rw [List.map_take, List.getElem?_take] at hj
    split at hj
    · exact hj
    · cases hj

set_option maxHeartbeats 1000000 in
/-- The fuse burns. -/
theorem append1_torn {D p0 p1 base : Nat} {bv : Value} {d : DS} {bo : Option Addr} {bl bc : Nat} {bs : List UInt8} (w : World) (h : Bx w D p0 p1 base bv d bo bl bc bs) (f : Nat) (hfu : d.fuse = f) (hfl : f < bl) (hbc : bl ≤ bc) :
    Calls Tryz.prog 52 #[.pointer (some ⟨p0, 0, none⟩), .pointer (some ⟨p1, 0, none⟩)] w fun e w' => ∃ v, e = .returned v ∧ v = .int .i64 21 ∧ ∃ bv', DiskAt w' D base bv' { byt := d.byt ++ bs.take f, syn := d.syn, dead := true, fuse := -1 } ∧
      Upd (D :: bv.ownBlock.toList) w w' ∧ (∀ g, bv'.ownBlock = some g → bv.ownBlock = some g ∨ w.heap.size ≤ g) := by
  have hb1 := h.bb
  have hl1 := h.ok.len
  have hcp0 := blk_cell (i := 0) h.h0 rfl
  have hcp1 := blk_cell (i := 0) h.h1 rfl
  have hc0 := h.disk.c0
  have hc3 := h.disk.c3
  rw [hfu] at hc3
  have hf0 := h.disk.fr 0
  have hd2 : decide ((f : Int) < bl) = true := by simp; omega
  have hd3 : decide (f < bl) = true := by simp; omega
  have hfb : f ≤ bc := by omega
  have hdp := h.d0
  have hdp1 := h.d1
  simp only [List.getElem_toArray, List.getElem_cons_zero] at hcp0 hcp1
  have hsl : bs.length = bl := by have := h.src.len; simpa using this
  have hst : (bs.take f).length = f := by simp; omega
  have HST := hide hst
  have HFU := hide hfu
  obtain ⟨a, rfl⟩ : ∃ a, bo = some a := by
    cases bo with
    | none => have := (h.src.nil rfl).1; omega
    | some a => exact ⟨a, rfl⟩
  have HS := hide (src_take h.src f hfl)
  clear hsl hst hfu
  obtain ⟨i0, hi, hz0, hz1, hz2⟩ := info_parts infoB
  obtain ⟨ao, cap, rfl, hcap1, hcap2, -⟩ := owns_slice h.disk.row
  have H := hide h
  clear h
  go_enter Tryz.func52, Tryz.ntmps52
  go_wp2_with fail
  go_quiet (fail)
  go_wp2_with fail
  refine wp_region_z (fun w' => w'.cell? ⟨p0, 0, none⟩ = some (.pointer (some ⟨D, 0, none⟩)) ∧ w'.cell? ⟨p1, 0, none⟩ = some (.slice (some a) bl bc) ∧ w'.cell? ⟨D, 0, none⟩ = some (.slice ao d.byt.length cap) ∧ w'.cell? ⟨D, 3, none⟩ = some (.int .i64 f)) 14 (by kernel_rfl) ?_
  refine wpAnyZ_takeE 0 rfl (by kernel_rfl) (by kernel_rfl) (by kernel_rfl) (by kernel_rfl) (fun _ _ _ _ h => h) rfl (by exact ⟨hcp0, hcp1, hc0, hc3⟩) ?_
  apply Exists.intro
  refine ⟨fun wx hS => ?_, ?_⟩
  · obtain ⟨s0, s1, s2, s3⟩ := hS; go_simp; rfl
  simp only [Act.put, List.setIfInBounds_toArray, List.set_cons_succ, List.set_cons_zero, List.getElem_toArray, List.getElem_cons_zero]
  refine wpAnyZ_takeE 1 rfl (by kernel_rfl) (by kernel_rfl) (by kernel_rfl) (by kernel_rfl) (fun _ _ _ _ h => h) rfl (by exact ⟨hcp0, hcp1, hc0, hc3⟩) ?_
  apply Exists.intro
  refine ⟨fun wx hS => ?_, ?_⟩
  · obtain ⟨s0, s1, s2, s3⟩ := hS; go_simp; rfl
  simp only [Act.put, List.setIfInBounds_toArray, List.set_cons_succ, List.set_cons_zero, List.getElem_toArray, List.getElem_cons_succ, List.getElem_cons_zero]
  refine wpAnyZ_takeE 2 rfl (by kernel_rfl) (by kernel_rfl) (by kernel_rfl) (by kernel_rfl) (fun _ _ _ _ h => h) rfl (by exact ⟨hcp0, hcp1, hc0, hc3⟩) ?_
  apply Exists.intro
  refine ⟨fun wx hS => ?_, ?_⟩
  · obtain ⟨s0, s1, s2, s3⟩ := hS; go_simp; rfl
  simp only [Act.put, List.setIfInBounds_toArray, List.set_cons_succ, List.set_cons_zero, List.getElem_toArray, List.getElem_cons_succ, List.getElem_cons_zero]
  refine wpAnyZ_takeE 3 rfl (by kernel_rfl) (by kernel_rfl) (by kernel_rfl) (by kernel_rfl) (fun _ _ _ _ h => h) rfl (by exact ⟨hcp0, hcp1, hc0, hc3⟩) ?_
  apply Exists.intro
  refine ⟨fun wx hS => ?_, ?_⟩
  · obtain ⟨s0, s1, s2, s3⟩ := hS; go_simp; rfl
  simp only [Act.put, List.setIfInBounds_toArray, List.set_cons_succ, List.set_cons_zero, List.getElem_toArray, List.getElem_cons_succ, List.getElem_cons_zero]
  refine wpAnyZ_takeE 4 rfl (by kernel_rfl) (by kernel_rfl) (by kernel_rfl) (by kernel_rfl) (fun _ _ _ _ h => h) rfl (by exact ⟨hcp0, hcp1, hc0, hc3⟩) ?_
  apply Exists.intro
  refine ⟨fun wx hS => ?_, ?_⟩
  · obtain ⟨s0, s1, s2, s3⟩ := hS; go_simp; rfl
  simp only [Act.put, List.setIfInBounds_toArray, List.set_cons_succ, List.set_cons_zero, List.getElem_toArray, List.getElem_cons_succ, List.getElem_cons_zero]
  refine wpAnyZ_takeE 5 rfl (by kernel_rfl) (by kernel_rfl) (by kernel_rfl) (by kernel_rfl) (fun _ _ _ _ h => h) rfl (by exact ⟨hcp0, hcp1, hc0, hc3⟩) ?_
  apply Exists.intro
  refine ⟨fun wx hS => ?_, ?_⟩
  · obtain ⟨s0, s1, s2, s3⟩ := hS; go_simp; rfl
  simp only [Act.put, List.setIfInBounds_toArray, List.set_cons_succ, List.set_cons_zero, List.getElem_toArray, List.getElem_cons_succ, List.getElem_cons_zero]
  refine wpAnyZ_takeE 6 rfl (by kernel_rfl) (by kernel_rfl) (by kernel_rfl) (by kernel_rfl) (fun _ _ _ _ h => h) rfl (by exact ⟨hcp0, hcp1, hc0, hc3⟩) ?_
  apply Exists.intro
  refine ⟨fun wx hS => ?_, ?_⟩
  · obtain ⟨s0, s1, s2, s3⟩ := hS; go_simp; rfl
  simp only [Act.put, List.setIfInBounds_toArray, List.set_cons_succ, List.set_cons_zero, List.getElem_toArray, List.getElem_cons_succ, List.getElem_cons_zero]
  refine wpAnyZ_takeE 7 rfl (by kernel_rfl) (by kernel_rfl) (by kernel_rfl) (by kernel_rfl) (fun _ _ _ _ h => h) rfl (by exact ⟨hcp0, hcp1, hc0, hc3⟩) ?_
  apply Exists.intro
  refine ⟨fun wx hS => ?_, ?_⟩
  · obtain ⟨s0, s1, s2, s3⟩ := hS; go_simp; rfl
  simp only [Act.put, List.setIfInBounds_toArray, List.set_cons_succ, List.set_cons_zero, List.getElem_toArray, List.getElem_cons_succ, List.getElem_cons_zero]
  refine wpAnyZ_takeE 8 rfl (by kernel_rfl) (by kernel_rfl) (by kernel_rfl) (by kernel_rfl) (fun _ _ _ _ h => h) rfl (by exact ⟨hcp0, hcp1, hc0, hc3⟩) ?_
  apply Exists.intro
  refine ⟨fun wx hS => ?_, ?_⟩
  · obtain ⟨s0, s1, s2, s3⟩ := hS; go_simp; rfl
  simp only [Act.put, List.setIfInBounds_toArray, List.set_cons_succ, List.set_cons_zero, List.getElem_toArray, List.getElem_cons_succ, List.getElem_cons_zero]
  refine wpAnyZ_takeE 9 rfl (by kernel_rfl) (by kernel_rfl) (by kernel_rfl) (by kernel_rfl) (fun _ _ _ _ h => h) rfl (by exact ⟨hcp0, hcp1, hc0, hc3⟩) ?_
  apply Exists.intro
  refine ⟨fun wx hS => ?_, ?_⟩
  · obtain ⟨s0, s1, s2, s3⟩ := hS; go_simp; rfl
  simp only [Act.put, List.setIfInBounds_toArray, List.set_cons_succ, List.set_cons_zero, List.getElem_toArray, List.getElem_cons_succ, List.getElem_cons_zero]
  refine wpAnyZ_takeE 10 rfl (by kernel_rfl) (by kernel_rfl) (by kernel_rfl) (by kernel_rfl) (fun _ _ _ _ h => h) rfl (by exact ⟨hcp0, hcp1, hc0, hc3⟩) ?_
  apply Exists.intro
  refine ⟨fun wx hS => ?_, ?_⟩
  · obtain ⟨s0, s1, s2, s3⟩ := hS; go_simp; rfl
  simp only [Act.put, List.setIfInBounds_toArray, List.set_cons_succ, List.set_cons_zero, List.getElem_toArray, List.getElem_cons_succ, List.getElem_cons_zero]
  refine wpAnyZ_one 11 (by kernel_rfl) rfl rfl (fun K hK => ?_)
  try simp only [List.getElem_toArray, List.getElem_cons_succ, List.getElem_cons_zero]
  refine wp_append_src _ _ _ 39 rfl base 5 i0 (.int .u8 0) 1 1 Tryz.underlying39 hi hz0 hz1 hz2 rfl (by decide) (.slice ao d.byt.length cap) d.byt.length (d.byt.map u8v) rfl (by exact H.out.disk.row) (some a) f bc ((bs.take f).map u8v) rfl (by exact ⟨HS.out.len, HS.out.one, HS.out.nil, HS.out.cells⟩) (by unfold maxLen; omega) (by omega) (by exact H.out.ba) ?_
  intro ao1 cap1 w1 hown1 hU1 hn1
  have hB1 := hU1.get (b := D) H.out.disk.hD (by simpa using H.out.disk.ne)
  have hP0 := hU1.get (b := p0) H.out.h0 (by simpa using H.out.n0)
  have hP1 := hU1.get (b := p1) H.out.h1 (by simpa using H.out.n1)
  have hx0 := blk_cell (i := 0) hB1 rfl
  have hx1 := blk_free (i := 0) hB1
  have hx2 := blk_cell (i := 0) hP0 rfl
  have hx3 := blk_cell (i := 3) hB1 rfl
  have hx5 := blk_cell (i := 0) hP1 rfl
  simp only [List.getElem_toArray, List.getElem_cons_zero, List.getElem_cons_succ] at hx0 hx2 hx3 hx5
  rw [HFU.out] at hx3
  have HB1 := hide hB1; have HU1 := hide hU1; have HO1 := hide hown1; have HN1 := hide hn1
  clear hB1 hP0 hP1 hU1 hown1 hn1
  refine hK _ _ (.inr ⟨hx2, hx5, hx0, hx3⟩) ?_
  clear hK K
  simp only [Act.put, List.setIfInBounds_toArray, List.set_cons_succ, List.set_cons_zero]
  refine wpAnyZ_one 12 (by kernel_rfl) rfl rfl (fun K hK => ?_)
  try simp only [List.getElem_toArray, List.getElem_cons_succ, List.getElem_cons_zero]
  go_simp
  refine hK _ _ (.inr ⟨hx2, hx5, hx0, hx3⟩) ?_
  clear hK K
  try simp only [Act.put, List.setIfInBounds_toArray, List.set_cons_succ, List.set_cons_zero]
  refine wpAnyZ_one 13 (by kernel_rfl) rfl rfl (fun K hK => ?_)
  try simp only [List.getElem_toArray, List.getElem_cons_succ, List.getElem_cons_zero]
  go_simp
  refine hK _ _ (.inr ⟨hx2, hx5, hx0, hx3⟩) ?_
  clear hK K
  try simp only [Act.put, List.setIfInBounds_toArray, List.set_cons_succ, List.set_cons_zero]
  refine wpAnyZ_one 14 (by kernel_rfl) rfl rfl (fun K hK => ?_)
  try simp only [List.getElem_toArray, List.getElem_cons_succ, List.getElem_cons_zero]
  go_simp
  refine hK _ _ (.inl rfl) ?_
  clear hK K
  refine wpAnyZ_done (by kernel_rfl) ?_ _
  have hr := H.out.done (k := _ + 1) HU1.out HB1.out HO1.out HST.out HN1.out
  have HR := hide hr
  clear hr
  go_wp2_with fail
  refine (off_any _ HR.out.1).mono ?_
  rintro e w2 ⟨rfl, hd2, hu2⟩
  have HD := hide hd2; have HU := hide hu2
  clear hd2 hu2
  go_wp2_with fail
  go_ret
  refine ⟨_, rfl, rfl, _, HD.out, HR.out.2.1.trans (HU.out.mono (by simp)), fun g hg => ?_⟩
  exact HR.out.2.2 g hg
end Go.Proofs.YtekbhfpdakhhkaaGreatDoor.DiskW
namespace Go.Proofs.YtekbhfpdakhhkaaGreatDoor.DiskW
set_option maxRecDepth 100000
open Go.RowKit

/-- A block that holds the disk's bytes. -/
def OwnAt (w : World) (D k : Nat) : Prop := ∃ bv, w.cell? ⟨D, 0, none⟩ = some bv ∧ bv.ownBlock = some k
theorem DiskAt.ownAt {w : World} {D base k : Nat} {bv : Value} {d : DS} (h : DiskAt w D base bv d) : OwnAt w D k ↔ bv.ownBlock = some k := by
  constructor
  · rintro ⟨bv', h1, h2⟩
    rw [h.c0] at h1
    cases h1
    exact h2
  · exact fun h1 => ⟨bv, h.c0, h1⟩
/-- Only the disk and its bytes have been turned; its bytes lie where they lay, or are new. -/
structure Near (D : Nat) (w w' : World) : Prop where
  upd : ∃ S, Upd S w w' ∧ ∀ k, k ∈ S → k = D ∨ OwnAt w D k
  own : ∀ k, OwnAt w' D k → OwnAt w D k ∨ w.heap.size ≤ k
theorem Near.refl (D : Nat) (w : World) : Near D w w := ⟨⟨[], Upd.refl _ _, by simp⟩, fun _ h => .inl h⟩
theorem Near.pre {D : Nat} {w w1 w' : World} (h : Near D w1 w') (hu : Upd [] w w1) (hD : D < w.heap.size) : Near D w w' := by
  have hc : ∀ k, OwnAt w1 D k → OwnAt w D k := fun k ⟨bv, h1, h2⟩ => ⟨bv, by
    rw [← h1]
    have := hu.block D hD (by simp)
    simp only [World.cell?, this], h2⟩
  obtain ⟨S, h1, h2⟩ := h.upd
  have h4 : Upd (S.filter (· < w.heap.size)) w w' := (hu.mono (by simp)).trans_new h1 (fun k hk => by
    rcases Nat.lt_or_ge k w.heap.size with h3 | h3
    · exact .inl (List.mem_filter.2 ⟨hk, by simpa using h3⟩)
    · exact .inr h3)
  refine ⟨⟨_, h4, fun k hk => ?_⟩, fun k hk => ?_⟩
  · rcases h2 k (List.mem_filter.1 hk).1 with h3 | h3
    · exact .inl h3
    · exact .inr (hc k h3)
  · rcases h.own k hk with h3 | h3
    · exact .inl (hc k h3)
    · exact .inr (Nat.le_trans hu.size h3)
/-- An act's answer and what it leaves. -/
def Done (w : World) (D base : Nat) (r : DS × Int) (e : Ending) (w' : World) : Prop :=
  ∃ v, e = .returned v ∧ v = .int .i64 r.2 ∧ ∃ bv', DiskAt w' D base bv' r.1 ∧ Below base w w' ∧ Near D w w'

theorem Done.intro {w w' : World} {D base : Nat} {bv bv' : Value} {d d' : DS} {x : Int} {S : List Nat} (h : DiskAt w D base bv d) (hD : base ≤ D) (hb : base ≤ w.heap.size) (h' : DiskAt w' D base bv' d') (hu : Upd S w w')
    (hS : ∀ k, k ∈ S → k = D ∨ bv.ownBlock = some k) (hN : ∀ k, bv'.ownBlock = some k → bv.ownBlock = some k ∨ w.heap.size ≤ k) : Done w D base (d', x) (.returned (.int .i64 x)) w' :=
  ⟨_, rfl, rfl, bv', h', hu.below (fun k hk => by
    rcases hS k hk with rfl | h1
    · exact hD
    · exact (owns_lt h.row k h1).1) hb, ⟨⟨S, hu, fun k hk => (hS k hk).imp id h.ownAt.2⟩, fun k hk => (hN k (h'.ownAt.1 hk)).imp h.ownAt.2 id⟩⟩

theorem Done.pre {w w1 w' : World} {D base : Nat} {r : DS × Int} {e : Ending} (h : Done w1 D base r e w') (hu : Upd [] w w1) (hD : D < w.heap.size) (hb : base ≤ w.heap.size) : Done w D base r e w' := by
  obtain ⟨v, h1, h2, bv', h3, h4, h5⟩ := h
  exact ⟨v, h1, h2, bv', h3, (hu.below (by simp) hb).trans h4, h5.pre hu hD⟩
theorem powered_done {D base g : Nat} {bv : Value} {d : DS} {cap : Array Value} {r : DS × Int} (w : World) (h : DiskAt w D base bv d) (eg : ∀ args w, (callFunc g args).run Tryz.prog w = .ok (.enter g args) w)
    (hoff : d.dead = true → r = (d, 20)) (hon : d.dead = false → Calls Tryz.prog g cap w fun e w' => Done w D base r e w') :
    Calls Tryz.prog 30 #[.pointer (some ⟨D, 0, none⟩), .func (.func g) #[] cap] w fun e w' => Done w D base r e w' := by
  cases hd : d.dead with
  | true =>
    refine (powered_dead w (by rw [h.c2, hd])).mono ?_
    rintro e w' ⟨rfl, rfl⟩
    rw [hoff hd]
    exact ⟨_, rfl, rfl, bv, h, Below.refl _ _, Near.refl _ _⟩
  | false =>
    refine (powered_on (R := fun v w' => v = .int .i64 r.2 ∧ ∃ bv', DiskAt w' D base bv' r.1 ∧ Below base w w' ∧ Near D w w') w (by rw [h.c2, hd]) eg (hon hd)).mono ?_
    exact fun e w' h => h
theorem DiskAt.allocs {w : World} {D base : Nat} {bv : Value} {d : DS} (h : DiskAt w D base bv d) (o : Obj) : DiskAt (w.alloc o) D base bv d :=
  h.upd ((Upd.refl [] w).alloc o) (by simp) (fun _ _ => by simp)
theorem below_alloc {w : World} {B : Nat} (hB : B ≤ w.heap.size) (o : Obj) : Below B w (w.alloc o) := ((Upd.refl [] w).alloc o).below (by simp) hB

set_option maxHeartbeats 400000 in
theorem sync_any {D base : Nat} {bv : Value} {d : DS} (w : World) (h : DiskAt w D base bv d) (hD : base ≤ D) (hb : base ≤ w.heap.size) :
    Calls Tryz.prog 61 #[.pointer (some ⟨D, 0, none⟩)] w fun e w' => Done w D base d.sync e w' := by
  have H := hide h
  clear h
  go_enter Tryz.func61, Tryz.ntmps61
  go_wp2_with fail
  refine (powered_done _ (H.out.allocs _) (fun _ _ => rfl) (fun hd => by simp [DS.sync, hd]) (fun hd => ?_) : Calls _ _ _ _ (fun e w' => Done _ D base d.sync e w')).mono ?_
  · refine (sync1 _ (H.out.allocs _) (cell_new1 rfl)).mono ?_
    rintro e w' ⟨v, rfl, rfl, h1, h2⟩
    simp only [DS.sync, hd, if_false, Bool.false_eq_true]
    rw [hd] at h1
    exact Done.intro (H.out.allocs _) hD (by simp; omega) h1 h2 (by simp) (fun _ h => .inl h)
  · rintro e w' ⟨v, rfl, rfl, h1⟩
    have H1 := hide h1
    clear h1
    go_wp2_with fail
    go_ret
    exact Done.pre ⟨_, rfl, rfl, H1.out⟩ ((Upd.refl [] _).alloc _) (blk_lt H.out.hD) hb

theorem DiskAt.take {w : World} {D base : Nat} {ao : Option Addr} {cap : Nat} {d : DS} (h : DiskAt w D base (.slice ao d.byt.length cap) d) (m : Nat) (hm : m ≤ d.byt.length) :
    DiskAt (w.setCell ⟨D, 0, none⟩ (.slice ao m cap)) D base (.slice ao m cap) { d with byt := d.byt.take m } := by
  have hne : (Value.slice ao m cap).ownBlock ≠ some D := by
    have := h.ne
    cases ao with
    | none => simp [Value.ownBlock]
    | some a => simpa [Value.ownBlock] using this
  refine ⟨blk_set h.hD _, ?_, hne⟩
  refine ownsRow_setCell_other ?_ hne _
  have hl : (d.byt.take m).length = m := by simp; omega
  show w.ownsRow base 5 1 _ (d.byt.take m).length ((d.byt.take m).map u8v)
  rw [hl]
  refine ⟨by simp; omega, ?_⟩
  rcases h.row.2 with ⟨h1, h2⟩ | ⟨g, c, cur, h1, h2, h3, h4, h5, h6, h7⟩
  · injection h1 with e1 e2 e3
    exact .inl ⟨by rw [show m = 0 by omega, e1, e3], by omega⟩
  · injection h1 with e1 e2 e3
    subst e1 e3
    refine .inr ⟨g, cap, cur, rfl, h2, h3, by omega, h5, h6, ?_⟩
    rw [List.map_take, ← h7, List.take_take]
    congr 1
    omega
set_option maxHeartbeats 400000 in
theorem cut1_no {D base p q : Nat} {bv : Value} {d : DS} {n : Int} (w : World) (h : DiskAt w D base bv d) (hp : w.cell? ⟨p, 0, none⟩ = some (.int .i64 n)) (hq : w.cell? ⟨q, 0, none⟩ = some (.pointer (some ⟨D, 0, none⟩)))
    (hn : n < d.syn ∨ d.byt.length < n) : Calls Tryz.prog 81 #[.pointer (some ⟨p, 0, none⟩), .pointer (some ⟨q, 0, none⟩)] w fun e w' => ∃ v, e = .returned v ∧ v = .int .i64 1 ∧ ∃ k, w' = w.drewN k := by
  have hc0 := h.c0
  have hc1 := h.c1
  obtain ⟨ao, cap, rfl, hcap1, hcap2, -⟩ := owns_slice h.row
  clear h
  by_cases hn1 : n < d.syn
  · have hd1 : decide (n < d.syn) = true := by simpa using hn1
    clear hn hn1
    go_enter Tryz.func81, Tryz.ntmps81
    go_wp2_with fail
    go_quiet (fail)
    go_wp2_with fail
    go_ret
    exact ⟨_, rfl, rfl, _, rfl⟩
  · have hd1 : decide (n < d.syn) = false := by simpa using hn1
    have hd2 : decide ((d.byt.length : Int) < n) = true := by simpa using hn.resolve_left hn1
    clear hn hn1
    go_enter Tryz.func81, Tryz.ntmps81
    go_wp2_with fail
    go_quiet (fail)
    go_wp2_with fail
    go_ret
    exact ⟨_, rfl, rfl, _, rfl⟩
set_option maxHeartbeats 400000 in
theorem cut1_yes {D base p q : Nat} {bv : Value} {d : DS} {m : Nat} (w : World) (h : DiskAt w D base bv d) (hp : w.cell? ⟨p, 0, none⟩ = some (.int .i64 m)) (hq : w.cell? ⟨q, 0, none⟩ = some (.pointer (some ⟨D, 0, none⟩)))
    (hn1 : d.syn ≤ m) (hn2 : m ≤ d.byt.length) (_ : D ≠ p) (_ : D ≠ q) : Calls Tryz.prog 81 #[.pointer (some ⟨p, 0, none⟩), .pointer (some ⟨q, 0, none⟩)] w fun e w' => ∃ v, e = .returned v ∧ v = .int .i64 0 ∧ ∃ bv', DiskAt w' D base bv' { d with byt := d.byt.take m } ∧ Upd [D] w w' ∧ ∀ k, bv'.ownBlock = some k → bv.ownBlock = some k := by
  have hc0 := h.c0
  have hc1 := h.c1
  have hf := h.fr 0
  obtain ⟨ao, cap, rfl, hcap1, hcap2, -⟩ := owns_slice h.row
  have hd1 : decide ((m : Int) < d.syn) = false := by simp; omega
  have hd3 : decide (m < d.syn) = false := by simp; omega
  have hd2 : decide ((d.byt.length : Int) < m) = false := by simp; omega
  have hd4 : decide (d.byt.length < m) = false := by simp; omega
  have hmc : m ≤ cap := by omega
  have H := hide h
  clear h
  go_enter Tryz.func81, Tryz.ntmps81
  go_wp2_with fail
  go_quiet (fail)
  go_wp2_with fail
  go_region
  go_wp2_with fail
  go_ret
  exact ⟨_, rfl, rfl, _, (H.out.drewN _).take m hn2, ((Upd.refl _ _).drewN _).setCell (.inl (by simp)) _, fun k hk => by cases ao <;> exact hk⟩
set_option maxHeartbeats 400000 in
theorem crash1_cut {D base p q : Nat} {bv : Value} {d : DS} {m : Nat} (w : World) (h : DiskAt w D base bv d) (hp : w.cell? ⟨p, 0, none⟩ = some (.int .i64 m)) (hq : w.cell? ⟨q, 0, none⟩ = some (.pointer (some ⟨D, 0, none⟩)))
    (hl : d.byt.length ≤ 1000000000000) (hs : d.syn ≤ d.byt.length) (hn2 : m < d.byt.length - d.syn) (hDp : D ≠ p) (hDq : D ≠ q) : Calls Tryz.prog 31 #[.pointer (some ⟨q, 0, none⟩), .pointer (some ⟨p, 0, none⟩)] w fun e w' => ∃ v, e = .returned v ∧ v = .int .i64 0 ∧ ∃ bv', DiskAt w' D base bv' { byt := d.byt.take (d.syn + m), syn := d.syn, dead := true, fuse := -1 } ∧ Upd [D] w w' ∧ ∀ k, bv'.ownBlock = some k → bv.ownBlock = some k := by
  have hc0 := h.c0
  have hc1 := h.c1
  have hf := h.fr 0
  obtain ⟨ao, cap, rfl, hcap1, hcap2, -⟩ := owns_slice h.row
  have hd1 : decide ((0 : Int) ≤ m) = true := by simp
  have hd2 : decide ((m : Int) < (d.byt.length : Int) - d.syn) = true := by simp; omega
  have hmc : d.syn + m ≤ cap := by omega
  have hml : d.syn + m ≤ d.byt.length := by omega
  have H := hide h
  clear h
  go_enter Tryz.func31, Tryz.ntmps31
  go_wp2_with fail
  go_quiet (fail)
  go_wp2_with fail
  go_region
  go_wp2_with fail
  refine (off_any _ ((H.out.drewN _).take (d.syn + m) hml)).mono ?_
  rintro e w2 ⟨rfl, hd2, hu2⟩
  have HD := hide hd2; have HU := hide hu2
  clear hd2 hu2
  go_wp2_with fail
  go_ret
  exact ⟨_, rfl, rfl, _, HD.out, (((Upd.refl _ _).drewN _).setCell (.inl (by simp)) _).trans HU.out, fun k hk => by cases ao <;> exact hk⟩
set_option maxHeartbeats 400000 in
theorem crash1_all {D base p q : Nat} {bv : Value} {d : DS} {n : Int} (w : World) (h : DiskAt w D base bv d) (hp : w.cell? ⟨p, 0, none⟩ = some (.int .i64 n)) (hq : w.cell? ⟨q, 0, none⟩ = some (.pointer (some ⟨D, 0, none⟩)))
    (hl : d.byt.length ≤ 1000000000000) (hs : d.syn ≤ d.byt.length) (hn2 : ¬ (0 ≤ n ∧ n < (d.byt.length : Int) - d.syn)) : Calls Tryz.prog 31 #[.pointer (some ⟨q, 0, none⟩), .pointer (some ⟨p, 0, none⟩)] w fun e w' => ∃ v, e = .returned v ∧ v = .int .i64 0 ∧ DiskAt w' D base bv { byt := d.byt, syn := d.syn, dead := true, fuse := -1 } ∧ Upd [D] w w' := by
  have hc0 := h.c0
  have hc1 := h.c1
  obtain ⟨ao, cap, rfl, hcap1, hcap2, -⟩ := owns_slice h.row
  by_cases hn : 0 ≤ n
  · have hd1 : decide (0 ≤ n) = true := by simpa using hn
    have hd2 : decide (n < (d.byt.length : Int) - d.syn) = false := by simp; omega
    clear hn hn2
    have H := hide h
    clear h
    go_enter Tryz.func31, Tryz.ntmps31
    go_wp2_with fail
    go_quiet (fail)
    go_wp2_with fail
    refine (off_any _ (H.out.drewN _)).mono ?_
    rintro e w2 ⟨rfl, hd2, hu2⟩
    have HD := hide hd2; have HU := hide hu2
    clear hd2 hu2
    go_wp2_with fail
    go_ret
    exact ⟨_, rfl, rfl, HD.out, ((Upd.refl _ _).drewN _).trans HU.out⟩
  · have hd1 : decide (0 ≤ n) = false := by simpa using hn
    clear hn hn2
    have H := hide h
    clear h
    go_enter Tryz.func31, Tryz.ntmps31
    go_wp2_with fail
    go_quiet (fail)
    go_wp2_with fail
    refine (off_any _ (H.out.drewN _)).mono ?_
    rintro e w2 ⟨rfl, hd2, hu2⟩
    have HD := hide hd2; have HU := hide hu2
    clear hd2 hu2
    go_wp2_with fail
    go_ret
    exact ⟨_, rfl, rfl, HD.out, ((Upd.refl _ _).drewN _).trans HU.out⟩
end Go.Proofs.YtekbhfpdakhhkaaGreatDoor.DiskW
namespace Go.Proofs.YtekbhfpdakhhkaaGreatDoor.DiskW
set_option maxRecDepth 100000
open Go.RowKit

theorem src_allocs {w : World} {bo : Option Addr} {bl bc : Nat} {xs : List Value} (h : SrcAt w bo bl bc xs 1) (o : Obj) : SrcAt (w.alloc o) bo bl bc xs 1 :=
  ⟨h.len, h.one, h.nil, fun a e j u hj => by
    have h1 := h.cells a e j u hj
    rw [World.cell?_alloc_some w _ o (by rw [h1]; rfl)]
    exact h1⟩
theorem blk_new1 {w : World} {b : Nat} (h : b = w.heap.size) (o : Obj) : (w.alloc o).heap[b]? = some o := by subst h; exact blk_new w o
theorem src_of_owns {w : World} {base n : Nat} {e : TypeId} {ao : Option Addr} {cap : Nat} {xs : List Value} (h : w.ownsRow base e 1 (.slice ao n cap) n xs) (h1 : ∀ u ∈ xs, u.oneCell' = true) : SrcAt w ao n cap xs 1 := by
  obtain ⟨ao', cap', e1, -, -, h3⟩ := owns_slice h
  cases e1
  refine ⟨h.1, h1, fun e => ?_, fun a e j u hj => ?_⟩
  · rcases h.2 with ⟨e2, e3⟩ | ⟨g, c, cur, e2, -⟩
    · cases e2; exact ⟨rfl, rfl⟩
    · rw [e] at e2; cases e2
  · obtain ⟨g, e4, -, -, e5⟩ := h3 j u hj
    rw [e] at e4
    cases e4
    by_cases h0 : j = 0
    · subst h0; simpa [Addr.add] using e5
    · simpa [Addr.add, h0] using e5
set_option maxHeartbeats 400000 in
theorem cut_any {D base : Nat} {bv : Value} {d : DS} {n : Int} (w : World) (h : DiskAt w D base bv d) (hD : base ≤ D) (hb : base ≤ w.heap.size) :
    Calls Tryz.prog 60 #[.pointer (some ⟨D, 0, none⟩), .int .i64 n] w fun e w' => Done w D base (d.cut n) e w' := by
  have H := hide h
  clear h
  go_enter Tryz.func60, Tryz.ntmps60
  go_wp2_with fail
  refine (powered_done _ ((H.out.allocs _).allocs _) (fun _ _ => rfl) (fun hd => by simp [DS.cut, hd]) (fun hd => ?_) : Calls _ _ _ _ (fun e w' => Done _ D base (d.cut n) e w')).mono ?_
  · have hDl := blk_lt H.out.hD
    by_cases hn : n < d.syn ∨ (d.byt.length : Int) < n
    · refine (cut1_no _ ((H.out.allocs _).allocs _) (cell_new1 (by simp)) (by simp) hn).mono ?_
      rintro e w' ⟨v, rfl, rfl, k, rfl⟩
      simp only [DS.cut, hd, hn, if_false, Bool.false_eq_true, if_true]
      have hd' := ((H.out.allocs (.cells #[.pointer (some ⟨D, 0, none⟩)] 29)).allocs (.cells #[.int .i64 n] 3)).drewN k
      exact Done.intro ((H.out.allocs _).allocs _) hD (by simp; omega) hd' ((Upd.refl [] _).drewN k) (by simp) (fun _ h => .inl h)
    · obtain ⟨m, rfl⟩ : ∃ m : Nat, n = m := ⟨n.toNat, by omega⟩
      refine (cut1_yes _ ((H.out.allocs _).allocs _) (cell_new1 (by simp)) (by simp) (by omega) (by omega) (by omega) (by omega)).mono ?_
      rintro e w' ⟨v, rfl, rfl, bv', h1, h2, h3⟩
      simp only [DS.cut, hd, hn, if_false, Bool.false_eq_true, Int.toNat_natCast]
      rw [hd] at h1
      exact Done.intro ((H.out.allocs _).allocs _) hD (by simp; omega) h1 h2 (by simp) (fun k h => .inl (h3 k h))
  · rintro e w' ⟨v, rfl, rfl, h1⟩
    have H1 := hide h1
    clear h1
    go_wp2_with fail
    go_ret
    exact Done.pre ⟨_, rfl, rfl, H1.out⟩ (((Upd.refl [] _).alloc _).alloc _) (blk_lt H.out.hD) hb
set_option maxHeartbeats 400000 in
theorem crash_any {D base : Nat} {bv : Value} {d : DS} {n : Int} (w : World) (h : DiskAt w D base bv d) (hok : d.Ok 1000000000000) (hD : base ≤ D) (hb : base ≤ w.heap.size) :
    Calls Tryz.prog 9 #[.pointer (some ⟨D, 0, none⟩), .int .i64 n] w fun e w' => Done w D base (d.crash n) e w' := by
  have H := hide h
  clear h
  go_enter Tryz.func9, Tryz.ntmps9
  go_wp2_with fail
  refine (powered_done _ ((H.out.allocs _).allocs _) (fun _ _ => rfl) (fun hd => by simp [DS.crash, hd]) (fun hd => ?_) : Calls _ _ _ _ (fun e w' => Done _ D base (d.crash n) e w')).mono ?_
  · have hDl := blk_lt H.out.hD
    by_cases hn : 0 ≤ n ∧ n < (d.byt.length : Int) - d.syn
    · obtain ⟨m, rfl⟩ : ∃ m : Nat, n = m := ⟨n.toNat, by omega⟩
      refine (crash1_cut _ ((H.out.allocs _).allocs _) (cell_new1 (by simp)) (by simp) hok.len hok.syn (by omega) (by omega) (by omega)).mono ?_
      rintro e w' ⟨v, rfl, rfl, bv', h1, h2, h3⟩
      simp only [DS.crash, hd, hn, if_false, Bool.false_eq_true, and_self, if_true, Int.toNat_natCast]
      exact Done.intro ((H.out.allocs _).allocs _) hD (by simp; omega) h1 h2 (by simp) (fun k h => .inl (h3 k h))
    · refine (crash1_all _ ((H.out.allocs _).allocs _) (cell_new1 (by simp)) (by simp) hok.len hok.syn hn).mono ?_
      rintro e w' ⟨v, rfl, rfl, h1, h2⟩
      simp only [DS.crash, hd, hn, if_false, Bool.false_eq_true]
      exact Done.intro ((H.out.allocs _).allocs _) hD (by simp; omega) h1 h2 (by simp) (fun _ h => .inl h)
  · rintro e w' ⟨v, rfl, rfl, h1⟩
    have H1 := hide h1
    clear h1
    go_wp2_with fail
    go_ret
    exact Done.pre ⟨_, rfl, rfl, H1.out⟩ (((Upd.refl [] _).alloc _).alloc _) (blk_lt H.out.hD) hb
set_option maxHeartbeats 400000 in
theorem append_any {D base : Nat} {bv : Value} {d : DS} {bo : Option Addr} {bl bc : Nat} {bs : List UInt8} (w : World) (h : DiskAt w D base bv d) (hD : base ≤ D) (hb : base ≤ w.heap.size) (hs : SrcAt w bo bl bc (bs.map u8v) 1) (hbc : bl ≤ bc) (hB : bl ≤ 1000000000000) (hok : d.Ok 1000000000000) :
    Calls Tryz.prog 27 #[.pointer (some ⟨D, 0, none⟩), .slice bo bl bc] w fun e w' => Done w D base (d.append bs) e w' := by
  have H := hide h
  clear h
  go_enter Tryz.func27, Tryz.ntmps27
  go_wp2_with fail
  refine (powered_done _ ((H.out.allocs _).allocs _) (fun _ _ => rfl) (fun hd => by simp [DS.append, hd]) (fun hd => ?_) : Calls _ _ _ _ (fun e w' => Done _ D base (d.append bs) e w')).mono ?_
  · have hDl := blk_lt H.out.hD
    have hlen : bs.length = bl := by have := hs.len; simpa using this
    have hbx := Bx.mk (p0 := w.heap.size) (p1 := w.heap.size + 1) ((H.out.allocs (.cells #[.pointer (some ⟨D, 0, none⟩)] 29)).allocs (.cells #[.slice bo bl bc] 39)) (blk_alloc (blk_new _ _) _) (blk_new1 (by simp) _) (fun e => by have := (owns_lt H.out.row _ e).2; omega) (fun e => by have := (owns_lt H.out.row _ e).2; omega) (by omega) (by omega) (src_allocs (src_allocs hs _) _) hok hB (by simp; omega)
    have hS : ∀ k, k ∈ D :: bv.ownBlock.toList → k = D ∨ bv.ownBlock = some k := by simp
    by_cases h0 : 0 ≤ d.fuse
    · obtain ⟨f, hf⟩ : ∃ m : Nat, d.fuse = m := ⟨d.fuse.toNat, by omega⟩
      by_cases hfl : f < bl
      · refine (append1_torn _ hbx f hf hfl hbc).mono ?_
        rintro e w' ⟨v, rfl, rfl, bv', h1, h2, h3⟩
        have : d.append bs = ({ byt := d.byt ++ bs.take f, syn := d.syn, dead := true, fuse := -1 }, 21) := by
          simp [DS.append, hd, hf, hlen, hfl]
        rw [this]
        exact Done.intro ((H.out.allocs _).allocs _) hD (by simp; omega) h1 h2 hS h3
      · refine (append1_fits _ hbx f hf (by omega) (by have := hok.hi; omega)).mono ?_
        rintro e w' ⟨v, rfl, rfl, bv', h1, h2, h3⟩
        have : d.append bs = ({ d with byt := d.byt ++ bs, fuse := d.fuse - bs.length }, 0) := by
          simp [DS.append, hd, hf, hlen, hfl]
        rw [this]
        exact Done.intro ((H.out.allocs _).allocs _) hD (by simp; omega) h1 h2 hS h3
    · refine (append1_free _ hbx (by omega)).mono ?_
      rintro e w' ⟨v, rfl, rfl, bv', h1, h2, h3⟩
      have : d.append bs = ({ d with byt := d.byt ++ bs }, 0) := by
        simp [DS.append, hd, h0]
      rw [this]
      exact Done.intro ((H.out.allocs _).allocs _) hD (by simp; omega) h1 h2 hS h3
  · rintro e w' ⟨v, rfl, rfl, h1⟩
    have H1 := hide h1
    clear h1
    go_wp2_with fail
    go_ret
    exact Done.pre ⟨_, rfl, rfl, H1.out⟩ (((Upd.refl [] _).alloc _).alloc _) (blk_lt H.out.hD) hb
set_option maxHeartbeats 400000 in
theorem restart_any {D base : Nat} {bv : Value} {d : DS} (w : World) (h : DiskAt w D base bv d) (hD : base ≤ D) (hb : base ≤ w.heap.size) :
    Calls Tryz.prog 17 #[.pointer (some ⟨D, 0, none⟩)] w fun e w' => Done w D base d.restart e w' := by
  have hf := h.fr 2
  have hc := h.c2
  have H := hide h
  clear h
  go_enter Tryz.func17, Tryz.ntmps17
  go_wp2_with fail
  go_ret
  exact Done.intro H.out hD hb (H.out.setDead false) ((Upd.refl [D] _).setCell (.inl (by simp)) _) (by simp) (fun _ h => .inl h)
set_option maxHeartbeats 400000 in
theorem synced_any {D base : Nat} {bv : Value} {d : DS} (w : World) (h : DiskAt w D base bv d) :
    Calls Tryz.prog 56 #[.pointer (some ⟨D, 0, none⟩)] w fun e w' => e = .returned (.int .i64 d.syn) ∧ w = w' := by
  have hc := h.c1
  clear h
  go_enter Tryz.func56, Tryz.ntmps56
  go_wp2_with fail
  go_ret
  exact ⟨rfl, rfl⟩
set_option maxHeartbeats 400000 in
theorem dead_any {D base : Nat} {bv : Value} {d : DS} (w : World) (h : DiskAt w D base bv d) :
    Calls Tryz.prog 54 #[.pointer (some ⟨D, 0, none⟩)] w fun e w' => e = .returned (.bool d.dead) ∧ w = w' := by
  have hc := h.c2
  clear h
  go_enter Tryz.func54, Tryz.ntmps54
  go_wp2_with fail
  go_ret
  exact ⟨rfl, rfl⟩
set_option maxHeartbeats 400000 in
theorem new_any (w : World) :
    Calls Tryz.prog 6 #[] w fun e w' => ∃ v, e = .returned v ∧ v = .pointer (some ⟨w.heap.size, 0, none⟩) ∧ DiskAt w' w.heap.size w.heap.size (.slice none 0 0) ⟨[], 0, false, -1⟩ ∧ Upd [] w w' := by
  go_enter Tryz.func6, Tryz.ntmps6
  go_wp2_with fail
  go_ret
  refine ⟨_, rfl, rfl, ⟨blk_new _ _, ?_, by simp [Value.ownBlock]⟩, (Upd.refl _ _).alloc _⟩
  exact ⟨rfl, .inl ⟨rfl, rfl⟩⟩
set_option maxHeartbeats 400000 in
theorem bytes_any {D base : Nat} {bv : Value} {d : DS} (w : World) (h : DiskAt w D base bv d) (_ : base ≤ w.heap.size) (hl : d.byt.length ≤ 1000000000000) :
    Calls Tryz.prog 55 #[.pointer (some ⟨D, 0, none⟩)] w fun e w' => ∃ v, e = .returned v ∧ w'.ownsRow w.heap.size 5 1 v d.byt.length (d.byt.map u8v) ∧ Upd [] w w' := by
  have hc := h.c0
  obtain ⟨i0, hi, hz0, hz1, hz2⟩ := info_parts infoB
  obtain ⟨ao, cap, rfl, hcap1, hcap2, -⟩ := owns_slice h.row
  have H := hide h
  clear h
  go_enter Tryz.func55, Tryz.ntmps55
  go_wp2_with (at_builtin; go_must (refine wpList_append_src _ rfl _ _ 39 rfl w.heap.size 5 i0 (.int .u8 0) 1 1 Tryz.underlying39 hi hz0 hz1 hz2 rfl (by decide) (.slice none 0 0) 0 [] rfl ⟨rfl, .inl ⟨rfl, rfl⟩⟩ ao d.byt.length cap (d.byt.map u8v) rfl (src_of_owns H.out.row (by simp [u8v, Value.oneCell'])) (by unfold maxLen; omega) (by omega) (Nat.le_refl _) ?_))
  intro ao1 cap1 w1 hown1 hU1 hn1
  have HO := hide hown1; have HU := hide hU1
  clear hown1 hU1 hn1
  go_wp2_with fail
  go_ret
  exact ⟨_, rfl, by simpa using HO.out, HU.out⟩
end Go.Proofs.YtekbhfpdakhhkaaGreatDoor.DiskW
