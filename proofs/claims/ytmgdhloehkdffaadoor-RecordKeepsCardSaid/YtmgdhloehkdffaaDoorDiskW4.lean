/- The disk: a torn append. -/
import Derived.Test.YtmgdhloehkdffaaDoorDiskW3
namespace Go.Proofs.YtmgdhloehkdffaaDoor.DiskW
open Go.RowKit

set_option maxHeartbeats 400000 in
theorem off_any {D base : Nat} {bv : Value} {d : DS} (w : World) (h : DiskAt w D base bv d) :
    Calls Tryd.prog 49 #[.pointer (some ⟨D, 0, none⟩)] w fun e w' => e = .returned (.tuple #[]) ∧ DiskAt w' D base bv { d with dead := true, fuse := -1 } ∧ Upd [D] w w' := by
  have hc2 := h.c2
  have hc3 := h.c3
  have hf2 := h.fr 2
  have hf3 := h.fr 3
  have H := hide h
  clear h
  go_enter Tryd.func49, Tryd.ntmps49
  go_wp2_with fail
  go_end0
  exact ⟨rfl, (H.out.setDead true).setFuse (-1), ((Upd.refl _ _).setCell (.inl (by simp)) _).setCell (.inl (by simp)) _⟩

theorem src_take {w : World} {bo : Option Addr} {bl bc : Nat} {bs : List UInt8} (h : SrcAt w bo bl bc (bs.map u8v) 1) (m : Nat) (hm : m < bl) : SrcAt w bo m bc ((bs.take m).map u8v) 1 := by
  have hl := h.len
  simp at hl
  refine ⟨by simp; omega, fun u hu => ?_, fun e => by have := h.nil e; omega, fun a e j u hj => h.cells a e j u ?_⟩
  · obtain ⟨x, -, rfl⟩ := List.mem_map.1 hu
    rfl
  · rw [List.map_take, List.getElem?_take] at hj
    split at hj
    · exact hj
    · cases hj

set_option maxHeartbeats 1000000 in
/-- The fuse burns. -/
theorem append1_torn {D p0 p1 base : Nat} {bv : Value} {d : DS} {bo : Option Addr} {bl bc : Nat} {bs : List UInt8} (w : World) (h : Bx w D p0 p1 base bv d bo bl bc bs) (f : Nat) (hfu : d.fuse = f) (hfl : f < bl) (hbc : bl ≤ bc) :
    Calls Tryd.prog 59 #[.pointer (some ⟨p0, 0, none⟩), .pointer (some ⟨p1, 0, none⟩)] w fun e w' => ∃ v, e = .returned v ∧ v = .int .i64 21 ∧ ∃ bv', DiskAt w' D base bv' { byt := d.byt ++ bs.take f, syn := d.syn, dead := true, fuse := -1 } ∧
      Upd (D :: bv.ownBlock.toList) w w' ∧ (∀ g, bv'.ownBlock = some g → bv.ownBlock = some g ∨ w.heap.size ≤ g) := by
  have hb1 := h.bb
  have hl1 := h.ok.len
  have hcp0 := blk_cell (i := 0) h.h0 rfl
  have hcp1 := blk_cell (i := 0) h.h1 rfl
  have hc0 := h.disk.c0
  have hc3 := h.disk.c3
  rw [hfu] at hc3
  have hf0 := h.disk.fr 0
  have hd2 : decide ((f : Int) < bl) = true := by simp; omega
  have hd3 : decide (f < bl) = true := by simp; omega
  have hfb : f ≤ bc := by omega
  have hdp := h.d0
  have hdp1 := h.d1
  simp only [List.getElem_toArray, List.getElem_cons_zero] at hcp0 hcp1
  have hsl : bs.length = bl := by have := h.src.len; simpa using this
  have hst : (bs.take f).length = f := by simp; omega
  have HST := hide hst
  have HFU := hide hfu
  obtain ⟨a, rfl⟩ : ∃ a, bo = some a := by
    cases bo with
    | none => have := (h.src.nil rfl).1; omega
    | some a => exact ⟨a, rfl⟩
  have HS := hide (src_take h.src f hfl)
  clear hsl hst hfu
  obtain ⟨i0, hi, hz0, hz1, hz2⟩ := info_parts infoB
  obtain ⟨ao, cap, rfl, hcap1, hcap2, -⟩ := owns_slice h.disk.row
  have H := hide h
  clear h
  go_enter Tryd.func59, Tryd.ntmps59
  go_wp2_with fail
  go_quiet (fail)
  go_wp2_with fail
  refine wp_region_z (fun w' => w'.cell? ⟨p0, 0, none⟩ = some (.pointer (some ⟨D, 0, none⟩)) ∧ w'.cell? ⟨p1, 0, none⟩ = some (.slice (some a) bl bc) ∧ w'.cell? ⟨D, 0, none⟩ = some (.slice ao d.byt.length cap) ∧ w'.cell? ⟨D, 3, none⟩ = some (.int .i64 f)) 14 (by kernel_rfl) ?_
  refine wpAnyZ_takeE 0 rfl (by kernel_rfl) (by kernel_rfl) (by kernel_rfl) (by kernel_rfl) (fun _ _ _ _ h => h) rfl (by exact ⟨hcp0, hcp1, hc0, hc3⟩) ?_
  apply Exists.intro
  refine ⟨fun wx hS => ?_, ?_⟩
  · obtain ⟨s0, s1, s2, s3⟩ := hS; go_simp; rfl
  simp only [Act.put, List.setIfInBounds_toArray, List.set_cons_succ, List.set_cons_zero, List.getElem_toArray, List.getElem_cons_zero]
  refine wpAnyZ_takeE 1 rfl (by kernel_rfl) (by kernel_rfl) (by kernel_rfl) (by kernel_rfl) (fun _ _ _ _ h => h) rfl (by exact ⟨hcp0, hcp1, hc0, hc3⟩) ?_
  apply Exists.intro
  refine ⟨fun wx hS => ?_, ?_⟩
  · obtain ⟨s0, s1, s2, s3⟩ := hS; go_simp; rfl
  simp only [Act.put, List.setIfInBounds_toArray, List.set_cons_succ, List.set_cons_zero, List.getElem_toArray, List.getElem_cons_succ, List.getElem_cons_zero]
  refine wpAnyZ_takeE 2 rfl (by kernel_rfl) (by kernel_rfl) (by kernel_rfl) (by kernel_rfl) (fun _ _ _ _ h => h) rfl (by exact ⟨hcp0, hcp1, hc0, hc3⟩) ?_
  apply Exists.intro
  refine ⟨fun wx hS => ?_, ?_⟩
  · obtain ⟨s0, s1, s2, s3⟩ := hS; go_simp; rfl
  simp only [Act.put, List.setIfInBounds_toArray, List.set_cons_succ, List.set_cons_zero, List.getElem_toArray, List.getElem_cons_succ, List.getElem_cons_zero]
  refine wpAnyZ_takeE 3 rfl (by kernel_rfl) (by kernel_rfl) (by kernel_rfl) (by kernel_rfl) (fun _ _ _ _ h => h) rfl (by exact ⟨hcp0, hcp1, hc0, hc3⟩) ?_
  apply Exists.intro
  refine ⟨fun wx hS => ?_, ?_⟩
  · obtain ⟨s0, s1, s2, s3⟩ := hS; go_simp; rfl
  simp only [Act.put, List.setIfInBounds_toArray, List.set_cons_succ, List.set_cons_zero, List.getElem_toArray, List.getElem_cons_succ, List.getElem_cons_zero]
  refine wpAnyZ_takeE 4 rfl (by kernel_rfl) (by kernel_rfl) (by kernel_rfl) (by kernel_rfl) (fun _ _ _ _ h => h) rfl (by exact ⟨hcp0, hcp1, hc0, hc3⟩) ?_
  apply Exists.intro
  refine ⟨fun wx hS => ?_, ?_⟩
  · obtain ⟨s0, s1, s2, s3⟩ := hS; go_simp; rfl
  simp only [Act.put, List.setIfInBounds_toArray, List.set_cons_succ, List.set_cons_zero, List.getElem_toArray, List.getElem_cons_succ, List.getElem_cons_zero]
  refine wpAnyZ_takeE 5 rfl (by kernel_rfl) (by kernel_rfl) (by kernel_rfl) (by kernel_rfl) (fun _ _ _ _ h => h) rfl (by exact ⟨hcp0, hcp1, hc0, hc3⟩) ?_
  apply Exists.intro
  refine ⟨fun wx hS => ?_, ?_⟩
  · obtain ⟨s0, s1, s2, s3⟩ := hS; go_simp; rfl
  simp only [Act.put, List.setIfInBounds_toArray, List.set_cons_succ, List.set_cons_zero, List.getElem_toArray, List.getElem_cons_succ, List.getElem_cons_zero]
  refine wpAnyZ_takeE 6 rfl (by kernel_rfl) (by kernel_rfl) (by kernel_rfl) (by kernel_rfl) (fun _ _ _ _ h => h) rfl (by exact ⟨hcp0, hcp1, hc0, hc3⟩) ?_
  apply Exists.intro
  refine ⟨fun wx hS => ?_, ?_⟩
  · obtain ⟨s0, s1, s2, s3⟩ := hS; go_simp; rfl
  simp only [Act.put, List.setIfInBounds_toArray, List.set_cons_succ, List.set_cons_zero, List.getElem_toArray, List.getElem_cons_succ, List.getElem_cons_zero]
  refine wpAnyZ_takeE 7 rfl (by kernel_rfl) (by kernel_rfl) (by kernel_rfl) (by kernel_rfl) (fun _ _ _ _ h => h) rfl (by exact ⟨hcp0, hcp1, hc0, hc3⟩) ?_
  apply Exists.intro
  refine ⟨fun wx hS => ?_, ?_⟩
  · obtain ⟨s0, s1, s2, s3⟩ := hS; go_simp; rfl
  simp only [Act.put, List.setIfInBounds_toArray, List.set_cons_succ, List.set_cons_zero, List.getElem_toArray, List.getElem_cons_succ, List.getElem_cons_zero]
  refine wpAnyZ_takeE 8 rfl (by kernel_rfl) (by kernel_rfl) (by kernel_rfl) (by kernel_rfl) (fun _ _ _ _ h => h) rfl (by exact ⟨hcp0, hcp1, hc0, hc3⟩) ?_
  apply Exists.intro
  refine ⟨fun wx hS => ?_, ?_⟩
  · obtain ⟨s0, s1, s2, s3⟩ := hS; go_simp; rfl
  simp only [Act.put, List.setIfInBounds_toArray, List.set_cons_succ, List.set_cons_zero, List.getElem_toArray, List.getElem_cons_succ, List.getElem_cons_zero]
  refine wpAnyZ_takeE 9 rfl (by kernel_rfl) (by kernel_rfl) (by kernel_rfl) (by kernel_rfl) (fun _ _ _ _ h => h) rfl (by exact ⟨hcp0, hcp1, hc0, hc3⟩) ?_
  apply Exists.intro
  refine ⟨fun wx hS => ?_, ?_⟩
  · obtain ⟨s0, s1, s2, s3⟩ := hS; go_simp; rfl
  simp only [Act.put, List.setIfInBounds_toArray, List.set_cons_succ, List.set_cons_zero, List.getElem_toArray, List.getElem_cons_succ, List.getElem_cons_zero]
  refine wpAnyZ_takeE 10 rfl (by kernel_rfl) (by kernel_rfl) (by kernel_rfl) (by kernel_rfl) (fun _ _ _ _ h => h) rfl (by exact ⟨hcp0, hcp1, hc0, hc3⟩) ?_
  apply Exists.intro
  refine ⟨fun wx hS => ?_, ?_⟩
  · obtain ⟨s0, s1, s2, s3⟩ := hS; go_simp; rfl
  simp only [Act.put, List.setIfInBounds_toArray, List.set_cons_succ, List.set_cons_zero, List.getElem_toArray, List.getElem_cons_succ, List.getElem_cons_zero]
  refine wpAnyZ_one 11 (by kernel_rfl) rfl rfl (fun K hK => ?_)
  try simp only [List.getElem_toArray, List.getElem_cons_succ, List.getElem_cons_zero]
  refine wp_append_src _ _ _ 22 rfl base 5 i0 (.int .u8 0) 1 1 Tryd.underlying22 hi hz0 hz1 hz2 rfl (by decide) (.slice ao d.byt.length cap) d.byt.length (d.byt.map u8v) rfl (by exact H.out.disk.row) (some a) f bc ((bs.take f).map u8v) rfl (by exact ⟨HS.out.len, HS.out.one, HS.out.nil, HS.out.cells⟩) (by unfold maxLen; omega) (by omega) (by exact H.out.ba) ?_
  intro ao1 cap1 w1 hown1 hU1 hn1
  have hB1 := hU1.get (b := D) H.out.disk.hD (by simpa using H.out.disk.ne)
  have hP0 := hU1.get (b := p0) H.out.h0 (by simpa using H.out.n0)
  have hP1 := hU1.get (b := p1) H.out.h1 (by simpa using H.out.n1)
  have hx0 := blk_cell (i := 0) hB1 rfl
  have hx1 := blk_free (i := 0) hB1
  have hx2 := blk_cell (i := 0) hP0 rfl
  have hx3 := blk_cell (i := 3) hB1 rfl
  have hx5 := blk_cell (i := 0) hP1 rfl
  simp only [List.getElem_toArray, List.getElem_cons_zero, List.getElem_cons_succ] at hx0 hx2 hx3 hx5
  rw [HFU.out] at hx3
  have HB1 := hide hB1; have HU1 := hide hU1; have HO1 := hide hown1; have HN1 := hide hn1
  clear hB1 hP0 hP1 hU1 hown1 hn1
  refine hK _ _ (.inr ⟨hx2, hx5, hx0, hx3⟩) ?_
  clear hK K
  simp only [Act.put, List.setIfInBounds_toArray, List.set_cons_succ, List.set_cons_zero]
  refine wpAnyZ_one 12 (by kernel_rfl) rfl rfl (fun K hK => ?_)
  try simp only [List.getElem_toArray, List.getElem_cons_succ, List.getElem_cons_zero]
  go_simp
  refine hK _ _ (.inr ⟨hx2, hx5, hx0, hx3⟩) ?_
  clear hK K
  try simp only [Act.put, List.setIfInBounds_toArray, List.set_cons_succ, List.set_cons_zero]
  refine wpAnyZ_one 13 (by kernel_rfl) rfl rfl (fun K hK => ?_)
  try simp only [List.getElem_toArray, List.getElem_cons_succ, List.getElem_cons_zero]
  go_simp
  refine hK _ _ (.inr ⟨hx2, hx5, hx0, hx3⟩) ?_
  clear hK K
  try simp only [Act.put, List.setIfInBounds_toArray, List.set_cons_succ, List.set_cons_zero]
  refine wpAnyZ_one 14 (by kernel_rfl) rfl rfl (fun K hK => ?_)
  try simp only [List.getElem_toArray, List.getElem_cons_succ, List.getElem_cons_zero]
  go_simp
  refine hK _ _ (.inl rfl) ?_
  clear hK K
  refine wpAnyZ_done (by kernel_rfl) ?_ _
  have hr := H.out.done (k := _ + 1) HU1.out HB1.out HO1.out HST.out HN1.out
  have HR := hide hr
  clear hr
  go_wp2_with fail
  refine (off_any _ HR.out.1).mono ?_
  rintro e w2 ⟨rfl, hd2, hu2⟩
  have HD := hide hd2; have HU := hide hu2
  clear hd2 hu2
  go_wp2_with fail
  go_ret
  refine ⟨_, rfl, rfl, _, HD.out, HR.out.2.1.trans (HU.out.mono (by simp)), fun g hg => ?_⟩
  exact HR.out.2.2 g hg
end Go.Proofs.YtmgdhloehkdffaaDoor.DiskW
