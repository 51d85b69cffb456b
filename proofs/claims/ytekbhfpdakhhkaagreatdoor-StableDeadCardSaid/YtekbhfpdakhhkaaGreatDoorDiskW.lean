/- The disk's functions: what each call answers and what it leaves in memory. -/
import Derived.Test.YtekbhfpdakhhkaaGreatDoorGenAll
import Derived.Deep.RegionLaw
import Derived.BigRegion
namespace Go.Proofs.YtekbhfpdakhhkaaGreatDoor.DiskW
open Go.RowKit
abbrev TD : TypeId := 64
theorem infoB : (Tryz.prog.info? 5).map (fun i => (i.zero, i.size, i.bytes)) = some (some (.int .u8 0), 1, 1) := by kernel_rfl

/-- A disk in memory: its struct in block D, its bytes in a row of its own. -/
structure DiskAt (w : World) (D base : Nat) (bv : Value) (d : DS) : Prop where
  hD : w.heap[D]? = some (.cells #[bv, .int .i64 d.syn, .bool d.dead, .int .i64 d.fuse] TD (0, 0))
  row : w.ownsRow base 5 1 bv d.byt.length (d.byt.map u8v)
  ne : bv.ownBlock ≠ some D
namespace DiskAt
variable {w w' : World} {D base : Nat} {bv : Value} {d : DS}
theorem c0 (h : DiskAt w D base bv d) : w.cell? ⟨D, 0, none⟩ = some bv := blk_cell h.hD rfl
theorem c1 (h : DiskAt w D base bv d) : w.cell? ⟨D, 1, none⟩ = some (.int .i64 d.syn) := blk_cell h.hD rfl
theorem c2 (h : DiskAt w D base bv d) : w.cell? ⟨D, 2, none⟩ = some (.bool d.dead) := blk_cell h.hD rfl
theorem c3 (h : DiskAt w D base bv d) : w.cell? ⟨D, 3, none⟩ = some (.int .i64 d.fuse) := blk_cell h.hD rfl
theorem fr (h : DiskAt w D base bv d) (i : Nat) : w.frozen? ⟨D, i, none⟩ = false := blk_free h.hD
theorem upd {S : List Nat} (h : DiskAt w D base bv d) (hu : Upd S w w') (h1 : D ∉ S) (h2 : ∀ k, bv.ownBlock = some k → k ∉ S) : DiskAt w' D base bv d :=
  ⟨hu.get h.hD h1, owns_upd h.row hu h2, h.ne⟩
end DiskAt

set_option maxHeartbeats 400000 in
theorem powered_dead {D : Nat} {f : Value} (w : World) (hc : w.cell? ⟨D, 2, none⟩ = some (.bool true)) :
    Calls Tryz.prog 30 #[.pointer (some ⟨D, 0, none⟩), f] w fun e w' => e = .returned (.int .i64 20) ∧ w = w' := by
  go_enter Tryz.func30, Tryz.ntmps30
  go_wp2
  go_ret
  exact ⟨rfl, rfl⟩
set_option maxHeartbeats 400000 in
theorem powered_on {D g : Nat} {cap : Array Value} {R : Value → World → Prop} (w : World) (hc : w.cell? ⟨D, 2, none⟩ = some (.bool false)) (eg : ∀ args w, (callFunc g args).run Tryz.prog w = .ok (.enter g args) w)
    (h : Calls Tryz.prog g cap w fun e w' => ∃ v, e = .returned v ∧ R v w') :
    Calls Tryz.prog 30 #[.pointer (some ⟨D, 0, none⟩), .func (.func g) #[] cap] w fun e w' => ∃ v, e = .returned v ∧ R v w' := by
  have H := hide h
  clear h
  go_enter Tryz.func30, Tryz.ntmps30
  go_wp2_with fail
  refine H.out.mono ?_
  rintro e w' ⟨v, rfl, hr⟩
  have HR := hide hr
  clear hr H
  go_wp2_with fail
  go_ret
  exact ⟨v, rfl, HR.out⟩

set_option maxHeartbeats 400000 in
theorem sync1 {D base p : Nat} {bv : Value} {d : DS} (w : World) (h : DiskAt w D base bv d) (hp : w.cell? ⟨p, 0, none⟩ = some (.pointer (some ⟨D, 0, none⟩))) :
    Calls Tryz.prog 82 #[.pointer (some ⟨p, 0, none⟩)] w fun e w' => ∃ v, e = .returned v ∧ v = .int .i64 0 ∧ DiskAt w' D base bv { d with syn := d.byt.length } ∧ Upd [D] w w' := by
  have hc0 := h.c0
  have hc1 := h.c1
  have hf := h.fr 1
  obtain ⟨ao, cap, rfl, -, -, -⟩ := owns_slice h.row
  have H := hide h
  clear h
  go_enter Tryz.func82, Tryz.ntmps82
  go_wp2_with fail
  go_region
  go_wp2_with fail
  go_ret
  refine ⟨_, rfl, rfl, ⟨?_, owns_upd (S := [D]) H.out.row ((((Upd.refl _ _).setCell (.inl (by simp)) _)).drew) ?_, H.out.ne⟩, (((Upd.refl _ _).setCell (.inl (by simp)) _)).drew⟩
  · exact blk_set H.out.hD _
  · intro k hk hm
    simp at hm
    subst hm
    exact H.out.ne hk

/-- What an append of bytes needs to know of its surroundings. -/
structure Bx (w : World) (D p0 p1 base : Nat) (bv : Value) (d : DS) (bo : Option Addr) (bl bc : Nat) (bs : List UInt8) : Prop where
  disk : DiskAt w D base bv d
  h0 : w.heap[p0]? = some (.cells #[.pointer (some ⟨D, 0, none⟩)] 29 (0, 0))
  h1 : w.heap[p1]? = some (.cells #[.slice bo bl bc] 39 (0, 0))
  n0 : bv.ownBlock ≠ some p0
  n1 : bv.ownBlock ≠ some p1
  d0 : D ≠ p0
  d1 : D ≠ p1
  src : SrcAt w bo bl bc (bs.map u8v) 1
  ok : d.Ok 1000000000000
  bb : bl ≤ 1000000000000
  ba : base ≤ w.heap.size

/-- What is there behind the append and its store. -/
theorem Bx.done {w w1 : World} {D p0 p1 base k : Nat} {bv : Value} {d : DS} {bo : Option Addr} {bl bc : Nat} {bs cs : List UInt8} (h : Bx w D p0 p1 base bv d bo bl bc bs) {v' : Value} {m : Nat}
    (hU1 : Upd bv.ownBlock.toList (w.drewN k) w1) (hB1 : w1.heap[D]? = some (.cells #[bv, .int .i64 d.syn, .bool d.dead, .int .i64 d.fuse] TD (0, 0)))
    (hO1 : w1.ownsRow base 5 1 v' (d.byt.length + m) (d.byt.map u8v ++ cs.map u8v)) (hm : cs.length = m)
    (hN1 : ∀ g, v'.ownBlock = some g → bv.ownBlock = some g ∨ (w.drewN k).heap.size ≤ g) :
    DiskAt (w1.setCell ⟨D, 0, none⟩ v') D base v' { d with byt := d.byt ++ cs } ∧ Upd (D :: bv.ownBlock.toList) w (w1.setCell ⟨D, 0, none⟩ v') ∧ (∀ g, v'.ownBlock = some g → bv.ownBlock = some g ∨ w.heap.size ≤ g) := by
  have hlt := blk_lt h.disk.hD
  have hne : v'.ownBlock ≠ some D := by
    intro e
    rcases hN1 D e with h1 | h1
    · exact h.disk.ne h1
    · simp at h1; omega
  refine ⟨⟨blk_set hB1 _, ?_, hne⟩, ?_, fun g hg => ?_⟩
  · have : w1.ownsRow base 5 1 v' (d.byt ++ cs).length ((d.byt ++ cs).map u8v) := by
      rw [List.length_append, List.map_append, hm]; exact hO1
    exact ownsRow_setCell_other this hne _
  · refine Upd.setCell ?_ (.inl (by simp)) _
    exact (((Upd.refl _ w).drewN k).trans (hU1.mono (fun x hx => by simp at hx ⊢; exact .inr hx)))
  · rcases hN1 g hg with h1 | h1
    · exact .inl h1
    · exact .inr (by simpa using h1)

theorem DiskAt.setFuse {w : World} {D base : Nat} {bv : Value} {d : DS} (h : DiskAt w D base bv d) (x : Int) : DiskAt (w.setCell ⟨D, 3, none⟩ (.int .i64 x)) D base bv { d with fuse := x } :=
  ⟨blk_set h.hD _, ownsRow_setCell_other h.row h.ne _, h.ne⟩
theorem DiskAt.setSyn {w : World} {D base : Nat} {bv : Value} {d : DS} (h : DiskAt w D base bv d) (x : Nat) : DiskAt (w.setCell ⟨D, 1, none⟩ (.int .i64 x)) D base bv { d with syn := x } :=
  ⟨blk_set h.hD _, ownsRow_setCell_other h.row h.ne _, h.ne⟩
theorem DiskAt.setDead {w : World} {D base : Nat} {bv : Value} {d : DS} (h : DiskAt w D base bv d) (x : Bool) : DiskAt (w.setCell ⟨D, 2, none⟩ (.bool x)) D base bv { d with dead := x } :=
  ⟨blk_set h.hD _, ownsRow_setCell_other h.row h.ne _, h.ne⟩
theorem DiskAt.drewN {w : World} {D base : Nat} {bv : Value} {d : DS} (h : DiskAt w D base bv d) (k : Nat) : DiskAt (w.drewN k) D base bv d := ⟨h.hD, h.row, h.ne⟩

set_option maxHeartbeats 1000000 in
/-- No fuse: all is put behind. -/
theorem append1_free {D p0 p1 base : Nat} {bv : Value} {d : DS} {bo : Option Addr} {bl bc : Nat} {bs : List UInt8} (w : World) (h : Bx w D p0 p1 base bv d bo bl bc bs) (hfu : d.fuse < 0) :
    Calls Tryz.prog 52 #[.pointer (some ⟨p0, 0, none⟩), .pointer (some ⟨p1, 0, none⟩)] w fun e w' => ∃ v, e = .returned v ∧ v = .int .i64 0 ∧ ∃ bv', DiskAt w' D base bv' { d with byt := d.byt ++ bs } ∧
      Upd (D :: bv.ownBlock.toList) w w' ∧ (∀ g, bv'.ownBlock = some g → bv.ownBlock = some g ∨ w.heap.size ≤ g) := by
  have hb1 := h.bb
  have hl1 := h.ok.len
  have hcp0 := blk_cell (i := 0) h.h0 rfl
  have hcp1 := blk_cell (i := 0) h.h1 rfl
  have hc0 := h.disk.c0
  have hc3 := h.disk.c3
  have hd : decide (0 ≤ d.fuse) = false := by simpa using hfu
  have hdp := h.d0
  simp only [List.getElem_toArray, List.getElem_cons_zero] at hcp0 hcp1
  have hsl : bs.length = bl := by have := h.src.len; simpa using this
  have HSL := hide hsl
  clear hsl
  obtain ⟨i0, hi, hz0, hz1, hz2⟩ := info_parts infoB
  obtain ⟨ao, cap, rfl, hcap1, hcap2, -⟩ := owns_slice h.disk.row
  have H := hide h
  clear h
  go_enter Tryz.func52, Tryz.ntmps52
  go_wp2_with fail
  go_quiet (fail)
  go_wp2_with fail
  refine wp_region_z (fun w' => w'.cell? ⟨p0, 0, none⟩ = some (.pointer (some ⟨D, 0, none⟩)) ∧ w'.cell? ⟨p1, 0, none⟩ = some (.slice bo bl bc) ∧ w'.cell? ⟨D, 0, none⟩ = some (.slice ao d.byt.length cap)) 9 (by kernel_rfl) ?_
  refine wpAnyZ_takeE 0 rfl (by kernel_rfl) (by kernel_rfl) (by kernel_rfl) (by kernel_rfl) (fun _ _ _ _ h => h) rfl (by exact ⟨hcp0, hcp1, hc0⟩) ?_
  apply Exists.intro
  refine ⟨fun wx hS => ?_, ?_⟩
  · obtain ⟨s0, s1, s2⟩ := hS; go_simp; rfl
  simp only [Act.put, List.setIfInBounds_toArray, List.set_cons_succ, List.set_cons_zero, List.getElem_toArray, List.getElem_cons_zero]
  refine wpAnyZ_takeE 1 rfl (by kernel_rfl) (by kernel_rfl) (by kernel_rfl) (by kernel_rfl) (fun _ _ _ _ h => h) rfl (by exact ⟨hcp0, hcp1, hc0⟩) ?_
  apply Exists.intro
  refine ⟨fun wx hS => ?_, ?_⟩
  · obtain ⟨s0, s1, s2⟩ := hS; go_simp; rfl
  simp only [Act.put, List.setIfInBounds_toArray, List.set_cons_succ, List.set_cons_zero, List.getElem_toArray, List.getElem_cons_succ, List.getElem_cons_zero]
  refine wpAnyZ_takeE 2 rfl (by kernel_rfl) (by kernel_rfl) (by kernel_rfl) (by kernel_rfl) (fun _ _ _ _ h => h) rfl (by exact ⟨hcp0, hcp1, hc0⟩) ?_
  apply Exists.intro
  refine ⟨fun wx hS => ?_, ?_⟩
  · obtain ⟨s0, s1, s2⟩ := hS; go_simp; rfl
  simp only [Act.put, List.setIfInBounds_toArray, List.set_cons_succ, List.set_cons_zero, List.getElem_toArray, List.getElem_cons_succ, List.getElem_cons_zero]
  refine wpAnyZ_takeE 3 rfl (by kernel_rfl) (by kernel_rfl) (by kernel_rfl) (by kernel_rfl) (fun _ _ _ _ h => h) rfl (by exact ⟨hcp0, hcp1, hc0⟩) ?_
  apply Exists.intro
  refine ⟨fun wx hS => ?_, ?_⟩
  · obtain ⟨s0, s1, s2⟩ := hS; go_simp; rfl
  simp only [Act.put, List.setIfInBounds_toArray, List.set_cons_succ, List.set_cons_zero, List.getElem_toArray, List.getElem_cons_succ, List.getElem_cons_zero]
  refine wpAnyZ_takeE 4 rfl (by kernel_rfl) (by kernel_rfl) (by kernel_rfl) (by kernel_rfl) (fun _ _ _ _ h => h) rfl (by exact ⟨hcp0, hcp1, hc0⟩) ?_
  apply Exists.intro
  refine ⟨fun wx hS => ?_, ?_⟩
  · obtain ⟨s0, s1, s2⟩ := hS; go_simp; rfl
  simp only [Act.put, List.setIfInBounds_toArray, List.set_cons_succ, List.set_cons_zero, List.getElem_toArray, List.getElem_cons_succ, List.getElem_cons_zero]
  refine wpAnyZ_takeE 5 rfl (by kernel_rfl) (by kernel_rfl) (by kernel_rfl) (by kernel_rfl) (fun _ _ _ _ h => h) rfl (by exact ⟨hcp0, hcp1, hc0⟩) ?_
  apply Exists.intro
  refine ⟨fun wx hS => ?_, ?_⟩
  · obtain ⟨s0, s1, s2⟩ := hS; go_simp; rfl
  simp only [Act.put, List.setIfInBounds_toArray, List.set_cons_succ, List.set_cons_zero, List.getElem_toArray, List.getElem_cons_succ, List.getElem_cons_zero]
  refine wpAnyZ_one 6 (by kernel_rfl) rfl rfl (fun K hK => ?_)
  try simp only [List.getElem_toArray, List.getElem_cons_succ, List.getElem_cons_zero]
  refine wp_append_src _ _ _ 39 rfl base 5 i0 (.int .u8 0) 1 1 Tryz.underlying39 hi hz0 hz1 hz2 rfl (by decide) (.slice ao d.byt.length cap) d.byt.length (d.byt.map u8v) rfl (by exact H.out.disk.row) bo bl bc (bs.map u8v) rfl (by exact ⟨H.out.src.len, H.out.src.one, H.out.src.nil, H.out.src.cells⟩) (by unfold maxLen; omega) (by omega) (by exact H.out.ba) ?_
  intro ao1 cap1 w1 hown1 hU1 hn1
  have hB1 := hU1.get (b := D) H.out.disk.hD (by simpa using H.out.disk.ne)
  have hP0 := hU1.get (b := p0) H.out.h0 (by simpa using H.out.n0)
  have hP1 := hU1.get (b := p1) H.out.h1 (by simpa using H.out.n1)
  have hx0 := blk_cell (i := 0) hB1 rfl
  have hx1 := blk_free (i := 0) hB1
  have hx2 := blk_cell (i := 0) hP0 rfl
  have hx3 := blk_cell (i := 3) hB1 rfl
  have hx5 := blk_cell (i := 0) hP1 rfl
  simp only [List.getElem_toArray, List.getElem_cons_zero, List.getElem_cons_succ] at hx0 hx2 hx3 hx5
  have HB1 := hide hB1; have HU1 := hide hU1; have HO1 := hide hown1; have HN1 := hide hn1
  clear hB1 hP0 hP1 hU1 hown1 hn1
  refine hK _ _ (.inr ⟨hx2, hx5, hx0⟩) ?_
  clear hK K
  try simp only [Act.put, List.setIfInBounds_toArray, List.set_cons_succ, List.set_cons_zero]
  refine wpAnyZ_one 7 (by kernel_rfl) rfl rfl (fun K hK => ?_)
  try simp only [List.getElem_toArray, List.getElem_cons_succ, List.getElem_cons_zero]
  go_simp
  refine hK _ _ (.inr ⟨hx2, hx5, hx0⟩) ?_
  clear hK K
  try simp only [Act.put, List.setIfInBounds_toArray, List.set_cons_succ, List.set_cons_zero]
  refine wpAnyZ_one 8 (by kernel_rfl) rfl rfl (fun K hK => ?_)
  try simp only [List.getElem_toArray, List.getElem_cons_succ, List.getElem_cons_zero]
  go_simp
  refine hK _ _ (.inr ⟨hx2, hx5, hx0⟩) ?_
  clear hK K
  try simp only [Act.put, List.setIfInBounds_toArray, List.set_cons_succ, List.set_cons_zero]
  refine wpAnyZ_one 9 (by kernel_rfl) rfl rfl (fun K hK => ?_)
  try simp only [List.getElem_toArray, List.getElem_cons_succ, List.getElem_cons_zero]
  go_simp
  refine hK _ _ (.inl rfl) ?_
  clear hK K
  refine wpAnyZ_done (by kernel_rfl) ?_ _
  go_wp2_with fail
  go_ret
  exact ⟨_, rfl, rfl, _, H.out.done (k := _ + 1) HU1.out HB1.out HO1.out HSL.out HN1.out⟩
end Go.Proofs.YtekbhfpdakhhkaaGreatDoor.DiskW
