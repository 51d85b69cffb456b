/- The document's New; near. -/
import Derived.Test.YtmedpbpjjjhhiaaVotG
namespace Go.Proofs.Ytmedpbpjjjhhiaa.Vot
open Go.RowKit

set_option maxHeartbeats 1000000 in
theorem near_any {rr : Int} {f t : Nat} {fr : Bool} (w : World) (hf : f < 256) (ht : t < 256) :
    Calls Try.prog 9 #[.agg #[.int .i64 rr, .int .u8 (f : Int), .int .u8 (t : Int), .bool fr]] w fun e w' => e = .returned (.tuple #[.int .i64 (min (f % 200) (t % 200) : Nat), .int .i64 (max (f % 200) (t % 200) : Nat)]) ∧ Upd [] w w' := by
  obtain ⟨x, hx⟩ : ∃ x, x = f % 200 := ⟨_, rfl⟩
  obtain ⟨y, hy⟩ : ∃ y, y = t % 200 := ⟨_, rfl⟩
  rw [← hx, ← hy]
  have r1 : (f : Int) % 200 = (x : Int) := by omega
  have r2 : (t : Int) % 200 = (y : Int) := by omega
  clear hx hy
  obtain ⟨a, ha⟩ : ∃ a, a = min x y := ⟨_, rfl⟩
  obtain ⟨b, hb⟩ : ∃ b, b = max x y := ⟨_, rfl⟩
  rw [← ha, ← hb]
  have m1 : min (x : Int) (y : Int) = (a : Int) := by omega
  have m2 : max (x : Int) (y : Int) = (b : Int) := by omega
  have AA := hide ha; have BB := hide hb
  clear ha hb
  go_enter Try.func9, Try.ntmps9
  go_wp2_with fail
  go_quiet (fail)
  go_wp2_with fail
  go_ret2
  refine ⟨?_, ((Upd.refl [] w).alloc _).drewN _⟩
  first | rfl | (rw [← m1, ← m2])
theorem infoB2 : (Try.prog.info? TB).map (fun i => (i.zero, i.size, i.bytes)) = some (some (.bool false), 1, 1) := by kernel_rfl
theorem infoRow : (Try.prog.info? TRow).map (fun i => (i.zero, i.size, i.bytes)) = some (some (.slice none 0 0), 1, 24) := by kernel_rfl
/-- The document's tally in the making. -/
structure RNew (w wr : World) (k : Nat) (bo : Option Addr) (bc : Nat) (b : Nat → Nat) : Prop where
  hR : wr.heap[w.heap.size]? = some (.cells #[.slice bo k bc, .int .i64 0] TRef (0, 0))
  rows : wr.ownsRow (w.heap.size + 1) TRow 1 (.slice bo k bc) k ((List.range k).map fun r => .slice (some ⟨b r, 0, none⟩) 202 202)
  row : ∀ r, r < k → ∃ bs, wr.heap[b r]? = some (.cells bs TB (0, 0)) ∧ ∀ i, i < 202 → bs[i]? = some (.bool false)
  inj : ∀ r s, r < k → s < k → b r = b s → r = s
  lob : ∀ r, r < k → w.heap.size ≤ b r
  upd : Upd [] w wr
  size : w.heap.size + 1 ≤ wr.heap.size
theorem made_false : ∀ i, i < 202 → (madeCells #[.bool false] (202 * 1))[i]? = some (.bool false) := by
  intro i hi
  unfold madeCells
  rw [Array.getElem?_map, Array.getElem?_range, if_pos (by omega)]
  simp [Nat.mod_one]
set_option maxRecDepth 100000 in
set_option maxHeartbeats 4000000 in
theorem rnew_any (n : Nat) (w : World) (h1 : 1 ≤ n) (h7 : n ≤ 7) : Calls Try.prog 8 #[.int .i64 (n : Int)] w fun e w' => ∃ R D cap b, e = .returned (.pointer (some ⟨R, 0, none⟩)) ∧ RefIn w' w.heap.size R D cap n 0 b (fun _ _ => false) ∧ Upd [] w w' := by
  obtain ⟨i0, hi, hz0, hz1, hz2⟩ := info_parts' infoB2
  obtain ⟨i1, hi1, hy0, hy1, hy2⟩ := info_parts' infoRow
  have hmk := fun W => run_make_rowN (P := Try.prog) TRow TB i0 (.bool false) Try.underlying46 hi hz0 .i64 .i64 202 202 (Nat.le_refl _) (by rw [hz2]; omega) (by omega) W
  rw [hz1] at hmk
  simp only [Value.cells] at hmk
  have hmd := made_false
  generalize madeCells #[.bool false] (202 * 1) = M at hmk hmd
  have MD := hide hmd
  have hmk2 : ∀ W, (Instr.makeSlice TRow (.int .i64 202) (.int .i64 202)).run Try.prog W = .ok (.slice (some ⟨W.heap.size, 0, none⟩) 202 202) (W.alloc (.cells M TB)) := hmk
  clear hmd hmk
  go_enter Try.func8, Try.ntmps8
  go_wp2_with fail
  go_loopw [4] (fun si wr => ∃ (k : Nat) (bo : Option Addr) (bc : Nat) (b : Nat → Nat), k ≤ n ∧ si = .int .i64 k ∧ RNew w wr k bo bc b) (fun si _ => n - (intOf si).toNat)
  case atStart => exact ⟨0, none, 0, fun _ => 0, by omega, rfl, blk_new _ _, World.ownsRow_nil _ _ TRow 1, fun r hr => by omega, fun r s hr => by omega, fun r hr => by omega, (Upd.refl [] w).alloc _, by simp⟩
  case round =>
    obtain ⟨k, bo, bc, b, hk, rfl, hn⟩ := hrel
    have HN := hide hn
    clear hn
    have hc0 : wr.cell? ⟨w.heap.size, 0, none⟩ = some (.slice bo k bc) := blk_cell HN.out.hR rfl
    have hf0 := blk_free HN.out.hR (i := 0)
    by_cases hlt : k < n
    · have d1 : decide ((k : Int) < (n : Int)) = true := by simp; omega
      have d1' : decide (k < n) = true := by simpa using hlt
      go_wp2_with fail
      refine wp_region_z (fun W => W.cell? ⟨w.heap.size, 0, none⟩ = some (.slice bo k bc)) 10 (by kernel_rfl) ?_
      refine wpAnyZ_takeT 0 rfl (by kernel_rfl) (by kernel_rfl) (by kernel_rfl) (by kernel_rfl) (by kernel_rfl) (fun _ _ _ _ h => h) rfl (by exact hc0) ?_
      apply Exists.intro
      refine ⟨fun wx hS => ?_, ?_⟩
      · have s0 := hS; go_simp; rfl
      simp only [Act.put, List.setIfInBounds_toArray, List.set_cons_succ, List.set_cons_zero, List.getElem_toArray, List.getElem_cons_zero]
      refine wpAnyZ_takeT 1 rfl (by kernel_rfl) (by kernel_rfl) (by kernel_rfl) (by kernel_rfl) (by kernel_rfl) (fun _ _ _ _ h => h) rfl (by exact hc0) ?_
      apply Exists.intro
      refine ⟨fun wx hS => ?_, ?_⟩
      · have s0 := hS; go_simp; rfl
      simp only [Act.put, List.setIfInBounds_toArray, List.set_cons_succ, List.set_cons_zero, List.getElem_toArray, List.getElem_cons_succ, List.getElem_cons_zero]
      refine wpAnyZ_takeT 2 rfl (by kernel_rfl) (by kernel_rfl) (by kernel_rfl) (by kernel_rfl) (by kernel_rfl) (fun _ _ _ _ h => h) rfl (by exact hc0) ?_
      apply Exists.intro
      refine ⟨fun wx hS => ?_, ?_⟩
      · have s0 := hS; go_simp; rfl
      simp only [Act.put, List.setIfInBounds_toArray, List.set_cons_succ, List.set_cons_zero, List.getElem_toArray, List.getElem_cons_succ, List.getElem_cons_zero]
      refine wpAnyZ_takeT 3 rfl (by kernel_rfl) (by kernel_rfl) (by kernel_rfl) (by kernel_rfl) (by kernel_rfl) (fun _ _ _ _ h => h) rfl (by exact hc0) ?_
      apply Exists.intro
      refine ⟨fun wx hS => ?_, ?_⟩
      · have s0 := hS; go_simp; rfl
      simp only [Act.put, List.setIfInBounds_toArray, List.set_cons_succ, List.set_cons_zero, List.getElem_toArray, List.getElem_cons_succ, List.getElem_cons_zero]
      refine wpAnyZ_takeT 4 rfl (by kernel_rfl) (by kernel_rfl) (by kernel_rfl) (by kernel_rfl) (by kernel_rfl) (fun _ _ _ _ h => h) rfl (by exact hc0) ?_
      apply Exists.intro
      refine ⟨fun wx hS => ?_, ?_⟩
      · have s0 := hS; go_simp; rfl
      simp only [Act.put, List.setIfInBounds_toArray, List.set_cons_succ, List.set_cons_zero, List.getElem_toArray, List.getElem_cons_succ, List.getElem_cons_zero]
      refine wpAnyZ_one 5 (by kernel_rfl) rfl rfl (fun K hK => ?_)
      try simp only [List.getElem_toArray, List.getElem_cons_succ, List.getElem_cons_zero]
      go_simp
      refine hK _ _ (.inr (cell_keep' ((Upd.refl [] _).alloc _) hc0)) ?_
      clear hK K
      try simp only [Act.put, List.setIfInBounds_toArray, List.set_cons_succ, List.set_cons_zero]
      refine wpAnyZ_one 6 (by kernel_rfl) rfl rfl (fun K hK => ?_)
      try simp only [List.getElem_toArray, List.getElem_cons_succ, List.getElem_cons_zero]
      go_simp
      refine hK _ _ (.inr (cell_keep' (((Upd.refl [] _).alloc _).alloc _) hc0)) ?_
      clear hK K
      try simp only [Act.put, List.setIfInBounds_toArray, List.set_cons_succ, List.set_cons_zero]
      refine wpAnyZ_one 7 (by kernel_rfl) rfl rfl (fun K hK => ?_)
      try simp only [List.getElem_toArray, List.getElem_cons_succ, List.getElem_cons_zero]
      refine wp_append_src _ _ _ 36 rfl (w.heap.size + 1) TRow i1 (.slice none 0 0) 1 24 Try.underlying36 hi1 hy0 hy1 hy2 rfl (by decide) (.slice bo k bc) k ((List.range k).map fun r => .slice (some ⟨b r, 0, none⟩) 202 202) rfl (owns_upd HN.out.rows ((((Upd.refl [] wr).drewN 1).alloc _).alloc _) (by simp)) (some ⟨wr.heap.size + 1, 0, none⟩) 1 1 [.slice (some ⟨wr.heap.size, 0, none⟩) 202 202] rfl (src_one (cell_new1 (World.size_alloc _ _).symm) rfl) (by unfold maxLen; omega) (by omega) (Nat.le_trans HN.out.size (by simp; omega)) ?_
      intro bo3 bc3 w3 hown3 hU3 hn3
      have U0 : Upd [] wr (((wr.drewN 1).alloc (.cells M TB)).alloc (.cells #[.slice (some ⟨wr.heap.size, 0, none⟩) 202 202] TRow)) := (((Upd.refl [] wr).drewN 1).alloc _).alloc _
      have hRn : w.heap.size ∉ (Value.slice bo k bc).ownBlock.toList := not_own (owns_lt HN.out.rows) (by omega)
      have hR3 := hU3.get (U0.get HN.out.hR (by simp)) hRn
      have hrow : ∀ (g : Nat) (bs : Array Value), wr.heap[g]? = some (.cells bs TB (0, 0)) → w3.heap[g]? = some (.cells bs TB (0, 0)) := by
        intro g bs hg
        refine hU3.get (U0.get hg (by simp)) (fun hm => ?_)
        rcases HN.out.rows.2 with ⟨h5, -⟩ | ⟨g', cap', cur, h5, -, h6, -⟩
        · rw [h5] at hm; cases hm
        · rw [h5] at hm
          simp [Value.ownBlock] at hm
          subst hm
          rw [hg] at h6
          injection h6 with h6
          injection h6 with h7 h8
          exact absurd h8 (by decide)
      have hnew : w3.heap[wr.heap.size]? = some (.cells M TB (0, 0)) := hU3.get (blk_alloc (blk_new (wr.drewN 1) _) _) (fun hm => by
        cases bo with
        | none => simp [Value.ownBlock] at hm
        | some a =>
          have := (owns_lt HN.out.rows a.block rfl).2
          simp [Value.ownBlock] at hm
          omega)
      have hx0 : w3.cell? ⟨w.heap.size, 0, none⟩ = some (.slice bo k bc) := blk_cell hR3 rfl
      have hx1 := blk_free hR3 (i := 0)
      have hsz3 : wr.heap.size < w3.heap.size := by have := hU3.size; simp at this; omega
      have N3 : RNew w (w3.setCell ⟨w.heap.size, 0, none⟩ (.slice bo3 (k + 1) bc3)) (k + 1) bo3 bc3 (fun r => if r = k then wr.heap.size else b r) := by
        have hbl : ∀ r, r < k → b r < wr.heap.size := fun r hr => by obtain ⟨bs, h5, -⟩ := HN.out.row r hr; exact blk_lt h5
        have hbR : ∀ g bs, w3.heap[g]? = some (.cells bs TB (0, 0)) → g ≠ w.heap.size := fun g bs h5 e => by
          rw [e, hR3] at h5
          injection h5 with h5
          injection h5 with h7 h8
          exact absurd h8 (by decide)
        refine ⟨blk_set hR3 _, ?_, fun r hr => ?_, fun r s hr hs h5 => ?_, fun r hr => ?_, ?_, ?_⟩
        · have h5 : ((List.range (k + 1)).map fun r => Value.slice (some ⟨(if r = k then wr.heap.size else b r), 0, none⟩) 202 202) = ((List.range k).map fun r => Value.slice (some ⟨b r, 0, none⟩) 202 202) ++ [.slice (some ⟨wr.heap.size, 0, none⟩) 202 202] := by
            rw [List.range_succ, List.map_append]
            congr 1
            · refine List.map_congr_left fun r hr => ?_
              rw [if_neg (by have := List.mem_range.1 hr; omega)]
            · simp
          rw [h5]
          exact owns_upd hown3 ((Upd.refl [w.heap.size] w3).setCell (.inl (by simp)) _) (fun g hg => by have := (owns_lt hown3 g hg).1; simp; omega)
        · by_cases e : r = k
          · rw [if_pos e]
            exact ⟨M, blk_set_other hnew (hbR _ _ hnew) _, MD.out⟩
          · rw [if_neg e]
            obtain ⟨bs, h5, h6⟩ := HN.out.row r (by omega)
            exact ⟨bs, blk_set_other (hrow _ _ h5) (hbR _ _ (hrow _ _ h5)) _, h6⟩
        · by_cases e1 : r = k
          · by_cases e2 : s = k
            · omega
            · rw [if_pos e1, if_neg e2] at h5
              have := hbl s (by omega)
              omega
          · by_cases e2 : s = k
            · rw [if_neg e1, if_pos e2] at h5
              have := hbl r (by omega)
              omega
            · rw [if_neg e1, if_neg e2] at h5
              exact HN.out.inj r s (by omega) (by omega) h5
        · have := HN.out.size
          by_cases e : r = k
          · rw [if_pos e]; omega
          · rw [if_neg e]; exact HN.out.lob r (by omega)
        · exact ((HN.out.upd.trans U0).trans_new hU3 (fun g hg => by
            simp only [Option.mem_toList] at hg
            have := (owns_lt HN.out.rows g hg).1
            exact .inr (by omega))).setCell (.inr (Nat.le_refl _)) _
        · have := HN.out.size
          rw [size_setCell]; omega
      have HN3 := hide N3
      clear hown3 hU3 hn3 U0 hRn hR3 hrow hnew N3
      refine hK _ _ (.inr hx0) ?_
      clear hK K
      try simp only [Act.put, List.setIfInBounds_toArray, List.set_cons_succ, List.set_cons_zero]
      refine wpAnyZ_takeT 8 rfl (by kernel_rfl) (by kernel_rfl) (by kernel_rfl) (by kernel_rfl) (by kernel_rfl) (fun _ _ _ _ h => h) rfl (by exact hx0) ?_
      apply Exists.intro
      refine ⟨fun wx hS => ?_, ?_⟩
      · have s0 := hS; go_simp; rfl
      simp only [Act.put, List.setIfInBounds_toArray, List.set_cons_succ, List.set_cons_zero, List.getElem_toArray, List.getElem_cons_succ, List.getElem_cons_zero]
      refine wpAnyZ_takeT 9 rfl (by kernel_rfl) (by kernel_rfl) (by kernel_rfl) (by kernel_rfl) (by kernel_rfl) (fun _ _ _ _ h => h) rfl (by exact hx0) ?_
      apply Exists.intro
      refine ⟨fun wx hS => ?_, ?_⟩
      · have s0 := hS; go_simp; rfl
      simp only [Act.put, List.setIfInBounds_toArray, List.set_cons_succ, List.set_cons_zero, List.getElem_toArray, List.getElem_cons_succ, List.getElem_cons_zero]
      refine wpAnyZ_one 10 (by kernel_rfl) rfl rfl (fun K hK => ?_)
      try simp only [List.getElem_toArray, List.getElem_cons_succ, List.getElem_cons_zero]
      go_simp
      refine hK _ _ (.inl rfl) ?_
      clear hK K
      refine wpAnyZ_done (by kernel_rfl) ?_ _
      go_wp2_with fail
      go_roundw
      case rel => exact ⟨k + 1, bo3, bc3, _, by omega, by go_num, HN3.out⟩
      case measure => simp [intOf] <;> omega
    · have d1 : decide ((k : Int) < (n : Int)) = false := by simp; omega
      have d1' : decide (k < n) = false := by simpa using hlt
      have e1 : k = n := by omega
      subst e1
      go_wp2_with fail
      go_ret
      rcases HN.out.rows.2 with ⟨-, h5⟩ | ⟨g, cap, cur, e2, hg, hh, hnc, hcm, hcs, htk⟩
      · omega
      · cases e2
        refine ⟨w.heap.size, g, bc, b, rfl, ⟨HN.out.hR, ⟨cur, hh, fun r hr => ?_⟩, HN.out.row, HN.out.inj, Nat.le_refl _, by omega, HN.out.lob, hnc, hcm, h7, by omega⟩, HN.out.upd⟩
        have h6 : (cur.toList.take (k * 1))[r]? = ((List.range k).map fun r => Value.slice (some ⟨b r, 0, none⟩) 202 202)[r]? := by rw [htk]
        rw [List.getElem?_take, if_pos (by omega), Array.getElem?_toList, List.getElem?_map, List.getElem?_range hr] at h6
        exact h6
end Go.Proofs.Ytmedpbpjjjhhiaa.Vot
