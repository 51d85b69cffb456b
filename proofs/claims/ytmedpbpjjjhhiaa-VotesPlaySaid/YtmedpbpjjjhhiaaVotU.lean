/- Add: a span is added to a replica's set. -/
import Derived.Test.YtmedpbpjjjhhiaaVotT
import Derived.Test.YtmedpbpjjjhhiaaZreg2
namespace Go.Proofs.Ytmedpbpjjjhhiaa.Vot
open Go.RowKit

theorem TalAt.more {w : World} {B T C n floor K : Nat} {l : Nat → List Sp} (h : TalAt w B T C n floor K l) : TalAt w B T C n floor (K + 1) l :=
  ⟨h.hT, h.hC, h.loT, h.loC, h.n1, h.n7, h.fl, h.norm, h.bnd, fun r hr => Nat.le_trans (h.len r hr) (by omega)⟩
set_option maxHeartbeats 1000000 in
theorem add_bad {B T C n floor K : Nat} {l : Nat → List Sp} {r : Int} {x : Sp} (w : World) (h : TalAt w B T C n floor K l) (hr : r < 0 ∨ (n : Int) ≤ r) :
    Calls Try.prog 12 #[.pointer (some ⟨T, 0, none⟩), .int .i64 r, .agg #[.int .u64 (x.1 : Int), .int .u64 (x.2 : Int)]] w fun e w' => e = .returned (.int .i64 1) ∧ Upd [] w w' := by
  obtain ⟨a, b⟩ := x
  simp only
  have hc0 : ∀ o, (w.alloc o).cell? ⟨T, 0, none⟩ = some (.slice (some ⟨C, 0, none⟩) n n) := fun o => blk_cell (blk_alloc h.hT o) rfl
  clear h
  by_cases h1 : r < 0
  · have d1 : decide (r < 0) = true := by simpa using h1
    go_enter Try.func12, Try.ntmps12
    go_wp2_with fail
    go_ret
    exact ⟨rfl, (Upd.refl [] w).alloc _⟩
  · have d1 : decide (r < 0) = false := by simpa using h1
    have d2 : decide ((n : Int) ≤ r) = true := by simp; omega
    go_enter Try.func12, Try.ntmps12
    go_wp2_with fail
    go_ret
    exact ⟨rfl, (Upd.refl [] w).alloc _⟩
set_option maxRecDepth 100000 in
set_option maxHeartbeats 2000000 in
theorem tadd_any {B T C n floor K r : Nat} {l : Nat → List Sp} {x : Sp} (w : World) (h : TalAt w B T C n floor K l) (hr : r < n) (hx : x.1 ≤ x.2) (hx2 : x.2 < 18446744073709551616) (hK : K ≤ 100000) (hB : B ≤ w.heap.size) :
    Calls Try.prog 12 #[.pointer (some ⟨T, 0, none⟩), .int .i64 (r : Int), .agg #[.int .u64 (x.1 : Int), .int .u64 (x.2 : Int)]] w (Added w B T C n floor K l r x) := by
  obtain ⟨a, b⟩ := x
  simp only at *
  have h7 := h.n7
  have hfl := h.fl
  have hTs := blk_lt h.hT
  have hc0 : ∀ o, (w.alloc o).cell? ⟨T, 0, none⟩ = some (.slice (some ⟨C, 0, none⟩) n n) := fun o => blk_cell (blk_alloc h.hT o) rfl
  have hc1 : ∀ o, (w.alloc o).cell? ⟨T, 1, none⟩ = some (.int .u64 (floor : Int)) := fun o => blk_cell (blk_alloc h.hT o) rfl
  have d1 : decide ((r : Int) < 0) = false := by simp
  have d2 : decide ((n : Int) ≤ (r : Int)) = false := by simp; omega
  have d3 : decide ((b : Int) < (a : Int)) = false := by simp; omega
  have H := hide h
  clear h
  by_cases hf : b ≤ floor
  · have d4 : decide ((floor : Int) < (b : Int)) = false := by simp; omega
    go_enter Try.func12, Try.ntmps12
    go_wp2_with fail
    go_quiet (fail)
    go_wp2_with fail
    go_ret
    refine ⟨rfl, (((Upd.refl [] w).alloc _).drewN _).mono (by simp), l r, ?_, fun m => ⟨.inl, fun h => ?_⟩⟩
    · rw [show (fun k => if k = r then l r else l k) = l from funext fun k => by by_cases e : k = r <;> simp [e]]
      exact (H.out.quiet (((Upd.refl [] w).alloc _).drewN _)).more
    · rcases h with h | h
      · exact h
      · simp only at h; omega
  · have d4 : decide ((floor : Int) < (b : Int)) = true := by simp; omega
    obtain ⟨cs, hC, hcs, hrows⟩ := H.out.hC
    obtain ⟨v, hv, hrow⟩ := hrows r hr
    obtain ⟨M, hM⟩ : ∃ M, max a (floor + 1) = M := ⟨_, rfl⟩
    have hadd := fun (W : World) (hu : Upd [] w W) => add_any (x := (M, b)) W (hu.get hC (by simp)) hv (owns_upd hrow hu (by simp)) (Nat.le_trans (H.out.len r hr) (by omega)) (fun p hp => ⟨(H.out.norm r hr).2 p hp, H.out.bnd r hr p hp⟩) (by simp only; omega) hx2
    simp only at hadd
    have HC := hide hC; have HV := hide hv; have HR := hide hrow; have HM := hide hM; have HADD := hide hadd
    clear hv hrow hrows hadd
    have fin : ∀ (W W' : World) (v' : Value) (d : List Sp), Upd [] w W → Upd [C] W W' → SpRow W' W.heap.size v' d → W'.heap[C]? = some (.cells (cs.setIfInBounds r v') TSet (0, 0)) → d.length ≤ (l r).length + 1 → d.Perm ((addL (l r) (M, b)).1 ++ [(addL (l r) (M, b)).2]) → d.Pairwise (fun p q => p.1 ≤ q.1) →
        Added w B T C n floor K l r (a, b) (.returned (.int .i64 0)) W' := by
      intro W W' v' d hu hu2 h1 h2 h3 h4 h5
      have hMb : M ≤ b := by have := HM.out; omega
      obtain ⟨g1, g2⟩ := added (x := (M, b)) (H.out.norm r hr) hMb h4 h5
      refine ⟨rfl, (hu.mono (by simp)).trans hu2, d, ?_, fun m => ?_⟩
      · exact H.out.set ((hu.mono (by simp)).trans hu2) hr HC.out h2 (owns_mono' h1 (Nat.le_trans hB hu.size)) g1 (added_top (x := (M, b)) (c := 18446744073709551615) (H.out.norm r hr) hMb h4 (fun p hp => by have := H.out.bnd r hr p hp; omega) (by simp only; omega) |> fun h p hp => Nat.lt_succ_of_le (h p hp)) (Nat.le_trans h3 (by have := H.out.len r hr; omega))
      · rw [g2 m]
        simp only [HM.out]
    have FIN := hide fin
    clear fin hC
    have w1 : IntKind.u64.wrap ((floor : Int) + 1) = (floor : Int) + 1 := IntWalk.u64_in _ (by omega)
    have mx : max (a : Int) ((floor : Int) + 1) = (M : Int) := by omega
    clear hM
    go_enter Try.func12, Try.ntmps12
    go_wp2_with fail
    go_quiet (fail)
    go_wp2_with fail
    refine wp_region_z (fun W => W.cell? ⟨T, 1, none⟩ = some (.int .u64 (floor : Int)) ∧ W.cell? ⟨w.heap.size, 0, none⟩ = some (.int .u64 (a : Int)) ∧ W.cell? ⟨w.heap.size, 1, none⟩ = some (.int .u64 (b : Int))) 12 (by kernel_rfl) ?_
    refine wpAnyZ_takeT 0 rfl (by kernel_rfl) (by kernel_rfl) (by kernel_rfl) (by kernel_rfl) (by kernel_rfl) (fun _ _ _ _ h => h) rfl (by exact ⟨hc1 _, by simp, by simp⟩) ?_
    apply Exists.intro
    refine ⟨fun wx hS => ?_, ?_⟩
    · obtain ⟨s0, s1, s2⟩ := hS; go_simp; rfl
    simp only [Act.put, List.setIfInBounds_toArray, List.set_cons_succ, List.set_cons_zero, List.getElem_toArray, List.getElem_cons_zero]
    refine wpAnyZ_takeT 1 rfl (by kernel_rfl) (by kernel_rfl) (by kernel_rfl) (by kernel_rfl) (by kernel_rfl) (fun _ _ _ _ h => h) rfl (by exact ⟨hc1 _, by simp, by simp⟩) ?_
    apply Exists.intro
    refine ⟨fun wx hS => ?_, ?_⟩
    · obtain ⟨s0, s1, s2⟩ := hS; go_simp; rfl
    simp only [Act.put, List.setIfInBounds_toArray, List.set_cons_succ, List.set_cons_zero, List.getElem_toArray, List.getElem_cons_succ, List.getElem_cons_zero]
    refine wpAnyZ_takeT 2 rfl (by kernel_rfl) (by kernel_rfl) (by kernel_rfl) (by kernel_rfl) (by kernel_rfl) (fun _ _ _ _ h => h) rfl (by exact ⟨hc1 _, by simp, by simp⟩) ?_
    apply Exists.intro
    refine ⟨fun wx hS => ?_, ?_⟩
    · obtain ⟨s0, s1, s2⟩ := hS; go_simp; rfl
    simp only [Act.put, List.setIfInBounds_toArray, List.set_cons_succ, List.set_cons_zero, List.getElem_toArray, List.getElem_cons_succ, List.getElem_cons_zero]
    refine wpAnyZ_takeT 3 rfl (by kernel_rfl) (by kernel_rfl) (by kernel_rfl) (by kernel_rfl) (by kernel_rfl) (fun _ _ _ _ h => h) rfl (by exact ⟨hc1 _, by simp, by simp⟩) ?_
    apply Exists.intro
    refine ⟨fun wx hS => ?_, ?_⟩
    · obtain ⟨s0, s1, s2⟩ := hS; go_simp; rfl
    simp only [Act.put, List.setIfInBounds_toArray, List.set_cons_succ, List.set_cons_zero, List.getElem_toArray, List.getElem_cons_succ, List.getElem_cons_zero]
    refine wpAnyZ_takeT 4 rfl (by kernel_rfl) (by kernel_rfl) (by kernel_rfl) (by kernel_rfl) (by kernel_rfl) (fun _ _ _ _ h => h) rfl (by exact ⟨hc1 _, by simp, by simp⟩) ?_
    apply Exists.intro
    refine ⟨fun wx hS => ?_, ?_⟩
    · obtain ⟨s0, s1, s2⟩ := hS; go_simp; rfl
    simp only [Act.put, List.setIfInBounds_toArray, List.set_cons_succ, List.set_cons_zero, List.getElem_toArray, List.getElem_cons_succ, List.getElem_cons_zero]
    refine wpAnyZ_takeT 5 rfl (by kernel_rfl) (by kernel_rfl) (by kernel_rfl) (by kernel_rfl) (by kernel_rfl) (fun _ _ _ _ h => h) rfl (by exact ⟨hc1 _, by simp, by simp⟩) ?_
    apply Exists.intro
    refine ⟨fun wx hS => ?_, ?_⟩
    · obtain ⟨s0, s1, s2⟩ := hS; go_simp; rfl
    simp only [Act.put, List.setIfInBounds_toArray, List.set_cons_succ, List.set_cons_zero, List.getElem_toArray, List.getElem_cons_succ, List.getElem_cons_zero]
    refine wpAnyZ_takeT 6 rfl (by kernel_rfl) (by kernel_rfl) (by kernel_rfl) (by kernel_rfl) (by kernel_rfl) (fun _ _ _ _ h => h) rfl (by exact ⟨hc1 _, by simp, by simp⟩) ?_
    apply Exists.intro
    refine ⟨fun wx hS => ?_, ?_⟩
    · obtain ⟨s0, s1, s2⟩ := hS; go_simp; rfl
    simp only [Act.put, List.setIfInBounds_toArray, List.set_cons_succ, List.set_cons_zero, List.getElem_toArray, List.getElem_cons_succ, List.getElem_cons_zero]
    refine wpAnyZ_takeT 7 rfl (by kernel_rfl) (by kernel_rfl) (by kernel_rfl) (by kernel_rfl) (by kernel_rfl) (fun _ _ _ _ h => h) rfl (by exact ⟨hc1 _, by simp, by simp⟩) ?_
    apply Exists.intro
    refine ⟨fun wx hS => ?_, ?_⟩
    · obtain ⟨s0, s1, s2⟩ := hS; go_simp; rfl
    simp only [Act.put, List.setIfInBounds_toArray, List.set_cons_succ, List.set_cons_zero, List.getElem_toArray, List.getElem_cons_succ, List.getElem_cons_zero]
    refine wpAnyZ_takeT 8 rfl (by kernel_rfl) (by kernel_rfl) (by kernel_rfl) (by kernel_rfl) (by kernel_rfl) (fun _ _ _ _ h => h) rfl (by exact ⟨hc1 _, by simp, by simp⟩) ?_
    apply Exists.intro
    refine ⟨fun wx hS => ?_, ?_⟩
    · obtain ⟨s0, s1, s2⟩ := hS; go_simp; rfl
    simp only [Act.put, List.setIfInBounds_toArray, List.set_cons_succ, List.set_cons_zero, List.getElem_toArray, List.getElem_cons_succ, List.getElem_cons_zero]
    refine wpAnyZ_takeT 9 rfl (by kernel_rfl) (by kernel_rfl) (by kernel_rfl) (by kernel_rfl) (by kernel_rfl) (fun _ _ _ _ h => h) rfl (by exact ⟨hc1 _, by simp, by simp⟩) ?_
    apply Exists.intro
    refine ⟨fun wx hS => ?_, ?_⟩
    · obtain ⟨s0, s1, s2⟩ := hS; go_simp; rfl
    simp only [Act.put, List.setIfInBounds_toArray, List.set_cons_succ, List.set_cons_zero, List.getElem_toArray, List.getElem_cons_succ, List.getElem_cons_zero]
    refine wpAnyZ_takeT 10 rfl (by kernel_rfl) (by kernel_rfl) (by kernel_rfl) (by kernel_rfl) (by kernel_rfl) (fun _ _ _ _ h => h) rfl (by exact ⟨hc1 _, by simp, by simp⟩) ?_
    apply Exists.intro
    refine ⟨fun wx hS => ?_, ?_⟩
    · obtain ⟨s0, s1, s2⟩ := hS; go_simp; rfl
    simp only [Act.put, List.setIfInBounds_toArray, List.set_cons_succ, List.set_cons_zero, List.getElem_toArray, List.getElem_cons_succ, List.getElem_cons_zero]
    refine wpAnyZ_takeT 11 rfl (by kernel_rfl) (by kernel_rfl) (by kernel_rfl) (by kernel_rfl) (by kernel_rfl) (fun _ _ _ _ h => h) rfl (by exact ⟨hc1 _, by simp, by simp⟩) ?_
    apply Exists.intro
    refine ⟨fun wx hS => ?_, ?_⟩
    · obtain ⟨s0, s1, s2⟩ := hS; go_simp; rfl
    simp only [Act.put, List.setIfInBounds_toArray, List.set_cons_succ, List.set_cons_zero, List.getElem_toArray, List.getElem_cons_succ, List.getElem_cons_zero]
    refine wpAnyZ_one 12 (by kernel_rfl) rfl rfl (fun K hK => ?_)
    try simp only [List.getElem_toArray, List.getElem_cons_succ, List.getElem_cons_zero]
    go_simp
    refine (HADD.out _ (((Upd.refl [] w).alloc _).drewN _)).mono ?_
    rintro e w2 ⟨rfl, hu2, v', d, h1, h2, h3, h4, h5⟩
    have F := hide (FIN.out _ _ v' d (((Upd.refl [] w).alloc _).drewN _) hu2 h1 h2 h3 h4 h5)
    clear hu2 h1 h2 h3 h4 h5
    refine hK _ _ (.inl rfl) ?_
    clear hK K
    try simp only [Act.put, List.setIfInBounds_toArray, List.set_cons_succ, List.set_cons_zero]
    refine wpAnyZ_done (by kernel_rfl) ?_ _
    go_wp2_with fail
    go_ret
    exact F.out
end Go.Proofs.Ytmedpbpjjjhhiaa.Vot
