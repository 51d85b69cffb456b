/- session.Same. -/
import Derived.Test.YthpnnffogbjhpaaGreatDoorKvN
import Derived.Test.YthpnnffogbjhpaaGreatDoorKvET
import Derived.Test.YthpnnffogbjhpaaGreatDoorGenAll
set_option linter.unusedSimpArgs false
set_option linter.unusedVariables false
set_option linter.unnecessarySimpa false
namespace Go.Proofs.YthpnnffogbjhpaaGreatDoor.Kv
set_option linter.unusedSimpArgs false
set_option linter.unusedVariables false
open Go.RowKit Go.Lib Go.Proofs.YthpnnffogbjhpaaGreatDoor.Crc Go.Proofs.YthpnnffogbjhpaaGreatDoor.Cm
set_option maxRecDepth 100000 in
set_option maxHeartbeats 2000000 in
theorem tsame_any {b1 c1 g1 b2 c2 g2 : Nat} {t1 t2 : TM} (w : World) (h1 : TbIs w b1 c1 g1 t1) (h2 : TbIs w b2 c2 g2 t2) (ht1 : Rise cliK t1) (ht2 : Rise cliK t2) (hk1 : ∀ p ∈ t1, p.1 < 4294967296) (hk2 : ∀ p ∈ t2, p.1 < 4294967296) (hl1 : t1.length ≤ 1000000) (hl2 : t2.length ≤ 1000000) :
    Calls Tryz.prog 48 #[.pointer (some ⟨b1, 0, none⟩), .pointer (some ⟨b2, 0, none⟩)] w fun e w' => e = .returned (.bool (decide (t1 = t2))) ∧ Upd [] w w' := by
  have T1 := hide h1; have T2 := hide h2
  clear h1 h2
  go_enter Tryz.func48, Tryz.ntmps48
  go_upto_region 1 with fail
  refine wp_region_z (fun w' => Upd [] w w') 99 (by kernel_rfl) ?_
  have s0 : Upd [] w (w.drewN 1) := (Upd.refl _ _).drewN 1
  refine zE 0 rfl (by kernel_rfl) (fun _ _ _ _ h => h) rfl (by exact s0) ?_
  apply Exists.intro
  refine ⟨fun wx hS => ?_, ?_⟩
  · go_simp; rfl
  simp only [Act.put, List.setIfInBounds_toArray, List.set_cons_succ, List.set_cons_zero, List.getElem_toArray, List.getElem_cons_zero]
  refine zE 8 rfl (by kernel_rfl) (fun _ _ _ _ h => h) rfl (by exact s0) ?_
  apply Exists.intro
  refine ⟨fun wx hS => ?_, ?_⟩
  · go_simp; rfl
  simp only [Act.put, zz1, zz2, zz3, zz4, zz5, zz6]
  refine wpAnyZ_one 1 (by kernel_rfl) rfl rfl (fun K hK => ?_)
  try simp only [List.getElem_toArray, List.getElem_cons_succ, List.getElem_cons_zero]
  go_simp
  refine (tcopy_any (w.drewN 1) (T1.out.upd_nil s0) ht1 hk1 hl1).mono ?_
  rintro e w1 ⟨⟨b3, c3, g3, rfl, h3, q1, q2, q3⟩, hu1⟩
  have T3 := hide h3; have U1 := hide (s0.trans hu1); have T2' := hide (T2.out.upd_nil (s0.trans hu1))
  clear h3 hu1 T2
  refine hK _ _ (.inr U1.out) ?_
  clear hK K
  try simp only [Act.put, zz1, zz2, zz3]
  refine wpAnyZ_strong (S' := fun w' => Upd [] w1 w') (fun w' h => U1.out.trans h) _ _ _ _ ?_
  have s1 : Upd [] w1 w1 := Upd.refl _ _
  refine zE 2 rfl (by kernel_rfl) (fun _ _ _ _ h => h) rfl (by exact s1) ?_
  apply Exists.intro
  refine ⟨fun wx hS => ?_, ?_⟩
  · go_simp; rfl
  simp only [Act.put, zz1, zz2, zz3, zz4, zz5, zz6]
  refine zE 3 rfl (by kernel_rfl) (fun _ _ _ _ h => h) rfl (by exact s1) ?_
  apply Exists.intro
  refine ⟨fun wx hS => ?_, ?_⟩
  · go_simp; rfl
  simp only [Act.put, zz1, zz2, zz3, zz4, zz5, zz6]
  refine zE 4 rfl (by kernel_rfl) (fun _ _ _ _ h => h) rfl (by exact s1) ?_
  apply Exists.intro
  refine ⟨fun wx hS => ?_, ?_⟩
  · have c0 : wx.cell? ⟨b3, 0, none⟩ = some (.pointer (some ⟨c3, 0, none⟩)) := blk_cell (Upd.get hS T3.out.blk (by simp)) rfl; go_simp; rfl
  simp only [Act.put, zz1, zz2, zz3, zz4, zz5, zz6]
  refine zE 5 rfl (by kernel_rfl) (fun _ _ _ _ h => h) rfl (by exact s1) ?_
  apply Exists.intro
  refine ⟨fun wx hS => ?_, ?_⟩
  · go_simp; rfl
  simp only [Act.put, zz1, zz2, zz3, zz4, zz5, zz6]
  refine zE 6 rfl (by kernel_rfl) (fun _ _ _ _ h => h) rfl (by exact s1) ?_
  apply Exists.intro
  refine ⟨fun wx hS => ?_, ?_⟩
  · go_simp; rfl
  simp only [Act.put, zz1, zz2, zz3, zz4, zz5, zz6]
  refine zE 7 rfl (by kernel_rfl) (fun _ _ _ _ h => h) rfl (by exact s1) ?_
  apply Exists.intro
  refine ⟨fun wx hS => ?_, ?_⟩
  · have c0 : wx.cell? ⟨c3, 0, none⟩ = some (.map (some g3)) := blk_cell (Upd.get hS T3.out.cli (by simp)) rfl; go_simp; rfl
  simp only [Act.put, zz1, zz2, zz3, zz4, zz5, zz6]
  refine wpAnyZ_one 9 (by kernel_rfl) rfl rfl (fun K hK => ?_)
  try simp only [List.getElem_toArray, List.getElem_cons_succ, List.getElem_cons_zero]
  go_simp
  refine (tcopy_any w1 T2'.out ht2 hk2 hl2).mono ?_
  rintro e w2 ⟨⟨b4, c4, g4, rfl, h4, q4, q5, q6⟩, hu2⟩
  have T4 := hide h4; have V2 := hide hu2; have U2 := hide (U1.out.trans hu2); have T3' := hide (T3.out.upd_nil hu2)
  clear h4 hu2 T3
  refine hK _ _ (.inr V2.out) ?_
  clear hK K
  try simp only [Act.put, zz1, zz2, zz3]
  refine wpAnyZ_strong (S' := fun w' => Upd [] w2 w') (fun w' h => V2.out.trans h) _ _ _ _ ?_
  have s2 : Upd [] w2 w2 := Upd.refl _ _
  refine zE 10 rfl (by kernel_rfl) (fun _ _ _ _ h => h) rfl (by exact s2) ?_
  apply Exists.intro
  refine ⟨fun wx hS => ?_, ?_⟩
  · go_simp; rfl
  simp only [Act.put, zz1, zz2, zz3, zz4, zz5, zz6]
  refine zE 11 rfl (by kernel_rfl) (fun _ _ _ _ h => h) rfl (by exact s2) ?_
  apply Exists.intro
  refine ⟨fun wx hS => ?_, ?_⟩
  · go_simp; rfl
  simp only [Act.put, zz1, zz2, zz3, zz4, zz5, zz6]
  refine zE 12 rfl (by kernel_rfl) (fun _ _ _ _ h => h) rfl (by exact s2) ?_
  apply Exists.intro
  refine ⟨fun wx hS => ?_, ?_⟩
  · have c0 : wx.cell? ⟨b4, 0, none⟩ = some (.pointer (some ⟨c4, 0, none⟩)) := blk_cell (Upd.get hS T4.out.blk (by simp)) rfl; go_simp; rfl
  simp only [Act.put, zz1, zz2, zz3, zz4, zz5, zz6]
  refine zE 13 rfl (by kernel_rfl) (fun _ _ _ _ h => h) rfl (by exact s2) ?_
  apply Exists.intro
  refine ⟨fun wx hS => ?_, ?_⟩
  · go_simp; rfl
  simp only [Act.put, zz1, zz2, zz3, zz4, zz5, zz6]
  refine zE 14 rfl (by kernel_rfl) (fun _ _ _ _ h => h) rfl (by exact s2) ?_
  apply Exists.intro
  refine ⟨fun wx hS => ?_, ?_⟩
  · go_simp; rfl
  simp only [Act.put, zz1, zz2, zz3, zz4, zz5, zz6]
  refine zE 15 rfl (by kernel_rfl) (fun _ _ _ _ h => h) rfl (by exact s2) ?_
  apply Exists.intro
  refine ⟨fun wx hS => ?_, ?_⟩
  · have c0 : wx.cell? ⟨c4, 0, none⟩ = some (.map (some g4)) := blk_cell (Upd.get hS T4.out.cli (by simp)) rfl; go_simp; rfl
  simp only [Act.put, zz1, zz2, zz3, zz4, zz5, zz6]
  refine wpAnyZ_one 16 (by kernel_rfl) rfl rfl (fun K hK => ?_)
  try simp only [List.getElem_toArray, List.getElem_cons_succ, List.getElem_cons_zero]
  go_simp
  refine (equalT_any w2 T3'.out.map T4.out.map ht1 ht2 hk1 hl1).mono ?_
  rintro e w3 ⟨rfl, hu3⟩
  have U3 := hide (U2.out.trans hu3)
  refine hK _ _ (.inr hu3) ?_
  clear hK K
  try simp only [Act.put, zz1, zz2, zz3]
  refine zE 17 rfl (by kernel_rfl) (fun _ _ _ _ h => h) rfl (by exact hu3) ?_
  apply Exists.intro
  refine ⟨fun wx hS => ?_, ?_⟩
  · go_simp; rfl
  simp only [Act.put, zz1, zz2, zz3, zz4, zz5, zz6]
  refine wpAnyZ_done (by kernel_rfl) ?_ _
  go_wp2_with fail
  go_ret
  exact ⟨rfl, U3.out⟩
end Go.Proofs.YthpnnffogbjhpaaGreatDoor.Kv
