/- app.Same: of two that are alike; of two whose counts differ. -/
import Derived.Test.YthpnnffogbjhpaaGreatDoorKvSa
import Derived.Test.YthpnnffogbjhpaaGreatDoorKvP
import Derived.Test.YthpnnffogbjhpaaGreatDoorKvU
set_option linter.unusedSimpArgs false
set_option linter.unusedVariables false
set_option linter.unnecessarySimpa false
namespace Go.Proofs.YthpnnffogbjhpaaGreatDoor.Kv
set_option linter.unusedSimpArgs false
set_option linter.unusedVariables false
open Go.RowKit Go.Lib Go.Proofs.YthpnnffogbjhpaaGreatDoor.Crc Go.Proofs.YthpnnffogbjhpaaGreatDoor.Cm
noncomputable def asameOps : Array Oper := findOps 2 ((Tryz.f16.body).getD .skip)
set_option maxRecDepth 100000 in
set_option maxHeartbeats 4000000 in
theorem asame_any {lo1 hi1 p1 lo2 hi2 p2 i : Nat} {a : Ap} (w : World) (h1 : ApIs w lo1 hi1 p1 a) (h2 : ApIs w lo2 hi2 p2 a) (o1 : ApOk a i) (hi4 : i ≤ 10000) :
    Calls Tryz.prog 16 #[.pointer (some ⟨p1, 0, none⟩), .pointer (some ⟨p2, 0, none⟩)] w fun e w' => e = .returned (.bool true) ∧ Upd [] w w' := by
  have o2 := o1
  have H1 := hide h1; have H2 := hide h2; have OK1 := hide o1; have OK2 := hide o2
  clear h1 h2 o1 o2
  go_enter Tryz.func16, Tryz.ntmps16
  go_wp2_with fail
  refine (acopy_any w H1.out OK1.out hi4).mono ?_
  rintro e w1 ⟨⟨q1, rfl, hq1⟩, hu1⟩
  have Q1 := hide hq1; have U1 := hide hu1; have H21 := hide (H2.out.upd_nil hu1)
  clear hq1 hu1
  go_wp2_with fail
  refine (acopy_any w1 H21.out OK2.out hi4).mono ?_
  rintro e w2 ⟨⟨q2, rfl, hq2⟩, hu2⟩
  have U2 := hide (U1.out.trans hu2)
  obtain ⟨sb1, sg1, tb1, tc1, tg1, hA1, -⟩ := Q1.out.upd_nil hu2
  obtain ⟨sb2, sg2, tb2, tc2, tg2, hA2, -⟩ := hq2
  have A1 := hide hA1; have A2 := hide hA2
  clear hu2 hA1 hA2
  go_upto_region 2 with fail
  have qn : ((a.n : Int) == (a.n : Int)) = true := by simp
  refine wp_region_seq asameOps (by kernel_rfl) [22, 35] (Upd [] w2) (by kernel_rfl) (by kernel_rfl) (fun _ _ d _ _ h => by cases d <;> exact h) ((Upd.refl _ _).drewN 1) ?_
  refine wpSeq_take (by kernel_rfl) (by kernel_rfl) ?_
  apply Exists.intro
  refine ⟨fun wx hS => ?_, fun a' ha => ?_⟩
  · go_simp; rfl
  simp only [Act.put, List.setIfInBounds_toArray, List.set_cons_succ, List.set_cons_zero] at ha
  subst ha
  refine wpSeq_take (by kernel_rfl) (by kernel_rfl) ?_
  apply Exists.intro
  refine ⟨fun wx hS => ?_, fun a' ha => ?_⟩
  · go_simp; rfl
  simp only [Act.put, List.setIfInBounds_toArray, List.set_cons_succ, List.set_cons_zero] at ha
  subst ha
  refine wpSeq_take (by kernel_rfl) (by kernel_rfl) ?_
  apply Exists.intro
  refine ⟨fun wx hS => ?_, fun a' ha => ?_⟩
  · go_simp; rfl
  simp only [Act.put, List.setIfInBounds_toArray, List.set_cons_succ, List.set_cons_zero] at ha
  subst ha
  refine wpSeq_take (by kernel_rfl) (by kernel_rfl) ?_
  apply Exists.intro
  refine ⟨fun wx hS => ?_, fun a' ha => ?_⟩
  · go_simp; rfl
  simp only [Act.put, List.setIfInBounds_toArray, List.set_cons_succ, List.set_cons_zero] at ha
  subst ha
  refine wpSeq_take (by kernel_rfl) (by kernel_rfl) ?_
  apply Exists.intro
  refine ⟨fun wx hS => ?_, fun a' ha => ?_⟩
  · have c0 : wx.cell? ⟨q1, 2, none⟩ = some (.int .u64 (a.n : Int)) := blk_cell (hS.get A1.out.blk (by simp)) rfl; go_simp; rfl
  simp only [Act.put, List.setIfInBounds_toArray, List.set_cons_succ, List.set_cons_zero] at ha
  subst ha
  refine wpSeq_take (by kernel_rfl) (by kernel_rfl) ?_
  apply Exists.intro
  refine ⟨fun wx hS => ?_, fun a' ha => ?_⟩
  · go_simp; rfl
  simp only [Act.put, List.setIfInBounds_toArray, List.set_cons_succ, List.set_cons_zero] at ha
  subst ha
  refine wpSeq_take (by kernel_rfl) (by kernel_rfl) ?_
  apply Exists.intro
  refine ⟨fun wx hS => ?_, fun a' ha => ?_⟩
  · go_simp; rfl
  simp only [Act.put, List.setIfInBounds_toArray, List.set_cons_succ, List.set_cons_zero] at ha
  subst ha
  refine wpSeq_take (by kernel_rfl) (by kernel_rfl) ?_
  apply Exists.intro
  refine ⟨fun wx hS => ?_, fun a' ha => ?_⟩
  · go_simp; rfl
  simp only [Act.put, List.setIfInBounds_toArray, List.set_cons_succ, List.set_cons_zero] at ha
  subst ha
  refine wpSeq_take (by kernel_rfl) (by kernel_rfl) ?_
  apply Exists.intro
  refine ⟨fun wx hS => ?_, fun a' ha => ?_⟩
  · go_simp; rfl
  simp only [Act.put, List.setIfInBounds_toArray, List.set_cons_succ, List.set_cons_zero] at ha
  subst ha
  refine wpSeq_take (by kernel_rfl) (by kernel_rfl) ?_
  apply Exists.intro
  refine ⟨fun wx hS => ?_, fun a' ha => ?_⟩
  · have c0 : wx.cell? ⟨q2, 2, none⟩ = some (.int .u64 (a.n : Int)) := blk_cell (hS.get A2.out.blk (by simp)) rfl; go_simp; rfl
  simp only [Act.put, List.setIfInBounds_toArray, List.set_cons_succ, List.set_cons_zero] at ha
  subst ha
  refine wpSeq_take (by kernel_rfl) (by kernel_rfl) ?_
  apply Exists.intro
  refine ⟨fun wx hS => ?_, fun a' ha => ?_⟩
  · go_simp; rfl
  simp only [Act.put, List.setIfInBounds_toArray, List.set_cons_succ, List.set_cons_zero] at ha
  subst ha
  refine wpSeq_take (by kernel_rfl) (by kernel_rfl) ?_
  apply Exists.intro
  refine ⟨fun wx hS => ?_, fun a' ha => ?_⟩
  · go_simp; rfl
  simp only [Act.put, List.setIfInBounds_toArray, List.set_cons_succ, List.set_cons_zero] at ha
  subst ha
  refine wpSeq_take (by kernel_rfl) (by kernel_rfl) ?_
  apply Exists.intro
  refine ⟨fun wx hS => ?_, fun a' ha => ?_⟩
  · go_simp; rfl
  simp only [Act.put, List.setIfInBounds_toArray, List.set_cons_succ, List.set_cons_zero] at ha
  subst ha
  refine wpSeq_take (by kernel_rfl) (by kernel_rfl) ?_
  apply Exists.intro
  refine ⟨fun wx hS => ?_, fun a' ha => ?_⟩
  · go_simp; rfl
  simp only [Act.put, List.setIfInBounds_toArray, List.set_cons_succ, List.set_cons_zero] at ha
  subst ha
  refine wpSeq_take (by kernel_rfl) (by kernel_rfl) ?_
  apply Exists.intro
  refine ⟨fun wx hS => ?_, fun a' ha => ?_⟩
  · go_simp; rfl
  simp only [Act.put, List.setIfInBounds_toArray, List.set_cons_succ, List.set_cons_zero] at ha
  subst ha
  refine wpSeq_take (by kernel_rfl) (by kernel_rfl) ?_
  apply Exists.intro
  refine ⟨fun wx hS => ?_, fun a' ha => ?_⟩
  · go_simp; rfl
  simp only [Act.put, List.setIfInBounds_toArray, List.set_cons_succ, List.set_cons_zero] at ha
  subst ha
  refine wpSeq_take (by kernel_rfl) (by kernel_rfl) ?_
  apply Exists.intro
  refine ⟨fun wx hS => ?_, fun a' ha => ?_⟩
  · have c0 : wx.cell? ⟨q1, 0, none⟩ = some (.pointer (some ⟨sb1, 0, none⟩)) := blk_cell (hS.get A1.out.blk (by simp)) rfl; go_simp; rfl
  simp only [Act.put, List.setIfInBounds_toArray, List.set_cons_succ, List.set_cons_zero] at ha
  subst ha
  refine wpSeq_take (by kernel_rfl) (by kernel_rfl) ?_
  apply Exists.intro
  refine ⟨fun wx hS => ?_, fun a' ha => ?_⟩
  · go_simp; rfl
  simp only [Act.put, List.setIfInBounds_toArray, List.set_cons_succ, List.set_cons_zero] at ha
  subst ha
  refine wpSeq_take (by kernel_rfl) (by kernel_rfl) ?_
  apply Exists.intro
  refine ⟨fun wx hS => ?_, fun a' ha => ?_⟩
  · go_simp; rfl
  simp only [Act.put, List.setIfInBounds_toArray, List.set_cons_succ, List.set_cons_zero] at ha
  subst ha
  refine wpSeq_take (by kernel_rfl) (by kernel_rfl) ?_
  apply Exists.intro
  refine ⟨fun wx hS => ?_, fun a' ha => ?_⟩
  · go_simp; rfl
  simp only [Act.put, List.setIfInBounds_toArray, List.set_cons_succ, List.set_cons_zero] at ha
  subst ha
  refine wpSeq_take (by kernel_rfl) (by kernel_rfl) ?_
  apply Exists.intro
  refine ⟨fun wx hS => ?_, fun a' ha => ?_⟩
  · go_simp; rfl
  simp only [Act.put, List.setIfInBounds_toArray, List.set_cons_succ, List.set_cons_zero] at ha
  subst ha
  refine wpSeq_take (by kernel_rfl) (by kernel_rfl) ?_
  apply Exists.intro
  refine ⟨fun wx hS => ?_, fun a' ha => ?_⟩
  · have c0 : wx.cell? ⟨q2, 0, none⟩ = some (.pointer (some ⟨sb2, 0, none⟩)) := blk_cell (hS.get A2.out.blk (by simp)) rfl; go_simp; rfl
  simp only [Act.put, List.setIfInBounds_toArray, List.set_cons_succ, List.set_cons_zero] at ha
  subst ha
  refine wpSeq_one (by kernel_rfl) (by kernel_rfl) (fun K hK => ?_)
  go_simp
  refine (ksame_any (w2.drewN 1) (A1.out.st.upd_nil ((Upd.refl [] w2).drewN 1)) (A2.out.st.upd_nil ((Upd.refl [] w2).drewN 1)) OK1.out.kv OK1.out.kv (by have := OK1.out.len; omega)).mono ?_
  rintro e w3 ⟨rfl, hu3⟩
  rw [decide_eq_true rfl]
  have hg3 : Upd [] w2 w3 := ((Upd.refl _ _).drewN 1).trans hu3
  have G3 := hide hg3
  clear hu3
  refine hK _ _ (hg3) ?_
  clear hK K
  try simp only [Act.put, List.setIfInBounds_toArray, List.set_cons_succ, List.set_cons_zero]
  clear hg3
  refine wpSeq_take (by kernel_rfl) (by kernel_rfl) ?_
  apply Exists.intro
  refine ⟨fun wx hS => ?_, fun a' ha => ?_⟩
  · go_simp; rfl
  simp only [Act.put, List.setIfInBounds_toArray, List.set_cons_succ, List.set_cons_zero] at ha
  subst ha
  refine wpSeq_take (by kernel_rfl) (by kernel_rfl) ?_
  apply Exists.intro
  refine ⟨fun wx hS => ?_, fun a' ha => ?_⟩
  · go_simp; rfl
  simp only [Act.put, List.setIfInBounds_toArray, List.set_cons_succ, List.set_cons_zero] at ha
  subst ha
  refine wpSeq_take (by kernel_rfl) (by kernel_rfl) ?_
  apply Exists.intro
  refine ⟨fun wx hS => ?_, fun a' ha => ?_⟩
  · go_simp; rfl
  simp only [Act.put, List.setIfInBounds_toArray, List.set_cons_succ, List.set_cons_zero] at ha
  subst ha
  refine wpSeq_take (by kernel_rfl) (by kernel_rfl) ?_
  apply Exists.intro
  refine ⟨fun wx hS => ?_, fun a' ha => ?_⟩
  · go_simp; rfl
  simp only [Act.put, List.setIfInBounds_toArray, List.set_cons_succ, List.set_cons_zero] at ha
  subst ha
  refine wpSeq_take (by kernel_rfl) (by kernel_rfl) ?_
  apply Exists.intro
  refine ⟨fun wx hS => ?_, fun a' ha => ?_⟩
  · go_simp; rfl
  simp only [Act.put, List.setIfInBounds_toArray, List.set_cons_succ, List.set_cons_zero] at ha
  subst ha
  refine wpSeq_take (by kernel_rfl) (by kernel_rfl) ?_
  apply Exists.intro
  refine ⟨fun wx hS => ?_, fun a' ha => ?_⟩
  · go_simp; rfl
  simp only [Act.put, List.setIfInBounds_toArray, List.set_cons_succ, List.set_cons_zero] at ha
  subst ha
  refine wpSeq_take (by kernel_rfl) (by kernel_rfl) ?_
  apply Exists.intro
  refine ⟨fun wx hS => ?_, fun a' ha => ?_⟩
  · have c0 : wx.cell? ⟨q1, 1, none⟩ = some (.pointer (some ⟨tb1, 0, none⟩)) := blk_cell (hS.get A1.out.blk (by simp)) rfl; go_simp; rfl
  simp only [Act.put, List.setIfInBounds_toArray, List.set_cons_succ, List.set_cons_zero] at ha
  subst ha
  refine wpSeq_take (by kernel_rfl) (by kernel_rfl) ?_
  apply Exists.intro
  refine ⟨fun wx hS => ?_, fun a' ha => ?_⟩
  · go_simp; rfl
  simp only [Act.put, List.setIfInBounds_toArray, List.set_cons_succ, List.set_cons_zero] at ha
  subst ha
  refine wpSeq_take (by kernel_rfl) (by kernel_rfl) ?_
  apply Exists.intro
  refine ⟨fun wx hS => ?_, fun a' ha => ?_⟩
  · go_simp; rfl
  simp only [Act.put, List.setIfInBounds_toArray, List.set_cons_succ, List.set_cons_zero] at ha
  subst ha
  refine wpSeq_take (by kernel_rfl) (by kernel_rfl) ?_
  apply Exists.intro
  refine ⟨fun wx hS => ?_, fun a' ha => ?_⟩
  · go_simp; rfl
  simp only [Act.put, List.setIfInBounds_toArray, List.set_cons_succ, List.set_cons_zero] at ha
  subst ha
  refine wpSeq_take (by kernel_rfl) (by kernel_rfl) ?_
  apply Exists.intro
  refine ⟨fun wx hS => ?_, fun a' ha => ?_⟩
  · go_simp; rfl
  simp only [Act.put, List.setIfInBounds_toArray, List.set_cons_succ, List.set_cons_zero] at ha
  subst ha
  refine wpSeq_take (by kernel_rfl) (by kernel_rfl) ?_
  apply Exists.intro
  refine ⟨fun wx hS => ?_, fun a' ha => ?_⟩
  · have c0 : wx.cell? ⟨q2, 1, none⟩ = some (.pointer (some ⟨tb2, 0, none⟩)) := blk_cell (hS.get A2.out.blk (by simp)) rfl; go_simp; rfl
  simp only [Act.put, List.setIfInBounds_toArray, List.set_cons_succ, List.set_cons_zero] at ha
  subst ha
  refine wpSeq_one (by kernel_rfl) (by kernel_rfl) (fun K hK => ?_)
  go_simp
  refine (tsame_any w3 (A1.out.tab.upd_nil G3.out) (A2.out.tab.upd_nil G3.out) OK1.out.rise OK1.out.rise (fun p hp => (OK1.out.row p hp).1) (fun p hp => (OK1.out.row p hp).1) (by have := OK1.out.tab; omega) (by have := OK1.out.tab; omega)).mono ?_
  rintro e w4 ⟨rfl, hu4⟩
  rw [decide_eq_true rfl]
  have hg4 : Upd [] w2 w4 := G3.out.trans hu4
  have G4 := hide hg4
  clear hu4
  refine hK _ _ (hg4) ?_
  clear hK K
  try simp only [Act.put, List.setIfInBounds_toArray, List.set_cons_succ, List.set_cons_zero]
  clear hg4
  refine wpSeq_take (by kernel_rfl) (by kernel_rfl) ?_
  apply Exists.intro
  refine ⟨fun wx hS => ?_, fun a' ha => ?_⟩
  · go_simp; rfl
  simp only [Act.put, List.setIfInBounds_toArray, List.set_cons_succ, List.set_cons_zero] at ha
  subst ha
  refine wpSeq_take (by kernel_rfl) (by kernel_rfl) ?_
  apply Exists.intro
  refine ⟨fun wx hS => ?_, fun a' ha => ?_⟩
  · go_simp; rfl
  simp only [Act.put, List.setIfInBounds_toArray, List.set_cons_succ, List.set_cons_zero] at ha
  subst ha
  unfold wpSeq
  go_wp2_with fail
  go_ret
  exact ⟨rfl, U2.out.trans G4.out⟩
set_option maxRecDepth 100000 in
set_option maxHeartbeats 4000000 in
theorem adiff_any {lo1 hi1 p1 lo2 hi2 p2 i : Nat} {a b : Ap} (w : World) (h1 : ApIs w lo1 hi1 p1 a) (h2 : ApIs w lo2 hi2 p2 b) (o1 : ApOk a i) (o2 : ApOk b i) (hi4 : i ≤ 10000) (hd : a.n ≠ b.n) :
    Calls Tryz.prog 16 #[.pointer (some ⟨p1, 0, none⟩), .pointer (some ⟨p2, 0, none⟩)] w fun e w' => e = .returned (.bool false) ∧ Upd [] w w' := by
  have qn : ((a.n : Int) == (b.n : Int)) = false := by simp; omega
  clear hd
  have H1 := hide h1; have H2 := hide h2; have OK1 := hide o1; have OK2 := hide o2
  clear h1 h2 o1 o2
  go_enter Tryz.func16, Tryz.ntmps16
  go_wp2_with fail
  refine (acopy_any w H1.out OK1.out hi4).mono ?_
  rintro e w1 ⟨⟨q1, rfl, hq1⟩, hu1⟩
  have Q1 := hide hq1; have U1 := hide hu1; have H21 := hide (H2.out.upd_nil hu1)
  clear hq1 hu1
  go_wp2_with fail
  refine (acopy_any w1 H21.out OK2.out hi4).mono ?_
  rintro e w2 ⟨⟨q2, rfl, hq2⟩, hu2⟩
  have U2 := hide (U1.out.trans hu2)
  obtain ⟨sb1, sg1, tb1, tc1, tg1, hA1, -⟩ := Q1.out.upd_nil hu2
  obtain ⟨sb2, sg2, tb2, tc2, tg2, hA2, -⟩ := hq2
  have A1 := hide hA1; have A2 := hide hA2
  clear hu2 hA1 hA2
  have c0 : w2.cell? ⟨q1, 2, none⟩ = some (.int .u64 (a.n : Int)) := blk_cell A1.out.blk rfl
  have c1 : w2.cell? ⟨q2, 2, none⟩ = some (.int .u64 (b.n : Int)) := blk_cell A2.out.blk rfl
  go_wp2_with fail
  go_quiet (fail)
  go_wp2_with fail
  go_ret
  exact ⟨rfl, U2.out.drewN _⟩
end Go.Proofs.YthpnnffogbjhpaaGreatDoor.Kv
