/- KvX, R11n, R11m in one text. -/
import Derived.Test.YthpnnffogbjhpaaGreatDoorKvEE
import Derived.Test.YthpnnffogbjhpaaGreatDoorKvGH
import Derived.Test.YthpnnffogbjhpaaGreatDoorKvU
import Derived.Test.YthpnnffogbjhpaaGreatDoorKvT
import Derived.Test.YthpnnffogbjhpaaGreatDoorKvD
set_option linter.unusedSimpArgs false
set_option linter.unusedVariables false
set_option linter.unnecessarySimpa false
namespace Go.Proofs.YthpnnffogbjhpaaGreatDoor.Kv
set_option linter.unusedSimpArgs false
set_option linter.unusedVariables false
open Go.RowKit Go.Lib Go.Proofs.YthpnnffogbjhpaaGreatDoor.Crc Go.Proofs.YthpnnffogbjhpaaGreatDoor.Cm
noncomputable def asameOps : Array Oper := findOps 2 ((Tryz.f16.body).getD .skip)
set_option maxRecDepth 100000 in
set_option maxHeartbeats 4000000 in
theorem asame_any {lo1 hi1 p1 lo2 hi2 p2 i : Nat} {a : Ap} (w : World) (h1 : ApIs w lo1 hi1 p1 a) (h2 : ApIs w lo2 hi2 p2 a) (o1 : ApOk a i) (hi4 : i ≤ 10000) :
    Calls Tryz.prog 16 #[.pointer (some ⟨p1, 0, none⟩), .pointer (some ⟨p2, 0, none⟩)] w fun e w' => e = .returned (.bool true) ∧ Upd [] w w' := by
  have o2 := o1
  have H1 := hide h1; have H2 := hide h2; have OK1 := hide o1; have OK2 := hide o2
  clear h1 h2 o1 o2
  go_enter Tryz.func16, Tryz.ntmps16
  go_wp2_with fail
  refine (acopy_any w H1.out OK1.out hi4).mono ?_
  rintro e w1 ⟨⟨q1, rfl, hq1⟩, hu1⟩
  have Q1 := hide hq1; have U1 := hide hu1; have H21 := hide (H2.out.upd_nil hu1)
  clear hq1 hu1
  go_wp2_with fail
  refine (acopy_any w1 H21.out OK2.out hi4).mono ?_
  rintro e w2 ⟨⟨q2, rfl, hq2⟩, hu2⟩
  have U2 := hide (U1.out.trans hu2)
  obtain ⟨sb1, sg1, tb1, tc1, tg1, hA1, -⟩ := Q1.out.upd_nil hu2
  obtain ⟨sb2, sg2, tb2, tc2, tg2, hA2, -⟩ := hq2
  have A1 := hide hA1; have A2 := hide hA2
  clear hu2 hA1 hA2
  go_upto_region 2 with fail
  have qn : ((a.n : Int) == (a.n : Int)) = true := by simp
  refine wp_region_seq asameOps (by kernel_rfl) [22, 35] (Upd [] w2) (by kernel_rfl) (by kernel_rfl) (fun _ _ d _ _ h => by cases d <;> exact h) ((Upd.refl _ _).drewN 1) ?_
  refine wpSeq_take (by kernel_rfl) (by kernel_rfl) ?_
  apply Exists.intro
  refine ⟨fun wx hS => ?_, fun a' ha => ?_⟩
  · go_simp; rfl
  simp only [Act.put, List.setIfInBounds_toArray, List.set_cons_succ, List.set_cons_zero] at ha
  subst ha
  refine wpSeq_take (by kernel_rfl) (by kernel_rfl) ?_
  apply Exists.intro
  refine ⟨fun wx hS => ?_, fun a' ha => ?_⟩
  · go_simp; rfl
  simp only [Act.put, List.setIfInBounds_toArray, List.set_cons_succ, List.set_cons_zero] at ha
  subst ha
  refine wpSeq_take (by kernel_rfl) (by kernel_rfl) ?_
  apply Exists.intro
  refine ⟨fun wx hS => ?_, fun a' ha => ?_⟩
  · go_simp; rfl
  simp only [Act.put, List.setIfInBounds_toArray, List.set_cons_succ, List.set_cons_zero] at ha
  subst ha
  refine wpSeq_take (by kernel_rfl) (by kernel_rfl) ?_
  apply Exists.intro
  refine ⟨fun wx hS => ?_, fun a' ha => ?_⟩
  · go_simp; rfl
  simp only [Act.put, List.setIfInBounds_toArray, List.set_cons_succ, List.set_cons_zero] at ha
  subst ha
  refine wpSeq_take (by kernel_rfl) (by kernel_rfl) ?_
  apply Exists.intro
  refine ⟨fun wx hS => ?_, fun a' ha => ?_⟩
  · have c0 : wx.cell? ⟨q1, 2, none⟩ = some (.int .u64 (a.n : Int)) := blk_cell (hS.get A1.out.blk (by simp)) rfl; go_simp; rfl
  simp only [Act.put, List.setIfInBounds_toArray, List.set_cons_succ, List.set_cons_zero] at ha
  subst ha
  refine wpSeq_take (by kernel_rfl) (by kernel_rfl) ?_
  apply Exists.intro
  refine ⟨fun wx hS => ?_, fun a' ha => ?_⟩
  · go_simp; rfl
  simp only [Act.put, List.setIfInBounds_toArray, List.set_cons_succ, List.set_cons_zero] at ha
  subst ha
  refine wpSeq_take (by kernel_rfl) (by kernel_rfl) ?_
  apply Exists.intro
  refine ⟨fun wx hS => ?_, fun a' ha => ?_⟩
  · go_simp; rfl
  simp only [Act.put, List.setIfInBounds_toArray, List.set_cons_succ, List.set_cons_zero] at ha
  subst ha
  refine wpSeq_take (by kernel_rfl) (by kernel_rfl) ?_
  apply Exists.intro
  refine ⟨fun wx hS => ?_, fun a' ha => ?_⟩
  · go_simp; rfl
  simp only [Act.put, List.setIfInBounds_toArray, List.set_cons_succ, List.set_cons_zero] at ha
  subst ha
  refine wpSeq_take (by kernel_rfl) (by kernel_rfl) ?_
  apply Exists.intro
  refine ⟨fun wx hS => ?_, fun a' ha => ?_⟩
  · go_simp; rfl
  simp only [Act.put, List.setIfInBounds_toArray, List.set_cons_succ, List.set_cons_zero] at ha
  subst ha
  refine wpSeq_take (by kernel_rfl) (by kernel_rfl) ?_
  apply Exists.intro
  refine ⟨fun wx hS => ?_, fun a' ha => ?_⟩
  · have c0 : wx.cell? ⟨q2, 2, none⟩ = some (.int .u64 (a.n : Int)) := blk_cell (hS.get A2.out.blk (by simp)) rfl; go_simp; rfl
  simp only [Act.put, List.setIfInBounds_toArray, List.set_cons_succ, List.set_cons_zero] at ha
  subst ha
  refine wpSeq_take (by kernel_rfl) (by kernel_rfl) ?_
  apply Exists.intro
  refine ⟨fun wx hS => ?_, fun a' ha => ?_⟩
  · go_simp; rfl
  simp only [Act.put, List.setIfInBounds_toArray, List.set_cons_succ, List.set_cons_zero] at ha
  subst ha
  refine wpSeq_take (by kernel_rfl) (by kernel_rfl) ?_
  apply Exists.intro
  refine ⟨fun wx hS => ?_, fun a' ha => ?_⟩
  · go_simp; rfl
  simp only [Act.put, List.setIfInBounds_toArray, List.set_cons_succ, List.set_cons_zero] at ha
  subst ha
  refine wpSeq_take (by kernel_rfl) (by kernel_rfl) ?_
  apply Exists.intro
  refine ⟨fun wx hS => ?_, fun a' ha => ?_⟩
  · go_simp; rfl
  simp only [Act.put, List.setIfInBounds_toArray, List.set_cons_succ, List.set_cons_zero] at ha
  subst ha
  refine wpSeq_take (by kernel_rfl) (by kernel_rfl) ?_
  apply Exists.intro
  refine ⟨fun wx hS => ?_, fun a' ha => ?_⟩
  · go_simp; rfl
  simp only [Act.put, List.setIfInBounds_toArray, List.set_cons_succ, List.set_cons_zero] at ha
  subst ha
  refine wpSeq_take (by kernel_rfl) (by kernel_rfl) ?_
  apply Exists.intro
  refine ⟨fun wx hS => ?_, fun a' ha => ?_⟩
  · go_simp; rfl
  simp only [Act.put, List.setIfInBounds_toArray, List.set_cons_succ, List.set_cons_zero] at ha
  subst ha
  refine wpSeq_take (by kernel_rfl) (by kernel_rfl) ?_
  apply Exists.intro
  refine ⟨fun wx hS => ?_, fun a' ha => ?_⟩
  · go_simp; rfl
  simp only [Act.put, List.setIfInBounds_toArray, List.set_cons_succ, List.set_cons_zero] at ha
  subst ha
  refine wpSeq_take (by kernel_rfl) (by kernel_rfl) ?_
  apply Exists.intro
  refine ⟨fun wx hS => ?_, fun a' ha => ?_⟩
  · have c0 : wx.cell? ⟨q1, 0, none⟩ = some (.pointer (some ⟨sb1, 0, none⟩)) := blk_cell (hS.get A1.out.blk (by simp)) rfl; go_simp; rfl
  simp only [Act.put, List.setIfInBounds_toArray, List.set_cons_succ, List.set_cons_zero] at ha
  subst ha
  refine wpSeq_take (by kernel_rfl) (by kernel_rfl) ?_
  apply Exists.intro
  refine ⟨fun wx hS => ?_, fun a' ha => ?_⟩
  · go_simp; rfl
  simp only [Act.put, List.setIfInBounds_toArray, List.set_cons_succ, List.set_cons_zero] at ha
  subst ha
  refine wpSeq_take (by kernel_rfl) (by kernel_rfl) ?_
  apply Exists.intro
  refine ⟨fun wx hS => ?_, fun a' ha => ?_⟩
  · go_simp; rfl
  simp only [Act.put, List.setIfInBounds_toArray, List.set_cons_succ, List.set_cons_zero] at ha
  subst ha
  refine wpSeq_take (by kernel_rfl) (by kernel_rfl) ?_
  apply Exists.intro
  refine ⟨fun wx hS => ?_, fun a' ha => ?_⟩
  · go_simp; rfl
  simp only [Act.put, List.setIfInBounds_toArray, List.set_cons_succ, List.set_cons_zero] at ha
  subst ha
  refine wpSeq_take (by kernel_rfl) (by kernel_rfl) ?_
  apply Exists.intro
  refine ⟨fun wx hS => ?_, fun a' ha => ?_⟩
  · go_simp; rfl
  simp only [Act.put, List.setIfInBounds_toArray, List.set_cons_succ, List.set_cons_zero] at ha
  subst ha
  refine wpSeq_take (by kernel_rfl) (by kernel_rfl) ?_
  apply Exists.intro
  refine ⟨fun wx hS => ?_, fun a' ha => ?_⟩
  · have c0 : wx.cell? ⟨q2, 0, none⟩ = some (.pointer (some ⟨sb2, 0, none⟩)) := blk_cell (hS.get A2.out.blk (by simp)) rfl; go_simp; rfl
  simp only [Act.put, List.setIfInBounds_toArray, List.set_cons_succ, List.set_cons_zero] at ha
  subst ha
  refine wpSeq_one (by kernel_rfl) (by kernel_rfl) (fun K hK => ?_)
  go_simp
  refine (ksame_any (w2.drewN 1) (A1.out.st.upd_nil ((Upd.refl [] w2).drewN 1)) (A2.out.st.upd_nil ((Upd.refl [] w2).drewN 1)) OK1.out.kv OK1.out.kv (by have := OK1.out.len; omega)).mono ?_
  rintro e w3 ⟨rfl, hu3⟩
  rw [decide_eq_true rfl]
  have hg3 : Upd [] w2 w3 := ((Upd.refl _ _).drewN 1).trans hu3
  have G3 := hide hg3
  clear hu3
  refine hK _ _ (hg3) ?_
  clear hK K
  try simp only [Act.put, List.setIfInBounds_toArray, List.set_cons_succ, List.set_cons_zero]
  clear hg3
  refine wpSeq_take (by kernel_rfl) (by kernel_rfl) ?_
  apply Exists.intro
  refine ⟨fun wx hS => ?_, fun a' ha => ?_⟩
  · go_simp; rfl
  simp only [Act.put, List.setIfInBounds_toArray, List.set_cons_succ, List.set_cons_zero] at ha
  subst ha
  refine wpSeq_take (by kernel_rfl) (by kernel_rfl) ?_
  apply Exists.intro
  refine ⟨fun wx hS => ?_, fun a' ha => ?_⟩
  · go_simp; rfl
  simp only [Act.put, List.setIfInBounds_toArray, List.set_cons_succ, List.set_cons_zero] at ha
  subst ha
  refine wpSeq_take (by kernel_rfl) (by kernel_rfl) ?_
  apply Exists.intro
  refine ⟨fun wx hS => ?_, fun a' ha => ?_⟩
  · go_simp; rfl
  simp only [Act.put, List.setIfInBounds_toArray, List.set_cons_succ, List.set_cons_zero] at ha
  subst ha
  refine wpSeq_take (by kernel_rfl) (by kernel_rfl) ?_
  apply Exists.intro
  refine ⟨fun wx hS => ?_, fun a' ha => ?_⟩
  · go_simp; rfl
  simp only [Act.put, List.setIfInBounds_toArray, List.set_cons_succ, List.set_cons_zero] at ha
  subst ha
  refine wpSeq_take (by kernel_rfl) (by kernel_rfl) ?_
  apply Exists.intro
  refine ⟨fun wx hS => ?_, fun a' ha => ?_⟩
  · go_simp; rfl
  simp only [Act.put, List.setIfInBounds_toArray, List.set_cons_succ, List.set_cons_zero] at ha
  subst ha
  refine wpSeq_take (by kernel_rfl) (by kernel_rfl) ?_
  apply Exists.intro
  refine ⟨fun wx hS => ?_, fun a' ha => ?_⟩
  · go_simp; rfl
  simp only [Act.put, List.setIfInBounds_toArray, List.set_cons_succ, List.set_cons_zero] at ha
  subst ha
  refine wpSeq_take (by kernel_rfl) (by kernel_rfl) ?_
  apply Exists.intro
  refine ⟨fun wx hS => ?_, fun a' ha => ?_⟩
  · have c0 : wx.cell? ⟨q1, 1, none⟩ = some (.pointer (some ⟨tb1, 0, none⟩)) := blk_cell (hS.get A1.out.blk (by simp)) rfl; go_simp; rfl
  simp only [Act.put, List.setIfInBounds_toArray, List.set_cons_succ, List.set_cons_zero] at ha
  subst ha
  refine wpSeq_take (by kernel_rfl) (by kernel_rfl) ?_
  apply Exists.intro
  refine ⟨fun wx hS => ?_, fun a' ha => ?_⟩
  · go_simp; rfl
  simp only [Act.put, List.setIfInBounds_toArray, List.set_cons_succ, List.set_cons_zero] at ha
  subst ha
  refine wpSeq_take (by kernel_rfl) (by kernel_rfl) ?_
  apply Exists.intro
  refine ⟨fun wx hS => ?_, fun a' ha => ?_⟩
  · go_simp; rfl
  simp only [Act.put, List.setIfInBounds_toArray, List.set_cons_succ, List.set_cons_zero] at ha
  subst ha
  refine wpSeq_take (by kernel_rfl) (by kernel_rfl) ?_
  apply Exists.intro
  refine ⟨fun wx hS => ?_, fun a' ha => ?_⟩
  · go_simp; rfl
  simp only [Act.put, List.setIfInBounds_toArray, List.set_cons_succ, List.set_cons_zero] at ha
  subst ha
  refine wpSeq_take (by kernel_rfl) (by kernel_rfl) ?_
  apply Exists.intro
  refine ⟨fun wx hS => ?_, fun a' ha => ?_⟩
  · go_simp; rfl
  simp only [Act.put, List.setIfInBounds_toArray, List.set_cons_succ, List.set_cons_zero] at ha
  subst ha
  refine wpSeq_take (by kernel_rfl) (by kernel_rfl) ?_
  apply Exists.intro
  refine ⟨fun wx hS => ?_, fun a' ha => ?_⟩
  · have c0 : wx.cell? ⟨q2, 1, none⟩ = some (.pointer (some ⟨tb2, 0, none⟩)) := blk_cell (hS.get A2.out.blk (by simp)) rfl; go_simp; rfl
  simp only [Act.put, List.setIfInBounds_toArray, List.set_cons_succ, List.set_cons_zero] at ha
  subst ha
  refine wpSeq_one (by kernel_rfl) (by kernel_rfl) (fun K hK => ?_)
  go_simp
  refine (tsame_any w3 (A1.out.tab.upd_nil G3.out) (A2.out.tab.upd_nil G3.out) OK1.out.rise OK1.out.rise (fun p hp => (OK1.out.row p hp).1) (fun p hp => (OK1.out.row p hp).1) (by have := OK1.out.tab; omega) (by have := OK1.out.tab; omega)).mono ?_
  rintro e w4 ⟨rfl, hu4⟩
  rw [decide_eq_true rfl]
  have hg4 : Upd [] w2 w4 := G3.out.trans hu4
  have G4 := hide hg4
  clear hu4
  refine hK _ _ (hg4) ?_
  clear hK K
  try simp only [Act.put, List.setIfInBounds_toArray, List.set_cons_succ, List.set_cons_zero]
  clear hg4
  refine wpSeq_take (by kernel_rfl) (by kernel_rfl) ?_
  apply Exists.intro
  refine ⟨fun wx hS => ?_, fun a' ha => ?_⟩
  · go_simp; rfl
  simp only [Act.put, List.setIfInBounds_toArray, List.set_cons_succ, List.set_cons_zero] at ha
  subst ha
  refine wpSeq_take (by kernel_rfl) (by kernel_rfl) ?_
  apply Exists.intro
  refine ⟨fun wx hS => ?_, fun a' ha => ?_⟩
  · go_simp; rfl
  simp only [Act.put, List.setIfInBounds_toArray, List.set_cons_succ, List.set_cons_zero] at ha
  subst ha
  unfold wpSeq
  go_wp2_with fail
  go_ret
  exact ⟨rfl, U2.out.trans G4.out⟩
set_option maxRecDepth 100000 in
set_option maxHeartbeats 4000000 in
theorem adiff_any {lo1 hi1 p1 lo2 hi2 p2 i : Nat} {a b : Ap} (w : World) (h1 : ApIs w lo1 hi1 p1 a) (h2 : ApIs w lo2 hi2 p2 b) (o1 : ApOk a i) (o2 : ApOk b i) (hi4 : i ≤ 10000) (hd : a.n ≠ b.n) :
    Calls Tryz.prog 16 #[.pointer (some ⟨p1, 0, none⟩), .pointer (some ⟨p2, 0, none⟩)] w fun e w' => e = .returned (.bool false) ∧ Upd [] w w' := by
  have qn : ((a.n : Int) == (b.n : Int)) = false := by simp; omega
  clear hd
  have H1 := hide h1; have H2 := hide h2; have OK1 := hide o1; have OK2 := hide o2
  clear h1 h2 o1 o2
  go_enter Tryz.func16, Tryz.ntmps16
  go_wp2_with fail
  refine (acopy_any w H1.out OK1.out hi4).mono ?_
  rintro e w1 ⟨⟨q1, rfl, hq1⟩, hu1⟩
  have Q1 := hide hq1; have U1 := hide hu1; have H21 := hide (H2.out.upd_nil hu1)
  clear hq1 hu1
  go_wp2_with fail
  refine (acopy_any w1 H21.out OK2.out hi4).mono ?_
  rintro e w2 ⟨⟨q2, rfl, hq2⟩, hu2⟩
  have U2 := hide (U1.out.trans hu2)
  obtain ⟨sb1, sg1, tb1, tc1, tg1, hA1, -⟩ := Q1.out.upd_nil hu2
  obtain ⟨sb2, sg2, tb2, tc2, tg2, hA2, -⟩ := hq2
  have A1 := hide hA1; have A2 := hide hA2
  clear hu2 hA1 hA2
  have c0 : w2.cell? ⟨q1, 2, none⟩ = some (.int .u64 (a.n : Int)) := blk_cell A1.out.blk rfl
  have c1 : w2.cell? ⟨q2, 2, none⟩ = some (.int .u64 (b.n : Int)) := blk_cell A2.out.blk rfl
  go_wp2_with fail
  go_quiet (fail)
  go_wp2_with fail
  go_ret
  exact ⟨rfl, U2.out.drewN _⟩
end Go.Proofs.YthpnnffogbjhpaaGreatDoor.Kv
namespace Go.Proofs.YthpnnffogbjhpaaGreatDoor.Kv
set_option linter.unusedSimpArgs false
set_option linter.unusedVariables false
open Go.RowKit Go.Lib Go.Proofs.YthpnnffogbjhpaaGreatDoor.Crc Go.Proofs.YthpnnffogbjhpaaGreatDoor.Cm

theorem acount_nil (w : World) : Calls Tryz.prog 14 #[.pointer none] w fun e w' => e = .returned (.int .u64 0) ∧ w = w' := by
  go_enter Tryz.func14, Tryz.ntmps14
  go_wp2_with fail
  go_ret
  exact ⟨rfl, rfl⟩
theorem astate_nil (w : World) : Calls Tryz.prog 17 #[.pointer none] w fun e w' => (∃ b g, e = .returned (.pointer (some ⟨b, 0, none⟩)) ∧ StIs w' b g [] ∧ w.heap.size ≤ b ∧ w.heap.size ≤ g) ∧ Upd [] w w' := by
  go_enter Tryz.func17, Tryz.ntmps17
  go_wp2_with fail
  refine (new_any w).mono ?_
  rintro e w1 ⟨rfl, hs1, hu1⟩
  have S1 := hide hs1; have U1 := hide hu1
  clear hs1 hu1
  go_wp2_with fail
  go_ret
  exact ⟨⟨_, _, rfl, S1.out, by omega, Nat.le_refl _⟩, U1.out⟩
theorem atable_nil (w : World) : Calls Tryz.prog 19 #[.pointer none] w fun e w' => (∃ b c g, e = .returned (.pointer (some ⟨b, 0, none⟩)) ∧ TbIs w' b c g [] ∧ w.heap.size ≤ b ∧ w.heap.size ≤ c ∧ w.heap.size ≤ g) ∧ Upd [] w w' := by
  go_enter Tryz.func19, Tryz.ntmps19
  go_wp2_with fail
  refine (tnew_any w).mono ?_
  rintro e w1 ⟨rfl, hs1, hu1⟩
  have S1 := hide hs1; have U1 := hide hu1
  clear hs1 hu1
  go_wp2_with fail
  go_ret
  exact ⟨⟨_, _, _, rfl, S1.out, by omega, by omega, Nat.le_refl _⟩, U1.out⟩
set_option maxRecDepth 100000 in
theorem ado_nil (w : World) : Calls Tryz.prog 13 #[.pointer none, .agg #[.int .u32 1, .int .u32 0, .int .u8 0, .slice none 0 0, .string ⟨#[]⟩, .string ⟨#[]⟩, .int .i64 0]] w fun e w' => e = .returned (.tuple #[rpv ⟨2, []⟩, .bool false]) ∧ Upd [] w w' := by
  go_enter Tryz.func13, Tryz.ntmps13
  go_wp2_with fail
  have hR := blk_new (w.alloc (.cells #[.int .u32 1, .int .u32 0, .int .u8 0, .slice none 0 0, .string ⟨#[]⟩, .string ⟨#[]⟩, .int .i64 0] TCmd)) (.cells #[.int .u8 2, .string ⟨#[]⟩] TRp)
  rw [World.size_alloc] at hR
  exact ret_rp2 hR rfl rfl rfl rfl ⟨rfl, ((Upd.refl [] w).alloc _).alloc _⟩
set_option maxRecDepth 100000 in
theorem acopy_nil (w : World) : Calls Tryz.prog 11 #[.pointer none] w fun e w' => (∃ q, e = .returned (.pointer (some ⟨q, 0, none⟩)) ∧ ApIs w' w.heap.size w'.heap.size q ap0) ∧ Upd [] w w' := by
  go_enter Tryz.func11, Tryz.ntmps11
  go_wp2_with fail
  refine (astate_nil w).mono ?_
  rintro e w1 ⟨⟨b1, g1, rfl, h1, h2, h3⟩, hu⟩
  have S1 := hide h1; have U1 := hide hu
  clear h1 hu
  go_wp2_with fail
  refine (atable_nil w1).mono ?_
  rintro e w2 ⟨⟨b2, c2, g2, rfl, h4, h5, h6, h7⟩, hu⟩
  have S2 := hide (S1.out.upd_nil hu); have T2 := hide h4; have U2 := hide (U1.out.trans hu)
  have hz1 := U1.out.size
  clear h4 hu
  go_wp2_with fail
  refine (acount_nil w2).mono ?_
  rintro e w3 ⟨rfl, rfl⟩
  go_wp2_with fail
  go_ret
  have l0 := blk_lt S1.out.blk; have l1 := MapKind.is_lt S1.out.map
  have l2 := blk_lt T2.out.blk; have l3 := blk_lt T2.out.cli; have l4 := MapKind.is_lt T2.out.map
  have hz := U2.out.size
  have m0 := blk_lt S2.out.blk; have m1 := MapKind.is_lt S2.out.map
  refine ⟨⟨_, rfl, b1, g1, b2, c2, g2, ⟨blk_new w2 _, S2.out.upd_nil ((Upd.refl [] w2).alloc _), T2.out.upd_nil ((Upd.refl [] w2).alloc _), by omega⟩, ?_⟩, U2.out.alloc _⟩
  simp only [World.size_alloc]
  omega
set_option maxRecDepth 100000 in
set_option maxHeartbeats 2000000 in
theorem keepn_any {b c g : Nat} {t : TM} {client seq : Nat} {r : Rp} (w : World) (h : TbIs w b c g t) (hc : client < 4294967296) (h0 : client ≠ 0) (hf : (lookM t client seq).2 ≠ 0) :
    Calls Tryz.prog 20 #[.pointer (some ⟨b, 0, none⟩), .int .u32 (client : Int), .int .u32 (seq : Int), rpv r] w fun e w' => e = .returned (.tuple #[]) ∧ Upd [] w w' := by
  have TB := hide h
  have n0 : ((client : Int) != 0) = true := by simp; omega
  have n0' : ((client : Int) == 0) = false := by simp; omega
  obtain ⟨w0, hw0⟩ : ∃ w0, w0 = w.alloc (.cells #[.int .u8 (r.code : Int), .string (strOf r.text)] TRp) := ⟨_, rfl⟩
  have hu := (Upd.refl [] w).alloc (.cells #[.int .u8 (r.code : Int), .string (strOf r.text)] TRp)
  rw [← hw0] at hu
  have U0 := hide hu; have T0 := hide (h.upd_nil hu)
  obtain ⟨k, hk⟩ : ∃ k, (lookM t client seq).2 = k := ⟨_, rfl⟩
  rw [hk] at hf
  have n1 : ((k : Int) == 0) = false := by simp; omega
  have HK := hide hk
  clear h hf hu hk
  unfold rpv
  go_enter Tryz.func20, Tryz.ntmps20
  go_wp2_with fail
  rw [← hw0]
  clear hw0
  refine (look_any w0 T0.out hc).mono ?_
  rintro e w1 ⟨rfl, hu1⟩
  rw [HK.out]
  generalize (lookM t client seq).1 = q
  unfold rpv
  have U1 := hide (U0.out.trans hu1)
  clear hu1
  go_wp2_with fail
  go_end0
  exact ⟨rfl, U1.out.alloc _⟩
/-- Keep, whatever is behind: no more than the table's map is turned. -/
theorem keepx_any {b c g : Nat} {t : TM} {client seq : Nat} {r : Rp} (w : World) (h : TbIs w b c g t) (hc : client < 4294967296) (h0 : client ≠ 0) (hl : t.length ≤ 1000000) :
    Calls Tryz.prog 20 #[.pointer (some ⟨b, 0, none⟩), .int .u32 (client : Int), .int .u32 (seq : Int), rpv r] w fun e w' => e = .returned (.tuple #[]) ∧ Upd [g] w w' := by
  by_cases hf : (lookM t client seq).2 = 0
  · exact (keep_any w h hc h0 hf hl).mono fun e w' ⟨h1, _, h3⟩ => ⟨h1, h3⟩
  · exact (keepn_any w h hc h0 hf).mono fun e w' ⟨h1, h3⟩ => ⟨h1, h3.mono (by simp)⟩
end Go.Proofs.YthpnnffogbjhpaaGreatDoor.Kv
namespace Go.Proofs.YthpnnffogbjhpaaGreatDoor.Kv
set_option linter.unusedSimpArgs false
set_option linter.unusedVariables false
open Go.RowKit Go.Lib Go.Proofs.YthpnnffogbjhpaaGreatDoor.Crc Go.Proofs.YthpnnffogbjhpaaGreatDoor.Cm
noncomputable def asame0Ops : Array Oper := findOps 2 ((Tryz.f16.body).getD .skip)
set_option maxRecDepth 100000 in
set_option maxHeartbeats 4000000 in
theorem asame_nil {lo2 hi2 p2 : Nat} (w : World) (h2 : ApIs w lo2 hi2 p2 ap0) :
    Calls Tryz.prog 16 #[.pointer none, .pointer (some ⟨p2, 0, none⟩)] w fun e w' => e = .returned (.bool true) ∧ Upd [] w w' := by
  obtain ⟨a, ha⟩ : ∃ a, ap0 = a := ⟨_, rfl⟩
  have o1 : ApOk a 0 := ha ▸ ApOk.zero
  have o2 := o1
  have hi4 : 0 ≤ 10000 := by omega
  rw [ha] at h2
  have H2 := hide h2; have OK1 := hide o1; have OK2 := hide o2
  clear h2 o1 o2
  go_enter Tryz.func16, Tryz.ntmps16
  go_wp2_with fail
  refine (acopy_nil w).mono ?_
  rintro e w1 ⟨⟨q1, rfl, hq1⟩, hu1⟩
  rw [ha] at hq1
  have Q1 := hide hq1; have U1 := hide hu1; have H21 := hide (H2.out.upd_nil hu1)
  clear hq1 hu1
  go_wp2_with fail
  refine (acopy_any w1 H21.out OK2.out hi4).mono ?_
  rintro e w2 ⟨⟨q2, rfl, hq2⟩, hu2⟩
  have U2 := hide (U1.out.trans hu2)
  obtain ⟨sb1, sg1, tb1, tc1, tg1, hA1, -⟩ := Q1.out.upd_nil hu2
  obtain ⟨sb2, sg2, tb2, tc2, tg2, hA2, -⟩ := hq2
  have A1 := hide hA1; have A2 := hide hA2
  clear hu2 hA1 hA2
  go_upto_region 2 with fail
  have qn : ((a.n : Int) == (a.n : Int)) = true := by simp
  refine wp_region_seq asame0Ops (by kernel_rfl) [22, 35] (Upd [] w2) (by kernel_rfl) (by kernel_rfl) (fun _ _ d _ _ h => by cases d <;> exact h) ((Upd.refl _ _).drewN 1) ?_
  refine wpSeq_take (by kernel_rfl) (by kernel_rfl) ?_
  apply Exists.intro
  refine ⟨fun wx hS => ?_, fun a' ha => ?_⟩
  · go_simp; rfl
  simp only [Act.put, List.setIfInBounds_toArray, List.set_cons_succ, List.set_cons_zero] at ha
  subst ha
  refine wpSeq_take (by kernel_rfl) (by kernel_rfl) ?_
  apply Exists.intro
  refine ⟨fun wx hS => ?_, fun a' ha => ?_⟩
  · go_simp; rfl
  simp only [Act.put, List.setIfInBounds_toArray, List.set_cons_succ, List.set_cons_zero] at ha
  subst ha
  refine wpSeq_take (by kernel_rfl) (by kernel_rfl) ?_
  apply Exists.intro
  refine ⟨fun wx hS => ?_, fun a' ha => ?_⟩
  · go_simp; rfl
  simp only [Act.put, List.setIfInBounds_toArray, List.set_cons_succ, List.set_cons_zero] at ha
  subst ha
  refine wpSeq_take (by kernel_rfl) (by kernel_rfl) ?_
  apply Exists.intro
  refine ⟨fun wx hS => ?_, fun a' ha => ?_⟩
  · go_simp; rfl
  simp only [Act.put, List.setIfInBounds_toArray, List.set_cons_succ, List.set_cons_zero] at ha
  subst ha
  refine wpSeq_take (by kernel_rfl) (by kernel_rfl) ?_
  apply Exists.intro
  refine ⟨fun wx hS => ?_, fun a' ha => ?_⟩
  · have c0 : wx.cell? ⟨q1, 2, none⟩ = some (.int .u64 (a.n : Int)) := blk_cell (hS.get A1.out.blk (by simp)) rfl; go_simp; rfl
  simp only [Act.put, List.setIfInBounds_toArray, List.set_cons_succ, List.set_cons_zero] at ha
  subst ha
  refine wpSeq_take (by kernel_rfl) (by kernel_rfl) ?_
  apply Exists.intro
  refine ⟨fun wx hS => ?_, fun a' ha => ?_⟩
  · go_simp; rfl
  simp only [Act.put, List.setIfInBounds_toArray, List.set_cons_succ, List.set_cons_zero] at ha
  subst ha
  refine wpSeq_take (by kernel_rfl) (by kernel_rfl) ?_
  apply Exists.intro
  refine ⟨fun wx hS => ?_, fun a' ha => ?_⟩
  · go_simp; rfl
  simp only [Act.put, List.setIfInBounds_toArray, List.set_cons_succ, List.set_cons_zero] at ha
  subst ha
  refine wpSeq_take (by kernel_rfl) (by kernel_rfl) ?_
  apply Exists.intro
  refine ⟨fun wx hS => ?_, fun a' ha => ?_⟩
  · go_simp; rfl
  simp only [Act.put, List.setIfInBounds_toArray, List.set_cons_succ, List.set_cons_zero] at ha
  subst ha
  refine wpSeq_take (by kernel_rfl) (by kernel_rfl) ?_
  apply Exists.intro
  refine ⟨fun wx hS => ?_, fun a' ha => ?_⟩
  · go_simp; rfl
  simp only [Act.put, List.setIfInBounds_toArray, List.set_cons_succ, List.set_cons_zero] at ha
  subst ha
  refine wpSeq_take (by kernel_rfl) (by kernel_rfl) ?_
  apply Exists.intro
  refine ⟨fun wx hS => ?_, fun a' ha => ?_⟩
  · have c0 : wx.cell? ⟨q2, 2, none⟩ = some (.int .u64 (a.n : Int)) := blk_cell (hS.get A2.out.blk (by simp)) rfl; go_simp; rfl
  simp only [Act.put, List.setIfInBounds_toArray, List.set_cons_succ, List.set_cons_zero] at ha
  subst ha
  refine wpSeq_take (by kernel_rfl) (by kernel_rfl) ?_
  apply Exists.intro
  refine ⟨fun wx hS => ?_, fun a' ha => ?_⟩
  · go_simp; rfl
  simp only [Act.put, List.setIfInBounds_toArray, List.set_cons_succ, List.set_cons_zero] at ha
  subst ha
  refine wpSeq_take (by kernel_rfl) (by kernel_rfl) ?_
  apply Exists.intro
  refine ⟨fun wx hS => ?_, fun a' ha => ?_⟩
  · go_simp; rfl
  simp only [Act.put, List.setIfInBounds_toArray, List.set_cons_succ, List.set_cons_zero] at ha
  subst ha
  refine wpSeq_take (by kernel_rfl) (by kernel_rfl) ?_
  apply Exists.intro
  refine ⟨fun wx hS => ?_, fun a' ha => ?_⟩
  · go_simp; rfl
  simp only [Act.put, List.setIfInBounds_toArray, List.set_cons_succ, List.set_cons_zero] at ha
  subst ha
  refine wpSeq_take (by kernel_rfl) (by kernel_rfl) ?_
  apply Exists.intro
  refine ⟨fun wx hS => ?_, fun a' ha => ?_⟩
  · go_simp; rfl
  simp only [Act.put, List.setIfInBounds_toArray, List.set_cons_succ, List.set_cons_zero] at ha
  subst ha
  refine wpSeq_take (by kernel_rfl) (by kernel_rfl) ?_
  apply Exists.intro
  refine ⟨fun wx hS => ?_, fun a' ha => ?_⟩
  · go_simp; rfl
  simp only [Act.put, List.setIfInBounds_toArray, List.set_cons_succ, List.set_cons_zero] at ha
  subst ha
  refine wpSeq_take (by kernel_rfl) (by kernel_rfl) ?_
  apply Exists.intro
  refine ⟨fun wx hS => ?_, fun a' ha => ?_⟩
  · go_simp; rfl
  simp only [Act.put, List.setIfInBounds_toArray, List.set_cons_succ, List.set_cons_zero] at ha
  subst ha
  refine wpSeq_take (by kernel_rfl) (by kernel_rfl) ?_
  apply Exists.intro
  refine ⟨fun wx hS => ?_, fun a' ha => ?_⟩
  · have c0 : wx.cell? ⟨q1, 0, none⟩ = some (.pointer (some ⟨sb1, 0, none⟩)) := blk_cell (hS.get A1.out.blk (by simp)) rfl; go_simp; rfl
  simp only [Act.put, List.setIfInBounds_toArray, List.set_cons_succ, List.set_cons_zero] at ha
  subst ha
  refine wpSeq_take (by kernel_rfl) (by kernel_rfl) ?_
  apply Exists.intro
  refine ⟨fun wx hS => ?_, fun a' ha => ?_⟩
  · go_simp; rfl
  simp only [Act.put, List.setIfInBounds_toArray, List.set_cons_succ, List.set_cons_zero] at ha
  subst ha
  refine wpSeq_take (by kernel_rfl) (by kernel_rfl) ?_
  apply Exists.intro
  refine ⟨fun wx hS => ?_, fun a' ha => ?_⟩
  · go_simp; rfl
  simp only [Act.put, List.setIfInBounds_toArray, List.set_cons_succ, List.set_cons_zero] at ha
  subst ha
  refine wpSeq_take (by kernel_rfl) (by kernel_rfl) ?_
  apply Exists.intro
  refine ⟨fun wx hS => ?_, fun a' ha => ?_⟩
  · go_simp; rfl
  simp only [Act.put, List.setIfInBounds_toArray, List.set_cons_succ, List.set_cons_zero] at ha
  subst ha
  refine wpSeq_take (by kernel_rfl) (by kernel_rfl) ?_
  apply Exists.intro
  refine ⟨fun wx hS => ?_, fun a' ha => ?_⟩
  · go_simp; rfl
  simp only [Act.put, List.setIfInBounds_toArray, List.set_cons_succ, List.set_cons_zero] at ha
  subst ha
  refine wpSeq_take (by kernel_rfl) (by kernel_rfl) ?_
  apply Exists.intro
  refine ⟨fun wx hS => ?_, fun a' ha => ?_⟩
  · have c0 : wx.cell? ⟨q2, 0, none⟩ = some (.pointer (some ⟨sb2, 0, none⟩)) := blk_cell (hS.get A2.out.blk (by simp)) rfl; go_simp; rfl
  simp only [Act.put, List.setIfInBounds_toArray, List.set_cons_succ, List.set_cons_zero] at ha
  subst ha
  refine wpSeq_one (by kernel_rfl) (by kernel_rfl) (fun K hK => ?_)
  go_simp
  refine (ksame_any (w2.drewN 1) (A1.out.st.upd_nil ((Upd.refl [] w2).drewN 1)) (A2.out.st.upd_nil ((Upd.refl [] w2).drewN 1)) OK1.out.kv OK1.out.kv (by have := OK1.out.len; omega)).mono ?_
  rintro e w3 ⟨rfl, hu3⟩
  rw [decide_eq_true rfl]
  have hg3 : Upd [] w2 w3 := ((Upd.refl _ _).drewN 1).trans hu3
  have G3 := hide hg3
  clear hu3
  refine hK _ _ (hg3) ?_
  clear hK K
  try simp only [Act.put, List.setIfInBounds_toArray, List.set_cons_succ, List.set_cons_zero]
  clear hg3
  refine wpSeq_take (by kernel_rfl) (by kernel_rfl) ?_
  apply Exists.intro
  refine ⟨fun wx hS => ?_, fun a' ha => ?_⟩
  · go_simp; rfl
  simp only [Act.put, List.setIfInBounds_toArray, List.set_cons_succ, List.set_cons_zero] at ha
  subst ha
  refine wpSeq_take (by kernel_rfl) (by kernel_rfl) ?_
  apply Exists.intro
  refine ⟨fun wx hS => ?_, fun a' ha => ?_⟩
  · go_simp; rfl
  simp only [Act.put, List.setIfInBounds_toArray, List.set_cons_succ, List.set_cons_zero] at ha
  subst ha
  refine wpSeq_take (by kernel_rfl) (by kernel_rfl) ?_
  apply Exists.intro
  refine ⟨fun wx hS => ?_, fun a' ha => ?_⟩
  · go_simp; rfl
  simp only [Act.put, List.setIfInBounds_toArray, List.set_cons_succ, List.set_cons_zero] at ha
  subst ha
  refine wpSeq_take (by kernel_rfl) (by kernel_rfl) ?_
  apply Exists.intro
  refine ⟨fun wx hS => ?_, fun a' ha => ?_⟩
  · go_simp; rfl
  simp only [Act.put, List.setIfInBounds_toArray, List.set_cons_succ, List.set_cons_zero] at ha
  subst ha
  refine wpSeq_take (by kernel_rfl) (by kernel_rfl) ?_
  apply Exists.intro
  refine ⟨fun wx hS => ?_, fun a' ha => ?_⟩
  · go_simp; rfl
  simp only [Act.put, List.setIfInBounds_toArray, List.set_cons_succ, List.set_cons_zero] at ha
  subst ha
  refine wpSeq_take (by kernel_rfl) (by kernel_rfl) ?_
  apply Exists.intro
  refine ⟨fun wx hS => ?_, fun a' ha => ?_⟩
  · go_simp; rfl
  simp only [Act.put, List.setIfInBounds_toArray, List.set_cons_succ, List.set_cons_zero] at ha
  subst ha
  refine wpSeq_take (by kernel_rfl) (by kernel_rfl) ?_
  apply Exists.intro
  refine ⟨fun wx hS => ?_, fun a' ha => ?_⟩
  · have c0 : wx.cell? ⟨q1, 1, none⟩ = some (.pointer (some ⟨tb1, 0, none⟩)) := blk_cell (hS.get A1.out.blk (by simp)) rfl; go_simp; rfl
  simp only [Act.put, List.setIfInBounds_toArray, List.set_cons_succ, List.set_cons_zero] at ha
  subst ha
  refine wpSeq_take (by kernel_rfl) (by kernel_rfl) ?_
  apply Exists.intro
  refine ⟨fun wx hS => ?_, fun a' ha => ?_⟩
  · go_simp; rfl
  simp only [Act.put, List.setIfInBounds_toArray, List.set_cons_succ, List.set_cons_zero] at ha
  subst ha
  refine wpSeq_take (by kernel_rfl) (by kernel_rfl) ?_
  apply Exists.intro
  refine ⟨fun wx hS => ?_, fun a' ha => ?_⟩
  · go_simp; rfl
  simp only [Act.put, List.setIfInBounds_toArray, List.set_cons_succ, List.set_cons_zero] at ha
  subst ha
  refine wpSeq_take (by kernel_rfl) (by kernel_rfl) ?_
  apply Exists.intro
  refine ⟨fun wx hS => ?_, fun a' ha => ?_⟩
  · go_simp; rfl
  simp only [Act.put, List.setIfInBounds_toArray, List.set_cons_succ, List.set_cons_zero] at ha
  subst ha
  refine wpSeq_take (by kernel_rfl) (by kernel_rfl) ?_
  apply Exists.intro
  refine ⟨fun wx hS => ?_, fun a' ha => ?_⟩
  · go_simp; rfl
  simp only [Act.put, List.setIfInBounds_toArray, List.set_cons_succ, List.set_cons_zero] at ha
  subst ha
  refine wpSeq_take (by kernel_rfl) (by kernel_rfl) ?_
  apply Exists.intro
  refine ⟨fun wx hS => ?_, fun a' ha => ?_⟩
  · have c0 : wx.cell? ⟨q2, 1, none⟩ = some (.pointer (some ⟨tb2, 0, none⟩)) := blk_cell (hS.get A2.out.blk (by simp)) rfl; go_simp; rfl
  simp only [Act.put, List.setIfInBounds_toArray, List.set_cons_succ, List.set_cons_zero] at ha
  subst ha
  refine wpSeq_one (by kernel_rfl) (by kernel_rfl) (fun K hK => ?_)
  go_simp
  refine (tsame_any w3 (A1.out.tab.upd_nil G3.out) (A2.out.tab.upd_nil G3.out) OK1.out.rise OK1.out.rise (fun p hp => (OK1.out.row p hp).1) (fun p hp => (OK1.out.row p hp).1) (by have := OK1.out.tab; omega) (by have := OK1.out.tab; omega)).mono ?_
  rintro e w4 ⟨rfl, hu4⟩
  rw [decide_eq_true rfl]
  have hg4 : Upd [] w2 w4 := G3.out.trans hu4
  have G4 := hide hg4
  clear hu4
  refine hK _ _ (hg4) ?_
  clear hK K
  try simp only [Act.put, List.setIfInBounds_toArray, List.set_cons_succ, List.set_cons_zero]
  clear hg4
  refine wpSeq_take (by kernel_rfl) (by kernel_rfl) ?_
  apply Exists.intro
  refine ⟨fun wx hS => ?_, fun a' ha => ?_⟩
  · go_simp; rfl
  simp only [Act.put, List.setIfInBounds_toArray, List.set_cons_succ, List.set_cons_zero] at ha
  subst ha
  refine wpSeq_take (by kernel_rfl) (by kernel_rfl) ?_
  apply Exists.intro
  refine ⟨fun wx hS => ?_, fun a' ha => ?_⟩
  · go_simp; rfl
  simp only [Act.put, List.setIfInBounds_toArray, List.set_cons_succ, List.set_cons_zero] at ha
  subst ha
  unfold wpSeq
  go_wp2_with fail
  go_ret
  exact ⟨rfl, U2.out.trans G4.out⟩
end Go.Proofs.YthpnnffogbjhpaaGreatDoor.Kv
