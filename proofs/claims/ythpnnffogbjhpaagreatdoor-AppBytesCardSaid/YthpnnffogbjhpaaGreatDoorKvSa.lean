/- kv.Same. -/
import Derived.Test.YthpnnffogbjhpaaGreatDoorKvN
import Derived.Test.YthpnnffogbjhpaaGreatDoorKvES
set_option linter.unusedSimpArgs false
set_option linter.unusedVariables false
set_option linter.unnecessarySimpa false
namespace Go.Proofs.YthpnnffogbjhpaaGreatDoor.Kv
set_option linter.unusedSimpArgs false
set_option linter.unusedVariables false
open Go.RowKit Go.Lib Go.Proofs.YthpnnffogbjhpaaGreatDoor.Crc Go.Proofs.YthpnnffogbjhpaaGreatDoor.Cm

noncomputable def ksameOps : Array Oper := findOps 5 ((Tryz.f47.body).getD .skip)
set_option maxHeartbeats 1000000 in
theorem ksame_any {b1 g1 b2 g2 : Nat} {m1 m2 : KM} (w : World) (h1 : StIs w b1 g1 m1) (h2 : StIs w b2 g2 m2) (hm1 : KvOk m1) (hm2 : KvOk m2) (hl : m1.length ≤ 1000000) :
    Calls Tryz.prog 47 #[.pointer (some ⟨b1, 0, none⟩), .pointer (some ⟨b2, 0, none⟩)] w fun e w' => e = .returned (.bool (decide (m1 = m2))) ∧ Upd [] w w' := by
  have S1 := hide h1; have S2 := hide h2
  clear h1 h2
  go_enter Tryz.func47, Tryz.ntmps47
  go_wp2_with fail
  refine wp_region_seq ksameOps (by kernel_rfl) [8] (Upd [] w) (by kernel_rfl) (by kernel_rfl) (fun _ _ d _ _ h => by cases d <;> exact h) ((Upd.refl _ _).drewN 1) ?_
  refine wpSeq_take (by kernel_rfl) (by kernel_rfl) ?_
  apply Exists.intro
  refine ⟨fun wx hS => ?_, fun a' ha => ?_⟩
  · go_simp; rfl
  simp only [Act.put, List.setIfInBounds_toArray, List.set_cons_succ, List.set_cons_zero] at ha
  subst ha
  refine wpSeq_take (by kernel_rfl) (by kernel_rfl) ?_
  apply Exists.intro
  refine ⟨fun wx hS => ?_, fun a' ha => ?_⟩
  · go_simp; rfl
  simp only [Act.put, List.setIfInBounds_toArray, List.set_cons_succ, List.set_cons_zero] at ha
  subst ha
  refine wpSeq_take (by kernel_rfl) (by kernel_rfl) ?_
  apply Exists.intro
  refine ⟨fun wx hS => ?_, fun a' ha => ?_⟩
  · go_simp; rfl
  simp only [Act.put, List.setIfInBounds_toArray, List.set_cons_succ, List.set_cons_zero] at ha
  subst ha
  refine wpSeq_take (by kernel_rfl) (by kernel_rfl) ?_
  apply Exists.intro
  refine ⟨fun wx hS => ?_, fun a' ha => ?_⟩
  · have c0 : wx.cell? ⟨b1, 0, none⟩ = some (.map (some g1)) := blk_cell (hS.get S1.out.blk (by simp)) rfl; go_simp; rfl
  simp only [Act.put, List.setIfInBounds_toArray, List.set_cons_succ, List.set_cons_zero] at ha
  subst ha
  refine wpSeq_take (by kernel_rfl) (by kernel_rfl) ?_
  apply Exists.intro
  refine ⟨fun wx hS => ?_, fun a' ha => ?_⟩
  · go_simp; rfl
  simp only [Act.put, List.setIfInBounds_toArray, List.set_cons_succ, List.set_cons_zero] at ha
  subst ha
  refine wpSeq_take (by kernel_rfl) (by kernel_rfl) ?_
  apply Exists.intro
  refine ⟨fun wx hS => ?_, fun a' ha => ?_⟩
  · go_simp; rfl
  simp only [Act.put, List.setIfInBounds_toArray, List.set_cons_succ, List.set_cons_zero] at ha
  subst ha
  refine wpSeq_take (by kernel_rfl) (by kernel_rfl) ?_
  apply Exists.intro
  refine ⟨fun wx hS => ?_, fun a' ha => ?_⟩
  · go_simp; rfl
  simp only [Act.put, List.setIfInBounds_toArray, List.set_cons_succ, List.set_cons_zero] at ha
  subst ha
  refine wpSeq_take (by kernel_rfl) (by kernel_rfl) ?_
  apply Exists.intro
  refine ⟨fun wx hS => ?_, fun a' ha => ?_⟩
  · have c0 : wx.cell? ⟨b2, 0, none⟩ = some (.map (some g2)) := blk_cell (hS.get S2.out.blk (by simp)) rfl; go_simp; rfl
  simp only [Act.put, List.setIfInBounds_toArray, List.set_cons_succ, List.set_cons_zero] at ha
  subst ha
  refine wpSeq_one (by kernel_rfl) (by kernel_rfl) (fun K hK => ?_)
  go_simp
  refine (equalS_any (l := m1) (m := m2) (w.drewN 1) (MapKind.is_upd_nil S1.out.map ((Upd.refl [] _).drewN 1)) (MapKind.is_upd_nil S2.out.map ((Upd.refl [] _).drewN 1)) hm1.1 hm2.1 (fun p hp => by have := hm1.2 p hp; exact show p.1.length ≤ maxLen by unfold maxLen; omega) hl).mono ?_
  rintro e w2 ⟨rfl, hu2⟩
  have hd2 : Upd [] w w2 := ((Upd.refl _ _).drewN 1).trans hu2
  have U2 := hide hd2
  clear hu2
  refine hK _ _ (hd2) ?_
  clear hK K
  try simp only [Act.put, List.setIfInBounds_toArray, List.set_cons_succ, List.set_cons_zero]
  clear hd2
  refine wpSeq_take (by kernel_rfl) (by kernel_rfl) ?_
  apply Exists.intro
  refine ⟨fun wx hS => ?_, fun a' ha => ?_⟩
  · go_simp; rfl
  simp only [Act.put, List.setIfInBounds_toArray, List.set_cons_succ, List.set_cons_zero] at ha
  subst ha
  unfold wpSeq
  go_wp2_with fail
  go_ret
  exact ⟨rfl, U2.out⟩
end Go.Proofs.YthpnnffogbjhpaaGreatDoor.Kv
