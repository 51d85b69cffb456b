/- kv's calls on no state. -/
import Derived.Test.YtcjflnnjieolfaaGreatDoorKvPt
import Derived.Test.YtcjflnnjieolfaaGreatDoorKvHp
namespace Go.Proofs.YtcjflnnjieolfaaGreatDoor.Kv
set_option linter.unusedSimpArgs false
set_option linter.unusedVariables false
set_option linter.unnecessarySimpa false
open Go.RowKit Go.Lib Go.Proofs.YtcjflnnjieolfaaGreatDoor.Crc Go.Proofs.YtcjflnnjieolfaaGreatDoor.Cm Go.Proofs.YtcjflnnjieolfaaGreatDoor.Var

theorem klen_nil (w : World) : Calls Tryz.prog 15 #[.pointer none] w fun e w' => e = .returned (.int .i64 0) ∧ w = w' := by
  go_enter Tryz.func15, Tryz.ntmps15
  go_wp2_with fail
  go_ret
  exact ⟨rfl, rfl⟩
theorem kget_nil (s : ByteArray) (w : World) : Calls Tryz.prog 18 #[.pointer none, .string s] w fun e w' => e = .returned (.tuple #[.string ⟨#[]⟩, .bool false]) ∧ w = w' := by
  go_enter Tryz.func18, Tryz.ntmps18
  go_wp2_with fail
  go_ret2
  exact ⟨rfl, rfl⟩
theorem kcopy_nil (w : World) : Calls Tryz.prog 12 #[.pointer none] w fun e w' => (∃ b g, e = .returned (.pointer (some ⟨b, 0, none⟩)) ∧ StIs w' b g [] ∧ w.heap.size ≤ b ∧ w.heap.size ≤ g) ∧ Upd [] w w' := by
  go_enter Tryz.func12, Tryz.ntmps12
  go_wp2_with fail
  refine (new_any w).mono ?_
  rintro e w1 ⟨rfl, hs1, hu1⟩
  have S1 := hide hs1; have U1 := hide hu1
  clear hs1 hu1
  go_wp2_with fail
  go_ret
  exact ⟨⟨_, _, rfl, S1.out, by omega, Nat.le_refl _⟩, U1.out⟩
theorem keys_nil (w : World) : Calls Tryz.prog 56 #[.pointer none] w fun e w' => e = .returned (.slice none 0 0) ∧ Upd [] w w' := by
  refine calls_of_wp_marks Tryz.func56 rfl ?_
  simp only [Tryz.ntmps56, List.size_toArray, List.length_cons, List.length_nil, Nat.reduceAdd, Nat.reduceSub, Array.replicate_succ, Array.replicate_zero, List.push_toArray, List.append_toArray, List.nil_append, List.cons_append]
  go_wp2_with fail
  exact ⟨_, results_tmp rfl _ _ _, rfl, Upd.refl _ _⟩
set_option maxRecDepth 100000 in
theorem kput_nil (w : World) : Calls Tryz.prog 16 #[.pointer none, .slice none 0 0] w fun e w' => ∃ v', e = .returned v' ∧ Grew w w.heap.size (.slice none 0 0) (kvB []) v' w' := by
  go_enter Tryz.func16, Tryz.ntmps16
  go_wp2_with fail
  refine (klen_nil w).mono ?_
  rintro e w0 ⟨rfl, rfl⟩
  go_wp2_with fail
  refine (uint_any (base := w.heap.size) (n := 0) (bs := []) w (World.ownsRow_nil _ _ _ _) (Nat.le_refl _) (by simp) (by omega)).mono ?_
  rintro e w1 ⟨v1, rfl, hg1⟩
  have hkb : kvB [] = [] ++ uv 0 := by simp [kvB]
  rw [← hkb] at hg1
  have G1 := hide hg1
  clear hg1 hkb
  go_wp2_with fail
  refine (keys_nil w1).mono ?_
  rintro e w2 ⟨rfl, hu2⟩
  have G2 := hide (Grew.upd_nil G1.out hu2)
  clear hu2 G1
  go_wp2_with fail
  go_loopw [1, 15] (fun sb si wr => si = .int .i64 0 ∧ sb = v1 ∧ wr = w2) (fun _ _ _ => 0)
  case atStart => exact ⟨rfl, rfl, rfl⟩
  case round =>
    obtain ⟨rfl, rfl, rfl⟩ := hrel
    go_wp2_with fail
    go_ret
    exact ⟨_, rfl, G2.out⟩
noncomputable def ksameOps' : Array Oper := findOps 5 ((Tryz.f22.body).getD .skip)
set_option maxHeartbeats 1000000 in
theorem ksame_nil {b2 g2 : Nat} {m2 : KM} (w : World) (h2 : StIs w b2 g2 m2) (hm2 : KvOk m2) :
    Calls Tryz.prog 22 #[.pointer none, .pointer (some ⟨b2, 0, none⟩)] w fun e w' => e = .returned (.bool (decide (m2 = []))) ∧ Upd [] w w' := by
  have S2' := hide h2
  clear h2
  go_enter Tryz.func22, Tryz.ntmps22
  go_wp2_with fail
  refine (new_any w).mono ?_
  rintro e w1 ⟨rfl, hs1, hu1⟩
  have S1 := hide hs1; have U1 := hide hu1; have S2 := hide (S2'.out.upd_nil hu1)
  clear hs1 hu1
  go_wp2_with fail
  refine wp_region_seq ksameOps' (by kernel_rfl) [8] (Upd [] w1) (by kernel_rfl) (by kernel_rfl) (fun _ _ d _ _ h => by cases d <;> exact h) ((Upd.refl _ _).drewN 1) ?_
  refine wpSeq_take (by kernel_rfl) (by kernel_rfl) ?_
  apply Exists.intro
  refine ⟨fun wx hS => ?_, fun a' ha => ?_⟩
  · go_simp; rfl
  simp only [Act.put, List.setIfInBounds_toArray, List.set_cons_succ, List.set_cons_zero] at ha
  subst ha
  refine wpSeq_take (by kernel_rfl) (by kernel_rfl) ?_
  apply Exists.intro
  refine ⟨fun wx hS => ?_, fun a' ha => ?_⟩
  · go_simp; rfl
  simp only [Act.put, List.setIfInBounds_toArray, List.set_cons_succ, List.set_cons_zero] at ha
  subst ha
  refine wpSeq_take (by kernel_rfl) (by kernel_rfl) ?_
  apply Exists.intro
  refine ⟨fun wx hS => ?_, fun a' ha => ?_⟩
  · go_simp; rfl
  simp only [Act.put, List.setIfInBounds_toArray, List.set_cons_succ, List.set_cons_zero] at ha
  subst ha
  refine wpSeq_take (by kernel_rfl) (by kernel_rfl) ?_
  apply Exists.intro
  refine ⟨fun wx hS => ?_, fun a' ha => ?_⟩
  · have c0 : wx.cell? ⟨w.heap.size + 1, 0, none⟩ = some (.map (some w.heap.size)) := blk_cell (hS.get S1.out.blk (by simp)) rfl; go_simp; rfl
  simp only [Act.put, List.setIfInBounds_toArray, List.set_cons_succ, List.set_cons_zero] at ha
  subst ha
  refine wpSeq_take (by kernel_rfl) (by kernel_rfl) ?_
  apply Exists.intro
  refine ⟨fun wx hS => ?_, fun a' ha => ?_⟩
  · go_simp; rfl
  simp only [Act.put, List.setIfInBounds_toArray, List.set_cons_succ, List.set_cons_zero] at ha
  subst ha
  refine wpSeq_take (by kernel_rfl) (by kernel_rfl) ?_
  apply Exists.intro
  refine ⟨fun wx hS => ?_, fun a' ha => ?_⟩
  · go_simp; rfl
  simp only [Act.put, List.setIfInBounds_toArray, List.set_cons_succ, List.set_cons_zero] at ha
  subst ha
  refine wpSeq_take (by kernel_rfl) (by kernel_rfl) ?_
  apply Exists.intro
  refine ⟨fun wx hS => ?_, fun a' ha => ?_⟩
  · go_simp; rfl
  simp only [Act.put, List.setIfInBounds_toArray, List.set_cons_succ, List.set_cons_zero] at ha
  subst ha
  refine wpSeq_take (by kernel_rfl) (by kernel_rfl) ?_
  apply Exists.intro
  refine ⟨fun wx hS => ?_, fun a' ha => ?_⟩
  · have c0 : wx.cell? ⟨b2, 0, none⟩ = some (.map (some g2)) := blk_cell (hS.get S2.out.blk (by simp)) rfl; go_simp; rfl
  simp only [Act.put, List.setIfInBounds_toArray, List.set_cons_succ, List.set_cons_zero] at ha
  subst ha
  refine wpSeq_one (by kernel_rfl) (by kernel_rfl) (fun K hK => ?_)
  go_simp
  refine (equalS_any (l := []) (m := m2) (w1.drewN 1) (MapKind.is_upd_nil S1.out.map ((Upd.refl [] _).drewN 1)) (MapKind.is_upd_nil S2.out.map ((Upd.refl [] _).drewN 1)) rise_nil hm2.1 (by simp) (by simp)).mono ?_
  rintro e w2 ⟨rfl, hu2⟩
  have hd2 : Upd [] w1 w2 := ((Upd.refl _ _).drewN 1).trans hu2
  have U2 := hide (U1.out.trans hd2)
  clear hu2
  refine hK _ _ (hd2) ?_
  clear hK K
  try simp only [Act.put, List.setIfInBounds_toArray, List.set_cons_succ, List.set_cons_zero]
  clear hd2
  refine wpSeq_take (by kernel_rfl) (by kernel_rfl) ?_
  apply Exists.intro
  refine ⟨fun wx hS => ?_, fun a' ha => ?_⟩
  · go_simp; rfl
  simp only [Act.put, List.setIfInBounds_toArray, List.set_cons_succ, List.set_cons_zero] at ha
  subst ha
  unfold wpSeq
  go_wp2_with fail
  go_ret
  exact ⟨rfl, U2.out⟩
set_option maxRecDepth 100000 in
theorem kdo_nil (w : World) : Calls Tryz.prog 14 #[.pointer none, .agg #[.int .u32 0, .int .u32 0, .int .u8 0, .slice none 0 0, .string ⟨#[]⟩, .string ⟨#[]⟩, .int .i64 0]] w fun e w' => e = .returned (rpv ⟨2, []⟩) ∧ Upd [] w w' := by
  go_enter Tryz.func14, Tryz.ntmps14
  go_wp2_with fail
  have hR := blk_new (w.alloc (.cells #[.int .u32 0, .int .u32 0, .int .u8 0, .slice none 0 0, .string ⟨#[]⟩, .string ⟨#[]⟩, .int .i64 0] TCmd)) (.cells #[.int .u8 2, .string ⟨#[]⟩] TRp)
  rw [World.size_alloc] at hR
  exact ret_rp hR rfl rfl rfl ⟨rfl, ((Upd.refl [] w).alloc _).alloc _⟩
end Go.Proofs.YtcjflnnjieolfaaGreatDoor.Kv
