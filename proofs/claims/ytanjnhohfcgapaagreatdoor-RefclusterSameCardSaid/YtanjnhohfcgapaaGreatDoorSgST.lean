/- SgS, SgT in one text. -/
import Derived.Test.YtanjnhohfcgapaaGreatDoorSgVJ
import Derived.Test.YtanjnhohfcgapaaGreatDoorPureAll
set_option linter.unusedSimpArgs false
set_option linter.unusedVariables false
set_option linter.unnecessarySimpa false
namespace Go.Proofs.YtanjnhohfcgapaaGreatDoor.Sg
open Go.RowKit Go.Proofs.YtanjnhohfcgapaaGreatDoor.Crc Go.Proofs.YtanjnhohfcgapaaGreatDoor.Cm Go.Proofs.YtanjnhohfcgapaaGreatDoor.Tr Go.Proofs.YtanjnhohfcgapaaGreatDoor.Kv Go.Proofs.YtanjnhohfcgapaaGreatDoor.Au
set_option linter.unusedSimpArgs false
set_option linter.unusedVariables false
set_option maxRecDepth 100000 in
theorem wanted_any {T M : Nat → Prop} {z p L : Nat} {x : Sg} {o : Ou} {G : Gh} {m : Mg} {ks : Value} {f : Int} (w : World) (h : Hp w T M z p L x o G) (hm : MgOk m) (hk : Ky w T ks m.cmd) :
    Calls Tryz.prog 72 #[.pointer (some ⟨p, 0, none⟩), .int .i64 f, mgv m ks] w fun e w' => e = .returned (.tuple #[]) ∧ Aft z p w T M (x, o) w' := by
  obtain ⟨xk, ck, rfl⟩ := hk.slice
  have HH := hide h; have K0 := hide hk; have HMO := hide hm
  have hpl := blk_lt h.at'.1
  clear h hk hm
  unfold mgv
  simp only [strV]
  go_enter Tryz.func72, Tryz.ntmps72
  go_wp2_with fail
  go_end0
  have hal := (Upd.refl [] w).alloc (.cells (mgA m (.slice xk m.cmd.keys.length ck)) TMg)
  exact ⟨rfl, _, _, _, HH.out.at'.upd_nil hal, Ext.of_nil hal T M⟩
set_option maxRecDepth 100000 in
set_option maxHeartbeats 2000000 in
theorem decided_any {T M : Nat → Prop} {z p L : Nat} {x : Sg} {o : Ou} {G : Gh} {m : Mg} {ks : Value} {f : Int} (w : World) (h : Hp w T M z p L x o G) (hL : L ≤ 10000) (hm : MgOk m) (hk : Ky w T ks m.cmd) :
    Calls Tryz.prog 71 #[.pointer (some ⟨p, 0, none⟩), .int .i64 f, mgv m ks] w fun e w' => e = .returned (.tuple #[]) ∧ Aft z p w T M (knowM m.cmd (x, o)) w' := by
  obtain ⟨xk, ck, rfl⟩ := hk.slice
  have HH := hide h; have K0 := hide hk; have HMO := hide hm
  have hpl := blk_lt h.at'.1
  clear h hk hm
  unfold mgv
  simp only [strV]
  go_enter Tryz.func71, Tryz.ntmps71
  go_upto_region 1 with fail
  have hB := blk_new w (.cells (mgA m (.slice xk m.cmd.keys.length ck)) TMg)
  have hal := (Upd.refl [] w).alloc (.cells (mgA m (.slice xk m.cmd.keys.length ck)) TMg)
  change Code.wp _ _ _ _ (w.alloc (.cells (mgA m (.slice xk m.cmd.keys.length ck)) TMg))
  generalize w.alloc (.cells (mgA m (.slice xk m.cmd.keys.length ck)) TMg) = w1 at *
  have N1 : Hid (¬ M w.heap.size ∧ ¬ T w.heap.size) := hide (HH.out.at'.2.apt.new (Nat.le_refl _))
  obtain ⟨B, hBn⟩ : ∃ B, w.heap.size = B := ⟨_, rfl⟩
  have HBN := hide hBn
  rw [hBn] at hB hpl N1 ⊢
  have X1 := hide (HH.out.at'.upd_nil hal); have E1 := hide (Ext.of_nil hal T M); have K1 := hide (K0.out.upd hal (by simp)); have B1 := hide hB
  clear hB hal hBn K0
  obtain ⟨y0, y1, y2, y3, y4, y5, y6, y7, y8, y9, y10, y11, y12, y13⟩ := mg_cells B1.out
  go_wp2_with fail
  refine (copied_any (c := m.cmd) w1 K1.out.at (by have := HMO.out.2.2.2.2.2; omega)).mono ?_
  rintro e w2 ⟨⟨ks', rfl, hk'⟩, hu⟩
  have X2 := hide (show XAt w2 (Sg.fresh w1 w2 T) M z p x o G from ⟨hu.get X1.out.1 (by simp), X1.out.2.fresh hu⟩)
  have E2 := hide (E1.out.trans (Ext.fresh hu T M)); have K2 := hide (hk'.mono (U := Sg.fresh w1 w2 T) fun k hk => .inr hk)
  clear hk' hu X1 E1 K1 y0 y1 y2 y3 y4 y5 y6 y7 y8 y9 y10 y11 y12 y13
  go_wp2_with fail
  refine (know_any (z := z) (L := L) (c := m.cmd) (ks := ks') w2 X2.out (E2.out.envM HH.out.env) K2.out HH.out.ok hL HMO.out.2.2.2.2 (by have := HH.out.z; have := E2.out.size; omega) (by have := HH.out.done; omega) (by have := HH.out.ans; omega)).mono ?_
  rintro e w3 ⟨rfl, h3⟩
  have H3 := hide (Aft.ext E2.out h3)
  clear h3
  go_wp2_with fail
  go_end0
  exact ⟨rfl, H3.out⟩
theorem XAt.setSeen {w : World} {T M : Nat → Prop} {z p : Nat} {x : Sg} {o : Ou} {G : Gh} (h : XAt w T M z p x o G) (b : Bal) : XAt ((w.setCell ⟨p, 6, none⟩ (.int .u64 (b.n : Int))).setCell ⟨p, 7, none⟩ (.int .i64 b.r)) T M z p { x with seen := b } o G ∧ Upd [p] w ((w.setCell ⟨p, 6, none⟩ (.int .u64 (b.n : Int))).setCell ⟨p, 7, none⟩ (.int .i64 b.r)) := by
  have hu : Upd [p] w ((w.setCell ⟨p, 6, none⟩ (.int .u64 (b.n : Int))).setCell ⟨p, 7, none⟩ (.int .i64 b.r)) := ((Upd.refl [p] w).setCell (p := ⟨p, 6, none⟩) (.inl (by simp)) _).setCell (p := ⟨p, 7, none⟩) (.inl (by simp)) _
  have hb := blk_set (i := 7) (blk_set (i := 6) h.1 (.int .u64 (b.n : Int))) (.int .i64 b.r)
  exact ⟨⟨hb, h.2.shift hu fun k hk => by simp at hk; exact .inl hk⟩, hu⟩
set_option maxRecDepth 100000 in
set_option maxHeartbeats 2000000 in
theorem refused_any {T M : Nat → Prop} {z p L : Nat} {x : Sg} {o : Ou} {G : Gh} {m : Mg} {ks : Value} {f : Int} (w : World) (h : Hp w T M z p L x o G) (hm : MgOk m) (hk : Ky w T ks m.cmd) :
    Calls Tryz.prog 70 #[.pointer (some ⟨p, 0, none⟩), .int .i64 f, mgv m ks] w fun e w' => e = .returned (.tuple #[]) ∧ Aft z p w T M (refusedM m (x, o)) w' := by
  obtain ⟨xk, ck, rfl⟩ := hk.slice
  have HH := hide h; have K0 := hide hk; have HMO := hide hm
  have hpl := blk_lt h.at'.1
  clear h hk hm
  unfold mgv
  simp only [strV]
  go_enter Tryz.func70, Tryz.ntmps70
  go_upto_region 1 with fail
  have hB := blk_new w (.cells (mgA m (.slice xk m.cmd.keys.length ck)) TMg)
  have hal := (Upd.refl [] w).alloc (.cells (mgA m (.slice xk m.cmd.keys.length ck)) TMg)
  change Code.wp _ _ _ _ (w.alloc (.cells (mgA m (.slice xk m.cmd.keys.length ck)) TMg))
  generalize w.alloc (.cells (mgA m (.slice xk m.cmd.keys.length ck)) TMg) = w1 at *
  have N1 : Hid (¬ M w.heap.size ∧ ¬ T w.heap.size) := hide (HH.out.at'.2.apt.new (Nat.le_refl _))
  obtain ⟨B, hBn⟩ : ∃ B, w.heap.size = B := ⟨_, rfl⟩
  have HBN := hide hBn
  rw [hBn] at hB hpl N1 ⊢
  have X1 := hide (HH.out.at'.upd_nil hal); have E1 := hide (Ext.of_nil hal T M); have K1 := hide (K0.out.upd hal (by simp)); have B1 := hide hB
  clear hB hal hBn K0
  have s0 : (w1.drewN 1).heap[p]? = some (.cells (sgc x G) TSg (0, 0)) ∧ (w1.drewN 1).heap[B]? = some (.cells (mgA m (.slice xk m.cmd.keys.length ck)) TMg (0, 0)) := ⟨X1.out.1, B1.out⟩
  refine wp_region_z (fun wx => wx.heap[p]? = some (.cells (sgc x G) TSg (0, 0)) ∧ wx.heap[B]? = some (.cells (mgA m (.slice xk m.cmd.keys.length ck)) TMg (0, 0))) 11 (by kernel_rfl) ?_
  refine zE 0 rfl (by kernel_rfl) (fun _ _ _ _ h => h) rfl (by exact s0) ?_
  apply Exists.intro
  refine ⟨fun wx hS => ?_, ?_⟩
  · go_simp; rfl
  simp only [Act.put, List.setIfInBounds_toArray, List.set_cons_succ, List.set_cons_zero, List.getElem_toArray, List.getElem_cons_zero]
  refine zE 1 rfl (by kernel_rfl) (fun _ _ _ _ h => h) rfl (by exact s0) ?_
  apply Exists.intro
  refine ⟨fun wx hS => ?_, ?_⟩
  · go_simp; rfl
  simp only [Act.put, zz1, zz2, zz3, zz4, zz5, zz6]
  refine zE 2 rfl (by kernel_rfl) (fun _ _ _ _ h => h) rfl (by exact s0) ?_
  apply Exists.intro
  refine ⟨fun wx hS => ?_, ?_⟩
  · go_simp; rfl
  simp only [Act.put, zz1, zz2, zz3, zz4, zz5, zz6]
  refine zE 3 rfl (by kernel_rfl) (fun _ _ _ _ h => h) rfl (by exact s0) ?_
  apply Exists.intro
  refine ⟨fun wx hS => ?_, ?_⟩
  · go_simp; rfl
  simp only [Act.put, zz1, zz2, zz3, zz4, zz5, zz6]
  refine zE 4 rfl (by kernel_rfl) (fun _ _ _ _ h => h) rfl (by exact s0) ?_
  apply Exists.intro
  refine ⟨fun wx hS => ?_, ?_⟩
  · obtain ⟨k4, k5, k6, k7, k8, k9, k10, k11, k12, k13, k14, k15, k16, k17, k19, kf⟩ := XAt.cells hS.1; go_simp; rfl
  simp only [Act.put, zz1, zz2, zz3, zz4, zz5, zz6]
  refine zE 5 rfl (by kernel_rfl) (fun _ _ _ _ h => h) rfl (by exact s0) ?_
  apply Exists.intro
  refine ⟨fun wx hS => ?_, ?_⟩
  · go_simp; rfl
  simp only [Act.put, zz1, zz2, zz3, zz4, zz5, zz6]
  refine zE 6 rfl (by kernel_rfl) (fun _ _ _ _ h => h) rfl (by exact s0) ?_
  apply Exists.intro
  refine ⟨fun wx hS => ?_, ?_⟩
  · obtain ⟨y0, y1, y2, y3, y4, y5, y6, y7, y8, y9, y10, y11, y12, y13⟩ := mg_cells hS.2; go_simp; rfl
  simp only [Act.put, zz1, zz2, zz3, zz4, zz5, zz6]
  have v0 : Upd [] w1 (w1.drewN 1) := (Upd.refl [] w1).drewN 1
  refine wpAnyZ_one 7 (by kernel_rfl) rfl rfl (fun K hK => ?_)
  try simp only [List.getElem_toArray, List.getElem_cons_succ, List.getElem_cons_zero]
  go_simp
  have hS := blk_new (w1.drewN 1) (.cells #[.int .u64 (x.seen.n : Int), .int .i64 x.seen.r, .int .u64 (m.b.n : Int), .int .i64 m.b.r] TBa)
  have al := v0.alloc (.cells #[.int .u64 (x.seen.n : Int), .int .i64 x.seen.r, .int .u64 (m.b.n : Int), .int .i64 m.b.r] TBa)
  obtain ⟨w2, hw2⟩ : ∃ w2, (w1.drewN 1).alloc (.cells #[.int .u64 (x.seen.n : Int), .int .i64 x.seen.r, .int .u64 (m.b.n : Int), .int .i64 m.b.r] TBa) = w2 := ⟨_, rfl⟩
  rw [hw2] at hS al ⊢
  obtain ⟨SL, hSL⟩ : ∃ SL, (w1.drewN 1).heap.size = SL := ⟨_, rfl⟩
  have hSL' : w1.heap.size = SL := hSL
  rw [hSL] at hS
  rw [hSL']
  have s2 : w2.heap[p]? = some (.cells (sgc x G) TSg (0, 0)) ∧ w2.heap[B]? = some (.cells (mgA m (.slice xk m.cmd.keys.length ck)) TMg (0, 0)) := ⟨al.get s0.1 (by simp), al.get s0.2 (by simp)⟩
  have HS := hide hS; have AL := hide al
  clear hw2 hSL hSL' hS al v0 s0
  refine hK _ _ (.inr s2) ?_
  clear hK K
  try simp only [Act.put, zz1, zz2, zz3]
  refine wpAnyZ_one 8 (by kernel_rfl) rfl rfl (fun K hK => ?_)
  try simp only [List.getElem_toArray, List.getElem_cons_succ, List.getElem_cons_zero]
  go_simp
  refine (max_any (x := x.seen) (y := m.b) w2 HS.out).mono ?_
  rintro e w3 ⟨rfl, hu3⟩
  have U3 := hide (AL.out.trans hu3)
  have s3 : w3.heap[p]? = some (.cells (sgc x G) TSg (0, 0)) ∧ w3.heap[B]? = some (.cells (mgA m (.slice xk m.cmd.keys.length ck)) TMg (0, 0)) := ⟨hu3.get s2.1 (by simp), hu3.get s2.2 (by simp)⟩
  clear hu3 s2 AL HS
  unfold balV
  refine hK _ _ (.inr s3) ?_
  clear hK K
  try simp only [Act.put, zz1, zz2, zz3]
  refine wpAnyZ_one 9 (by kernel_rfl) rfl rfl (fun K hK => ?_)
  try simp only [List.getElem_toArray, List.getElem_cons_succ, List.getElem_cons_zero]
  go_simp
  refine hK _ _ (.inr s3) ?_
  clear hK K
  try simp only [Act.put, zz1, zz2, zz3]
  refine wpAnyZ_one 10 (by kernel_rfl) rfl rfl (fun K hK => ?_)
  try simp only [List.getElem_toArray, List.getElem_cons_succ, List.getElem_cons_zero]
  go_simp
  refine hK _ _ (.inr s3) ?_
  clear hK K
  try simp only [Act.put, zz1, zz2, zz3]
  obtain ⟨k4, k5, k6, k7, k8, k9, k10, k11, k12, k13, k14, k15, k16, k17, k19, kf⟩ := XAt.cells s3.1
  refine wpAnyZ_one 11 (by kernel_rfl) rfl rfl (fun K hK => ?_)
  try simp only [List.getElem_toArray, List.getElem_cons_succ, List.getElem_cons_zero]
  go_simp
  clear k4 k5 k6 k7 k8 k9 k10 k11 k12 k13 k14 k15 k16 k17 k19 kf
  obtain ⟨hX4, v4⟩ := (X1.out.upd_nil U3.out).setSeen (maxB x.seen m.b)
  generalize (w3.setCell ⟨p, 6, none⟩ (.int .u64 ((maxB x.seen m.b).n : Int))).setCell ⟨p, 7, none⟩ (.int .i64 (maxB x.seen m.b).r) = w4 at *
  have pB : p ≠ B := by omega
  have X4 := hide hX4; have E4 := hide ((E1.out.on U3.out (by simp)).trans ((X1.out.upd_nil U3.out).ext_p v4)); have B4 := hide (v4.get s3.2 (by simp; exact fun e => pB e.symm))
  clear hX4 v4 s3 X1 E1 K1 B1 U3
  refine hK _ _ (.inl rfl) ?_
  clear hK K
  try simp only [Act.put, zz1, zz2, zz3]
  refine wpAnyZ_done (by kernel_rfl) ?_ _
  obtain ⟨y0, y1, y2, y3, y4, y5, y6, y7, y8, y9, y10, y11, y12, y13⟩ := mg_cells B4.out
  go_wp2_with fail
  refine (yields_any (b := m.b) w4 X4.out).mono ?_
  rintro e w5 ⟨rfl, h5⟩
  have H5 := hide (Aft.ext E4.out h5)
  clear h5 y0 y1 y2 y3 y4 y5 y6 y7 y8 y9 y10 y11 y12 y13
  go_wp2_with fail
  go_end0
  exact ⟨rfl, H5.out⟩
end Go.Proofs.YtanjnhohfcgapaaGreatDoor.Sg
namespace Go.Proofs.YtanjnhohfcgapaaGreatDoor.Sg
open Go.RowKit Go.Proofs.YtanjnhohfcgapaaGreatDoor.Crc Go.Proofs.YtanjnhohfcgapaaGreatDoor.Cm Go.Proofs.YtanjnhohfcgapaaGreatDoor.Tr Go.Proofs.YtanjnhohfcgapaaGreatDoor.Kv Go.Proofs.YtanjnhohfcgapaaGreatDoor.Au
set_option linter.unusedSimpArgs false
set_option linter.unusedVariables false
set_option maxRecDepth 100000 in
set_option maxHeartbeats 8000000 in
theorem bows_any {T M : Nat → Prop} {z p L : Nat} {x : Sg} {o : Ou} {G : Gh} {m : Mg} {ks : Value} {f : Int} (w : World) (h : Hp w T M z p L x o G) (hm : MgOk m) (hk : Ky w T ks m.cmd) :
    Calls Tryz.prog 68 #[.pointer (some ⟨p, 0, none⟩), .int .i64 f, mgv m ks] w fun e w' => e = .returned (.tuple #[]) ∧ Aft z p w T M (bowsM f m (x, o)) w' := by
  obtain ⟨xk, ck, rfl⟩ := hk.slice
  have HH := hide h; have K0 := hide hk; have HMO := hide hm
  have hpl := blk_lt h.at'.1
  clear h hk hm
  unfold mgv
  simp only [strV]
  go_enter Tryz.func68, Tryz.ntmps68
  go_upto_region 1 with fail
  have hB := blk_new w (.cells (mgA m (.slice xk m.cmd.keys.length ck)) TMg)
  have hal := (Upd.refl [] w).alloc (.cells (mgA m (.slice xk m.cmd.keys.length ck)) TMg)
  change Code.wp _ _ _ _ (w.alloc (.cells (mgA m (.slice xk m.cmd.keys.length ck)) TMg))
  generalize w.alloc (.cells (mgA m (.slice xk m.cmd.keys.length ck)) TMg) = w1 at *
  have N1 : Hid (¬ M w.heap.size ∧ ¬ T w.heap.size) := hide (HH.out.at'.2.apt.new (Nat.le_refl _))
  obtain ⟨B, hBn⟩ : ∃ B, w.heap.size = B := ⟨_, rfl⟩
  have HBN := hide hBn
  rw [hBn] at hB hpl N1 ⊢
  have X1 := hide (HH.out.at'.upd_nil hal); have E1 := hide (Ext.of_nil hal T M); have K1 := hide (K0.out.upd hal (by simp)); have B1 := hide hB
  clear hB hal hBn K0
  have v0 : Upd [] w1 (w1.drewN 1) := (Upd.refl [] w1).drewN 1
  have s0 : (w1.drewN 1).heap[p]? = some (.cells (sgc x G) TSg (0, 0)) ∧ (w1.drewN 1).heap[B]? = some (.cells (mgA m (.slice xk m.cmd.keys.length ck)) TMg (0, 0)) := ⟨X1.out.1, B1.out⟩
  refine wp_region_z (fun wx => wx.heap[p]? = some (.cells (sgc x G) TSg (0, 0)) ∧ wx.heap[B]? = some (.cells (mgA m (.slice xk m.cmd.keys.length ck)) TMg (0, 0))) 6 (by kernel_rfl) ?_
  refine zT 0 rfl (by kernel_rfl) (fun _ _ _ _ h => h) rfl (by exact s0) ?_
  apply Exists.intro
  refine ⟨fun wx hS => ?_, ?_⟩
  · go_simp; rfl
  simp only [Act.put, List.setIfInBounds_toArray, List.set_cons_succ, List.set_cons_zero, List.getElem_toArray, List.getElem_cons_zero]
  refine zT 1 rfl (by kernel_rfl) (fun _ _ _ _ h => h) rfl (by exact s0) ?_
  apply Exists.intro
  refine ⟨fun wx hS => ?_, ?_⟩
  · obtain ⟨y0, y1, y2, y3, y4, y5, y6, y7, y8, y9, y10, y11, y12, y13⟩ := mg_cells hS.2; go_simp; rfl
  simp only [Act.put, zz1, zz2, zz3, zz4, zz5, zz6]
  refine zT 2 rfl (by kernel_rfl) (fun _ _ _ _ h => h) rfl (by exact s0) ?_
  apply Exists.intro
  refine ⟨fun wx hS => ?_, ?_⟩
  · go_simp; rfl
  simp only [Act.put, zz1, zz2, zz3, zz4, zz5, zz6]
  refine zT 3 rfl (by kernel_rfl) (fun _ _ _ _ h => h) rfl (by exact s0) ?_
  apply Exists.intro
  refine ⟨fun wx hS => ?_, ?_⟩
  · go_simp; rfl
  simp only [Act.put, zz1, zz2, zz3, zz4, zz5, zz6]
  refine zT 4 rfl (by kernel_rfl) (fun _ _ _ _ h => h) rfl (by exact s0) ?_
  apply Exists.intro
  refine ⟨fun wx hS => ?_, ?_⟩
  · go_simp; rfl
  simp only [Act.put, zz1, zz2, zz3, zz4, zz5, zz6]
  refine zT 5 rfl (by kernel_rfl) (fun _ _ _ _ h => h) rfl (by exact s0) ?_
  apply Exists.intro
  refine ⟨fun wx hS => ?_, ?_⟩
  · obtain ⟨k4, k5, k6, k7, k8, k9, k10, k11, k12, k13, k14, k15, k16, k17, k19, kf⟩ := XAt.cells hS.1; go_simp; rfl
  simp only [Act.put, zz1, zz2, zz3, zz4, zz5, zz6]
  refine wpAnyZ_one 6 (by kernel_rfl) rfl rfl (fun K hK => ?_)
  try simp only [List.getElem_toArray, List.getElem_cons_succ, List.getElem_cons_zero]
  go_simp
  obtain ⟨L', hL'⟩ : ∃ L', decide (bLess ⟨m.b.n, m.b.r⟩ ⟨x.promise.n, x.promise.r⟩) = L' := ⟨_, rfl⟩
  have hl := less_nr m.b.n x.promise.n m.b.r x.promise.r (w1.drewN 1)
  rw [hL'] at hl
  refine hl.mono ?_
  rintro e w2 ⟨rfl, hu2⟩
  have HLS := hide (show decide (bLess m.b x.promise) = L' from hL')
  have v2 := v0.trans hu2
  have X2 := hide (X1.out.upd_nil v2); have E2 := hide (E1.out.on v2 (by simp)); have K2 := hide (K1.out.upd v2 (by simp)); have B2 := hide (v2.get B1.out (by simp)); have N2 := N1
  clear hl hu2 hL' v0 v2 s0 X1 E1 K1 B1 N1
  refine hK _ _ (.inl rfl) ?_
  clear hK K
  try simp only [Act.put, zz1, zz2, zz3]
  refine wpAnyZ_done (by kernel_rfl) ?_ _
  cases L' with
  | true =>
    go_upto_region 2 with fail
    have v0 : Upd [] w2 (w2.drewN 1) := (Upd.refl [] w2).drewN 1
    have s0 : (w2.drewN 1).heap[p]? = some (.cells (sgc x G) TSg (0, 0)) ∧ (w2.drewN 1).heap[B]? = some (.cells (mgA m (.slice xk m.cmd.keys.length ck)) TMg (0, 0)) := ⟨X2.out.1, B2.out⟩
    refine wp_region_z (fun wx => wx.heap[p]? = some (.cells (sgc x G) TSg (0, 0)) ∧ wx.heap[B]? = some (.cells (mgA m (.slice xk m.cmd.keys.length ck)) TMg (0, 0))) 9 (by kernel_rfl) ?_
    refine zT 0 rfl (by kernel_rfl) (fun _ _ _ _ h => h) rfl (by exact s0) ?_
    apply Exists.intro
    refine ⟨fun wx hS => ?_, ?_⟩
    · go_simp; rfl
    simp only [Act.put, List.setIfInBounds_toArray, List.set_cons_succ, List.set_cons_zero, List.getElem_toArray, List.getElem_cons_zero]
    refine zT 1 rfl (by kernel_rfl) (fun _ _ _ _ h => h) rfl (by exact s0) ?_
    apply Exists.intro
    refine ⟨fun wx hS => ?_, ?_⟩
    · go_simp; rfl
    simp only [Act.put, zz1, zz2, zz3, zz4, zz5, zz6]
    refine zT 2 rfl (by kernel_rfl) (fun _ _ _ _ h => h) rfl (by exact s0) ?_
    apply Exists.intro
    refine ⟨fun wx hS => ?_, ?_⟩
    · go_simp; rfl
    simp only [Act.put, zz1, zz2, zz3, zz4, zz5, zz6]
    refine zT 3 rfl (by kernel_rfl) (fun _ _ _ _ h => h) rfl (by exact s0) ?_
    apply Exists.intro
    refine ⟨fun wx hS => ?_, ?_⟩
    · obtain ⟨y0, y1, y2, y3, y4, y5, y6, y7, y8, y9, y10, y11, y12, y13⟩ := mg_cells hS.2; go_simp; rfl
    simp only [Act.put, zz1, zz2, zz3, zz4, zz5, zz6]
    refine zT 4 rfl (by kernel_rfl) (fun _ _ _ _ h => h) rfl (by exact s0) ?_
    apply Exists.intro
    refine ⟨fun wx hS => ?_, ?_⟩
    · go_simp; rfl
    simp only [Act.put, zz1, zz2, zz3, zz4, zz5, zz6]
    refine zT 5 rfl (by kernel_rfl) (fun _ _ _ _ h => h) rfl (by exact s0) ?_
    apply Exists.intro
    refine ⟨fun wx hS => ?_, ?_⟩
    · go_simp; rfl
    simp only [Act.put, zz1, zz2, zz3, zz4, zz5, zz6]
    refine zT 6 rfl (by kernel_rfl) (fun _ _ _ _ h => h) rfl (by exact s0) ?_
    apply Exists.intro
    refine ⟨fun wx hS => ?_, ?_⟩
    · go_simp; rfl
    simp only [Act.put, zz1, zz2, zz3, zz4, zz5, zz6]
    refine zT 7 rfl (by kernel_rfl) (fun _ _ _ _ h => h) rfl (by exact s0) ?_
    apply Exists.intro
    refine ⟨fun wx hS => ?_, ?_⟩
    · obtain ⟨k4, k5, k6, k7, k8, k9, k10, k11, k12, k13, k14, k15, k16, k17, k19, kf⟩ := XAt.cells hS.1; go_simp; rfl
    simp only [Act.put, zz1, zz2, zz3, zz4, zz5, zz6]
    refine zT 8 rfl (by kernel_rfl) (fun _ _ _ _ h => h) rfl (by exact s0) ?_
    apply Exists.intro
    refine ⟨fun wx hS => ?_, ?_⟩
    · go_simp; rfl
    simp only [Act.put, zz1, zz2, zz3, zz4, zz5, zz6]
    refine wpAnyZ_one 9 (by kernel_rfl) rfl rfl (fun K hK => ?_)
    try simp only [List.getElem_toArray, List.getElem_cons_succ, List.getElem_cons_zero]
    go_simp
    refine (send_any (z := z) (x := x) (dst := f) (m := mg 3 m.slot x.promise) (ks := .slice none 0 0) (w2.drewN 1) (X2.out.upd_nil v0) ⟨by simp [mg], HMO.out.2.1, HH.out.ok.pn, by simp [mg, Bal.zero], by simp [mg, Cm.zero]⟩ (Ky.zero _ _) (by have := HH.out.z; have := E2.out.size; show z ≤ w2.heap.size; omega) (by have := HH.out.send; omega)).mono ?_
    rintro e w3 ⟨rfl, h3⟩
    have H3 := hide (Aft.ext (s := (x, sendM o f (mg 3 m.slot x.promise))) (E2.out.on v0 (by simp)) h3)
    clear h3 s0 v0 X2 E2 K2 B2
    refine hK _ _ (.inl rfl) ?_
    clear hK K
    try simp only [Act.put, zz1, zz2, zz3]
    refine wpAnyZ_done (by kernel_rfl) ?_ _
    go_wp2_with fail
    refine bodyPost_ret (results_none rfl _ _ _) rfl ?_
    refine ⟨rfl, ?_⟩
    unfold bowsM
    rw [if_pos (by simpa using HLS.out)]
    exact H3.out
  | false =>
    obtain ⟨y0, y1, y2, y3, y4, y5, y6, y7, y8, y9, y10, y11, y12, y13⟩ := mg_cells B2.out
    obtain ⟨k4, k5, k6, k7, k8, k9, k10, k11, k12, k13, k14, k15, k16, k17, k19, kf⟩ := XAt.cells X2.out.1
    have pB : p ≠ B := by omega
    go_upto_region 4 with fail
    clear k4 k5 k6 k7 k8 k9 k10 k11 k12 k13 k14 k15 k16 k17 k19 kf y0 y1 y2 y3 y4 y5 y6 y7 y8 y9 y10 y11 y12 y13
    obtain ⟨hX4, v4⟩ := X2.out.setPromise m.b
    generalize (w2.setCell ⟨p, 4, none⟩ (.int .u64 (m.b.n : Int))).setCell ⟨p, 5, none⟩ (.int .i64 m.b.r) = w4 at *
    have X4 := hide hX4; have E4 := hide (E2.out.trans (X2.out.ext_p v4)); have B4 := hide (v4.get B2.out (by simp; exact fun e => pB e.symm)); have K4 := hide (K2.out.upd v4 fun k hk ht => by simp at hk; subst hk; exact X2.out.2.apt.apart _ ht X2.out.2.pM)
    clear hX4 v4 X2 E2 B2 K2
    obtain ⟨y0, y1, y2, y3, y4, y5, y6, y7, y8, y9, y10, y11, y12, y13⟩ := mg_cells B4.out
    go_wp2_with fail
    refine (yields_any (b := m.b) w4 X4.out).mono ?_
    rintro e w5 ⟨rfl, T5, M5, G5, hX5, hE5⟩
    obtain ⟨z1, z2, z3, z4, z5, z6⟩ := yields_rest m.b { x with promise := m.b }
    obtain ⟨x5, hx5⟩ : ∃ x5, yieldsM m.b { x with promise := m.b } = x5 := ⟨_, rfl⟩
    rw [hx5] at z1 z2 z3 z4 z5 z6 hX5
    simp only at z1 z2 z3 z4 z5 z6
    have X5 := hide hX5; have E5 := hide (E4.out.trans hE5); have B5 := hide (hE5.get B4.out N2.out.1); have N5 := hide (hE5.not (blk_lt B4.out) N2.out); have K5 := hide (hE5.ky X4.out.2.apt.apart K4.out)
    have ZV := hide (show x5.vote = x.vote from z5)
    have HX5 := hide hx5
    clear y0 y1 y2 y3 y4 y5 y6 y7 y8 y9 y10 y11 y12 y13 hX5 hE5 X4 E4 B4 K4 z1 z2 z3 z4 z5 z6 hx5
    obtain ⟨y0, y1, y2, y3, y4, y5, y6, y7, y8, y9, y10, y11, y12, y13⟩ := mg_cells B5.out
    by_cases h4 : m.kind = 4
    · have d4 : ((m.kind : Int) == 4) = true := by rw [h4]; rfl
      have H4 := hide h4
      clear h4
      go_upto_region 6 with fail
      clear y0 y1 y2 y3 y4 y5 y6 y7 y8 y9 y10 y11 y12 y13
      have v0 : Upd [] w5 (w5.drewN 1) := (Upd.refl [] w5).drewN 1
      have s0 : (w5.drewN 1).heap[p]? = some (.cells (sgc x5 G5) TSg (0, 0)) ∧ (w5.drewN 1).heap[B]? = some (.cells (mgA m (.slice xk m.cmd.keys.length ck)) TMg (0, 0)) := ⟨X5.out.1, B5.out⟩
      refine wp_region_z (fun wx => wx.heap[p]? = some (.cells (sgc x5 G5) TSg (0, 0)) ∧ wx.heap[B]? = some (.cells (mgA m (.slice xk m.cmd.keys.length ck)) TMg (0, 0))) 9 (by kernel_rfl) ?_
      refine zE 0 rfl (by kernel_rfl) (fun _ _ _ _ h => h) rfl (by exact s0) ?_
      apply Exists.intro
      refine ⟨fun wx hS => ?_, ?_⟩
      · go_simp; rfl
      simp only [Act.put, List.setIfInBounds_toArray, List.set_cons_succ, List.set_cons_zero, List.getElem_toArray, List.getElem_cons_zero]
      refine zE 1 rfl (by kernel_rfl) (fun _ _ _ _ h => h) rfl (by exact s0) ?_
      apply Exists.intro
      refine ⟨fun wx hS => ?_, ?_⟩
      · go_simp; rfl
      simp only [Act.put, zz1, zz2, zz3, zz4, zz5, zz6]
      refine zE 2 rfl (by kernel_rfl) (fun _ _ _ _ h => h) rfl (by exact s0) ?_
      apply Exists.intro
      refine ⟨fun wx hS => ?_, ?_⟩
      · obtain ⟨y0, y1, y2, y3, y4, y5, y6, y7, y8, y9, y10, y11, y12, y13⟩ := mg_cells hS.2; go_simp; rfl
      simp only [Act.put, zz1, zz2, zz3, zz4, zz5, zz6]
      refine zE 3 rfl (by kernel_rfl) (fun _ _ _ _ h => h) rfl (by exact s0) ?_
      apply Exists.intro
      refine ⟨fun wx hS => ?_, ?_⟩
      · go_simp; rfl
      simp only [Act.put, zz1, zz2, zz3, zz4, zz5, zz6]
      refine zE 4 rfl (by kernel_rfl) (fun _ _ _ _ h => h) rfl (by exact s0) ?_
      apply Exists.intro
      refine ⟨fun wx hS => ?_, ?_⟩
      · obtain ⟨y0, y1, y2, y3, y4, y5, y6, y7, y8, y9, y10, y11, y12, y13⟩ := mg_cells hS.2; go_simp; rfl
      simp only [Act.put, zz1, zz2, zz3, zz4, zz5, zz6]
      refine wpAnyZ_one 5 (by kernel_rfl) rfl rfl (fun K hK => ?_)
      try simp only [List.getElem_toArray, List.getElem_cons_succ, List.getElem_cons_zero]
      go_simp
      refine (copied_any (c := m.cmd) (w5.drewN 1) (K5.out.upd v0 (by simp)).at (by have := HMO.out.2.2.2.2.2; omega)).mono ?_
      rintro e w6 ⟨⟨ks', rfl, hk'⟩, hu⟩
      obtain ⟨xl, cl, rfl⟩ := hk'.slice
      have v6 := v0.trans hu
      have X6 := hide (show XAt w6 (Sg.fresh w5 w6 T5) M5 z p x5 o G5 from ⟨v6.get X5.out.1 (by simp), X5.out.2.fresh v6⟩)
      have E6 := hide (E5.out.trans (Ext.fresh v6 T5 M5)); have K6 := hide (hk'.mono (U := Sg.fresh w5 w6 T5) fun k hk => .inr hk); have B6 := hide (v6.get B5.out (by simp))
      have s6 : w6.heap[p]? = some (.cells (sgc x5 G5) TSg (0, 0)) ∧ w6.heap[B]? = some (.cells (mgA m (.slice xk m.cmd.keys.length ck)) TMg (0, 0)) := ⟨X6.out.1, B6.out⟩
      generalize Sg.fresh w5 w6 T5 = T6 at *
      clear hk' hu v0 v6 s0 X5 E5 K5 B5
      unfold cmv
      simp only [strV]
      refine hK _ _ (.inr s6) ?_
      clear hK K
      try simp only [Act.put, zz1, zz2, zz3]
      refine zE 6 rfl (by kernel_rfl) (fun _ _ _ _ h => h) rfl (by exact s6) ?_
      apply Exists.intro
      refine ⟨fun wx hS => ?_, ?_⟩
      · go_simp; rfl
      simp only [Act.put, zz1, zz2, zz3, zz4, zz5, zz6]
      refine wpAnyZ_one 7 (by kernel_rfl) rfl rfl (fun K hK => ?_)
      try simp only [List.getElem_toArray, List.getElem_cons_succ, List.getElem_cons_zero]
      go_simp
      refine hK _ _ (.inr s6) ?_
      clear hK K
      try simp only [Act.put, zz1, zz2, zz3]
      refine wpAnyZ_one 8 (by kernel_rfl) rfl rfl (fun K hK => ?_)
      try simp only [List.getElem_toArray, List.getElem_cons_succ, List.getElem_cons_zero]
      go_simp
      refine hK _ _ (.inr s6) ?_
      clear hK K
      try simp only [Act.put, zz1, zz2, zz3]
      obtain ⟨k4, k5, k6, k7, k8, k9, k10, k11, k12, k13, k14, k15, k16, k17, k19, kf⟩ := XAt.cells s6.1
      refine wpAnyZ_one 9 (by kernel_rfl) rfl rfl (fun K hK => ?_)
      try simp only [List.getElem_toArray, List.getElem_cons_succ, List.getElem_cons_zero]
      go_simp
      clear k4 k5 k6 k7 k8 k9 k10 k11 k12 k13 k14 k15 k16 k17 k19 kf
      change K _ (voteW w6 p ⟨true, m.b, m.cmd⟩ (.slice xl m.cmd.keys.length cl))
      have hv7 := X6.out.setVote (v := ⟨true, m.b, m.cmd⟩) K6.out
      generalize voteW w6 p ⟨true, m.b, m.cmd⟩ (.slice xl m.cmd.keys.length cl) = w7 at *
      have X7 := hide hv7.1; have E7 := hide (E6.out.trans (X6.out.ext_p hv7.2)); have B7 := hide (hv7.2.get B6.out (by simp; exact fun e => pB e.symm))
      clear hv7 s6 X6 E6 K6 B6
      refine hK _ _ (.inl rfl) ?_
      clear hK K
      try simp only [Act.put, zz1, zz2, zz3]
      refine wpAnyZ_done (by kernel_rfl) ?_ _
      obtain ⟨y0, y1, y2, y3, y4, y5, y6, y7, y8, y9, y10, y11, y12, y13⟩ := mg_cells B7.out
      go_wp2_with fail
      refine (send_any (z := z) (dst := f) (m := mg 5 m.slot m.b) (ks := .slice none 0 0) w7 X7.out ⟨by simp [mg], HMO.out.2.1, HMO.out.2.2.1, by simp [mg, Bal.zero], by simp [mg, Cm.zero]⟩ (Ky.zero _ _) (by have := HH.out.z; have := E7.out.size; omega) (by have := HH.out.send; omega)).mono ?_
      rintro e w8 ⟨rfl, h8⟩
      have H8 := hide (Aft.ext (s := (_, sendM o f (mg 5 m.slot m.b))) E7.out h8)
      clear h8 y0 y1 y2 y3 y4 y5 y6 y7 y8 y9 y10 y11 y12 y13
      go_wp2_with fail
      refine bodyPost_ret (results_none rfl _ _ _) rfl ?_
      refine ⟨rfl, ?_⟩
      unfold bowsM
      rw [if_neg (by simpa using HLS.out)]
      simp only [HX5.out]
      rw [if_pos H4.out]
      exact H8.out
    · have d4 : ((m.kind : Int) == 4) = false := by simp; omega
      have H4 := hide h4
      clear h4
      go_upto_region 8 with fail
      clear y0 y1 y2 y3 y4 y5 y6 y7 y8 y9 y10 y11 y12 y13
      have v0 : Upd [] w5 (w5.drewN 1) := (Upd.refl [] w5).drewN 1
      have hkv := X5.out.2.vote
      obtain ⟨xl, cl, hks⟩ := hkv.slice
      rw [hks] at hkv
      have KV5 := hide hkv
      have HKS := hide hks
      clear hks hkv
      have s0 : (w5.drewN 1).heap[p]? = some (.cells (sgc x5 G5) TSg (0, 0)) ∧ (w5.drewN 1).heap[B]? = some (.cells (mgA m (.slice xk m.cmd.keys.length ck)) TMg (0, 0)) := ⟨X5.out.1, B5.out⟩
      refine wp_region_z (fun wx => wx.heap[p]? = some (.cells (sgc x5 G5) TSg (0, 0)) ∧ wx.heap[B]? = some (.cells (mgA m (.slice xk m.cmd.keys.length ck)) TMg (0, 0))) 22 (by kernel_rfl) ?_
      refine zT 0 rfl (by kernel_rfl) (fun _ _ _ _ h => h) rfl (by exact s0) ?_
      apply Exists.intro
      refine ⟨fun wx hS => ?_, ?_⟩
      · go_simp; rfl
      simp only [Act.put, List.setIfInBounds_toArray, List.set_cons_succ, List.set_cons_zero, List.getElem_toArray, List.getElem_cons_zero]
      refine zT 1 rfl (by kernel_rfl) (fun _ _ _ _ h => h) rfl (by exact s0) ?_
      apply Exists.intro
      refine ⟨fun wx hS => ?_, ?_⟩
      · go_simp; rfl
      simp only [Act.put, zz1, zz2, zz3, zz4, zz5, zz6]
      refine zT 2 rfl (by kernel_rfl) (fun _ _ _ _ h => h) rfl (by exact s0) ?_
      apply Exists.intro
      refine ⟨fun wx hS => ?_, ?_⟩
      · go_simp; rfl
      simp only [Act.put, zz1, zz2, zz3, zz4, zz5, zz6]
      refine zT 3 rfl (by kernel_rfl) (fun _ _ _ _ h => h) rfl (by exact s0) ?_
      apply Exists.intro
      refine ⟨fun wx hS => ?_, ?_⟩
      · obtain ⟨y0, y1, y2, y3, y4, y5, y6, y7, y8, y9, y10, y11, y12, y13⟩ := mg_cells hS.2; go_simp; rfl
      simp only [Act.put, zz1, zz2, zz3, zz4, zz5, zz6]
      refine zT 4 rfl (by kernel_rfl) (fun _ _ _ _ h => h) rfl (by exact s0) ?_
      apply Exists.intro
      refine ⟨fun wx hS => ?_, ?_⟩
      · go_simp; rfl
      simp only [Act.put, zz1, zz2, zz3, zz4, zz5, zz6]
      refine zT 5 rfl (by kernel_rfl) (fun _ _ _ _ h => h) rfl (by exact s0) ?_
      apply Exists.intro
      refine ⟨fun wx hS => ?_, ?_⟩
      · obtain ⟨y0, y1, y2, y3, y4, y5, y6, y7, y8, y9, y10, y11, y12, y13⟩ := mg_cells hS.2; go_simp; rfl
      simp only [Act.put, zz1, zz2, zz3, zz4, zz5, zz6]
      refine zT 6 rfl (by kernel_rfl) (fun _ _ _ _ h => h) rfl (by exact s0) ?_
      apply Exists.intro
      refine ⟨fun wx hS => ?_, ?_⟩
      · go_simp; rfl
      simp only [Act.put, zz1, zz2, zz3, zz4, zz5, zz6]
      refine zT 7 rfl (by kernel_rfl) (fun _ _ _ _ h => h) rfl (by exact s0) ?_
      apply Exists.intro
      refine ⟨fun wx hS => ?_, ?_⟩
      · go_simp; rfl
      simp only [Act.put, zz1, zz2, zz3, zz4, zz5, zz6]
      refine zT 8 rfl (by kernel_rfl) (fun _ _ _ _ h => h) rfl (by exact s0) ?_
      apply Exists.intro
      refine ⟨fun wx hS => ?_, ?_⟩
      · go_simp; rfl
      simp only [Act.put, zz1, zz2, zz3, zz4, zz5, zz6]
      refine zT 9 rfl (by kernel_rfl) (fun _ _ _ _ h => h) rfl (by exact s0) ?_
      apply Exists.intro
      refine ⟨fun wx hS => ?_, ?_⟩
      · go_simp; rfl
      simp only [Act.put, zz1, zz2, zz3, zz4, zz5, zz6]
      refine zT 10 rfl (by kernel_rfl) (fun _ _ _ _ h => h) rfl (by exact s0) ?_
      apply Exists.intro
      refine ⟨fun wx hS => ?_, ?_⟩
      · obtain ⟨k4, k5, k6, k7, k8, k9, k10, k11, k12, k13, k14, k15, k16, k17, k19, kf⟩ := XAt.cells hS.1; go_simp; rfl
      simp only [Act.put, zz1, zz2, zz3, zz4, zz5, zz6]
      refine zT 11 rfl (by kernel_rfl) (fun _ _ _ _ h => h) rfl (by exact s0) ?_
      apply Exists.intro
      refine ⟨fun wx hS => ?_, ?_⟩
      · go_simp; rfl
      simp only [Act.put, zz1, zz2, zz3, zz4, zz5, zz6]
      refine zT 12 rfl (by kernel_rfl) (fun _ _ _ _ h => h) rfl (by exact s0) ?_
      apply Exists.intro
      refine ⟨fun wx hS => ?_, ?_⟩
      · go_simp; rfl
      simp only [Act.put, zz1, zz2, zz3, zz4, zz5, zz6]
      refine zT 13 rfl (by kernel_rfl) (fun _ _ _ _ h => h) rfl (by exact s0) ?_
      apply Exists.intro
      refine ⟨fun wx hS => ?_, ?_⟩
      · go_simp; rfl
      simp only [Act.put, zz1, zz2, zz3, zz4, zz5, zz6]
      refine zT 14 rfl (by kernel_rfl) (fun _ _ _ _ h => h) rfl (by exact s0) ?_
      apply Exists.intro
      refine ⟨fun wx hS => ?_, ?_⟩
      · go_simp; rfl
      simp only [Act.put, zz1, zz2, zz3, zz4, zz5, zz6]
      refine zT 15 rfl (by kernel_rfl) (fun _ _ _ _ h => h) rfl (by exact s0) ?_
      apply Exists.intro
      refine ⟨fun wx hS => ?_, ?_⟩
      · obtain ⟨k4, k5, k6, k7, k8, k9, k10, k11, k12, k13, k14, k15, k16, k17, k19, kf⟩ := XAt.cells hS.1; go_simp; rfl
      simp only [Act.put, zz1, zz2, zz3, zz4, zz5, zz6]
      refine zT 16 rfl (by kernel_rfl) (fun _ _ _ _ h => h) rfl (by exact s0) ?_
      apply Exists.intro
      refine ⟨fun wx hS => ?_, ?_⟩
      · go_simp; rfl
      simp only [Act.put, zz1, zz2, zz3, zz4, zz5, zz6]
      refine zT 17 rfl (by kernel_rfl) (fun _ _ _ _ h => h) rfl (by exact s0) ?_
      apply Exists.intro
      refine ⟨fun wx hS => ?_, ?_⟩
      · go_simp; rfl
      simp only [Act.put, zz1, zz2, zz3, zz4, zz5, zz6]
      refine zT 18 rfl (by kernel_rfl) (fun _ _ _ _ h => h) rfl (by exact s0) ?_
      apply Exists.intro
      refine ⟨fun wx hS => ?_, ?_⟩
      · go_simp; rfl
      simp only [Act.put, zz1, zz2, zz3, zz4, zz5, zz6]
      refine zT 19 rfl (by kernel_rfl) (fun _ _ _ _ h => h) rfl (by exact s0) ?_
      apply Exists.intro
      refine ⟨fun wx hS => ?_, ?_⟩
      · go_simp; rfl
      simp only [Act.put, zz1, zz2, zz3, zz4, zz5, zz6]
      refine zT 20 rfl (by kernel_rfl) (fun _ _ _ _ h => h) rfl (by exact s0) ?_
      apply Exists.intro
      refine ⟨fun wx hS => ?_, ?_⟩
      · obtain ⟨k4, k5, k6, k7, k8, k9, k10, k11, k12, k13, k14, k15, k16, k17, k19, kf⟩ := XAt.cells hS.1 ; rw [HKS.out] at k14; go_simp; rfl
      simp only [Act.put, zz1, zz2, zz3, zz4, zz5, zz6]
      refine zT 21 rfl (by kernel_rfl) (fun _ _ _ _ h => h) rfl (by exact s0) ?_
      apply Exists.intro
      refine ⟨fun wx hS => ?_, ?_⟩
      · go_simp; rfl
      simp only [Act.put, zz1, zz2, zz3, zz4, zz5, zz6]
      refine wpAnyZ_one 22 (by kernel_rfl) rfl rfl (fun K hK => ?_)
      try simp only [List.getElem_toArray, List.getElem_cons_succ, List.getElem_cons_zero]
      go_simp
      have okv : Hid x5.vote.Ok := hide (by rw [ZV.out]; exact HH.out.ok.vote)
      refine (send_any (z := z) (dst := f) (m := ⟨2, m.slot, m.b, x5.vote.has, x5.vote.b, x5.vote.c⟩) (ks := .slice xl x5.vote.c.keys.length cl) (w5.drewN 1) (X5.out.upd_nil v0) ⟨by simp, HMO.out.2.1, HMO.out.2.2.1, okv.out.1, okv.out.2.2⟩ (KV5.out.upd v0 (by simp)) (by have := HH.out.z; have := E5.out.size; show z ≤ w5.heap.size; omega) (by have := HH.out.send; omega)).mono ?_
      rintro e w6 ⟨rfl, h6⟩
      have H6 := hide (Aft.ext (s := (x5, sendM o f ⟨2, m.slot, m.b, x5.vote.has, x5.vote.b, x5.vote.c⟩)) (E5.out.on v0 (by simp)) h6)
      clear h6 s0 v0 X5 E5 K5 B5
      refine hK _ _ (.inl rfl) ?_
      clear hK K
      try simp only [Act.put, zz1, zz2, zz3]
      refine wpAnyZ_done (by kernel_rfl) ?_ _
      go_wp2_with fail
      go_end0
      refine ⟨rfl, ?_⟩
      unfold bowsM
      rw [if_neg (by simpa using HLS.out)]
      simp only [HX5.out]
      rw [if_neg H4.out]
      exact H6.out
end Go.Proofs.YtanjnhohfcgapaaGreatDoor.Sg
