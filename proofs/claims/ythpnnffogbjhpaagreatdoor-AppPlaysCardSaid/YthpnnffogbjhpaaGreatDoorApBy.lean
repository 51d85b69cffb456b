/- app.Bytes. -/
import Derived.Test.YthpnnffogbjhpaaGreatDoorTbPt
import Derived.Test.YthpnnffogbjhpaaGreatDoorKvPt
import Derived.Test.YthpnnffogbjhpaaGreatDoorKvT
set_option linter.unusedSimpArgs false
set_option linter.unusedVariables false
set_option linter.unnecessarySimpa false
namespace Go.Proofs.YthpnnffogbjhpaaGreatDoor.Kv
set_option linter.unusedSimpArgs false
set_option linter.unusedVariables false
open Go.RowKit Go.Lib Go.Proofs.YthpnnffogbjhpaaGreatDoor.Crc Go.Proofs.YthpnnffogbjhpaaGreatDoor.Cm Go.Proofs.YthpnnffogbjhpaaGreatDoor.Var

/-- What an application must be for its bytes to be told. -/
structure ApW (a : Ap) : Prop where
  kv : KvOk a.m
  len : a.m.length ≤ 100000
  tab : TbPut a.t
  n : a.n < 18446744073709551616
theorem ApOk.w {a : Ap} {i : Nat} (h : ApOk a i) (hi : i ≤ 10000) : ApW a := ⟨h.kv, by have := h.len; omega, ⟨h.rise, by have := h.tab; omega, fun p hp => by obtain ⟨h1, h2, h3, h4⟩ := h.row p hp; exact ⟨h1, h2, by omega, by omega⟩⟩, by have := h.n; omega⟩
theorem astateW_any {lo hi p : Nat} {a : Ap} (w : World) (h : ApIs w lo hi p a) (ho : ApW a) : Calls Tryz.prog 17 #[.pointer (some ⟨p, 0, none⟩)] w fun e w' => (∃ b' g', e = .returned (.pointer (some ⟨b', 0, none⟩)) ∧ StIs w' b' g' a.m ∧ w.heap.size ≤ b' ∧ w.heap.size ≤ g') ∧ Upd [] w w' := by
  obtain ⟨sb, sg, tb, tc, tg, h, -⟩ := h
  have c2 : w.cell? ⟨p, 0, none⟩ = some (.pointer (some ⟨sb, 0, none⟩)) := blk_cell h.blk rfl
  have ST := hide h.st; have OK := hide ho
  clear h ho
  go_enter Tryz.func17, Tryz.ntmps17
  go_wp2_with fail
  refine (kcopy_any w ST.out OK.out.kv (by have := OK.out.len; omega)).mono ?_
  rintro e w1 ⟨⟨b', g', rfl, h1, h2, h3⟩, hu⟩
  have S1 := hide h1; have U1 := hide hu
  clear h1 hu c2
  go_wp2_with fail
  go_ret
  exact ⟨⟨_, _, rfl, S1.out, h2, h3⟩, U1.out⟩
theorem atableW_any {lo hi p : Nat} {a : Ap} (w : World) (h : ApIs w lo hi p a) (ho : ApW a) : Calls Tryz.prog 19 #[.pointer (some ⟨p, 0, none⟩)] w fun e w' => (∃ b' c' g', e = .returned (.pointer (some ⟨b', 0, none⟩)) ∧ TbIs w' b' c' g' a.t ∧ w.heap.size ≤ b' ∧ w.heap.size ≤ c' ∧ w.heap.size ≤ g') ∧ Upd [] w w' := by
  obtain ⟨sb, sg, tb, tc, tg, h, -⟩ := h
  have c2 : w.cell? ⟨p, 1, none⟩ = some (.pointer (some ⟨tb, 0, none⟩)) := blk_cell h.blk rfl
  have ST := hide h.tab; have OK := hide ho
  clear h ho
  go_enter Tryz.func19, Tryz.ntmps19
  go_wp2_with fail
  refine (tcopy_any w ST.out OK.out.tab.1 (fun p hp => (OK.out.tab.2.2 p hp).1) (by have := OK.out.tab.2.1; omega)).mono ?_
  rintro e w1 ⟨⟨b', c', g', rfl, h1, h2, h3, h4⟩, hu⟩
  have S1 := hide h1; have U1 := hide hu
  clear h1 hu c2
  go_wp2_with fail
  go_ret
  exact ⟨⟨_, _, _, rfl, S1.out, h2, h3, h4⟩, U1.out⟩
set_option maxRecDepth 100000 in
theorem acopyW_any {lo hi p : Nat} {a : Ap} (w : World) (h : ApIs w lo hi p a) (ho : ApW a) : Calls Tryz.prog 11 #[.pointer (some ⟨p, 0, none⟩)] w fun e w' => (∃ q, e = .returned (.pointer (some ⟨q, 0, none⟩)) ∧ ApIs w' w.heap.size w'.heap.size q a) ∧ Upd [] w w' := by
  have H := hide h; have OK := hide ho
  clear h ho
  go_enter Tryz.func11, Tryz.ntmps11
  go_wp2_with fail
  refine (astateW_any w H.out OK.out).mono ?_
  rintro e w1 ⟨⟨b1, g1, rfl, h1, h2, h3⟩, hu⟩
  have S1 := hide h1; have U1 := hide hu; have H1 := hide (H.out.upd_nil hu)
  clear h1 hu
  go_wp2_with fail
  refine (atableW_any w1 H1.out OK.out).mono ?_
  rintro e w2 ⟨⟨b2, c2, g2, rfl, h4, h5, h6, h7⟩, hu⟩
  have S2 := hide (S1.out.upd_nil hu); have T2 := hide h4; have U2 := hide (U1.out.trans hu); have H2 := hide (H1.out.upd_nil hu)
  have hz1 := U1.out.size
  clear h4 hu
  go_wp2_with fail
  refine (acount_any w2 H2.out).mono ?_
  rintro e w3 ⟨rfl, rfl⟩
  go_wp2_with fail
  go_ret
  have l0 := blk_lt S1.out.blk; have l1 := MapKind.is_lt S1.out.map
  have l2 := blk_lt T2.out.blk; have l3 := blk_lt T2.out.cli; have l4 := MapKind.is_lt T2.out.map
  have hz := U2.out.size
  have m0 := blk_lt S2.out.blk; have m1 := MapKind.is_lt S2.out.map
  refine ⟨⟨_, rfl, b1, g1, b2, c2, g2, ⟨blk_new w2 _, S2.out.upd_nil ((Upd.refl [] w2).alloc _), T2.out.upd_nil ((Upd.refl [] w2).alloc _), by omega⟩, ?_⟩, U2.out.alloc _⟩
  simp only [World.size_alloc]
  omega
set_option maxRecDepth 100000 in
set_option maxHeartbeats 2000000 in
theorem abytes_any {lo hi p : Nat} {a : Ap} (w : World) (h : ApIs w lo hi p a) (ho : ApW a) :
    Calls Tryz.prog 8 #[.pointer (some ⟨p, 0, none⟩)] w fun e w' => ∃ v, e = .returned v ∧ w'.ownsRow w.heap.size 5 1 v (apB a).length ((apB a).map u8v) ∧ Upd [] w w' := by
  have H := hide h; have OK := hide ho
  clear h ho
  have hpr := prs_len a.m OK.out.kv
  have hln := OK.out.len
  have hnn := OK.out.n
  have hul := uv_len10 (n := a.n) hnn
  have hul2 := uv_len10 (n := a.m.length) (by omega)
  obtain ⟨B1, hB1⟩ : ∃ x, [] ++ uv a.n = x := ⟨_, rfl⟩
  obtain ⟨B2, hB2⟩ : ∃ x, B1 ++ kvB a.m = x := ⟨_, rfl⟩
  obtain ⟨B3, hB3⟩ : ∃ x, B2 ++ tbB a.t = x := ⟨_, rfl⟩
  have hap : apB a = B3 := by rw [← hB3, ← hB2, ← hB1, apB]; simp
  have b1 : B1.length ≤ 10 := by rw [← hB1]; simpa using hul
  have b2 : B2.length ≤ 12000000 := by rw [← hB2, List.length_append, kvB, List.length_append]; omega
  rw [hap]
  have K1 := hide hB1; have K2 := hide hB2; have K3 := hide hB3
  clear hap hB1 hB2 hB3 hpr hul hul2
  go_enter Tryz.func8, Tryz.ntmps8
  go_wp2_with fail
  refine (acopyW_any w H.out OK.out).mono ?_
  rintro e w1 ⟨⟨q, rfl, sb, sg, tb, tc, tg, h1, k1, k2, k3, k4, k5, k6, k7, k8, k9, k10, k11, k12⟩, hu⟩
  have A1 := hide h1; have U1 := hide hu
  have hz1 := hu.size
  clear h1 hu
  obtain ⟨n1, n2, n3, n4, n5, n6, n7, n8, n9, n10, n11⟩ := A1.out.nes
  go_wp2_with fail
  refine wp_region_z (fun wy => wy.heap[q]? = some (.cells #[.pointer (some ⟨sb, 0, none⟩), .pointer (some ⟨tb, 0, none⟩), .int .u64 (a.n : Int)] TApp (0, 0))) 99 (by kernel_rfl) ?_
  have s0 : (w1.drewN 1).heap[q]? = some (.cells #[.pointer (some ⟨sb, 0, none⟩), .pointer (some ⟨tb, 0, none⟩), .int .u64 (a.n : Int)] TApp (0, 0)) := A1.out.blk
  refine zE 0 rfl (by kernel_rfl) (fun _ _ _ _ h => h) rfl (by exact s0) ?_
  apply Exists.intro
  refine ⟨fun wx hS => ?_, ?_⟩
  · go_simp; rfl
  simp only [Act.put, List.setIfInBounds_toArray, List.set_cons_succ, List.set_cons_zero, List.getElem_toArray, List.getElem_cons_zero]
  refine zE 1 rfl (by kernel_rfl) (fun _ _ _ _ h => h) rfl (by exact s0) ?_
  apply Exists.intro
  refine ⟨fun wx hS => ?_, ?_⟩
  · go_simp; rfl
  simp only [Act.put, zz1, zz2, zz3, zz4, zz5, zz6]
  refine zE 2 rfl (by kernel_rfl) (fun _ _ _ _ h => h) rfl (by exact s0) ?_
  apply Exists.intro
  refine ⟨fun wx hS => ?_, ?_⟩
  · go_simp; rfl
  simp only [Act.put, zz1, zz2, zz3, zz4, zz5, zz6]
  refine zE 3 rfl (by kernel_rfl) (fun _ _ _ _ h => h) rfl (by exact s0) ?_
  apply Exists.intro
  refine ⟨fun wx hS => ?_, ?_⟩
  · go_simp; rfl
  simp only [Act.put, zz1, zz2, zz3, zz4, zz5, zz6]
  refine zE 5 rfl (by kernel_rfl) (fun _ _ _ _ h => h) rfl (by exact s0) ?_
  apply Exists.intro
  refine ⟨fun wx hS => ?_, ?_⟩
  · go_simp; rfl
  simp only [Act.put, zz1, zz2, zz3, zz4, zz5, zz6]
  refine zE 6 rfl (by kernel_rfl) (fun _ _ _ _ h => h) rfl (by exact s0) ?_
  apply Exists.intro
  refine ⟨fun wx hS => ?_, ?_⟩
  · go_simp; rfl
  simp only [Act.put, zz1, zz2, zz3, zz4, zz5, zz6]
  refine zE 7 rfl (by kernel_rfl) (fun _ _ _ _ h => h) rfl (by exact s0) ?_
  apply Exists.intro
  refine ⟨fun wx hS => ?_, ?_⟩
  · go_simp; rfl
  simp only [Act.put, zz1, zz2, zz3, zz4, zz5, zz6]
  refine zE 8 rfl (by kernel_rfl) (fun _ _ _ _ h => h) rfl (by exact s0) ?_
  apply Exists.intro
  refine ⟨fun wx hS => ?_, ?_⟩
  · go_simp; rfl
  simp only [Act.put, zz1, zz2, zz3, zz4, zz5, zz6]
  refine zE 10 rfl (by kernel_rfl) (fun _ _ _ _ h => h) rfl (by exact s0) ?_
  apply Exists.intro
  refine ⟨fun wx hS => ?_, ?_⟩
  · go_simp; rfl
  simp only [Act.put, zz1, zz2, zz3, zz4, zz5, zz6]
  refine zE 11 rfl (by kernel_rfl) (fun _ _ _ _ h => h) rfl (by exact s0) ?_
  apply Exists.intro
  refine ⟨fun wx hS => ?_, ?_⟩
  · go_simp; rfl
  simp only [Act.put, zz1, zz2, zz3, zz4, zz5, zz6]
  refine zE 12 rfl (by kernel_rfl) (fun _ _ _ _ h => h) rfl (by exact s0) ?_
  apply Exists.intro
  refine ⟨fun wx hS => ?_, ?_⟩
  · go_simp; rfl
  simp only [Act.put, zz1, zz2, zz3, zz4, zz5, zz6]
  refine zE 13 rfl (by kernel_rfl) (fun _ _ _ _ h => h) rfl (by exact s0) ?_
  apply Exists.intro
  refine ⟨fun wx hS => ?_, ?_⟩
  · go_simp; rfl
  simp only [Act.put, zz1, zz2, zz3, zz4, zz5, zz6]
  refine zE 4 rfl (by kernel_rfl) (fun _ _ _ _ h => h) rfl (by exact s0) ?_
  apply Exists.intro
  refine ⟨fun wx hS => ?_, ?_⟩
  · have c0 := blk_cell (i := 1) hS rfl; go_simp; rfl
  simp only [Act.put, zz1, zz2, zz3, zz4, zz5, zz6]
  refine zE 9 rfl (by kernel_rfl) (fun _ _ _ _ h => h) rfl (by exact s0) ?_
  apply Exists.intro
  refine ⟨fun wx hS => ?_, ?_⟩
  · have c0 := blk_cell (i := 0) hS rfl; go_simp; rfl
  simp only [Act.put, zz1, zz2, zz3, zz4, zz5, zz6]
  refine zE 14 rfl (by kernel_rfl) (fun _ _ _ _ h => h) rfl (by exact s0) ?_
  apply Exists.intro
  refine ⟨fun wx hS => ?_, ?_⟩
  · have c0 := blk_cell (i := 2) hS rfl; go_simp; rfl
  simp only [Act.put, zz1, zz2, zz3, zz4, zz5, zz6]
  refine wpAnyZ_one 15 (by kernel_rfl) rfl rfl (fun K hK => ?_)
  try simp only [List.getElem_toArray, List.getElem_cons_succ, List.getElem_cons_zero]
  go_simp
  have hzd : (w1.drewN 1).heap.size = w1.heap.size := rfl
  refine (uint_any (base := w1.heap.size) (n := a.n) (v := .slice none 0 0) (bs := []) (w1.drewN 1) (World.ownsRow_nil _ _ _ _) (by rw [hzd]; exact Nat.le_refl _) (by simp) hnn).mono ?_
  rw [K1.out]
  rintro e w2 ⟨v2, rfl, h2⟩
  obtain ⟨a2, c2, rfl, -, -, -⟩ := owns_slice h2.own
  have hu2 : Upd [] w1 w2 := ((Upd.refl [] w1).drewN 1).trans (h2.upd.mono (by simp [Value.ownBlock]))
  have s2 := hu2.get A1.out.blk (by simp)
  have N2 := hide (show ∀ k, (Value.slice a2 B1.length c2).ownBlock = some k → w1.heap.size ≤ k from fun k hk => (owns_lt h2.own k hk).1)
  have A2 := hide (A1.out.upd hu2 (by simp) (by simp) (by simp) (by simp) (by simp) (by simp))
  have O2 := hide h2.own; have U2 := hide hu2
  have hz2 := hu2.size
  clear h2 hu2
  refine hK _ _ (.inr s2) ?_
  clear hK K
  try simp only [Act.put, zz1, zz2, zz3]
  clear s0
  refine wpAnyZ_one 16 (by kernel_rfl) rfl rfl (fun K hK => ?_)
  try simp only [List.getElem_toArray, List.getElem_cons_succ, List.getElem_cons_zero]
  go_simp
  refine (kput_any (base := w1.heap.size) w2 A2.out.st OK.out.kv (by omega) O2.out (by omega) (by omega) (fun e => by have := N2.out _ e; omega) (fun e => by have := N2.out _ e; omega)).mono ?_
  rw [K2.out]
  rintro e w3 ⟨v3, rfl, h3⟩
  obtain ⟨a3, c3, rfl, -, -, -⟩ := owns_slice h3.own
  have hne : ∀ k, k < w1.heap.size → k ∉ (Value.slice a2 B1.length c2).ownBlock.toList := fun k hk hm => by have := N2.out k (by simpa using hm); omega
  have s3 := h3.upd.get s2 (hne q (by omega))
  have N3 := hide (show ∀ k, (Value.slice a3 B2.length c3).ownBlock = some k → w1.heap.size ≤ k from fun k hk => (owns_lt h3.own k hk).1)
  have A3 := hide (A2.out.upd h3.upd (hne _ (by omega)) (hne _ (by omega)) (hne _ (by omega)) (hne _ (by omega)) (hne _ (by omega)) (hne _ (by omega)))
  have U3 := hide (U2.out.trans_new h3.upd (fun k hk => .inr (N2.out k (by simpa using hk))))
  have O3 := hide h3.own
  have hz3 := h3.upd.size
  clear h3 s2
  refine hK _ _ (.inr s3) ?_
  clear hK K
  try simp only [Act.put, zz1, zz2, zz3]
  refine wpAnyZ_one 17 (by kernel_rfl) rfl rfl (fun K hK => ?_)
  try simp only [List.getElem_toArray, List.getElem_cons_succ, List.getElem_cons_zero]
  go_simp
  refine (tput_any (base := w1.heap.size) w3 A3.out.tab OK.out.tab O3.out (by omega) (by omega) (fun e => by have := N3.out _ e; omega) (fun e => by have := N3.out _ e; omega) (fun e => by have := N3.out _ e; omega)).mono ?_
  rw [K3.out]
  rintro e w4 ⟨v4, rfl, h4⟩
  have hne3 : ∀ k, k < w1.heap.size → k ∉ (Value.slice a3 B2.length c3).ownBlock.toList := fun k hk hm => by have := N3.out k (by simpa using hm); omega
  have s4 := h4.upd.get s3 (hne3 q (by omega))
  have U4 := hide (U3.out.trans_new h4.upd (fun k hk => .inr (N3.out k (by simpa using hk))))
  have O4 := hide h4.own
  clear h4 s3
  refine hK _ _ (.inr s4) ?_
  clear hK K
  try simp only [Act.put, zz1, zz2, zz3]
  refine zE 18 rfl (by kernel_rfl) (fun _ _ _ _ h => h) rfl (by exact s4) ?_
  apply Exists.intro
  refine ⟨fun wx hS => ?_, ?_⟩
  · go_simp; rfl
  simp only [Act.put, zz1, zz2, zz3, zz4, zz5, zz6]
  refine wpAnyZ_done (by kernel_rfl) ?_ _
  clear s4
  go_wp2_with fail
  go_ret
  refine ⟨_, rfl, ?_, U1.out.trans U4.out⟩
  refine ⟨O4.out.1, ?_⟩
  rcases O4.out.2 with h5 | ⟨g, cap, cur, hv, hg, r⟩
  · exact .inl h5
  · exact .inr ⟨g, cap, cur, hv, by omega, r⟩
end Go.Proofs.YthpnnffogbjhpaaGreatDoor.Kv
