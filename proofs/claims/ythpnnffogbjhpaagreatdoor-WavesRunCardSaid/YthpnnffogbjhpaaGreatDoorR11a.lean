/- The document's application: its bytes. -/
import Derived.Test.YthpnnffogbjhpaaGreatDoorKvRb
import Derived.Test.YthpnnffogbjhpaaGreatDoorKvPtA
import Derived.Test.YthpnnffogbjhpaaGreatDoorR11kc
import Derived.Test.YthpnnffogbjhpaaGreatDoorGenAll
set_option linter.unusedSimpArgs false
set_option linter.unusedVariables false
set_option linter.unnecessarySimpa false
namespace Go.Proofs.YthpnnffogbjhpaaGreatDoor.Kv
set_option linter.unusedSimpArgs false
set_option linter.unusedVariables false
open Go.RowKit Go.Lib Go.Proofs.YthpnnffogbjhpaaGreatDoor.Crc Go.Proofs.YthpnnffogbjhpaaGreatDoor.Cm Go.Proofs.YthpnnffogbjhpaaGreatDoor.Var

theorem owns_low {w : World} {b1 b2 n z : Nat} {e : TypeId} {v : Value} {xs : List Value} (h : w.ownsRow b1 e z v n xs) (hb : b2 ≤ b1) : w.ownsRow b2 e z v n xs :=
  ⟨h.1, h.2.imp id fun ⟨g, cap, cur, e1, e2, e3⟩ => ⟨g, cap, cur, e1, Nat.le_trans hb e2, e3⟩⟩
set_option maxRecDepth 100000 in
set_option maxHeartbeats 8000000 in
theorem rabytes_any {T T2 : Nat → Prop} {vp vl : Value} {a : Ap} (w : World) (h : pairK.row w T vp a.m) (h2 : laK.row w T2 vl a.t) (ho : ApW a) (hl : a.m.length ≤ 10000) :
    Calls Tryz.prog 15 #[.agg #[vp, vl, .int .u64 (a.n : Int)]] w fun e w' => ∃ v', e = .returned v' ∧ Made w v' (apB a) w' := by
  obtain ⟨po, pc, rfl, pl1, pl2, -⟩ := pair_get h
  obtain ⟨lo, lc, rfl, ll1, ll2, hget⟩ := la_get h2
  have ROW := hide h; have HG := hide hget; have OK := hide ho
  simp only [maxLen] at pl2 ll2
  obtain ⟨i0, hi, hz0, hz1, hz2⟩ := info_parts infoB
  have hnn := ho.n
  have hml := ho.tab.2.1
  have hu0 := uv_len10 (n := a.n) hnn
  have hu1 := uv_len10 (n := a.m.length) (by omega)
  have hu2 := uv_len10 (n := a.t.length) (by omega)
  have hpr := prs_len a.m ho.kv
  have hps := tbs_len a.t ho.tab
  have ew : IntKind.u64.wrap (a.t.length : Int) = (a.t.length : Int) := IntWalk.u64_in _ (by omega)
  obtain ⟨B0, hB0⟩ : ∃ x, uv a.n = x := ⟨_, rfl⟩
  obtain ⟨X0, hX0⟩ : ∃ x, kvB a.m = x := ⟨_, rfl⟩
  obtain ⟨X1, hX1⟩ : ∃ x, uv a.t.length = x := ⟨_, rfl⟩
  have hgoal : apB a = ((B0 ++ X0) ++ X1) ++ a.t.flatMap laB := by rw [apB, tbB, hB0, hX0, hX1]; simp
  have hx0l : X0.length ≤ 1200000 := by rw [← hX0, kvB, List.length_append]; omega
  rw [hB0] at hu0
  rw [hX1] at hu2
  rw [hgoal]
  have KB0 := hide hB0; have KX0 := hide hX0; have KX1 := hide hX1
  clear h h2 hget ho hgoal hB0 hX0 hX1 hpr hu1
  go_enter Tryz.func15, Tryz.ntmps15
  go_upto_region 1 with fail
  have hx0 := blk_new w (.cells #[.slice po a.m.length pc, .slice lo a.t.length lc, .int .u64 (a.n : Int)] 37)
  have hux := (Upd.refl [] w).alloc (.cells #[.slice po a.m.length pc, .slice lo a.t.length lc, .int .u64 (a.n : Int)] 37)
  change Code.wp _ _ _ _ (w.alloc (.cells #[.slice po a.m.length pc, .slice lo a.t.length lc, .int .u64 (a.n : Int)] 37))
  generalize w.alloc (.cells #[.slice po a.m.length pc, .slice lo a.t.length lc, .int .u64 (a.n : Int)] 37) = wx at *
  have HX := hide hx0; have UX := hide hux
  have hzx := hux.size
  clear hx0 hux
  refine wp_region_z (fun wy => Upd [] wx wy) 99 (by kernel_rfl) ?_
  have s0 : Upd [] wx (wx.drewN 1) := (Upd.refl [] wx).drewN 1
  refine zE 0 rfl (by kernel_rfl) (fun _ _ _ _ h => h) rfl (by exact s0) ?_
  apply Exists.intro
  refine ⟨fun wx hS => ?_, ?_⟩
  · go_simp; rfl
  simp only [Act.put, List.setIfInBounds_toArray, List.set_cons_succ, List.set_cons_zero, List.getElem_toArray, List.getElem_cons_zero]
  refine zE 3 rfl (by kernel_rfl) (fun _ _ _ _ h => h) rfl (by exact s0) ?_
  apply Exists.intro
  refine ⟨fun wx hS => ?_, ?_⟩
  · go_simp; rfl
  simp only [Act.put, zz1, zz2, zz3, zz4, zz5, zz6]
  refine zE 1 rfl (by kernel_rfl) (fun _ _ _ _ h => h) rfl (by exact s0) ?_
  apply Exists.intro
  refine ⟨fun wx hS => ?_, ?_⟩
  · have c0 := blk_cell (i := 2) (hS.get HX.out (by simp)) rfl; go_simp; rfl
  simp only [Act.put, zz1, zz2, zz3, zz4, zz5, zz6]
  refine zE 4 rfl (by kernel_rfl) (fun _ _ _ _ h => h) rfl (by exact s0) ?_
  apply Exists.intro
  refine ⟨fun wx hS => ?_, ?_⟩
  · have c0 := blk_cell (i := 0) (hS.get HX.out (by simp)) rfl; go_simp; rfl
  simp only [Act.put, zz1, zz2, zz3, zz4, zz5, zz6]
  refine wpAnyZ_one 2 (by kernel_rfl) rfl rfl (fun K hK => ?_)
  try simp only [List.getElem_toArray, List.getElem_cons_succ, List.getElem_cons_zero]
  go_simp
  refine (ruint_any a.n hnn (wx.drewN 1)).mono ?_
  rw [KB0.out]
  rintro e w1 ⟨v1, rfl, ho1, hu1⟩
  obtain ⟨a1, c1, rfl, -, -, -⟩ := owns_slice ho1
  have s1 : Upd [] wx w1 := s0.trans hu1
  have O1 := hide ho1
  have hz1' := s1.size
  clear ho1 hu1
  refine hK _ _ (.inr s1) ?_
  clear hK K
  try simp only [Act.put, zz1, zz2, zz3]
  clear s0
  refine wpAnyZ_one 5 (by kernel_rfl) rfl rfl (fun K hK => ?_)
  try simp only [List.getElem_toArray, List.getElem_cons_succ, List.getElem_cons_zero]
  go_simp
  refine (rbytes_any (m := a.m) w1 (pairK.row_upd_nil ROW.out (UX.out.trans s1)) OK.out.kv hl).mono ?_
  rw [KX0.out]
  rintro e w2 ⟨v2, rfl, ho2, hu2⟩
  obtain ⟨a2, c2, rfl, -, -, -⟩ := owns_slice ho2
  have s2 : Upd [] wx w2 := s1.trans hu2
  have O12 := hide (owns_upd O1.out hu2 (by simp)); have S2 := hide (src_own ho2 (by simp [u8v, Value.oneCell']))
  have hz2' := s2.size
  clear ho2 hu2 O1
  refine hK _ _ (.inr s2) ?_
  clear hK K
  try simp only [Act.put, zz1, zz2, zz3]
  clear s1
  refine wpAnyZ_one 6 (by kernel_rfl) rfl rfl (fun K hK => ?_)
  try simp only [List.getElem_toArray, List.getElem_cons_succ, List.getElem_cons_zero]
  try simp only [List.getElem_toArray, List.getElem_cons_succ, List.getElem_cons_zero]
  refine wp_append_src _ _ _ 22 rfl w.heap.size 5 i0 (.int .u8 0) 1 1 Tryz.underlying22 hi hz0 hz1 hz2 rfl (by decide) (.slice a1 B0.length c1) B0.length (B0.map u8v) rfl (owns_low O12.out (by have : (wx.drewN 1).heap.size = wx.heap.size := rfl; omega)) a2 X0.length c2 (X0.map u8v) rfl S2.out (by unfold maxLen; omega) (by omega) (by omega) ?_
  intro a3 c3 w3 hown3 hU3 hn3
  have hl12 := owns_lt O12.out
  have hzd : (wx.drewN 1).heap.size = wx.heap.size := rfl
  have s3 : Upd [] wx w3 := s2.trans_new hU3 (fun k hk => .inr (by have := hl12 k (by simpa using hk); omega))
  obtain ⟨B3, hB3⟩ : ∃ x, B0 ++ X0 = x := ⟨_, rfl⟩
  have hbl3 : B3.length = B0.length + X0.length := by rw [← hB3, List.length_append]
  rw [← hbl3] at hown3 hn3 ⊢
  have O3 := hide (show w3.ownsRow w.heap.size 5 1 (.slice a3 B3.length c3) B3.length (B3.map u8v) by rw [← hB3] at hown3 ⊢; simpa using hown3)
  have HB3 := hide hB3
  have hxl := blk_lt HX.out
  have NX3 := hide (show ∀ g, (Value.slice a3 B3.length c3).ownBlock = some g → g ≠ w.heap.size from fun g hg => by
    rcases hn3 g hg with h5 | h5
    · have := hl12 g h5; omega
    · omega)
  have hbb3 : B3.length ≤ 1200020 := by omega
  clear hown3 hU3 hn3 hB3 hl12 hbl3
  refine hK _ _ (.inr s3) ?_
  clear hK K
  try simp only [Act.put, zz1, zz2, zz3]
  clear s2
  refine zE 7 rfl (by kernel_rfl) (fun _ _ _ _ h => h) rfl (by exact s3) ?_
  apply Exists.intro
  refine ⟨fun wx hS => ?_, ?_⟩
  · go_simp; rfl
  simp only [Act.put, zz1, zz2, zz3, zz4, zz5, zz6]
  refine wpAnyZ_done (by kernel_rfl) ?_ _
  have U3 := hide (UX.out.trans s3)
  have HX3 := hide (s3.get HX.out (by simp))
  have hzz3 := U3.out.size
  clear s3 O12 S2 HX UX
  have hk := blk_cell (i := 1) HX3.out rfl
  simp only [List.getElem_toArray, List.getElem_cons_zero, List.getElem_cons_succ] at hk
  go_wp2_with fail
  refine (ruint_any a.t.length (by omega) w3).mono ?_
  rw [KX1.out]
  rintro e x4 ⟨v4, rfl, hox, hux⟩
  obtain ⟨ax4, cx4, rfl, -, -, -⟩ := owns_slice hox
  have SX4 := hide (src_own hox (by simp [u8v, Value.oneCell'])); have OX4 := hide (owns_upd O3.out hux (by simp)); have UX4 := hide (U3.out.trans hux)
  have HXx := hide (hux.get HX3.out (by simp)); have hlX := blk_lt HX3.out
  have hzx4 := UX4.out.size; have hzy4 := hux.size; have hlo4 := hide (owns_lt O3.out)
  clear hox hux hk
  go_wp2_with (at_builtin; go_must (refine wpList_append_src _ rfl _ _ 22 rfl w.heap.size 5 i0 (.int .u8 0) 1 1 Tryz.underlying22 hi hz0 hz1 hz2 rfl (by decide) (.slice a3 B3.length c3) B3.length (B3.map u8v) rfl OX4.out ax4 X1.length cx4 (X1.map u8v) rfl SX4.out (by unfold maxLen; omega) (by omega) (by omega) ?_))
  intro a4 c4 w4 hown hU hn
  have U4 := hide (UX4.out.trans_new hU (fun k hk => .inr (hlo4.out k (by simpa using hk)).1))
  have HX4 := hide (hU.get HXx.out (fun hm => NX3.out _ (by simpa using hm) rfl))
  obtain ⟨B4, hB⟩ : ∃ x, B3 ++ X1 = x := ⟨_, rfl⟩
  have hbl4 : B4.length = B3.length + X1.length := by rw [← hB, List.length_append]
  rw [← hbl4] at hown hn ⊢
  have NX4 := hide (show ∀ g, (Value.slice a4 B4.length c4).ownBlock = some g → g ≠ w.heap.size from fun g hg => by
    rcases hn g hg with h5 | h5
    · exact NX3.out g h5
    · omega)
  have O4 := hide (show w4.ownsRow w.heap.size 5 1 (.slice a4 B4.length c4) B4.length (B4.map u8v) by rw [← hB] at hown ⊢; simpa using hown)
  have HB4 := hide hB
  have hzz4 := U4.out.size
  have hbb4 : B4.length ≤ 1200030 := by omega
  clear hbl4 hown hU hn hB SX4 OX4 UX4 hlo4 HXx
  have BM : Hid (B4 = B0 ++ X0 ++ X1) := by show _ = _; rw [← HB4.out, ← HB3.out]
  go_wp2_with fail
  go_loopw [3, 4] (fun sb si wr => ∃ (j : Nat) (Bs : List UInt8), j ≤ a.t.length ∧ si = .int .i64 j ∧ Bs = B4 ++ (a.t.take j).flatMap laB ∧ wr.ownsRow w.heap.size 5 1 sb Bs.length (Bs.map u8v) ∧ Upd [] w wr ∧
    wr.heap[w.heap.size]? = some (.cells #[.slice po a.m.length pc, .slice lo a.t.length lc, .int .u64 (a.n : Int)] 37 (0, 0)) ∧ (∀ g, sb.ownBlock = some g → g ≠ w.heap.size)) (fun _ si _ => a.t.length - (RowKit.intOf si).toNat)
  case atStart => exact ⟨0, B4, by omega, rfl, by simp, O4.out, U4.out, HX4.out, NX4.out⟩
  case round =>
    obtain ⟨j, B6, hj, rfl, hB, ho, hu, hbx, hnx⟩ := hrel
    obtain ⟨a6, c6, rfl, -, -, -⟩ := owns_slice ho
    rename World => w5
    have O5 := hide ho; have U5 := hide hu; have HBB := hide hB; have HX5 := hide hbx; have NX6 := hide hnx
    have hzz5 := hu.size
    have hbb6 : B6.length ≤ 60000000 := by
      rw [hB, List.length_append]
      have h3 : ((a.t.take j).flatMap laB).length ≤ (a.t.flatMap laB).length := by
        conv => rhs; rw [← List.take_append_drop j a.t, List.flatMap_append, List.length_append]
        omega
      omega
    clear ho hu hB hbx hnx O4 U4 HX4 NX4
    have hk := blk_cell (i := 1) HX5.out rfl
    simp only [List.getElem_toArray, List.getElem_cons_zero, List.getElem_cons_succ] at hk
    by_cases hlt : j < a.t.length
    · have d5 : decide ((j : Int) < a.t.length) = true := by simp; omega
      have d5' : decide (j < a.t.length) = true := by simpa using hlt
      obtain ⟨⟨ky, sq, cd, tx⟩, hp⟩ : ∃ p, a.t[j]? = some p := ⟨_, List.getElem?_eq_getElem hlt⟩
      obtain ⟨bx, ox, rfl, hb, -, k0, k1, k2, k3⟩ := HG.out j _ hp
      obtain ⟨p1, p2, p3, p4⟩ := OK.out.tab.2.2 _ (List.mem_of_getElem? hp)
      simp only at p1 p2 p3 p4 k0 k1 k2 k3
      have q0 := cell_upd k0 U5.out (by simp); have q1 := cell_upd k1 U5.out (by simp); have q2 := cell_upd k2 U5.out (by simp); have q3 := cell_upd k3 U5.out (by simp)
      have f1 : IntKind.u64.wrap (ky : Int) = (ky : Int) := IntWalk.u64_in _ (by omega)
      have f2 : IntKind.u64.wrap (sq : Int) = (sq : Int) := IntWalk.u64_in _ (by omega)
      have f3 : IntKind.u64.wrap (cd : Int) = (cd : Int) := IntWalk.u64_in _ (by omega)
      have l1 := uv_len10 (n := ky) (by omega)
      have l2 := uv_len10 (n := sq) (by omega)
      have l3 := uv_len10 (n := cd) (by omega)
      have l4 : (txB tx).length ≤ 5010 := by have := uv_len10 (n := tx.length) (by omega); simp only [txB, List.length_append]; omega
      have hn4 : ((B6 ++ uv ky) ++ uv sq) ++ uv cd ++ txB tx = B4 ++ (a.t.take (j + 1)).flatMap laB := by
        rw [HBB.out, List.take_add_one, hp]
        simp [laB]
      obtain ⟨Y1, hY1⟩ : ∃ x, uv ky = x := ⟨_, rfl⟩
      obtain ⟨Y2, hY2⟩ : ∃ x, uv sq = x := ⟨_, rfl⟩
      obtain ⟨Y3, hY3⟩ : ∃ x, uv cd = x := ⟨_, rfl⟩
      obtain ⟨Y4, hY4⟩ : ∃ x, txB tx = x := ⟨_, rfl⟩
      rw [hY1, hY2, hY3, hY4] at hn4
      rw [hY1] at l1
      rw [hY2] at l2
      rw [hY3] at l3
      rw [hY4] at l4
      have HP := hide hn4; have KY1 := hide hY1; have KY2 := hide hY2; have KY3 := hide hY3; have KY4 := hide hY4
      clear hp k0 k1 k2 k3 hn4 hY1 hY2 hY3 hY4
      go_upto_region 7 with fail
      have hx0 := blk_new w5 (.cells #[.int .u32 (ky : Int), .int .u32 (sq : Int), .int .u8 (cd : Int), .string (strOf tx)] 89)
      have hux := (Upd.refl [] w5).alloc (.cells #[.int .u32 (ky : Int), .int .u32 (sq : Int), .int .u8 (cd : Int), .string (strOf tx)] 89)
      change Code.wp _ _ _ _ (w5.alloc (.cells #[.int .u32 (ky : Int), .int .u32 (sq : Int), .int .u8 (cd : Int), .string (strOf tx)] 89))
      generalize w5.alloc (.cells #[.int .u32 (ky : Int), .int .u32 (sq : Int), .int .u8 (cd : Int), .string (strOf tx)] 89) = w6 at *
      have O6 := hide (owns_upd O5.out hux (by simp)); have U6 := hide (U5.out.trans hux); have HX6 := hide (hux.get HX5.out (by simp)); have HQ6 := hide hx0
      have NQ6 := hide (show ∀ g, (Value.slice a6 B6.length c6).ownBlock = some g → g ≠ w5.heap.size from fun g hg => by have := (owns_lt O5.out g hg).2; omega)
      have hzz6 := hux.size
      clear hx0 hux hk q0 q1 q2 q3 O5 HX5
      have hk := blk_cell (i := 0) HQ6.out rfl
      simp only [List.getElem_toArray, List.getElem_cons_zero, List.getElem_cons_succ] at hk
      go_wp2_with fail
      refine (ruint_any ky (by omega) w6).mono ?_
      rw [KY1.out]
      rintro e x7 ⟨v7, rfl, hox, hux⟩
      obtain ⟨ax7, cx7, rfl, -, -, -⟩ := owns_slice hox
      have SX7 := hide (src_own hox (by simp [u8v, Value.oneCell'])); have OX7 := hide (owns_upd O6.out hux (by simp)); have UX7 := hide (U6.out.trans hux)
      have HXx := hide (hux.get HX6.out (by simp)); have hlX := blk_lt HX6.out
      have HQx := hide (hux.get HQ6.out (by simp)); have hlQ := blk_lt HQ6.out
      have hzx7 := UX7.out.size; have hzy7 := hux.size; have hlo7 := hide (owns_lt O6.out)
      clear hox hux hk
      go_wp2_with (at_builtin; go_must (refine wpList_append_src _ rfl _ _ 22 rfl w.heap.size 5 i0 (.int .u8 0) 1 1 Tryz.underlying22 hi hz0 hz1 hz2 rfl (by decide) (.slice a6 B6.length c6) B6.length (B6.map u8v) rfl OX7.out ax7 Y1.length cx7 (Y1.map u8v) rfl SX7.out (by unfold maxLen; omega) (by omega) (by omega) ?_))
      intro a7 c7 w7 hown hU hn
      have U7 := hide (UX7.out.trans_new hU (fun k hk => .inr (hlo7.out k (by simpa using hk)).1))
      have HX7 := hide (hU.get HXx.out (fun hm => NX6.out _ (by simpa using hm) rfl))
      have HQ7 := hide (hU.get HQx.out (fun hm => NQ6.out _ (by simpa using hm) rfl))
      obtain ⟨B7, hB⟩ : ∃ x, B6 ++ Y1 = x := ⟨_, rfl⟩
      have hbl7 : B7.length = B6.length + Y1.length := by rw [← hB, List.length_append]
      rw [← hbl7] at hown hn ⊢
      have NX7 := hide (show ∀ g, (Value.slice a7 B7.length c7).ownBlock = some g → g ≠ w.heap.size from fun g hg => by
        rcases hn g hg with h5 | h5
        · exact NX6.out g h5
        · omega)
      have NQ7 := hide (show ∀ g, (Value.slice a7 B7.length c7).ownBlock = some g → g ≠ w5.heap.size from fun g hg => by
        rcases hn g hg with h5 | h5
        · exact NQ6.out g h5
        · omega)
      have O7 := hide (show w7.ownsRow w.heap.size 5 1 (.slice a7 B7.length c7) B7.length (B7.map u8v) by rw [← hB] at hown ⊢; simpa using hown)
      have HB7 := hide hB
      have hzz7 := U7.out.size
      have hbb7 : B7.length ≤ 60000010 := by omega
      clear hbl7 hown hU hn hB SX7 OX7 UX7 hlo7 HXx HQx
      have hk := blk_cell (i := 1) HQ7.out rfl
      simp only [List.getElem_toArray, List.getElem_cons_zero, List.getElem_cons_succ] at hk
      go_wp2_with fail
      refine (ruint_any sq (by omega) w7).mono ?_
      rw [KY2.out]
      rintro e x8 ⟨v8, rfl, hox, hux⟩
      obtain ⟨ax8, cx8, rfl, -, -, -⟩ := owns_slice hox
      have SX8 := hide (src_own hox (by simp [u8v, Value.oneCell'])); have OX8 := hide (owns_upd O7.out hux (by simp)); have UX8 := hide (U7.out.trans hux)
      have HXx := hide (hux.get HX7.out (by simp)); have hlX := blk_lt HX7.out
      have HQx := hide (hux.get HQ7.out (by simp)); have hlQ := blk_lt HQ7.out
      have hzx8 := UX8.out.size; have hzy8 := hux.size; have hlo8 := hide (owns_lt O7.out)
      clear hox hux hk
      go_wp2_with (at_builtin; go_must (refine wpList_append_src _ rfl _ _ 22 rfl w.heap.size 5 i0 (.int .u8 0) 1 1 Tryz.underlying22 hi hz0 hz1 hz2 rfl (by decide) (.slice a7 B7.length c7) B7.length (B7.map u8v) rfl OX8.out ax8 Y2.length cx8 (Y2.map u8v) rfl SX8.out (by unfold maxLen; omega) (by omega) (by omega) ?_))
      intro a8 c8 w8 hown hU hn
      have U8 := hide (UX8.out.trans_new hU (fun k hk => .inr (hlo8.out k (by simpa using hk)).1))
      have HX8 := hide (hU.get HXx.out (fun hm => NX7.out _ (by simpa using hm) rfl))
      have HQ8 := hide (hU.get HQx.out (fun hm => NQ7.out _ (by simpa using hm) rfl))
      obtain ⟨B8, hB⟩ : ∃ x, B7 ++ Y2 = x := ⟨_, rfl⟩
      have hbl8 : B8.length = B7.length + Y2.length := by rw [← hB, List.length_append]
      rw [← hbl8] at hown hn ⊢
      have NX8 := hide (show ∀ g, (Value.slice a8 B8.length c8).ownBlock = some g → g ≠ w.heap.size from fun g hg => by
        rcases hn g hg with h5 | h5
        · exact NX7.out g h5
        · omega)
      have NQ8 := hide (show ∀ g, (Value.slice a8 B8.length c8).ownBlock = some g → g ≠ w5.heap.size from fun g hg => by
        rcases hn g hg with h5 | h5
        · exact NQ7.out g h5
        · omega)
      have O8 := hide (show w8.ownsRow w.heap.size 5 1 (.slice a8 B8.length c8) B8.length (B8.map u8v) by rw [← hB] at hown ⊢; simpa using hown)
      have HB8 := hide hB
      have hzz8 := U8.out.size
      have hbb8 : B8.length ≤ 60000020 := by omega
      clear hbl8 hown hU hn hB SX8 OX8 UX8 hlo8 HXx HQx
      have hk := blk_cell (i := 2) HQ8.out rfl
      simp only [List.getElem_toArray, List.getElem_cons_zero, List.getElem_cons_succ] at hk
      go_wp2_with fail
      refine (ruint_any cd (by omega) w8).mono ?_
      rw [KY3.out]
      rintro e x9 ⟨v9, rfl, hox, hux⟩
      obtain ⟨ax9, cx9, rfl, -, -, -⟩ := owns_slice hox
      have SX9 := hide (src_own hox (by simp [u8v, Value.oneCell'])); have OX9 := hide (owns_upd O8.out hux (by simp)); have UX9 := hide (U8.out.trans hux)
      have HXx := hide (hux.get HX8.out (by simp)); have hlX := blk_lt HX8.out
      have HQx := hide (hux.get HQ8.out (by simp)); have hlQ := blk_lt HQ8.out
      have hzx9 := UX9.out.size; have hzy9 := hux.size; have hlo9 := hide (owns_lt O8.out)
      clear hox hux hk
      go_wp2_with (at_builtin; go_must (refine wpList_append_src _ rfl _ _ 22 rfl w.heap.size 5 i0 (.int .u8 0) 1 1 Tryz.underlying22 hi hz0 hz1 hz2 rfl (by decide) (.slice a8 B8.length c8) B8.length (B8.map u8v) rfl OX9.out ax9 Y3.length cx9 (Y3.map u8v) rfl SX9.out (by unfold maxLen; omega) (by omega) (by omega) ?_))
      intro a9 c9 w9 hown hU hn
      have U9 := hide (UX9.out.trans_new hU (fun k hk => .inr (hlo9.out k (by simpa using hk)).1))
      have HX9 := hide (hU.get HXx.out (fun hm => NX8.out _ (by simpa using hm) rfl))
      have HQ9 := hide (hU.get HQx.out (fun hm => NQ8.out _ (by simpa using hm) rfl))
      obtain ⟨B9, hB⟩ : ∃ x, B8 ++ Y3 = x := ⟨_, rfl⟩
      have hbl9 : B9.length = B8.length + Y3.length := by rw [← hB, List.length_append]
      rw [← hbl9] at hown hn ⊢
      have NX9 := hide (show ∀ g, (Value.slice a9 B9.length c9).ownBlock = some g → g ≠ w.heap.size from fun g hg => by
        rcases hn g hg with h5 | h5
        · exact NX8.out g h5
        · omega)
      have NQ9 := hide (show ∀ g, (Value.slice a9 B9.length c9).ownBlock = some g → g ≠ w5.heap.size from fun g hg => by
        rcases hn g hg with h5 | h5
        · exact NQ8.out g h5
        · omega)
      have O9 := hide (show w9.ownsRow w.heap.size 5 1 (.slice a9 B9.length c9) B9.length (B9.map u8v) by rw [← hB] at hown ⊢; simpa using hown)
      have HB9 := hide hB
      have hzz9 := U9.out.size
      have hbb9 : B9.length ≤ 60000030 := by omega
      clear hbl9 hown hU hn hB SX9 OX9 UX9 hlo9 HXx HQx
      have hk := blk_cell (i := 3) HQ9.out rfl
      simp only [List.getElem_toArray, List.getElem_cons_zero, List.getElem_cons_succ] at hk
      go_wp2_with fail
      refine (rtext_any (s := tx) w9 (by omega)).mono ?_
      rw [KY4.out]
      rintro e x10 ⟨v10, rfl, hox, hux⟩
      obtain ⟨ax10, cx10, rfl, -, -, -⟩ := owns_slice hox
      have SX10 := hide (src_own hox (by simp [u8v, Value.oneCell'])); have OX10 := hide (owns_upd O9.out hux (by simp)); have UX10 := hide (U9.out.trans hux)
      have HXx := hide (hux.get HX9.out (by simp)); have hlX := blk_lt HX9.out
      have HQx := hide (hux.get HQ9.out (by simp)); have hlQ := blk_lt HQ9.out
      have hzx10 := UX10.out.size; have hzy10 := hux.size; have hlo10 := hide (owns_lt O9.out)
      clear hox hux hk
      go_wp2_with (at_builtin; go_must (refine wpList_append_src _ rfl _ _ 22 rfl w.heap.size 5 i0 (.int .u8 0) 1 1 Tryz.underlying22 hi hz0 hz1 hz2 rfl (by decide) (.slice a9 B9.length c9) B9.length (B9.map u8v) rfl OX10.out ax10 Y4.length cx10 (Y4.map u8v) rfl SX10.out (by unfold maxLen; omega) (by omega) (by omega) ?_))
      intro a10 c10 w10 hown hU hn
      have U10 := hide (UX10.out.trans_new hU (fun k hk => .inr (hlo10.out k (by simpa using hk)).1))
      have HX10 := hide (hU.get HXx.out (fun hm => NX9.out _ (by simpa using hm) rfl))
      have HQ10 := hide (hU.get HQx.out (fun hm => NQ9.out _ (by simpa using hm) rfl))
      obtain ⟨B10, hB⟩ : ∃ x, B9 ++ Y4 = x := ⟨_, rfl⟩
      have hbl10 : B10.length = B9.length + Y4.length := by rw [← hB, List.length_append]
      rw [← hbl10] at hown hn ⊢
      have NX10 := hide (show ∀ g, (Value.slice a10 B10.length c10).ownBlock = some g → g ≠ w.heap.size from fun g hg => by
        rcases hn g hg with h5 | h5
        · exact NX9.out g h5
        · omega)
      have NQ10 := hide (show ∀ g, (Value.slice a10 B10.length c10).ownBlock = some g → g ≠ w5.heap.size from fun g hg => by
        rcases hn g hg with h5 | h5
        · exact NQ9.out g h5
        · omega)
      have O10 := hide (show w10.ownsRow w.heap.size 5 1 (.slice a10 B10.length c10) B10.length (B10.map u8v) by rw [← hB] at hown ⊢; simpa using hown)
      have HB10 := hide hB
      have hzz10 := U10.out.size
      have hbb10 : B10.length ≤ 60006000 := by omega
      clear hbl10 hown hU hn hB SX10 OX10 UX10 hlo10 HXx HQx
      have hfin : B10 = B4 ++ (a.t.take (j + 1)).flatMap laB := by rw [← HP.out, ← HB10.out, ← HB9.out, ← HB8.out, ← HB7.out]
      have HFIN := hide hfin
      clear hfin
      go_wp2_with fail
      go_roundw
      case rel => exact ⟨j + 1, B10, by omega, by go_num, HFIN.out, O10.out, U10.out, HX10.out, NX10.out⟩
      case measure => simp [RowKit.intOf]; omega
    · have d5 : decide ((j : Int) < a.t.length) = false := by simp; omega
      have d5' : decide (j < a.t.length) = false := by simpa using hlt
      have hje : a.t.take j = a.t := List.take_of_length_le (by omega)
      have hb2 := HBB.out
      rw [hje] at hb2
      have HB2 := hide hb2
      clear hlt hje HBB hb2
      go_wp2_with fail
      go_ret
      refine ⟨_, rfl, ?_, U5.out⟩
      rw [← BM.out, ← HB2.out]
      exact O5.out
end Go.Proofs.YthpnnffogbjhpaaGreatDoor.Kv
