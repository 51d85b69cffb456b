/- The law TranslateScripts: its walk, out of what wakes says. -/
import Derived.Test.YtloaceaomljeiaaDoorLwSM
import Derived.Test.YtloaceaomljeiaaDoorLwL
import Derived.Test.YtloaceaomljeiaaDoorOpenC
import Derived.Test.YtloaceaomljeiaaDoorZseq
namespace Go.Proofs.YtloaceaomljeiaaDoor.Tr
open Go.RowKit Go.Lib Go.Proofs.YtloaceaomljeiaaDoor.Crc Go.Proofs.YtloaceaomljeiaaDoor.Cm Go.Proofs.YtloaceaomljeiaaDoor.Var

theorem flat_snoc_len {X Y : Type} (f : X → List Y) {l : List X} {k : Nat} {x : X} (h : l[k]? = some x) : ((l.take (k + 1)).flatMap f).length = ((l.take k).flatMap f).length + (f x).length := by
  rw [← flat_more f h, List.length_append]
noncomputable def scOps19 : Array Oper := findOps 19 ((Tryd.f4.body).getD .skip)
noncomputable def scOps26 : Array Oper := findOps 26 ((Tryd.f4.body).getD .skip)
set_option maxRecDepth 100000 in
set_option maxHeartbeats 8000000 in
theorem scripts_any (wakes : WakesSays) {vl vg : Value} {n : Int} {l : List En} {log : List Sl} (w : World) (hcnt : CntAt w) (hn1 : -9223372036854775808 ≤ n) (hn2 : n ≤ 9223372036854775807) (hl : enK.row w (fun k => k < w.heap.size) vl l) (hlog : slK.row w (fun k => k < w.heap.size) vg log)
    (hk1 : ∀ e ∈ l, KeysOk e.cmd) (hk2 : ∀ s ∈ log, ∀ c ∈ s.cmds, KeysOk c) :
    Calls Tryd.prog 4 #[.int .i64 n, vl, vg] w fun e w' => e = .returned (.bool true) ∧ Upd [] w w' := by
  have HC := hide hcnt; have HL := hide hl; have HLOG := hide hlog; have HK1 := hide hk1; have HK2 := hide hk2; have WK := hide wakes
  obtain ⟨xl, cl, rfl, hcl1, hcl2⟩ := Row.slice hl
  obtain ⟨xg, cg, rfl, hcg1, hcg2, hgg⟩ := Row.get slK.hz hlog
  have GG := hide hgg
  obtain ⟨i2, hi2, jz0, jz1, jz2⟩ := info_parts infoC
  simp only [maxLen] at hcl2 hcg2
  clear hcnt hl hlog hk1 hk2 wakes hgg
  go_enter Tryd.func4, Tryd.ntmps4
  by_cases h60 : 60 < log.length
  · have d1 : decide ((60 : Int) < (log.length : Int)) = true := by simp; omega
    go_wp2_with fail
    refine (WK.out w HC.out).mono ?_
    rintro e w1 ⟨rfl, hu⟩
    go_wp2_with fail
    go_ret
    exact ⟨rfl, hu⟩
  have d1 : decide ((60 : Int) < (log.length : Int)) = false := by simp; omega
  by_cases h100 : 100 < l.length
  · have d2 : decide ((100 : Int) < (l.length : Int)) = true := by simp; omega
    go_wp2_with fail
    refine (WK.out w HC.out).mono ?_
    rintro e w1 ⟨rfl, hu⟩
    go_wp2_with fail
    go_ret
    exact ⟨rfl, hu⟩
  have d2 : decide ((100 : Int) < (l.length : Int)) = false := by simp; omega
  go_wp2_with fail
  go_loopw [7, 9] (fun sc si wr => ∃ (k : Nat) (C : List Cm), k ≤ log.length ∧ si = .int .i64 k ∧ C = (log.take k).flatMap (·.cmds) ∧ C.length ≤ 20 * k ∧ Own wr w.heap.size TCmd 7 (cmK.holds wr (fun k => k < w.heap.size)) sc C ∧ w.heap.size ≤ wr.heap.size ∧ Upd [] w wr) (fun _ si _ => log.length - (intOf si).toNat)
  case atStart => exact ⟨0, [], by omega, rfl, rfl, by simp, Own.nil _ _ _ _ _, Nat.le_refl _, Upd.refl _ _⟩
  case round =>
    obtain ⟨k, C, hk, rfl, hC, hCl, ho, hz, hu⟩ := hrel
    have CC := hide hC; have HO := hide ho; have HU := hide hu
    have hol := Own.lt ho
    have HOL := hide hol
    obtain ⟨ao, ca, rfl, hca1, hca2⟩ := Row.slice (Own.row ho)
    clear hC ho hu hol
    by_cases hlt : k < log.length
    · have d5 : decide ((k : Int) < log.length) = true := by simp; omega
      have d5' : decide (k < log.length) = true := by simpa using hlt
      obtain ⟨x, hi⟩ : ∃ x, log[k]? = some x := ⟨_, List.getElem?_eq_getElem hlt⟩
      obtain ⟨b, off, cs, rfl, hb, hTb, ⟨hslot, vd, ve, rfl, hvd, hve⟩, -, hcell⟩ := GG.out k x hi
      obtain ⟨da, dc, rfl, hd1, hd2⟩ := Row.slice hvd
      have y1 : wr.cell? ⟨b, off + k * 3 + 1, none⟩ = some (.slice da x.cmds.length dc) := cell_upd (hcell 1 _ rfl) HU.out (by simp)
      have HI := hide hi; have VD := hide hvd
      simp only [maxLen] at hd2
      clear hi hcell hvd hve
      by_cases h20 : 20 < x.cmds.length
      · have d6 : decide ((20 : Int) < (x.cmds.length : Int)) = true := by simp; omega
        go_wp2_with fail
        refine (WK.out wr (HC.out.upd_nil HU.out)).mono ?_
        rintro e w1 ⟨rfl, hu1⟩
        have U1 := hide (HU.out.trans hu1)
        clear hu1
        go_wp2_with fail
        go_ret
        exact ⟨rfl, U1.out⟩
      · have d6 : decide ((20 : Int) < (x.cmds.length : Int)) = false := by simp; omega
        have hD := cmK.row_upd_nil VD.out HU.out
        obtain ⟨css, hcss, -, -, hcl, hrow⟩ := own_open HO.out
        obtain ⟨yo, yc, kss, ey, -, -, hke, hkz, hks, -⟩ := Row.src hD
        cases ey
        have HCSS := hide hcss; have HROW := hide hrow; have HKE := hide hke; have HKS := hide hks
        have hfl := flat_more (·.cmds) HI.out
        rw [← CC.out] at hfl
        have FL := hide hfl
        clear hD hcss hrow hke hkz hks hfl
        go_wp2_with (at_builtin; go_must (refine wpList_append_src _ rfl _ _ 27 rfl w.heap.size TCmd i2 (.agg ZA) 7 80 Tryd.underlying27 hi2 jz0 jz1 jz2 rfl (by decide) (.slice ao C.length ca) C.length css.flatten rfl HROW.out da x.cmds.length dc kss.flatten rfl HKS.out (by unfold maxLen; omega) (by omega) hz ?_))
        intro ao6 ca6 w6 hown6 hU6 hn6
        have hS6 : ∀ g ∈ (Value.slice ao C.length ca).ownBlock.toList, ¬ g < w.heap.size := fun g hm => by have := (HOL.out _ (by simpa using hm)).1; omega
        have o6 := own_mores (T' := fun k => k < w.heap.size) HCSS.out HKE.out hown6 rfl hU6 hS6 (fun _ h => h)
        have u6 := HU.out.trans_new hU6 (fun g hm => .inr (by have := (HOL.out _ (by simpa using hm)).1; omega))
        have hz6 : w.heap.size ≤ w6.heap.size := by have := hU6.size; omega
        obtain ⟨C', hC'⟩ : ∃ C', C ++ x.cmds = C' := ⟨_, rfl⟩
        have hl6 : C'.length ≤ 20 * (k + 1) := by rw [← hC', List.length_append]; omega
        have hc6 : C' = (log.take (k + 1)).flatMap (·.cmds) := by rw [← hC']; exact FL.out
        rw [hC'] at o6
        have O6 := hide o6; have U6 := hide u6; have C6 := hide hc6
        clear o6 u6 hown6 hU6 hn6 hS6 hC' hc6 FL HCSS HROW HKE HKS
        go_wp2_with fail
        go_roundw
        case rel => exact ⟨k + 1, C', by omega, by go_num, C6.out, hl6, O6.out, hz6, U6.out⟩
        case measure => simp [intOf]; omega
    · have d5 : decide ((k : Int) < log.length) = false := by simp; omega
      have d5' : decide (k < log.length) = false := by simpa using hlt
      have hkl : k = log.length := by omega
      have hCC : C = log.flatMap (·.cmds) := by rw [CC.out, hkl, List.take_length]
      have hCL : C.length ≤ 1200 := by omega
      have HCC := hide hCC
      clear CC hkl hCC hlt hk
      by_cases hn : n < 1 ∨ 7 < n
      · go_wp2_with fail
        refine (script_bad wr hn).mono ?_
        rintro e w1 ⟨rfl, hu1⟩
        have U1 := hide (HU.out.trans hu1)
        clear hu1
        by_cases hn3 : n < 1
        · have d3 : decide (n < 1) = true := by simpa using hn3
          go_wp2_with fail
          refine (WK.out w1 (HC.out.upd_nil U1.out)).mono ?_
          rintro e w2 ⟨rfl, hu2⟩
          have U2 := hide (U1.out.trans hu2)
          clear hu2
          go_wp2_with fail
          go_ret
          exact ⟨rfl, U2.out⟩
        · have d3 : decide (n < 1) = false := by simpa using hn3
          have d4 : decide (7 < n) = true := by simpa using (by omega : 7 < n)
          go_wp2_with fail
          refine (WK.out w1 (HC.out.upd_nil U1.out)).mono ?_
          rintro e w2 ⟨rfl, hu2⟩
          have U2 := hide (U1.out.trans hu2)
          clear hu2
          go_wp2_with fail
          go_ret
          exact ⟨rfl, U2.out⟩
      · obtain ⟨N, rfl⟩ : ∃ N : Nat, n = N := ⟨n.toNat, by omega⟩
        have hN : 1 ≤ N ∧ N ≤ 7 := by omega
        clear hn
        go_wp2_with fail
        refine (script_any (n := N) (l := l) (log := log) wr hN.1 hN.2 (HC.out.upd_nil HU.out) (enK.row_upd_nil HL.out HU.out) (slK.row_upd_nil HLOG.out HU.out) (by omega) (by rw [← HCC.out]; omega) HK1.out HK2.out).mono ?_
        rintro e w3 ⟨⟨vs, rfl, hs⟩, hu3⟩
        have d3 : decide ((N : Int) < 1) = false := by simp; omega
        have d4 : decide ((7 : Int) < (N : Int)) = false := by simp; omega
        obtain ⟨m, hm⟩ : ∃ m, N = m + 1 := ⟨N - 1, by omega⟩
        have hNm : N - 1 = m := by omega
        rw [hNm] at hs
        obtain ⟨F, hF⟩ : ∃ F, scriptM m l log = F := ⟨_, rfl⟩
        rw [hF] at hs
        have hFS : F = (subsM l).map submitE ++ electsM m (subsM l) C := by rw [← hF, HCC.out]; rfl
        have hz3 := hu3.size
        have hsT := enK.row_mono hs (U := fun k => k < w3.heap.size) (fun k hk => hk.2)
        obtain ⟨xs, cs, rfl, hcs1, hcs2, hgs⟩ := en_get hsT
        have hlT := enK.row_mono (enK.row_upd_nil HL.out (HU.out.trans hu3)) (U := fun k => k < w3.heap.size) (fun k hk => by omega)
        obtain ⟨xl', cl', e9, -, -, hgl⟩ := en_get hlT
        cases e9
        have hCT : cmK.row w3 (fun k => k < w3.heap.size) (.slice ao C.length ca) C :=
          (Own.row (Own.upd HO.out hu3 (by simp) fun _ _ _ h => cmK.upd h hu3 (by simp))).mono (fun k hk => by have := (HOL.out k hk).2; omega) fun _ _ _ h => cmK.mono h fun k hk => by omega
        have U3 := hide (HU.out.trans hu3); have GS := hide hgs; have GL := hide hgl; have CT := hide hCT; have FS := hide hFS; have HM := hide hm; have HFF := hide hF
        have C3 := hide (HC.out.upd_nil (HU.out.trans hu3))
        simp only [maxLen] at hcs2
        clear hs hsT hgs hlT hgl hCT hFS hu3 hm hF hNm HO HU HOL HCC HL HLOG GG HC HK2
        go_wp2_with fail
        obtain ⟨wz, rfl⟩ : ∃ wz, wz = wr := ⟨_, rfl⟩
        go_loopw [8, 11, 12] (fun sw sa si wr => ∃ (k : Nat) (W : List Cm), k ≤ l.length ∧ si = .int .i64 k ∧ sa = .int .i64 W.length ∧ W = subsM (l.take k) ∧ Own wr w3.heap.size TCmd 7 (cmK.holds wr (fun k => k < w3.heap.size)) sw W ∧ w3.heap.size ≤ wr.heap.size ∧ Upd [] w3 wr) (fun _ _ si _ => l.length - (intOf si).toNat)
        case atStart => exact ⟨0, [], by omega, rfl, rfl, rfl, Own.nil _ _ _ _ _, Nat.le_refl _, Upd.refl _ _⟩
        case round =>
          obtain ⟨k, W, hk, rfl, rfl, hW, hq, hz, hu⟩ := hrel
          have HW := hide hW; have HQ := hide hq; have HU := hide hu
          have hql := Own.lt hq
          have HQL := hide hql
          have hWl : W.length ≤ 100 := by rw [hW]; have := subsM_len (l.take k); rw [List.length_take] at this; omega
          obtain ⟨aq, cq, rfl, hcq1, hcq2⟩ := Row.slice (Own.row hq)
          clear hW hq hu hql
          by_cases hlt : k < l.length
          · have d5 : decide ((k : Int) < l.length) = true := by simp; omega
            have d5' : decide (k < l.length) = true := by simpa using hlt
            obtain ⟨e, hi⟩ : ∃ e, l[k]? = some e := ⟨_, List.getElem?_eq_getElem hlt⟩
            obtain ⟨b, off, torn, pick, ka, kc, rfl, hb, fit, hks, hcell⟩ := GL.out k e hi
            have cx : ∀ j u, (enc e torn pick (.slice ka e.cmd.keys.length kc))[j]? = some u → wr.cell? ⟨b, off + k * 12 + j, none⟩ = some u := fun j u hj => cell_upd (hcell j u hj) HU.out (by simp)
            have y0 : wr.cell? ⟨b, off + k * 12, none⟩ = some (.int .u8 (e.kind : Int)) := cx 0 _ rfl
            have hy3 : Cells7 w3 b (off + k * 12 + 5) e.cmd ka kc := ⟨hcell 5 _ rfl, hcell 6 _ rfl, hcell 7 _ rfl, hcell 8 _ rfl, hcell 9 _ rfl, hcell 10 _ rfl, hcell 11 _ rfl⟩
            have hy := hy3.upd HU.out hb (by simp)
            have HY3 := hide hy3; have HB := hide hb
            have hmore := subsM_more hi
            have KS := hide hks; have FIT := hide fit; have HMO := hide hmore; have HY := hide hy; have HI := hide hi
            clear hi hks fit hcell cx hmore hy hy3 hb
            by_cases hk1 : e.kind = 1
            · have q1 : ((e.kind : Int) != 1) = false := by simp; omega
              have HKI := hide hk1
              clear hk1
              obtain ⟨y5, y6, y7, y8, y9, y10, y11⟩ := HY.out
              go_wp2_with fail
              refine (may_any (c := e.cmd) wr ⟨FIT.out, _, rfl, KS.out.upd_nil HU.out⟩).mono ?_
              rintro e1 w4 ⟨hu4, rfl⟩
              have U4 := hide (HU.out.trans hu4)
              have q4 := own_keep (T' := fun k => k < w3.heap.size) HQ.out hu4 (by simp) (by simp) (fun _ h => h)
              have Q4 := hide q4
              have HY4 := hide (HY3.out.upd U4.out HB.out (by simp))
              have hz4 : w3.heap.size ≤ w4.heap.size := by have := hu4.size; omega
              clear hu4 q4 y5 y6 y7 y8 y9 y10 y11
              by_cases hgd : Cm.Good e.cmd
              · rw [decide_eq_true hgd]
                have hm : W ++ [e.cmd] = subsM (l.take (k + 1)) := by rw [HMO.out, if_pos ⟨HKI.out, hgd⟩, HW.out]
                have hsc := script_sub (m := m) (log := log) HI.out HKI.out hgd
                rw [HFF.out, ← HW.out] at hsc
                have HSC := hide hsc; have HM2 := hide hm; have GD := hide hgd
                clear hsc hm hgd
                obtain ⟨y5, y6, y7, y8, y9, y10, y11⟩ := HY4.out
                have hal := (Upd.refl [] w4).alloc (.cells (cmc e.cmd (.slice ka e.cmd.keys.length kc)).toArray TCmd)
                have q5 := own_keep (T' := fun k => k < w3.heap.size) Q4.out hal (by simp) (by simp) (fun _ h => h)
                obtain ⟨css, hcss, -, -, hcl, hrow⟩ := own_open q5
                have hx5 : cmK.holds (w4.alloc (.cells (cmc e.cmd (.slice ka e.cmd.keys.length kc)).toArray TCmd)) (fun k => k < w3.heap.size) e.cmd (cmc e.cmd (.slice ka e.cmd.keys.length kc)) := ⟨FIT.out, _, rfl, KS.out.upd_nil (U4.out.trans hal)⟩
                have hz5 : w3.heap.size ≤ (w4.alloc (.cells (cmc e.cmd (.slice ka e.cmd.keys.length kc)).toArray TCmd)).heap.size := by have := hal.size; omega
                have U5 := hide (U4.out.trans hal); have HX5 := hide hx5; have HCSS := hide hcss; have HROW := hide hrow
                clear hal q5 hx5 hcss hrow
                go_wp2_with (at_builtin; go_must (refine wpList_append_src _ rfl _ _ 27 rfl w3.heap.size TCmd i2 (.agg ZA) 7 80 Tryd.underlying27 hi2 jz0 jz1 jz2 rfl (by decide) (.slice aq W.length cq) W.length css.flatten rfl HROW.out (some ⟨w4.heap.size, 0, none⟩) 1 1 (cmc e.cmd (.slice ka e.cmd.keys.length kc)) rfl (cmc_src (blk_new _ _) rfl) (by unfold maxLen; omega) (by omega) hz5 ?_))
                intro aq6 cq6 w6 hown6 hU6 hn6
                have q6 := own_mores (T' := fun k => k < w3.heap.size) HCSS.out (.cons HX5.out .nil) (by simpa [show cmK.z = 7 from rfl] using hown6) rfl hU6 (fun g hm h => by have := (HQL.out _ (by simpa using hm)).1; omega) (fun _ h => h)
                have u6 := U5.out.trans_new hU6 (fun g hm => .inr (by have := (HQL.out _ (by simpa using hm)).1; omega))
                have hz6 : w3.heap.size ≤ w6.heap.size := u6.size
                have hW1 : (W ++ [e.cmd]).length = W.length + 1 := by simp
                obtain ⟨W', hW'⟩ : ∃ W', W ++ [e.cmd] = W' := ⟨_, rfl⟩
                have hM' := HM2.out
                rw [hW'] at q6 hW1 hM'
                obtain ⟨b2, off2, torn2, pick2, kb, kd, rfl, hb2, fit2, hks2, hcell2⟩ := GS.out _ _ HSC.out
                have hlt2 := (List.getElem?_eq_some_iff.1 HSC.out).1
                have cz : ∀ j u, (enc (submitE e.cmd) torn2 pick2 (.slice kb (submitE e.cmd).cmd.keys.length kd))[j]? = some u → w6.cell? ⟨b2, off2 + W.length * 12 + j, none⟩ = some u := fun j u hj => cell_upd (hcell2 j u hj) u6 (by simp)
                have E0 : Hid (w6.cell? ⟨b2, off2 + W.length * 12, none⟩ = some (.int .u8 1)) := hide (cz 0 _ rfl)
                have E1 : Hid (w6.cell? ⟨b2, off2 + W.length * 12 + 1, none⟩ = some (.int .i64 0)) := hide (cz 1 _ rfl)
                have E7 : Hid (Cells7 w6 b2 (off2 + W.length * 12 + 5) e.cmd kb kd) := hide ⟨cz 5 _ rfl, cz 6 _ rfl, cz 7 _ rfl, cz 8 _ rfl, cz 9 _ rfl, cz 10 _ rfl, cz 11 _ rfl⟩
                have B2 : Hid (b2 < w6.heap.size) := hide (by omega)
                have HB6 : Hid (b < w6.heap.size) := hide (by have := HB.out; omega)
                have HY6 := hide (HY3.out.upd u6 HB.out (by simp))
                have KS2 := hide (hks2.upd_nil u6); have KS6 := hide (KS.out.upd_nil u6); have FIT2 := hide fit2
                have d7 : decide ((F.length : Int) ≤ (W.length : Int)) = false := by simp; omega
                have d7' : decide (F.length ≤ W.length) = false := by simp; omega
                have Q6 := hide q6; have U6 := hide u6; have HM6 := hide hM'; have HW1 := hide hW1; have V6 := hide (HM2.out.symm.trans hW')
                clear hcell2 cz hks2 fit2 q6 u6 hM' hW' hW1 hown6 hU6 hn6 hb2 y5 y6 y7 y8 y9 y10 y11 y0 HCSS HROW HX5 U5 Q4 HY4 HSC HM2
                go_wp2_with fail
                have H := hide ((Upd.refl [] w6).drewN 1)
                refine wp_region_seq scOps19 (by kernel_rfl) [31] (Upd [] w6) (by kernel_rfl) (by kernel_rfl) (fun _ _ d _ _ h => by cases d <;> exact h) H.out ?_
                refine wpSeq_take (by kernel_rfl) (by kernel_rfl) ?_
                apply Exists.intro
                refine ⟨fun wx hS => ?_, fun a' ha => ?_⟩
                · go_simp; rfl
                simp only [Act.put, List.setIfInBounds_toArray, List.set_cons_succ, List.set_cons_zero] at ha
                subst ha
                refine wpSeq_take (by kernel_rfl) (by kernel_rfl) ?_
                apply Exists.intro
                refine ⟨fun wx hS => ?_, fun a' ha => ?_⟩
                · go_simp; rfl
                simp only [Act.put, List.setIfInBounds_toArray, List.set_cons_succ, List.set_cons_zero] at ha
                subst ha
                refine wpSeq_take (by kernel_rfl) (by kernel_rfl) ?_
                apply Exists.intro
                refine ⟨fun wx hS => ?_, fun a' ha => ?_⟩
                · go_simp; rfl
                simp only [Act.put, List.setIfInBounds_toArray, List.set_cons_succ, List.set_cons_zero] at ha
                subst ha
                refine wpSeq_take (by kernel_rfl) (by kernel_rfl) ?_
                apply Exists.intro
                refine ⟨fun wx hS => ?_, fun a' ha => ?_⟩
                · go_simp; rfl
                simp only [Act.put, List.setIfInBounds_toArray, List.set_cons_succ, List.set_cons_zero] at ha
                subst ha
                refine wpSeq_take (by kernel_rfl) (by kernel_rfl) ?_
                apply Exists.intro
                refine ⟨fun wx hS => ?_, fun a' ha => ?_⟩
                · go_simp; rfl
                simp only [Act.put, List.setIfInBounds_toArray, List.set_cons_succ, List.set_cons_zero] at ha
                subst ha
                refine wpSeq_take (by kernel_rfl) (by kernel_rfl) ?_
                apply Exists.intro
                refine ⟨fun wx hS => ?_, fun a' ha => ?_⟩
                · go_simp; rfl
                simp only [Act.put, List.setIfInBounds_toArray, List.set_cons_succ, List.set_cons_zero] at ha
                subst ha
                refine wpSeq_take (by kernel_rfl) (by kernel_rfl) ?_
                apply Exists.intro
                refine ⟨fun wx hS => ?_, fun a' ha => ?_⟩
                · go_simp; rfl
                simp only [Act.put, List.setIfInBounds_toArray, List.set_cons_succ, List.set_cons_zero] at ha
                subst ha
                refine wpSeq_take (by kernel_rfl) (by kernel_rfl) ?_
                apply Exists.intro
                refine ⟨fun wx hS => ?_, fun a' ha => ?_⟩
                · go_simp; rfl
                simp only [Act.put, List.setIfInBounds_toArray, List.set_cons_succ, List.set_cons_zero] at ha
                subst ha
                refine wpSeq_take (by kernel_rfl) (by kernel_rfl) ?_
                apply Exists.intro
                refine ⟨fun wx hS => ?_, fun a' ha => ?_⟩
                · go_simp; rfl
                simp only [Act.put, List.setIfInBounds_toArray, List.set_cons_succ, List.set_cons_zero] at ha
                subst ha
                refine wpSeq_take (by kernel_rfl) (by kernel_rfl) ?_
                apply Exists.intro
                refine ⟨fun wx hS => ?_, fun a' ha => ?_⟩
                · have c := cell_upd E0.out hS (by simp); go_simp; rfl
                simp only [Act.put, List.setIfInBounds_toArray, List.set_cons_succ, List.set_cons_zero] at ha
                subst ha
                refine wpSeq_take (by kernel_rfl) (by kernel_rfl) ?_
                apply Exists.intro
                refine ⟨fun wx hS => ?_, fun a' ha => ?_⟩
                · go_simp; rfl
                simp only [Act.put, List.setIfInBounds_toArray, List.set_cons_succ, List.set_cons_zero] at ha
                subst ha
                refine wpSeq_take (by kernel_rfl) (by kernel_rfl) ?_
                apply Exists.intro
                refine ⟨fun wx hS => ?_, fun a' ha => ?_⟩
                · go_simp; rfl
                simp only [Act.put, List.setIfInBounds_toArray, List.set_cons_succ, List.set_cons_zero] at ha
                subst ha
                refine wpSeq_take (by kernel_rfl) (by kernel_rfl) ?_
                apply Exists.intro
                refine ⟨fun wx hS => ?_, fun a' ha => ?_⟩
                · go_simp; rfl
                simp only [Act.put, List.setIfInBounds_toArray, List.set_cons_succ, List.set_cons_zero] at ha
                subst ha
                refine wpSeq_take (by kernel_rfl) (by kernel_rfl) ?_
                apply Exists.intro
                refine ⟨fun wx hS => ?_, fun a' ha => ?_⟩
                · go_simp; rfl
                simp only [Act.put, List.setIfInBounds_toArray, List.set_cons_succ, List.set_cons_zero] at ha
                subst ha
                refine wpSeq_take (by kernel_rfl) (by kernel_rfl) ?_
                apply Exists.intro
                refine ⟨fun wx hS => ?_, fun a' ha => ?_⟩
                · go_simp; rfl
                simp only [Act.put, List.setIfInBounds_toArray, List.set_cons_succ, List.set_cons_zero] at ha
                subst ha
                refine wpSeq_take (by kernel_rfl) (by kernel_rfl) ?_
                apply Exists.intro
                refine ⟨fun wx hS => ?_, fun a' ha => ?_⟩
                · go_simp; rfl
                simp only [Act.put, List.setIfInBounds_toArray, List.set_cons_succ, List.set_cons_zero] at ha
                subst ha
                refine wpSeq_take (by kernel_rfl) (by kernel_rfl) ?_
                apply Exists.intro
                refine ⟨fun wx hS => ?_, fun a' ha => ?_⟩
                · go_simp; rfl
                simp only [Act.put, List.setIfInBounds_toArray, List.set_cons_succ, List.set_cons_zero] at ha
                subst ha
                refine wpSeq_take (by kernel_rfl) (by kernel_rfl) ?_
                apply Exists.intro
                refine ⟨fun wx hS => ?_, fun a' ha => ?_⟩
                · have c := cell_upd E1.out hS (by simp); go_simp; rfl
                simp only [Act.put, List.setIfInBounds_toArray, List.set_cons_succ, List.set_cons_zero] at ha
                subst ha
                refine wpSeq_take (by kernel_rfl) (by kernel_rfl) ?_
                apply Exists.intro
                refine ⟨fun wx hS => ?_, fun a' ha => ?_⟩
                · go_simp; rfl
                simp only [Act.put, List.setIfInBounds_toArray, List.set_cons_succ, List.set_cons_zero] at ha
                subst ha
                refine wpSeq_take (by kernel_rfl) (by kernel_rfl) ?_
                apply Exists.intro
                refine ⟨fun wx hS => ?_, fun a' ha => ?_⟩
                · go_simp; rfl
                simp only [Act.put, List.setIfInBounds_toArray, List.set_cons_succ, List.set_cons_zero] at ha
                subst ha
                refine wpSeq_take (by kernel_rfl) (by kernel_rfl) ?_
                apply Exists.intro
                refine ⟨fun wx hS => ?_, fun a' ha => ?_⟩
                · go_simp; rfl
                simp only [Act.put, List.setIfInBounds_toArray, List.set_cons_succ, List.set_cons_zero] at ha
                subst ha
                refine wpSeq_take (by kernel_rfl) (by kernel_rfl) ?_
                apply Exists.intro
                refine ⟨fun wx hS => ?_, fun a' ha => ?_⟩
                · go_simp; rfl
                simp only [Act.put, List.setIfInBounds_toArray, List.set_cons_succ, List.set_cons_zero] at ha
                subst ha
                refine wpSeq_take (by kernel_rfl) (by kernel_rfl) ?_
                apply Exists.intro
                refine ⟨fun wx hS => ?_, fun a' ha => ?_⟩
                · go_simp; rfl
                simp only [Act.put, List.setIfInBounds_toArray, List.set_cons_succ, List.set_cons_zero] at ha
                subst ha
                refine wpSeq_take (by kernel_rfl) (by kernel_rfl) ?_
                apply Exists.intro
                refine ⟨fun wx hS => ?_, fun a' ha => ?_⟩
                · go_simp; rfl
                simp only [Act.put, List.setIfInBounds_toArray, List.set_cons_succ, List.set_cons_zero] at ha
                subst ha
                refine wpSeq_take (by kernel_rfl) (by kernel_rfl) ?_
                apply Exists.intro
                refine ⟨fun wx hS => ?_, fun a' ha => ?_⟩
                · go_simp; rfl
                simp only [Act.put, List.setIfInBounds_toArray, List.set_cons_succ, List.set_cons_zero] at ha
                subst ha
                refine wpSeq_take (by kernel_rfl) (by kernel_rfl) ?_
                apply Exists.intro
                refine ⟨fun wx hS => ?_, fun a' ha => ?_⟩
                · obtain ⟨r0, r1, r2, r3, r4, r5, r6⟩ := E7.out.upd hS B2.out (by simp); go_simp; rfl
                simp only [Act.put, List.setIfInBounds_toArray, List.set_cons_succ, List.set_cons_zero] at ha
                subst ha
                refine wpSeq_take (by kernel_rfl) (by kernel_rfl) ?_
                apply Exists.intro
                refine ⟨fun wx hS => ?_, fun a' ha => ?_⟩
                · go_simp; rfl
                simp only [Act.put, List.setIfInBounds_toArray, List.set_cons_succ, List.set_cons_zero] at ha
                subst ha
                refine wpSeq_take (by kernel_rfl) (by kernel_rfl) ?_
                apply Exists.intro
                refine ⟨fun wx hS => ?_, fun a' ha => ?_⟩
                · go_simp; rfl
                simp only [Act.put, List.setIfInBounds_toArray, List.set_cons_succ, List.set_cons_zero] at ha
                subst ha
                refine wpSeq_take (by kernel_rfl) (by kernel_rfl) ?_
                apply Exists.intro
                refine ⟨fun wx hS => ?_, fun a' ha => ?_⟩
                · go_simp; rfl
                simp only [Act.put, List.setIfInBounds_toArray, List.set_cons_succ, List.set_cons_zero] at ha
                subst ha
                refine wpSeq_take (by kernel_rfl) (by kernel_rfl) ?_
                apply Exists.intro
                refine ⟨fun wx hS => ?_, fun a' ha => ?_⟩
                · go_simp; rfl
                simp only [Act.put, List.setIfInBounds_toArray, List.set_cons_succ, List.set_cons_zero] at ha
                subst ha
                refine wpSeq_take (by kernel_rfl) (by kernel_rfl) ?_
                apply Exists.intro
                refine ⟨fun wx hS => ?_, fun a' ha => ?_⟩
                · obtain ⟨r0, r1, r2, r3, r4, r5, r6⟩ := HY6.out.upd hS HB6.out (by simp); go_simp; rfl
                simp only [Act.put, List.setIfInBounds_toArray, List.set_cons_succ, List.set_cons_zero] at ha
                subst ha
                refine wpSeq_one (by kernel_rfl) (by kernel_rfl) (fun K hK => ?_)
                go_simp
                refine (rsame_any (a := e.cmd) (b := e.cmd) _ ⟨FIT.out, _, rfl, KS2.out.upd_nil H.out⟩ ⟨FIT.out, _, rfl, KS6.out.upd_nil H.out⟩).mono ?_
                rintro e1 w7 ⟨rfl, hd⟩
                rw [decide_eq_true rfl]
                have H7 := hide (H.out.trans hd)
                clear hd
                refine hK _ _ (H7.out) ?_
                clear hK K
                try simp only [Act.put, List.setIfInBounds_toArray, List.set_cons_succ, List.set_cons_zero]
                refine wpSeq_take (by kernel_rfl) (by kernel_rfl) ?_
                apply Exists.intro
                refine ⟨fun wx hS => ?_, fun a' ha => ?_⟩
                · go_simp; rfl
                simp only [Act.put, List.setIfInBounds_toArray, List.set_cons_succ, List.set_cons_zero] at ha
                subst ha
                refine wpSeq_take (by kernel_rfl) (by kernel_rfl) ?_
                apply Exists.intro
                refine ⟨fun wx hS => ?_, fun a' ha => ?_⟩
                · go_simp; rfl
                simp only [Act.put, List.setIfInBounds_toArray, List.set_cons_succ, List.set_cons_zero] at ha
                subst ha
                unfold wpSeq
                have Q7 := hide (own_keep (T' := fun k => k < w3.heap.size) Q6.out H7.out (by simp) (by simp) (fun _ h => h))
                have U7 := hide (U6.out.trans H7.out)
                have hz7 : w3.heap.size ≤ w7.heap.size := U7.out.size
                go_wp2_with fail
                go_roundw
                case rel => exact ⟨k + 1, W', by omega, by go_num, by rw [HW1.out]; rfl, HM6.out, Q7.out, hz7, U7.out⟩
                case measure => simp [intOf]; omega
              · rw [decide_eq_false hgd]
                have hm : W = subsM (l.take (k + 1)) := by rw [HMO.out, if_neg (by simp [hgd]), List.append_nil]; exact HW.out
                have HM2 := hide hm
                clear hm hgd
                go_wp2_with fail
                go_roundw
                case rel => exact ⟨k + 1, W, by omega, by go_num, rfl, HM2.out, Q4.out, hz4, U4.out⟩
                case measure => simp [intOf]; omega
            · have q1 : ((e.kind : Int) != 1) = true := by simp; omega
              have hm : W = subsM (l.take (k + 1)) := by rw [HMO.out, if_neg (by simp [hk1]), List.append_nil]; exact HW.out
              have HM2 := hide hm
              clear hm hk1
              go_wp2_with fail
              go_roundw
              case rel => exact ⟨k + 1, W, by omega, by go_num, rfl, HM2.out, HQ.out, hz, HU.out⟩
              case measure => simp [intOf]; omega
          · have d5 : decide ((k : Int) < l.length) = false := by simp; omega
            have d5' : decide (k < l.length) = false := by simpa using hlt
            have hkl : k = l.length := by omega
            have hWS : W = subsM l := by rw [HW.out, hkl, List.take_length]
            have hF0 : F = W.map submitE ++ electsM m W C := by rw [hWS]; exact FS.out
            have hF0l : (W.map submitE).length = W.length := List.length_map ..
            obtain ⟨O0, hO0⟩ : ∃ O0, W.map submitE = O0 := ⟨_, rfl⟩
            rw [hO0] at hF0 hF0l
            have F0 := hide hF0; have F0L := hide hF0l
            obtain ⟨c, hc, e1, e2⟩ : ∃ c : Nat, c = 5 * m ∧ IntKind.i64.wrap ((N : Int) - 1) = (m : Int) ∧ IntKind.i64.wrap (5 * (m : Int)) = (c : Int) := ⟨5 * m, rfl, by rw [IntWalk.i64_in _ (by have := HM.out; omega)]; have := HM.out; omega, by rw [IntWalk.i64_in _ (by have := HM.out; omega)]; omega⟩
            have HCM := hide hc
            have hc30 : c ≤ 30 := by have := HM.out; omega
            clear hkl hWS hF0 hF0l hO0 hc HW FS
            as_aux_lemma =>
            go_wp2_with fail
            obtain ⟨wy, rfl⟩ : ∃ wy, wy = wr := ⟨_, rfl⟩
            go_loopw [8, 11, 13] (fun sw sa si wr => ∃ (i : Nat) (V : List Cm) (O : List En), i ≤ C.length ∧ si = .int .i64 i ∧ sa = .int .i64 O.length ∧ F = O ++ electsM m V (C.drop i) ∧ V.length ≤ 100 ∧ Own wr w3.heap.size TCmd 7 (cmK.holds wr (fun k => k < w3.heap.size)) sw V ∧ w3.heap.size ≤ wr.heap.size ∧ Upd [] w3 wr) (fun _ _ si _ => C.length - (intOf si).toNat)
            case atStart => exact ⟨0, W, O0, by omega, rfl, by rw [F0L.out], F0.out, hWl, HQ.out, hz, HU.out⟩
            case round =>
              clear HQ HU F0 F0L HQL hcq1 hcq2 hWl hz
              obtain ⟨i, V, O, hi, rfl, rfl, hFO, hVl, hq, hz, hu⟩ := hrel
              have FO := hide hFO; have HQ := hide hq; have HU := hide hu
              have hql := Own.lt hq
              have HQL := hide hql
              have hOF : O.length ≤ F.length := by rw [hFO, List.length_append]; omega
              obtain ⟨aq, cq, rfl, hcq1, hcq2⟩ := Row.slice (Own.row hq)
              clear hFO hq hu hql
              by_cases hlt : i < C.length
              · have d5 : decide ((i : Int) < C.length) = true := by simp; omega
                have d5' : decide (i < C.length) = true := by simpa using hlt
                obtain ⟨x, hx⟩ : ∃ x, C[i]? = some x := ⟨_, List.getElem?_eq_getElem hlt⟩
                have hdrop : C.drop i = x :: C.drop (i + 1) := by
                  rw [List.drop_eq_getElem_cons hlt]
                  congr 1
                  exact (List.getElem?_eq_some_iff.1 hx).2
                obtain ⟨xo, co, ex, -, -, hget⟩ := cm_get CT.out
                cases ex
                obtain ⟨b, off, ka, kc, rfl, hb, hT, fit, hks, c7⟩ := hget i x hx
                have HD := hide hdrop; have FIT := hide fit; have KS := hide hks; have C7 := hide c7; have HB := hide hb
                have hqr := (Own.row HQ.out).mono (U := fun g => g < wr.heap.size) (fun g hg => (HQL.out g hg).2) fun _ _ _ h => h
                have QR := hide hqr
                clear hx hdrop hget hT fit hks c7 hb hqr
                go_wp2_with fail
                obtain ⟨wx, rfl⟩ : ∃ wx, wx = wr := ⟨_, rfl⟩
                go_loopw [14] (fun sk wr => ∃ k : Nat, k ≤ V.length ∧ sk = .int .i64 k ∧ (∀ (j : Nat) (y : Cm), j < k → V[j]? = some y → y ≠ x) ∧ Upd [] wx wr) (fun sk _ => V.length - (intOf sk).toNat)
                case atStart => exact ⟨0, by omega, rfl, by omega, Upd.refl _ _⟩
                case round =>
                  obtain ⟨k, hk, rfl, hno, hu⟩ := hrel
                  have HNO := hide hno; have HV := hide hu
                  clear hno hu
                  by_cases hkv : k < V.length
                  · have d6 : decide ((k : Int) < V.length) = true := by simp; omega
                    have d6' : decide (k < V.length) = true := by simpa using hkv
                    obtain ⟨y, hy⟩ : ∃ y, V[k]? = some y := ⟨_, List.getElem?_eq_getElem hkv⟩
                    obtain ⟨xq, cq', eq, -, -, hgq⟩ := Row.get (z := 7) (by decide) QR.out
                    cases eq
                    obtain ⟨bq, oq, cs9, rfl, hbq, -, ⟨fq, kq, rfl, hkq⟩, -, hcq⟩ := hgq k y hy
                    obtain ⟨kqa, kqc, rfl, -, -, -⟩ := hkq.get
                    have cq7 : Cells7 wx bq (oq + k * 7) y kqa kqc := ⟨hcq 0 _ rfl, hcq 1 _ rfl, hcq 2 _ rfl, hcq 3 _ rfl, hcq 4 _ rfl, hcq 5 _ rfl, hcq 6 _ rfl⟩
                    have G1 := hide ((cq7.upd HV.out hbq (by simp)).upd ((Upd.refl [] wr).drewN 1) (by have := HV.out.size; omega) (by simp))
                    have G2 := hide ((C7.out.upd (HU.out.trans HV.out) HB.out (by simp)).upd ((Upd.refl [] wr).drewN 1) (by have := HB.out; have := HU.out.size; have := HV.out.size; omega) (by simp))
                    have B1 : Hid (bq < (wr.drewN 1).heap.size) := hide (by have := HV.out.size; show _ < wr.heap.size; omega)
                    have B2 : Hid (b < (wr.drewN 1).heap.size) := hide (by have := HB.out; have := HU.out.size; have := HV.out.size; show _ < wr.heap.size; omega)
                    have FQ := hide fq; have KQ := hide (hkq.upd_nil (HV.out.drewN 1)); have KX := hide (KS.out.upd_nil ((HU.out.trans HV.out).drewN 1)); have HY := hide hy
                    clear hgq fq hkq hcq cq7 hy hbq
                    go_wp2_with fail
                    have H := hide (Upd.refl [] (wr.drewN 1))
                    refine wp_region_seq scOps26 (by kernel_rfl) [13] (Upd [] (wr.drewN 1)) (by kernel_rfl) (by kernel_rfl) (fun _ _ d _ _ h => by cases d <;> exact h) H.out ?_
                    refine wpSeq_take (by kernel_rfl) (by kernel_rfl) ?_
                    apply Exists.intro
                    refine ⟨fun wx hS => ?_, fun a' ha => ?_⟩
                    · go_simp; rfl
                    simp only [Act.put, List.setIfInBounds_toArray, List.set_cons_succ, List.set_cons_zero] at ha
                    subst ha
                    refine wpSeq_take (by kernel_rfl) (by kernel_rfl) ?_
                    apply Exists.intro
                    refine ⟨fun wx hS => ?_, fun a' ha => ?_⟩
                    · go_simp; rfl
                    simp only [Act.put, List.setIfInBounds_toArray, List.set_cons_succ, List.set_cons_zero] at ha
                    subst ha
                    refine wpSeq_take (by kernel_rfl) (by kernel_rfl) ?_
                    apply Exists.intro
                    refine ⟨fun wx hS => ?_, fun a' ha => ?_⟩
                    · go_simp; rfl
                    simp only [Act.put, List.setIfInBounds_toArray, List.set_cons_succ, List.set_cons_zero] at ha
                    subst ha
                    refine wpSeq_take (by kernel_rfl) (by kernel_rfl) ?_
                    apply Exists.intro
                    refine ⟨fun wx hS => ?_, fun a' ha => ?_⟩
                    · go_simp; rfl
                    simp only [Act.put, List.setIfInBounds_toArray, List.set_cons_succ, List.set_cons_zero] at ha
                    subst ha
                    refine wpSeq_take (by kernel_rfl) (by kernel_rfl) ?_
                    apply Exists.intro
                    refine ⟨fun wx hS => ?_, fun a' ha => ?_⟩
                    · go_simp; rfl
                    simp only [Act.put, List.setIfInBounds_toArray, List.set_cons_succ, List.set_cons_zero] at ha
                    subst ha
                    refine wpSeq_take (by kernel_rfl) (by kernel_rfl) ?_
                    apply Exists.intro
                    refine ⟨fun wx hS => ?_, fun a' ha => ?_⟩
                    · go_simp; rfl
                    simp only [Act.put, List.setIfInBounds_toArray, List.set_cons_succ, List.set_cons_zero] at ha
                    subst ha
                    refine wpSeq_take (by kernel_rfl) (by kernel_rfl) ?_
                    apply Exists.intro
                    refine ⟨fun wx hS => ?_, fun a' ha => ?_⟩
                    · go_simp; rfl
                    simp only [Act.put, List.setIfInBounds_toArray, List.set_cons_succ, List.set_cons_zero] at ha
                    subst ha
                    refine wpSeq_take (by kernel_rfl) (by kernel_rfl) ?_
                    apply Exists.intro
                    refine ⟨fun wx hS => ?_, fun a' ha => ?_⟩
                    · go_simp; rfl
                    simp only [Act.put, List.setIfInBounds_toArray, List.set_cons_succ, List.set_cons_zero] at ha
                    subst ha
                    refine wpSeq_take (by kernel_rfl) (by kernel_rfl) ?_
                    apply Exists.intro
                    refine ⟨fun wx hS => ?_, fun a' ha => ?_⟩
                    · obtain ⟨r0, r1, r2, r3, r4, r5, r6⟩ := G1.out.upd hS B1.out (by simp); go_simp; rfl
                    simp only [Act.put, List.setIfInBounds_toArray, List.set_cons_succ, List.set_cons_zero] at ha
                    subst ha
                    refine wpSeq_take (by kernel_rfl) (by kernel_rfl) ?_
                    apply Exists.intro
                    refine ⟨fun wx hS => ?_, fun a' ha => ?_⟩
                    · go_simp; rfl
                    simp only [Act.put, List.setIfInBounds_toArray, List.set_cons_succ, List.set_cons_zero] at ha
                    subst ha
                    refine wpSeq_take (by kernel_rfl) (by kernel_rfl) ?_
                    apply Exists.intro
                    refine ⟨fun wx hS => ?_, fun a' ha => ?_⟩
                    · go_simp; rfl
                    simp only [Act.put, List.setIfInBounds_toArray, List.set_cons_succ, List.set_cons_zero] at ha
                    subst ha
                    refine wpSeq_take (by kernel_rfl) (by kernel_rfl) ?_
                    apply Exists.intro
                    refine ⟨fun wx hS => ?_, fun a' ha => ?_⟩
                    · go_simp; rfl
                    simp only [Act.put, List.setIfInBounds_toArray, List.set_cons_succ, List.set_cons_zero] at ha
                    subst ha
                    refine wpSeq_take (by kernel_rfl) (by kernel_rfl) ?_
                    apply Exists.intro
                    refine ⟨fun wx hS => ?_, fun a' ha => ?_⟩
                    · obtain ⟨r0, r1, r2, r3, r4, r5, r6⟩ := G2.out.upd hS B2.out (by simp); go_simp; rfl
                    simp only [Act.put, List.setIfInBounds_toArray, List.set_cons_succ, List.set_cons_zero] at ha
                    subst ha
                    refine wpSeq_one (by kernel_rfl) (by kernel_rfl) (fun K hK => ?_)
                    go_simp
                    refine (rsame_any (a := y) (b := x) _ ⟨FQ.out, _, rfl, KQ.out⟩ ⟨FIT.out, _, rfl, KX.out⟩).mono ?_
                    rintro e1 w7 ⟨rfl, hd⟩
                    have H7 := hide (H.out.trans hd)
                    have V7 := hide ((HV.out.drewN 1).trans hd)
                    clear hd
                    by_cases hyx : y = x
                    · rw [decide_eq_true hyx]
                      have hyk := HY.out
                      rw [hyx] at hyk
                      have HP := hide (place_some hyk HNO.out)
                      clear hyx hyk
                      refine hK _ _ (H7.out) ?_
                      clear hK K
                      try simp only [Act.put, List.setIfInBounds_toArray, List.set_cons_succ, List.set_cons_zero]
                      refine wpSeq_take (by kernel_rfl) (by kernel_rfl) ?_
                      apply Exists.intro
                      refine ⟨fun wx hS => ?_, fun a' ha => ?_⟩
                      · go_simp; rfl
                      simp only [Act.put, List.setIfInBounds_toArray, List.set_cons_succ, List.set_cons_zero] at ha
                      subst ha
                      refine wpSeq_take (by kernel_rfl) (by kernel_rfl) ?_
                      apply Exists.intro
                      refine ⟨fun wx hS => ?_, fun a' ha => ?_⟩
                      · go_simp; rfl
                      simp only [Act.put, List.setIfInBounds_toArray, List.set_cons_succ, List.set_cons_zero] at ha
                      subst ha
                      unfold wpSeq
                      go_wp2_with fail
                      have s2 := run_cutz_h (P := Tryd.prog) 27 TCmd 7 Tryd.underlying27 sizeC (some ⟨bq, oq, none⟩) V.length cq k (k : Int) rfl (by omega)
                      have s3 := run_cutz_l (P := Tryd.prog) 27 TCmd 7 Tryd.underlying27 sizeC (some ⟨bq, oq, none⟩) V.length cq (k + 1) ((k : Int) + 1) (by omega) (by omega)
                      have hal : Upd [] wx ((w7.drewN 1).alloc (.cells #[] TCmd)) := (V7.out.drewN 1).alloc _
                      have hz8 : ((w7.drewN 1).alloc (.cells #[] TCmd)).heap.size = w7.heap.size + 1 := by simp
                      have hz7 := V7.out.size
                      have hE8 := own_empty (X := Cm) (base := w3.heap.size) (z := 7) (P := cmK.holds ((w7.drewN 1).alloc (.cells #[] TCmd)) (fun k => k < w3.heap.size)) (blk_new (w7.drewN 1) (.cells #[] TCmd)) (by show _ ≤ w7.heap.size; omega)
                      have r8 := Row.cut (lo := 0) (hi := k) (q := cq) (Row.upd QR.out hal (by simp) (fun _ _ _ h => cmK.upd h hal (by simp))) (by omega) (by omega) (by omega) (Nat.le_refl _)
                      rw [cutZ_zero, Nat.sub_zero, Nat.sub_zero, List.drop_zero] at r8
                      obtain ⟨hr8l, kss, hke, -, hks8⟩ := row_src r8
                      have hown8 : ((w7.drewN 1).alloc (.cells #[] TCmd)).ownsRow w3.heap.size TCmd 7 (.slice (some ⟨w7.heap.size, 0, none⟩) 0 0) 0 [] := by
                        obtain ⟨css, h1, -, h3⟩ := hE8
                        cases h1
                        exact h3
                      have hzz8 : w3.heap.size ≤ ((w7.drewN 1).alloc (.cells #[] TCmd)).heap.size := by omega
                      have KS8 := hide hks8; have OWN8 := hide hown8; have KE8 := hide hke; have AL := hide hal
                      clear hal hE8 r8 hke hks8 hown8 hr8l
                      have e7 : IntKind.i64.wrap ((k : Int) + 1) = (k : Int) + 1 := IntWalk.i64_in _ (by omega)
                      refine wp_region_z (fun _ => True) 99 (by kernel_rfl) ?_
                      refine wpAnyZ_takeE 1 rfl (by kernel_rfl) (by kernel_rfl) (by kernel_rfl) (by kernel_rfl) (fun _ _ _ _ h => h) rfl (by exact trivial) ?_
                      apply Exists.intro
                      refine ⟨fun wx hS => ?_, ?_⟩
                      · have s0 := hS; go_simp; rfl
                      simp only [Act.put, List.setIfInBounds_toArray, List.set_cons_succ, List.set_cons_zero, List.getElem_toArray, List.getElem_cons_succ, List.getElem_cons_zero]
                      refine wpAnyZ_takeE 2 rfl (by kernel_rfl) (by kernel_rfl) (by kernel_rfl) (by kernel_rfl) (fun _ _ _ _ h => h) rfl (by exact trivial) ?_
                      apply Exists.intro
                      refine ⟨fun wx hS => ?_, ?_⟩
                      · have s0 := hS; go_simp; rfl
                      simp only [Act.put, List.setIfInBounds_toArray, List.set_cons_succ, List.set_cons_zero, List.getElem_toArray, List.getElem_cons_succ, List.getElem_cons_zero]
                      refine wpAnyZ_takeE 3 rfl (by kernel_rfl) (by kernel_rfl) (by kernel_rfl) (by kernel_rfl) (fun _ _ _ _ h => h) rfl (by exact trivial) ?_
                      apply Exists.intro
                      refine ⟨fun wx hS => ?_, ?_⟩
                      · have s0 := hS; go_simp; rfl
                      simp only [Act.put, List.setIfInBounds_toArray, List.set_cons_succ, List.set_cons_zero, List.getElem_toArray, List.getElem_cons_succ, List.getElem_cons_zero]
                      refine wpAnyZ_takeE 5 rfl (by kernel_rfl) (by kernel_rfl) (by kernel_rfl) (by kernel_rfl) (fun _ _ _ _ h => h) rfl (by exact trivial) ?_
                      apply Exists.intro
                      refine ⟨fun wx hS => ?_, ?_⟩
                      · have s0 := hS; go_simp; rfl
                      simp only [Act.put, List.setIfInBounds_toArray, List.set_cons_succ, List.set_cons_zero, List.getElem_toArray, List.getElem_cons_succ, List.getElem_cons_zero]
                      refine wpAnyZ_takeE 6 rfl (by kernel_rfl) (by kernel_rfl) (by kernel_rfl) (by kernel_rfl) (fun _ _ _ _ h => h) rfl (by exact trivial) ?_
                      apply Exists.intro
                      refine ⟨fun wx hS => ?_, ?_⟩
                      · have s0 := hS; go_simp; rfl
                      simp only [Act.put, List.setIfInBounds_toArray, List.set_cons_succ, List.set_cons_zero, List.getElem_toArray, List.getElem_cons_succ, List.getElem_cons_zero]
                      refine wpAnyZ_takeE 7 rfl (by kernel_rfl) (by kernel_rfl) (by kernel_rfl) (by kernel_rfl) (fun _ _ _ _ h => h) rfl (by exact trivial) ?_
                      apply Exists.intro
                      refine ⟨fun wx hS => ?_, ?_⟩
                      · have s0 := hS; go_simp; rfl
                      simp only [Act.put, List.setIfInBounds_toArray, List.set_cons_succ, List.set_cons_zero, List.getElem_toArray, List.getElem_cons_succ, List.getElem_cons_zero]
                      refine wpAnyZ_takeE 8 rfl (by kernel_rfl) (by kernel_rfl) (by kernel_rfl) (by kernel_rfl) (fun _ _ _ _ h => h) rfl (by exact trivial) ?_
                      apply Exists.intro
                      refine ⟨fun wx hS => ?_, ?_⟩
                      · have s0 := hS; go_simp; rfl
                      simp only [Act.put, List.setIfInBounds_toArray, List.set_cons_succ, List.set_cons_zero, List.getElem_toArray, List.getElem_cons_succ, List.getElem_cons_zero]
                      refine wpAnyZ_one 0 (by kernel_rfl) rfl rfl (fun K hK => ?_)
                      try simp only [List.getElem_toArray, List.getElem_cons_succ, List.getElem_cons_zero]
                      go_simp
                      refine hK _ _ (.inr trivial) ?_
                      clear hK K
                      try simp only [Act.put, List.setIfInBounds_toArray, List.set_cons_succ, List.set_cons_zero]
                      refine wpAnyZ_one 4 (by kernel_rfl) rfl rfl (fun K hK => ?_)
                      try simp only [List.getElem_toArray, List.getElem_cons_succ, List.getElem_cons_zero]
                      refine wp_append_src _ _ _ 27 rfl w3.heap.size TCmd i2 (.agg ZA) 7 80 Tryd.underlying27 hi2 jz0 jz1 jz2 rfl (by decide) (.slice (some ⟨w7.heap.size, 0, none⟩) 0 0) 0 [] rfl OWN8.out (some ⟨bq, oq, none⟩) k cq kss.flatten rfl KS8.out (by unfold maxLen; omega) (by omega) hzz8 ?_
                      intro ao9 cap9 w9 hown9 hU9 hn9
                      have hU9' : Upd [w7.heap.size] ((w7.drewN 1).alloc (.cells #[] TCmd)) w9 := hU9
                      have hx9 : Upd [w7.heap.size] wx w9 := (AL.out.mono (by simp)).trans hU9'
                      have hk9 := KE8.out.mono (Q := cmK.holds w9 (fun k => k < w3.heap.size)) fun y cs _ h => cmK.upd h hU9' (fun g hm => by simp at hm; omega)
                      have r9 := Row.cut (lo := k + 1) (hi := V.length) (q := cq) (Row.upd QR.out hx9 (fun g hm h => by simp at hm; omega) (fun _ _ _ h => cmK.upd h hx9 (fun g hm => by simp at hm; omega))) (by omega) (by omega) (by omega) (Nat.le_refl _)
                      obtain ⟨hr9l, lss, hle, -, hls9⟩ := row_src r9
                      have hv9 : (V.drop (k + 1)).take (V.length - (k + 1)) = V.drop (k + 1) := List.take_of_length_le (by rw [List.length_drop]; omega)
                      rw [hv9] at hle
                      have hown9' : w9.ownsRow w3.heap.size TCmd 7 (.slice ao9 (0 + k) cap9) (0 + k) kss.flatten := by simpa using hown9
                      have hzz9 : w3.heap.size ≤ w9.heap.size := by have := hU9'.size; omega
                      have LS9 := hide hls9; have OWN9 := hide hown9'; have LE9 := hide hle; have KE9 := hide hk9; have X9 := hide hx9; have HU9 := hide hU9'
                      have HN9 : Hid (∀ g, (Value.slice ao9 (0 + k) cap9).ownBlock = some g → w7.heap.size ≤ g) := hide fun g hg => by
                        rcases hn9 g hg with h | h
                        · cases h; exact Nat.le_refl _
                        · exact Nat.le_of_succ_le (Nat.le_trans (Nat.le_of_eq hz8.symm) h)
                      clear r9 hr9l hle hls9 hv9 hown9 hown9' hU9 hU9' hx9 hk9 hn9
                      refine hK _ _ (.inr trivial) ?_
                      clear hK K
                      try simp only [Act.put, List.setIfInBounds_toArray, List.set_cons_succ, List.set_cons_zero]
                      refine wpAnyZ_one 9 (by kernel_rfl) rfl rfl (fun K hK => ?_)
                      try simp only [List.getElem_toArray, List.getElem_cons_succ, List.getElem_cons_zero]
                      refine wp_append_src _ _ _ 27 rfl w3.heap.size TCmd i2 (.agg ZA) 7 80 Tryd.underlying27 hi2 jz0 jz1 jz2 rfl (by decide) (.slice ao9 (0 + k) cap9) (0 + k) kss.flatten rfl OWN9.out (cutZ 7 (some ⟨bq, oq, none⟩) (k + 1) cq) (V.length - (k + 1)) (cq - (k + 1)) lss.flatten rfl LS9.out (by unfold maxLen; omega) (by omega) hzz9 ?_
                      intro ao10 cap10 w10 hown10 hU10 hn10
                      have hS10 : ∀ g ∈ (Value.slice ao9 (0 + k) cap9).ownBlock.toList, w7.heap.size ≤ g := fun g hm => HN9.out g (by simpa using hm)
                      have o10 := own_mores (K := cmK) (T' := fun k => k < w3.heap.size) KE9.out LE9.out hown10 (by simp; omega) hU10 (fun g hm h => by have := hS10 g hm; omega) (fun _ h => h)
                      rw [← erase_eq] at o10
                      have u10 : Upd [] wx w10 := X9.out.trans_new (S := [w7.heap.size]) hU10 (fun g hm => .inr (by have := hS10 g hm; omega)) |>.mono_new (fun g hm => .inr (by simp at hm; omega))
                      obtain ⟨V', hV'⟩ : ∃ V', V.eraseIdx k = V' := ⟨_, rfl⟩
                      have hVl' : V'.length ≤ 100 := by rw [← hV', List.length_eraseIdx]; split <;> omega
                      have hFV : F = O ++ electE k :: (List.replicate (5 * m) takeE ++ electsM m V' (C.drop (i + 1))) := by rw [← hV', ← elects_some HP.out, ← HD.out]; exact FO.out
                      rw [hV'] at o10
                      simp only [Nat.zero_add] at o10
                      obtain ⟨hE1, hE2, hE3⟩ := elect_at hFV
                      obtain ⟨hG1, hG2⟩ := elect_next hFV
                      obtain ⟨O', hO'⟩ : ∃ O', O ++ electE k :: List.replicate (5 * m) takeE = O' := ⟨_, rfl⟩
                      rw [hO'] at hG1 hG2
                      rw [← HCM.out] at hE2 hE3 hG2
                      obtain ⟨b1, o1, t1, p1, q1, r1, rfl, hb1, -, -, hc1⟩ := GS.out _ _ hE1
                      have x0 : w10.cell? ⟨b1, o1 + O.length * 12, none⟩ = some (.int .u8 3) := cell_upd (hc1 0 _ rfl) (HU.out.trans u10) (by simp)
                      have x1 : w10.cell? ⟨b1, o1 + O.length * 12 + 1, none⟩ = some (.int .i64 0) := cell_upd (hc1 1 _ rfl) (HU.out.trans u10) (by simp)
                      have x2 : w10.cell? ⟨b1, o1 + O.length * 12 + 2, none⟩ = some (.int .i64 (k : Int)) := cell_upd (hc1 2 _ rfl) (HU.out.trans u10) (by simp)
                      have O10 := hide o10; have U10 := hide u10; have E3 := hide hE3; have G1 := hide hG1; have G2 := hide hG2
                      have hz10 : w3.heap.size ≤ w10.heap.size := by have := u10.size; omega
                      clear o10 u10 hFV hV' hown10 hU10 hn10 hS10 hE1 hE3 hc1 hG1 hG2 hO' hb1
                      refine hK _ _ (.inr trivial) ?_
                      clear hK K
                      try simp only [Act.put, List.setIfInBounds_toArray, List.set_cons_succ, List.set_cons_zero]
                      refine wpAnyZ_one 10 (by kernel_rfl) rfl rfl (fun K hK => ?_)
                      try simp only [List.getElem_toArray, List.getElem_cons_succ, List.getElem_cons_zero]
                      go_simp
                      refine hK _ _ (.inr trivial) ?_
                      clear hK K
                      try simp only [Act.put, List.setIfInBounds_toArray, List.set_cons_succ, List.set_cons_zero]
                      refine wpAnyZ_done (by kernel_rfl) ?_ _
                      have e8 : IntKind.i64.wrap ((O.length : Int) + (c : Int)) = (O.length : Int) + (c : Int) := IntWalk.i64_in _ (by omega)
                      have d8 : decide ((F.length : Int) ≤ (O.length : Int) + (c : Int)) = false := by simp; omega
                      have d9 : decide (F.length ≤ O.length + c) = false := by simp; omega
                      have q9 : ((k : Int) != (k : Int)) = false := by simp
                      have hOl : O.length < F.length := by omega
                      clear KS8 OWN8 KE8 AL LS9 OWN9 LE9 KE9 X9 HU9 HN9 H7 V7 H QR KQ KX FQ HY HNO HV
                      go_wp2_with fail
                      go_loop [11, 15] (fun sa sj => ∃ j p : Nat, j ≤ c ∧ p = O.length + 1 + j ∧ sj = .int .i64 j ∧ sa = .int .i64 p) (fun _ sj => c - (intOf sj).toNat)
                      case atStart => exact ⟨0, O.length + 1, by omega, by omega, rfl, by go_num⟩
                      case round =>
                        obtain ⟨j, p, hj, hp, rfl, rfl⟩ := hrel
                        have hpl : p ≤ F.length := by omega
                        have HP2 := hide hp
                        clear hp
                        by_cases hjc : j < c
                        · have d6 : decide ((j : Int) < (c : Int)) = true := by simp; omega
                          have d6' : decide (j < c) = true := by simpa using hjc
                          have hFj := E3.out j hjc
                          rw [← HP2.out] at hFj
                          have hpl2 := (List.getElem?_eq_some_iff.1 hFj).1
                          obtain ⟨b2, o2, t2, p2, q2, r2, e9, hb2, -, -, hc2⟩ := GS.out _ _ hFj
                          cases e9
                          have z0 : w10.cell? ⟨b1, o1 + p * 12, none⟩ = some (.int .u8 4) := cell_upd (hc2 0 _ rfl) (HU.out.trans U10.out) (by simp)
                          have z2 : w10.cell? ⟨b1, o1 + p * 12 + 2, none⟩ = some (.int .i64 0) := cell_upd (hc2 2 _ rfl) (HU.out.trans U10.out) (by simp)
                          clear hFj hc2 hb2
                          go_wp2_with fail
                          go_round
                          case rel => exact ⟨j + 1, p + 1, by omega, by have := HP2.out; omega, by go_num, by go_num⟩
                          case measure => simp [intOf]; omega
                        · have d6 : decide ((j : Int) < (c : Int)) = false := by simp; omega
                          have d6' : decide (j < c) = false := by simpa using hjc
                          have hpO : p = O'.length := by rw [G2.out]; have := HP2.out; omega
                          have HPO := hide hpO
                          clear hpO
                          go_wp2_with fail
                          go_roundw
                          case rel => exact ⟨i + 1, V', O', by omega, by go_num, by rw [HPO.out], G1.out, hVl', O10.out, hz10, HU.out.trans U10.out⟩
                          case measure => simp [intOf]; omega
                    · rw [decide_eq_false hyx]
                      have HNE := hide hyx
                      clear hyx
                      refine hK _ _ (H7.out) ?_
                      clear hK K
                      try simp only [Act.put, List.setIfInBounds_toArray, List.set_cons_succ, List.set_cons_zero]
                      refine wpSeq_take (by kernel_rfl) (by kernel_rfl) ?_
                      apply Exists.intro
                      refine ⟨fun wx hS => ?_, fun a' ha => ?_⟩
                      · go_simp; rfl
                      simp only [Act.put, List.setIfInBounds_toArray, List.set_cons_succ, List.set_cons_zero] at ha
                      subst ha
                      refine wpSeq_take (by kernel_rfl) (by kernel_rfl) ?_
                      apply Exists.intro
                      refine ⟨fun wx hS => ?_, fun a' ha => ?_⟩
                      · go_simp; rfl
                      simp only [Act.put, List.setIfInBounds_toArray, List.set_cons_succ, List.set_cons_zero] at ha
                      subst ha
                      unfold wpSeq
                      go_wp2_with fail
                      go_roundw
                      case rel => exact ⟨k + 1, by omega, by go_num, fun j z hj hz => by
                        rcases Nat.lt_or_ge j k with h | h
                        · exact HNO.out j z h hz
                        · rw [show j = k by omega, HY.out] at hz
                          cases hz
                          exact HNE.out, V7.out⟩
                      case measure => simp [intOf]; omega
                  · have d6 : decide ((k : Int) < V.length) = false := by simp; omega
                    have d6' : decide (k < V.length) = false := by simpa using hkv
                    have hkV : k = V.length := by omega
                    have hp := place_none (ws := V) (c := x) fun j y hj => HNO.out j y (by have := (List.getElem?_eq_some_iff.1 hj).1; omega) hj
                    have hFe : F = O := by rw [FO.out, HD.out, elects_none hp, List.append_nil]
                    have hFl : ((O.length : Int) == (F.length : Int)) = true := by rw [hFe]; simp
                    have hFl' : F.length = O.length := by rw [hFe]
                    have HFL := hide hFl'
                    have V9 := hide (HU.out.trans HV.out)
                    clear hFe hp hFl'
                    go_wp2_with fail
                    go_quiet (fail)
                    go_wp2_with fail
                    refine (WK.out _ (C3.out.upd_nil (V9.out.drewN _))).mono ?_
                    rintro e w9 ⟨rfl, hu9⟩
                    have U9 := hide (U3.out.trans ((V9.out.drewN _).trans hu9))
                    clear hu9
                    go_wp2_with fail
                    go_ret
                    exact ⟨rfl, U9.out⟩
              · have d5 : decide ((i : Int) < C.length) = false := by simp; omega
                have d5' : decide (i < C.length) = false := by simpa using hlt
                have hFe : F = O := by rw [FO.out, List.drop_of_length_le (by omega), elects_nil, List.append_nil]
                have hFl : ((O.length : Int) == (F.length : Int)) = true := by rw [hFe]; simp
                have hFl' : F.length = O.length := by rw [hFe]
                clear hFe
                have HFL := hide hFl'
                clear hFl'
                go_wp2_with fail
                refine (WK.out wr (C3.out.upd_nil HU.out)).mono ?_
                rintro e w9 ⟨rfl, hu9⟩
                have U9 := hide (U3.out.trans (HU.out.trans hu9))
                clear hu9
                go_wp2_with fail
                go_ret
                exact ⟨rfl, U9.out⟩
end Go.Proofs.YtloaceaomljeiaaDoor.Tr
