/- The law TranslateLogs: its walk, out of what wakes says. -/
import Derived.Test.YtloaceaomljeiaaDoorLwM
import Derived.Test.YtloaceaomljeiaaDoorTrL
import Derived.Test.YtloaceaomljeiaaDoorTrX
import Derived.Test.YtloaceaomljeiaaDoorTrA
import Derived.Test.YtloaceaomljeiaaDoorTrG0
namespace Go.Proofs.YtloaceaomljeiaaDoor.Tr
open Go.RowKit Go.Lib Go.Proofs.YtloaceaomljeiaaDoor.Crc Go.Proofs.YtloaceaomljeiaaDoor.Cm Go.Proofs.YtloaceaomljeiaaDoor.Var

/-- What wakes says. -/
def WakesSays : Prop := ∀ w : World, CntAt w → Calls Tryd.prog 6 #[] w fun e w' => e = .returned (.bool true) ∧ Upd [] w w'
set_option maxRecDepth 100000 in
set_option maxHeartbeats 8000000 in
theorem logs_any (wakes : WakesSays) {v : Value} {told : List Td} (w : World) (hcnt : CntAt w) (h : tdK.row w (fun k => k < w.heap.size) v told) :
    Calls Tryd.prog 3 #[v] w fun e w' => e = .returned (.bool true) ∧ Upd [] w w' := by
  obtain ⟨xt, ct, rfl, -, -⟩ := Row.slice h
  have HC := hide hcnt; have HT := hide h; have WK := hide wakes
  obtain ⟨i2, hi2, jz0, jz1, jz2⟩ := info_parts infoC
  obtain ⟨i3, hi3, kz0, kz1, kz2⟩ := info_parts infoA
  clear hcnt h wakes
  go_enter Tryd.func3, Tryd.ntmps3
  go_wp2_with fail
  refine (great_any w HT.out).mono ?_
  rintro e w1 ⟨hg, rfl⟩
  rcases hg with rfl | ⟨rfl, hs⟩
  · go_wp2_with fail
    refine (WK.out w HC.out).mono ?_
    rintro e w1 ⟨rfl, hu⟩
    go_wp2_with fail
    go_ret
    exact ⟨rfl, hu⟩
  · have SM := hide hs
    clear hs
    go_wp2_with fail
    refine (log_any w HC.out HT.out (fun t ht => by have := SM.out.2 t ht; exact ⟨by omega, by omega, fun d hd => by have := this.2.2 d hd; omega⟩) (by have := SM.out.all; omega)).mono ?_
    rintro e w1 ⟨⟨vl, out, rfl, hlog, hrl⟩, hu1⟩
    have LOK := hide (SM.out.ok hlog); have LOG := hide hlog; have U1 := hide hu1
    have hol := (SM.out.ok hlog).len
    obtain ⟨xl, cl, rfl, hlc, hlm, hget⟩ := Row.get slK.hz hrl
    have ROW := hide hrl; have GET := hide hget
    simp only [maxLen] at hlm
    have C1 := hide (HC.out.upd_nil hu1); have T1 := hide (tdK.row_upd_nil HT.out hu1)
    clear hlog hrl hget hu1 HT
    go_wp2_with fail
    go_loopw [4, 5, 6] (fun sc sa si wr => ∃ (k : Nat) (C : List Cm) (S : List An), k ≤ out.length ∧ si = .int .i64 k ∧ C = (out.take k).flatMap (·.cmds) ∧ S = (out.take k).flatMap (·.ans) ∧ Own wr w1.heap.size TCmd 7 (cmK.holds wr (beside2 w1.heap.size wr sc sa)) sc C ∧ Own wr w1.heap.size 62 4 (anK.holds wr (beside2 w1.heap.size wr sc sa)) sa S ∧ (∀ g, sc.ownBlock = some g → sa.ownBlock ≠ some g) ∧ w1.heap.size ≤ wr.heap.size ∧ Upd [] w1 wr) (fun _ _ si _ => out.length - (intOf si).toNat)
    case atStart => exact ⟨0, [], [], by omega, rfl, rfl, rfl, Own.nil _ _ _ _ _, Own.nil _ _ _ _ _, by simp [Value.ownBlock], Nat.le_refl _, Upd.refl _ _⟩
    case round =>
      obtain ⟨k, C, S, hk, rfl, hC, hSS, ho, hq, hne, hz, hu⟩ := hrel
      have CC := hide hC; have SS := hide hSS; have HO := hide ho; have HQ := hide hq; have HNE := hide hne; have HU := hide hu
      have hol1 := Own.lt ho
      have hql := Own.lt hq
      have HOL := hide hol1; have HQL := hide hql
      have hCl : C.length ≤ 9600 := by rw [hC]; exact (LOK.out.take k).1
      have hSl : S.length ≤ 9600 := by rw [hSS]; exact (LOK.out.take k).2
      obtain ⟨ao, ca, rfl, hca1, hca2⟩ := Row.slice (Own.row ho)
      obtain ⟨aq, cq, rfl, hcq1, hcq2⟩ := Row.slice (Own.row hq)
      clear hC hSS ho hq hne hu hol1 hql
      have e1 : IntKind.u64.wrap (k : Int) = (k : Int) := IntWalk.u64_in _ (by omega)
      have e2 : IntKind.u64.wrap ((k : Int) + 1) = ((k + 1 : Nat) : Int) := by rw [IntWalk.u64_in _ (by omega)]; omega
      have hfst := first_any (slot := k + 1) wr (C1.out.upd_nil HU.out) (tdK.row_upd_nil T1.out HU.out) (fun t ht => by have := SM.out.2 t ht; exact ⟨by omega, fun d hd => by have := this.2.2 d hd; omega⟩)
      have e3 : ((k + 1 : Nat) : Int) = (k : Int) + 1 := by omega
      rw [e3] at hfst
      have HF := hide hfst
      clear hfst
      go_wp2_with fail
      refine HF.out.mono ?_
      rintro e w2 ⟨hf, hu2⟩
      have u2' := HU.out.trans hu2
      have hz2 := hu2.size
      have o2 := own_keep HO.out hu2 (by simp) (by simp) (beside2_le hz2)
      have q2 := own_keep HQ.out hu2 (by simp) (by simp) (beside2_le hz2)
      have O2 := hide o2; have Q2 := hide q2; have U2 := hide u2'
      clear o2 q2 u2' HF
      rcases hf with ⟨hno, rfl⟩ | ⟨x, vc, va, hsome, rfl, hvc, hva⟩
      · have hkn := LOG.out.at_none hk hno
        have d6 : decide ((k : Int) < (out.length : Int)) = false := by simp; omega
        have d6' : decide (k < out.length) = false := by simp; omega
        clear hno
        go_wp2_with fail
        refine (cmds_any w2 (slK.row_upd_nil ROW.out U2.out) (by have := (LOK.out.take out.length).1; rw [List.take_length] at this; omega) LOK.out.good).mono ?_
        rintro e w3 ⟨⟨v3, rfl, h3⟩, hu3⟩
        have hCC : C = out.flatMap (·.cmds) := by rw [CC.out, hkn, List.take_length]
        rw [← hCC] at h3
        obtain ⟨x3, c3, rfl, -, -⟩ := Row.slice h3
        have hSS : S = out.flatMap (·.ans) := by rw [SS.out, hkn, List.take_length]
        have hrC := own_row (own_keep O2.out hu3 (by simp) (by simp) (beside2_le hu3.size))
        have q3 := own_keep Q2.out hu3 (by simp) (by simp) (beside2_le hu3.size)
        have HKN := hide hkn; have U3 := hide (U2.out.trans hu3); have RC := hide hrC; have Q3 := hide q3; have V3 := hide h3; have HSS := hide hSS
        clear hu3 hrC q3 h3 hCC hSS hkn
        go_wp2_with fail
        refine (all_any w3 V3.out RC.out).mono ?_
        rintro e w4 ⟨rfl, hu4⟩
        rw [decide_eq_true rfl]
        have U4 := hide (U3.out.trans hu4)
        have q4 := own_keep Q3.out hu4 (by simp) (by simp) (beside2_le hu4.size)
        have Q4 := hide q4
        clear hu4 q4
        go_wp2_with fail
        refine (answers_any w4 (slK.row_upd_nil ROW.out U4.out) (by have := (LOK.out.take out.length).2; rw [List.take_length] at this; omega)).mono ?_
        rintro e w5 ⟨⟨v5, rfl, h5⟩, hu5⟩
        rw [← HSS.out] at h5
        obtain ⟨x5, c5, rfl, -, -⟩ := Row.slice h5
        have q5 := own_row (own_keep (T' := beside2 w1.heap.size w5 (.slice ao C.length ca) (.slice aq S.length cq)) Q4.out hu5 (by simp) (by simp) (beside2_le hu5.size))
        have U5 := hide (U4.out.trans hu5); have RS := hide q5; have V5 := hide h5
        clear hu5 q5 h5
        go_wp2_with fail
        refine (ansame_any w5 V5.out RS.out).mono ?_
        rintro e w6 ⟨rfl, hu6⟩
        rw [decide_eq_true rfl]
        have U6 := hide (U5.out.trans hu6)
        clear hu6
        go_wp2_with fail
        refine (WK.out w6 (C1.out.upd_nil U6.out)).mono ?_
        rintro e w7 ⟨rfl, hu7⟩
        have U7 := hide (U1.out.trans (U6.out.trans hu7))
        clear hu7
        go_wp2_with fail
        go_ret
        exact ⟨rfl, U7.out⟩
      · obtain ⟨hi, hlt⟩ := LOG.out.at_some hk hsome
        have d6 : decide ((k : Int) < (out.length : Int)) = true := by simp; omega
        have d6' : decide (k < out.length) = true := by simpa using hlt
        obtain ⟨b, off, cs, rfl, hb, hTb, ⟨hslot, vd, ve, rfl, hvd, hve⟩, -, hcell⟩ := GET.out k x hi
        have hxc := LOK.out.cmds x (List.mem_of_getElem? hi)
        have hxa := LOK.out.ans x (List.mem_of_getElem? hi)
        obtain ⟨da, dc, rfl, -, -⟩ := Row.slice hvd
        obtain ⟨ea, ec, rfl, -, -⟩ := Row.slice hve
        obtain ⟨fa, fc, rfl, hf1, hf2⟩ := Row.slice hvc
        obtain ⟨ga, gc, rfl, hg1, hg2⟩ := Row.slice hva
        have cx : ∀ j u, ([Value.int .u64 (x.slot : Int), .slice da x.cmds.length dc, .slice ea x.ans.length ec] : List Value)[j]? = some u → w2.cell? ⟨b, off + k * 3 + j, none⟩ = some u := fun j u hj => cell_upd (hcell j u hj) U2.out (by simp)
        have y0 : w2.cell? ⟨b, off + k * 3, none⟩ = some (.int .u64 (x.slot : Int)) := cx 0 _ rfl
        have y1 : w2.cell? ⟨b, off + k * 3 + 1, none⟩ = some (.slice da x.cmds.length dc) := cx 1 _ rfl
        have y2 : w2.cell? ⟨b, off + k * 3 + 2, none⟩ = some (.slice ea x.ans.length ec) := cx 2 _ rfl
        have hxs : x.slot = k + 1 := findM_slot hsome
        rw [hxs] at y0 cx
        have q7 : (((k + 1 : Nat) : Int) != (k : Int) + 1) = false := by simp
        have HI := hide hi; have VC := hide hvc; have VA := hide hva; have VD := hide hvd; have VE := hide hve; have CX := hide cx
        clear hi hsome hvc hva hvd hve hcell cx
        go_wp2_with fail
        refine (all_any w2 (cmK.row_upd_nil VD.out U2.out) VC.out).mono ?_
        rintro e w3 ⟨rfl, hu3⟩
        rw [decide_eq_true rfl]
        have y2' := cell_upd y2 hu3 (by simp)
        have U3 := hide (U2.out.trans hu3); have V23 := hide hu3
        clear hu3 y0 y1 y2
        go_wp2_with fail
        refine (ansame_any w3 (anK.row_upd_nil VE.out U3.out) (anK.row_upd_nil VA.out V23.out)).mono ?_
        rintro e w4 ⟨rfl, hu4⟩
        rw [decide_eq_true rfl]
        have V24 := hide (V23.out.trans hu4)
        have U4 := hide (U3.out.trans hu4)
        have o4 := own_keep O2.out V24.out (by simp) (by simp) (beside2_le V24.out.size)
        have q4 := own_keep Q2.out V24.out (by simp) (by simp) (beside2_le V24.out.size)
        have hC4 := cmK.row_upd_nil VC.out V24.out
        obtain ⟨css, hcss, -, -, hcl, hrow⟩ := own_open o4
        obtain ⟨yo, yc, kss, ey, -, -, hke, hkz, hks, -⟩ := Row.src hC4
        cases ey
        have hz4 := V24.out.size
        have hke1 : Each (cmK.holds w4 (beside2 w1.heap.size w4 (.slice ao C.length ca) (.slice aq S.length cq))) x.cmds kss := hke.mono fun _ _ _ h => cmK.mono h fun g hg =>
          ⟨by have := hg.1; omega, by have := hg.2; omega, fun e => by have := (HOL.out g e).2; have := hg.1; omega, fun e => by have := (HQL.out g e).2; have := hg.1; omega⟩
        have HCSS := hide hcss; have HROW := hide hrow; have HKE := hide hke1; have HKS := hide hks; have Q4 := hide q4
        have hzw4 : w1.heap.size ≤ w4.heap.size := by omega
        clear hu4 o4 q4 hC4 hcss hrow hke hke1 hkz hks y2'
        go_wp2_with (at_builtin; go_must (refine wpList_append_src _ rfl _ _ 27 rfl w1.heap.size TCmd i2 (.agg ZA) 7 80 Tryd.underlying27 hi2 jz0 jz1 jz2 rfl (by decide) (.slice ao C.length ca) C.length css.flatten rfl HROW.out fa x.cmds.length fc kss.flatten rfl HKS.out (by unfold maxLen; omega) (by omega) hzw4 ?_))
        intro ao6 ca6 w6 hown6 hU6 hn6
        obtain ⟨o6, q6, n6⟩ := pair_push HCSS.out HKE.out hown6 rfl hU6 hn6 HNE.out Q4.out
        have hz6 := hU6.size
        have u6 := U4.out.trans_new hU6 (fun g hm => .inr (by have := (HOL.out _ (by simpa using hm)).1; omega))
        have q6' := own_mono q6 fun g h => beside2_swap h
        have o6' := own_mono o6 fun g h => beside2_swap h
        obtain ⟨css7, hcss7, -, -, -, hrow7⟩ := own_open q6'
        have hTlt : w.heap.size ≤ w1.heap.size := U1.out.size
        have hV6 : anK.row w6 (fun k => k < w.heap.size) (.slice ga x.ans.length gc) x.ans := anK.row_upd (anK.row_upd_nil VA.out V24.out) hU6 (fun g hm h => by have := (HOL.out _ (by simpa using hm)).1; omega)
        obtain ⟨zo, zc, kst, ez, -, -, hke6, hkz6, hks6, -⟩ := Row.src hV6
        cases ez
        have hke7 : Each (anK.holds w6 (beside2 w1.heap.size w6 (.slice aq S.length cq) (.slice ao6 (C.length + x.cmds.length) ca6))) x.ans kst := hke6.mono fun _ _ _ h => h
        have HCSS7 := hide hcss7; have HROW7 := hide hrow7; have HKE7 := hide hke7; have HKS7 := hide hks6; have O7 := hide o6'; have N6 := hide n6; have U6 := hide u6
        have hcm := flat_more (·.cmds) HI.out
        have ham := flat_more (·.ans) HI.out
        rw [← CC.out] at hcm
        rw [← SS.out] at ham
        have CM := hide hcm; have AM := hide ham
        have hzw6 : w1.heap.size ≤ w6.heap.size := by omega
        clear hcss7 hrow7 hke6 hke7 hkz6 hks6 o6 o6' q6 q6' n6 u6 hown6 hU6 hV6 HCSS HROW HKE HKS Q4 hcm ham hn6
        go_wp2_with (at_builtin; go_must (refine wpList_append_src _ rfl _ _ 28 rfl w1.heap.size 62 i3 (.agg #[.int .u32 0, .int .u32 0, .int .u8 0, .string ByteArray.empty]) 4 32 Tryd.underlying28 hi3 kz0 kz1 kz2 rfl (by decide) (.slice aq S.length cq) S.length css7.flatten rfl HROW7.out ga x.ans.length gc kst.flatten rfl HKS7.out (by unfold maxLen; omega) (by omega) hzw6 ?_))
        intro aq8 cq8 w8 hown8 hU8 hn8
        obtain ⟨q8, o8, n8⟩ := pair_push HCSS7.out HKE7.out hown8 rfl hU8 hn8 (fun g h1 h2 => N6.out g h2 h1) O7.out
        have hz8 := hU8.size
        have u8 := U6.out.trans_new hU8 (fun g hm => .inr (by have := (HQL.out _ (by simpa using hm)).1; omega))
        obtain ⟨C', hC'⟩ : ∃ C', C ++ x.cmds = C' := ⟨_, rfl⟩
        obtain ⟨S', hS'⟩ : ∃ S', S ++ x.ans = S' := ⟨_, rfl⟩
        rw [hC'] at o8
        rw [hS'] at q8
        have hCM : C' = (out.take (k + 1)).flatMap (·.cmds) := by rw [← hC']; exact CM.out
        have hAM : S' = (out.take (k + 1)).flatMap (·.ans) := by rw [← hS']; exact AM.out
        have Q8 := hide (own_mono q8 fun g h => beside2_swap h); have O8 := hide (own_mono o8 fun g h => beside2_swap h); have N8 := hide n8; have U8 := hide u8; have CM2 := hide hCM; have AM2 := hide hAM
        have hz18 : w1.heap.size ≤ w8.heap.size := by omega
        clear q8 o8 n8 u8 hown8 hU8 hn8 hC' hS' hCM hAM HCSS7 HROW7 HKE7 HKS7 O7 U6 CM AM
        go_wp2_with fail
        go_roundw
        case rel => exact ⟨k + 1, C', S', by omega, by go_num, CM2.out, AM2.out, O8.out, Q8.out, fun g h1 h2 => N8.out g h2 h1, hz18, U8.out⟩
        case measure => simp [intOf]; omega
end Go.Proofs.YtloaceaomljeiaaDoor.Tr
