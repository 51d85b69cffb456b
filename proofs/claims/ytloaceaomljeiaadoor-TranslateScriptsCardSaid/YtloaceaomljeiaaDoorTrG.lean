/- translate.Script. -/
import Derived.Test.YtloaceaomljeiaaDoorTrG0
namespace Go.Proofs.YtloaceaomljeiaaDoor.Tr
open Go.RowKit Go.Lib Go.Proofs.YtloaceaomljeiaaDoor.Crc Go.Proofs.YtloaceaomljeiaaDoor.Cm Go.Proofs.YtloaceaomljeiaaDoor.Var

set_option maxRecDepth 100000 in
set_option maxHeartbeats 8000000 in
theorem script_any {n : Nat} {T U : Nat → Prop} {vl vg : Value} {l : List En} {log : List Sl} (w : World) (hn1 : 1 ≤ n) (hn7 : n ≤ 7) (hcnt : CntAt w) (hl : enK.row w T vl l) (hlog : slK.row w U vg log) (hll : l.length ≤ 1000) (hlc : (log.flatMap (·.cmds)).length ≤ 10000)
    (hk1 : ∀ e ∈ l, e.cmd.keys.length * 16 ≤ 140737488355328) (hk2 : ∀ s ∈ log, ∀ c ∈ s.cmds, c.keys.length * 16 ≤ 140737488355328) :
    Calls Tryd.prog 13 #[.int .i64 (n : Int), vl, vg] w fun e w' => (∃ v', e = .returned v' ∧ enK.row w' (since w.heap.size w') v' (scriptM (n - 1) l log)) ∧ Upd [] w w' := by
  have HC := hide hcnt; have HLOG := hide hlog; have HK1 := hide hk1; have HK2 := hide hk2; have HLC := hide hlc
  obtain ⟨xl, cl, rfl, h1, h2, hg⟩ := en_get hl
  obtain ⟨xg, cg, rfl, -, -⟩ := Row.slice hlog
  have HG := hide hg
  simp only [maxLen] at h2
  have d1 : decide ((n : Int) < 1) = false := by simp; omega
  have d2 : decide ((7 : Int) < (n : Int)) = false := by simp; omega
  obtain ⟨i1, hi1, iz0, iz1, iz2⟩ := info_parts infoE
  obtain ⟨i2, hi2, jz0, jz1, jz2⟩ := info_parts infoC
  clear hcnt hl hlog hg hk1 hk2 hlc
  go_enter Tryd.func13, Tryd.ntmps13
  go_wp2_with fail
  go_loopw [7, 8, 24] (fun so sw si wr => ∃ (k : Nat) (L1 : List En) (W : List Cm), k ≤ l.length ∧ si = .int .i64 k ∧ W = subsM (l.take k) ∧ L1 = W.map submitE ∧ Own wr w.heap.size TEn 12 (enK.holds wr (beside2 w.heap.size wr so sw)) so L1 ∧ Own wr w.heap.size TCmd 7 (cmK.holds wr (beside2 w.heap.size wr so sw)) sw W ∧ (∀ g, so.ownBlock = some g → sw.ownBlock ≠ some g) ∧ w.heap.size ≤ wr.heap.size ∧ Upd [] w wr) (fun _ _ si _ => l.length - (intOf si).toNat)
  case atStart => exact ⟨0, [], [], by omega, rfl, rfl, rfl, Own.nil _ _ _ _ _, Own.nil _ _ _ _ _, by simp [Value.ownBlock], Nat.le_refl _, Upd.refl _ _⟩
  case round =>
    obtain ⟨k, L1, W, hk, rfl, hW, hL1, ho, hq, hne, hz, hu⟩ := hrel
    have HW := hide hW; have HL1 := hide hL1; have HO := hide ho; have HQ := hide hq; have HU := hide hu; have HNE := hide hne
    have hol := Own.lt ho
    have hql := Own.lt hq
    have HOL := hide hol; have HQL := hide hql
    have hWl : W.length ≤ 1000 := by rw [hW]; have := subsM_len (l.take k); rw [List.length_take] at this; omega
    have hL1l : L1.length ≤ 1000 := by rw [hL1, List.length_map]; exact hWl
    obtain ⟨ao, ca, rfl, hca1, hca2⟩ := Row.slice (Own.row ho)
    obtain ⟨aq, cq, rfl, hcq1, hcq2⟩ := Row.slice (Own.row hq)
    clear hW hL1 ho hq hu hne hol hql
    by_cases hlt : k < l.length
    · have d5 : decide ((k : Int) < l.length) = true := by simp; omega
      have d5' : decide (k < l.length) = true := by simpa using hlt
      obtain ⟨e, hi⟩ : ∃ e, l[k]? = some e := ⟨_, List.getElem?_eq_getElem hlt⟩
      have hek := HK1.out e (List.mem_of_getElem? hi)
      obtain ⟨b, off, torn, pick, ka, kc, rfl, hb, fit, hks, hcell⟩ := HG.out k e hi
      have cx : ∀ j u, (enc e torn pick (.slice ka e.cmd.keys.length kc))[j]? = some u → wr.cell? ⟨b, off + k * 12 + j, none⟩ = some u := fun j u hj => cell_upd (hcell j u hj) HU.out (by simp)
      have y0 : wr.cell? ⟨b, off + k * 12, none⟩ = some (.int .u8 (e.kind : Int)) := cx 0 _ rfl
      have y1 : wr.cell? ⟨b, off + k * 12 + 1, none⟩ = some (.int .i64 e.r) := cx 1 _ rfl
      have y2 : wr.cell? ⟨b, off + k * 12 + 2, none⟩ = some (.int .i64 e.k) := cx 2 _ rfl
      have y3 : wr.cell? ⟨b, off + k * 12 + 3, none⟩ = some (.int .i64 torn) := cx 3 _ rfl
      have y4 : wr.cell? ⟨b, off + k * 12 + 4, none⟩ = some (.int .u64 pick) := cx 4 _ rfl
      have y5 : wr.cell? ⟨b, off + k * 12 + 5, none⟩ = some (.int .u32 (e.cmd.client : Int)) := cx 5 _ rfl
      have y6 : wr.cell? ⟨b, off + k * 12 + 6, none⟩ = some (.int .u32 (e.cmd.seq : Int)) := cx 6 _ rfl
      have y7 : wr.cell? ⟨b, off + k * 12 + 7, none⟩ = some (.int .u8 (e.cmd.kind : Int)) := cx 7 _ rfl
      have y8 : wr.cell? ⟨b, off + k * 12 + 8, none⟩ = some (.slice ka e.cmd.keys.length kc) := cx 8 _ rfl
      have y9 : wr.cell? ⟨b, off + k * 12 + 9, none⟩ = some (.string (strOf e.cmd.old)) := cx 9 _ rfl
      have y10 : wr.cell? ⟨b, off + k * 12 + 10, none⟩ = some (.string (strOf e.cmd.new)) := cx 10 _ rfl
      have y11 : wr.cell? ⟨b, off + k * 12 + 11, none⟩ = some (.int .i64 e.cmd.n) := cx 11 _ rfl
      have hmore := subsM_more hi
      have KS := hide hks; have FIT := hide fit; have HMO := hide hmore
      clear hi hks fit hcell cx hmore
      by_cases hk1 : e.kind = 1
      · have q1 : ((e.kind : Int) == 1) = true := by simp; omega
        have HKI := hide hk1
        clear hk1
        go_wp2_with fail
        have hB := blk_new wr (.cells #[.int .u8 (e.kind : Int), .int .i64 e.r, .int .i64 e.k, .int .i64 torn, .int .u64 pick, .int .u32 (e.cmd.client : Int), .int .u32 (e.cmd.seq : Int), .int .u8 (e.cmd.kind : Int), .slice ka e.cmd.keys.length kc, .string (strOf e.cmd.old), .string (strOf e.cmd.new), .int .i64 e.cmd.n] TEn)
        have hA := (Upd.refl [] wr).alloc (.cells #[.int .u8 (e.kind : Int), .int .i64 e.r, .int .i64 e.k, .int .i64 torn, .int .u64 pick, .int .u32 (e.cmd.client : Int), .int .u32 (e.cmd.seq : Int), .int .u8 (e.cmd.kind : Int), .slice ka e.cmd.keys.length kc, .string (strOf e.cmd.old), .string (strOf e.cmd.new), .int .i64 e.cmd.n] TEn)
        have hAs : (wr.alloc (.cells #[.int .u8 (e.kind : Int), .int .i64 e.r, .int .i64 e.k, .int .i64 torn, .int .u64 pick, .int .u32 (e.cmd.client : Int), .int .u32 (e.cmd.seq : Int), .int .u8 (e.cmd.kind : Int), .slice ka e.cmd.keys.length kc, .string (strOf e.cmd.old), .string (strOf e.cmd.new), .int .i64 e.cmd.n] TEn)).heap.size = wr.heap.size + 1 := by simp
        generalize wr.alloc (.cells #[.int .u8 (e.kind : Int), .int .i64 e.r, .int .i64 e.k, .int .i64 torn, .int .u64 pick, .int .u32 (e.cmd.client : Int), .int .u32 (e.cmd.seq : Int), .int .u8 (e.cmd.kind : Int), .slice ka e.cmd.keys.length kc, .string (strOf e.cmd.old), .string (strOf e.cmd.new), .int .i64 e.cmd.n] TEn) = w0 at *
        refine (check_any (c := e.cmd) w0 (HC.out.upd_nil (HU.out.trans hA)) ⟨FIT.out, _, rfl, KS.out.upd_nil (HU.out.trans hA)⟩).mono ?_
        rintro e1 w1 ⟨hu1, rfl⟩
        have hA1 := hA.trans hu1
        have hz1 := hA1.size
        have hz01 : wr.heap.size + 1 ≤ w1.heap.size := by have := hu1.size; omega
        have B1 := hide (hu1.get hB (by simp)); have A1 := hide hA1; have U1 := hide (HU.out.trans hA1)
        clear hA hB hu1 hA1 hAs y0 y1 y2 y3 y4 y5 y6 y7 y8 y9 y10 y11
        by_cases hgd : Cm.Good e.cmd
        · have hck : checkM e.cmd = 0 := by unfold checkM; rw [if_pos hgd]
          have hm : W ++ [e.cmd] = subsM (l.take (k + 1)) := by rw [HMO.out, if_pos ⟨HKI.out, hgd⟩, HW.out]
          rw [hck]
          have HM := hide hm
          clear hck hm hgd
          have x0 : w1.cell? ⟨wr.heap.size, 0, none⟩ = some (.int .u8 (e.kind : Int)) := blk_cell B1.out rfl
          have x1 : w1.cell? ⟨wr.heap.size, 1, none⟩ = some (.int .i64 e.r) := blk_cell B1.out rfl
          have x2 : w1.cell? ⟨wr.heap.size, 2, none⟩ = some (.int .i64 e.k) := blk_cell B1.out rfl
          have x3 : w1.cell? ⟨wr.heap.size, 3, none⟩ = some (.int .i64 torn) := blk_cell B1.out rfl
          have x4 : w1.cell? ⟨wr.heap.size, 4, none⟩ = some (.int .u64 pick) := blk_cell B1.out rfl
          have x5 : w1.cell? ⟨wr.heap.size, 5, none⟩ = some (.int .u32 (e.cmd.client : Int)) := blk_cell B1.out rfl
          have x6 : w1.cell? ⟨wr.heap.size, 6, none⟩ = some (.int .u32 (e.cmd.seq : Int)) := blk_cell B1.out rfl
          have x7 : w1.cell? ⟨wr.heap.size, 7, none⟩ = some (.int .u8 (e.cmd.kind : Int)) := blk_cell B1.out rfl
          have x8 : w1.cell? ⟨wr.heap.size, 8, none⟩ = some (.slice ka e.cmd.keys.length kc) := blk_cell B1.out rfl
          have x9 : w1.cell? ⟨wr.heap.size, 9, none⟩ = some (.string (strOf e.cmd.old)) := blk_cell B1.out rfl
          have x10 : w1.cell? ⟨wr.heap.size, 10, none⟩ = some (.string (strOf e.cmd.new)) := blk_cell B1.out rfl
          have x11 : w1.cell? ⟨wr.heap.size, 11, none⟩ = some (.int .i64 e.cmd.n) := blk_cell B1.out rfl
          go_wp2_with fail
          refine (copied_any (c := e.cmd) w1 ⟨FIT.out, _, rfl, KS.out.upd_nil U1.out⟩ hek).mono ?_
          rintro e1 w2 ⟨⟨v', rfl, fit', ks', rfl, hks'⟩, hu2⟩
          obtain ⟨kb, kd, rfl, -, -, -⟩ := hks'.get
          have hz2 := hu2.size
          have A2 := hide (A1.out.trans hu2); have U2 := hide (U1.out.trans hu2); have KS2 := hide hks'
          clear x0 x1 x2 x3 x4 x5 x6 x7 x8 x9 x10 x11 hu2 hks' fit' B1 A1 U1
          unfold cmv
          simp only [strV]
          have hC := blk_new w2 (.cells #[.int .u32 (e.cmd.client : Int), .int .u32 (e.cmd.seq : Int), .int .u8 (e.cmd.kind : Int), .slice kb e.cmd.keys.length kd, .string (strOf e.cmd.old), .string (strOf e.cmd.new), .int .i64 e.cmd.n] TCmd)
          have hal := (Upd.refl [] w2).alloc (.cells #[.int .u32 (e.cmd.client : Int), .int .u32 (e.cmd.seq : Int), .int .u8 (e.cmd.kind : Int), .slice kb e.cmd.keys.length kd, .string (strOf e.cmd.old), .string (strOf e.cmd.new), .int .i64 e.cmd.n] TCmd)
          have hzc : (w2.alloc (.cells #[.int .u32 (e.cmd.client : Int), .int .u32 (e.cmd.seq : Int), .int .u8 (e.cmd.kind : Int), .slice kb e.cmd.keys.length kd, .string (strOf e.cmd.old), .string (strOf e.cmd.new), .int .i64 e.cmd.n] TCmd)).heap.size = w2.heap.size + 1 := by simp
          obtain ⟨w3, hw3⟩ : ∃ w3, w2.alloc (.cells #[.int .u32 (e.cmd.client : Int), .int .u32 (e.cmd.seq : Int), .int .u8 (e.cmd.kind : Int), .slice kb e.cmd.keys.length kd, .string (strOf e.cmd.old), .string (strOf e.cmd.new), .int .i64 e.cmd.n] TCmd) = w3 := ⟨_, rfl⟩
          rw [hw3] at hC hal hzc
          have hC4 := blk_alloc hC (.cells (enc (submitE e.cmd) 0 0 (.slice kb e.cmd.keys.length kd)).toArray TEn)
          have hal4 := (Upd.refl [] w3).alloc (.cells (enc (submitE e.cmd) 0 0 (.slice kb e.cmd.keys.length kd)).toArray TEn)
          have hE4 := blk_new w3 (.cells (enc (submitE e.cmd) 0 0 (.slice kb e.cmd.keys.length kd)).toArray TEn)
          have A4 := hide ((A2.out.trans hal).trans hal4)
          have hkT : ∀ g, since w1.heap.size w2 g → beside2 w.heap.size (w3.alloc (.cells (enc (submitE e.cmd) 0 0 (.slice kb e.cmd.keys.length kd)).toArray TEn)) (.slice ao L1.length ca) (.slice aq W.length cq) g := fun g hg =>
            ⟨by have := hg.1; omega, by have := hg.2; have := hal4.size; omega, fun e => by have := (HOL.out g e).2; have := hg.1; omega, fun e => by have := (HQL.out g e).2; have := hg.1; omega⟩
          have hx1 : enK.holds (w3.alloc (.cells (enc (submitE e.cmd) 0 0 (.slice kb e.cmd.keys.length kd)).toArray TEn)) (beside2 w.heap.size (w3.alloc (.cells (enc (submitE e.cmd) 0 0 (.slice kb e.cmd.keys.length kd)).toArray TEn)) (.slice ao L1.length ca) (.slice aq W.length cq)) (submitE e.cmd) (enc (submitE e.cmd) 0 0 (.slice kb e.cmd.keys.length kd)) :=
            ⟨FIT.out, 0, 0, _, rfl, (KS2.out.upd_nil (hal.trans hal4)).mono hkT⟩
          have ho4 := own_keep HO.out A4.out (by simp) (by simp) (beside2_le A4.out.size)
          have hq4 := own_keep HQ.out A4.out (by simp) (by simp) (beside2_le A4.out.size)
          obtain ⟨css, hcss, -, -, hcl, hrow⟩ := own_open ho4
          have K4 := hide (KS2.out.upd_nil (hal.trans hal4))
          have hz24 := (hal.trans hal4).size
          have HX1 := hide hx1; have HCSS := hide hcss; have HROW := hide hrow; have Q4 := hide hq4; have C4 := hide hC4; have E4 := hide hE4; have U4 := hide ((U2.out.trans hal).trans hal4)
          have hz4 : w.heap.size ≤ (w3.alloc (.cells (enc (submitE e.cmd) 0 0 (.slice kb e.cmd.keys.length kd)).toArray TEn)).heap.size := U4.out.size
          clear hx1 hcss hrow ho4 hq4 hC4 hE4 hal4 hkT HO HQ
          have hzw3 : w3.heap.size = w2.heap.size + 1 := hzc
          clear hC hal hzc
          subst hw3
          go_wp2_with (at_builtin; go_must (refine wpList_append_src _ rfl _ _ 38 rfl w.heap.size TEn i1 (.agg zk.toArray) 12 120 Tryd.underlying38 hi1 iz0 iz1 iz2 rfl (by decide) (.slice ao L1.length ca) L1.length css.flatten rfl HROW.out (some ⟨w2.heap.size + 1, 0, none⟩) 1 1 (enc (submitE e.cmd) 0 0 (.slice kb e.cmd.keys.length kd)) rfl (en_src (by have := E4.out; rw [hzw3] at this; exact this) rfl) (by unfold maxLen; omega) (by omega) hz4 ?_))
          intro ao6 ca6 w6 hown6 hU6 hn6
          obtain ⟨o6, q6, n6⟩ := pair_push HCSS.out (.cons HX1.out .nil) (by simpa [show enK.z = 12 from rfl] using hown6) rfl hU6 (by simpa using hn6) HNE.out Q4.out
          have hC6 := hU6.get C4.out (fun hm => by have := (HOL.out _ (by simpa using hm)).2; omega)
          have hz6 : w2.heap.size + 2 ≤ w6.heap.size := by have := hU6.size; simpa using this
          have hu6 := U4.out.trans_new hU6 (fun g hm => .inr (by have := (HOL.out _ (by simpa using hm)).1; omega))
          have hk6 := K4.out.upd hU6 (fun g hm hs => by have := (HOL.out g (by simpa using hm)).2; have := hs.1; omega)
          have hcl7 : (w6.alloc (.cells (cmc e.cmd (.slice kb e.cmd.keys.length kd)).toArray TCmd)).heap.size = w6.heap.size + 1 := by simp
          have hal7 := (Upd.refl [] w6).alloc (.cells (cmc e.cmd (.slice kb e.cmd.keys.length kd)).toArray TCmd)
          have o7 := own_keep o6 hal7 (by simp) (by simp) (fun g h => beside2_swap (beside2_le hal7.size g h))
          have q7 := own_keep q6 hal7 (by simp) (by simp) (fun g h => beside2_swap (beside2_le hal7.size g h))
          obtain ⟨css7, hcss7, -, -, -, hrow7⟩ := own_open q7
          have hx7 : cmK.holds (w6.alloc (.cells (cmc e.cmd (.slice kb e.cmd.keys.length kd)).toArray TCmd)) (beside2 w.heap.size (w6.alloc (.cells (cmc e.cmd (.slice kb e.cmd.keys.length kd)).toArray TCmd)) (.slice aq W.length cq) (.slice ao6 (L1.length + 1) ca6)) e.cmd (cmc e.cmd (.slice kb e.cmd.keys.length kd)) :=
            ⟨FIT.out, _, rfl, (hk6.upd_nil hal7).mono fun g hg => ⟨by have := hg.1; omega, by have := hg.2; omega, fun e => by have := (HQL.out g e).2; have := hg.1; omega, fun e => by
              rcases hn6 g e with h9 | h9
              · have := (HOL.out g h9).2; have := hg.1; omega
              · have := hg.2; omega⟩⟩
          have HX7 := hide hx7; have HCSS7 := hide hcss7; have HROW7 := hide hrow7; have O7 := hide o7; have N6 := hide n6; have U7 := hide (hu6.trans hal7)
          have y0 : w6.cell? ⟨w2.heap.size, 0, none⟩ = some (.int .u32 (e.cmd.client : Int)) := blk_cell hC6 rfl
          have y1 : w6.cell? ⟨w2.heap.size, 1, none⟩ = some (.int .u32 (e.cmd.seq : Int)) := blk_cell hC6 rfl
          have y2 : w6.cell? ⟨w2.heap.size, 2, none⟩ = some (.int .u8 (e.cmd.kind : Int)) := blk_cell hC6 rfl
          have y3 : w6.cell? ⟨w2.heap.size, 3, none⟩ = some (.slice kb e.cmd.keys.length kd) := blk_cell hC6 rfl
          have y4 : w6.cell? ⟨w2.heap.size, 4, none⟩ = some (.string (strOf e.cmd.old)) := blk_cell hC6 rfl
          have y5 : w6.cell? ⟨w2.heap.size, 5, none⟩ = some (.string (strOf e.cmd.new)) := blk_cell hC6 rfl
          have y6 : w6.cell? ⟨w2.heap.size, 6, none⟩ = some (.int .i64 e.cmd.n) := blk_cell hC6 rfl
          have hz7 : w.heap.size ≤ (w6.alloc (.cells (cmc e.cmd (.slice kb e.cmd.keys.length kd)).toArray TCmd)).heap.size := U7.out.size
          clear o6 q6 n6 hC6 hu6 hk6 hal7 o7 q7 hcss7 hrow7 hx7 hown6 hU6 HX1 HCSS HROW Q4 C4 E4 U4 K4
          go_wp2_with (at_builtin; go_must (refine wpList_append_src _ rfl _ _ 27 rfl w.heap.size TCmd i2 (.agg ZA) 7 80 Tryd.underlying27 hi2 jz0 jz1 jz2 rfl (by decide) (.slice aq W.length cq) W.length css7.flatten rfl HROW7.out (some ⟨w6.heap.size, 0, none⟩) 1 1 (cmc e.cmd (.slice kb e.cmd.keys.length kd)) rfl (cmc_src (blk_new _ _) rfl) (by unfold maxLen; omega) (by omega) hz7 ?_))
          intro aq8 cq8 w8 hown8 hU8 hn8
          obtain ⟨q8, o8, n8⟩ := pair_push HCSS7.out (.cons HX7.out .nil) (by simpa [show cmK.z = 7 from rfl] using hown8) rfl hU8 (by simpa using hn8) (fun g h1 h2 => N6.out g h2 h1) O7.out
          have U8 := U7.out.trans_new hU8 (fun g hm => .inr (by have := (HQL.out _ (by simpa using hm)).1; omega))
          have hz8 : w6.heap.size + 1 ≤ w8.heap.size := by have := hU8.size; simpa using this
          have o9 := own_mono o8 fun g h => beside2_swap h
          have q9 := own_mono q8 fun g h => beside2_swap h
          have O9 := hide o9; have Q9 := hide q9; have N8 := hide n8; have UU := hide U8
          clear o8 q8 n8 U8 o9 q9 hown8 hU8 hn8 HX7 HCSS7 HROW7 O7 U7
          go_wp2_with fail
          go_roundw
          case rel => exact ⟨k + 1, L1 ++ [submitE e.cmd], W ++ [e.cmd], by omega, by go_num, HM.out, by rw [List.map_append, HL1.out]; rfl, O9.out, Q9.out, fun g h1 h2 => N8.out g h2 h1, by omega, UU.out⟩
          case measure => simp [intOf]; omega
        · have hck : checkM e.cmd = 1 := by unfold checkM; rw [if_neg hgd]
          have hm : W = subsM (l.take (k + 1)) := by rw [HMO.out, if_neg (by simp [hgd]), List.append_nil]; exact HW.out
          rw [hck]
          have HM := hide hm
          have o1 := own_keep HO.out A1.out (by simp) (by simp) (beside2_le A1.out.size)
          have q1' := own_keep HQ.out A1.out (by simp) (by simp) (beside2_le A1.out.size)
          have O1 := hide o1; have Q1 := hide q1'
          clear hck hm hgd o1 q1'
          go_wp2_with fail
          go_roundw
          case rel => exact ⟨k + 1, L1, W, by omega, by go_num, HM.out, HL1.out, O1.out, Q1.out, HNE.out, by omega, U1.out⟩
          case measure => simp [intOf]; omega
      · have q1 : ((e.kind : Int) == 1) = false := by simp; omega
        have hm : W = subsM (l.take (k + 1)) := by rw [HMO.out, if_neg (by simp [hk1]), List.append_nil]; exact HW.out
        have HM := hide hm
        clear hm
        go_wp2_with fail
        have hAe := (Upd.refl [] wr).alloc (.cells #[.int .u8 (e.kind : Int), .int .i64 e.r, .int .i64 e.k, .int .i64 torn, .int .u64 pick, .int .u32 (e.cmd.client : Int), .int .u32 (e.cmd.seq : Int), .int .u8 (e.cmd.kind : Int), .slice ka e.cmd.keys.length kc, .string (strOf e.cmd.old), .string (strOf e.cmd.new), .int .i64 e.cmd.n] TEn)
        go_roundw
        case rel => exact ⟨k + 1, L1, W, by omega, by go_num, HM.out, HL1.out, own_keep HO.out hAe (by simp) (by simp) (beside2_le hAe.size), own_keep HQ.out hAe (by simp) (by simp) (beside2_le hAe.size), HNE.out, Nat.le_trans hz hAe.size, HU.out.trans hAe⟩
        case measure => simp [intOf]; omega
    · have d5 : decide ((k : Int) < l.length) = false := by simp; omega
      have d5' : decide (k < l.length) = false := by simpa using hlt
      obtain rfl : k = l.length := by omega
      have hW' : W = subsM l := by rw [HW.out, List.take_length]
      obtain ⟨m, c, hm, hc, e1, e2⟩ : ∃ m c : Nat, n = m + 1 ∧ c = 5 * m ∧ IntKind.i64.wrap ((n : Int) - 1) = (m : Int) ∧ IntKind.i64.wrap (5 * (m : Int)) = (c : Int) := ⟨n - 1, 5 * (n - 1), by omega, rfl, by rw [IntWalk.i64_in _ (by omega)]; omega, by rw [IntWalk.i64_in _ (by omega)]; omega⟩
      have hc30 : c ≤ 30 := by omega
      obtain ⟨C, hC⟩ : ∃ C, log.flatMap (·.cmds) = C := ⟨_, rfl⟩
      have hS : scriptM (n - 1) l log = L1 ++ electsM m W C := by
        unfold scriptM
        rw [hC, HL1.out, hW', show n - 1 = m by omega]
      have hCl : C.length ≤ 10000 := by rw [← hC]; exact HLC.out
      obtain ⟨F, hF⟩ : ∃ F, scriptM (n - 1) l log = F := ⟨_, rfl⟩
      rw [hF] at hS
      have HS := hide hS; have HF := hide hF; have HCD := hide hC; have HCM := hide hc
      clear hm hc hW' hS hC hF
      go_wp2_with fail
      refine (repeat_any (c := c) _ hc30 (blk_new wr _)).mono ?_
      rintro e5 w1 ⟨rfl, hhalf, hu1⟩
      have hAt := (Upd.refl [] wr).alloc (.cells tk.toArray 45)
      have hzt : (wr.alloc (.cells tk.toArray 45)).heap.size = wr.heap.size + 1 := by simp
      have hut : Upd [] wr w1 := hAt.trans hu1
      have hz1 : wr.heap.size + 1 < w1.heap.size := by
        obtain ⟨-, cur, hg, -⟩ := hhalf
        have := blk_lt hg
        omega
      rw [hzt] at hhalf
      have HHALF := hide hhalf; have U1 := hide (HU.out.trans hut)
      have O1 := hide (own_keep HO.out hut (by simp) (by simp) (beside2_le hut.size)); have Q1 := hide (own_keep HQ.out hut (by simp) (by simp) (beside2_le hut.size))
      clear HO HQ hAt hut hhalf hu1 hzt HU
      go_wp2_with fail
      refine (cmds_any (l := log) w1 (slK.row_upd_nil HLOG.out U1.out) (by have := HLC.out; omega) HK2.out).mono ?_
      rintro e6 w2 ⟨⟨vC, rfl, hvC⟩, hu2⟩
      rw [HCD.out] at hvC
      have O2 := hide (own_keep O1.out hu2 (by simp) (by simp) (beside2_le hu2.size)); have Q2 := hide (own_keep Q1.out hu2 (by simp) (by simp) (beside2_le hu2.size))
      have H2 := hide (half_upd HHALF.out hu2 (by simp))
      have U2 := hide (U1.out.trans hu2)
      have hz2 := hu2.size
      obtain ⟨G, hG⟩ : ∃ G, wr.heap.size + 1 = G := ⟨_, rfl⟩
      rw [hG] at hz1 H2 ⊢
      obtain ⟨s0, hs0⟩ : ∃ s0, wr.heap.size = s0 := ⟨_, rfl⟩
      have haw : Away s0 w2.heap.size (.slice ao L1.length ca) := fun g hg => .inl (by have := (HOL.out g hg).2; omega)
      have haw' : Away s0 w2.heap.size (.slice aq W.length cq) := fun g hg => .inl (by have := (HQL.out g hg).2; omega)
      have AW := hide haw; have AW' := hide haw'
      have hb2 : w.heap.size ≤ w2.heap.size := U2.out.size
      have ROW := hide (cmK.row_mono hvC (U := fun g => s0 < g ∧ g < w2.heap.size) (fun g hg => ⟨by have := hg.1; omega, hg.2⟩))
      obtain ⟨xC, cC, rfl, hcC, hcC2⟩ := Row.slice hvC
      simp only [maxLen] at hcC2
      clear hvC hu2 haw haw' O1 Q1 HHALF U1 HOL HQL HLOG HK2 HK1 HG HC HLC HCD HL1 HW
      obtain ⟨wz, rfl⟩ : ∃ wz, wz = wr := ⟨_, rfl⟩
      go_wp2_with fail
      go_loopw [7, 8, 59] (fun so sw si wr => ∃ (k : Nat) (O : List En) (V : List Cm), k ≤ C.length ∧ si = .int .i64 k ∧ O ++ electsM m V (C.drop k) = F ∧ O.length ≤ 1000 + 31 * k ∧ V.length ≤ 1000 ∧ Own wr w.heap.size TEn 12 (enK.holds wr (beside2 w.heap.size wr so sw)) so O ∧ Own wr w.heap.size TCmd 7 (cmK.holds wr (beside2 w.heap.size wr so sw)) sw V ∧ (∀ g, so.ownBlock = some g → sw.ownBlock ≠ some g) ∧ Away s0 w2.heap.size so ∧ Away s0 w2.heap.size sw ∧ w2.heap.size ≤ wr.heap.size ∧ Upd [] w wr ∧ cmK.row wr (fun g => s0 < g ∧ g < w2.heap.size) (.slice xC C.length cC) C ∧ Half wr G c c) (fun _ _ si _ => C.length - (intOf si).toNat)
      case atStart => exact ⟨0, L1, W, by omega, rfl, HS.out.symm, by omega, hWl, O2.out, Q2.out, HNE.out, AW.out, AW'.out, Nat.le_refl _, U2.out, ROW.out, H2.out⟩
      case round =>
        obtain ⟨k, O, V, hk, rfl, hOV, hOl, hVl, ho, hq, hne, ha1, ha2, hz3, hu3, hrow, hh⟩ := hrel
        have HOV := hide hOV; have OO := hide ho; have QQ := hide hq; have NE := hide hne; have A1 := hide ha1; have A2 := hide ha2; have U3 := hide hu3; have R3 := hide hrow; have H3 := hide hh
        have hol := Own.lt ho
        have hql := Own.lt hq
        have HOL := hide hol; have HQL := hide hql
        obtain ⟨ao, ca, rfl, hca1, hca2⟩ := Row.slice (Own.row ho)
        obtain ⟨aq, cq, rfl, hcq1, hcq2⟩ := Row.slice (Own.row hq)
        clear hOV ho hq hne ha1 ha2 hu3 hrow hh hol hql
        by_cases hlt : k < C.length
        · have d5 : decide ((k : Int) < C.length) = true := by simp; omega
          have d5' : decide (k < C.length) = true := by simpa using hlt
          obtain ⟨d, hi⟩ : ∃ d, C[k]? = some d := ⟨_, List.getElem?_eq_getElem hlt⟩
          obtain ⟨xo, co, hx, -, -, hget⟩ := cm_get R3.out
          cases hx
          obtain ⟨b, off, ka, kc, rfl, hb, hT, fit, hks, c7⟩ := hget k d hi
          obtain ⟨y0, y1, y2, y3, y4, y5, y6⟩ := c7
          have hdrop : C.drop k = d :: C.drop (k + 1) := by
            rw [List.drop_eq_getElem_cons hlt]
            congr 1
            exact (List.getElem?_eq_some_iff.1 hi).2
          have HD := hide hdrop; have FIT := hide fit; have KS := hide hks
          clear hi hget hdrop fit hks hT hb
          go_wp2_with fail
          have hA := (Upd.refl [] wr).alloc (.cells #[.int .u32 (d.client : Int), .int .u32 (d.seq : Int), .int .u8 (d.kind : Int), .slice ka d.keys.length kc, .string (strOf d.old), .string (strOf d.new), .int .i64 d.n] TCmd)
          have hB := blk_new wr (.cells #[.int .u32 (d.client : Int), .int .u32 (d.seq : Int), .int .u8 (d.kind : Int), .slice ka d.keys.length kc, .string (strOf d.old), .string (strOf d.new), .int .i64 d.n] TCmd)
          have hq0 := own_row (own_keep QQ.out hA (by simp) (by simp) fun g h => beside2_swap (beside2_le hA.size g h))
          have hidx := idxs_any (c := d) (wr.alloc (.cells #[.int .u32 (d.client : Int), .int .u32 (d.seq : Int), .int .u8 (d.kind : Int), .slice ka d.keys.length kc, .string (strOf d.old), .string (strOf d.new), .int .i64 d.n] TCmd)) hq0 hB FIT.out (KS.out.upd_nil hA)
          refine hidx.mono ?_
          rintro e7 w4 ⟨rfl, hu4⟩
          have hA4 := hA.trans hu4
          have hz4 := hA4.size
          have O4 := hide (own_keep OO.out hA4 (by simp) (by simp) (beside2_le hz4)); have Q4 := hide (own_keep QQ.out hA4 (by simp) (by simp) (beside2_le hz4))
          have U4 := hide (U3.out.trans hA4); have R4 := hide (cmK.row_upd_nil R3.out hA4); have H4 := hide (half_upd H3.out hA4 (by simp))
          clear hA hB hq0 hidx hu4 hA4 OO QQ U3 R3 H3 y0 y1 y2 y3 y4 y5 y6 FIT KS
          cases hp : placeM V d with
          | none =>
            have hp' : List.findIdx? (fun x => decide (x = d)) V = none := hp
            rw [hp']
            have hfin : O = F := by
              have := HOV.out
              rw [HD.out, elects_none hp, List.append_nil] at this
              exact this
            have hres : enK.row w4 (since w.heap.size w4) (.slice ao O.length ca) (scriptM (n - 1) l log) := by
              rw [HF.out, ← hfin]
              exact own_row O4.out
            have HRES := hide hres
            clear hfin hres hp hp'
            simp only [idxI]
            go_wp2_with fail
            go_ret
            exact ⟨⟨_, rfl, HRES.out⟩, U4.out⟩
          | some j =>
            have hj := place_lt hp
            have hp' : List.findIdx? (fun x => decide (x = d)) V = some j := hp
            rw [hp']
            simp only [idxI]
            have q2 : decide ((j : Int) < 0) = false := by simp
            have e3 : IntKind.i64.wrap ((j : Int) + 1) = (j : Int) + 1 := by rw [IntWalk.i64_in _ (by omega)]
            obtain ⟨css, hcss, hcz, hc1, hcl, hrow⟩ := own_open Q4.out
            have hdel := delete_any (base := w.heap.size) (cap := cq) (ao := aq) w4 hcz hc1 (by rw [hcl]; exact hrow) (by rw [hcl]; exact hj)
            rw [hcl] at hdel
            have e4 : ((j + 1 : Nat) : Int) = (j : Int) + 1 := by omega
            rw [e4] at hdel
            have HDEL := hide hdel; have HCSS := hide hcss; have HP := hide hp
            clear hp hp' hdel hcss hcz hc1 hrow
            go_wp2_with fail
            refine HDEL.out.mono ?_
            rintro e8 w5 ⟨rfl, hown5, hu5⟩
            obtain ⟨V', hV⟩ : ∃ V', V.eraseIdx j = V' := ⟨_, rfl⟩
            have hVl' : V'.length ≤ 1000 := by rw [← hV, List.length_eraseIdx]; split <;> omega
            have q5 := own_erase (T' := beside2 w.heap.size w5 (.slice ao O.length ca) (.slice aq (V.length - 1) cq)) HCSS.out hj hown5 hu5 (fun g hm h => h.2.2.2 (by simpa using hm)) (fun g h => ⟨h.1, by have := h.2.1; have := hu5.size; omega, h.2.2.1, by rw [ob_len aq _ V.length]; exact h.2.2.2⟩)
            rw [hV] at q5
            have o5 := own_keep (T' := beside2 w.heap.size w5 (.slice ao O.length ca) (.slice aq (V.length - 1) cq)) O4.out hu5 (fun g hg hm => NE.out g hg (by simpa using hm)) (fun g hm h => h.2.2.2 (by simpa using hm)) (fun g h => ⟨h.1, by have := h.2.1; have := hu5.size; omega, h.2.2.1, by rw [ob_len aq _ V.length]; exact h.2.2.2⟩)
            have u5 := U4.out.trans_new hu5 (fun g hm => .inr (by have := (HQL.out g (by simpa using hm)).1; omega))
            have r5 := cmK.row_upd R4.out hu5 (fun g hm h => by rcases A2.out g (by simpa using hm) with h1 | h1 <;> omega)
            have h5 := half_upd H4.out hu5 (fun hm => by rcases A2.out G (by simpa using hm) with h1 | h1 <;> omega)
            have hz5 := hu5.size
            have hal := (Upd.refl [] w5).alloc (.cells (enc (electE j) 0 0 (.slice none 0 0)).toArray TEn)
            have hE6 := blk_new w5 (.cells (enc (electE j) 0 0 (.slice none 0 0)).toArray TEn)
            have o6 := own_keep o5 hal (by simp) (by simp) (beside2_le hal.size)
            have q6 := own_keep q5 hal (by simp) (by simp) (beside2_le hal.size)
            obtain ⟨css6, hcss6, -, -, -, hrow6⟩ := own_open o6
            have HCSS6 := hide hcss6; have HROW6 := hide hrow6; have Q6 := hide q6; have E6 := hide hE6; have U6 := hide (u5.trans hal); have R6 := hide (cmK.row_upd_nil r5 hal); have H6 := hide (half_upd h5 hal (by simp))
            have HV := hide hV
            have ne6 : ∀ g, (Value.slice ao O.length ca).ownBlock = some g → (Value.slice aq (V.length - 1) cq).ownBlock ≠ some g := fun g hg => by rw [ob_len aq _ V.length]; exact NE.out g hg
            have a6 : Away s0 w2.heap.size (.slice aq (V.length - 1) cq) := fun g hg => A2.out g (by rw [ob_len aq _ (V.length - 1)]; exact hg)
            have NE6 := hide ne6; have A6 := hide a6
            clear ne6 a6
            have hz6 : w.heap.size ≤ (w5.alloc (.cells (enc (electE j) 0 0 (.slice none 0 0)).toArray TEn)).heap.size := U6.out.size
            have hz56 := hal.size
            clear hV q5 o5 u5 r5 h5 hal hE6 o6 q6 hcss6 hrow6 hown5 hu5 O4 Q4 U4 R4 H4 HDEL HCSS
            go_wp2_with (at_builtin; go_must (refine wpList_append_src _ rfl _ _ 38 rfl w.heap.size TEn i1 (.agg zk.toArray) 12 120 Tryd.underlying38 hi1 iz0 iz1 iz2 rfl (by decide) (.slice ao O.length ca) O.length css6.flatten rfl HROW6.out (some ⟨w5.heap.size, 0, none⟩) 1 1 (enc (electE j) 0 0 (.slice none 0 0)) rfl (en_src E6.out rfl) (by unfold maxLen; omega) (by omega) hz6 ?_))
            intro ao7 ca7 w7 hown7 hU7 hn7
            obtain ⟨o7, q7, n7⟩ := pair_push HCSS6.out (.cons ⟨zero_fits, 0, 0, _, rfl, Strs.nil _ _⟩ .nil) (by simpa [show enK.z = 12 from rfl] using hown7) rfl hU7 (by simpa using hn7) NE6.out Q6.out
            have hz7 : w5.heap.size + 1 ≤ w7.heap.size := by have := hU7.size; simpa using this
            have u7 := U6.out.trans_new hU7 (fun g hm => .inr (by have := (HOL.out g (by simpa using hm)).1; omega))
            have r7 := cmK.row_upd R6.out hU7 (fun g hm h => by rcases A1.out g (by simpa using hm) with h1 | h1 <;> omega)
            have h7 := half_upd H6.out hU7 (fun hm => by rcases A1.out G (by simpa using hm) with h1 | h1 <;> omega)
            have a7 : Away s0 w2.heap.size (.slice ao7 (O.length + 1) ca7) := A1.out.push hn7 (by omega)
            obtain ⟨css7, hcss7, -, -, -, hrow7⟩ := own_open o7
            rw [List.length_append] at hrow7
            have hl7 := Own.lt o7
            have HCSS7 := hide hcss7; have HROW7 : Hid (w7.ownsRow w.heap.size TEn 12 (.slice ao7 (O.length + 1) ca7) (O.length + 1) css7.flatten) := hide hrow7
            have Q7 := hide q7; have N7 := hide n7; have U7 := hide u7; have R7 := hide r7; have H7 := hide h7; have A7 := hide a7; have HL7 := hide hl7
            have hz8 : w.heap.size ≤ w7.heap.size := U7.out.size
            clear o7 q7 n7 u7 r7 h7 a7 hcss7 hrow7 hown7 hU7 hn7 HCSS6 HROW6 Q6 E6 U6 R6 H6 hl7
            go_wp2_with (at_builtin; go_must (refine wpList_append_src _ rfl _ _ 38 rfl w.heap.size TEn i1 (.agg zk.toArray) 12 120 Tryd.underlying38 hi1 iz0 iz1 iz2 rfl (by decide) (.slice ao7 (O.length + 1) ca7) (O.length + 1) css7.flatten rfl HROW7.out (some ⟨G, 0, none⟩) c c (List.replicate c tk).flatten rfl (half_src H7.out) (by unfold maxLen; omega) (by omega) hz8 ?_))
            intro ao8 ca8 w8 hown8 hU8 hn8
            obtain ⟨o8, q8, n8⟩ := pair_push HCSS7.out (takes_each _ _ c) hown8 (by simp) hU8 hn8 N7.out Q7.out
            have hz9 : w7.heap.size ≤ w8.heap.size := hU8.size
            have u8 := U7.out.trans_new hU8 (fun g hm => .inr (by have := (HL7.out g (by simpa using hm)).1; omega))
            have r8 := cmK.row_upd R7.out hU8 (fun g hm h => by rcases A7.out g (by simpa using hm) with h1 | h1 <;> omega)
            have h8 := half_upd H7.out hU8 (fun hm => by rcases A7.out G (by simpa using hm) with h1 | h1 <;> omega)
            have a8 : Away s0 w2.heap.size (.slice ao8 (O.length + 1 + c) ca8) := A7.out.push hn8 (by omega)
            have hfin : (O ++ [electE j] ++ List.replicate c takeE) ++ electsM m V' (C.drop (k + 1)) = F := by
              have := HOV.out
              rw [HD.out, elects_some HP.out, HV.out, ← HCM.out] at this
              rw [← this]
              simp
            have O8 := hide o8; have Q8 := hide q8; have N8 := hide n8; have U8 := hide u8; have R8 := hide r8; have H8 := hide h8; have A8 := hide a8; have FIN := hide hfin
            clear o8 q8 n8 u8 r8 h8 a8 hfin hown8 hU8 hn8 HCSS7 HROW7 Q7 N7 U7 R7 H7 A7 HOV HD
            go_wp2_with fail
            go_roundw
            case rel => exact ⟨k + 1, O ++ [electE j] ++ List.replicate c takeE, V', by omega, by go_num, FIN.out, by simp; omega, hVl', O8.out, Q8.out, N8.out, A8.out, A6.out, by omega, U8.out, R8.out, H8.out⟩
            case measure => simp [intOf]; omega
        · have d5 : decide ((k : Int) < C.length) = false := by simp; omega
          have d5' : decide (k < C.length) = false := by simpa using hlt
          have hfin : O = F := by
            have := HOV.out
            rw [List.drop_eq_nil_of_le (by omega), electsM, List.append_nil] at this
            exact this
          have hres : enK.row wr (since w.heap.size wr) (.slice ao O.length ca) (scriptM (n - 1) l log) := by
            rw [HF.out, ← hfin]
            exact own_row OO.out
          have HRES := hide hres
          clear hfin hres
          go_wp2_with fail
          go_ret
          exact ⟨⟨_, rfl, HRES.out⟩, U3.out⟩
/-- A script of no replica, or of too many. -/
theorem script_bad {vl vg : Value} {n : Int} (w : World) (hn : n < 1 ∨ 7 < n) :
    Calls Tryd.prog 13 #[.int .i64 n, vl, vg] w fun e w' => e = .returned (.slice none 0 0) ∧ Upd [] w w' := by
  by_cases h1 : n < 1
  · have d1 : decide (n < 1) = true := by simpa using h1
    go_enter Tryd.func13, Tryd.ntmps13
    go_wp2_with fail
    go_ret
    exact ⟨rfl, Upd.refl _ _⟩
  · have d1 : decide (n < 1) = false := by simpa using h1
    have d2 : decide (7 < n) = true := by simpa using (by omega : 7 < n)
    go_enter Tryd.func13, Tryd.ntmps13
    go_wp2_with fail
    go_ret
    exact ⟨rfl, Upd.refl _ _⟩
end Go.Proofs.YtloaceaomljeiaaDoor.Tr
