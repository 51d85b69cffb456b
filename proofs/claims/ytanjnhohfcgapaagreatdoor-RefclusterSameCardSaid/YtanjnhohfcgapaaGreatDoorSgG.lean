/- single.know. (Its appends printed by sgg.py.) -/
import Derived.Test.YtanjnhohfcgapaaGreatDoorSgEHI
import Derived.Test.YtanjnhohfcgapaaGreatDoorSgFX
import Derived.Test.YtanjnhohfcgapaaGreatDoorKvU
set_option linter.unusedSimpArgs false
set_option linter.unusedVariables false
set_option linter.unnecessarySimpa false
namespace Go.Proofs.YtanjnhohfcgapaaGreatDoor.Sg
open Go.RowKit Go.Proofs.YtanjnhohfcgapaaGreatDoor.Crc Go.Proofs.YtanjnhohfcgapaaGreatDoor.Cm Go.Proofs.YtanjnhohfcgapaaGreatDoor.Tr Go.Proofs.YtanjnhohfcgapaaGreatDoor.Kv Go.Proofs.YtanjnhohfcgapaaGreatDoor.Au
set_option linter.unusedSimpArgs false
set_option linter.unusedVariables false

theorem anc_src {w : World} {b : Nat} {a : An} {t : TypeId} (h : w.heap[b]? = some (.cells (anc a).toArray t (0, 0))) : SrcAt w (some ⟨b, 0, none⟩) 1 1 (anc a) 4 := by
  refine ⟨rfl, ?_, by simp, fun q e j u hj => ?_⟩
  · intro u hu
    simp only [anc, strV, List.mem_cons, List.not_mem_nil, or_false] at hu
    rcases hu with rfl | rfl | rfl | rfl <;> rfl
  · cases e
    rw [add_plain]
    simp only [World.cell?, h]
    simpa using hj
set_option maxRecDepth 100000 in
set_option maxHeartbeats 8000000 in
theorem know_any {T0 M0 : Nat → Prop} {z p L : Nat} {x : Sg} {o : Ou} {G0 : Gh} {c : Cm} {ks : Value} (w0 : World) (h : XAt w0 T0 M0 z p x o G0) (he : EnvM w0 M0) (hk : Ky w0 T0 ks c) (hx : SgOk L x) (hL : L ≤ 10000) (hc : Sm c) (hz : z ≤ w0.heap.size) (hd : o.done.length ≤ 100000) (ha : o.ans.length ≤ 100000) :
    Calls Tryz.prog 105 #[.pointer (some ⟨p, 0, none⟩), cmv c ks] w0 fun e w' => e = .returned (.tuple #[]) ∧ Aft z p w0 T0 M0 (knowM c (x, o)) w' := by
  obtain ⟨self, n, log, ap, promise, seen, vote, waits, asks⟩ := x
  obtain ⟨send, ans, done⟩ := o
  obtain ⟨xk, ck, rfl⟩ := hk.slice
  have X0 := hide h; have K0 := hide hk; have ENV := hide he; have HX := hide hx; have HC := hide hc
  have hl1 := hx.len; have hl2 := hx.waits
  simp only at hd ha hl1 hl2
  clear h hk he hx hc
  unfold cmv
  simp only [strV]
  go_enter Tryz.func105, Tryz.ntmps105
  go_upto_region 1 with fail
  have hB := blk_new w0 (.cells (cmc c (.slice xk c.keys.length ck)).toArray Cm.TCmd)
  have hal := (Upd.refl [] w0).alloc (.cells (cmc c (.slice xk c.keys.length ck)).toArray Cm.TCmd)
  change Code.wp _ _ _ _ (w0.alloc (.cells (cmc c (.slice xk c.keys.length ck)).toArray Cm.TCmd))
  generalize w0.alloc (.cells (cmc c (.slice xk c.keys.length ck)).toArray Cm.TCmd) = w1 at *
  obtain ⟨B, hBn⟩ : ∃ B, w0.heap.size = B := ⟨_, rfl⟩
  have N1 : Hid (¬ M0 B ∧ ¬ T0 B) := hide (by rw [← hBn]; exact X0.out.2.apt.new (Nat.le_refl _))
  have HBN := hide hBn
  rw [hBn] at hB hz ⊢
  have X1 := hide (X0.out.upd_nil hal); have E1 := hide (Ext.of_nil hal T0 M0); have K1 := hide (K0.out.upd hal (by simp)); have B1 := hide hB
  have hz1 := hal.size
  rw [hBn] at hz1
  clear hB hal hBn K0
  obtain ⟨T1, hT1⟩ : ∃ T', T0 = T' := ⟨_, rfl⟩
  obtain ⟨M1, hM1⟩ : ∃ T', M0 = T' := ⟨_, rfl⟩
  obtain ⟨G1, hG1⟩ : ∃ T', G0 = T' := ⟨_, rfl⟩
  have E1' : Hid (Ext w0 T0 M0 w1 T1 M1) := hide (by rw [← hT1, ← hM1]; exact E1.out)
  rw [hT1, hM1] at N1
  rw [hT1] at K1
  rw [hT1, hM1, hG1] at X1
  clear E1 hT1 hM1 hG1
  have E1 := E1'
  clear E1'
  go_upto_region 1 with fail
  obtain ⟨css, ao, cap, hv, he, hb, hown, hc1, hc2⟩ := X1.out.log_open
  have HV := hide hv; have HEE := hide he; have HBB := hide hb; have OW := hide hown
  simp only [maxLen] at hc2
  obtain ⟨i1, hi1, iz0, iz1, iz2⟩ := info_parts infoC
  have s0 : (w1.drewN 1).heap[p]? = some (.cells (sgc ⟨self, n, log, ap, promise, seen, vote, waits, asks⟩ G1) TSg (0, 0)) ∧ (w1.drewN 1).heap[B]? = some (.cells (cmc c (.slice xk c.keys.length ck)).toArray Cm.TCmd (0, 0)) := ⟨X1.out.1, B1.out⟩
  clear hv he hb hown
  refine wp_region_z (fun wx => wx.heap[p]? = some (.cells (sgc ⟨self, n, log, ap, promise, seen, vote, waits, asks⟩ G1) TSg (0, 0)) ∧ wx.heap[B]? = some (.cells (cmc c (.slice xk c.keys.length ck)).toArray Cm.TCmd (0, 0))) 11 (by kernel_rfl) ?_
  refine zE 0 rfl (by kernel_rfl) (fun _ _ _ _ h => h) rfl (by exact s0) ?_
  apply Exists.intro
  refine ⟨fun wx hS => ?_, ?_⟩
  · go_simp; rfl
  simp only [Act.put, List.setIfInBounds_toArray, List.set_cons_succ, List.set_cons_zero, List.getElem_toArray, List.getElem_cons_zero]
  refine zE 1 rfl (by kernel_rfl) (fun _ _ _ _ h => h) rfl (by exact s0) ?_
  apply Exists.intro
  refine ⟨fun wx hS => ?_, ?_⟩
  · go_simp; rfl
  simp only [Act.put, zz1, zz2, zz3, zz4, zz5, zz6]
  refine zE 2 rfl (by kernel_rfl) (fun _ _ _ _ h => h) rfl (by exact s0) ?_
  apply Exists.intro
  refine ⟨fun wx hS => ?_, ?_⟩
  · go_simp; rfl
  simp only [Act.put, zz1, zz2, zz3, zz4, zz5, zz6]
  refine zE 3 rfl (by kernel_rfl) (fun _ _ _ _ h => h) rfl (by exact s0) ?_
  apply Exists.intro
  refine ⟨fun wx hS => ?_, ?_⟩
  · go_simp; rfl
  simp only [Act.put, zz1, zz2, zz3, zz4, zz5, zz6]
  refine zE 4 rfl (by kernel_rfl) (fun _ _ _ _ h => h) rfl (by exact s0) ?_
  apply Exists.intro
  refine ⟨fun wx hS => ?_, ?_⟩
  · have c0 : wx.cell? ⟨p, 2, none⟩ = some (.slice ao log.length cap) := (by rw [← HV.out] ; exact blk_cell hS.1 rfl); go_simp; rfl
  simp only [Act.put, zz1, zz2, zz3, zz4, zz5, zz6]
  refine zE 5 rfl (by kernel_rfl) (fun _ _ _ _ h => h) rfl (by exact s0) ?_
  apply Exists.intro
  refine ⟨fun wx hS => ?_, ?_⟩
  · obtain ⟨y0, y1, y2, y3, y4, y5, y6⟩ := cmc_cells hS.2; go_simp; rfl
  simp only [Act.put, zz1, zz2, zz3, zz4, zz5, zz6]
  refine wpAnyZ_one 6 (by kernel_rfl) rfl rfl (fun K hK => ?_)
  try simp only [List.getElem_toArray, List.getElem_cons_succ, List.getElem_cons_zero]
  go_simp
  refine (copied_any (c := c) (w1.drewN 1) (K1.out.upd ((Upd.refl [] w1).drewN 1) (by simp)).at (by have := HC.out.2; omega)).mono ?_
  rintro e wa ⟨⟨ks', rfl, hk'⟩, hua⟩
  obtain ⟨xl, cl, rfl⟩ := hk'.slice
  have hud : Upd [] w1 wa := ((Upd.refl [] w1).drewN 1).trans hua
  have XA := hide (show XAt wa (Sg.fresh w1 wa T1) M1 z p ⟨self, n, log, ap, promise, seen, vote, waits, asks⟩ ⟨send, ans, done⟩ G1 from ⟨hud.get X1.out.1 (by simp), X1.out.2.fresh hud⟩)
  have EA := hide (E1.out.trans (Ext.fresh hud T1 M1)); have BA := hide (hud.get B1.out (by simp)); have KA := hide ((K1.out.upd hud (by simp)).mono (U := Sg.fresh w1 wa T1) fun k hk => .inl hk)
  have KN := hide (hk'.mono (U := Sg.fresh w1 wa T1) fun k hk => .inr hk)
  have NA : Hid (¬ M1 B ∧ ¬ Sg.fresh w1 wa T1 B) := hide ⟨N1.out.1, fun h => by
    rcases h with h | h
    · exact N1.out.2 h
    · have := h.1; have := blk_lt B1.out; omega⟩
  have OWA := hide (owns_upd OW.out hud (by simp)); have EEA := hide (HEE.out.mono (Q := Tr.cmK.holds wa (Sg.fresh w1 wa T1)) fun y cs _ hy => Tr.cmK.mono (Tr.cmK.upd hy hud (by simp)) fun k hk => .inl hk)
  generalize Sg.fresh w1 wa T1 = TA at *
  have hza := EA.out.size
  clear hua hud hk' s0 OW HEE X1 E1 K1 N1
  have sa : wa.heap[p]? = some (.cells (sgc ⟨self, n, log, ap, promise, seen, vote, waits, asks⟩ G1) TSg (0, 0)) ∧ wa.heap[B]? = some (.cells (cmc c (.slice xk c.keys.length ck)).toArray Cm.TCmd (0, 0)) := ⟨XA.out.1, BA.out⟩
  clear B1
  unfold cmv
  simp only [strV]
  refine hK _ _ (.inr sa) ?_
  clear hK K
  try simp only [Act.put, zz1, zz2, zz3]
  refine wpAnyZ_one 7 (by kernel_rfl) rfl rfl (fun K hK => ?_)
  try simp only [List.getElem_toArray, List.getElem_cons_succ, List.getElem_cons_zero]
  go_simp
  have hBN := blk_new wa (.cells (cmc c (.slice xl c.keys.length cl)).toArray Cm.TCmd)
  have halb := (Upd.refl [] wa).alloc (.cells (cmc c (.slice xl c.keys.length cl)).toArray Cm.TCmd)
  change K _ (wa.alloc (.cells (cmc c (.slice xl c.keys.length cl)).toArray Cm.TCmd))
  obtain ⟨wb, hwb⟩ : ∃ wb, wa.alloc (.cells (cmc c (.slice xl c.keys.length cl)).toArray Cm.TCmd) = wb := ⟨_, rfl⟩
  rw [hwb] at hBN halb ⊢
  obtain ⟨Q, hQ⟩ : ∃ Q, wa.heap.size = Q := ⟨_, rfl⟩
  rw [hQ] at hBN ⊢
  have XB := hide (XA.out.upd_nil halb); have EB := hide (EA.out.on halb (by simp)); have BB := hide (halb.get BA.out (by simp)); have KB := hide (KA.out.upd halb (by simp)); have KNB := hide (KN.out.upd halb (by simp))
  have OWB := hide (owns_upd OWA.out halb (by simp)); have EEB := hide (EEA.out.mono (Q := Tr.cmK.holds wb TA) fun y cs _ hy => Tr.cmK.upd hy halb (by simp))
  have SR := hide (cmc_src hBN rfl)
  have hzb := halb.size
  have sb : wb.heap[p]? = some (.cells (sgc ⟨self, n, log, ap, promise, seen, vote, waits, asks⟩ G1) TSg (0, 0)) ∧ wb.heap[B]? = some (.cells (cmc c (.slice xk c.keys.length ck)).toArray Cm.TCmd (0, 0)) := ⟨XB.out.1, BB.out⟩
  clear hwb hBN halb hQ XA EA BA KA KN OWA EEA sa
  refine hK _ _ (.inr sb) ?_
  clear hK K
  try simp only [Act.put, zz1, zz2, zz3]
  refine wpAnyZ_one 8 (by kernel_rfl) rfl rfl (fun K hK => ?_)
  try simp only [List.getElem_toArray, List.getElem_cons_succ, List.getElem_cons_zero]
  refine wp_append_src _ _ _ 31 rfl 0 Cm.TCmd i1 (.agg ZA) 7 80 Tryz.underlying31 hi1 iz0 iz1 iz2 rfl (by decide) (.slice ao log.length cap) log.length css.flatten rfl (by exact OWB.out) (some ⟨Q, 0, none⟩) 1 1 (cmc c (.slice xl c.keys.length cl)) rfl (by exact SR.out) (by unfold maxLen; omega) (by omega) (by have := HBN.out; omega) ?_
  intro ao6 cap6 wc hown6 hU6 hn6
  have HM := hide (XB.out.log_more (c := c) HV.out EEB.out HBB.out ⟨HC.out.1, _, rfl, KNB.out.2⟩ hown6 hU6 hn6)
  have far : ∀ k ∈ (Value.slice ao log.length cap).ownBlock.toList, M1 k ∧ ¬ TA k := fun k hk => by
    have h5 := XB.out.2.nm.inM 1 k (by rw [show G1.names p = [some p, G1.lv.ownBlock, G1.wv.ownBlock, G1.sv.ownBlock, G1.av.ownBlock, G1.dv.ownBlock, G1.ab, G1.gb] from rfl]; simp only [List.getElem?_cons_succ, List.getElem?_cons_zero]; rw [HV.out]; simpa using hk)
    exact ⟨h5.1, fun ht => XB.out.2.apt.apart k ht h5.1⟩
  have BC := hide (hU6.get BB.out fun hk => NA.out.1 (far B hk).1); have KC := hide (KB.out.upd hU6 fun k hk => (far k hk).2)
  have sc : wc.heap[p]? = some (.cells (sgc ⟨self, n, log, ap, promise, seen, vote, waits, asks⟩ G1) TSg (0, 0)) ∧ wc.heap[B]? = some (.cells (cmc c (.slice xk c.keys.length ck)).toArray Cm.TCmd (0, 0)) := ⟨HM.out.1.1, BC.out⟩
  have pB : p ≠ B := fun e => NA.out.1 (e ▸ XB.out.2.pM)
  have y4 : wc.cell? ⟨p, 2, none⟩ = some (.slice ao log.length cap) := by rw [← HV.out]; exact blk_cell sc.1 rfl
  have f4 : wc.frozen? ⟨p, 2, none⟩ = false := blk_free sc.1
  have BLT := hide (blk_lt BB.out)
  clear hown6 hU6 hn6 far sb BB KB KNB OWB EEB SR HBB XB
  refine hK _ _ (.inr sc) ?_
  clear hK K
  try simp only [Act.put, zz1, zz2, zz3]
  refine wpAnyZ_one 9 (by kernel_rfl) rfl rfl (fun K hK => ?_)
  try simp only [List.getElem_toArray, List.getElem_cons_succ, List.getElem_cons_zero]
  go_simp
  refine hK _ _ (.inr sc) ?_
  clear hK K
  try simp only [Act.put, zz1, zz2, zz3]
  refine wpAnyZ_one 10 (by kernel_rfl) rfl rfl (fun K hK => ?_)
  try simp only [List.getElem_toArray, List.getElem_cons_succ, List.getElem_cons_zero]
  go_simp
  refine hK _ _ (.inr sc) ?_
  clear hK K
  try simp only [Act.put, zz1, zz2, zz3]
  refine wpAnyZ_one 11 (by kernel_rfl) rfl rfl (fun K hK => ?_)
  try simp only [List.getElem_toArray, List.getElem_cons_succ, List.getElem_cons_zero]
  go_simp
  refine hK _ _ (.inl rfl) ?_
  clear hK K
  try simp only [Act.put, zz1, zz2, zz3]
  clear f4 y4 sc
  refine wpAnyZ_done (by kernel_rfl) ?_ _

  have uz : Upd [p] wc (wc.setCell ⟨p, 2, none⟩ (.slice ao6 (log.length + 1) cap6)) := (Upd.refl [p] wc).setCell (p := ⟨p, 2, none⟩) (.inl (by simp)) _
  have X2 := hide HM.out.2.1; have E2 := hide (EB.out.trans HM.out.2.2)
  have B2 := hide (uz.get BC.out (by simp; exact fun e => pB e.symm))
  have K2 := hide (KC.out.upd uz fun k hk => by simp at hk; subst hk; exact fun h => X2.out.2.apt.apart _ h X2.out.2.pM)
  have N2 := hide (HM.out.2.2.not BLT.out NA.out)
  clear HM uz EB BC KC NA pB HV BLT hc1 hc2
  try clear hza hzb
  generalize wc.setCell ⟨p, 2, none⟩ (.slice ao6 (log.length + 1) cap6) = w2 at *
  generalize plus M1 (Value.slice ao6 (log.length + 1) cap6).ownBlock = M2 at *
  obtain ⟨G2, hG2⟩ : ∃ G', { G1 with lv := .slice ao6 (log.length + 1) cap6 } = G' := ⟨_, rfl⟩
  rw [hG2] at X2
  obtain ⟨T2, hT2⟩ : ∃ T', TA = T' := ⟨_, rfl⟩
  rw [hT2] at X2 E2 K2 N2
  clear hG2 hT2
  try clear i1 hi1 iz0 iz1 iz2
  go_upto_region 2 with fail
  have ENV2 := hide (E2.out.envM ENV.out)
  obtain ⟨r, hr⟩ : ∃ r, apDo ap c = r := ⟨_, rfl⟩
  obtain ⟨a2, ⟨code, txt⟩, bb⟩ := r
  have HR := hide hr
  have hdo := ado_any (T := T2) (v := cmv c (.slice xk c.keys.length ck)) (c := c) (lo := G2.lo) (hi := G2.hi) (p := G2.ap) (i := L) (a := ap)
  have HDO := hide (fun w he hap => hdo w he hap HX.out.app hL)
  clear hdo hr
  go_cut [4, 5] (fun s4 s5 wx => ∃ R, s4 = .pointer (some ⟨R, 0, none⟩) ∧ wx.heap[R]? = some (.cells #[.int .u8 (code : Int), .string (strOf txt)] TRp (0, 0)) ∧ (¬ M2 R ∧ ¬ T2 R) ∧ XAt wx T2 M2 z p ⟨self, n, log ++ [c], a2, promise, seen, vote, waits, asks⟩ ⟨send, ans, done⟩ G2 ∧ Ext w0 T0 M0 wx T2 M2 ∧ wx.heap[B]? = some (.cells (cmc c (.slice xk c.keys.length ck)).toArray Cm.TCmd (0, 0)) ∧ Ky wx T2 (.slice xk c.keys.length ck) c)
  case first =>
    as_aux_lemma =>
    have s0 : (w2.drewN 1).heap[p]? = some (.cells (sgc ⟨self, n, log ++ [c], ap, promise, seen, vote, waits, asks⟩ G2) TSg (0, 0)) ∧ (w2.drewN 1).heap[B]? = some (.cells (cmc c (.slice xk c.keys.length ck)).toArray Cm.TCmd (0, 0)) := ⟨X2.out.1, B2.out⟩
    refine wp_region_z (fun wx => wx.heap[p]? = some (.cells (sgc ⟨self, n, log ++ [c], ap, promise, seen, vote, waits, asks⟩ G2) TSg (0, 0)) ∧ wx.heap[B]? = some (.cells (cmc c (.slice xk c.keys.length ck)).toArray Cm.TCmd (0, 0))) 11 (by kernel_rfl) ?_
    refine zE 0 rfl (by kernel_rfl) (fun _ _ _ _ h => h) rfl (by exact s0) ?_
    apply Exists.intro
    refine ⟨fun wx hS => ?_, ?_⟩
    · go_simp; rfl
    simp only [Act.put, List.setIfInBounds_toArray, List.set_cons_succ, List.set_cons_zero, List.getElem_toArray, List.getElem_cons_zero]
    refine zE 1 rfl (by kernel_rfl) (fun _ _ _ _ h => h) rfl (by exact s0) ?_
    apply Exists.intro
    refine ⟨fun wx hS => ?_, ?_⟩
    · go_simp; rfl
    simp only [Act.put, zz1, zz2, zz3, zz4, zz5, zz6]
    refine zE 2 rfl (by kernel_rfl) (fun _ _ _ _ h => h) rfl (by exact s0) ?_
    apply Exists.intro
    refine ⟨fun wx hS => ?_, ?_⟩
    · go_simp; rfl
    simp only [Act.put, zz1, zz2, zz3, zz4, zz5, zz6]
    refine zE 3 rfl (by kernel_rfl) (fun _ _ _ _ h => h) rfl (by exact s0) ?_
    apply Exists.intro
    refine ⟨fun wx hS => ?_, ?_⟩
    · have c0 : wx.cell? ⟨p, 3, none⟩ = some (.pointer (some ⟨G2.ap, 0, none⟩)) := blk_cell hS.1 rfl; go_simp; rfl
    simp only [Act.put, zz1, zz2, zz3, zz4, zz5, zz6]
    refine zE 4 rfl (by kernel_rfl) (fun _ _ _ _ h => h) rfl (by exact s0) ?_
    apply Exists.intro
    refine ⟨fun wx hS => ?_, ?_⟩
    · obtain ⟨y0, y1, y2, y3, y4, y5, y6⟩ := cmc_cells hS.2; go_simp; rfl
    simp only [Act.put, zz1, zz2, zz3, zz4, zz5, zz6]
    have ud : Upd [] w2 (w2.drewN 1) := (Upd.refl [] w2).drewN 1
    refine wpAnyZ_two 5 9 (by kernel_rfl) rfl rfl rfl rfl (fun K hK => ?_) (fun K hK => ?_)
    · try simp only [List.getElem_toArray, List.getElem_cons_succ, List.getElem_cons_zero]
      go_simp
      have hd1 := HDO.out (w2.drewN 1) (ENV2.out.upd_nil ud).1 (X2.out.upd_nil ud).2.app (K2.out.upd ud (by simp)).at
      rw [HR.out] at hd1
      refine hd1.mono ?_
      rintro e w3 ⟨rfl, hap, htu⟩
      simp only [rpv]
      obtain ⟨t1, t2, t3, t4⟩ := (X2.out.upd_nil ud).turned htu hap
      have X3 := hide t1; have E3 := hide ((E2.out.on ud (by simp)).trans t2); have B3 := hide (t3 B N2.out.1 _ (ud.get B2.out (by simp))); have K3 := hide (t4 _ _ (K2.out.upd ud (by simp)))
      have s3 : w3.heap[p]? = some (.cells (sgc ⟨self, n, log ++ [c], ap, promise, seen, vote, waits, asks⟩ G2) TSg (0, 0)) ∧ w3.heap[B]? = some (.cells (cmc c (.slice xk c.keys.length ck)).toArray Cm.TCmd (0, 0)) := ⟨t1.1, B3.out⟩
      clear hd1 hap htu t1 t2 t3 t4 s0 ud
      refine hK _ _ (.inr s3) ?_
      clear hK K
      try simp only [Act.put, zz1, zz2, zz3]
      refine zE 6 rfl (by kernel_rfl) (fun _ _ _ _ h => h) rfl (by exact s3) ?_
      apply Exists.intro
      refine ⟨fun wx hS => ?_, ?_⟩
      · go_simp; rfl
      simp only [Act.put, zz1, zz2, zz3, zz4, zz5, zz6]
      refine zE 7 rfl (by kernel_rfl) (fun _ _ _ _ h => h) rfl (by exact s3) ?_
      apply Exists.intro
      refine ⟨fun wx hS => ?_, ?_⟩
      · go_simp; rfl
      simp only [Act.put, zz1, zz2, zz3, zz4, zz5, zz6]
      refine zE 8 rfl (by kernel_rfl) (fun _ _ _ _ h => h) rfl (by exact s3) ?_
      apply Exists.intro
      refine ⟨fun wx hS => ?_, ?_⟩
      · go_simp; rfl
      simp only [Act.put, zz1, zz2, zz3, zz4, zz5, zz6]
      refine wpAnyZ_one 9 (by kernel_rfl) rfl rfl (fun K hK => ?_)
      try simp only [List.getElem_toArray, List.getElem_cons_succ, List.getElem_cons_zero]
      go_simp
      have hN := blk_new w3 (.cells #[.int .u8 0, .string ⟨#[]⟩] TRp)
      have hal := (Upd.refl [] w3).alloc (.cells #[.int .u8 0, .string ⟨#[]⟩] TRp)
      change K _ (w3.alloc (.cells #[.int .u8 0, .string ⟨#[]⟩] TRp))
      have NR : Hid (¬ M2 w3.heap.size ∧ ¬ T2 w3.heap.size) := hide (X3.out.2.apt.new (Nat.le_refl _))
      obtain ⟨w4, hw4⟩ : ∃ w4, w3.alloc (.cells #[.int .u8 0, .string ⟨#[]⟩] TRp) = w4 := ⟨_, rfl⟩
      rw [hw4] at hN hal ⊢
      have X4 := hide (X3.out.upd_nil hal); have E4 := hide (E3.out.on hal (by simp)); have B4 := hide (hal.get B3.out (by simp)); have K4 := hide (K3.out.upd hal (by simp))
      have hpl := blk_lt X3.out.1; have hBl := blk_lt B3.out
      have HSZ := hide (show w0.heap.size ≤ w3.heap.size from E3.out.size)
      obtain ⟨R, hR⟩ : ∃ R, w3.heap.size = R := ⟨_, rfl⟩
      rw [hR] at hN NR hpl hBl HSZ ⊢
      clear hw4 hal hR X3 E3 B3 K3 s3
      have s4 : w4.heap[p]? = some (.cells (sgc ⟨self, n, log ++ [c], ap, promise, seen, vote, waits, asks⟩ G2) TSg (0, 0)) ∧ w4.heap[B]? = some (.cells (cmc c (.slice xk c.keys.length ck)).toArray Cm.TCmd (0, 0)) := ⟨X4.out.1, B4.out⟩
      refine hK _ _ (.inr s4) ?_
      clear hK K
      try simp only [Act.put, zz1, zz2, zz3]
      have r0 : w4.cell? ⟨R, 0, none⟩ = some (.int .u8 0) := blk_cell hN rfl
      have r1 : w4.cell? ⟨R, 1, none⟩ = some (.string ⟨#[]⟩) := blk_cell hN rfl
      have rf : ∀ i, w4.frozen? ⟨R, i, none⟩ = false := fun i => blk_free hN
      refine wpAnyZ_one 10 (by kernel_rfl) rfl rfl (fun K hK => ?_)
      try simp only [List.getElem_toArray, List.getElem_cons_succ, List.getElem_cons_zero]
      go_simp
      have us : Upd [R] w4 ((w4.setCell ⟨R, 0, none⟩ (.int .u8 (code : Int))).setCell ⟨R, 1, none⟩ (.string (strOf txt))) := ((Upd.refl [R] w4).setCell (p := ⟨R, 0, none⟩) (.inl (by simp)) _).setCell (p := ⟨R, 1, none⟩) (.inl (by simp)) _
      have hR5 := set2 hN (v0 := .int .u8 (code : Int)) (v1 := .string (strOf txt))
      have nr : ∀ k ∈ [R], ¬ M2 k ∧ ¬ T2 k := fun k hk => by simp at hk; subst hk; exact NR.out
      have X5 := hide (show XAt _ T2 M2 z p ⟨self, n, log ++ [c], a2, promise, seen, vote, waits, asks⟩ ⟨send, ans, done⟩ G2 from ⟨us.get X4.out.1 (by simp; omega), X4.out.2.shift us fun k hk => .inr (nr k hk)⟩)
      have E5 := hide (E4.out.on us fun k hk => by simp at hk; subst hk; exact .inr HSZ.out)
      have B5 := hide (us.get B4.out (by simp; omega)); have K5 := hide (K4.out.upd us fun k hk => (nr k hk).2)
      have s5 := (show _ ∧ _ from ⟨X5.out.1, B5.out⟩)
      clear us nr r0 r1 rf
      refine hK _ _ (.inr s5) ?_
      clear hK K
      try simp only [Act.put, zz1, zz2, zz3]
      refine wpAnyZ_one 11 (by kernel_rfl) rfl rfl (fun K hK => ?_)
      try simp only [List.getElem_toArray, List.getElem_cons_succ, List.getElem_cons_zero]
      go_simp
      refine hK _ _ (.inl rfl) ?_
      clear hK K
      try simp only [Act.put, zz1, zz2, zz3]
      refine wpAnyZ_done (by kernel_rfl) ?_ _
      go_wp2_with fail
      go_meet
      exact ⟨R, rfl, hR5, NR.out, X5.out, E5.out, B5.out, K5.out⟩
    · try simp only [List.getElem_toArray, List.getElem_cons_succ, List.getElem_cons_zero]
      go_simp
      have hN := blk_new (w2.drewN 1) (.cells #[.int .u8 0, .string ⟨#[]⟩] TRp)
      have hal := ud.alloc (.cells #[.int .u8 0, .string ⟨#[]⟩] TRp)
      change K _ ((w2.drewN 1).alloc (.cells #[.int .u8 0, .string ⟨#[]⟩] TRp))
      have NR : Hid (¬ M2 (w2.drewN 1).heap.size ∧ ¬ T2 (w2.drewN 1).heap.size) := hide (X2.out.2.apt.new (Nat.le_refl _))
      obtain ⟨w3, hw3⟩ : ∃ w3, (w2.drewN 1).alloc (.cells #[.int .u8 0, .string ⟨#[]⟩] TRp) = w3 := ⟨_, rfl⟩
      rw [hw3] at hN hal ⊢
      have X3 := hide (X2.out.upd_nil hal); have E3 := hide (E2.out.on hal (by simp)); have B3 := hide (hal.get B2.out (by simp)); have K3 := hide (K2.out.upd hal (by simp)); have ENV3 := hide (ENV2.out.upd_nil hal)
      have hpl := blk_lt X2.out.1; have hBl := blk_lt B2.out
      have HSZ := hide (show w0.heap.size ≤ (w2.drewN 1).heap.size from E2.out.size)
      obtain ⟨R, hR⟩ : ∃ R, (w2.drewN 1).heap.size = R := ⟨_, rfl⟩
      have hR' : w2.heap.size = R := hR
      rw [hR] at hN NR HSZ
      rw [hR'] at hpl hBl ⊢
      have s3 : w3.heap[p]? = some (.cells (sgc ⟨self, n, log ++ [c], ap, promise, seen, vote, waits, asks⟩ G2) TSg (0, 0)) ∧ w3.heap[B]? = some (.cells (cmc c (.slice xk c.keys.length ck)).toArray Cm.TCmd (0, 0)) := ⟨X3.out.1, B3.out⟩
      clear hw3 hal hR hR' s0 ud
      refine hK _ _ (.inr s3) ?_
      clear hK K
      try simp only [Act.put, zz1, zz2, zz3]
      refine wpAnyZ_one 5 (by kernel_rfl) rfl rfl (fun K hK => ?_)
      try simp only [List.getElem_toArray, List.getElem_cons_succ, List.getElem_cons_zero]
      go_simp
      have hd1 := HDO.out w3 ENV3.out.1 X3.out.2.app K3.out.at
      rw [HR.out] at hd1
      refine hd1.mono ?_
      rintro e w4 ⟨rfl, hap, htu⟩
      simp only [rpv]
      obtain ⟨t1, t2, t3, t4⟩ := X3.out.turned htu hap
      have X4 := hide t1; have E4 := hide (E3.out.trans t2); have B4 := hide (t3 B N2.out.1 _ B3.out); have K4 := hide (t4 _ _ K3.out)
      have hN := t3 R NR.out.1 _ hN
      have s4 : w4.heap[p]? = some (.cells (sgc ⟨self, n, log ++ [c], ap, promise, seen, vote, waits, asks⟩ G2) TSg (0, 0)) ∧ w4.heap[B]? = some (.cells (cmc c (.slice xk c.keys.length ck)).toArray Cm.TCmd (0, 0)) := ⟨t1.1, B4.out⟩
      clear hd1 hap htu t1 t2 t3 t4 s3 X3 E3 B3 K3
      refine hK _ _ (.inr s4) ?_
      clear hK K
      try simp only [Act.put, zz1, zz2, zz3]
      refine zE 6 rfl (by kernel_rfl) (fun _ _ _ _ h => h) rfl (by exact s4) ?_
      apply Exists.intro
      refine ⟨fun wx hS => ?_, ?_⟩
      · go_simp; rfl
      simp only [Act.put, zz1, zz2, zz3, zz4, zz5, zz6]
      refine zE 7 rfl (by kernel_rfl) (fun _ _ _ _ h => h) rfl (by exact s4) ?_
      apply Exists.intro
      refine ⟨fun wx hS => ?_, ?_⟩
      · go_simp; rfl
      simp only [Act.put, zz1, zz2, zz3, zz4, zz5, zz6]
      refine zE 8 rfl (by kernel_rfl) (fun _ _ _ _ h => h) rfl (by exact s4) ?_
      apply Exists.intro
      refine ⟨fun wx hS => ?_, ?_⟩
      · go_simp; rfl
      simp only [Act.put, zz1, zz2, zz3, zz4, zz5, zz6]
      have r0 : w4.cell? ⟨R, 0, none⟩ = some (.int .u8 0) := blk_cell hN rfl
      have r1 : w4.cell? ⟨R, 1, none⟩ = some (.string ⟨#[]⟩) := blk_cell hN rfl
      have rf : ∀ i, w4.frozen? ⟨R, i, none⟩ = false := fun i => blk_free hN
      refine wpAnyZ_one 10 (by kernel_rfl) rfl rfl (fun K hK => ?_)
      try simp only [List.getElem_toArray, List.getElem_cons_succ, List.getElem_cons_zero]
      go_simp
      have us : Upd [R] w4 ((w4.setCell ⟨R, 0, none⟩ (.int .u8 (code : Int))).setCell ⟨R, 1, none⟩ (.string (strOf txt))) := ((Upd.refl [R] w4).setCell (p := ⟨R, 0, none⟩) (.inl (by simp)) _).setCell (p := ⟨R, 1, none⟩) (.inl (by simp)) _
      have hR5 := set2 hN (v0 := .int .u8 (code : Int)) (v1 := .string (strOf txt))
      have nr : ∀ k ∈ [R], ¬ M2 k ∧ ¬ T2 k := fun k hk => by simp at hk; subst hk; exact NR.out
      have X5 := hide (show XAt _ T2 M2 z p ⟨self, n, log ++ [c], a2, promise, seen, vote, waits, asks⟩ ⟨send, ans, done⟩ G2 from ⟨us.get X4.out.1 (by simp; omega), X4.out.2.shift us fun k hk => .inr (nr k hk)⟩)
      have E5 := hide (E4.out.on us fun k hk => by simp at hk; subst hk; exact .inr HSZ.out)
      have B5 := hide (us.get B4.out (by simp; omega)); have K5 := hide (K4.out.upd us fun k hk => (nr k hk).2)
      have s5 := (show _ ∧ _ from ⟨X5.out.1, B5.out⟩)
      clear us nr r0 r1 rf
      refine hK _ _ (.inr s5) ?_
      clear hK K
      try simp only [Act.put, zz1, zz2, zz3]
      refine wpAnyZ_one 11 (by kernel_rfl) rfl rfl (fun K hK => ?_)
      try simp only [List.getElem_toArray, List.getElem_cons_succ, List.getElem_cons_zero]
      go_simp
      refine hK _ _ (.inl rfl) ?_
      clear hK K
      try simp only [Act.put, zz1, zz2, zz3]
      refine wpAnyZ_done (by kernel_rfl) ?_ _
      go_wp2_with fail
      go_meet
      exact ⟨R, rfl, hR5, NR.out, X5.out, E5.out, B5.out, K5.out⟩
  case rest =>
  rename World => w3
  obtain ⟨R, rfl, hR, hNR, hX, hE, hB, hK⟩ := hcut
  have NB2 := N2
  obtain ⟨T3, hT3⟩ : ∃ T', T2 = T' := ⟨_, rfl⟩
  obtain ⟨M3, hM3⟩ : ∃ T', M2 = T' := ⟨_, rfl⟩
  obtain ⟨G3, hG3⟩ : ∃ T', G2 = T' := ⟨_, rfl⟩
  rw [hT3, hM3] at hNR hE NB2
  rw [hT3] at hK
  rw [hT3, hM3, hG3] at hX
  have X3 := hide hX; have E3 := hide hE; have B3 := hide hB; have K3 := hide hK; have N3 := NB2; have R3 := hide hR; have NR3 := hide hNR
  clear hX hE hB hK hR hNR NB2 hT3 hM3 hG3 X2 E2 B2 K2 N2 ENV2 HDO
  have hz3 := E3.out.size
  go_upto_region 3 with fail
  obtain ⟨css, ao, cap, hv, he, hb, hown, hc1, hc2⟩ := X3.out.done_open
  have HV := hide hv; have HEE := hide he; have HBB := hide hb; have OW := hide hown
  simp only [maxLen] at hc2
  obtain ⟨i1, hi1, iz0, iz1, iz2⟩ := info_parts infoC
  have s0 : (w3.drewN 1).heap[p]? = some (.cells (sgc ⟨self, n, log ++ [c], a2, promise, seen, vote, waits, asks⟩ G3) TSg (0, 0)) ∧ (w3.drewN 1).heap[B]? = some (.cells (cmc c (.slice xk c.keys.length ck)).toArray Cm.TCmd (0, 0)) := ⟨X3.out.1, B3.out⟩
  clear hv he hb hown
  refine wp_region_z (fun wx => wx.heap[p]? = some (.cells (sgc ⟨self, n, log ++ [c], a2, promise, seen, vote, waits, asks⟩ G3) TSg (0, 0)) ∧ wx.heap[B]? = some (.cells (cmc c (.slice xk c.keys.length ck)).toArray Cm.TCmd (0, 0))) 13 (by kernel_rfl) ?_
  refine zE 0 rfl (by kernel_rfl) (fun _ _ _ _ h => h) rfl (by exact s0) ?_
  apply Exists.intro
  refine ⟨fun wx hS => ?_, ?_⟩
  · go_simp; rfl
  simp only [Act.put, List.setIfInBounds_toArray, List.set_cons_succ, List.set_cons_zero, List.getElem_toArray, List.getElem_cons_zero]
  refine zE 1 rfl (by kernel_rfl) (fun _ _ _ _ h => h) rfl (by exact s0) ?_
  apply Exists.intro
  refine ⟨fun wx hS => ?_, ?_⟩
  · go_simp; rfl
  simp only [Act.put, zz1, zz2, zz3, zz4, zz5, zz6]
  refine zE 2 rfl (by kernel_rfl) (fun _ _ _ _ h => h) rfl (by exact s0) ?_
  apply Exists.intro
  refine ⟨fun wx hS => ?_, ?_⟩
  · go_simp; rfl
  simp only [Act.put, zz1, zz2, zz3, zz4, zz5, zz6]
  refine zE 3 rfl (by kernel_rfl) (fun _ _ _ _ h => h) rfl (by exact s0) ?_
  apply Exists.intro
  refine ⟨fun wx hS => ?_, ?_⟩
  · go_simp; rfl
  simp only [Act.put, zz1, zz2, zz3, zz4, zz5, zz6]
  refine zE 4 rfl (by kernel_rfl) (fun _ _ _ _ h => h) rfl (by exact s0) ?_
  apply Exists.intro
  refine ⟨fun wx hS => ?_, ?_⟩
  · go_simp; rfl
  simp only [Act.put, zz1, zz2, zz3, zz4, zz5, zz6]
  refine zE 5 rfl (by kernel_rfl) (fun _ _ _ _ h => h) rfl (by exact s0) ?_
  apply Exists.intro
  refine ⟨fun wx hS => ?_, ?_⟩
  · have c0 : wx.cell? ⟨p, 22, none⟩ = some (.slice ao done.length cap) := (by rw [← HV.out] ; exact blk_cell hS.1 rfl); go_simp; rfl
  simp only [Act.put, zz1, zz2, zz3, zz4, zz5, zz6]
  refine zE 6 rfl (by kernel_rfl) (fun _ _ _ _ h => h) rfl (by exact s0) ?_
  apply Exists.intro
  refine ⟨fun wx hS => ?_, ?_⟩
  · obtain ⟨y0, y1, y2, y3, y4, y5, y6⟩ := cmc_cells hS.2; go_simp; rfl
  simp only [Act.put, zz1, zz2, zz3, zz4, zz5, zz6]
  refine wpAnyZ_one 7 (by kernel_rfl) rfl rfl (fun K hK => ?_)
  try simp only [List.getElem_toArray, List.getElem_cons_succ, List.getElem_cons_zero]
  go_simp
  refine (copied_any (c := c) (w3.drewN 1) (K3.out.upd ((Upd.refl [] w3).drewN 1) (by simp)).at (by have := HC.out.2; omega)).mono ?_
  rintro e wa ⟨⟨ks', rfl, hk'⟩, hua⟩
  obtain ⟨xl, cl, rfl⟩ := hk'.slice
  have hud : Upd [] w3 wa := ((Upd.refl [] w3).drewN 1).trans hua
  have XA := hide (show XAt wa (Sg.fresh w3 wa T3) M3 z p ⟨self, n, log ++ [c], a2, promise, seen, vote, waits, asks⟩ ⟨send, ans, done⟩ G3 from ⟨hud.get X3.out.1 (by simp), X3.out.2.fresh hud⟩)
  have EA := hide (E3.out.trans (Ext.fresh hud T3 M3)); have BA := hide (hud.get B3.out (by simp)); have KA := hide ((K3.out.upd hud (by simp)).mono (U := Sg.fresh w3 wa T3) fun k hk => .inl hk)
  have KN := hide (hk'.mono (U := Sg.fresh w3 wa T3) fun k hk => .inr hk)
  have NA : Hid (¬ M3 B ∧ ¬ Sg.fresh w3 wa T3 B) := hide ⟨N3.out.1, fun h => by
    rcases h with h | h
    · exact N3.out.2 h
    · have := h.1; have := blk_lt B3.out; omega⟩
  have RA := hide (hud.get R3.out (by simp))
  have NRA : Hid (¬ M3 R ∧ ¬ Sg.fresh w3 wa T3 R) := hide ⟨NR3.out.1, fun h => by
    rcases h with h | h
    · exact NR3.out.2 h
    · have := h.1; have := blk_lt R3.out; omega⟩
  clear R3 NR3
  have OWA := hide (owns_upd OW.out hud (by simp)); have EEA := hide (HEE.out.mono (Q := Tr.cmK.holds wa (Sg.fresh w3 wa T3)) fun y cs _ hy => Tr.cmK.mono (Tr.cmK.upd hy hud (by simp)) fun k hk => .inl hk)
  generalize Sg.fresh w3 wa T3 = TA at *
  have hza := EA.out.size
  clear hua hud hk' s0 OW HEE X3 E3 K3 N3
  have sa : wa.heap[p]? = some (.cells (sgc ⟨self, n, log ++ [c], a2, promise, seen, vote, waits, asks⟩ G3) TSg (0, 0)) ∧ wa.heap[B]? = some (.cells (cmc c (.slice xk c.keys.length ck)).toArray Cm.TCmd (0, 0)) := ⟨XA.out.1, BA.out⟩
  clear B3
  unfold cmv
  simp only [strV]
  refine hK _ _ (.inr sa) ?_
  clear hK K
  try simp only [Act.put, zz1, zz2, zz3]
  refine wpAnyZ_one 8 (by kernel_rfl) rfl rfl (fun K hK => ?_)
  try simp only [List.getElem_toArray, List.getElem_cons_succ, List.getElem_cons_zero]
  go_simp
  have hBN := blk_new wa (.cells (cmc c (.slice xl c.keys.length cl)).toArray Cm.TCmd)
  have halb := (Upd.refl [] wa).alloc (.cells (cmc c (.slice xl c.keys.length cl)).toArray Cm.TCmd)
  change K _ (wa.alloc (.cells (cmc c (.slice xl c.keys.length cl)).toArray Cm.TCmd))
  obtain ⟨wb, hwb⟩ : ∃ wb, wa.alloc (.cells (cmc c (.slice xl c.keys.length cl)).toArray Cm.TCmd) = wb := ⟨_, rfl⟩
  rw [hwb] at hBN halb ⊢
  obtain ⟨Q, hQ⟩ : ∃ Q, wa.heap.size = Q := ⟨_, rfl⟩
  rw [hQ] at hBN ⊢
  have XB := hide (XA.out.upd_nil halb); have EB := hide (EA.out.on halb (by simp)); have BB := hide (halb.get BA.out (by simp)); have KB := hide (KA.out.upd halb (by simp)); have KNB := hide (KN.out.upd halb (by simp))
  have OWB := hide (owns_upd OWA.out halb (by simp)); have EEB := hide (EEA.out.mono (Q := Tr.cmK.holds wb TA) fun y cs _ hy => Tr.cmK.upd hy halb (by simp))
  have SR := hide (cmc_src hBN rfl)
  have RB := hide (halb.get RA.out (by simp))
  clear RA
  have hzb := halb.size
  have sb : wb.heap[p]? = some (.cells (sgc ⟨self, n, log ++ [c], a2, promise, seen, vote, waits, asks⟩ G3) TSg (0, 0)) ∧ wb.heap[B]? = some (.cells (cmc c (.slice xk c.keys.length ck)).toArray Cm.TCmd (0, 0)) := ⟨XB.out.1, BB.out⟩
  clear hwb hBN halb hQ XA EA BA KA KN OWA EEA sa
  refine hK _ _ (.inr sb) ?_
  clear hK K
  try simp only [Act.put, zz1, zz2, zz3]
  refine wpAnyZ_one 9 (by kernel_rfl) rfl rfl (fun K hK => ?_)
  try simp only [List.getElem_toArray, List.getElem_cons_succ, List.getElem_cons_zero]
  refine wp_append_src _ _ _ 31 rfl z Cm.TCmd i1 (.agg ZA) 7 80 Tryz.underlying31 hi1 iz0 iz1 iz2 rfl (by decide) (.slice ao done.length cap) done.length css.flatten rfl (by exact OWB.out) (some ⟨Q, 0, none⟩) 1 1 (cmc c (.slice xl c.keys.length cl)) rfl (by exact SR.out) (by unfold maxLen; omega) (by omega) (by have := HBN.out; omega) ?_
  intro ao6 cap6 wc hown6 hU6 hn6
  have HM := hide (XB.out.done_more (c := c) HV.out EEB.out HBB.out ⟨HC.out.1, _, rfl, KNB.out.2⟩ hown6 hU6 hn6)
  have far : ∀ k ∈ (Value.slice ao done.length cap).ownBlock.toList, M3 k ∧ ¬ TA k := fun k hk => by
    have h5 := XB.out.2.nm.inM 5 k (by rw [show G3.names p = [some p, G3.lv.ownBlock, G3.wv.ownBlock, G3.sv.ownBlock, G3.av.ownBlock, G3.dv.ownBlock, G3.ab, G3.gb] from rfl]; simp only [List.getElem?_cons_succ, List.getElem?_cons_zero]; rw [HV.out]; simpa using hk)
    exact ⟨h5.1, fun ht => XB.out.2.apt.apart k ht h5.1⟩
  have BC := hide (hU6.get BB.out fun hk => NA.out.1 (far B hk).1); have KC := hide (KB.out.upd hU6 fun k hk => (far k hk).2)
  have sc : wc.heap[p]? = some (.cells (sgc ⟨self, n, log ++ [c], a2, promise, seen, vote, waits, asks⟩ G3) TSg (0, 0)) ∧ wc.heap[B]? = some (.cells (cmc c (.slice xk c.keys.length ck)).toArray Cm.TCmd (0, 0)) := ⟨HM.out.1.1, BC.out⟩
  have RC := hide (hU6.get RB.out fun hk => NRA.out.1 (far R hk).1)
  have pR : p ≠ R := fun e => NRA.out.1 (e ▸ XB.out.2.pM)
  have RLT := hide (blk_lt RB.out)
  clear RB
  have pB : p ≠ B := fun e => NA.out.1 (e ▸ XB.out.2.pM)
  have y4 : wc.cell? ⟨p, 22, none⟩ = some (.slice ao done.length cap) := by rw [← HV.out]; exact blk_cell sc.1 rfl
  have f4 : wc.frozen? ⟨p, 22, none⟩ = false := blk_free sc.1
  have BLT := hide (blk_lt BB.out)
  clear hown6 hU6 hn6 far sb BB KB KNB OWB EEB SR HBB XB
  refine hK _ _ (.inr sc) ?_
  clear hK K
  try simp only [Act.put, zz1, zz2, zz3]
  refine wpAnyZ_one 10 (by kernel_rfl) rfl rfl (fun K hK => ?_)
  try simp only [List.getElem_toArray, List.getElem_cons_succ, List.getElem_cons_zero]
  go_simp
  refine hK _ _ (.inr sc) ?_
  clear hK K
  try simp only [Act.put, zz1, zz2, zz3]
  refine wpAnyZ_one 11 (by kernel_rfl) rfl rfl (fun K hK => ?_)
  try simp only [List.getElem_toArray, List.getElem_cons_succ, List.getElem_cons_zero]
  go_simp
  refine hK _ _ (.inr sc) ?_
  clear hK K
  try simp only [Act.put, zz1, zz2, zz3]
  refine wpAnyZ_one 12 (by kernel_rfl) rfl rfl (fun K hK => ?_)
  try simp only [List.getElem_toArray, List.getElem_cons_succ, List.getElem_cons_zero]
  go_simp
  refine hK _ _ (.inr sc) ?_
  clear hK K
  try simp only [Act.put, zz1, zz2, zz3]
  refine wpAnyZ_one 13 (by kernel_rfl) rfl rfl (fun K hK => ?_)
  try simp only [List.getElem_toArray, List.getElem_cons_succ, List.getElem_cons_zero]
  go_simp
  refine hK _ _ (.inl rfl) ?_
  clear hK K
  try simp only [Act.put, zz1, zz2, zz3]
  clear f4 y4 sc
  refine wpAnyZ_done (by kernel_rfl) ?_ _

  have uz : Upd [p] wc (wc.setCell ⟨p, 22, none⟩ (.slice ao6 (done.length + 1) cap6)) := (Upd.refl [p] wc).setCell (p := ⟨p, 22, none⟩) (.inl (by simp)) _
  have X4 := hide HM.out.2.1; have E4 := hide (EB.out.trans HM.out.2.2)
  have B4 := hide (uz.get BC.out (by simp; exact fun e => pB e.symm))
  have K4 := hide (KC.out.upd uz fun k hk => by simp at hk; subst hk; exact fun h => X4.out.2.apt.apart _ h X4.out.2.pM)
  have N4 := hide (HM.out.2.2.not BLT.out NA.out)
  have R4 := hide (uz.get RC.out (by simp; exact fun e => pR e.symm))
  have NR4 := hide (HM.out.2.2.not RLT.out NRA.out)
  clear RC RLT NRA pR
  clear HM uz EB BC KC NA pB HV BLT hc1 hc2
  try clear hza hzb
  generalize wc.setCell ⟨p, 22, none⟩ (.slice ao6 (done.length + 1) cap6) = w4 at *
  generalize plus M3 (Value.slice ao6 (done.length + 1) cap6).ownBlock = M4 at *
  obtain ⟨G4, hG4⟩ : ∃ G', { G3 with dv := .slice ao6 (done.length + 1) cap6 } = G' := ⟨_, rfl⟩
  rw [hG4] at X4
  obtain ⟨T4, hT4⟩ : ∃ T', TA = T' := ⟨_, rfl⟩
  rw [hT4] at X4 E4 K4 N4 NR4
  clear hG4 hT4
  try clear i1 hi1 iz0 iz1 iz2
  go_upto_region 4 with fail
  obtain ⟨css, ao, cap, hv, he, hb, hown, hc1, hc2⟩ := X4.out.ans_open
  have HV := hide hv; have HEE := hide he; have HBB := hide hb; have OW := hide hown
  simp only [maxLen] at hc2
  obtain ⟨i1, hi1, iz0, iz1, iz2⟩ := info_parts infoA
  have s0 : (w4.drewN 1).heap[p]? = some (.cells (sgc ⟨self, n, log ++ [c], a2, promise, seen, vote, waits, asks⟩ G4) TSg (0, 0)) ∧ (w4.drewN 1).heap[B]? = some (.cells (cmc c (.slice xk c.keys.length ck)).toArray Cm.TCmd (0, 0)) ∧ (w4.drewN 1).heap[R]? = some (.cells #[.int .u8 (code : Int), .string (strOf txt)] TRp (0, 0)) := ⟨X4.out.1, B4.out, R4.out⟩
  clear hv he hb hown
  refine wp_region_z (fun wx => wx.heap[p]? = some (.cells (sgc ⟨self, n, log ++ [c], a2, promise, seen, vote, waits, asks⟩ G4) TSg (0, 0)) ∧ wx.heap[B]? = some (.cells (cmc c (.slice xk c.keys.length ck)).toArray Cm.TCmd (0, 0)) ∧ wx.heap[R]? = some (.cells #[.int .u8 (code : Int), .string (strOf txt)] TRp (0, 0))) 17 (by kernel_rfl) ?_
  refine zE 0 rfl (by kernel_rfl) (fun _ _ _ _ h => h) rfl (by exact s0) ?_
  apply Exists.intro
  refine ⟨fun wx hS => ?_, ?_⟩
  · go_simp; rfl
  simp only [Act.put, List.setIfInBounds_toArray, List.set_cons_succ, List.set_cons_zero, List.getElem_toArray, List.getElem_cons_zero]
  refine zE 1 rfl (by kernel_rfl) (fun _ _ _ _ h => h) rfl (by exact s0) ?_
  apply Exists.intro
  refine ⟨fun wx hS => ?_, ?_⟩
  · go_simp; rfl
  simp only [Act.put, zz1, zz2, zz3, zz4, zz5, zz6]
  refine zE 2 rfl (by kernel_rfl) (fun _ _ _ _ h => h) rfl (by exact s0) ?_
  apply Exists.intro
  refine ⟨fun wx hS => ?_, ?_⟩
  · go_simp; rfl
  simp only [Act.put, zz1, zz2, zz3, zz4, zz5, zz6]
  refine zE 3 rfl (by kernel_rfl) (fun _ _ _ _ h => h) rfl (by exact s0) ?_
  apply Exists.intro
  refine ⟨fun wx hS => ?_, ?_⟩
  · go_simp; rfl
  simp only [Act.put, zz1, zz2, zz3, zz4, zz5, zz6]
  refine zE 4 rfl (by kernel_rfl) (fun _ _ _ _ h => h) rfl (by exact s0) ?_
  apply Exists.intro
  refine ⟨fun wx hS => ?_, ?_⟩
  · go_simp; rfl
  simp only [Act.put, zz1, zz2, zz3, zz4, zz5, zz6]
  refine zE 5 rfl (by kernel_rfl) (fun _ _ _ _ h => h) rfl (by exact s0) ?_
  apply Exists.intro
  refine ⟨fun wx hS => ?_, ?_⟩
  · have c0 : wx.cell? ⟨p, 21, none⟩ = some (.slice ao ans.length cap) := (by rw [← HV.out] ; exact blk_cell hS.1 rfl); go_simp; rfl
  simp only [Act.put, zz1, zz2, zz3, zz4, zz5, zz6]
  refine zE 6 rfl (by kernel_rfl) (fun _ _ _ _ h => h) rfl (by exact s0) ?_
  apply Exists.intro
  refine ⟨fun wx hS => ?_, ?_⟩
  · go_simp; rfl
  simp only [Act.put, zz1, zz2, zz3, zz4, zz5, zz6]
  refine zE 7 rfl (by kernel_rfl) (fun _ _ _ _ h => h) rfl (by exact s0) ?_
  apply Exists.intro
  refine ⟨fun wx hS => ?_, ?_⟩
  · obtain ⟨y0, y1, y2, y3, y4, y5, y6⟩ := cmc_cells hS.2.1; go_simp; rfl
  simp only [Act.put, zz1, zz2, zz3, zz4, zz5, zz6]
  refine zE 8 rfl (by kernel_rfl) (fun _ _ _ _ h => h) rfl (by exact s0) ?_
  apply Exists.intro
  refine ⟨fun wx hS => ?_, ?_⟩
  · go_simp; rfl
  simp only [Act.put, zz1, zz2, zz3, zz4, zz5, zz6]
  refine zE 9 rfl (by kernel_rfl) (fun _ _ _ _ h => h) rfl (by exact s0) ?_
  apply Exists.intro
  refine ⟨fun wx hS => ?_, ?_⟩
  · obtain ⟨y0, y1, y2, y3, y4, y5, y6⟩ := cmc_cells hS.2.1; go_simp; rfl
  simp only [Act.put, zz1, zz2, zz3, zz4, zz5, zz6]
  refine zE 10 rfl (by kernel_rfl) (fun _ _ _ _ h => h) rfl (by exact s0) ?_
  apply Exists.intro
  refine ⟨fun wx hS => ?_, ?_⟩
  · have q0 : wx.cell? ⟨R, 0, none⟩ = some (.int .u8 (code : Int)) := blk_cell hS.2.2 rfl ; have q1 : wx.cell? ⟨R, 1, none⟩ = some (.string (strOf txt)) := blk_cell hS.2.2 rfl; go_simp; rfl
  simp only [Act.put, zz1, zz2, zz3, zz4, zz5, zz6]
  refine zE 11 rfl (by kernel_rfl) (fun _ _ _ _ h => h) rfl (by exact s0) ?_
  apply Exists.intro
  refine ⟨fun wx hS => ?_, ?_⟩
  · go_simp; rfl
  simp only [Act.put, zz1, zz2, zz3, zz4, zz5, zz6]
  clear s0
  refine wpAnyZ_one 12 (by kernel_rfl) rfl rfl (fun K hK => ?_)
  try simp only [List.getElem_toArray, List.getElem_cons_succ, List.getElem_cons_zero]
  go_simp
  have hBN := blk_new (w4.drewN 1) (.cells (anc ⟨c.client, c.seq, code, txt⟩).toArray TAn)
  have halb := ((Upd.refl [] w4).drewN 1).alloc (.cells (anc ⟨c.client, c.seq, code, txt⟩).toArray TAn)
  change K _ ((w4.drewN 1).alloc (.cells (anc ⟨c.client, c.seq, code, txt⟩).toArray TAn))
  obtain ⟨wb, hwb⟩ : ∃ wb, (w4.drewN 1).alloc (.cells (anc ⟨c.client, c.seq, code, txt⟩).toArray TAn) = wb := ⟨_, rfl⟩
  rw [hwb] at hBN halb ⊢
  obtain ⟨Q, hQ⟩ : ∃ Q, (w4.drewN 1).heap.size = Q := ⟨_, rfl⟩
  have hQ' : w4.heap.size = Q := hQ
  rw [hQ] at hBN
  rw [hQ']
  have XB := hide (X4.out.upd_nil halb); have EB := hide (E4.out.on halb (by simp)); have BB := hide (halb.get B4.out (by simp)); have KB := hide (K4.out.upd halb (by simp)); have RB := hide (halb.get R4.out (by simp))
  have OWB := hide (owns_upd OW.out halb (by simp)); have EEB := hide (HEE.out.mono (Q := anK.holds wb T4) fun y cs _ hy => anK.upd hy halb (by simp))
  have SR := hide (anc_src hBN)
  have hzb := EB.out.size
  have sb : wb.heap[p]? = some (.cells (sgc ⟨self, n, log ++ [c], a2, promise, seen, vote, waits, asks⟩ G4) TSg (0, 0)) ∧ wb.heap[B]? = some (.cells (cmc c (.slice xk c.keys.length ck)).toArray Cm.TCmd (0, 0)) ∧ wb.heap[R]? = some (.cells #[.int .u8 (code : Int), .string (strOf txt)] TRp (0, 0)) := ⟨XB.out.1, BB.out, RB.out⟩
  have NA := N4; have NRB := NR4
  clear hwb hBN halb hQ hQ' X4 E4 B4 K4 OW HEE R4 N4 NR4
  refine hK _ _ (.inr sb) ?_
  clear hK K
  try simp only [Act.put, zz1, zz2, zz3]
  refine wpAnyZ_one 13 (by kernel_rfl) rfl rfl (fun K hK => ?_)
  try simp only [List.getElem_toArray, List.getElem_cons_succ, List.getElem_cons_zero]
  refine wp_append_src _ _ _ 30 rfl z TAn i1 (.agg #[.int .u32 0, .int .u32 0, .int .u8 0, .string ByteArray.empty]) 4 32 Tryz.underlying30 hi1 iz0 iz1 iz2 rfl (by decide) (.slice ao ans.length cap) ans.length css.flatten rfl (by exact OWB.out) (some ⟨Q, 0, none⟩) 1 1 (anc ⟨c.client, c.seq, code, txt⟩) rfl (by exact SR.out) (by unfold maxLen; omega) (by omega) (by have := HBN.out; omega) ?_
  intro ao6 cap6 wc hown6 hU6 hn6
  have TXT : Hid (txt.length ≤ 4611686018427387904) := hide (by
    have h5 := (apDo_bound (c := c) HX.out.app hL).2
    simp only at h5
    rw [HR.out] at h5
    simp only at h5
    omega)
  have HM := hide (XB.out.ans_more (c := ⟨c.client, c.seq, code, txt⟩) HV.out EEB.out HBB.out ⟨TXT.out, rfl⟩ hown6 hU6 hn6)
  have far : ∀ k ∈ (Value.slice ao ans.length cap).ownBlock.toList, M4 k ∧ ¬ T4 k := fun k hk => by
    have h5 := XB.out.2.nm.inM 4 k (by rw [show G4.names p = [some p, G4.lv.ownBlock, G4.wv.ownBlock, G4.sv.ownBlock, G4.av.ownBlock, G4.dv.ownBlock, G4.ab, G4.gb] from rfl]; simp only [List.getElem?_cons_succ, List.getElem?_cons_zero]; rw [HV.out]; simpa using hk)
    exact ⟨h5.1, fun ht => XB.out.2.apt.apart k ht h5.1⟩
  have BC := hide (hU6.get BB.out fun hk => NA.out.1 (far B hk).1); have KC := hide (KB.out.upd hU6 fun k hk => (far k hk).2)
  have sc : wc.heap[p]? = some (.cells (sgc ⟨self, n, log ++ [c], a2, promise, seen, vote, waits, asks⟩ G4) TSg (0, 0)) := HM.out.1.1
  have pB : p ≠ B := fun e => NA.out.1 (e ▸ XB.out.2.pM)
  have y4 : wc.cell? ⟨p, 21, none⟩ = some (.slice ao ans.length cap) := by rw [← HV.out]; exact blk_cell sc rfl
  have f4 : wc.frozen? ⟨p, 21, none⟩ = false := blk_free sc
  have BLT := hide (blk_lt BB.out)
  have RC := hide (hU6.get RB.out fun hk => NRB.out.1 (far R hk).1)
  clear hown6 hU6 hn6 far sb BB KB OWB EEB SR HBB XB RB
  have sd : wc.heap[p]? = some (.cells (sgc ⟨self, n, log ++ [c], a2, promise, seen, vote, waits, asks⟩ G4) TSg (0, 0)) ∧ wc.heap[B]? = some (.cells (cmc c (.slice xk c.keys.length ck)).toArray Cm.TCmd (0, 0)) ∧ wc.heap[R]? = some (.cells #[.int .u8 (code : Int), .string (strOf txt)] TRp (0, 0)) := ⟨sc, BC.out, RC.out⟩
  clear RC NRB sc
  refine hK _ _ (.inr sd) ?_
  clear hK K
  try simp only [Act.put, zz1, zz2, zz3]
  refine wpAnyZ_one 14 (by kernel_rfl) rfl rfl (fun K hK => ?_)
  try simp only [List.getElem_toArray, List.getElem_cons_succ, List.getElem_cons_zero]
  go_simp
  refine hK _ _ (.inr sd) ?_
  clear hK K
  try simp only [Act.put, zz1, zz2, zz3]
  refine wpAnyZ_one 15 (by kernel_rfl) rfl rfl (fun K hK => ?_)
  try simp only [List.getElem_toArray, List.getElem_cons_succ, List.getElem_cons_zero]
  go_simp
  refine hK _ _ (.inr sd) ?_
  clear hK K
  try simp only [Act.put, zz1, zz2, zz3]
  refine wpAnyZ_one 16 (by kernel_rfl) rfl rfl (fun K hK => ?_)
  try simp only [List.getElem_toArray, List.getElem_cons_succ, List.getElem_cons_zero]
  go_simp
  refine hK _ _ (.inr sd) ?_
  clear hK K
  try simp only [Act.put, zz1, zz2, zz3]
  refine wpAnyZ_one 17 (by kernel_rfl) rfl rfl (fun K hK => ?_)
  try simp only [List.getElem_toArray, List.getElem_cons_succ, List.getElem_cons_zero]
  go_simp
  refine hK _ _ (.inl rfl) ?_
  clear hK K
  try simp only [Act.put, zz1, zz2, zz3]
  clear f4 y4 sd
  refine wpAnyZ_done (by kernel_rfl) ?_ _
  have uz : Upd [p] wc (wc.setCell ⟨p, 21, none⟩ (.slice ao6 (ans.length + 1) cap6)) := (Upd.refl [p] wc).setCell (p := ⟨p, 21, none⟩) (.inl (by simp)) _
  have X5 := hide HM.out.2.1; have E5 := hide (EB.out.trans HM.out.2.2)
  have B5 := hide (uz.get BC.out (by simp; exact fun e => pB e.symm))
  have K5 := hide (KC.out.upd uz fun k hk => by simp at hk; subst hk; exact fun h => X5.out.2.apt.apart _ h X5.out.2.pM)
  have N5 := hide (HM.out.2.2.not BLT.out NA.out)
  clear HM uz EB BC KC NA pB HV BLT hc1 hc2
  try clear hza hzb
  generalize wc.setCell ⟨p, 21, none⟩ (.slice ao6 (ans.length + 1) cap6) = w5 at *
  generalize plus M4 (Value.slice ao6 (ans.length + 1) cap6).ownBlock = M5 at *
  obtain ⟨G5, hG5⟩ : ∃ G', { G4 with av := .slice ao6 (ans.length + 1) cap6 } = G' := ⟨_, rfl⟩
  rw [hG5] at X5
  obtain ⟨T5, hT5⟩ : ∃ T', T4 = T' := ⟨_, rfl⟩
  rw [hT5] at X5 E5 K5 N5
  clear hG5 hT5
  try clear i1 hi1 iz0 iz1 iz2
  obtain ⟨k4, k5, k6, k7, k8, k9, k10, k11, k12, k13, k14, k15, k16, k17, k19, kf⟩ := XAt.cells X5.out.1
  simp only at k4 k5 k6 k7 k8 k9 k10 k11 k12 k13 k15 k16 k17
  go_upto_region 6 with fail
  clear k4 k5 k6 k7 k8 k9 k10 k11 k12 k13 k14 k15 k16 k17 k19 kf
  change Code.wp _ _ _ _ ((stepW w5 p 4 zeros).setCell ⟨p, 19, none⟩ (.pointer none))
  obtain ⟨hx6, he6, hu6⟩ := X5.out.zeroed
  generalize (stepW w5 p 4 zeros).setCell ⟨p, 19, none⟩ (.pointer none) = w6 at *
  have X6 := hide (show XAt w6 T5 (plus (plus M5 none) none) z p ⟨self, n, log ++ [c], a2, Bal.zero, Bal.zero, Vt.zero, waits, none⟩ ⟨send, ans ++ [⟨c.client, c.seq, code, txt⟩], done ++ [c]⟩ _ from hx6); have E6 := hide (E5.out.trans he6)
  have pB : p ≠ B := fun e => N5.out.1 (e ▸ X5.out.2.pM)
  have B6 := hide (hu6.get B5.out (by simp; exact fun e => pB e.symm)); have K6 := hide (K5.out.upd hu6 fun k hk => by simp at hk; subst hk; exact fun h => X5.out.2.apt.apart _ h X5.out.2.pM)
  clear hx6 he6 hu6 X5 E5 B5 K5 N5 pB
  generalize plus (plus M5 none) none = M6 at *
  obtain ⟨G6, hG6⟩ : ∃ G', { { G5 with ks := .slice none 0 0 } with akv := .pointer none, ab := none, gb := none } = G' := ⟨_, rfl⟩
  rw [hG6] at X6
  clear hG6
  obtain ⟨css, ao, cap, hv, he, hb, hown, hc1, hc2⟩ := X6.out.waits_open
  have HV := hide hv
  have c18 : w6.cell? ⟨p, 18, none⟩ = some (.slice ao waits.length cap) := by rw [← hv]; exact blk_cell X6.out.1 rfl
  have OWN := hide (show Own w6 0 Cm.TCmd 7 (Tr.cmK.holds w6 T5) (.slice ao waits.length cap) waits from ⟨css, he, hb, hown⟩)
  clear hv he hb hown
  simp only [maxLen] at hc2
  go_wp2_with fail
  refine (index_any (U := fun k => T5 k ∨ (Value.slice ao waits.length cap).ownBlock = some k) (l := waits) (c := c) w6 (Row.mono OWN.out.row (fun k hk => .inr hk) fun y cs _ hy => Tr.cmK.mono hy fun k hk => .inl hk) B6.out K6.out (by omega)).mono ?_
  rintro e w7 ⟨rfl, hu7⟩
  have X7 := hide (X6.out.upd_nil hu7); have E7 := hide (E6.out.on hu7 (by simp)); have OW7 := hide (Own.upd OWN.out hu7 (by simp) fun y cs _ hy => Tr.cmK.upd hy hu7 (by simp))
  have c18' : w7.cell? ⟨p, 18, none⟩ = some (.slice ao waits.length cap) := by rw [← HV.out]; exact blk_cell X7.out.1 rfl
  clear hu7 c18 X6 E6 OWN B6 K6
  cases hiv : waits.findIdx? (fun w => decide (w = c)) with
  | none =>
    have hval : idxV waits c = -1 := by unfold idxV; rw [hiv]
    have HIV := hide hiv
    rw [hval]
    clear hiv hval
    have d1 : decide ((0 : Int) ≤ -1) = false := by decide
    go_wp2_with fail
    go_end0
    refine ⟨rfl, T5, M6, G6, ?_, E7.out⟩
    have : dropM waits c = waits := by unfold dropM; rw [HIV.out]
    unfold knowM ansM
    simp only [this, HR.out]
    exact X7.out
  | some k =>
    have hval : idxV waits c = (k : Int) := by unfold idxV; rw [hiv]
    have HIV := hide hiv
    rw [hval]
    clear hiv hval
    have hk := (List.findIdx?_eq_some_iff_getElem.1 HIV.out).1
    have d1 : decide ((0 : Int) ≤ (k : Int)) = true := by simp
    have q1 : IntKind.i64.wrap ((k : Int) + 1) = (k : Int) + 1 := IntWalk.i64_in _ (by omega)
    go_wp2_with fail
    refine (delete_any (P := Tr.cmK.holds w7 T5) (l := waits) (base := 0) w7 OW7.out rfl hk (by omega)).mono ?_
    rintro e w8 ⟨rfl, ho8, hu8⟩
    have hsvn : ∀ j ∈ (Value.slice ao waits.length cap).ownBlock.toList, G6.wv.ownBlock = some j := fun j hj => by rw [HV.out]; simpa using hj
    have far : ∀ j ∈ (Value.slice ao waits.length cap).ownBlock.toList, M6 j ∧ ¬ T5 j ∧ j ≠ p := fun j hj => by
      have h5 := X7.out.2.nm.inM 2 j (congrArg some (hsvn j hj))
      exact ⟨h5.1, fun ht => X7.out.2.apt.apart j ht h5.1, X7.out.2.nm.ne (i := 2) (j := 0) (congrArg some (hsvn j hj)) rfl (by decide)⟩
    have ho9 : Own w8 0 Cm.TCmd 7 (Tr.cmK.holds w8 T5) (.slice ao (waits.length - 1) cap) (waits.eraseIdx k) := by
      obtain ⟨cs8, h1, h2, h3⟩ := ho8
      exact ⟨cs8, h1.mono fun y cs _ hy => Tr.cmK.upd hy hu8 fun j hj => (far j hj).2.1, h2, h3⟩
    have hb8 := hu8.get X7.out.1 fun hj => (far p hj).2.2 rfl
    have R8 := X7.out.2.waits' (l' := waits.eraseIdx k) hu8 hsvn ho9 (fun j hj => .inl (by rw [HV.out]; cases ao with
      | none => cases hj
      | some a => exact hj))
    have E8 := (E7.out.on hu8 fun j hj => .inl (far j hj).1).plus (o := (Value.slice ao (waits.length - 1) cap).ownBlock) fun j hj => .inl (X7.out.2.nm.inM 2 j (congrArg some (by rw [HV.out]; cases ao with
      | none => cases hj
      | some a => exact hj))).1
    have us : Upd [p] w8 (w8.setCell ⟨p, 18, none⟩ (.slice ao (waits.length - 1) cap)) := (Upd.refl [p] w8).setCell (p := ⟨p, 18, none⟩) (.inl (by simp)) _
    have R9 := hide (R8.shift us fun j hj => by simp at hj; exact .inl hj)
    have E9 := hide (E8.on us fun j hj => by simp at hj; subst hj; exact .inl R8.pM)
    have b9 := hide (blk_set (i := 18) hb8 (.slice ao (waits.length - 1) cap))
    have c18 : w8.cell? ⟨p, 18, none⟩ = some (.slice ao waits.length cap) := by rw [← HV.out]; exact blk_cell hb8 rfl
    have f18 : w8.frozen? ⟨p, 18, none⟩ = false := blk_free hb8
    clear ho8 hu8 hsvn far ho9 hb8 R8 E8 us c18' X7 E7 OW7
    go_wp2_with fail
    go_end0
    refine ⟨rfl, T5, _, { G6 with wv := .slice ao (waits.length - 1) cap }, ?_, E9.out⟩
    have hd : dropM waits c = waits.eraseIdx k := by unfold dropM; rw [HIV.out]
    unfold knowM ansM
    simp only [hd, HR.out]
    exact ⟨b9.out, R9.out⟩
end Go.Proofs.YtanjnhohfcgapaaGreatDoor.Sg
