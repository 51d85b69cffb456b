/- single.Submit. (Its append printed by shd.py.) -/
import Derived.Test.YtanjnhohfcgapaaGreatDoorShBC
set_option linter.unusedSimpArgs false
set_option linter.unusedVariables false
set_option linter.unnecessarySimpa false
namespace Go.Proofs.YtanjnhohfcgapaaGreatDoor.Sg
open Go.RowKit Go.Proofs.YtanjnhohfcgapaaGreatDoor.Crc Go.Proofs.YtanjnhohfcgapaaGreatDoor.Cm Go.Proofs.YtanjnhohfcgapaaGreatDoor.Tr Go.Proofs.YtanjnhohfcgapaaGreatDoor.Kv Go.Proofs.YtanjnhohfcgapaaGreatDoor.Au
set_option linter.unusedSimpArgs false
set_option linter.unusedVariables false
section
variable {w w3 : World} {T M : Nat → Prop} {p : Nat} {x : Sg} {G : Gh} {css : List (List Value)} {ao ao6 : Option Addr} {cap cap6 : Nat}
theorem XIdle.waits_open (h : XIdle w T M p x G) : ∃ css ao cap, G.wv = .slice ao x.waits.length cap ∧ Each (Tr.cmK.holds w T) x.waits css ∧ (∀ cs ∈ css, cs.length = 7 ∧ ∀ u ∈ cs, u.oneCell' = true) ∧ w.ownsRow 0 Cm.TCmd 7 (.slice ao x.waits.length cap) x.waits.length css.flatten ∧ x.waits.length ≤ cap ∧ cap ≤ maxLen := by
  obtain ⟨css, he1, he2, hown⟩ := h.2.waits
  obtain ⟨ao, cap, hv, h1, h2, -⟩ := owns_slice hown
  rw [hv] at hown
  exact ⟨css, ao, cap, hv, he1, he2, hown, h1, h2⟩
theorem XIdle.waits_more {c : Cm} {cs : List Value} (h : XIdle w T M p x G) (hv : G.wv = .slice ao x.waits.length cap) (he : Each (Tr.cmK.holds w T) x.waits css) (hb : ∀ cs ∈ css, cs.length = 7 ∧ ∀ u ∈ cs, u.oneCell' = true) (hk : Tr.cmK.holds w T c cs)
    (hown : w3.ownsRow 0 Cm.TCmd 7 (.slice ao6 (x.waits.length + 1) cap6) (x.waits.length + 1) (css.flatten ++ cs)) (hU : Upd (Value.slice ao x.waits.length cap).ownBlock.toList w w3) (hn : ∀ g, (Value.slice ao6 (x.waits.length + 1) cap6).ownBlock = some g → (Value.slice ao x.waits.length cap).ownBlock = some g ∨ w.heap.size ≤ g) :
    (w3.heap[p]? = some (.cells (sgc x G) TSg (0, 0)) ∧ True) ∧ XIdle (w3.setCell ⟨p, 18, none⟩ (.slice ao6 (x.waits.length + 1) cap6)) T (plus M (Value.slice ao6 (x.waits.length + 1) cap6).ownBlock) p { x with waits := x.waits ++ [c] } { G with wv := .slice ao6 (x.waits.length + 1) cap6 } ∧
      Ext w T M (w3.setCell ⟨p, 18, none⟩ (.slice ao6 (x.waits.length + 1) cap6)) T (plus M (Value.slice ao6 (x.waits.length + 1) cap6).ownBlock) := by
  have hsvn : ∀ k ∈ (Value.slice ao x.waits.length cap).ownBlock.toList, G.bare.wv.ownBlock = some k := fun k hk => by show G.wv.ownBlock = some k; rw [hv]; simpa using hk
  have far : ∀ k ∈ (Value.slice ao x.waits.length cap).ownBlock.toList, M k ∧ ¬ T k ∧ k ≠ p := fun k hk => by
    have h5 := h.2.nm.inM 2 k (congrArg some (hsvn k hk))
    exact ⟨h5.1, fun ht => h.2.apt.apart k ht h5.1, h.2.nm.ne (i := 2) (j := 0) (congrArg some (hsvn k hk)) rfl (by decide)⟩
  have hown4 : Own w3 0 Cm.TCmd 7 (Tr.cmK.holds w3 T) (.slice ao6 (x.waits.length + 1) cap6) (x.waits ++ [c]) :=
    Own.more (he.mono (Q := Tr.cmK.holds w3 T) fun y cs _ hy => Tr.cmK.upd hy hU fun k hk => (far k hk).2.1) hb (Tr.cmK.upd hk hU fun k hk => (far k hk).2.1) (Tr.cmK.len hk) (Tr.cmK.one hk) rfl hown
  have hn6' : ∀ k, (Value.slice ao6 (x.waits.length + 1) cap6).ownBlock = some k → G.bare.wv.ownBlock = some k ∨ w.heap.size ≤ k := fun k hk => by show G.wv.ownBlock = some k ∨ _; rw [hv]; exact hn k hk
  have hb4 := hU.get h.1 fun hk => (far p hk).2.2 rfl
  have R4 := h.2.waits' (l' := x.waits ++ [c]) hU hsvn hown4 hn6'
  have E4 := ((Ext.refl w T M).on hU fun k hk => .inl (far k hk).1).plus (o := (Value.slice ao6 (x.waits.length + 1) cap6).ownBlock) fun k hk => by
    rcases hn6' k hk with h5 | h5
    · exact .inl (h.2.nm.inM 2 k (congrArg some h5)).1
    · exact .inr (by omega)
  have us : Upd [p] w3 (w3.setCell ⟨p, 18, none⟩ (.slice ao6 (x.waits.length + 1) cap6)) := (Upd.refl [p] w3).setCell (p := ⟨p, 18, none⟩) (.inl (by simp)) _
  refine ⟨⟨hb4, trivial⟩, ⟨?_, R4.shift us fun k hk => by simp at hk; exact .inl hk⟩, E4.on us fun k hk => by simp at hk; subst hk; exact .inl R4.pM⟩
  exact blk_set (i := 18) hb4 (.slice ao6 (x.waits.length + 1) cap6)
end
set_option maxRecDepth 100000 in
set_option maxHeartbeats 8000000 in
theorem submit_step {T0 M0 : Nat → Prop} {p L : Nat} {x : Sg} {G0 : Gh} {c : Cm} {ks : Value} (w0 : World) (h : Hi w0 T0 M0 p L x G0) (hk : Ky w0 T0 ks c) (hc : Sm c) :
    Calls Tryz.prog 27 #[.pointer (some ⟨p, 0, none⟩), cmv c ks] w0 fun e w' => e = .returned (.int .i64 (((submitM c x).2 : Nat) : Int)) ∧ ∃ T' M' G', XIdle w' T' M' p (submitM c x).1 G' ∧ Ext w0 T0 M0 w' T' M' := by
  obtain ⟨r, hr⟩ : ∃ r, submitM c x = r := ⟨_, rfl⟩
  rw [hr]
  have HR := hide hr
  obtain ⟨xk, ck, rfl⟩ := hk.slice
  have X0 := hide h.at'; have K0 := hide hk; have ENV := hide h.env; have HC := hide hc
  have hl2 := h.ok.waits
  have hpl := blk_lt h.at'.1
  clear h hk hc hr
  unfold cmv
  simp only [strV]
  go_enter Tryz.func27, Tryz.ntmps27
  go_upto_region 3 with fail
  have hB := blk_new w0 (.cells (cmc c (.slice xk c.keys.length ck)).toArray Cm.TCmd)
  have hal := (Upd.refl [] w0).alloc (.cells (cmc c (.slice xk c.keys.length ck)).toArray Cm.TCmd)
  change Code.wp _ _ _ _ (w0.alloc (.cells (cmc c (.slice xk c.keys.length ck)).toArray Cm.TCmd))
  generalize w0.alloc (.cells (cmc c (.slice xk c.keys.length ck)).toArray Cm.TCmd) = wq at *
  obtain ⟨B, hBn⟩ : ∃ B, w0.heap.size = B := ⟨_, rfl⟩
  have NQ : Hid (¬ M0 B ∧ ¬ T0 B) := hide (by rw [← hBn]; exact X0.out.2.apt.new (Nat.le_refl _))
  have HBN := hide hBn
  rw [hBn] at hB hpl ⊢
  have XQ := hide (X0.out.upd_nil hal); have EQ := hide (Ext.of_nil hal T0 M0); have KQ := hide (K0.out.upd hal (by simp)); have BQ := hide hB
  clear hB hal hBn K0
  obtain ⟨y0, y1, y2, y3, y4, y5, y6⟩ := cmc_cells BQ.out
  obtain ⟨cv, hcv⟩ : ∃ cv, checkM c = cv := ⟨_, rfl⟩
  have hch := check_any (c := c) (v := cmv c (.slice xk c.keys.length ck)) (T := T0) wq (EQ.out.envM ENV.out).1.cnt KQ.out.at
  rw [hcv] at hch
  have HCH := hide hch; have HCV := hide hcv
  clear hch hcv
  go_wp2_with fail
  refine HCH.out.mono ?_
  rintro e w1 ⟨hu1, rfl⟩
  have X1 := hide (XQ.out.upd_nil hu1); have E1 := hide (EQ.out.on hu1 (by simp)); have K1 := hide (KQ.out.upd hu1 (by simp)); have B1 := hide (hu1.get BQ.out (by simp)); have N1 := NQ
  clear hu1 XQ EQ KQ BQ NQ y0 y1 y2 y3 y4 y5 y6 HCH
  by_cases hg : Cm.Good c
  · have e0 : cv = 0 := by rw [← HCV.out]; unfold checkM; rw [if_pos hg]
    subst e0
    obtain ⟨cssq, aoq, capq, hvq, -, -, -, -, -⟩ := X1.out.waits_open
    have c18 : w1.cell? ⟨p, 18, none⟩ = some (.slice aoq x.waits.length capq) := by rw [← hvq]; exact blk_cell X1.out.1 rfl
    clear hvq
    by_cases hfull : x.waits.length = 4096
    · have d1 : ((x.waits.length : Int) == 4096) = true := by rw [hfull]; rfl
      have eR : r = (x, 30) := by rw [← HR.out]; unfold submitM; rw [if_neg (fun h => h hg), if_pos hfull]
      subst eR
      clear hfull hg
      go_wp2_with fail
      go_ret
      exact ⟨rfl, _, _, ⟨_, X1.out⟩, E1.out⟩
    · have d1 : ((x.waits.length : Int) == 4096) = false := by simp; omega
      have eR : r = ({ x with waits := x.waits ++ [c] }, 0) := by rw [← HR.out]; unfold submitM; rw [if_neg (fun h => h hg), if_neg hfull]
      subst eR
      clear hfull hg
      go_upto_region 7 with fail
      clear c18 d1
      obtain ⟨T1, hT1⟩ : ∃ T', T0 = T' := ⟨_, rfl⟩
      obtain ⟨M1, hM1⟩ : ∃ T', M0 = T' := ⟨_, rfl⟩
      obtain ⟨G1, hG1⟩ : ∃ T', G0 = T' := ⟨_, rfl⟩
      have E1' : Hid (Ext w0 T0 M0 w1 T1 M1) := hide (by rw [← hT1, ← hM1]; exact E1.out)
      rw [hT1, hM1] at N1
      rw [hT1] at K1
      rw [hT1, hM1, hG1] at X1
      clear E1 hT1 hM1 hG1
      have E1 := E1'
      clear E1'
      have hz1 := E1.out.size
      obtain ⟨css, ao, cap, hv, he, hb, hown, hc1, hc2⟩ := X1.out.waits_open
      have HV := hide hv; have HEE := hide he; have HBB := hide hb; have OW := hide hown
      simp only [maxLen] at hc2
      obtain ⟨i1, hi1, iz0, iz1, iz2⟩ := info_parts infoC
      have s0 : (w1.drewN 1).heap[p]? = some (.cells (sgc x G1) TSg (0, 0)) ∧ (w1.drewN 1).heap[B]? = some (.cells (cmc c (.slice xk c.keys.length ck)).toArray Cm.TCmd (0, 0)) := ⟨X1.out.1, B1.out⟩
      clear hv he hb hown
      refine wp_region_z (fun wx => wx.heap[p]? = some (.cells (sgc x G1) TSg (0, 0)) ∧ wx.heap[B]? = some (.cells (cmc c (.slice xk c.keys.length ck)).toArray Cm.TCmd (0, 0))) 11 (by kernel_rfl) ?_
      refine zE 0 rfl (by kernel_rfl) (fun _ _ _ _ h => h) rfl (by exact s0) ?_
      apply Exists.intro
      refine ⟨fun wx hS => ?_, ?_⟩
      · go_simp; rfl
      simp only [Act.put, List.setIfInBounds_toArray, List.set_cons_succ, List.set_cons_zero, List.getElem_toArray, List.getElem_cons_zero]
      refine zE 1 rfl (by kernel_rfl) (fun _ _ _ _ h => h) rfl (by exact s0) ?_
      apply Exists.intro
      refine ⟨fun wx hS => ?_, ?_⟩
      · go_simp; rfl
      simp only [Act.put, zz1, zz2, zz3, zz4, zz5, zz6]
      refine zE 2 rfl (by kernel_rfl) (fun _ _ _ _ h => h) rfl (by exact s0) ?_
      apply Exists.intro
      refine ⟨fun wx hS => ?_, ?_⟩
      · go_simp; rfl
      simp only [Act.put, zz1, zz2, zz3, zz4, zz5, zz6]
      refine zE 3 rfl (by kernel_rfl) (fun _ _ _ _ h => h) rfl (by exact s0) ?_
      apply Exists.intro
      refine ⟨fun wx hS => ?_, ?_⟩
      · go_simp; rfl
      simp only [Act.put, zz1, zz2, zz3, zz4, zz5, zz6]
      refine zE 4 rfl (by kernel_rfl) (fun _ _ _ _ h => h) rfl (by exact s0) ?_
      apply Exists.intro
      refine ⟨fun wx hS => ?_, ?_⟩
      · have c0 : wx.cell? ⟨p, 18, none⟩ = some (.slice ao x.waits.length cap) := (by rw [← HV.out] ; exact blk_cell hS.1 rfl); go_simp; rfl
      simp only [Act.put, zz1, zz2, zz3, zz4, zz5, zz6]
      refine zE 5 rfl (by kernel_rfl) (fun _ _ _ _ h => h) rfl (by exact s0) ?_
      apply Exists.intro
      refine ⟨fun wx hS => ?_, ?_⟩
      · obtain ⟨y0, y1, y2, y3, y4, y5, y6⟩ := cmc_cells hS.2; go_simp; rfl
      simp only [Act.put, zz1, zz2, zz3, zz4, zz5, zz6]
      refine wpAnyZ_one 6 (by kernel_rfl) rfl rfl (fun K hK => ?_)
      try simp only [List.getElem_toArray, List.getElem_cons_succ, List.getElem_cons_zero]
      go_simp
      refine (copied_any (c := c) (w1.drewN 1) (K1.out.upd ((Upd.refl [] w1).drewN 1) (by simp)).at (by have := HC.out.2; omega)).mono ?_
      rintro e wa ⟨⟨ks', rfl, hk'⟩, hua⟩
      obtain ⟨xl, cl, rfl⟩ := hk'.slice
      have hud : Upd [] w1 wa := ((Upd.refl [] w1).drewN 1).trans hua
      have XA := hide (show XIdle wa (Sg.fresh w1 wa T1) M1 p x G1 from ⟨hud.get X1.out.1 (by simp), X1.out.2.fresh hud⟩)
      have EA := hide (E1.out.trans (Ext.fresh hud T1 M1)); have BA := hide (hud.get B1.out (by simp)); have KA := hide ((K1.out.upd hud (by simp)).mono (U := Sg.fresh w1 wa T1) fun k hk => .inl hk)
      have KN := hide (hk'.mono (U := Sg.fresh w1 wa T1) fun k hk => .inr hk)
      have NA : Hid (¬ M1 B ∧ ¬ Sg.fresh w1 wa T1 B) := hide ⟨N1.out.1, fun h => by
        rcases h with h | h
        · exact N1.out.2 h
        · have := h.1; have := blk_lt B1.out; omega⟩
      have OWA := hide (owns_upd OW.out hud (by simp)); have EEA := hide (HEE.out.mono (Q := Tr.cmK.holds wa (Sg.fresh w1 wa T1)) fun y cs _ hy => Tr.cmK.mono (Tr.cmK.upd hy hud (by simp)) fun k hk => .inl hk)
      generalize Sg.fresh w1 wa T1 = TA at *
      have hza := EA.out.size
      clear hua hud hk' s0 OW HEE X1 E1 K1 N1
      have sa : wa.heap[p]? = some (.cells (sgc x G1) TSg (0, 0)) ∧ wa.heap[B]? = some (.cells (cmc c (.slice xk c.keys.length ck)).toArray Cm.TCmd (0, 0)) := ⟨XA.out.1, BA.out⟩
      clear B1
      unfold cmv
      simp only [strV]
      refine hK _ _ (.inr sa) ?_
      clear hK K
      try simp only [Act.put, zz1, zz2, zz3]
      refine wpAnyZ_one 7 (by kernel_rfl) rfl rfl (fun K hK => ?_)
      try simp only [List.getElem_toArray, List.getElem_cons_succ, List.getElem_cons_zero]
      go_simp
      have hBN := blk_new wa (.cells (cmc c (.slice xl c.keys.length cl)).toArray Cm.TCmd)
      have halb := (Upd.refl [] wa).alloc (.cells (cmc c (.slice xl c.keys.length cl)).toArray Cm.TCmd)
      change K _ (wa.alloc (.cells (cmc c (.slice xl c.keys.length cl)).toArray Cm.TCmd))
      obtain ⟨wb, hwb⟩ : ∃ wb, wa.alloc (.cells (cmc c (.slice xl c.keys.length cl)).toArray Cm.TCmd) = wb := ⟨_, rfl⟩
      rw [hwb] at hBN halb ⊢
      obtain ⟨Q, hQ⟩ : ∃ Q, wa.heap.size = Q := ⟨_, rfl⟩
      rw [hQ] at hBN ⊢
      have XB := hide (XA.out.upd_nil halb); have EB := hide (EA.out.on halb (by simp)); have BB := hide (halb.get BA.out (by simp)); have KB := hide (KA.out.upd halb (by simp)); have KNB := hide (KN.out.upd halb (by simp))
      have OWB := hide (owns_upd OWA.out halb (by simp)); have EEB := hide (EEA.out.mono (Q := Tr.cmK.holds wb TA) fun y cs _ hy => Tr.cmK.upd hy halb (by simp))
      have SR := hide (cmc_src hBN rfl)
      have hzb := halb.size
      have sb : wb.heap[p]? = some (.cells (sgc x G1) TSg (0, 0)) ∧ wb.heap[B]? = some (.cells (cmc c (.slice xk c.keys.length ck)).toArray Cm.TCmd (0, 0)) := ⟨XB.out.1, BB.out⟩
      clear hwb hBN halb hQ XA EA BA KA KN OWA EEA sa
      refine hK _ _ (.inr sb) ?_
      clear hK K
      try simp only [Act.put, zz1, zz2, zz3]
      refine wpAnyZ_one 8 (by kernel_rfl) rfl rfl (fun K hK => ?_)
      try simp only [List.getElem_toArray, List.getElem_cons_succ, List.getElem_cons_zero]
      refine wp_append_src _ _ _ 31 rfl 0 Cm.TCmd i1 (.agg ZA) 7 80 Tryz.underlying31 hi1 iz0 iz1 iz2 rfl (by decide) (.slice ao x.waits.length cap) x.waits.length css.flatten rfl (by exact OWB.out) (some ⟨Q, 0, none⟩) 1 1 (cmc c (.slice xl c.keys.length cl)) rfl (by exact SR.out) (by unfold maxLen; omega) (by omega) (by have := HBN.out; omega) ?_
      intro ao6 cap6 wc hown6 hU6 hn6
      have HM := hide (XB.out.waits_more (c := c) HV.out EEB.out HBB.out ⟨HC.out.1, _, rfl, KNB.out.2⟩ hown6 hU6 hn6)
      have far : ∀ k ∈ (Value.slice ao x.waits.length cap).ownBlock.toList, M1 k ∧ ¬ TA k := fun k hk => by
        have h5 := XB.out.2.nm.inM 2 k (congrArg some (by show G1.wv.ownBlock = some k; rw [HV.out]; simpa using hk))
        exact ⟨h5.1, fun ht => XB.out.2.apt.apart k ht h5.1⟩
      have BC := hide (hU6.get BB.out fun hk => NA.out.1 (far B hk).1); have KC := hide (KB.out.upd hU6 fun k hk => (far k hk).2)
      have sc : wc.heap[p]? = some (.cells (sgc x G1) TSg (0, 0)) ∧ wc.heap[B]? = some (.cells (cmc c (.slice xk c.keys.length ck)).toArray Cm.TCmd (0, 0)) := ⟨HM.out.1.1, BC.out⟩
      have pB : p ≠ B := fun e => NA.out.1 (e ▸ XB.out.2.pM)
      have y4 : wc.cell? ⟨p, 18, none⟩ = some (.slice ao x.waits.length cap) := by rw [← HV.out]; exact blk_cell sc.1 rfl
      have f4 : wc.frozen? ⟨p, 18, none⟩ = false := blk_free sc.1
      have BLT := hide (blk_lt BB.out)
      clear hown6 hU6 hn6 far sb BB KB KNB OWB EEB SR HBB XB
      refine hK _ _ (.inr sc) ?_
      clear hK K
      try simp only [Act.put, zz1, zz2, zz3]
      refine wpAnyZ_one 9 (by kernel_rfl) rfl rfl (fun K hK => ?_)
      try simp only [List.getElem_toArray, List.getElem_cons_succ, List.getElem_cons_zero]
      go_simp
      refine hK _ _ (.inr sc) ?_
      clear hK K
      try simp only [Act.put, zz1, zz2, zz3]
      refine wpAnyZ_one 10 (by kernel_rfl) rfl rfl (fun K hK => ?_)
      try simp only [List.getElem_toArray, List.getElem_cons_succ, List.getElem_cons_zero]
      go_simp
      refine hK _ _ (.inr sc) ?_
      clear hK K
      try simp only [Act.put, zz1, zz2, zz3]
      refine wpAnyZ_one 11 (by kernel_rfl) rfl rfl (fun K hK => ?_)
      try simp only [List.getElem_toArray, List.getElem_cons_succ, List.getElem_cons_zero]
      go_simp
      refine hK _ _ (.inl rfl) ?_
      clear hK K
      try simp only [Act.put, zz1, zz2, zz3]
      clear f4 y4 sc
      refine wpAnyZ_done (by kernel_rfl) ?_ _

      have uz : Upd [p] wc (wc.setCell ⟨p, 18, none⟩ (.slice ao6 (x.waits.length + 1) cap6)) := (Upd.refl [p] wc).setCell (p := ⟨p, 18, none⟩) (.inl (by simp)) _
      have X2 := hide HM.out.2.1; have E2 := hide (EB.out.trans HM.out.2.2)
      have B2 := hide (uz.get BC.out (by simp; exact fun e => pB e.symm))
      have K2 := hide (KC.out.upd uz fun k hk => by simp at hk; subst hk; exact fun h => X2.out.2.apt.apart _ h X2.out.2.pM)
      have N2 := hide (HM.out.2.2.not BLT.out NA.out)
      clear HM uz EB BC KC NA pB HV BLT hc1 hc2
      try clear hza hzb
      generalize wc.setCell ⟨p, 18, none⟩ (.slice ao6 (x.waits.length + 1) cap6) = w2 at *
      generalize plus M1 (Value.slice ao6 (x.waits.length + 1) cap6).ownBlock = M2 at *
      obtain ⟨G2, hG2⟩ : ∃ G', { G1 with wv := .slice ao6 (x.waits.length + 1) cap6 } = G' := ⟨_, rfl⟩
      rw [hG2] at X2
      obtain ⟨T2, hT2⟩ : ∃ T', TA = T' := ⟨_, rfl⟩
      rw [hT2] at X2 E2 K2 N2
      clear hG2 hT2
      try clear i1 hi1 iz0 iz1 iz2
      go_wp2_with fail
      go_ret
      exact ⟨rfl, _, _, ⟨_, X2.out⟩, E2.out⟩
  · have e0 : cv = 1 := by rw [← HCV.out]; unfold checkM; rw [if_neg hg]
    subst e0
    have eR : r = (x, 1) := by rw [← HR.out]; unfold submitM; rw [if_pos hg]
    subst eR
    clear hg
    go_wp2_with fail
    go_ret
    exact ⟨rfl, _, _, ⟨_, X1.out⟩, E1.out⟩
end Go.Proofs.YtanjnhohfcgapaaGreatDoor.Sg
