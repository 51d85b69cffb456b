/- single.Take. -/
import Derived.Test.YtanjnhohfcgapaaGreatDoorSgYZ
import Derived.Test.YtanjnhohfcgapaaGreatDoorSgST
import Derived.Test.YtanjnhohfcgapaaGreatDoorSgU
import Derived.Test.YtanjnhohfcgapaaGreatDoorSgV
set_option linter.unusedSimpArgs false
set_option linter.unusedVariables false
set_option linter.unnecessarySimpa false
namespace Go.Proofs.YtanjnhohfcgapaaGreatDoor.Sg
open Go.RowKit Go.Proofs.YtanjnhohfcgapaaGreatDoor.Crc Go.Proofs.YtanjnhohfcgapaaGreatDoor.Cm Go.Proofs.YtanjnhohfcgapaaGreatDoor.Tr Go.Proofs.YtanjnhohfcgapaaGreatDoor.Kv Go.Proofs.YtanjnhohfcgapaaGreatDoor.Au
set_option linter.unusedSimpArgs false
set_option linter.unusedVariables false
theorem own_get {w : World} {T : Nat → Prop} {base : Nat} {v : Value} {l : List Cm} (h : Own w base Cm.TCmd 7 (Tr.cmK.holds w T) v l) : ∃ (xo : Option Addr) (c : Nat), v = .slice xo l.length c ∧ l.length ≤ c ∧ c ≤ maxLen ∧
    ∀ i c, l[i]? = some c → ∃ b off ka kc, xo = some ⟨b, off, none⟩ ∧ b < w.heap.size ∧ c.Fits ∧ Strs w T (.slice ka c.keys.length kc) c.keys ∧ Kv.Cells7 w b (off + i * 7) c ka kc := by
  obtain ⟨xo, c, rfl, h1, h2, hg⟩ := Row.get (by decide) (Own.row h)
  refine ⟨xo, c, rfl, h1, h2, fun i c hi => ?_⟩
  obtain ⟨b, off, cs, rfl, hb, -, ⟨fit, ks, rfl, hks⟩, -, hcell⟩ := hg i c hi
  obtain ⟨ka, kc, rfl, -, -, -⟩ := hks.get
  have cc : ∀ j u, (cmc c (.slice ka c.keys.length kc))[j]? = some u → w.cell? ⟨b, off + i * 7 + j, none⟩ = some u := fun j u hj => hcell j u hj
  exact ⟨b, off, ka, kc, rfl, hb, fit, hks, cc 0 _ rfl, cc 1 _ rfl, cc 2 _ rfl, cc 3 _ rfl, cc 4 _ rfl, cc 5 _ rfl, cc 6 _ rfl⟩
set_option maxRecDepth 100000 in
set_option maxHeartbeats 8000000 in
theorem take1_any {T M : Nat → Prop} {z p L Bx Bf Bm : Nat} {x : Sg} {G : Gh} {m : Mg} {ks : Value} {f : Int} {t1 t2 : TypeId} (w : World) (h : Hp w T M z p L x Ou.zero G) (hL : L ≤ 10000) (hm : MgOk m) (hk : Ky w T ks m.cmd) (hx : w.heap[Bx]? = some (.cells #[.pointer (some ⟨p, 0, none⟩)] t1 (0, 0))) (hf : w.heap[Bf]? = some (.cells #[.int .i64 f] t2 (0, 0))) (hmb : w.heap[Bm]? = some (.cells (mgA m ks) TMg (0, 0))) :
    Calls Tryz.prog 64 #[.pointer (some ⟨Bx, 0, none⟩), .pointer (some ⟨Bf, 0, none⟩), .pointer (some ⟨Bm, 0, none⟩)] w fun e w' => e = .returned (.tuple #[]) ∧ Aft z p w T M (takeS f m x) w' := by
  obtain ⟨xk, ck, rfl⟩ := hk.slice
  have HH := hide h; have HX := hide hx; have HF := hide hf; have HB := hide hmb; have K0 := hide hk; have HMO := hide hm
  clear h hx hf hmb hk hm
  obtain ⟨q, hq⟩ : ∃ q, takeS f m x = q := ⟨_, rfl⟩
  rw [hq]
  have HQ := hide hq
  clear hq
  have qx : ∀ wx, Upd [] w wx → wx.cell? ⟨Bx, 0, none⟩ = some (.pointer (some ⟨p, 0, none⟩)) := fun wx hu => blk_cell (hu.get HX.out (by simp)) rfl
  have qf : ∀ wx, Upd [] w wx → wx.cell? ⟨Bf, 0, none⟩ = some (.int .i64 f) := fun wx hu => blk_cell (hu.get HF.out (by simp)) rfl
  have QX := hide qx; have QF := hide qf
  clear qx qf
  go_enter Tryz.func64, Tryz.ntmps64
  have qx := QX.out w (Upd.refl [] w); have qf := QF.out w (Upd.refl [] w)
  obtain ⟨y0, y1, y2, y3, y4, y5, y6, y7, y8, y9, y10, y11, y12, y13⟩ := mg_cells HB.out
  obtain ⟨mb, hmb⟩ : ∃ mb, decide (mayT x f m) = mb := ⟨_, rfl⟩
  have hmay := may_any (f := f) w HH.out HMO.out K0.out
  rw [hmb] at hmay
  have HMAY := hide hmay; have HMB := hide hmb
  clear hmay hmb
  go_wp2_with fail
  refine HMAY.out.mono ?_
  rintro e w1 ⟨rfl, hu1⟩
  have U1 := hide hu1
  clear hu1 qx qf y0 y1 y2 y3 y4 y5 y6 y7 y8 y9 y10 y11 y12 y13 HMAY
  cases mb with
  | false =>
    have hno : ¬ mayT x f m := by simpa using HMB.out
    have e : q = (x, Ou.zero) := by rw [← HQ.out]; unfold takeS; rw [if_pos hno]
    subst e
    clear hno
    go_wp2_with fail
    go_end0
    exact ⟨rfl, T, M, G, HH.out.at'.upd_nil U1.out, Ext.of_nil U1.out T M⟩
  | true =>
    have hyes : mayT x f m := by simpa using HMB.out
    have HY := hide hyes
    clear hyes
    have qy : ∀ n, (w1.drewN n).cell? ⟨Bm, 1, none⟩ = some (.int .u64 (m.slot : Int)) := fun n => (mg_cells ((U1.out.drewN n).get HB.out (by simp))).2.1
    have qx : ∀ n, (w1.drewN n).cell? ⟨Bx, 0, none⟩ = some (.pointer (some ⟨p, 0, none⟩)) := fun n => QX.out _ (U1.out.drewN n)
    have hlen : x.log.length ≤ 1000000 := by have := HH.out.ok.len; omega
    have SL : Hid (∀ wx, Upd [] w wx → Calls Tryz.prog 66 #[.pointer (some ⟨p, 0, none⟩)] wx fun e w' => e = .returned (.int .u64 (x.slot : Int)) ∧ wx = w') := hide fun wx hu => slot_any wx (HH.out.at'.upd_nil hu) hlen
    by_cases c1 : x.slot < m.slot
    · have d1 : decide ((x.slot : Int) < (m.slot : Int)) = true := by simp; omega
      have d1' : decide (x.slot < m.slot) = true := by simpa using c1
      have C1 := hide c1
      clear c1
      go_upto_region 2 with fail
      go_quiet ((go_at_call 66; exact quiet_left (SL.out _ (U1.out.drewN _))))
      clear qy qx
      have eQ : q = (x, if m.kind = 7 then Ou.zero else sendM Ou.zero f (mg 7 x.slot Bal.zero)) := by rw [← HQ.out]; unfold takeS; rw [if_neg (fun h => h HY.out), if_pos C1.out]
      obtain ⟨w2, hw2⟩ : ∃ w2, w1.drewN nq = w2 := ⟨_, rfl⟩
      have U2 : Hid (Upd [] w w2) := hide (by rw [← hw2]; exact U1.out.drewN nq)
      rw [hw2]
      clear hw2
      have y0 : w2.cell? ⟨Bm, 0, none⟩ = some (.int .u8 (m.kind : Int)) := (mg_cells (U2.out.get HB.out (by simp))).1
      by_cases h7 : m.kind = 7
      · have e1 : ((m.kind : Int) != 7) = false := by rw [h7]; rfl
        rw [if_pos h7] at eQ
        subst eQ
        clear h7
        go_wp2_with fail
        go_end0
        exact ⟨rfl, T, M, G, HH.out.at'.upd_nil U2.out, Ext.of_nil U2.out T M⟩
      · have e1 : ((m.kind : Int) != 7) = true := by simp; omega
        rw [if_neg h7] at eQ
        subst eQ
        clear h7
        go_upto_region 4 with fail
        have s0 : Upd [] w (w2.drewN 1) := U2.out.drewN 1
        refine wp_region_z (fun wx => Upd [] w wx) 5 (by kernel_rfl) ?_
        refine zT 0 rfl (by kernel_rfl) (fun _ _ _ _ h => h) rfl (by exact s0) ?_
        apply Exists.intro
        refine ⟨fun wx hS => ?_, ?_⟩
        · have r := QX.out _ hS; go_simp; rfl
        simp only [Act.put, List.setIfInBounds_toArray, List.set_cons_succ, List.set_cons_zero, List.getElem_toArray, List.getElem_cons_zero]
        refine zT 1 rfl (by kernel_rfl) (fun _ _ _ _ h => h) rfl (by exact s0) ?_
        apply Exists.intro
        refine ⟨fun wx hS => ?_, ?_⟩
        · have r := QF.out _ hS; go_simp; rfl
        simp only [Act.put, zz1, zz2, zz3, zz4, zz5, zz6]
        refine zT 2 rfl (by kernel_rfl) (fun _ _ _ _ h => h) rfl (by exact s0) ?_
        apply Exists.intro
        refine ⟨fun wx hS => ?_, ?_⟩
        · have r := QX.out _ hS; go_simp; rfl
        simp only [Act.put, zz1, zz2, zz3, zz4, zz5, zz6]
        refine wpAnyZ_one 3 (by kernel_rfl) rfl rfl (fun K hK => ?_)
        try simp only [List.getElem_toArray, List.getElem_cons_succ, List.getElem_cons_zero]
        go_simp
        refine (SL.out _ s0).mono ?_
        rintro e w3 ⟨rfl, rfl⟩
        refine hK _ _ (.inr s0) ?_
        clear hK K
        try simp only [Act.put, zz1, zz2, zz3]
        refine zT 4 rfl (by kernel_rfl) (fun _ _ _ _ h => h) rfl (by exact s0) ?_
        apply Exists.intro
        refine ⟨fun wx hS => ?_, ?_⟩
        · go_simp; rfl
        simp only [Act.put, zz1, zz2, zz3, zz4, zz5, zz6]
        refine wpAnyZ_one 5 (by kernel_rfl) rfl rfl (fun K hK => ?_)
        try simp only [List.getElem_toArray, List.getElem_cons_succ, List.getElem_cons_zero]
        go_simp
        refine (send_any (z := z) (x := x) (dst := f) (m := mg 7 x.slot Bal.zero) (ks := .slice none 0 0) (w2.drewN 1) (HH.out.at'.upd_nil s0) ⟨by simp [mg], by show x.log.length + 1 < _; omega, by simp [mg, Bal.zero], by simp [mg, Bal.zero], by simp [mg, Cm.zero]⟩ (Ky.zero _ _) (by have := HH.out.z; have := s0.size; omega) (by simp [Ou.zero])).mono ?_
        rintro e w4 ⟨rfl, h4⟩
        have H4 := hide (Aft.ext (s := (x, sendM Ou.zero f (mg 7 x.slot Bal.zero))) (Ext.of_nil s0 T M) h4)
        clear h4 s0
        refine hK _ _ (.inl rfl) ?_
        clear hK K
        try simp only [Act.put, zz1, zz2, zz3]
        refine wpAnyZ_done (by kernel_rfl) ?_ _
        go_wp2_with fail
        go_end0
        exact ⟨rfl, H4.out⟩
    · have d1 : decide ((x.slot : Int) < (m.slot : Int)) = false := by simp; omega
      have d1' : decide (x.slot < m.slot) = false := by simpa using c1
      have C1 := hide c1
      go_upto_region 2 with fail
      go_quiet ((go_at_call 66; exact quiet_left (SL.out _ (U1.out.drewN _))))
      clear qy qx d1 d1'
      obtain ⟨w2, hw2⟩ : ∃ w2, w1.drewN nq = w2 := ⟨_, rfl⟩
      have U2 : Hid (Upd [] w w2) := hide (by rw [← hw2]; exact U1.out.drewN nq)
      rw [hw2]
      clear hw2
      have qy : ∀ n, (w2.drewN n).cell? ⟨Bm, 1, none⟩ = some (.int .u64 (m.slot : Int)) := fun n => (mg_cells ((U2.out.drewN n).get HB.out (by simp))).2.1
      have qx : ∀ n, (w2.drewN n).cell? ⟨Bx, 0, none⟩ = some (.pointer (some ⟨p, 0, none⟩)) := fun n => QX.out _ (U2.out.drewN n)
      by_cases c2 : m.slot < x.slot
      · have d1 : decide ((m.slot : Int) < (x.slot : Int)) = true := by simp; omega
        have d1' : decide (m.slot < x.slot) = true := by simpa using c2
        have C2 := hide c2
        clear c1 c2
        go_upto_region 5 with fail
        go_quiet ((go_at_call 66; exact quiet_left (SL.out _ (U2.out.drewN _))))
        clear qy qx d1 d1'
        obtain ⟨w3, hw3⟩ : ∃ w3, w2.drewN nq = w3 := ⟨_, rfl⟩
        have U3 : Hid (Upd [] w w3) := hide (by rw [← hw3]; exact U2.out.drewN nq)
        rw [hw3]
        clear hw3 U2
        obtain ⟨y0, y1, -⟩ := mg_cells (U3.out.get HB.out (by simp))
        have eQ : q = (x, if 0 < m.slot ∧ (m.kind = 1 ∨ m.kind = 4 ∨ m.kind = 7) then sendM Ou.zero f (mgc 6 m.slot Bal.zero (x.log.getD (m.slot - 1) Cm.zero)) else Ou.zero) := by rw [← HQ.out]; unfold takeS; rw [if_neg (fun h => h HY.out), if_neg C1.out, if_pos C2.out]
        by_cases e0 : m.slot = 0
        · have e1 : decide ((0 : Int) < (m.slot : Int)) = false := by simp; omega
          have e1' : decide (0 < m.slot) = false := by simp; omega
          have e1'' : ((m.slot : Int)) = 0 := by omega
          rw [if_neg (by omega)] at eQ
          subst eQ
          clear e0
          go_wp2_with fail
          go_end0
          exact ⟨rfl, T, M, G, HH.out.at'.upd_nil U3.out, Ext.of_nil U3.out T M⟩
        · have e1 : decide ((0 : Int) < (m.slot : Int)) = true := by simp; omega
          have e1' : 0 < m.slot := by omega
          have e1'' : decide (0 < m.slot) = true := by simpa using e1'
          by_cases k1 : m.kind = 1
          · have f1 : ((m.kind : Int) == 1) = true := by rw [k1]; rfl
            rw [if_pos ⟨by omega, .inl k1⟩] at eQ
            have E0 := hide e0
            clear k1 e0
            obtain ⟨i, hi⟩ : ∃ i, m.slot = i + 1 := ⟨m.slot - 1, by have := E0.out; omega⟩
            have hil : i < x.log.length := by have := C2.out; have e : x.slot = x.log.length + 1 := rfl; omega
            obtain ⟨c, hc⟩ : ∃ c, x.log[i]? = some c := ⟨_, List.getElem?_eq_getElem hil⟩
            have hget0 : x.log.getD (m.slot - 1) Cm.zero = c := by rw [hi, Nat.add_sub_cancel, List.getD_eq_getElem?_getD, hc]; rfl
            rw [hget0] at eQ
            have EQ := hide eQ; have HI := hide hi; have SM : Hid (Sm c) := hide (HH.out.ok.log c (List.mem_of_getElem? hc))
            clear hget0 eQ
            go_upto_region 7 with fail
            obtain ⟨css, ao, cap, hv, he, hb, hown, hc1, hc2⟩ := HH.out.at'.log_open
            obtain ⟨xo, cp, ex, h1, h2, hgt⟩ := own_get (⟨css, he, hb, hown⟩ : Own w 0 Cm.TCmd 7 (Tr.cmK.holds w T) (.slice ao x.log.length cap) x.log)
            obtain ⟨rfl, rfl⟩ : ao = xo ∧ cap = cp := by simpa using ex
            obtain ⟨b, off, ka, kc, rfl, hbl, fit, hks, hc7⟩ := hgt i c hc
            have C7 := hide hc7; have HV := hide hv; have FIT := hide fit; have KS := hide hks; have HBL := hide hbl
            simp only [maxLen] at hc2
            have qw : IntKind.u64.wrap (i : Int) = (i : Int) := IntWalk.u64_in _ (by have := HH.out.ok.len; omega)
            have di0 : (0 : Int) ≤ (i : Int) := by omega
            have di1 : (i : Int) < (x.log.length : Int) := by omega
            have di2 : decide (i < x.log.length) = true := by simpa using hil
            clear hv he hb hown hgt ex fit hks hc7 hc h1 h2 hbl y0 y1 hi
            have s0 : Upd [] w (w3.drewN 1) := U3.out.drewN 1
            refine wp_region_z (fun wx => Upd [] w wx) 14 (by kernel_rfl) ?_
            refine zT 0 rfl (by kernel_rfl) (fun _ _ _ _ h => h) rfl (by exact s0) ?_
            apply Exists.intro
            refine ⟨fun wx hS => ?_, ?_⟩
            · have r := QX.out _ hS; go_simp; rfl
            simp only [Act.put, List.setIfInBounds_toArray, List.set_cons_succ, List.set_cons_zero, List.getElem_toArray, List.getElem_cons_zero]
            refine zT 1 rfl (by kernel_rfl) (fun _ _ _ _ h => h) rfl (by exact s0) ?_
            apply Exists.intro
            refine ⟨fun wx hS => ?_, ?_⟩
            · have r := QF.out _ hS; go_simp; rfl
            simp only [Act.put, zz1, zz2, zz3, zz4, zz5, zz6]
            refine zT 2 rfl (by kernel_rfl) (fun _ _ _ _ h => h) rfl (by exact s0) ?_
            apply Exists.intro
            refine ⟨fun wx hS => ?_, ?_⟩
            · go_simp; rfl
            simp only [Act.put, zz1, zz2, zz3, zz4, zz5, zz6]
            refine zT 3 rfl (by kernel_rfl) (fun _ _ _ _ h => h) rfl (by exact s0) ?_
            apply Exists.intro
            refine ⟨fun wx hS => ?_, ?_⟩
            · have r := (mg_cells (hS.get HB.out (by simp))).2.1; go_simp; rfl
            simp only [Act.put, zz1, zz2, zz3, zz4, zz5, zz6]
            refine zT 4 rfl (by kernel_rfl) (fun _ _ _ _ h => h) rfl (by exact s0) ?_
            apply Exists.intro
            refine ⟨fun wx hS => ?_, ?_⟩
            · have r := QX.out _ hS; go_simp; rfl
            simp only [Act.put, zz1, zz2, zz3, zz4, zz5, zz6]
            refine zT 5 rfl (by kernel_rfl) (fun _ _ _ _ h => h) rfl (by exact s0) ?_
            apply Exists.intro
            refine ⟨fun wx hS => ?_, ?_⟩
            · go_simp; rfl
            simp only [Act.put, zz1, zz2, zz3, zz4, zz5, zz6]
            refine zT 6 rfl (by kernel_rfl) (fun _ _ _ _ h => h) rfl (by exact s0) ?_
            apply Exists.intro
            refine ⟨fun wx hS => ?_, ?_⟩
            · go_simp; rfl
            simp only [Act.put, zz1, zz2, zz3, zz4, zz5, zz6]
            refine zT 7 rfl (by kernel_rfl) (fun _ _ _ _ h => h) rfl (by exact s0) ?_
            apply Exists.intro
            refine ⟨fun wx hS => ?_, ?_⟩
            · have r : wx.cell? ⟨p, 2, none⟩ = some (.slice (some ⟨b, off, none⟩) x.log.length cap) := (by rw [← HV.out] ; exact blk_cell (hS.get HH.out.at'.1 (by simp)) rfl); go_simp; rfl
            simp only [Act.put, zz1, zz2, zz3, zz4, zz5, zz6]
            refine zT 8 rfl (by kernel_rfl) (fun _ _ _ _ h => h) rfl (by exact s0) ?_
            apply Exists.intro
            refine ⟨fun wx hS => ?_, ?_⟩
            · go_simp; rfl
            simp only [Act.put, zz1, zz2, zz3, zz4, zz5, zz6]
            refine zT 9 rfl (by kernel_rfl) (fun _ _ _ _ h => h) rfl (by exact s0) ?_
            apply Exists.intro
            refine ⟨fun wx hS => ?_, ?_⟩
            · have r : wx.cell? ⟨Bm, 1, none⟩ = some (.int .u64 ((i : Int) + 1)) := (by have r1 := (mg_cells (hS.get HB.out (by simp))).2.1 ; rw [HI.out] at r1 ; exact r1); go_simp; rfl
            simp only [Act.put, zz1, zz2, zz3, zz4, zz5, zz6]
            refine zT 10 rfl (by kernel_rfl) (fun _ _ _ _ h => h) rfl (by exact s0) ?_
            apply Exists.intro
            refine ⟨fun wx hS => ?_, ?_⟩
            · go_simp; rfl
            simp only [Act.put, zz1, zz2, zz3, zz4, zz5, zz6]
            refine zT 11 rfl (by kernel_rfl) (fun _ _ _ _ h => h) rfl (by exact s0) ?_
            apply Exists.intro
            refine ⟨fun wx hS => ?_, ?_⟩
            · go_simp; rfl
            simp only [Act.put, zz1, zz2, zz3, zz4, zz5, zz6]
            refine zT 12 rfl (by kernel_rfl) (fun _ _ _ _ h => h) rfl (by exact s0) ?_
            apply Exists.intro
            refine ⟨fun wx hS => ?_, ?_⟩
            · obtain ⟨x0, x1, x2, x3, x4, x5, x6⟩ := C7.out.upd hS HBL.out (by simp); go_simp; rfl
            simp only [Act.put, zz1, zz2, zz3, zz4, zz5, zz6]
            refine zT 13 rfl (by kernel_rfl) (fun _ _ _ _ h => h) rfl (by exact s0) ?_
            apply Exists.intro
            refine ⟨fun wx hS => ?_, ?_⟩
            · go_simp; rfl
            simp only [Act.put, zz1, zz2, zz3, zz4, zz5, zz6]
            refine wpAnyZ_one 14 (by kernel_rfl) rfl rfl (fun K hK => ?_)
            try simp only [List.getElem_toArray, List.getElem_cons_succ, List.getElem_cons_zero]
            go_simp
            refine (send_any (z := z) (x := x) (dst := f) (m := mgc 6 m.slot Bal.zero c) (ks := .slice ka c.keys.length kc) (w3.drewN 1) (HH.out.at'.upd_nil s0) ⟨by simp [mgc], HMO.out.2.1, by simp [mgc, Bal.zero], by simp [mgc, Bal.zero], SM.out.2⟩ ⟨FIT.out, KS.out.upd s0 (by simp)⟩ (by have := HH.out.z; have := s0.size; omega) (by simp [Ou.zero])).mono ?_
            rintro e w4 ⟨rfl, h4⟩
            have H4 := hide (Aft.ext (s := (x, sendM Ou.zero f (mgc 6 m.slot Bal.zero c))) (Ext.of_nil s0 T M) h4)
            clear h4 s0
            refine hK _ _ (.inl rfl) ?_
            clear hK K
            try simp only [Act.put, zz1, zz2, zz3]
            refine wpAnyZ_done (by kernel_rfl) ?_ _
            go_wp2_with fail
            go_end0
            refine ⟨rfl, ?_⟩
            rw [EQ.out]
            exact H4.out
          · have f1 : ((m.kind : Int) == 1) = false := by simp; omega
            by_cases k4 : m.kind = 4
            · have f4 : ((m.kind : Int) == 4) = true := by rw [k4]; rfl
              rw [if_pos ⟨by omega, .inr (.inl k4)⟩] at eQ
              have E0 := hide e0
              clear k1 k4 e0
              obtain ⟨i, hi⟩ : ∃ i, m.slot = i + 1 := ⟨m.slot - 1, by have := E0.out; omega⟩
              have hil : i < x.log.length := by have := C2.out; have e : x.slot = x.log.length + 1 := rfl; omega
              obtain ⟨c, hc⟩ : ∃ c, x.log[i]? = some c := ⟨_, List.getElem?_eq_getElem hil⟩
              have hget0 : x.log.getD (m.slot - 1) Cm.zero = c := by rw [hi, Nat.add_sub_cancel, List.getD_eq_getElem?_getD, hc]; rfl
              rw [hget0] at eQ
              have EQ := hide eQ; have HI := hide hi; have SM : Hid (Sm c) := hide (HH.out.ok.log c (List.mem_of_getElem? hc))
              clear hget0 eQ
              go_upto_region 7 with fail
              obtain ⟨css, ao, cap, hv, he, hb, hown, hc1, hc2⟩ := HH.out.at'.log_open
              obtain ⟨xo, cp, ex, h1, h2, hgt⟩ := own_get (⟨css, he, hb, hown⟩ : Own w 0 Cm.TCmd 7 (Tr.cmK.holds w T) (.slice ao x.log.length cap) x.log)
              obtain ⟨rfl, rfl⟩ : ao = xo ∧ cap = cp := by simpa using ex
              obtain ⟨b, off, ka, kc, rfl, hbl, fit, hks, hc7⟩ := hgt i c hc
              have C7 := hide hc7; have HV := hide hv; have FIT := hide fit; have KS := hide hks; have HBL := hide hbl
              simp only [maxLen] at hc2
              have qw : IntKind.u64.wrap (i : Int) = (i : Int) := IntWalk.u64_in _ (by have := HH.out.ok.len; omega)
              have di0 : (0 : Int) ≤ (i : Int) := by omega
              have di1 : (i : Int) < (x.log.length : Int) := by omega
              have di2 : decide (i < x.log.length) = true := by simpa using hil
              clear hv he hb hown hgt ex fit hks hc7 hc h1 h2 hbl y0 y1 hi
              have s0 : Upd [] w (w3.drewN 1) := U3.out.drewN 1
              refine wp_region_z (fun wx => Upd [] w wx) 14 (by kernel_rfl) ?_
              refine zT 0 rfl (by kernel_rfl) (fun _ _ _ _ h => h) rfl (by exact s0) ?_
              apply Exists.intro
              refine ⟨fun wx hS => ?_, ?_⟩
              · have r := QX.out _ hS; go_simp; rfl
              simp only [Act.put, List.setIfInBounds_toArray, List.set_cons_succ, List.set_cons_zero, List.getElem_toArray, List.getElem_cons_zero]
              refine zT 1 rfl (by kernel_rfl) (fun _ _ _ _ h => h) rfl (by exact s0) ?_
              apply Exists.intro
              refine ⟨fun wx hS => ?_, ?_⟩
              · have r := QF.out _ hS; go_simp; rfl
              simp only [Act.put, zz1, zz2, zz3, zz4, zz5, zz6]
              refine zT 2 rfl (by kernel_rfl) (fun _ _ _ _ h => h) rfl (by exact s0) ?_
              apply Exists.intro
              refine ⟨fun wx hS => ?_, ?_⟩
              · go_simp; rfl
              simp only [Act.put, zz1, zz2, zz3, zz4, zz5, zz6]
              refine zT 3 rfl (by kernel_rfl) (fun _ _ _ _ h => h) rfl (by exact s0) ?_
              apply Exists.intro
              refine ⟨fun wx hS => ?_, ?_⟩
              · have r := (mg_cells (hS.get HB.out (by simp))).2.1; go_simp; rfl
              simp only [Act.put, zz1, zz2, zz3, zz4, zz5, zz6]
              refine zT 4 rfl (by kernel_rfl) (fun _ _ _ _ h => h) rfl (by exact s0) ?_
              apply Exists.intro
              refine ⟨fun wx hS => ?_, ?_⟩
              · have r := QX.out _ hS; go_simp; rfl
              simp only [Act.put, zz1, zz2, zz3, zz4, zz5, zz6]
              refine zT 5 rfl (by kernel_rfl) (fun _ _ _ _ h => h) rfl (by exact s0) ?_
              apply Exists.intro
              refine ⟨fun wx hS => ?_, ?_⟩
              · go_simp; rfl
              simp only [Act.put, zz1, zz2, zz3, zz4, zz5, zz6]
              refine zT 6 rfl (by kernel_rfl) (fun _ _ _ _ h => h) rfl (by exact s0) ?_
              apply Exists.intro
              refine ⟨fun wx hS => ?_, ?_⟩
              · go_simp; rfl
              simp only [Act.put, zz1, zz2, zz3, zz4, zz5, zz6]
              refine zT 7 rfl (by kernel_rfl) (fun _ _ _ _ h => h) rfl (by exact s0) ?_
              apply Exists.intro
              refine ⟨fun wx hS => ?_, ?_⟩
              · have r : wx.cell? ⟨p, 2, none⟩ = some (.slice (some ⟨b, off, none⟩) x.log.length cap) := (by rw [← HV.out] ; exact blk_cell (hS.get HH.out.at'.1 (by simp)) rfl); go_simp; rfl
              simp only [Act.put, zz1, zz2, zz3, zz4, zz5, zz6]
              refine zT 8 rfl (by kernel_rfl) (fun _ _ _ _ h => h) rfl (by exact s0) ?_
              apply Exists.intro
              refine ⟨fun wx hS => ?_, ?_⟩
              · go_simp; rfl
              simp only [Act.put, zz1, zz2, zz3, zz4, zz5, zz6]
              refine zT 9 rfl (by kernel_rfl) (fun _ _ _ _ h => h) rfl (by exact s0) ?_
              apply Exists.intro
              refine ⟨fun wx hS => ?_, ?_⟩
              · have r : wx.cell? ⟨Bm, 1, none⟩ = some (.int .u64 ((i : Int) + 1)) := (by have r1 := (mg_cells (hS.get HB.out (by simp))).2.1 ; rw [HI.out] at r1 ; exact r1); go_simp; rfl
              simp only [Act.put, zz1, zz2, zz3, zz4, zz5, zz6]
              refine zT 10 rfl (by kernel_rfl) (fun _ _ _ _ h => h) rfl (by exact s0) ?_
              apply Exists.intro
              refine ⟨fun wx hS => ?_, ?_⟩
              · go_simp; rfl
              simp only [Act.put, zz1, zz2, zz3, zz4, zz5, zz6]
              refine zT 11 rfl (by kernel_rfl) (fun _ _ _ _ h => h) rfl (by exact s0) ?_
              apply Exists.intro
              refine ⟨fun wx hS => ?_, ?_⟩
              · go_simp; rfl
              simp only [Act.put, zz1, zz2, zz3, zz4, zz5, zz6]
              refine zT 12 rfl (by kernel_rfl) (fun _ _ _ _ h => h) rfl (by exact s0) ?_
              apply Exists.intro
              refine ⟨fun wx hS => ?_, ?_⟩
              · obtain ⟨x0, x1, x2, x3, x4, x5, x6⟩ := C7.out.upd hS HBL.out (by simp); go_simp; rfl
              simp only [Act.put, zz1, zz2, zz3, zz4, zz5, zz6]
              refine zT 13 rfl (by kernel_rfl) (fun _ _ _ _ h => h) rfl (by exact s0) ?_
              apply Exists.intro
              refine ⟨fun wx hS => ?_, ?_⟩
              · go_simp; rfl
              simp only [Act.put, zz1, zz2, zz3, zz4, zz5, zz6]
              refine wpAnyZ_one 14 (by kernel_rfl) rfl rfl (fun K hK => ?_)
              try simp only [List.getElem_toArray, List.getElem_cons_succ, List.getElem_cons_zero]
              go_simp
              refine (send_any (z := z) (x := x) (dst := f) (m := mgc 6 m.slot Bal.zero c) (ks := .slice ka c.keys.length kc) (w3.drewN 1) (HH.out.at'.upd_nil s0) ⟨by simp [mgc], HMO.out.2.1, by simp [mgc, Bal.zero], by simp [mgc, Bal.zero], SM.out.2⟩ ⟨FIT.out, KS.out.upd s0 (by simp)⟩ (by have := HH.out.z; have := s0.size; omega) (by simp [Ou.zero])).mono ?_
              rintro e w4 ⟨rfl, h4⟩
              have H4 := hide (Aft.ext (s := (x, sendM Ou.zero f (mgc 6 m.slot Bal.zero c))) (Ext.of_nil s0 T M) h4)
              clear h4 s0
              refine hK _ _ (.inl rfl) ?_
              clear hK K
              try simp only [Act.put, zz1, zz2, zz3]
              refine wpAnyZ_done (by kernel_rfl) ?_ _
              go_wp2_with fail
              go_end0
              refine ⟨rfl, ?_⟩
              rw [EQ.out]
              exact H4.out
            · have f4 : ((m.kind : Int) == 4) = false := by simp; omega
              by_cases k7 : m.kind = 7
              · have f7 : ((m.kind : Int) == 7) = true := by rw [k7]; rfl
                rw [if_pos ⟨by omega, .inr (.inr k7)⟩] at eQ
                have E0 := hide e0
                clear k1 k4 k7 e0
                obtain ⟨i, hi⟩ : ∃ i, m.slot = i + 1 := ⟨m.slot - 1, by have := E0.out; omega⟩
                have hil : i < x.log.length := by have := C2.out; have e : x.slot = x.log.length + 1 := rfl; omega
                obtain ⟨c, hc⟩ : ∃ c, x.log[i]? = some c := ⟨_, List.getElem?_eq_getElem hil⟩
                have hget0 : x.log.getD (m.slot - 1) Cm.zero = c := by rw [hi, Nat.add_sub_cancel, List.getD_eq_getElem?_getD, hc]; rfl
                rw [hget0] at eQ
                have EQ := hide eQ; have HI := hide hi; have SM : Hid (Sm c) := hide (HH.out.ok.log c (List.mem_of_getElem? hc))
                clear hget0 eQ
                go_upto_region 7 with fail
                obtain ⟨css, ao, cap, hv, he, hb, hown, hc1, hc2⟩ := HH.out.at'.log_open
                obtain ⟨xo, cp, ex, h1, h2, hgt⟩ := own_get (⟨css, he, hb, hown⟩ : Own w 0 Cm.TCmd 7 (Tr.cmK.holds w T) (.slice ao x.log.length cap) x.log)
                obtain ⟨rfl, rfl⟩ : ao = xo ∧ cap = cp := by simpa using ex
                obtain ⟨b, off, ka, kc, rfl, hbl, fit, hks, hc7⟩ := hgt i c hc
                have C7 := hide hc7; have HV := hide hv; have FIT := hide fit; have KS := hide hks; have HBL := hide hbl
                simp only [maxLen] at hc2
                have qw : IntKind.u64.wrap (i : Int) = (i : Int) := IntWalk.u64_in _ (by have := HH.out.ok.len; omega)
                have di0 : (0 : Int) ≤ (i : Int) := by omega
                have di1 : (i : Int) < (x.log.length : Int) := by omega
                have di2 : decide (i < x.log.length) = true := by simpa using hil
                clear hv he hb hown hgt ex fit hks hc7 hc h1 h2 hbl y0 y1 hi
                have s0 : Upd [] w (w3.drewN 1) := U3.out.drewN 1
                refine wp_region_z (fun wx => Upd [] w wx) 14 (by kernel_rfl) ?_
                refine zT 0 rfl (by kernel_rfl) (fun _ _ _ _ h => h) rfl (by exact s0) ?_
                apply Exists.intro
                refine ⟨fun wx hS => ?_, ?_⟩
                · have r := QX.out _ hS; go_simp; rfl
                simp only [Act.put, List.setIfInBounds_toArray, List.set_cons_succ, List.set_cons_zero, List.getElem_toArray, List.getElem_cons_zero]
                refine zT 1 rfl (by kernel_rfl) (fun _ _ _ _ h => h) rfl (by exact s0) ?_
                apply Exists.intro
                refine ⟨fun wx hS => ?_, ?_⟩
                · have r := QF.out _ hS; go_simp; rfl
                simp only [Act.put, zz1, zz2, zz3, zz4, zz5, zz6]
                refine zT 2 rfl (by kernel_rfl) (fun _ _ _ _ h => h) rfl (by exact s0) ?_
                apply Exists.intro
                refine ⟨fun wx hS => ?_, ?_⟩
                · go_simp; rfl
                simp only [Act.put, zz1, zz2, zz3, zz4, zz5, zz6]
                refine zT 3 rfl (by kernel_rfl) (fun _ _ _ _ h => h) rfl (by exact s0) ?_
                apply Exists.intro
                refine ⟨fun wx hS => ?_, ?_⟩
                · have r := (mg_cells (hS.get HB.out (by simp))).2.1; go_simp; rfl
                simp only [Act.put, zz1, zz2, zz3, zz4, zz5, zz6]
                refine zT 4 rfl (by kernel_rfl) (fun _ _ _ _ h => h) rfl (by exact s0) ?_
                apply Exists.intro
                refine ⟨fun wx hS => ?_, ?_⟩
                · have r := QX.out _ hS; go_simp; rfl
                simp only [Act.put, zz1, zz2, zz3, zz4, zz5, zz6]
                refine zT 5 rfl (by kernel_rfl) (fun _ _ _ _ h => h) rfl (by exact s0) ?_
                apply Exists.intro
                refine ⟨fun wx hS => ?_, ?_⟩
                · go_simp; rfl
                simp only [Act.put, zz1, zz2, zz3, zz4, zz5, zz6]
                refine zT 6 rfl (by kernel_rfl) (fun _ _ _ _ h => h) rfl (by exact s0) ?_
                apply Exists.intro
                refine ⟨fun wx hS => ?_, ?_⟩
                · go_simp; rfl
                simp only [Act.put, zz1, zz2, zz3, zz4, zz5, zz6]
                refine zT 7 rfl (by kernel_rfl) (fun _ _ _ _ h => h) rfl (by exact s0) ?_
                apply Exists.intro
                refine ⟨fun wx hS => ?_, ?_⟩
                · have r : wx.cell? ⟨p, 2, none⟩ = some (.slice (some ⟨b, off, none⟩) x.log.length cap) := (by rw [← HV.out] ; exact blk_cell (hS.get HH.out.at'.1 (by simp)) rfl); go_simp; rfl
                simp only [Act.put, zz1, zz2, zz3, zz4, zz5, zz6]
                refine zT 8 rfl (by kernel_rfl) (fun _ _ _ _ h => h) rfl (by exact s0) ?_
                apply Exists.intro
                refine ⟨fun wx hS => ?_, ?_⟩
                · go_simp; rfl
                simp only [Act.put, zz1, zz2, zz3, zz4, zz5, zz6]
                refine zT 9 rfl (by kernel_rfl) (fun _ _ _ _ h => h) rfl (by exact s0) ?_
                apply Exists.intro
                refine ⟨fun wx hS => ?_, ?_⟩
                · have r : wx.cell? ⟨Bm, 1, none⟩ = some (.int .u64 ((i : Int) + 1)) := (by have r1 := (mg_cells (hS.get HB.out (by simp))).2.1 ; rw [HI.out] at r1 ; exact r1); go_simp; rfl
                simp only [Act.put, zz1, zz2, zz3, zz4, zz5, zz6]
                refine zT 10 rfl (by kernel_rfl) (fun _ _ _ _ h => h) rfl (by exact s0) ?_
                apply Exists.intro
                refine ⟨fun wx hS => ?_, ?_⟩
                · go_simp; rfl
                simp only [Act.put, zz1, zz2, zz3, zz4, zz5, zz6]
                refine zT 11 rfl (by kernel_rfl) (fun _ _ _ _ h => h) rfl (by exact s0) ?_
                apply Exists.intro
                refine ⟨fun wx hS => ?_, ?_⟩
                · go_simp; rfl
                simp only [Act.put, zz1, zz2, zz3, zz4, zz5, zz6]
                refine zT 12 rfl (by kernel_rfl) (fun _ _ _ _ h => h) rfl (by exact s0) ?_
                apply Exists.intro
                refine ⟨fun wx hS => ?_, ?_⟩
                · obtain ⟨x0, x1, x2, x3, x4, x5, x6⟩ := C7.out.upd hS HBL.out (by simp); go_simp; rfl
                simp only [Act.put, zz1, zz2, zz3, zz4, zz5, zz6]
                refine zT 13 rfl (by kernel_rfl) (fun _ _ _ _ h => h) rfl (by exact s0) ?_
                apply Exists.intro
                refine ⟨fun wx hS => ?_, ?_⟩
                · go_simp; rfl
                simp only [Act.put, zz1, zz2, zz3, zz4, zz5, zz6]
                refine wpAnyZ_one 14 (by kernel_rfl) rfl rfl (fun K hK => ?_)
                try simp only [List.getElem_toArray, List.getElem_cons_succ, List.getElem_cons_zero]
                go_simp
                refine (send_any (z := z) (x := x) (dst := f) (m := mgc 6 m.slot Bal.zero c) (ks := .slice ka c.keys.length kc) (w3.drewN 1) (HH.out.at'.upd_nil s0) ⟨by simp [mgc], HMO.out.2.1, by simp [mgc, Bal.zero], by simp [mgc, Bal.zero], SM.out.2⟩ ⟨FIT.out, KS.out.upd s0 (by simp)⟩ (by have := HH.out.z; have := s0.size; omega) (by simp [Ou.zero])).mono ?_
                rintro e w4 ⟨rfl, h4⟩
                have H4 := hide (Aft.ext (s := (x, sendM Ou.zero f (mgc 6 m.slot Bal.zero c))) (Ext.of_nil s0 T M) h4)
                clear h4 s0
                refine hK _ _ (.inl rfl) ?_
                clear hK K
                try simp only [Act.put, zz1, zz2, zz3]
                refine wpAnyZ_done (by kernel_rfl) ?_ _
                go_wp2_with fail
                go_end0
                refine ⟨rfl, ?_⟩
                rw [EQ.out]
                exact H4.out
              · have f7 : ((m.kind : Int) == 7) = false := by simp; omega
                rw [if_neg (by omega)] at eQ
                subst eQ
                clear k1 k4 k7 e0
                go_wp2_with fail
                go_end0
                exact ⟨rfl, T, M, G, HH.out.at'.upd_nil U3.out, Ext.of_nil U3.out T M⟩
      · have d1 : decide ((m.slot : Int) < (x.slot : Int)) = false := by simp; omega
        have d1' : decide (m.slot < x.slot) = false := by simpa using c2
        have hs : m.slot = x.slot := by omega
        have HS := hide hs
        clear c1 c2 hs
        go_upto_region 5 with fail
        go_quiet ((go_at_call 66; exact quiet_left (SL.out _ (U2.out.drewN _))))
        clear qy qx d1 d1'
        obtain ⟨w3, hw3⟩ : ∃ w3, w2.drewN nq = w3 := ⟨_, rfl⟩
        have U3 : Hid (Upd [] w w3) := hide (by rw [← hw3]; exact U2.out.drewN nq)
        rw [hw3]
        clear hw3 U2
        have eQ : q = actM f m (x, Ou.zero) := by rw [← HQ.out]; unfold takeS; rw [if_neg (fun h => h HY.out), if_neg (by have := HS.out; omega), if_neg (by have := HS.out; omega)]
        subst eQ
        have HP3 : Hid (Hp (w3.drewN 1) T M z p L x Ou.zero G) := hide ⟨HH.out.at'.upd_nil (U3.out.drewN 1), HH.out.env.upd_nil (U3.out.drewN 1), HH.out.ok, by have := HH.out.z; have := U3.out.size; show z ≤ w3.heap.size; omega, HH.out.send, HH.out.done, HH.out.ans⟩
        have K3 := hide (K0.out.upd (U3.out.drewN 1) (by simp))
        have hfn : f = ((f.toNat : Nat) : Int) := fromI HY.out.1
        have hfl : f.toNat < x.n := by have := HY.out.1; have := HY.out.2.1; omega
        have k1 : 1 ≤ m.kind := HY.out.2.2.2.1
        have k7 : m.kind ≤ 7 := HY.out.2.2.2.2.1
        have HFN := hide hfn; have HFL := hide hfl
        clear hfn hfl
        go_upto_region 0 with fail
        have s0 : Upd [] w (w3.drewN 1) := U3.out.drewN 1
        refine wp_region_z (fun wx => Upd [] w wx) 7 (by kernel_rfl) ?_
        refine zT 0 rfl (by kernel_rfl) (fun _ _ _ _ h => h) rfl (by exact s0) ?_
        apply Exists.intro
        refine ⟨fun wx hS => ?_, ?_⟩
        · go_simp; rfl
        simp only [Act.put, List.setIfInBounds_toArray, List.set_cons_succ, List.set_cons_zero, List.getElem_toArray, List.getElem_cons_zero]
        refine zT 1 rfl (by kernel_rfl) (fun _ _ _ _ h => h) rfl (by exact s0) ?_
        apply Exists.intro
        refine ⟨fun wx hS => ?_, ?_⟩
        · go_simp; rfl
        simp only [Act.put, zz1, zz2, zz3, zz4, zz5, zz6]
        refine zT 2 rfl (by kernel_rfl) (fun _ _ _ _ h => h) rfl (by exact s0) ?_
        apply Exists.intro
        refine ⟨fun wx hS => ?_, ?_⟩
        · have r := (mg_cells (hS.get HB.out (by simp))).1; go_simp; rfl
        simp only [Act.put, zz1, zz2, zz3, zz4, zz5, zz6]
        have kk : m.kind = 1 ∨ m.kind = 2 ∨ m.kind = 3 ∨ m.kind = 4 ∨ m.kind = 5 ∨ m.kind = 6 ∨ m.kind = 7 := by omega
        clear k1 k7
        rcases kk with kk | kk | kk | kk | kk | kk | kk
        · have KE := hide kk
          have kc : (m.kind : Int) = 1 := by omega
          rw [kc]
          clear kk kc
          refine zT 3 rfl (by kernel_rfl) (fun _ _ _ _ h => h) rfl (by exact s0) ?_
          apply Exists.intro
          refine ⟨fun wx hS => ?_, ?_⟩
          · go_simp; rfl
          simp only [Act.put, zz1, zz2, zz3, zz4, zz5, zz6]
          refine zT 4 rfl (by kernel_rfl) (fun _ _ _ _ h => h) rfl (by exact s0) ?_
          apply Exists.intro
          refine ⟨fun wx hS => ?_, ?_⟩
          · have r := QX.out _ hS; go_simp; rfl
          simp only [Act.put, zz1, zz2, zz3, zz4, zz5, zz6]
          refine zT 5 rfl (by kernel_rfl) (fun _ _ _ _ h => h) rfl (by exact s0) ?_
          apply Exists.intro
          refine ⟨fun wx hS => ?_, ?_⟩
          · have r := QF.out _ hS; go_simp; rfl
          simp only [Act.put, zz1, zz2, zz3, zz4, zz5, zz6]
          refine zT 6 rfl (by kernel_rfl) (fun _ _ _ _ h => h) rfl (by exact s0) ?_
          apply Exists.intro
          refine ⟨fun wx hS => ?_, ?_⟩
          · obtain ⟨y0, y1, y2, y3, y4, y5, y6, y7, y8, y9, y10, y11, y12, y13⟩ := mg_cells (hS.get HB.out (by simp)); go_simp; rfl
          simp only [Act.put, zz1, zz2, zz3, zz4, zz5, zz6]
          refine wpAnyZ_one 7 (by kernel_rfl) rfl rfl (fun K hK => ?_)
          try simp only [List.getElem_toArray, List.getElem_cons_succ, List.getElem_cons_zero]
          go_simp
          refine (bows_any (z := z) (L := L) (f := f) _ HP3.out HMO.out K3.out).mono ?_
          rintro e w4 ⟨rfl, h4⟩
          have H4 := hide (Aft.ext (Ext.of_nil s0 T M) h4)
          clear h4 s0
          refine hK _ _ (.inl rfl) ?_
          clear hK K
          try simp only [Act.put, zz1, zz2, zz3]
          refine wpAnyZ_done (by kernel_rfl) ?_ _
          go_wp2_with fail
          go_end0
          refine ⟨rfl, ?_⟩
          have e : actM f m (x, Ou.zero) = bowsM f m (x, Ou.zero) := by unfold actM; rw [KE.out]; rfl
          rw [e]
          exact H4.out
        · have KE := hide kk
          have kc : (m.kind : Int) = 2 := by omega
          rw [kc]
          clear kk kc
          refine zT 3 rfl (by kernel_rfl) (fun _ _ _ _ h => h) rfl (by exact s0) ?_
          apply Exists.intro
          refine ⟨fun wx hS => ?_, ?_⟩
          · go_simp; rfl
          simp only [Act.put, zz1, zz2, zz3, zz4, zz5, zz6]
          refine zT 4 rfl (by kernel_rfl) (fun _ _ _ _ h => h) rfl (by exact s0) ?_
          apply Exists.intro
          refine ⟨fun wx hS => ?_, ?_⟩
          · have r := QX.out _ hS; go_simp; rfl
          simp only [Act.put, zz1, zz2, zz3, zz4, zz5, zz6]
          refine zT 5 rfl (by kernel_rfl) (fun _ _ _ _ h => h) rfl (by exact s0) ?_
          apply Exists.intro
          refine ⟨fun wx hS => ?_, ?_⟩
          · have r := QF.out _ hS; go_simp; rfl
          simp only [Act.put, zz1, zz2, zz3, zz4, zz5, zz6]
          refine zT 6 rfl (by kernel_rfl) (fun _ _ _ _ h => h) rfl (by exact s0) ?_
          apply Exists.intro
          refine ⟨fun wx hS => ?_, ?_⟩
          · obtain ⟨y0, y1, y2, y3, y4, y5, y6, y7, y8, y9, y10, y11, y12, y13⟩ := mg_cells (hS.get HB.out (by simp)); go_simp; rfl
          simp only [Act.put, zz1, zz2, zz3, zz4, zz5, zz6]
          refine wpAnyZ_one 7 (by kernel_rfl) rfl rfl (fun K hK => ?_)
          try simp only [List.getElem_toArray, List.getElem_cons_succ, List.getElem_cons_zero]
          go_simp
          have key := answered_any (z := z) (L := L) (k := f.toNat) _ HP3.out hL HMO.out K3.out HFL.out (by simp [Ou.zero])
          rw [← HFN.out] at key
          refine key.mono ?_
          rintro e w4 ⟨rfl, h4⟩
          have H4 := hide (Aft.ext (Ext.of_nil s0 T M) h4)
          clear h4 s0 key
          refine hK _ _ (.inl rfl) ?_
          clear hK K
          try simp only [Act.put, zz1, zz2, zz3]
          refine wpAnyZ_done (by kernel_rfl) ?_ _
          go_wp2_with fail
          go_end0
          refine ⟨rfl, ?_⟩
          have e : actM f m (x, Ou.zero) = answeredM f m (x, Ou.zero) := by unfold actM; rw [KE.out]; rfl
          rw [e]
          exact H4.out
        · have KE := hide kk
          have kc : (m.kind : Int) = 3 := by omega
          rw [kc]
          clear kk kc
          refine zT 3 rfl (by kernel_rfl) (fun _ _ _ _ h => h) rfl (by exact s0) ?_
          apply Exists.intro
          refine ⟨fun wx hS => ?_, ?_⟩
          · go_simp; rfl
          simp only [Act.put, zz1, zz2, zz3, zz4, zz5, zz6]
          refine zT 4 rfl (by kernel_rfl) (fun _ _ _ _ h => h) rfl (by exact s0) ?_
          apply Exists.intro
          refine ⟨fun wx hS => ?_, ?_⟩
          · have r := QX.out _ hS; go_simp; rfl
          simp only [Act.put, zz1, zz2, zz3, zz4, zz5, zz6]
          refine zT 5 rfl (by kernel_rfl) (fun _ _ _ _ h => h) rfl (by exact s0) ?_
          apply Exists.intro
          refine ⟨fun wx hS => ?_, ?_⟩
          · have r := QF.out _ hS; go_simp; rfl
          simp only [Act.put, zz1, zz2, zz3, zz4, zz5, zz6]
          refine zT 6 rfl (by kernel_rfl) (fun _ _ _ _ h => h) rfl (by exact s0) ?_
          apply Exists.intro
          refine ⟨fun wx hS => ?_, ?_⟩
          · obtain ⟨y0, y1, y2, y3, y4, y5, y6, y7, y8, y9, y10, y11, y12, y13⟩ := mg_cells (hS.get HB.out (by simp)); go_simp; rfl
          simp only [Act.put, zz1, zz2, zz3, zz4, zz5, zz6]
          refine wpAnyZ_one 7 (by kernel_rfl) rfl rfl (fun K hK => ?_)
          try simp only [List.getElem_toArray, List.getElem_cons_succ, List.getElem_cons_zero]
          go_simp
          refine (refused_any (z := z) (L := L) (f := f) _ HP3.out HMO.out K3.out).mono ?_
          rintro e w4 ⟨rfl, h4⟩
          have H4 := hide (Aft.ext (Ext.of_nil s0 T M) h4)
          clear h4 s0
          refine hK _ _ (.inl rfl) ?_
          clear hK K
          try simp only [Act.put, zz1, zz2, zz3]
          refine wpAnyZ_done (by kernel_rfl) ?_ _
          go_wp2_with fail
          go_end0
          refine ⟨rfl, ?_⟩
          have e : actM f m (x, Ou.zero) = refusedM m (x, Ou.zero) := by unfold actM; rw [KE.out]; rfl
          rw [e]
          exact H4.out
        · have KE := hide kk
          have kc : (m.kind : Int) = 4 := by omega
          rw [kc]
          clear kk kc
          refine zT 3 rfl (by kernel_rfl) (fun _ _ _ _ h => h) rfl (by exact s0) ?_
          apply Exists.intro
          refine ⟨fun wx hS => ?_, ?_⟩
          · go_simp; rfl
          simp only [Act.put, zz1, zz2, zz3, zz4, zz5, zz6]
          refine zT 4 rfl (by kernel_rfl) (fun _ _ _ _ h => h) rfl (by exact s0) ?_
          apply Exists.intro
          refine ⟨fun wx hS => ?_, ?_⟩
          · have r := QX.out _ hS; go_simp; rfl
          simp only [Act.put, zz1, zz2, zz3, zz4, zz5, zz6]
          refine zT 5 rfl (by kernel_rfl) (fun _ _ _ _ h => h) rfl (by exact s0) ?_
          apply Exists.intro
          refine ⟨fun wx hS => ?_, ?_⟩
          · have r := QF.out _ hS; go_simp; rfl
          simp only [Act.put, zz1, zz2, zz3, zz4, zz5, zz6]
          refine zT 6 rfl (by kernel_rfl) (fun _ _ _ _ h => h) rfl (by exact s0) ?_
          apply Exists.intro
          refine ⟨fun wx hS => ?_, ?_⟩
          · obtain ⟨y0, y1, y2, y3, y4, y5, y6, y7, y8, y9, y10, y11, y12, y13⟩ := mg_cells (hS.get HB.out (by simp)); go_simp; rfl
          simp only [Act.put, zz1, zz2, zz3, zz4, zz5, zz6]
          refine wpAnyZ_one 7 (by kernel_rfl) rfl rfl (fun K hK => ?_)
          try simp only [List.getElem_toArray, List.getElem_cons_succ, List.getElem_cons_zero]
          go_simp
          refine (bows_any (z := z) (L := L) (f := f) _ HP3.out HMO.out K3.out).mono ?_
          rintro e w4 ⟨rfl, h4⟩
          have H4 := hide (Aft.ext (Ext.of_nil s0 T M) h4)
          clear h4 s0
          refine hK _ _ (.inl rfl) ?_
          clear hK K
          try simp only [Act.put, zz1, zz2, zz3]
          refine wpAnyZ_done (by kernel_rfl) ?_ _
          go_wp2_with fail
          go_end0
          refine ⟨rfl, ?_⟩
          have e : actM f m (x, Ou.zero) = bowsM f m (x, Ou.zero) := by unfold actM; rw [KE.out]; rfl
          rw [e]
          exact H4.out
        · have KE := hide kk
          have kc : (m.kind : Int) = 5 := by omega
          rw [kc]
          clear kk kc
          refine zT 3 rfl (by kernel_rfl) (fun _ _ _ _ h => h) rfl (by exact s0) ?_
          apply Exists.intro
          refine ⟨fun wx hS => ?_, ?_⟩
          · go_simp; rfl
          simp only [Act.put, zz1, zz2, zz3, zz4, zz5, zz6]
          refine zT 4 rfl (by kernel_rfl) (fun _ _ _ _ h => h) rfl (by exact s0) ?_
          apply Exists.intro
          refine ⟨fun wx hS => ?_, ?_⟩
          · have r := QX.out _ hS; go_simp; rfl
          simp only [Act.put, zz1, zz2, zz3, zz4, zz5, zz6]
          refine zT 5 rfl (by kernel_rfl) (fun _ _ _ _ h => h) rfl (by exact s0) ?_
          apply Exists.intro
          refine ⟨fun wx hS => ?_, ?_⟩
          · have r := QF.out _ hS; go_simp; rfl
          simp only [Act.put, zz1, zz2, zz3, zz4, zz5, zz6]
          refine zT 6 rfl (by kernel_rfl) (fun _ _ _ _ h => h) rfl (by exact s0) ?_
          apply Exists.intro
          refine ⟨fun wx hS => ?_, ?_⟩
          · obtain ⟨y0, y1, y2, y3, y4, y5, y6, y7, y8, y9, y10, y11, y12, y13⟩ := mg_cells (hS.get HB.out (by simp)); go_simp; rfl
          simp only [Act.put, zz1, zz2, zz3, zz4, zz5, zz6]
          refine wpAnyZ_one 7 (by kernel_rfl) rfl rfl (fun K hK => ?_)
          try simp only [List.getElem_toArray, List.getElem_cons_succ, List.getElem_cons_zero]
          go_simp
          have key := answered_any (z := z) (L := L) (k := f.toNat) _ HP3.out hL HMO.out K3.out HFL.out (by simp [Ou.zero])
          rw [← HFN.out] at key
          refine key.mono ?_
          rintro e w4 ⟨rfl, h4⟩
          have H4 := hide (Aft.ext (Ext.of_nil s0 T M) h4)
          clear h4 s0 key
          refine hK _ _ (.inl rfl) ?_
          clear hK K
          try simp only [Act.put, zz1, zz2, zz3]
          refine wpAnyZ_done (by kernel_rfl) ?_ _
          go_wp2_with fail
          go_end0
          refine ⟨rfl, ?_⟩
          have e : actM f m (x, Ou.zero) = answeredM f m (x, Ou.zero) := by unfold actM; rw [KE.out]; rfl
          rw [e]
          exact H4.out
        · have KE := hide kk
          have kc : (m.kind : Int) = 6 := by omega
          rw [kc]
          clear kk kc
          refine zT 3 rfl (by kernel_rfl) (fun _ _ _ _ h => h) rfl (by exact s0) ?_
          apply Exists.intro
          refine ⟨fun wx hS => ?_, ?_⟩
          · go_simp; rfl
          simp only [Act.put, zz1, zz2, zz3, zz4, zz5, zz6]
          refine zT 4 rfl (by kernel_rfl) (fun _ _ _ _ h => h) rfl (by exact s0) ?_
          apply Exists.intro
          refine ⟨fun wx hS => ?_, ?_⟩
          · have r := QX.out _ hS; go_simp; rfl
          simp only [Act.put, zz1, zz2, zz3, zz4, zz5, zz6]
          refine zT 5 rfl (by kernel_rfl) (fun _ _ _ _ h => h) rfl (by exact s0) ?_
          apply Exists.intro
          refine ⟨fun wx hS => ?_, ?_⟩
          · have r := QF.out _ hS; go_simp; rfl
          simp only [Act.put, zz1, zz2, zz3, zz4, zz5, zz6]
          refine zT 6 rfl (by kernel_rfl) (fun _ _ _ _ h => h) rfl (by exact s0) ?_
          apply Exists.intro
          refine ⟨fun wx hS => ?_, ?_⟩
          · obtain ⟨y0, y1, y2, y3, y4, y5, y6, y7, y8, y9, y10, y11, y12, y13⟩ := mg_cells (hS.get HB.out (by simp)); go_simp; rfl
          simp only [Act.put, zz1, zz2, zz3, zz4, zz5, zz6]
          refine wpAnyZ_one 7 (by kernel_rfl) rfl rfl (fun K hK => ?_)
          try simp only [List.getElem_toArray, List.getElem_cons_succ, List.getElem_cons_zero]
          go_simp
          refine (decided_any (z := z) (L := L) (f := f) _ HP3.out hL HMO.out K3.out).mono ?_
          rintro e w4 ⟨rfl, h4⟩
          have H4 := hide (Aft.ext (Ext.of_nil s0 T M) h4)
          clear h4 s0
          refine hK _ _ (.inl rfl) ?_
          clear hK K
          try simp only [Act.put, zz1, zz2, zz3]
          refine wpAnyZ_done (by kernel_rfl) ?_ _
          go_wp2_with fail
          go_end0
          refine ⟨rfl, ?_⟩
          have e : actM f m (x, Ou.zero) = knowM m.cmd (x, Ou.zero) := by unfold actM; rw [KE.out]; rfl
          rw [e]
          exact H4.out
        · have KE := hide kk
          have kc : (m.kind : Int) = 7 := by omega
          rw [kc]
          clear kk kc
          refine zT 3 rfl (by kernel_rfl) (fun _ _ _ _ h => h) rfl (by exact s0) ?_
          apply Exists.intro
          refine ⟨fun wx hS => ?_, ?_⟩
          · go_simp; rfl
          simp only [Act.put, zz1, zz2, zz3, zz4, zz5, zz6]
          refine zT 4 rfl (by kernel_rfl) (fun _ _ _ _ h => h) rfl (by exact s0) ?_
          apply Exists.intro
          refine ⟨fun wx hS => ?_, ?_⟩
          · have r := QX.out _ hS; go_simp; rfl
          simp only [Act.put, zz1, zz2, zz3, zz4, zz5, zz6]
          refine zT 5 rfl (by kernel_rfl) (fun _ _ _ _ h => h) rfl (by exact s0) ?_
          apply Exists.intro
          refine ⟨fun wx hS => ?_, ?_⟩
          · have r := QF.out _ hS; go_simp; rfl
          simp only [Act.put, zz1, zz2, zz3, zz4, zz5, zz6]
          refine zT 6 rfl (by kernel_rfl) (fun _ _ _ _ h => h) rfl (by exact s0) ?_
          apply Exists.intro
          refine ⟨fun wx hS => ?_, ?_⟩
          · obtain ⟨y0, y1, y2, y3, y4, y5, y6, y7, y8, y9, y10, y11, y12, y13⟩ := mg_cells (hS.get HB.out (by simp)); go_simp; rfl
          simp only [Act.put, zz1, zz2, zz3, zz4, zz5, zz6]
          refine wpAnyZ_one 7 (by kernel_rfl) rfl rfl (fun K hK => ?_)
          try simp only [List.getElem_toArray, List.getElem_cons_succ, List.getElem_cons_zero]
          go_simp
          refine (wanted_any (z := z) (L := L) (f := f) _ HP3.out HMO.out K3.out).mono ?_
          rintro e w4 ⟨rfl, h4⟩
          have H4 := hide (Aft.ext (Ext.of_nil s0 T M) h4)
          clear h4 s0
          refine hK _ _ (.inl rfl) ?_
          clear hK K
          try simp only [Act.put, zz1, zz2, zz3]
          refine wpAnyZ_done (by kernel_rfl) ?_ _
          go_wp2_with fail
          go_end0
          refine ⟨rfl, ?_⟩
          have e : actM f m (x, Ou.zero) = id (x, Ou.zero) := by unfold actM; rw [KE.out]; rfl
          rw [e]
          exact H4.out
end Go.Proofs.YtanjnhohfcgapaaGreatDoor.Sg
