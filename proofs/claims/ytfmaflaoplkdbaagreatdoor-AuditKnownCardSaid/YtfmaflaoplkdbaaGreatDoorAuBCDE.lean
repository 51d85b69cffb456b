/- AuB, AuC, AuD, AuE in one text. -/
import Derived.Test.YtfmaflaoplkdbaaGreatDoorAuKH
import Derived.Test.YtfmaflaoplkdbaaGreatDoorKvW
import Derived.Test.YtfmaflaoplkdbaaGreatDoorGenAll
set_option linter.unusedSimpArgs false
set_option linter.unusedVariables false
set_option linter.unnecessarySimpa false
namespace Go.Proofs.YtfmaflaoplkdbaaGreatDoor.Au
open Go.RowKit Go.Proofs.YtfmaflaoplkdbaaGreatDoor.Crc Go.Proofs.YtfmaflaoplkdbaaGreatDoor.Cm Go.Proofs.YtfmaflaoplkdbaaGreatDoor.Tr
set_option linter.unusedSimpArgs false
set_option linter.unusedVariables false

theorem zeroStr (w : World) : (zeroValue 9).run Tryz.prog w = .ok (.string (strOf [])) w := by kernel_rfl
theorem zeroBool (w : World) : (zeroValue 4).run Tryz.prog w = .ok (.bool false) w := by kernel_rfl
theorem zeroInt (w : World) : (zeroValue 3).run Tryz.prog w = .ok (.int .i64 0) w := by kernel_rfl
theorem zeroAns (w : World) : (zeroValue 39).run Tryz.prog w = .ok (anv ⟨0, 0, 0, []⟩) w := by kernel_rfl
theorem bat_look {w : World} {g : Nat} {f : Nat → Option (List UInt8)} (h : batK w g f) (s : Nat) :
    (Instr.lookup 184 (.map (some g)) (.int .u64 (s : Int)) true).run Tryz.prog w = .ok (.tuple #[.string (strOf ((f s).getD [])), .bool (f s).isSome]) w := by
  have := FIs.look h Tryz.underlying184 (zeroStr w) s
  have e : ((f s).map fun b => Value.string (strOf b)).getD (.string (strOf [])) = .string (strOf ((f s).getD [])) := by cases f s <;> rfl
  rw [e] at this
  exact this
theorem bat_store {w : World} {g : Nat} {f : Nat → Option (List UInt8)} (h : batK w g f) (s : Nat) (b : List UInt8) :
    ∃ W, (Instr.mapUpdate 184 (.map (some g)) (.int .u64 (s : Int)) (.string (strOf b))).run Tryz.prog w = .ok () W ∧ batK W g (fun j => if j = s then some b else f j) ∧ Upd [g] w W ∧ W.heap.size = w.heap.size :=
  FIs.store h Tryz.underlying184 s b
theorem findD_seen {L ds : List Dn} {k s : Nat} {d : Dn} (hd : ds[k]? = some d) : findD (L ++ ds.take (k + 1)) s = (findD (L ++ ds.take k) s).or (if s = d.1 then some d.2 else none) := by
  obtain ⟨hlt, e⟩ := List.getElem?_eq_some_iff.1 hd
  rw [List.take_succ_eq_append_getElem hlt, e, ← List.append_assoc, findD_append, findD_one]
theorem findD_all {L ds : List Dn} {k s : Nat} {b : List UInt8} (h : findD (L ++ ds.take k) s = some b) : findD (L ++ ds) s = some b := by
  have e : L ++ ds = (L ++ ds.take k) ++ ds.drop k := by rw [List.append_assoc, List.take_append_drop]
  rw [e, findD_append, h, Option.some_or]
theorem take_any {X : Type} {l : List X} {k : Nat} {x : X} {p : X → Bool} (h : l[k]? = some x) : (l.take (k + 1)).any p = ((l.take k).any p || p x) := by
  obtain ⟨hlt, e⟩ := List.getElem?_eq_some_iff.1 h
  rw [List.take_succ_eq_append_getElem hlt, e, List.any_append]
  simp
noncomputable def tbOps5 : Array Oper := Kv.findOps 5 ((Tryz.f53.body).getD .skip)
noncomputable def tbOps7 : Array Oper := Kv.findOps 7 ((Tryz.f53.body).getD .skip)
set_option maxRecDepth 100000 in
set_option maxHeartbeats 4000000 in
theorem twoBatches_any {T : Nat → Prop} {H mb ma mn ms mw mp : Nat} {lv tv hv : Value} {x : Hs} {told : List To} {t : To} {i : Nat} {L : List Dn} (w : World) (h : HAt w T H mb ma mn ms mw mp lv tv hv x) (ht : toK.row w T tv told) (hi : told[i]? = some t) (hL : x.bat = findD L) :
    Calls Tryz.prog 53 #[.pointer (some ⟨H, 0, none⟩), .int .i64 (i : Int)] w fun e w' => e = .returned (.bool (t.done.any fun d => !decide (findD (L ++ t.done) d.1 = some d.2))) ∧ batK w' mb (findD (L ++ t.done)) ∧ Upd [mb] w w' := by
  obtain ⟨xo, cp, rfl, hcp, hcm, hg⟩ := to_get ht
  simp only [maxLen] at hcm
  have y1 : w.cell? ⟨H, 1, none⟩ = some (.slice xo told.length cp) := blk_cell h.blk rfl
  have hlt := (List.getElem?_eq_some_iff.1 hi).1
  obtain ⟨b, off, r, n, xa, ca, xd, cd, rfl, hb, hTb, -, hdn, -, -, -, -, z4⟩ := hg i t hi
  obtain ⟨xd', cd', he, hcd, hcdm, hdg⟩ := Row.get dnK.hz hdn
  cases he
  simp only [maxLen] at hcdm
  have d1 : decide (0 ≤ (i : Int)) = true := by simp
  have hmb := h.ord
  have hold := h.old
  have hbat := h.bat
  rw [hL] at hbat
  obtain ⟨P, hP⟩ : ∃ P : Dn → Bool, P = fun d => !decide (findD (L ++ t.done) d.1 = some d.2) := ⟨_, rfl⟩
  rw [← hP]
  have HB := hide hbat; have HG := hide hdg; have HBLK := hide h.blk; have HO := hide hold; have HP := hide hP
  clear hg h ht hi hL hdn hbat hdg hold hP
  go_enter Tryz.func53, Tryz.ntmps53
  go_wp2_with fail
  go_loopw [5, 19] (fun s5 si wr => ∃ k : Nat, k ≤ t.done.length ∧ si = .int .i64 k ∧ s5 = .bool ((t.done.take k).any P) ∧ batK wr mb (findD (L ++ t.done.take k)) ∧ Upd [mb] w wr) (fun _ si _ => t.done.length - (intOf si).toNat)
  case atStart => exact ⟨0, by omega, rfl, rfl, by rw [List.take_zero, List.append_nil]; exact HB.out, Upd.refl _ _⟩
  case round =>
    obtain ⟨k, hk, rfl, rfl, hbt, hu⟩ := hrel
    have BT := hide hbt; have HU := hide hu
    clear hbt hu
    by_cases hkl : k < t.done.length
    · have d5 : decide ((k : Int) < t.done.length) = true := by simp; omega
      have d5' : decide (k < t.done.length) = true := by simpa using hkl
      obtain ⟨d, hd⟩ : ∃ d, t.done[k]? = some d := ⟨_, List.getElem?_eq_getElem hkl⟩
      obtain ⟨bd, od, cs, rfl, hbd, hTd, ⟨hs, v, rfl, hby⟩, -, hcd2⟩ := HG.out k d hd
      obtain ⟨xb, m, c, rfl, hsrc, hmc, hcmx, hTx⟩ := hby
      have q0 : wr.cell? ⟨bd, od + k * 2, none⟩ = some (.int .u64 (d.1 : Int)) := cellU (hcd2 0 _ rfl) HU.out (by simp; have := HO.out _ hTd; omega)
      have q1 : wr.cell? ⟨bd, od + k * 2 + 1, none⟩ = some (.slice xb m c) := cellU (hcd2 1 _ rfl) HU.out (by simp; have := HO.out _ hTd; omega)
      have HD := hide hd; have SRC := hide (src_upd hsrc HU.out (fun a ha hm hb => by simp at hb; have := HO.out _ (hTx a ha hm); omega)); have HTX := hide hTx
      clear hcd2 hd hsrc hTx
      go_wp2_with fail
      have hB := blk_new wr (.cells #[.int .u64 (d.1 : Int), .slice xb m c] 34)
      have hal := (Upd.refl [] wr).alloc (.cells #[.int .u64 (d.1 : Int), .slice xb m c] 34)
      have hsz : (wr.alloc (.cells #[.int .u64 (d.1 : Int), .slice xb m c] 34)).heap.size = wr.heap.size + 1 := by simp
      change Code.wp _ _ _ _ (wr.alloc (.cells #[.int .u64 (d.1 : Int), .slice xb m c] 34))
      generalize wr.alloc (.cells #[.int .u64 (d.1 : Int), .slice xb m c] 34) = w1 at *
      have hmw := BT.out.lt
      have hHw := blk_lt HBLK.out
      obtain ⟨B, hBs⟩ : ∃ B, wr.heap.size = B := ⟨_, rfl⟩
      rw [hBs] at hB hsz hmw ⊢
      have U1 := hide (HU.out.trans (hal.mono (by simp)))
      have B1 := hide hB; have M1 := hide (BT.out.upd_nil (hal.drewN 1)); have S1 := hide (src_upd_nil SRC.out (hal.drewN 1)); have H1 := hide (U1.out.get HBLK.out (by simp; omega))
      have hHB : H ≠ B := by have := HU.out.size; omega
      clear hB hal BT SRC q0 q1
      have KN : ∀ j, findD (L ++ t.done.take (k + 1)) j = (findD (L ++ t.done.take k) j).or (if j = d.1 then some d.2 else none) := fun j => findD_seen HD.out
      have KP := take_any (p := P) HD.out
      have KA := fun b => findD_all (L := L) (ds := t.done) (k := k) (s := d.1) (b := b)
      have KB := fun b => findD_all (L := L) (ds := t.done) (k := k + 1) (s := d.1) (b := b)
      have hPd : P d = !decide (findD (L ++ t.done) d.1 = some d.2) := by rw [HP.out]
      obtain ⟨f, hf⟩ : ∃ f, findD (L ++ t.done.take k) = f := ⟨_, rfl⟩
      rw [hf] at KN M1 KA
      have LK := hide fun wx (hS : Upd [] (w1.drewN 1) wx) => bat_look (M1.out.upd_nil hS) d.1
      obtain ⟨o, ho⟩ : ∃ o, f d.1 = o := ⟨_, rfl⟩
      rw [ho] at LK
      rw [ho] at KA
      obtain ⟨vo, hvo⟩ : ∃ vo, o.getD [] = vo := ⟨_, rfl⟩
      obtain ⟨io, hio⟩ : ∃ io, o.isSome = io := ⟨_, rfl⟩
      rw [hvo, hio] at LK
      have KAA := hide KA; have KBB := hide KB; have KNN := hide KN; have KPP := hide KP; have HPD := hide hPd; have HOO := hide ho; have HVO := hide hvo; have HIO := hide hio; have HF := hide hf
      clear KA KB KN KP hPd ho hvo hio hf
      refine wp_region_seq tbOps5 (by kernel_rfl) [] (Upd [] (w1.drewN 1)) (by kernel_rfl) (by kernel_rfl) (fun _ _ d _ _ h => by cases d <;> exact h) (Upd.refl _ _) ?_
      refine wpSeq_take (by kernel_rfl) (by kernel_rfl) ?_
      apply Exists.intro
      refine ⟨fun wx hS => ?_, fun a' ha => ?_⟩
      · go_simp; rfl
      simp only [Act.put, List.setIfInBounds_toArray, List.set_cons_succ, List.set_cons_zero] at ha
      subst ha
      refine wpSeq_take (by kernel_rfl) (by kernel_rfl) ?_
      apply Exists.intro
      refine ⟨fun wx hS => ?_, fun a' ha => ?_⟩
      · go_simp; rfl
      simp only [Act.put, List.setIfInBounds_toArray, List.set_cons_succ, List.set_cons_zero] at ha
      subst ha
      refine wpSeq_take (by kernel_rfl) (by kernel_rfl) ?_
      apply Exists.intro
      refine ⟨fun wx hS => ?_, fun a' ha => ?_⟩
      · go_simp; rfl
      simp only [Act.put, List.setIfInBounds_toArray, List.set_cons_succ, List.set_cons_zero] at ha
      subst ha
      refine wpSeq_take (by kernel_rfl) (by kernel_rfl) ?_
      apply Exists.intro
      refine ⟨fun wx hS => ?_, fun a' ha => ?_⟩
      · have c0 : wx.cell? ⟨H, 2, none⟩ = some (.map (some mb)) := blk_cell (hS.get (show (w1.drewN 1).heap[H]? = _ from H1.out) (by simp)) rfl; go_simp; rfl
      simp only [Act.put, List.setIfInBounds_toArray, List.set_cons_succ, List.set_cons_zero] at ha
      subst ha
      refine wpSeq_take (by kernel_rfl) (by kernel_rfl) ?_
      apply Exists.intro
      refine ⟨fun wx hS => ?_, fun a' ha => ?_⟩
      · go_simp; rfl
      simp only [Act.put, List.setIfInBounds_toArray, List.set_cons_succ, List.set_cons_zero] at ha
      subst ha
      refine wpSeq_take (by kernel_rfl) (by kernel_rfl) ?_
      apply Exists.intro
      refine ⟨fun wx hS => ?_, fun a' ha => ?_⟩
      · have c0 : wx.cell? ⟨B, 0, none⟩ = some (.int .u64 (d.1 : Int)) := blk_cell (hS.get (show (w1.drewN 1).heap[B]? = _ from B1.out) (by simp)) rfl; go_simp; rfl
      simp only [Act.put, List.setIfInBounds_toArray, List.set_cons_succ, List.set_cons_zero] at ha
      subst ha
      refine wpSeq_take (by kernel_rfl) (by kernel_rfl) ?_
      apply Exists.intro
      refine ⟨fun wx hS => ?_, fun a' ha => ?_⟩
      · have c0 := LK.out wx hS; go_simp; rfl
      simp only [Act.put, List.setIfInBounds_toArray, List.set_cons_succ, List.set_cons_zero] at ha
      subst ha
      refine wpSeq_take (by kernel_rfl) (by kernel_rfl) ?_
      apply Exists.intro
      refine ⟨fun wx hS => ?_, fun a' ha => ?_⟩
      · go_simp; rfl
      simp only [Act.put, List.setIfInBounds_toArray, List.set_cons_succ, List.set_cons_zero] at ha
      subst ha
      refine wpSeq_take (by kernel_rfl) (by kernel_rfl) ?_
      apply Exists.intro
      refine ⟨fun wx hS => ?_, fun a' ha => ?_⟩
      · go_simp; rfl
      simp only [Act.put, List.setIfInBounds_toArray, List.set_cons_succ, List.set_cons_zero] at ha
      subst ha
      refine wpSeq_take (by kernel_rfl) (by kernel_rfl) ?_
      apply Exists.intro
      refine ⟨fun wx hS => ?_, fun a' ha => ?_⟩
      · go_simp; rfl
      simp only [Act.put, List.setIfInBounds_toArray, List.set_cons_succ, List.set_cons_zero] at ha
      subst ha
      refine wpSeq_take (by kernel_rfl) (by kernel_rfl) ?_
      apply Exists.intro
      refine ⟨fun wx hS => ?_, fun a' ha => ?_⟩
      · go_simp; rfl
      simp only [Act.put, List.setIfInBounds_toArray, List.set_cons_succ, List.set_cons_zero] at ha
      subst ha
      refine wpSeq_take (by kernel_rfl) (by kernel_rfl) ?_
      apply Exists.intro
      refine ⟨fun wx hS => ?_, fun a' ha => ?_⟩
      · go_simp; rfl
      simp only [Act.put, List.setIfInBounds_toArray, List.set_cons_succ, List.set_cons_zero] at ha
      subst ha
      unfold wpSeq
      have HD1 : Hid ((w1.drewN 1).heap[B]? = some (.cells #[.int .u64 (d.1 : Int), .slice xb m c] 34 (0, 0))) := B1
      have hk1 : k + 1 ≤ t.done.length := by omega
      have hki : intOf (.int .i64 ((k : Int) + 1)) = (k : Int) + 1 := rfl
      cases io with
      | false =>
        have hn : o = none := by cases o with | none => rfl | some y => have := HIO.out; cases this
        go_upto_region 7 with fail
        have M2 := hide (M1.out.upd_nil ((Upd.refl [] (w1.drewN 1)).drewN 1)); have S2 := hide (src_upd_nil S1.out ((Upd.refl [] (w1.drewN 1)).drewN 1))
        have hBm : B ≠ mb := by omega
        have hHm : H ≠ mb := by omega
        have H2 : Hid (((w1.drewN 1).drewN 1).heap[H]? = some (.cells #[lv, .slice (some ⟨b, off, none⟩) told.length cp, .map (some mb), .map (some ma), hv, .map (some mn), .map (some ms), .map (some mw), .map (some mp), .int .i64 x.last] THi (0, 0))) := H1
        have HD2 : Hid (((w1.drewN 1).drewN 1).heap[B]? = some (.cells #[.int .u64 (d.1 : Int), .slice xb m c] 34 (0, 0))) := B1
        have hTm : ∀ a, xb = some a → m ≠ 0 → a.block ∉ [mb] := fun a ha hm hb => by have := HO.out _ (HTX.out a ha hm); simp at hb; omega
        have HTM := hide hTm
        clear hTm
        refine wp_region_seq tbOps7 (by kernel_rfl) [9] (Upd [mb] ((w1.drewN 1).drewN 1)) (by kernel_rfl) (by kernel_rfl) (fun _ _ d _ _ h => by cases d <;> exact h) (Upd.refl _ _) ?_
        refine wpSeq_take (by kernel_rfl) (by kernel_rfl) ?_
        apply Exists.intro
        refine ⟨fun wx hS => ?_, fun a' ha => ?_⟩
        · go_simp; rfl
        simp only [Act.put, List.setIfInBounds_toArray, List.set_cons_succ, List.set_cons_zero] at ha
        subst ha
        refine wpSeq_take (by kernel_rfl) (by kernel_rfl) ?_
        apply Exists.intro
        refine ⟨fun wx hS => ?_, fun a' ha => ?_⟩
        · go_simp; rfl
        simp only [Act.put, List.setIfInBounds_toArray, List.set_cons_succ, List.set_cons_zero] at ha
        subst ha
        refine wpSeq_take (by kernel_rfl) (by kernel_rfl) ?_
        apply Exists.intro
        refine ⟨fun wx hS => ?_, fun a' ha => ?_⟩
        · go_simp; rfl
        simp only [Act.put, List.setIfInBounds_toArray, List.set_cons_succ, List.set_cons_zero] at ha
        subst ha
        refine wpSeq_take (by kernel_rfl) (by kernel_rfl) ?_
        apply Exists.intro
        refine ⟨fun wx hS => ?_, fun a' ha => ?_⟩
        · have c0 : wx.cell? ⟨H, 2, none⟩ = some (.map (some mb)) := blk_cell (hS.get H2.out (by simpa using hHm)) rfl; go_simp; rfl
        simp only [Act.put, List.setIfInBounds_toArray, List.set_cons_succ, List.set_cons_zero] at ha
        subst ha
        refine wpSeq_take (by kernel_rfl) (by kernel_rfl) ?_
        apply Exists.intro
        refine ⟨fun wx hS => ?_, fun a' ha => ?_⟩
        · go_simp; rfl
        simp only [Act.put, List.setIfInBounds_toArray, List.set_cons_succ, List.set_cons_zero] at ha
        subst ha
        refine wpSeq_take (by kernel_rfl) (by kernel_rfl) ?_
        apply Exists.intro
        refine ⟨fun wx hS => ?_, fun a' ha => ?_⟩
        · have c0 : wx.cell? ⟨B, 0, none⟩ = some (.int .u64 (d.1 : Int)) := blk_cell (hS.get HD2.out (by simpa using hBm)) rfl; go_simp; rfl
        simp only [Act.put, List.setIfInBounds_toArray, List.set_cons_succ, List.set_cons_zero] at ha
        subst ha
        refine wpSeq_take (by kernel_rfl) (by kernel_rfl) ?_
        apply Exists.intro
        refine ⟨fun wx hS => ?_, fun a' ha => ?_⟩
        · go_simp; rfl
        simp only [Act.put, List.setIfInBounds_toArray, List.set_cons_succ, List.set_cons_zero] at ha
        subst ha
        refine wpSeq_take (by kernel_rfl) (by kernel_rfl) ?_
        apply Exists.intro
        refine ⟨fun wx hS => ?_, fun a' ha => ?_⟩
        · have c0 : wx.cell? ⟨B, 1, none⟩ = some (.slice xb m c) := blk_cell (hS.get HD2.out (by simpa using hBm)) rfl; go_simp; rfl
        simp only [Act.put, List.setIfInBounds_toArray, List.set_cons_succ, List.set_cons_zero] at ha
        subst ha
        refine wpSeq_take (by kernel_rfl) (by kernel_rfl) ?_
        apply Exists.intro
        refine ⟨fun wx hS => ?_, fun a' ha => ?_⟩
        · have c0 := run_str (src_upd S2.out hS HTM.out); go_simp; rfl
        simp only [Act.put, List.setIfInBounds_toArray, List.set_cons_succ, List.set_cons_zero] at ha
        subst ha
        refine wpSeq_one (by kernel_rfl) (by kernel_rfl) (fun K hK => ?_)
        obtain ⟨w2, hr, hm2, hu2, hz2⟩ := bat_store M2.out d.1 d.2
        have hr' : (Instr.mapUpdate 184 (.map (some mb)) (.int .u64 (d.1 : Int)) (.string (strOf d.2))).run Tryz.prog (w1.drewN 2) = .ok () w2 := hr
        go_simp
        have hbt : ∀ j, findD (L ++ t.done.take (k + 1)) j = if j = d.1 then some d.2 else f j := fun j => by
          rw [KNN.out j]
          by_cases e : j = d.1
          · subst e; rw [HOO.out, hn]; simp
          · rw [if_neg e, if_neg e, Option.or_none]
        have hPv : P d = false := by
          have h5 : findD (L ++ t.done.take (k + 1)) d.1 = some d.2 := by rw [hbt, if_pos rfl]
          rw [HPD.out, KBB.out _ h5]
          simp
        have hPP := KPP.out
        rw [hPv, Bool.or_false] at hPP
        have U2 : Upd [mb] w w2 := ((U1.out.drewN 1).drewN 1).trans hu2
        have M3 : batK w2 mb (findD (L ++ t.done.take (k + 1))) := hm2.congr fun j => (hbt j).symm
        have UU := hide U2; have MM := hide M3; have PP := hide hPP
        clear hr hr' hm2 hbt hPv hPP U2 M3
        refine hK _ _ (hu2) ?_
        clear hK K
        try simp only [Act.put, List.setIfInBounds_toArray, List.set_cons_succ, List.set_cons_zero]
        clear hu2
        unfold wpSeq
        have RD : Hid (∃ k_1, k_1 ≤ t.done.length ∧ Value.int .i64 ((k : Int) + 1) = .int .i64 ((k_1 : Nat) : Int) ∧ Value.bool ((t.done.take k).any P) = .bool ((t.done.take k_1).any P) ∧ batK w2 mb (findD (L ++ t.done.take k_1)) ∧ Upd [mb] w w2) := hide
          ⟨k + 1, by omega, by go_num, by rw [PP.out], MM.out, UU.out⟩
        obtain ⟨wo, hwo⟩ : ∃ wo, (t.done.take k).any P = wo := ⟨_, rfl⟩
        rw [hwo] at RD ⊢
        clear hwo
        cases wo with
        | true =>
          go_wp2_with fail
          go_roundw
          case rel => exact RD.out
          case measure => simp [intOf]; omega
        | false =>
          go_wp2_with fail
          go_roundw
          case rel => exact RD.out
          case measure => simp [intOf]; omega
      | true =>
        have hn : o = some vo := by
          cases ho : o with
          | none => have := HIO.out; rw [ho] at this; cases this
          | some y => have := HVO.out; rw [ho] at this; cases this; rfl
        have hall := KAA.out vo hn
        have hPP := KPP.out
        have hPv : P d = !decide (vo = d.2) := by rw [HPD.out, hall]; simp
        rw [hPv] at hPP
        have hbt : ∀ j, findD (L ++ t.done.take (k + 1)) j = f j := fun j => by
          rw [KNN.out j]
          by_cases e : j = d.1
          · subst e; rw [HOO.out, hn]; rfl
          · rw [if_neg e, Option.or_none]
        have HBT := hide hbt; have HPP := hide hPP
        obtain ⟨wo, hwo⟩ : ∃ wo, (t.done.take k).any P = wo := ⟨_, rfl⟩
        rw [hwo] at HPP ⊢
        have c1 : (w1.drewN 1).cell? ⟨B, 1, none⟩ = some (.slice xb m c) := blk_cell HD1.out rfl
        have r1 := run_str S1.out
        have res : ∀ v : Bool, v = (wo || !decide (vo = d.2)) → ∃ k_1, k_1 ≤ t.done.length ∧ Value.int .i64 ((k : Int) + 1) = .int .i64 ((k_1 : Nat) : Int) ∧ Value.bool v = .bool ((t.done.take k_1).any P) ∧ batK (w1.drewN 1) mb (findD (L ++ t.done.take k_1)) ∧ Upd [mb] w (w1.drewN 1) := fun v hv =>
          ⟨k + 1, by omega, by go_num, by rw [hv, HPP.out], M1.out.congr (fun j => (HBT.out j).symm), U1.out.drewN 1⟩
        have RES := hide res
        clear hall hPP hPv hbt res hwo
        cases wo with
        | true =>
          go_wp2_with fail
          go_roundw
          case rel => exact RES.out true rfl
          case measure => simp [intOf]; omega
        | false =>
          by_cases hvd : vo = d.2
          · have qe : ((strOf vo).toList == (strOf d.2).toList) = true := by rw [strOf_eq, decide_eq_true hvd]
            have RD := hide (RES.out false (by simp [hvd]))
            clear RES
            go_wp2_with fail
            go_roundw
            case rel => exact RD.out
            case measure => simp [intOf]; omega
          · have qe : ((strOf vo).toList == (strOf d.2).toList) = false := by rw [strOf_eq, decide_eq_false hvd]
            have RD := hide (RES.out true (by simp [hvd]))
            clear RES
            go_wp2_with fail
            go_roundw
            case rel => exact RD.out
            case measure => simp [intOf]; omega
    · have d5 : decide ((k : Int) < t.done.length) = false := by simp; omega
      have d5' : decide (k < t.done.length) = false := by simpa using hkl
      have hke : t.done.take k = t.done := List.take_of_length_le (by omega)
      rw [hke] at BT ⊢
      go_wp2_with fail
      go_ret
      exact ⟨rfl, BT.out, HU.out⟩
end Go.Proofs.YtfmaflaoplkdbaaGreatDoor.Au
namespace Go.Proofs.YtfmaflaoplkdbaaGreatDoor.Au
open Go.RowKit Go.Proofs.YtfmaflaoplkdbaaGreatDoor.Crc Go.Proofs.YtfmaflaoplkdbaaGreatDoor.Cm Go.Proofs.YtfmaflaoplkdbaaGreatDoor.Tr
set_option linter.unusedSimpArgs false
set_option linter.unusedVariables false

theorem ans_look {w : World} {g : Nat} {f : Nu → Option An} (h : ansK w g f) (c s : Nat) :
    (Instr.lookup 185 (.map (some g)) (.agg #[.int .u32 (c : Int), .int .u32 (s : Int)]) true).run Tryz.prog w = .ok (.tuple #[.agg #[.int .u32 (((f (c, s)).getD ⟨0, 0, 0, []⟩).client : Int), .int .u32 (((f (c, s)).getD ⟨0, 0, 0, []⟩).seq : Int), .int .u8 (((f (c, s)).getD ⟨0, 0, 0, []⟩).code : Int), .string (strOf ((f (c, s)).getD ⟨0, 0, 0, []⟩).text)], .bool (f (c, s)).isSome]) w := by
  have := FIs.look h Tryz.underlying185 (zeroAns w) (c, s)
  have e : ((f (c, s)).map anv).getD (anv ⟨0, 0, 0, []⟩) = anv ((f (c, s)).getD ⟨0, 0, 0, []⟩) := by cases f (c, s) <;> rfl
  rw [e] at this
  exact this
theorem ans_store {w : World} {g : Nat} {f : Nu → Option An} (h : ansK w g f) (a : An) :
    ∃ W, (Instr.mapUpdate 185 (.map (some g)) (.agg #[.int .u32 (a.client : Int), .int .u32 (a.seq : Int)]) (.agg #[.int .u32 (a.client : Int), .int .u32 (a.seq : Int), .int .u8 (a.code : Int), .string (strOf a.text)])).run Tryz.prog w = .ok () W ∧ ansK W g (fun j => if j = anNu a then some a else f j) ∧ Upd [g] w W ∧ W.heap.size = w.heap.size :=
  FIs.store h Tryz.underlying185 (anNu a) a
theorem findA_seen {L ds : List An} {k : Nat} {s : Nu} {d : An} (hd : ds[k]? = some d) : findA (L ++ ds.take (k + 1)) s = (findA (L ++ ds.take k) s).or (findA [d] s) := by
  obtain ⟨hlt, e⟩ := List.getElem?_eq_some_iff.1 hd
  rw [List.take_succ_eq_append_getElem hlt, e, ← List.append_assoc, findA_append]
theorem findA_all {L ds : List An} {k : Nat} {s : Nu} {b : An} (h : findA (L ++ ds.take k) s = some b) : findA (L ++ ds) s = some b := by
  have e : L ++ ds = (L ++ ds.take k) ++ ds.drop k := by rw [List.append_assoc, List.take_append_drop]
  rw [e, findA_append, h, Option.some_or]
theorem an_ext {a b : An} (h1 : (a.client : Int) = b.client) (h2 : (a.seq : Int) = b.seq) (h3 : (a.code : Int) = b.code) (h4 : (strOf a.text).toList = (strOf b.text).toList) : a = b := by
  have h5 : a.text = b.text := by
    have := strOf_eq a.text b.text
    rw [h4] at this
    simpa using this
  obtain ⟨a1, a2, a3, a4⟩ := a
  obtain ⟨b1, b2, b3, b4⟩ := b
  simp only [An.mk.injEq] at *
  exact ⟨by omega, by omega, by omega, h5⟩
noncomputable def taOps7 : Array Oper := Kv.findOps 7 ((Tryz.f54.body).getD .skip)
noncomputable def taOps9 : Array Oper := Kv.findOps 9 ((Tryz.f54.body).getD .skip)
set_option maxRecDepth 100000 in
set_option maxHeartbeats 4000000 in
theorem twoAnswers_any {T : Nat → Prop} {H mb ma mn ms mw mp : Nat} {lv tv hv : Value} {x : Hs} {told : List To} {t : To} {i : Nat} {L : List An} (w : World) (h : HAt w T H mb ma mn ms mw mp lv tv hv x) (ht : toK.row w T tv told) (hi : told[i]? = some t) (hL : x.ans = findA L) :
    Calls Tryz.prog 54 #[.pointer (some ⟨H, 0, none⟩), .int .i64 (i : Int)] w fun e w' => e = .returned (.bool (t.ans.any fun a => !decide (a.code = 3) && !decide (findA (L ++ t.ans) (anNu a) = some a))) ∧ ansK w' ma (findA (L ++ t.ans)) ∧ Upd [ma] w w' := by
  obtain ⟨xo, cp, rfl, hcp, hcm, hg⟩ := to_get ht
  simp only [maxLen] at hcm
  have y1 : w.cell? ⟨H, 1, none⟩ = some (.slice xo told.length cp) := blk_cell h.blk rfl
  have hlt := (List.getElem?_eq_some_iff.1 hi).1
  obtain ⟨b, off, r, n, xa, ca, xd, cd, rfl, hb, hTb, han, -, -, -, -, z3, -⟩ := hg i t hi
  obtain ⟨xa', ca', he, hca, hcam, hag⟩ := Row.get anK.hz han
  cases he
  simp only [maxLen] at hcam
  have d1 : decide (0 ≤ (i : Int)) = true := by simp
  have hmb := h.ord
  have hold := h.old
  have hans := h.ans
  rw [hL] at hans
  obtain ⟨P, hP⟩ : ∃ P : An → Bool, P = fun a => !decide (a.code = 3) && !decide (findA (L ++ t.ans) (anNu a) = some a) := ⟨_, rfl⟩
  rw [← hP]
  have HB := hide hans; have HG := hide hag; have HBLK := hide h.blk; have HO := hide hold; have HP := hide hP
  clear hg h ht hi hL han hans hag hold hP
  go_enter Tryz.func54, Tryz.ntmps54
  go_wp2_with fail
  go_loopw [5, 20] (fun s5 si wr => ∃ k : Nat, k ≤ t.ans.length ∧ si = .int .i64 k ∧ s5 = .bool ((t.ans.take k).any P) ∧ ansK wr ma (findA (L ++ t.ans.take k)) ∧ Upd [ma] w wr) (fun _ si _ => t.ans.length - (intOf si).toNat)
  case atStart => exact ⟨0, by omega, rfl, rfl, by rw [List.take_zero, List.append_nil]; exact HB.out, Upd.refl _ _⟩
  case round =>
    obtain ⟨k, hk, rfl, rfl, hbt, hu⟩ := hrel
    have BT := hide hbt; have HU := hide hu
    clear hbt hu
    by_cases hkl : k < t.ans.length
    · have d5 : decide ((k : Int) < t.ans.length) = true := by simp; omega
      have d5' : decide (k < t.ans.length) = true := by simpa using hkl
      obtain ⟨d, hd⟩ : ∃ d, t.ans[k]? = some d := ⟨_, List.getElem?_eq_getElem hkl⟩
      obtain ⟨bd, od, cs, rfl, hbd, hTd, ⟨hfit, rfl⟩, -, hcd2⟩ := HG.out k d hd
      have q0 : wr.cell? ⟨bd, od + k * 4, none⟩ = some (.int .u32 (d.client : Int)) := cellU (hcd2 0 _ rfl) HU.out (by simp; have := HO.out _ hTd; omega)
      have q1 : wr.cell? ⟨bd, od + k * 4 + 1, none⟩ = some (.int .u32 (d.seq : Int)) := cellU (hcd2 1 _ rfl) HU.out (by simp; have := HO.out _ hTd; omega)
      have q2 : wr.cell? ⟨bd, od + k * 4 + 2, none⟩ = some (.int .u8 (d.code : Int)) := cellU (hcd2 2 _ rfl) HU.out (by simp; have := HO.out _ hTd; omega)
      have q3 : wr.cell? ⟨bd, od + k * 4 + 3, none⟩ = some (.string (strOf d.text)) := cellU (hcd2 3 _ rfl) HU.out (by simp; have := HO.out _ hTd; omega)
      have HD := hide hd
      clear hcd2 hd
      have hk1 : k + 1 ≤ t.ans.length := by omega
      by_cases hc3 : d.code = 3
      · have d6 : decide ((d.code : Int) = 3) = true := by simp [hc3]
        have d7 : ((d.code : Int) == 3) = true := by simp [hc3]
        have hPd : P d = false := by rw [HP.out]; simp [hc3]
        have hPP := take_any (p := P) HD.out
        rw [hPd, Bool.or_false] at hPP
        have hbt : ∀ j, findA (L ++ t.ans.take (k + 1)) j = findA (L ++ t.ans.take k) j := fun j => by rw [findA_seen HD.out, findA_old hc3, Option.or_none]
        have PP := hide hPP; have HBT := hide hbt
        clear hPP hbt hPd
        go_wp2_with fail
        go_roundw
        case rel => exact ⟨k + 1, hk1, by go_num, by rw [PP.out], (BT.out.upd_nil ((Upd.refl [] wr).alloc _)).congr (fun j => (HBT.out j).symm), HU.out.alloc _⟩
        case measure => simp [intOf]; omega
      · have d6 : decide ((d.code : Int) = 3) = false := by simp; omega
        have d7 : ((d.code : Int) == 3) = false := by simp; omega
        have HC3 := hide hc3
        clear hc3
        go_upto_region 7 with fail
        have hA0 := blk_new wr (.cells #[.int .u32 (d.client : Int), .int .u32 (d.seq : Int), .int .u8 (d.code : Int), .string (strOf d.text)] 39)
        have hA := blk_alloc hA0 (.cells #[.int .u32 (d.client : Int), .int .u32 (d.seq : Int)] 192)
        have hN := blk_new ((wr.alloc (.cells #[.int .u32 (d.client : Int), .int .u32 (d.seq : Int), .int .u8 (d.code : Int), .string (strOf d.text)] 39))) (.cells #[.int .u32 (d.client : Int), .int .u32 (d.seq : Int)] 192)
        rw [World.size_alloc] at hN
        have hal := ((Upd.refl [] wr).alloc (.cells #[.int .u32 (d.client : Int), .int .u32 (d.seq : Int), .int .u8 (d.code : Int), .string (strOf d.text)] 39)).alloc (.cells #[.int .u32 (d.client : Int), .int .u32 (d.seq : Int)] 192)
        have hsz : ((wr.alloc (.cells #[.int .u32 (d.client : Int), .int .u32 (d.seq : Int), .int .u8 (d.code : Int), .string (strOf d.text)] 39)).alloc (.cells #[.int .u32 (d.client : Int), .int .u32 (d.seq : Int)] 192)).heap.size = wr.heap.size + 2 := by simp
        change Code.wp _ _ _ _ ((wr.alloc (.cells #[.int .u32 (d.client : Int), .int .u32 (d.seq : Int), .int .u8 (d.code : Int), .string (strOf d.text)] 39)).alloc (.cells #[.int .u32 (d.client : Int), .int .u32 (d.seq : Int)] 192))
        clear hA0
        generalize (wr.alloc (.cells #[.int .u32 (d.client : Int), .int .u32 (d.seq : Int), .int .u8 (d.code : Int), .string (strOf d.text)] 39)).alloc (.cells #[.int .u32 (d.client : Int), .int .u32 (d.seq : Int)] 192) = w1 at *
        have hmw := BT.out.lt
        have hHw := blk_lt HBLK.out
        obtain ⟨B, hBs⟩ : ∃ B, wr.heap.size = B := ⟨_, rfl⟩
        rw [hBs] at hA hN hsz hmw ⊢
        have U1 := hide (HU.out.trans (hal.mono (by simp)))
        have A1 : Hid ((w1.drewN 1).heap[B]? = some (.cells #[.int .u32 (d.client : Int), .int .u32 (d.seq : Int), .int .u8 (d.code : Int), .string (strOf d.text)] 39 (0, 0))) := hide hA
        have N1 : Hid ((w1.drewN 1).heap[B + 1]? = some (.cells #[.int .u32 (d.client : Int), .int .u32 (d.seq : Int)] 192 (0, 0))) := hide hN
        have M1 := hide (BT.out.upd_nil (hal.drewN 1))
        have H1 : Hid ((w1.drewN 1).heap[H]? = some (.cells #[lv, .slice (some ⟨b, off, none⟩) told.length cp, .map (some mb), .map (some ma), hv, .map (some mn), .map (some ms), .map (some mw), .map (some mp), .int .i64 x.last] THi (0, 0))) := hide (U1.out.get HBLK.out (by simp; omega))
        have hHB : H < B := by have := HU.out.size; omega
        have hmB : ma < B := by have := HU.out.size; omega
        clear hA hN hal BT q0 q1 q2 q3
        have KN : ∀ j, findA (L ++ t.ans.take (k + 1)) j = (findA (L ++ t.ans.take k) j).or (if j = anNu d then some d else none) := fun j => by rw [findA_seen HD.out, findA_one HC3.out]
        have KP := take_any (p := P) HD.out
        have KA := fun b => findA_all (L := L) (ds := t.ans) (k := k) (s := anNu d) (b := b)
        have KB := fun b => findA_all (L := L) (ds := t.ans) (k := k + 1) (s := anNu d) (b := b)
        have hPd : P d = !decide (findA (L ++ t.ans) (anNu d) = some d) := by rw [HP.out]; simp [HC3.out]
        obtain ⟨f, hf⟩ : ∃ f, findA (L ++ t.ans.take k) = f := ⟨_, rfl⟩
        rw [hf] at KN M1 KA
        have LK := hide fun wx (hS : Upd [] (w1.drewN 1) wx) => ans_look (M1.out.upd_nil hS) d.client d.seq
        obtain ⟨o, ho⟩ : ∃ o, f (d.client, d.seq) = o := ⟨_, rfl⟩
        rw [ho] at LK
        have ho' : f (anNu d) = o := ho
        rw [ho'] at KA
        obtain ⟨vo, hvo⟩ : ∃ vo, o.getD ⟨0, 0, 0, []⟩ = vo := ⟨_, rfl⟩
        obtain ⟨io, hio⟩ : ∃ io, o.isSome = io := ⟨_, rfl⟩
        rw [hvo, hio] at LK
        have KAA := hide KA; have KBB := hide KB; have KNN := hide KN; have KPP := hide KP; have HPD := hide hPd; have HOO := hide ho'; have HVO := hide hvo; have HIO := hide hio
        clear KA KB KN KP hPd ho ho' hvo hio hf
        refine wp_region_seq taOps7 (by kernel_rfl) [9, 10] (Upd [] (w1.drewN 1)) (by kernel_rfl) (by kernel_rfl) (fun _ _ d _ _ h => by cases d <;> exact h) (Upd.refl _ _) ?_
        refine wpSeq_take (by kernel_rfl) (by kernel_rfl) ?_
        apply Exists.intro
        refine ⟨fun wx hS => ?_, fun a' ha => ?_⟩
        · go_simp; rfl
        simp only [Act.put, List.setIfInBounds_toArray, List.set_cons_succ, List.set_cons_zero] at ha
        subst ha
        refine wpSeq_take (by kernel_rfl) (by kernel_rfl) ?_
        apply Exists.intro
        refine ⟨fun wx hS => ?_, fun a' ha => ?_⟩
        · go_simp; rfl
        simp only [Act.put, List.setIfInBounds_toArray, List.set_cons_succ, List.set_cons_zero] at ha
        subst ha
        refine wpSeq_take (by kernel_rfl) (by kernel_rfl) ?_
        apply Exists.intro
        refine ⟨fun wx hS => ?_, fun a' ha => ?_⟩
        · go_simp; rfl
        simp only [Act.put, List.setIfInBounds_toArray, List.set_cons_succ, List.set_cons_zero] at ha
        subst ha
        refine wpSeq_take (by kernel_rfl) (by kernel_rfl) ?_
        apply Exists.intro
        refine ⟨fun wx hS => ?_, fun a' ha => ?_⟩
        · have c0 : wx.cell? ⟨H, 3, none⟩ = some (.map (some ma)) := blk_cell (hS.get H1.out (by simp)) rfl; go_simp; rfl
        simp only [Act.put, List.setIfInBounds_toArray, List.set_cons_succ, List.set_cons_zero] at ha
        subst ha
        refine wpSeq_take (by kernel_rfl) (by kernel_rfl) ?_
        apply Exists.intro
        refine ⟨fun wx hS => ?_, fun a' ha => ?_⟩
        · have c0 : wx.cell? ⟨B + 1, 0, none⟩ = some (.int .u32 (d.client : Int)) := blk_cell (hS.get N1.out (by simp)) rfl; have c1 : wx.cell? ⟨B + 1, 1, none⟩ = some (.int .u32 (d.seq : Int)) := blk_cell (hS.get N1.out (by simp)) rfl; go_simp; rfl
        simp only [Act.put, List.setIfInBounds_toArray, List.set_cons_succ, List.set_cons_zero] at ha
        subst ha
        refine wpSeq_take (by kernel_rfl) (by kernel_rfl) ?_
        apply Exists.intro
        refine ⟨fun wx hS => ?_, fun a' ha => ?_⟩
        · have c0 := LK.out wx hS; go_simp; rfl
        simp only [Act.put, List.setIfInBounds_toArray, List.set_cons_succ, List.set_cons_zero] at ha
        subst ha
        refine wpSeq_take (by kernel_rfl) (by kernel_rfl) ?_
        apply Exists.intro
        refine ⟨fun wx hS => ?_, fun a' ha => ?_⟩
        · go_simp; rfl
        simp only [Act.put, List.setIfInBounds_toArray, List.set_cons_succ, List.set_cons_zero] at ha
        subst ha
        refine wpSeq_take (by kernel_rfl) (by kernel_rfl) ?_
        apply Exists.intro
        refine ⟨fun wx hS => ?_, fun a' ha => ?_⟩
        · go_simp; rfl
        simp only [Act.put, List.setIfInBounds_toArray, List.set_cons_succ, List.set_cons_zero] at ha
        subst ha
        refine wpSeq_take (by kernel_rfl) (by kernel_rfl) ?_
        apply Exists.intro
        refine ⟨fun wx hS => ?_, fun a' ha => ?_⟩
        · go_simp; rfl
        simp only [Act.put, List.setIfInBounds_toArray, List.set_cons_succ, List.set_cons_zero] at ha
        subst ha
        refine wpSeq_one (by kernel_rfl) (by kernel_rfl) (fun K hK => ?_)
        go_simp
        refine hK _ _ (((Upd.refl [] (w1.drewN 1)).alloc _)) ?_
        clear hK K
        try simp only [Act.put, List.setIfInBounds_toArray, List.set_cons_succ, List.set_cons_zero]
        refine wpSeq_one (by kernel_rfl) (by kernel_rfl) (fun K hK => ?_)
        go_simp
        refine hK _ _ (((Upd.refl [] (w1.drewN 1)).alloc _)) ?_
        clear hK K
        try simp only [Act.put, List.setIfInBounds_toArray, List.set_cons_succ, List.set_cons_zero]
        refine wpSeq_take (by kernel_rfl) (by kernel_rfl) ?_
        apply Exists.intro
        refine ⟨fun wx hS => ?_, fun a' ha => ?_⟩
        · go_simp; rfl
        simp only [Act.put, List.setIfInBounds_toArray, List.set_cons_succ, List.set_cons_zero] at ha
        subst ha
        unfold wpSeq
        have hal2 := (Upd.refl [] (w1.drewN 1)).alloc (.cells #[.int .u32 (vo.client : Int), .int .u32 (vo.seq : Int), .int .u8 (vo.code : Int), .string (strOf vo.text)] 39)
        have hV := blk_new (w1.drewN 1) (.cells #[.int .u32 (vo.client : Int), .int .u32 (vo.seq : Int), .int .u8 (vo.code : Int), .string (strOf vo.text)] 39)
        have hsz1 : (w1.drewN 1).heap.size = B + 2 := hsz
        rw [hsz1] at hV
        generalize (w1.drewN 1).alloc (.cells #[.int .u32 (vo.client : Int), .int .u32 (vo.seq : Int), .int .u8 (vo.code : Int), .string (strOf vo.text)] 39) = w2 at *
        have U2 := hide ((U1.out.drewN 1).trans (hal2.mono (by simp)))
        have A2 := hide (hal2.get A1.out (by simp)); have N2 := hide (hal2.get N1.out (by simp)); have M2 := hide (M1.out.upd_nil hal2); have V2 := hide hV; have H2 := hide (hal2.get H1.out (by simp))
        clear hal2 hV A1 N1 M1 H1 LK
        cases io with
        | false =>
          have hn : o = none := by cases o with | none => rfl | some y => have := HIO.out; cases this
          have hbt : ∀ j, findA (L ++ t.ans.take (k + 1)) j = if j = anNu d then some d else f j := fun j => by
            rw [KNN.out j]
            by_cases e : j = anNu d
            · subst e; rw [HOO.out, hn]; simp
            · rw [if_neg e, if_neg e, Option.or_none]
          have hPv : P d = false := by
            have h5 : findA (L ++ t.ans.take (k + 1)) (anNu d) = some d := by rw [hbt, if_pos rfl]
            rw [HPD.out, KBB.out _ h5]
            simp
          have hPP := KPP.out
          rw [hPv, Bool.or_false] at hPP
          have PP := hide hPP; have HBT := hide hbt
          clear hPP hbt hPv
          go_upto_region 9 with fail
          have hHm : H ≠ ma := by omega
          have hBm : B ≠ ma := by omega
          have hB1m : B + 1 ≠ ma := by omega
          refine wp_region_seq taOps9 (by kernel_rfl) [6] (Upd [ma] (w2.drewN 1)) (by kernel_rfl) (by kernel_rfl) (fun _ _ d _ _ h => by cases d <;> exact h) (Upd.refl _ _) ?_
          refine wpSeq_take (by kernel_rfl) (by kernel_rfl) ?_
          apply Exists.intro
          refine ⟨fun wx hS => ?_, fun a' ha => ?_⟩
          · go_simp; rfl
          simp only [Act.put, List.setIfInBounds_toArray, List.set_cons_succ, List.set_cons_zero] at ha
          subst ha
          refine wpSeq_take (by kernel_rfl) (by kernel_rfl) ?_
          apply Exists.intro
          refine ⟨fun wx hS => ?_, fun a' ha => ?_⟩
          · go_simp; rfl
          simp only [Act.put, List.setIfInBounds_toArray, List.set_cons_succ, List.set_cons_zero] at ha
          subst ha
          refine wpSeq_take (by kernel_rfl) (by kernel_rfl) ?_
          apply Exists.intro
          refine ⟨fun wx hS => ?_, fun a' ha => ?_⟩
          · go_simp; rfl
          simp only [Act.put, List.setIfInBounds_toArray, List.set_cons_succ, List.set_cons_zero] at ha
          subst ha
          refine wpSeq_take (by kernel_rfl) (by kernel_rfl) ?_
          apply Exists.intro
          refine ⟨fun wx hS => ?_, fun a' ha => ?_⟩
          · have c0 : wx.cell? ⟨H, 3, none⟩ = some (.map (some ma)) := blk_cell (hS.get (show (w2.drewN 1).heap[H]? = _ from H2.out) (by simpa using hHm)) rfl; go_simp; rfl
          simp only [Act.put, List.setIfInBounds_toArray, List.set_cons_succ, List.set_cons_zero] at ha
          subst ha
          refine wpSeq_take (by kernel_rfl) (by kernel_rfl) ?_
          apply Exists.intro
          refine ⟨fun wx hS => ?_, fun a' ha => ?_⟩
          · have hb := hS.get (show (w2.drewN 1).heap[B + 1]? = _ from N2.out) (by simpa using hB1m); have c0 : wx.cell? ⟨B + 1, 0, none⟩ = some (.int .u32 (d.client : Int)) := blk_cell hb rfl; have c1 : wx.cell? ⟨B + 1, 1, none⟩ = some (.int .u32 (d.seq : Int)) := blk_cell hb rfl; go_simp; rfl
          simp only [Act.put, List.setIfInBounds_toArray, List.set_cons_succ, List.set_cons_zero] at ha
          subst ha
          refine wpSeq_take (by kernel_rfl) (by kernel_rfl) ?_
          apply Exists.intro
          refine ⟨fun wx hS => ?_, fun a' ha => ?_⟩
          · have hb := hS.get (show (w2.drewN 1).heap[B]? = _ from A2.out) (by simpa using hBm); have c0 : wx.cell? ⟨B, 0, none⟩ = some (.int .u32 (d.client : Int)) := blk_cell hb rfl; have c1 : wx.cell? ⟨B, 1, none⟩ = some (.int .u32 (d.seq : Int)) := blk_cell hb rfl; have c2 : wx.cell? ⟨B, 2, none⟩ = some (.int .u8 (d.code : Int)) := blk_cell hb rfl; have c3 : wx.cell? ⟨B, 3, none⟩ = some (.string (strOf d.text)) := blk_cell hb rfl; go_simp; rfl
          simp only [Act.put, List.setIfInBounds_toArray, List.set_cons_succ, List.set_cons_zero] at ha
          subst ha
          refine wpSeq_one (by kernel_rfl) (by kernel_rfl) (fun K hK => ?_)
          obtain ⟨w3, hr, hm3, hu3, hz3⟩ := ans_store (M2.out.upd_nil ((Upd.refl [] w2).drewN 1)) d
          have hr' : (Instr.mapUpdate 185 (.map (some ma)) (.agg #[.int .u32 (d.client : Int), .int .u32 (d.seq : Int)]) (.agg #[.int .u32 (d.client : Int), .int .u32 (d.seq : Int), .int .u8 (d.code : Int), .string (strOf d.text)])).run Tryz.prog (w2.drewN 1) = .ok () w3 := hr
          go_simp
          have UU := hide ((U2.out.drewN 1).trans hu3); have MM : Hid (ansK w3 ma (findA (L ++ t.ans.take (k + 1)))) := hide (hm3.congr fun j => (HBT.out j).symm)
          clear hr hr' hm3 hz3
          refine hK _ _ (hu3) ?_
          clear hK K
          try simp only [Act.put, List.setIfInBounds_toArray, List.set_cons_succ, List.set_cons_zero]
          clear hu3
          unfold wpSeq
          have RD : Hid (∃ k_1, k_1 ≤ t.ans.length ∧ Value.int .i64 ((k : Int) + 1) = .int .i64 ((k_1 : Nat) : Int) ∧ Value.bool ((t.ans.take k).any P) = .bool ((t.ans.take k_1).any P) ∧ ansK w3 ma (findA (L ++ t.ans.take k_1)) ∧ Upd [ma] w w3) := hide
            ⟨k + 1, hk1, by go_num, by rw [PP.out], MM.out, UU.out⟩
          obtain ⟨wo, hwo⟩ : ∃ wo, (t.ans.take k).any P = wo := ⟨_, rfl⟩
          rw [hwo] at RD ⊢
          clear hwo
          cases wo with
          | true =>
            go_wp2_with fail
            go_roundw
            case rel => exact RD.out
            case measure => simp [intOf]; omega
          | false =>
            go_wp2_with fail
            go_roundw
            case rel => exact RD.out
            case measure => simp [intOf]; omega
        | true =>
          have hn : o = some vo := by
            cases ho : o with
            | none => have := HIO.out; rw [ho] at this; cases this
            | some y => have := HVO.out; rw [ho] at this; cases this; rfl
          have hall := KAA.out vo hn
          have hPP := KPP.out
          have hPv : P d = !decide (vo = d) := by rw [HPD.out, hall]; simp
          rw [hPv] at hPP
          have hbt : ∀ j, findA (L ++ t.ans.take (k + 1)) j = f j := fun j => by
            rw [KNN.out j]
            by_cases e : j = anNu d
            · subst e; rw [HOO.out, hn]; rfl
            · rw [if_neg e, Option.or_none]
          have HBT := hide hbt; have HPP := hide hPP
          obtain ⟨wo, hwo⟩ : ∃ wo, (t.ans.take k).any P = wo := ⟨_, rfl⟩
          rw [hwo] at HPP ⊢
          have res : ∀ v : Bool, v = (wo || !decide (vo = d)) → ∃ k_1, k_1 ≤ t.ans.length ∧ Value.int .i64 ((k : Int) + 1) = .int .i64 ((k_1 : Nat) : Int) ∧ Value.bool v = .bool ((t.ans.take k_1).any P) ∧ ansK w2 ma (findA (L ++ t.ans.take k_1)) ∧ Upd [ma] w w2 := fun v hv =>
            ⟨k + 1, hk1, by go_num, by rw [hv, HPP.out], M2.out.congr (fun j => (HBT.out j).symm), U2.out⟩
          have RES := hide res
          clear hall hPP hPv hbt res hwo
          have e0 : w2.cell? ⟨B, 0, none⟩ = some (.int .u32 (d.client : Int)) := blk_cell A2.out rfl
          have e1 : w2.cell? ⟨B, 1, none⟩ = some (.int .u32 (d.seq : Int)) := blk_cell A2.out rfl
          have e2 : w2.cell? ⟨B, 2, none⟩ = some (.int .u8 (d.code : Int)) := blk_cell A2.out rfl
          have e3 : w2.cell? ⟨B, 3, none⟩ = some (.string (strOf d.text)) := blk_cell A2.out rfl
          have g0 : w2.cell? ⟨B + 2, 0, none⟩ = some (.int .u32 (vo.client : Int)) := blk_cell V2.out rfl
          have g1 : w2.cell? ⟨B + 2, 1, none⟩ = some (.int .u32 (vo.seq : Int)) := blk_cell V2.out rfl
          have g2 : w2.cell? ⟨B + 2, 2, none⟩ = some (.int .u8 (vo.code : Int)) := blk_cell V2.out rfl
          have g3 : w2.cell? ⟨B + 2, 3, none⟩ = some (.string (strOf vo.text)) := blk_cell V2.out rfl
          cases wo with
          | true =>
            go_wp2_with fail
            go_roundw
            case rel => exact RES.out true rfl
            case measure => simp [intOf]; omega
          | false =>
            by_cases hvd : vo = d
            · have RD := hide (RES.out false (by simp [hvd]))
              clear RES
              subst hvd
              go_wp2_with fail
              go_roundw
              case rel => exact RD.out
              case measure => simp [intOf]; omega
            · have RD := hide (RES.out true (by simp [hvd]))
              have HVD := hide hvd
              clear RES hvd
              go_wp2_with fail
              all_goals go_roundw
              all_goals first | exact RD.out | (simp [intOf]; omega) | skip
              all_goals exact absurd (an_ext (by omega) (by omega) (by omega) (by assumption)) HVD.out
    · have d5 : decide ((k : Int) < t.ans.length) = false := by simp; omega
      have d5' : decide (k < t.ans.length) = false := by simpa using hkl
      have hke : t.ans.take k = t.ans := List.take_of_length_le (by omega)
      rw [hke] at BT ⊢
      go_wp2_with fail
      go_ret
      exact ⟨rfl, BT.out, HU.out⟩
end Go.Proofs.YtfmaflaoplkdbaaGreatDoor.Au
namespace Go.Proofs.YtfmaflaoplkdbaaGreatDoor.Au
open Go.RowKit Go.Proofs.YtfmaflaoplkdbaaGreatDoor.Crc Go.Proofs.YtfmaflaoplkdbaaGreatDoor.Cm Go.Proofs.YtfmaflaoplkdbaaGreatDoor.Tr
set_option linter.unusedSimpArgs false
set_option linter.unusedVariables false

theorem slb_look {w : World} {g : Nat} {f : Nat → Option Bool} (h : slbK w g f) (s : Nat) :
    (Instr.lookup 187 (.map (some g)) (.int .u64 (s : Int)) false).run Tryz.prog w = .ok (.bool ((f s).getD false)) w := by
  have := FIs.look1 h Tryz.underlying187 (zeroBool w) s
  have e : ((f s).map Value.bool).getD (.bool false) = .bool ((f s).getD false) := by cases f s <;> rfl
  rw [e] at this
  exact this
theorem slb_store {w : World} {g : Nat} {f : Nat → Option Bool} (h : slbK w g f) (s : Nat) (b : Bool) :
    ∃ W, (Instr.mapUpdate 187 (.map (some g)) (.int .u64 (s : Int)) (.bool b)).run Tryz.prog w = .ok () W ∧ slbK W g (fun j => if j = s then some b else f j) ∧ Upd [g] w W ∧ W.heap.size = w.heap.size :=
  FIs.store h Tryz.underlying187 s b
/-- What has been told, as a map of flags. -/
def seenM (L : List Dn) (s : Nat) : Option Bool := if (findD L s).isSome then some true else none
theorem seen_next {L ds : List Dn} {k : Nat} {d : Dn} (hd : ds[k]? = some d) (s : Nat) : seenM (L ++ ds.take (k + 1)) s = if s = d.1 then some true else seenM (L ++ ds.take k) s := by
  unfold seenM
  rw [findD_seen hd]
  by_cases e : s = d.1
  · cases findD (L ++ ds.take k) s <;> simp [e]
  · simp [e]
theorem findD_mem {L : List Dn} {s : Nat} (h : (findD L s).isSome = true) : ∃ d ∈ L, d.1 = s := by
  unfold findD at h
  rw [Option.isSome_map, List.find?_isSome] at h
  obtain ⟨d, h1, h2⟩ := h
  exact ⟨d, h1, by simpa using h2⟩
theorem fold_step {L ds : List Dn} {k : Nat} {d : Dn} {wr : Nat → Option Bool} (hd : ds[k]? = some d) :
    (ds.take (k + 1)).any (fun d => (findD L d.1).isNone && (wr d.1).getD false) = ((ds.take k).any (fun d => (findD L d.1).isNone && (wr d.1).getD false) || (!((seenM (L ++ ds.take k) d.1).getD false) && (wr d.1).getD false)) := by
  rw [take_any hd]
  unfold seenM
  rw [findD_append]
  cases h1 : findD L d.1 with
  | some b => simp
  | none =>
    rw [Option.none_or]
    cases h2 : findD (ds.take k) d.1 with
    | none => simp
    | some b =>
      obtain ⟨d', h3, h4⟩ := findD_mem (L := ds.take k) (s := d.1) (by rw [h2]; rfl)
      cases hw : (wr d.1).getD false with
      | false => simp
      | true =>
        have : (ds.take k).any (fun d => (findD L d.1).isNone && (wr d.1).getD false) = true := by
          rw [List.any_eq_true]
          exact ⟨d', h3, by rw [h4, h1, hw]; rfl⟩
        rw [this]
        simp
noncomputable def foOps6 : Array Oper := Kv.findOps 6 ((Tryz.f57.body).getD .skip)
set_option maxRecDepth 100000 in
set_option maxHeartbeats 4000000 in
theorem fold_any {T : Nat → Prop} {H mb ma mn ms mw mp : Nat} {lv tv hv : Value} {x : Hs} {told : List To} {t : To} {i : Nat} {L : List Dn} (w : World) (h : HAt w T H mb ma mn ms mw mp lv tv hv x) (ht : toK.row w T tv told) (hi : told[i]? = some t) (hL : x.seen = seenM L) :
    Calls Tryz.prog 57 #[.pointer (some ⟨H, 0, none⟩), .int .i64 (i : Int)] w fun e w' => e = .returned (.bool (t.done.any fun d => (findD L d.1).isNone && (x.wrong d.1).getD false)) ∧ slbK w' ms (seenM (L ++ t.done)) ∧ Upd [ms] w w' := by
  obtain ⟨xo, cp, rfl, hcp, hcm, hg⟩ := to_get ht
  simp only [maxLen] at hcm
  have y1 : w.cell? ⟨H, 1, none⟩ = some (.slice xo told.length cp) := blk_cell h.blk rfl
  have hlt := (List.getElem?_eq_some_iff.1 hi).1
  obtain ⟨b, off, r, n, xa, ca, xd, cd, rfl, hb, hTb, -, hdn, -, -, -, -, z4⟩ := hg i t hi
  obtain ⟨xd', cd', he, hcd, hcdm, hdg⟩ := Row.get dnK.hz hdn
  cases he
  simp only [maxLen] at hcdm
  have d1 : decide (0 ≤ (i : Int)) = true := by simp
  have hmb := h.ord
  have hold := h.old
  have hseen := h.seen
  rw [hL] at hseen
  have hwr := h.wrong
  obtain ⟨P, hP⟩ : ∃ P : Dn → Bool, P = fun d => (findD L d.1).isNone && (x.wrong d.1).getD false := ⟨_, rfl⟩
  rw [← hP]
  have HB := hide hseen; have HW := hide hwr; have HG := hide hdg; have HBLK := hide h.blk; have HO := hide hold; have HP := hide hP
  clear hg h ht hi hL hdn hseen hdg hold hP hwr
  go_enter Tryz.func57, Tryz.ntmps57
  go_wp2_with fail
  go_loopw [5, 17] (fun s5 si wr => ∃ k : Nat, k ≤ t.done.length ∧ si = .int .i64 k ∧ s5 = .bool ((t.done.take k).any P) ∧ slbK wr ms (seenM (L ++ t.done.take k)) ∧ Upd [ms] w wr) (fun _ si _ => t.done.length - (intOf si).toNat)
  case atStart => exact ⟨0, by omega, rfl, rfl, by rw [List.take_zero, List.append_nil]; exact HB.out, Upd.refl _ _⟩
  case round =>
    obtain ⟨k, hk, rfl, rfl, hbt, hu⟩ := hrel
    have BT := hide hbt; have HU := hide hu
    clear hbt hu
    by_cases hkl : k < t.done.length
    · have d5 : decide ((k : Int) < t.done.length) = true := by simp; omega
      have d5' : decide (k < t.done.length) = true := by simpa using hkl
      obtain ⟨d, hd⟩ : ∃ d, t.done[k]? = some d := ⟨_, List.getElem?_eq_getElem hkl⟩
      obtain ⟨bd, od, cs, rfl, hbd, hTd, ⟨hs, v, rfl, hby⟩, -, hcd2⟩ := HG.out k d hd
      obtain ⟨xb, m, c, rfl, hsrc, hmc, hcmx, hTx⟩ := hby
      have q0 : wr.cell? ⟨bd, od + k * 2, none⟩ = some (.int .u64 (d.1 : Int)) := cellU (hcd2 0 _ rfl) HU.out (by simp; have := HO.out _ hTd; omega)
      have q1 : wr.cell? ⟨bd, od + k * 2 + 1, none⟩ = some (.slice xb m c) := cellU (hcd2 1 _ rfl) HU.out (by simp; have := HO.out _ hTd; omega)
      have hk1 : k + 1 ≤ t.done.length := by omega
      have hst := fold_step (L := L) (wr := x.wrong) hd
      rw [← HP.out] at hst
      have hsn := fun s => seen_next (L := L) hd s
      have ST := hide hst; have SN := hide hsn
      clear hcd2 hd hsrc hTx hst hsn
      go_upto_region 5 with fail
      have hB := blk_new wr (.cells #[.int .u64 (d.1 : Int), .slice xb m c] 34)
      have hal := (Upd.refl [] wr).alloc (.cells #[.int .u64 (d.1 : Int), .slice xb m c] 34)
      change Code.wp _ _ _ _ (wr.alloc (.cells #[.int .u64 (d.1 : Int), .slice xb m c] 34))
      generalize wr.alloc (.cells #[.int .u64 (d.1 : Int), .slice xb m c] 34) = w1 at *
      have hmw := BT.out.lt
      have hHw := blk_lt HBLK.out
      have hz := HU.out.size
      obtain ⟨B, hBs⟩ : ∃ B, wr.heap.size = B := ⟨_, rfl⟩
      rw [hBs] at hB hmw hz ⊢
      have U1 := hide (HU.out.trans (hal.mono (by simp)))
      have B1 := hide hB; have M1 := hide (BT.out.upd_nil hal); have W1 := hide (HW.out.upd U1.out (by simp; omega)); have H1 := hide (U1.out.get HBLK.out (by simp; omega))
      have hHm : H ≠ ms := by omega
      have hBm : B ≠ ms := by omega
      clear hB hal BT q0 q1
      have c0 : w1.cell? ⟨H, 6, none⟩ = some (.map (some ms)) := blk_cell H1.out rfl
      have c1 : w1.cell? ⟨H, 7, none⟩ = some (.map (some mw)) := blk_cell H1.out rfl
      have c2 : w1.cell? ⟨B, 0, none⟩ = some (.int .u64 (d.1 : Int)) := blk_cell B1.out rfl
      have l1 := fun n => slb_look (M1.out.upd_nil ((Upd.refl [] w1).drewN n)) d.1
      have l2 := fun n => slb_look (W1.out.upd_nil ((Upd.refl [] w1).drewN n)) d.1
      obtain ⟨se, hse⟩ : ∃ se, (seenM (L ++ t.done.take k) d.1).getD false = se := ⟨_, rfl⟩
      obtain ⟨we, hwe⟩ : ∃ we, (x.wrong d.1).getD false = we := ⟨_, rfl⟩
      obtain ⟨wo, hwo⟩ : ∃ wo, (t.done.take k).any P = wo := ⟨_, rfl⟩
      have hst := ST.out
      rw [hse, hwe, hwo] at hst
      rw [hse] at l1
      rw [hwe] at l2
      rw [hwo]
      have ST2 := hide hst
      clear hst hse hwe hwo ST
      cases wo with
      | true =>
        have RES : Hid ((t.done.take (k + 1)).any P = true) := hide (by rw [ST2.out]; simp)
        go_quiet (fail)
        have u2 := (Upd.refl [] w1).drewN nq
        generalize w1.drewN nq = w2 at *
        have H2 := hide (u2.get H1.out (by simp)); have B2 := hide (u2.get B1.out (by simp)); have M2 := hide (M1.out.upd_nil u2); have U2 := hide (U1.out.trans (u2.mono (by simp)))
        clear u2 H1 B1 M1 U1 W1 c0 c1 c2 l1 l2
        go_upto_region 6 with fail
        refine wp_region_seq foOps6 (by kernel_rfl) [6] (Upd [ms] (w2.drewN 1)) (by kernel_rfl) (by kernel_rfl) (fun _ _ d _ _ h => by cases d <;> exact h) (Upd.refl _ _) ?_
        refine wpSeq_take (by kernel_rfl) (by kernel_rfl) ?_
        apply Exists.intro
        refine ⟨fun wx hS => ?_, fun a' ha => ?_⟩
        · go_simp; rfl
        simp only [Act.put, List.setIfInBounds_toArray, List.set_cons_succ, List.set_cons_zero] at ha
        subst ha
        refine wpSeq_take (by kernel_rfl) (by kernel_rfl) ?_
        apply Exists.intro
        refine ⟨fun wx hS => ?_, fun a' ha => ?_⟩
        · go_simp; rfl
        simp only [Act.put, List.setIfInBounds_toArray, List.set_cons_succ, List.set_cons_zero] at ha
        subst ha
        refine wpSeq_take (by kernel_rfl) (by kernel_rfl) ?_
        apply Exists.intro
        refine ⟨fun wx hS => ?_, fun a' ha => ?_⟩
        · go_simp; rfl
        simp only [Act.put, List.setIfInBounds_toArray, List.set_cons_succ, List.set_cons_zero] at ha
        subst ha
        refine wpSeq_take (by kernel_rfl) (by kernel_rfl) ?_
        apply Exists.intro
        refine ⟨fun wx hS => ?_, fun a' ha => ?_⟩
        · have c0 : wx.cell? ⟨H, 6, none⟩ = some (.map (some ms)) := blk_cell (hS.get (show (w2.drewN 1).heap[H]? = _ from H2.out) (by simpa using hHm)) rfl; go_simp; rfl
        simp only [Act.put, List.setIfInBounds_toArray, List.set_cons_succ, List.set_cons_zero] at ha
        subst ha
        refine wpSeq_take (by kernel_rfl) (by kernel_rfl) ?_
        apply Exists.intro
        refine ⟨fun wx hS => ?_, fun a' ha => ?_⟩
        · go_simp; rfl
        simp only [Act.put, List.setIfInBounds_toArray, List.set_cons_succ, List.set_cons_zero] at ha
        subst ha
        refine wpSeq_take (by kernel_rfl) (by kernel_rfl) ?_
        apply Exists.intro
        refine ⟨fun wx hS => ?_, fun a' ha => ?_⟩
        · have c0 : wx.cell? ⟨B, 0, none⟩ = some (.int .u64 (d.1 : Int)) := blk_cell (hS.get (show (w2.drewN 1).heap[B]? = _ from B2.out) (by simpa using hBm)) rfl; go_simp; rfl
        simp only [Act.put, List.setIfInBounds_toArray, List.set_cons_succ, List.set_cons_zero] at ha
        subst ha
        refine wpSeq_one (by kernel_rfl) (by kernel_rfl) (fun K hK => ?_)
        obtain ⟨w3, hr, hm3, hu3, hz3⟩ := slb_store (M2.out.upd_nil ((Upd.refl [] w2).drewN 1)) d.1 true
        have hr' : (Instr.mapUpdate 187 (.map (some ms)) (.int .u64 (d.1 : Int)) (.bool true)).run Tryz.prog (w2.drewN 1) = .ok () w3 := hr
        go_simp
        have UU := hide ((U2.out.drewN 1).trans hu3); have MM : Hid (slbK w3 ms (seenM (L ++ t.done.take (k + 1)))) := hide (hm3.congr fun j => (SN.out j).symm)
        clear hr hr' hm3 hz3
        refine hK _ _ (hu3) ?_
        clear hK K
        try simp only [Act.put, List.setIfInBounds_toArray, List.set_cons_succ, List.set_cons_zero]
        clear hu3
        unfold wpSeq
        go_wp2_with fail
        go_roundw
        case rel => exact ⟨k + 1, hk1, by go_num, by rw [RES.out], MM.out, UU.out⟩
        case measure => simp [intOf]; omega
      | false =>
        cases se with
        | true =>
          have RES : Hid ((t.done.take (k + 1)).any P = false) := hide (by rw [ST2.out]; simp)
          go_quiet (fail)
          have u2 := (Upd.refl [] w1).drewN nq
          generalize w1.drewN nq = w2 at *
          have H2 := hide (u2.get H1.out (by simp)); have B2 := hide (u2.get B1.out (by simp)); have M2 := hide (M1.out.upd_nil u2); have U2 := hide (U1.out.trans (u2.mono (by simp)))
          clear u2 H1 B1 M1 U1 W1 c0 c1 c2 l1 l2
          go_upto_region 6 with fail
          refine wp_region_seq foOps6 (by kernel_rfl) [6] (Upd [ms] (w2.drewN 1)) (by kernel_rfl) (by kernel_rfl) (fun _ _ d _ _ h => by cases d <;> exact h) (Upd.refl _ _) ?_
          refine wpSeq_take (by kernel_rfl) (by kernel_rfl) ?_
          apply Exists.intro
          refine ⟨fun wx hS => ?_, fun a' ha => ?_⟩
          · go_simp; rfl
          simp only [Act.put, List.setIfInBounds_toArray, List.set_cons_succ, List.set_cons_zero] at ha
          subst ha
          refine wpSeq_take (by kernel_rfl) (by kernel_rfl) ?_
          apply Exists.intro
          refine ⟨fun wx hS => ?_, fun a' ha => ?_⟩
          · go_simp; rfl
          simp only [Act.put, List.setIfInBounds_toArray, List.set_cons_succ, List.set_cons_zero] at ha
          subst ha
          refine wpSeq_take (by kernel_rfl) (by kernel_rfl) ?_
          apply Exists.intro
          refine ⟨fun wx hS => ?_, fun a' ha => ?_⟩
          · go_simp; rfl
          simp only [Act.put, List.setIfInBounds_toArray, List.set_cons_succ, List.set_cons_zero] at ha
          subst ha
          refine wpSeq_take (by kernel_rfl) (by kernel_rfl) ?_
          apply Exists.intro
          refine ⟨fun wx hS => ?_, fun a' ha => ?_⟩
          · have c0 : wx.cell? ⟨H, 6, none⟩ = some (.map (some ms)) := blk_cell (hS.get (show (w2.drewN 1).heap[H]? = _ from H2.out) (by simpa using hHm)) rfl; go_simp; rfl
          simp only [Act.put, List.setIfInBounds_toArray, List.set_cons_succ, List.set_cons_zero] at ha
          subst ha
          refine wpSeq_take (by kernel_rfl) (by kernel_rfl) ?_
          apply Exists.intro
          refine ⟨fun wx hS => ?_, fun a' ha => ?_⟩
          · go_simp; rfl
          simp only [Act.put, List.setIfInBounds_toArray, List.set_cons_succ, List.set_cons_zero] at ha
          subst ha
          refine wpSeq_take (by kernel_rfl) (by kernel_rfl) ?_
          apply Exists.intro
          refine ⟨fun wx hS => ?_, fun a' ha => ?_⟩
          · have c0 : wx.cell? ⟨B, 0, none⟩ = some (.int .u64 (d.1 : Int)) := blk_cell (hS.get (show (w2.drewN 1).heap[B]? = _ from B2.out) (by simpa using hBm)) rfl; go_simp; rfl
          simp only [Act.put, List.setIfInBounds_toArray, List.set_cons_succ, List.set_cons_zero] at ha
          subst ha
          refine wpSeq_one (by kernel_rfl) (by kernel_rfl) (fun K hK => ?_)
          obtain ⟨w3, hr, hm3, hu3, hz3⟩ := slb_store (M2.out.upd_nil ((Upd.refl [] w2).drewN 1)) d.1 true
          have hr' : (Instr.mapUpdate 187 (.map (some ms)) (.int .u64 (d.1 : Int)) (.bool true)).run Tryz.prog (w2.drewN 1) = .ok () w3 := hr
          go_simp
          have UU := hide ((U2.out.drewN 1).trans hu3); have MM : Hid (slbK w3 ms (seenM (L ++ t.done.take (k + 1)))) := hide (hm3.congr fun j => (SN.out j).symm)
          clear hr hr' hm3 hz3
          refine hK _ _ (hu3) ?_
          clear hK K
          try simp only [Act.put, List.setIfInBounds_toArray, List.set_cons_succ, List.set_cons_zero]
          clear hu3
          unfold wpSeq
          go_wp2_with fail
          go_roundw
          case rel => exact ⟨k + 1, hk1, by go_num, by rw [RES.out], MM.out, UU.out⟩
          case measure => simp [intOf]; omega
        | false =>
          cases we with
          | true =>
            have RES : Hid ((t.done.take (k + 1)).any P = true) := hide (by rw [ST2.out]; simp)
            go_quiet (fail)
            have u2 := (Upd.refl [] w1).drewN nq
            generalize w1.drewN nq = w2 at *
            have H2 := hide (u2.get H1.out (by simp)); have B2 := hide (u2.get B1.out (by simp)); have M2 := hide (M1.out.upd_nil u2); have U2 := hide (U1.out.trans (u2.mono (by simp)))
            clear u2 H1 B1 M1 U1 W1 c0 c1 c2 l1 l2
            go_upto_region 6 with fail
            refine wp_region_seq foOps6 (by kernel_rfl) [6] (Upd [ms] (w2.drewN 1)) (by kernel_rfl) (by kernel_rfl) (fun _ _ d _ _ h => by cases d <;> exact h) (Upd.refl _ _) ?_
            refine wpSeq_take (by kernel_rfl) (by kernel_rfl) ?_
            apply Exists.intro
            refine ⟨fun wx hS => ?_, fun a' ha => ?_⟩
            · go_simp; rfl
            simp only [Act.put, List.setIfInBounds_toArray, List.set_cons_succ, List.set_cons_zero] at ha
            subst ha
            refine wpSeq_take (by kernel_rfl) (by kernel_rfl) ?_
            apply Exists.intro
            refine ⟨fun wx hS => ?_, fun a' ha => ?_⟩
            · go_simp; rfl
            simp only [Act.put, List.setIfInBounds_toArray, List.set_cons_succ, List.set_cons_zero] at ha
            subst ha
            refine wpSeq_take (by kernel_rfl) (by kernel_rfl) ?_
            apply Exists.intro
            refine ⟨fun wx hS => ?_, fun a' ha => ?_⟩
            · go_simp; rfl
            simp only [Act.put, List.setIfInBounds_toArray, List.set_cons_succ, List.set_cons_zero] at ha
            subst ha
            refine wpSeq_take (by kernel_rfl) (by kernel_rfl) ?_
            apply Exists.intro
            refine ⟨fun wx hS => ?_, fun a' ha => ?_⟩
            · have c0 : wx.cell? ⟨H, 6, none⟩ = some (.map (some ms)) := blk_cell (hS.get (show (w2.drewN 1).heap[H]? = _ from H2.out) (by simpa using hHm)) rfl; go_simp; rfl
            simp only [Act.put, List.setIfInBounds_toArray, List.set_cons_succ, List.set_cons_zero] at ha
            subst ha
            refine wpSeq_take (by kernel_rfl) (by kernel_rfl) ?_
            apply Exists.intro
            refine ⟨fun wx hS => ?_, fun a' ha => ?_⟩
            · go_simp; rfl
            simp only [Act.put, List.setIfInBounds_toArray, List.set_cons_succ, List.set_cons_zero] at ha
            subst ha
            refine wpSeq_take (by kernel_rfl) (by kernel_rfl) ?_
            apply Exists.intro
            refine ⟨fun wx hS => ?_, fun a' ha => ?_⟩
            · have c0 : wx.cell? ⟨B, 0, none⟩ = some (.int .u64 (d.1 : Int)) := blk_cell (hS.get (show (w2.drewN 1).heap[B]? = _ from B2.out) (by simpa using hBm)) rfl; go_simp; rfl
            simp only [Act.put, List.setIfInBounds_toArray, List.set_cons_succ, List.set_cons_zero] at ha
            subst ha
            refine wpSeq_one (by kernel_rfl) (by kernel_rfl) (fun K hK => ?_)
            obtain ⟨w3, hr, hm3, hu3, hz3⟩ := slb_store (M2.out.upd_nil ((Upd.refl [] w2).drewN 1)) d.1 true
            have hr' : (Instr.mapUpdate 187 (.map (some ms)) (.int .u64 (d.1 : Int)) (.bool true)).run Tryz.prog (w2.drewN 1) = .ok () w3 := hr
            go_simp
            have UU := hide ((U2.out.drewN 1).trans hu3); have MM : Hid (slbK w3 ms (seenM (L ++ t.done.take (k + 1)))) := hide (hm3.congr fun j => (SN.out j).symm)
            clear hr hr' hm3 hz3
            refine hK _ _ (hu3) ?_
            clear hK K
            try simp only [Act.put, List.setIfInBounds_toArray, List.set_cons_succ, List.set_cons_zero]
            clear hu3
            unfold wpSeq
            go_wp2_with fail
            go_roundw
            case rel => exact ⟨k + 1, hk1, by go_num, by rw [RES.out], MM.out, UU.out⟩
            case measure => simp [intOf]; omega
          | false =>
            have RES : Hid ((t.done.take (k + 1)).any P = false) := hide (by rw [ST2.out]; simp)
            go_quiet (fail)
            have u2 := (Upd.refl [] w1).drewN nq
            generalize w1.drewN nq = w2 at *
            have H2 := hide (u2.get H1.out (by simp)); have B2 := hide (u2.get B1.out (by simp)); have M2 := hide (M1.out.upd_nil u2); have U2 := hide (U1.out.trans (u2.mono (by simp)))
            clear u2 H1 B1 M1 U1 W1 c0 c1 c2 l1 l2
            go_upto_region 6 with fail
            refine wp_region_seq foOps6 (by kernel_rfl) [6] (Upd [ms] (w2.drewN 1)) (by kernel_rfl) (by kernel_rfl) (fun _ _ d _ _ h => by cases d <;> exact h) (Upd.refl _ _) ?_
            refine wpSeq_take (by kernel_rfl) (by kernel_rfl) ?_
            apply Exists.intro
            refine ⟨fun wx hS => ?_, fun a' ha => ?_⟩
            · go_simp; rfl
            simp only [Act.put, List.setIfInBounds_toArray, List.set_cons_succ, List.set_cons_zero] at ha
            subst ha
            refine wpSeq_take (by kernel_rfl) (by kernel_rfl) ?_
            apply Exists.intro
            refine ⟨fun wx hS => ?_, fun a' ha => ?_⟩
            · go_simp; rfl
            simp only [Act.put, List.setIfInBounds_toArray, List.set_cons_succ, List.set_cons_zero] at ha
            subst ha
            refine wpSeq_take (by kernel_rfl) (by kernel_rfl) ?_
            apply Exists.intro
            refine ⟨fun wx hS => ?_, fun a' ha => ?_⟩
            · go_simp; rfl
            simp only [Act.put, List.setIfInBounds_toArray, List.set_cons_succ, List.set_cons_zero] at ha
            subst ha
            refine wpSeq_take (by kernel_rfl) (by kernel_rfl) ?_
            apply Exists.intro
            refine ⟨fun wx hS => ?_, fun a' ha => ?_⟩
            · have c0 : wx.cell? ⟨H, 6, none⟩ = some (.map (some ms)) := blk_cell (hS.get (show (w2.drewN 1).heap[H]? = _ from H2.out) (by simpa using hHm)) rfl; go_simp; rfl
            simp only [Act.put, List.setIfInBounds_toArray, List.set_cons_succ, List.set_cons_zero] at ha
            subst ha
            refine wpSeq_take (by kernel_rfl) (by kernel_rfl) ?_
            apply Exists.intro
            refine ⟨fun wx hS => ?_, fun a' ha => ?_⟩
            · go_simp; rfl
            simp only [Act.put, List.setIfInBounds_toArray, List.set_cons_succ, List.set_cons_zero] at ha
            subst ha
            refine wpSeq_take (by kernel_rfl) (by kernel_rfl) ?_
            apply Exists.intro
            refine ⟨fun wx hS => ?_, fun a' ha => ?_⟩
            · have c0 : wx.cell? ⟨B, 0, none⟩ = some (.int .u64 (d.1 : Int)) := blk_cell (hS.get (show (w2.drewN 1).heap[B]? = _ from B2.out) (by simpa using hBm)) rfl; go_simp; rfl
            simp only [Act.put, List.setIfInBounds_toArray, List.set_cons_succ, List.set_cons_zero] at ha
            subst ha
            refine wpSeq_one (by kernel_rfl) (by kernel_rfl) (fun K hK => ?_)
            obtain ⟨w3, hr, hm3, hu3, hz3⟩ := slb_store (M2.out.upd_nil ((Upd.refl [] w2).drewN 1)) d.1 true
            have hr' : (Instr.mapUpdate 187 (.map (some ms)) (.int .u64 (d.1 : Int)) (.bool true)).run Tryz.prog (w2.drewN 1) = .ok () w3 := hr
            go_simp
            have UU := hide ((U2.out.drewN 1).trans hu3); have MM : Hid (slbK w3 ms (seenM (L ++ t.done.take (k + 1)))) := hide (hm3.congr fun j => (SN.out j).symm)
            clear hr hr' hm3 hz3
            refine hK _ _ (hu3) ?_
            clear hK K
            try simp only [Act.put, List.setIfInBounds_toArray, List.set_cons_succ, List.set_cons_zero]
            clear hu3
            unfold wpSeq
            go_wp2_with fail
            go_roundw
            case rel => exact ⟨k + 1, hk1, by go_num, by rw [RES.out], MM.out, UU.out⟩
            case measure => simp [intOf]; omega
    · have d5 : decide ((k : Int) < t.done.length) = false := by simp; omega
      have d5' : decide (k < t.done.length) = false := by simpa using hkl
      have hke : t.done.take k = t.done := List.take_of_length_le (by omega)
      rw [hke] at BT ⊢
      go_wp2_with fail
      go_ret
      exact ⟨rfl, BT.out, HU.out⟩
end Go.Proofs.YtfmaflaoplkdbaaGreatDoor.Au
namespace Go.Proofs.YtfmaflaoplkdbaaGreatDoor.Au
open Go.RowKit Go.Proofs.YtfmaflaoplkdbaaGreatDoor.Crc Go.Proofs.YtfmaflaoplkdbaaGreatDoor.Cm Go.Proofs.YtfmaflaoplkdbaaGreatDoor.Tr
set_option linter.unusedSimpArgs false
set_option linter.unusedVariables false

/-- One behind the other. -/
def nextB (d e : Dn) : Bool := !decide (e.1 = 0) && decide (e.1 = (d.1 + 1) % 18446744073709551616)
theorem rises_bad : ∀ {l : List Dn} {k : Nat} {d e : Dn}, l[k]? = some d → l[k + 1]? = some e → nextB d e = false → risesM l = false
  | [], k, d, e, h, _, _ => by simp at h
  | [x], k, d, e, h, h2, _ => by simp at h2
  | x :: y :: l, 0, d, e, h, h2, hb => by
    simp at h h2
    subst h; subst h2
    unfold nextB at hb
    simp only [risesM, hb, Bool.false_and]
  | x :: y :: l, k + 1, d, e, h, h2, hb => by
    have := rises_bad (l := y :: l) (k := k) (by simpa using h) (by simpa using h2) hb
    simp only [risesM, this, Bool.and_false]
theorem rises_good : ∀ {l : List Dn}, (∀ k d e, l[k]? = some d → l[k + 1]? = some e → nextB d e = true) → risesM l = true
  | [], _ => rfl
  | [x], _ => rfl
  | x :: y :: l, h => by
    have h1 := h 0 x y rfl rfl
    have h2 := rises_good (l := y :: l) fun k d e hd he => h (k + 1) d e (by simpa using hd) (by simpa using he)
    unfold nextB at h1
    simp only [risesM, h1, h2, Bool.and_self]
set_option maxRecDepth 100000 in
set_option maxHeartbeats 4000000 in
theorem order_any {T : Nat → Prop} {H mb ma mn ms mw mp : Nat} {lv tv hv : Value} {x : Hs} {told : List To} {t : To} {i : Nat} (w : World) (h : HAt w T H mb ma mn ms mw mp lv tv hv x) (ht : toK.row w T tv told) (hi : told[i]? = some t) :
    Calls Tryz.prog 56 #[.pointer (some ⟨H, 0, none⟩), .int .i64 (i : Int)] w fun e w' => e = .returned (.bool (!risesM t.done)) ∧ Upd [] w w' := by
  obtain ⟨xo, cp, rfl, hcp, hcm, hg⟩ := to_get ht
  simp only [maxLen] at hcm
  have y1 : w.cell? ⟨H, 1, none⟩ = some (.slice xo told.length cp) := blk_cell h.blk rfl
  have hlt := (List.getElem?_eq_some_iff.1 hi).1
  obtain ⟨b, off, r, n, xa, ca, xd, cd, rfl, hb, hTb, -, hdn, -, -, -, -, z4⟩ := hg i t hi
  obtain ⟨xd', cd', he, hcd, hcdm, hdg⟩ := Row.get dnK.hz hdn
  cases he
  simp only [maxLen] at hcdm
  have d1 : decide (0 ≤ (i : Int)) = true := by simp
  have HG := hide hdg
  clear hg h ht hi hdn hdg
  go_enter Tryz.func56, Tryz.ntmps56
  go_wp2_with fail
  go_loopw [6] (fun si wr => ∃ k : Nat, 1 ≤ k ∧ si = .int .i64 k ∧ k ≤ t.done.length + 1 ∧ (∀ j d e, j + 1 < k → t.done[j]? = some d → t.done[j + 1]? = some e → nextB d e = true) ∧ Upd [] w wr) (fun si _ => t.done.length + 1 - (intOf si).toNat)
  case atStart => exact ⟨1, by omega, rfl, by omega, fun j d e hj => by omega, Upd.refl _ _⟩
  case round =>
    obtain ⟨k, hk0, rfl, hk, hall, hu⟩ := hrel
    have HA := hide hall; have HU := hide hu
    clear hall hu
    by_cases hkl : k < t.done.length
    · have d5 : decide ((k : Int) < t.done.length) = true := by simp; omega
      have d5' : decide (k < t.done.length) = true := by simpa using hkl
      obtain ⟨m, rfl⟩ : ∃ m, k = m + 1 := ⟨k - 1, by omega⟩
      obtain ⟨d, hd⟩ : ∃ d, t.done[m]? = some d := ⟨_, List.getElem?_eq_getElem (by omega)⟩
      obtain ⟨e, he⟩ : ∃ e, t.done[m + 1]? = some e := ⟨_, List.getElem?_eq_getElem hkl⟩
      obtain ⟨bd, od, cs, rfl, hbd, hTd, ⟨hsd, vd, rfl, -⟩, -, hcd2⟩ := HG.out m d hd
      obtain ⟨be, oe, cs, hbo, hbe, hTe, ⟨hse, ve, rfl, -⟩, -, hce2⟩ := HG.out (m + 1) e he
      cases hbo
      have q0 : wr.cell? ⟨bd, od + m * 2, none⟩ = some (.int .u64 (d.1 : Int)) := cellU (hcd2 0 _ rfl) HU.out (by simp)
      have q1 : wr.cell? ⟨bd, od + (m + 1) * 2, none⟩ = some (.int .u64 (e.1 : Int)) := cellU (hce2 0 _ rfl) HU.out (by simp)
      have HD := hide hd; have HE := hide he
      clear hd he hcd2 hce2
      have i0 : decide (0 ≤ ((m + 1 : Nat) : Int)) = true := by simp; omega
      by_cases hz : e.1 = 0
      · have z1 : ((e.1 : Int) == 0) = true := by simp [hz]
        have z2 : decide ((e.1 : Int) = 0) = true := by simp [hz]
        have hbad : risesM t.done = false := rises_bad HD.out HE.out (by simp [nextB, hz])
        have BAD := hide hbad
        clear hbad hz
        go_wp2_with fail
        go_quiet (fail)
        go_wp2_with fail
        go_ret
        exact ⟨by rw [BAD.out]; rfl, HU.out.drewN _⟩
      · have z1 : ((e.1 : Int) == 0) = false := by simp [hz]
        have z2 : decide ((e.1 : Int) = 0) = false := by simp [hz]
        obtain ⟨D, hD⟩ : ∃ D, (d.1 + 1) % 18446744073709551616 = D := ⟨_, rfl⟩
        have hw : IntKind.u64.wrap ((d.1 : Int) + 1) = (D : Int) := by rw [← hD, IntKind.wrap_u64]; omega
        by_cases hn : e.1 = D
        · have z3 : ((e.1 : Int) != (D : Int)) = false := by simp [hn]
          have z4 : ((e.1 : Int) == (D : Int)) = true := by simp [hn]
          have hgo : nextB d e = true := by unfold nextB; rw [hD]; simp [hz, hn]; omega
          have GO := hide hgo
          clear hgo hz hn hD
          go_wp2_with fail
          go_quiet (fail)
          go_wp2_with fail
          go_roundw
          case rel =>
            refine ⟨m + 1 + 1, by omega, by go_num, by omega, fun j d' e' hj hd' he' => ?_, HU.out.drewN _⟩
            rcases Nat.lt_or_ge (j + 1) (m + 1) with h7 | h7
            · exact HA.out j d' e' h7 hd' he'
            · have hjm : j = m := by omega
              subst hjm
              rw [HD.out] at hd'
              rw [HE.out] at he'
              cases hd'; cases he'
              exact GO.out
          case measure => simp [intOf]; omega
        · have z3 : ((e.1 : Int) != (D : Int)) = true := by simp; omega
          have z4 : ((e.1 : Int) == (D : Int)) = false := by simp; omega
          have hbad : risesM t.done = false := rises_bad HD.out HE.out (by unfold nextB; rw [hD]; simp [hn])
          have BAD := hide hbad
          clear hbad hz hn hD
          go_wp2_with fail
          go_quiet (fail)
          go_wp2_with fail
          go_ret
          exact ⟨by rw [BAD.out]; rfl, HU.out.drewN _⟩
    · have d5 : decide ((k : Int) < t.done.length) = false := by simp; omega
      have d5' : decide (k < t.done.length) = false := by simpa using hkl
      have hgood : risesM t.done = true := rises_good fun j d e hd he => HA.out j d e (by have := (List.getElem?_eq_some_iff.1 he).1; omega) hd he
      have GOOD := hide hgood
      clear hgood
      go_wp2_with fail
      go_ret
      exact ⟨by rw [GOOD.out]; rfl, HU.out⟩
end Go.Proofs.YtfmaflaoplkdbaaGreatDoor.Au
