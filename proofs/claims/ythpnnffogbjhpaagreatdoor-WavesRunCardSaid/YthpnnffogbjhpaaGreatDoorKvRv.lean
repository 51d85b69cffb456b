/- quorateref09.Do. -/
import Derived.Test.YthpnnffogbjhpaaGreatDoorKvRsu
import Derived.Test.YthpnnffogbjhpaaGreatDoorKvMay
set_option linter.unusedSimpArgs false
set_option linter.unusedVariables false
set_option linter.unnecessarySimpa false
namespace Go.Proofs.YthpnnffogbjhpaaGreatDoor.Kv
set_option linter.unusedSimpArgs false
set_option linter.unusedVariables false
set_option linter.unnecessarySimpa false
open Go.RowKit Go.Lib Go.Proofs.YthpnnffogbjhpaaGreatDoor.Crc Go.Proofs.YthpnnffogbjhpaaGreatDoor.Cm

theorem mdelK_none {m : KM} {k : List UInt8} (h : mfind m k = none) : mdel m k = m := List.filter_eq_self.2 fun p hp => by
  have : p.1 ≠ k := fun e => by
    obtain ⟨v, hv⟩ := mfind_of_mem hp
    rw [e, h] at hv
    cases hv
  simp [this]
theorem join_snoc (m : KM) (ks : List (List UInt8)) (k : List UInt8) : joinM m (ks ++ [k]) = joinM m ks ++ ((mfind m k).getD [] ++ [44]) := by
  induction ks with
  | nil => simp [joinM]
  | cons a t ih => simp only [List.cons_append, joinM, ih, List.append_assoc]
theorem dels_snoc (m : KM) (ks : List (List UInt8)) (k : List UInt8) : delsM m (ks ++ [k]) = mdel (delsM m ks) k := by
  unfold delsM
  rw [List.foldl_append]
  rfl
set_option maxRecDepth 100000 in
set_option maxHeartbeats 8000000 in
theorem rdo_any {T T' : Nat → Prop} {v vc : Value} {m : KM} {c : Cm} (w : World) (h : pairK.row w T v m) (hc : CmAt w T' vc c) (hm : KvOk m) (hl : m.length ≤ 1000) (hT : ∀ k, T k → k < w.heap.size) :
    Calls Tryz.prog 42 #[v, vc] w fun e w' => (∃ v', e = .returned (.tuple #[v', rpv (kvDo m c).2]) ∧ pairK.row w' (fun g => T g ∨ since w.heap.size w' g) v' (kvDo m c).1) ∧ Upd [] w w' := by
  obtain ⟨fit, ks, rfl, hks⟩ := hc
  obtain ⟨xo, cp, rfl, h1, h2, -⟩ := hks.get
  have KS := hide hks; have FIT := hide fit
  simp only [maxLen] at h2
  obtain ⟨f1, f2, f3, f4, f5, -⟩ := id fit
  obtain ⟨po, pc, rfl, hp1, hp2, hpg⟩ := pair_get h
  have R0 := hide h; have HG := hide hpg; have HLT := hide hT; have MOK := hide hm
  simp only [maxLen] at hp2
  clear hks fit h hpg hT hm
  obtain ⟨r, hr⟩ : ∃ r, kvDo m c = r := ⟨_, rfl⟩
  rw [hr]
  have HR := hide hr
  clear hr
  unfold cmv
  simp only [strV]
  go_enter Tryz.func42, Tryz.ntmps42
  go_upto_region 1 with fail
  have hB := blk_alloc (blk_new w (.cells (cmc c (.slice xo c.keys.length cp)).toArray TCmd)) (.cells #[.int .u8 0, .string ⟨#[]⟩] TRp)
  have hR := blk_new (w.alloc (.cells (cmc c (.slice xo c.keys.length cp)).toArray TCmd)) (.cells #[.int .u8 0, .string ⟨#[]⟩] TRp)
  have hu := ((Upd.refl [] w).alloc (.cells (cmc c (.slice xo c.keys.length cp)).toArray TCmd)).alloc (.cells #[.int .u8 0, .string ⟨#[]⟩] TRp)
  rw [World.size_alloc] at hR
  have hsz : ((w.alloc (.cells (cmc c (.slice xo c.keys.length cp)).toArray TCmd)).alloc (.cells #[.int .u8 0, .string ⟨#[]⟩] TRp)).heap.size = w.heap.size + 2 := by simp
  change Code.wp _ _ _ _ ((w.alloc (.cells (cmc c (.slice xo c.keys.length cp)).toArray TCmd)).alloc (.cells #[.int .u8 0, .string ⟨#[]⟩] TRp))
  generalize (w.alloc (.cells (cmc c (.slice xo c.keys.length cp)).toArray TCmd)).alloc (.cells #[.int .u8 0, .string ⟨#[]⟩] TRp) = w1 at *
  have CB := hide hB; have CR := hide hR; have U1 := hide hu
  obtain ⟨B, hBs⟩ : ∃ B, w.heap.size = B := ⟨_, rfl⟩
  have KB := hide hBs
  rw [hBs] at hsz CB CR ⊢
  have R1 := hide (pairK.row_upd_nil R0.out hu); have KS1 := hide (KS.out.upd_nil hu)
  clear hB hR hu hBs
  obtain ⟨p0, p1, p2, p3, p4, p5, p6⟩ := cell7 CB.out
  go_wp2_with fail
  have hmy := may_any (c := c) (v := cmv c (.slice xo c.keys.length cp)) w1 ⟨FIT.out, _, rfl, KS1.out⟩
  simp only [cmv, strV] at hmy
  refine hmy.mono ?_
  rintro e w5 ⟨hu5, rfl⟩
  have CB5 := hide (hu5.get CB.out (by simp)); have CR5 := hide (hu5.get CR.out (by simp)); have U5 := hide (U1.out.trans hu5); have R5 := hide (pairK.row_upd_nil R1.out hu5); have KS5 := hide (KS1.out.upd_nil hu5)
  have hz5 := hu5.size
  have hbs5 := KB.out
  clear hmy p0 p1 p2 p3 p4 p5 p6 CB CR U1 R1 KS1 hu5
  obtain ⟨p0, p1, p2, p3, p4, p5, p6⟩ := cell7 CB5.out
  by_cases hk : Cm.Good c
  case neg =>
    rw [decide_eq_false hk]
    have hrr : r = (m, ⟨2, []⟩) := by rw [← HR.out]; unfold kvDo; rw [if_neg hk]
    subst hrr
    obtain ⟨z0, z1, g0, g1, z2, g2⟩ := res_facts CR5.out
    clear hk HR
    go_wp2_with fail
    have hW := upd2 w5 (B + 1) (.int .u8 2) (.string (strOf []))
    have hBs := KB.out
    exact ret_rp4 (stored2 CR5.out) rfl rfl rfl rfl ⟨⟨_, rfl, (pairK.row_upd R5.out hW (fun k hk hT => by simp at hk; have := HLT.out k hT; omega)).mono (fun k hk => .inl hk) (fun _ _ _ h => h)⟩, U5.out.trans_new hW (fun k hk => .inr (by simp at hk; omega))⟩
  rw [decide_eq_true hk]
  obtain ⟨k, hk0⟩ : ∃ k, c.keys[0]? = some k := ⟨_, List.getElem?_eq_getElem (Good.keys hk).2.1⟩
  have hkA : keyA c = k := by unfold keyA; rw [List.getD_eq_getElem?_getD, hk0]; rfl
  obtain ⟨_, _, e, -, -, hget⟩ := KS.out.get
  cases e
  have HGET := hide hget
  obtain ⟨bk, ok', rfl, hbk, hkc0⟩ := hget 0 k hk0
  rw [Nat.add_zero] at hkc0
  have hkc := cell_upd hkc0 U5.out (by simp)
  have hpos : 0 < c.keys.length := (Good.keys hk).2.1
  have hkl16 := (Good.keys hk).1
  have hrd : r = doM m c := by rw [← HR.out]; unfold kvDo; rw [if_pos hk]
  have hkc9 : c.kind ≠ 0 ∧ c.kind < 9 := ⟨hk.2.1, hk.2.2.1⟩
  have hbkB : bk ≠ B + 1 := by have := KB.out; omega
  have K5 := hide hkc; have GK := hide hk; have HKA := hide hkA; have HRD := hide hrd; have HK0 := hide hk0
  clear hget hk hk0 hkA hkc hkc0 HR hrd
  have ck := K5.out
  go_wp2_with fail
  refine (find_any (k := k) w5 R5.out).mono ?_
  rintro e wx ⟨⟨i, rfl, hi⟩, rfl⟩
  have HI := hide hi
  clear hi
  clear ck
  rcases kind_cases hkc9.1 hkc9.2 with e | e | e | e | e | e | e | e
  · have p2k : w5.cell? ⟨B, 2, none⟩ = some (.int .u8 1) := by rw [p2, e]; rfl
    have hrr : r = (mput strK m k c.new, ⟨0, []⟩) := by rw [HRD.out]; unfold doM; rw [e]; simp only [HKA.out]
    subst hrr
    clear p2 e HRD HI
    go_upto_region 6 with fail
    have s0 : Upd [B + 1] w5 (w5.drewN 1) := (Upd.refl _ _).drewN 1
    have hBs := KB.out
    refine wp_region_z (fun wx => Upd [B + 1] w5 wx) 99 (by kernel_rfl) ?_
    refine zE 0 rfl (by kernel_rfl) (fun _ _ _ _ h => h) rfl (by exact s0) ?_
    apply Exists.intro
    refine ⟨fun wx hS => ?_, ?_⟩
    · go_simp; rfl
    simp only [Act.put, List.setIfInBounds_toArray, List.set_cons_succ, List.set_cons_zero, List.getElem_toArray, List.getElem_cons_zero]
    refine zE 1 rfl (by kernel_rfl) (fun _ _ _ _ h => h) rfl (by exact s0) ?_
    apply Exists.intro
    refine ⟨fun wx hS => ?_, ?_⟩
    · go_simp; rfl
    simp only [Act.put, zz1, zz2, zz3, zz4, zz5, zz6]
    refine zE 2 rfl (by kernel_rfl) (fun _ _ _ _ h => h) rfl (by exact s0) ?_
    apply Exists.intro
    refine ⟨fun wx hS => ?_, ?_⟩
    · have c3 : wx.cell? ⟨B, 3, none⟩ = some (.slice (some ⟨bk, ok', none⟩) c.keys.length cp) := blk_cell (hS.get CB5.out (by simp)) rfl; go_simp; rfl
    simp only [Act.put, zz1, zz2, zz3, zz4, zz5, zz6]
    refine zE 3 rfl (by kernel_rfl) (fun _ _ _ _ h => h) rfl (by exact s0) ?_
    apply Exists.intro
    refine ⟨fun wx hS => ?_, ?_⟩
    · go_simp; rfl
    simp only [Act.put, zz1, zz2, zz3, zz4, zz5, zz6]
    refine zE 4 rfl (by kernel_rfl) (fun _ _ _ _ h => h) rfl (by exact s0) ?_
    apply Exists.intro
    refine ⟨fun wx hS => ?_, ?_⟩
    · have ck := cell_upd K5.out hS (by simp; omega); go_simp; rfl
    simp only [Act.put, zz1, zz2, zz3, zz4, zz5, zz6]
    refine zE 5 rfl (by kernel_rfl) (fun _ _ _ _ h => h) rfl (by exact s0) ?_
    apply Exists.intro
    refine ⟨fun wx hS => ?_, ?_⟩
    · go_simp; rfl
    simp only [Act.put, zz1, zz2, zz3, zz4, zz5, zz6]
    refine zE 6 rfl (by kernel_rfl) (fun _ _ _ _ h => h) rfl (by exact s0) ?_
    apply Exists.intro
    refine ⟨fun wx hS => ?_, ?_⟩
    · have c5 : wx.cell? ⟨B, 5, none⟩ = some (.string (strOf c.new)) := blk_cell (hS.get CB5.out (by simp)) rfl; go_simp; rfl
    simp only [Act.put, zz1, zz2, zz3, zz4, zz5, zz6]
    refine zE 8 rfl (by kernel_rfl) (fun _ _ _ _ h => h) rfl (by exact s0) ?_
    apply Exists.intro
    refine ⟨fun wx hS => ?_, ?_⟩
    · go_simp; rfl
    simp only [Act.put, zz1, zz2, zz3, zz4, zz5, zz6]
    refine wpAnyZ_one 7 (by kernel_rfl) rfl rfl (fun K hK => ?_)
    try simp only [List.getElem_toArray, List.getElem_cons_succ, List.getElem_cons_zero]
    go_simp
    refine (with_any (k := k) (x := c.new) (w5.drewN 1) (pairK.row_upd_nil R5.out ((Upd.refl [] w5).drewN 1)) (by omega)).mono ?_
    rintro e w2 ⟨⟨v2, rfl, hr2⟩, hu2⟩
    have hu2' : Upd [] w5 w2 := ((Upd.refl [] w5).drewN 1).trans hu2
    obtain ⟨x2, d2, rfl, -, -⟩ := Row.slice hr2
    have CR2 := hide (hu2'.get CR5.out (by simp)); have U2 := hide (U5.out.trans hu2'); have R2 := hide hr2
    have hz2 := hu2'.size
    refine hK _ _ (.inr (hu2'.mono (by simp))) ?_
    clear hK K
    try simp only [Act.put, zz1, zz2, zz3]
    clear s0
    have s2 : Upd [B + 1] w2 w2 := Upd.refl _ _
    refine wpAnyZ_strong (S' := fun wx => Upd [B + 1] w2 wx) (fun wx h => (hu2'.mono (by simp)).trans h) _ _ _ _ ?_
    refine zE 9 rfl (by kernel_rfl) (fun _ _ _ _ h => h) rfl (by exact s2) ?_
    apply Exists.intro
    refine ⟨fun wx hS => ?_, ?_⟩
    · go_simp; rfl
    simp only [Act.put, zz1, zz2, zz3, zz4, zz5, zz6]
    refine wpAnyZ_one 10 (by kernel_rfl) rfl rfl (fun K hK => ?_)
    try simp only [List.getElem_toArray, List.getElem_cons_succ, List.getElem_cons_zero]
    obtain ⟨z0, z1, g0, g1, z2, g2⟩ := res_facts CR2.out
    go_simp
    have hW := upd2 w2 (B + 1) (.int .u8 0) (.string (strOf []))
    refine hK _ _ (.inr hW) ?_
    clear hK K
    try simp only [Act.put, zz1, zz2, zz3]
    refine wpAnyZ_done (by kernel_rfl) ?_ _
    clear s2 hu2 hu2' hr2
    go_wp2_with fail
    exact ret_rp4 (stored2 CR2.out) rfl rfl rfl rfl ⟨⟨_, rfl, (pairK.row_upd R2.out hW (fun k hk hT => by simp at hk; have := hT.1; simp at this; omega)).mono (fun k hk => .inr ⟨by have := hk.1; simp at this; omega, by have h9 := hk.2; simp only [size_setCell]; exact h9⟩) (fun _ _ _ h => h)⟩, U2.out.trans_new hW (fun k hk => .inr (by simp at hk; omega))⟩
  · have p2k : w5.cell? ⟨B, 2, none⟩ = some (.int .u8 2) := by rw [p2, e]; rfl
    have hrr : r = (m, getM m k) := by rw [HRD.out]; unfold doM; rw [e]; simp only [HKA.out]
    clear p2 e HRD
    rcases HI.out with ⟨rfl, hn⟩ | ⟨ix, vx, rfl, hx, hfx⟩
    · have hgm : getM m k = ⟨1, []⟩ := by unfold getM; rw [hn]
      rw [hgm] at hrr
      subst hrr
      clear HI hn hgm
      have qn : decide ((-1 : Int) < 0) = true := by decide
      obtain ⟨z0, z1, g0, g1, z2, g2⟩ := res_facts CR5.out
      go_wp2_with fail
      have hW := upd2 w5 (B + 1) (.int .u8 1) (.string (strOf []))
      have hBs := KB.out
      exact ret_rp4 (stored2 CR5.out) rfl rfl rfl rfl ⟨⟨_, rfl, (pairK.row_upd R5.out hW (fun k hk hT => by simp at hk; have := HLT.out k hT; omega)).mono (fun k hk => .inl hk) (fun _ _ _ h => h)⟩, U5.out.trans_new hW (fun k hk => .inr (by simp at hk; omega))⟩
    · have hgm : getM m k = ⟨0, vx⟩ := by unfold getM; rw [hfx]
      rw [hgm] at hrr
      subst hrr
      have qn : decide ((ix : Int) < 0) = false := by simp
      have hlt := (List.getElem?_eq_some_iff.1 hx).1
      obtain ⟨bx, ofx, ex, hbx, -, -, hcx⟩ := HG.out ix _ hx
      have CX := hide (show ∀ wx, Upd [B + 1] w5 wx → wx.cell? ⟨bx, ofx + ix * 2 + 1, none⟩ = some (.string (strOf vx)) from fun wx hS => cell_upd (cell_upd hcx U5.out (by simp)) hS (by simp; have := KB.out; omega))
      have HEX := hide ex
      obtain rfl := HEX.out
      clear HI hx hfx hgm hcx ex
      go_upto_region 13 with fail
      have s0 : Upd [B + 1] w5 (w5.drewN 1) := (Upd.refl _ _).drewN 1
      refine wp_region_z (fun wx => Upd [B + 1] w5 wx) 99 (by kernel_rfl) ?_
      refine zE 0 rfl (by kernel_rfl) (fun _ _ _ _ h => h) rfl (by exact s0) ?_
      apply Exists.intro
      refine ⟨fun wx hS => ?_, ?_⟩
      · go_simp; rfl
      simp only [Act.put, List.setIfInBounds_toArray, List.set_cons_succ, List.set_cons_zero, List.getElem_toArray, List.getElem_cons_zero]
      refine zE 1 rfl (by kernel_rfl) (fun _ _ _ _ h => h) rfl (by exact s0) ?_
      apply Exists.intro
      refine ⟨fun wx hS => ?_, ?_⟩
      · go_simp; rfl
      simp only [Act.put, zz1, zz2, zz3, zz4, zz5, zz6]
      refine zE 2 rfl (by kernel_rfl) (fun _ _ _ _ h => h) rfl (by exact s0) ?_
      apply Exists.intro
      refine ⟨fun wx hS => ?_, ?_⟩
      · go_simp; rfl
      simp only [Act.put, zz1, zz2, zz3, zz4, zz5, zz6]
      refine zE 3 rfl (by kernel_rfl) (fun _ _ _ _ h => h) rfl (by exact s0) ?_
      apply Exists.intro
      refine ⟨fun wx hS => ?_, ?_⟩
      · go_simp; rfl
      simp only [Act.put, zz1, zz2, zz3, zz4, zz5, zz6]
      refine zE 4 rfl (by kernel_rfl) (fun _ _ _ _ h => h) rfl (by exact s0) ?_
      apply Exists.intro
      refine ⟨fun wx hS => ?_, ?_⟩
      · go_simp; rfl
      simp only [Act.put, zz1, zz2, zz3, zz4, zz5, zz6]
      refine zE 5 rfl (by kernel_rfl) (fun _ _ _ _ h => h) rfl (by exact s0) ?_
      apply Exists.intro
      refine ⟨fun wx hS => ?_, ?_⟩
      · have cx := CX.out wx hS; go_simp; rfl
      simp only [Act.put, zz1, zz2, zz3, zz4, zz5, zz6]
      refine zE 6 rfl (by kernel_rfl) (fun _ _ _ _ h => h) rfl (by exact s0) ?_
      apply Exists.intro
      refine ⟨fun wx hS => ?_, ?_⟩
      · go_simp; rfl
      simp only [Act.put, zz1, zz2, zz3, zz4, zz5, zz6]
      refine zE 7 rfl (by kernel_rfl) (fun _ _ _ _ h => h) rfl (by exact s0) ?_
      apply Exists.intro
      refine ⟨fun wx hS => ?_, ?_⟩
      · go_simp; rfl
      simp only [Act.put, zz1, zz2, zz3, zz4, zz5, zz6]
      refine wpAnyZ_one 8 (by kernel_rfl) rfl rfl (fun K hK => ?_)
      try simp only [List.getElem_toArray, List.getElem_cons_succ, List.getElem_cons_zero]
      have CR6 : Hid ((w5.drewN 1).heap[B + 1]? = some (.cells #[.int .u8 0, .string ⟨#[]⟩] TRp (0, 0))) := CR5
      obtain ⟨z0, z1, g0, g1, z2, g2⟩ := res_facts CR6.out
      go_simp
      have hW := upd2 (w5.drewN 1) (B + 1) (.int .u8 0) (.string (strOf vx))
      refine hK _ _ (.inr (s0.trans hW)) ?_
      clear hK K
      try simp only [Act.put, zz1, zz2, zz3]
      refine wpAnyZ_done (by kernel_rfl) ?_ _
      clear s0
      go_wp2_with fail
      have hBs := KB.out
      have R6 := hide (pairK.row_upd_nil R5.out ((Upd.refl [] w5).drewN 1))
      exact ret_rp4 (stored2 CR6.out) rfl rfl rfl rfl ⟨⟨_, rfl, (pairK.row_upd R6.out hW (fun k hk hT => by simp at hk; have := HLT.out k hT; omega)).mono (fun k hk => .inl hk) (fun _ _ _ h => h)⟩, (U5.out.drewN 1).trans_new hW (fun k hk => .inr (by simp at hk; omega))⟩
  · have p2k : w5.cell? ⟨B, 2, none⟩ = some (.int .u8 3) := by rw [p2, e]; rfl
    have hrr : r = (mdel m k, getM m k) := by rw [HRD.out]; unfold doM; rw [e]; simp only [HKA.out]
    clear p2 e HRD
    rcases HI.out with ⟨rfl, hn⟩ | ⟨ix, vx, rfl, hx, hfx⟩
    · have hgm : getM m k = ⟨1, []⟩ := by unfold getM; rw [hn]
      rw [hgm, mdelK_none hn] at hrr
      subst hrr
      clear HI hn hgm
      have qn : decide ((-1 : Int) < 0) = true := by decide
      obtain ⟨z0, z1, g0, g1, z2, g2⟩ := res_facts CR5.out
      go_wp2_with fail
      have hW := upd2 w5 (B + 1) (.int .u8 1) (.string (strOf []))
      have hBs := KB.out
      exact ret_rp4 (stored2 CR5.out) rfl rfl rfl rfl ⟨⟨_, rfl, (pairK.row_upd R5.out hW (fun k hk hT => by simp at hk; have := HLT.out k hT; omega)).mono (fun k hk => .inl hk) (fun _ _ _ h => h)⟩, U5.out.trans_new hW (fun k hk => .inr (by simp at hk; omega))⟩
    · have hgm : getM m k = ⟨0, vx⟩ := by unfold getM; rw [hfx]
      rw [hgm] at hrr
      subst hrr
      have qn : decide ((ix : Int) < 0) = false := by simp
      have hlt := (List.getElem?_eq_some_iff.1 hx).1
      obtain ⟨bx, ofx, ex, hbx, -, -, hcx⟩ := HG.out ix _ hx
      have CX := hide (show ∀ wx, Upd [B + 1] w5 wx → wx.cell? ⟨bx, ofx + ix * 2 + 1, none⟩ = some (.string (strOf vx)) from fun wx hS => cell_upd (cell_upd hcx U5.out (by simp)) hS (by simp; have := KB.out; omega))
      have HEX := hide ex
      obtain rfl := HEX.out
      clear HI hx hfx hgm hcx ex
      go_upto_region 12 with fail
      have s0 : Upd [B + 1] w5 (w5.drewN 1) := (Upd.refl _ _).drewN 1
      have hBs := KB.out
      refine wp_region_z (fun wx => Upd [B + 1] w5 wx) 99 (by kernel_rfl) ?_
      refine zE 0 rfl (by kernel_rfl) (fun _ _ _ _ h => h) rfl (by exact s0) ?_
      apply Exists.intro
      refine ⟨fun wx hS => ?_, ?_⟩
      · go_simp; rfl
      simp only [Act.put, List.setIfInBounds_toArray, List.set_cons_succ, List.set_cons_zero, List.getElem_toArray, List.getElem_cons_zero]
      refine zE 1 rfl (by kernel_rfl) (fun _ _ _ _ h => h) rfl (by exact s0) ?_
      apply Exists.intro
      refine ⟨fun wx hS => ?_, ?_⟩
      · go_simp; rfl
      simp only [Act.put, zz1, zz2, zz3, zz4, zz5, zz6]
      refine zE 2 rfl (by kernel_rfl) (fun _ _ _ _ h => h) rfl (by exact s0) ?_
      apply Exists.intro
      refine ⟨fun wx hS => ?_, ?_⟩
      · have c3 : wx.cell? ⟨B, 3, none⟩ = some (.slice (some ⟨bk, ok', none⟩) c.keys.length cp) := blk_cell (hS.get CB5.out (by simp)) rfl; go_simp; rfl
      simp only [Act.put, zz1, zz2, zz3, zz4, zz5, zz6]
      refine zE 3 rfl (by kernel_rfl) (fun _ _ _ _ h => h) rfl (by exact s0) ?_
      apply Exists.intro
      refine ⟨fun wx hS => ?_, ?_⟩
      · go_simp; rfl
      simp only [Act.put, zz1, zz2, zz3, zz4, zz5, zz6]
      refine zE 4 rfl (by kernel_rfl) (fun _ _ _ _ h => h) rfl (by exact s0) ?_
      apply Exists.intro
      refine ⟨fun wx hS => ?_, ?_⟩
      · have ck := cell_upd K5.out hS (by simp; omega); go_simp; rfl
      simp only [Act.put, zz1, zz2, zz3, zz4, zz5, zz6]
      refine zE 6 rfl (by kernel_rfl) (fun _ _ _ _ h => h) rfl (by exact s0) ?_
      apply Exists.intro
      refine ⟨fun wx hS => ?_, ?_⟩
      · go_simp; rfl
      simp only [Act.put, zz1, zz2, zz3, zz4, zz5, zz6]
      refine zE 7 rfl (by kernel_rfl) (fun _ _ _ _ h => h) rfl (by exact s0) ?_
      apply Exists.intro
      refine ⟨fun wx hS => ?_, ?_⟩
      · go_simp; rfl
      simp only [Act.put, zz1, zz2, zz3, zz4, zz5, zz6]
      refine zE 8 rfl (by kernel_rfl) (fun _ _ _ _ h => h) rfl (by exact s0) ?_
      apply Exists.intro
      refine ⟨fun wx hS => ?_, ?_⟩
      · go_simp; rfl
      simp only [Act.put, zz1, zz2, zz3, zz4, zz5, zz6]
      refine zE 9 rfl (by kernel_rfl) (fun _ _ _ _ h => h) rfl (by exact s0) ?_
      apply Exists.intro
      refine ⟨fun wx hS => ?_, ?_⟩
      · go_simp; rfl
      simp only [Act.put, zz1, zz2, zz3, zz4, zz5, zz6]
      refine zE 10 rfl (by kernel_rfl) (fun _ _ _ _ h => h) rfl (by exact s0) ?_
      apply Exists.intro
      refine ⟨fun wx hS => ?_, ?_⟩
      · have cx := CX.out wx hS; go_simp; rfl
      simp only [Act.put, zz1, zz2, zz3, zz4, zz5, zz6]
      refine zE 11 rfl (by kernel_rfl) (fun _ _ _ _ h => h) rfl (by exact s0) ?_
      apply Exists.intro
      refine ⟨fun wx hS => ?_, ?_⟩
      · go_simp; rfl
      simp only [Act.put, zz1, zz2, zz3, zz4, zz5, zz6]
      refine wpAnyZ_one 5 (by kernel_rfl) rfl rfl (fun K hK => ?_)
      try simp only [List.getElem_toArray, List.getElem_cons_succ, List.getElem_cons_zero]
      go_simp
      refine (without_any (k := k) (w5.drewN 1) (pairK.row_upd_nil R5.out ((Upd.refl [] w5).drewN 1)) (by omega)).mono ?_
      rintro e w2 ⟨⟨v2, rfl, hb2⟩, hu2⟩
      have hr2 := pairK.bag_row hb2
      have hu2' : Upd [] w5 w2 := ((Upd.refl [] w5).drewN 1).trans hu2
      obtain ⟨x2, d2, rfl, -, -⟩ := Row.slice hr2
      have CR2 := hide (hu2'.get CR5.out (by simp)); have U2 := hide (U5.out.trans hu2'); have R2 := hide hr2
      have hz2 := hu2'.size
      refine hK _ _ (.inr (hu2'.mono (by simp))) ?_
      clear hK K
      try simp only [Act.put, zz1, zz2, zz3]
      clear s0
      have s2 : Upd [B + 1] w2 w2 := Upd.refl _ _
      refine wpAnyZ_strong (S' := fun wx => Upd [B + 1] w2 wx) (fun wx h => (hu2'.mono (by simp)).trans h) _ _ _ _ ?_
      refine zE 12 rfl (by kernel_rfl) (fun _ _ _ _ h => h) rfl (by exact s2) ?_
      apply Exists.intro
      refine ⟨fun wx hS => ?_, ?_⟩
      · go_simp; rfl
      simp only [Act.put, zz1, zz2, zz3, zz4, zz5, zz6]
      refine wpAnyZ_one 13 (by kernel_rfl) rfl rfl (fun K hK => ?_)
      try simp only [List.getElem_toArray, List.getElem_cons_succ, List.getElem_cons_zero]
      obtain ⟨z0, z1, g0, g1, z2, g2⟩ := res_facts CR2.out
      go_simp
      have hW := upd2 w2 (B + 1) (.int .u8 0) (.string (strOf vx))
      refine hK _ _ (.inr hW) ?_
      clear hK K
      try simp only [Act.put, zz1, zz2, zz3]
      refine wpAnyZ_done (by kernel_rfl) ?_ _
      clear s2 hu2 hu2' hr2
      go_wp2_with fail
      exact ret_rp4 (stored2 CR2.out) rfl rfl rfl rfl ⟨⟨_, rfl, (pairK.row_upd R2.out hW (fun k hk hT => by simp at hk; have := hT.1; simp at this; omega)).mono (fun k hk => .inr ⟨by have := hk.1; simp at this; omega, by have h9 := hk.2; simp only [size_setCell]; exact h9⟩) (fun _ _ _ h => h)⟩, U2.out.trans_new hW (fun k hk => .inr (by simp at hk; omega))⟩
  · have p2k : w5.cell? ⟨B, 2, none⟩ = some (.int .u8 4) := by rw [p2, e]; rfl
    have hrr : r = addM m k c.n := by rw [HRD.out]; unfold doM; rw [e]; simp only [HKA.out]
    clear HI
    have hadd := radd_any (c := c) (v := .slice po m.length pc) (vc := cmv c (.slice (some ⟨bk, ok', none⟩) c.keys.length cp)) w5 R5.out ⟨FIT.out, _, rfl, KS5.out⟩ GK.out MOK.out hl (fun k hk => by have := HLT.out k hk; omega)
    rw [HKA.out, ← hrr] at hadd
    simp only [cmv, strV, e] at hadd
    have HADD := hide hadd
    clear hadd hrr HRD
    have hk4 : IntKind.u8.wrap 4 = 4 := rfl
    rw [e] at p2
    go_wp2_with fail
    refine HADD.out.mono ?_
    rintro e6 w6 ⟨⟨v6, rfl, hr6⟩, hu6⟩
    have CR6 := hide (hu6.get CR5.out (by simp)); have U6 := hide (U5.out.trans hu6); have R6 := hide hr6
    have hz6 := hu6.size
    obtain ⟨x6, d6, rfl, -, -⟩ := Row.slice hr6
    obtain ⟨z0, z1, g0, g1, z2, g2⟩ := res_facts CR6.out
    unfold rpv
    clear hr6 hu6 HADD
    go_wp2_with fail
    have hW := upd2 w6 (B + 1) (.int .u8 (r.2.code : Int)) (.string (strOf r.2.text))
    have hBs := KB.out
    exact ret_rp4 (stored2 CR6.out) rfl rfl rfl rfl ⟨⟨_, rfl, (pairK.row_upd R6.out hW (fun k hk hT => by
      simp at hk
      rcases hT with hT | hT
      · have := HLT.out k hT; omega
      · have := hT.1; omega)).mono (fun k hk => by
      rcases hk with hk | hk
      · exact .inl hk
      · exact .inr ⟨by have := hk.1; omega, by have h9 := hk.2; simp only [size_setCell]; exact h9⟩) (fun _ _ _ h => h)⟩, U6.out.trans_new hW (fun k hk => .inr (by simp at hk; omega))⟩
  · have p2k : w5.cell? ⟨B, 2, none⟩ = some (.int .u8 5) := by rw [p2, e]; rfl
    have hrr : r = casM m k c.old c.new := by rw [HRD.out]; unfold doM; rw [e]; simp only [HKA.out]
    clear p2 e HRD
    rcases HI.out with ⟨rfl, hn⟩ | ⟨ix, vx, rfl, hx, hfx⟩
    · have hgm : casM m k c.old c.new = (m, ⟨1, []⟩) := by unfold casM; rw [hn]
      rw [hgm] at hrr
      subst hrr
      clear HI hn hgm
      have qn : decide ((-1 : Int) < 0) = true := by decide
      obtain ⟨z0, z1, g0, g1, z2, g2⟩ := res_facts CR5.out
      go_wp2_with fail
      have hW := upd2 w5 (B + 1) (.int .u8 1) (.string (strOf []))
      have hBs := KB.out
      exact ret_rp4 (stored2 CR5.out) rfl rfl rfl rfl ⟨⟨_, rfl, (pairK.row_upd R5.out hW (fun k hk hT => by simp at hk; have := HLT.out k hT; omega)).mono (fun k hk => .inl hk) (fun _ _ _ h => h)⟩, U5.out.trans_new hW (fun k hk => .inr (by simp at hk; omega))⟩
    · have hgm : casM m k c.old c.new = if vx = c.old then (mput strK m k c.new, ⟨0, []⟩) else (m, ⟨2, []⟩) := by unfold casM; rw [hfx]
      rw [hgm] at hrr
      have qn : decide ((ix : Int) < 0) = false := by simp
      have hlt := (List.getElem?_eq_some_iff.1 hx).1
      obtain ⟨bx, ofx, ex, hbx, -, -, hcx⟩ := HG.out ix _ hx
      have CX := hide (show ∀ wx, Upd [B + 1] w5 wx → wx.cell? ⟨bx, ofx + ix * 2 + 1, none⟩ = some (.string (strOf vx)) from fun wx hS => cell_upd (cell_upd hcx U5.out (by simp)) hS (by simp; have := KB.out; omega))
      have HEX := hide ex
      obtain rfl := HEX.out
      clear HI hx hfx hgm hcx ex
      have cx := CX.out w5 (Upd.refl _ _)
      have p4' := p4
      by_cases hvo : vx = c.old
      · rw [if_pos hvo] at hrr
        subst hrr
        have heq : ((strOf vx).toList == (strOf c.old).toList) = true := by rw [strOf_eq, decide_eq_true hvo]
        clear hvo
        go_upto_region 19 with fail
        have s0 : Upd [] w5 (w5.drewN 1) := (Upd.refl _ _).drewN 1
        refine wp_region_z (fun wx => Upd [] w5 wx) 99 (by kernel_rfl) ?_
        refine zE 0 rfl (by kernel_rfl) (fun _ _ _ _ h => h) rfl (by exact s0) ?_
        apply Exists.intro
        refine ⟨fun wx hS => ?_, ?_⟩
        · go_simp; rfl
        simp only [Act.put, List.setIfInBounds_toArray, List.set_cons_succ, List.set_cons_zero, List.getElem_toArray, List.getElem_cons_zero]
        refine zE 1 rfl (by kernel_rfl) (fun _ _ _ _ h => h) rfl (by exact s0) ?_
        apply Exists.intro
        refine ⟨fun wx hS => ?_, ?_⟩
        · go_simp; rfl
        simp only [Act.put, zz1, zz2, zz3, zz4, zz5, zz6]
        refine zE 2 rfl (by kernel_rfl) (fun _ _ _ _ h => h) rfl (by exact s0) ?_
        apply Exists.intro
        refine ⟨fun wx hS => ?_, ?_⟩
        · go_simp; rfl
        simp only [Act.put, zz1, zz2, zz3, zz4, zz5, zz6]
        refine zE 3 rfl (by kernel_rfl) (fun _ _ _ _ h => h) rfl (by exact s0) ?_
        apply Exists.intro
        refine ⟨fun wx hS => ?_, ?_⟩
        · go_simp; rfl
        simp only [Act.put, zz1, zz2, zz3, zz4, zz5, zz6]
        refine zE 4 rfl (by kernel_rfl) (fun _ _ _ _ h => h) rfl (by exact s0) ?_
        apply Exists.intro
        refine ⟨fun wx hS => ?_, ?_⟩
        · have cx := CX.out wx (hS.mono (by simp)); go_simp; rfl
        simp only [Act.put, zz1, zz2, zz3, zz4, zz5, zz6]
        refine zE 5 rfl (by kernel_rfl) (fun _ _ _ _ h => h) rfl (by exact s0) ?_
        apply Exists.intro
        refine ⟨fun wx hS => ?_, ?_⟩
        · go_simp; rfl
        simp only [Act.put, zz1, zz2, zz3, zz4, zz5, zz6]
        refine zE 6 rfl (by kernel_rfl) (fun _ _ _ _ h => h) rfl (by exact s0) ?_
        apply Exists.intro
        refine ⟨fun wx hS => ?_, ?_⟩
        · have c4 : wx.cell? ⟨B, 4, none⟩ = some (.string (strOf c.old)) := blk_cell (hS.get CB5.out (by simp)) rfl; go_simp; rfl
        simp only [Act.put, zz1, zz2, zz3, zz4, zz5, zz6]
        refine zE 7 rfl (by kernel_rfl) (fun _ _ _ _ h => h) rfl (by exact s0) ?_
        apply Exists.intro
        refine ⟨fun wx hS => ?_, ?_⟩
        · go_simp; rfl
        simp only [Act.put, zz1, zz2, zz3, zz4, zz5, zz6]
        refine wpAnyZ_done (by kernel_rfl) ?_ _
        have CB6 := hide (s0.get CB5.out (by simp)); have CR6 := hide (s0.get CR5.out (by simp)); have U6 := hide (U5.out.trans s0); have R6 := hide (pairK.row_upd_nil R5.out s0); have K6 := hide (cell_upd K5.out s0 (by simp))
        have hz6 := s0.size
        have hBs := KB.out
        generalize w5.drewN 1 = w6 at *
        clear s0 cx p4'
        go_upto_region 21 with fail
        have s0 : Upd [B + 1] w6 (w6.drewN 1) := (Upd.refl _ _).drewN 1
        have hBs := KB.out
        refine wp_region_z (fun wx => Upd [B + 1] w6 wx) 99 (by kernel_rfl) ?_
        refine zE 0 rfl (by kernel_rfl) (fun _ _ _ _ h => h) rfl (by exact s0) ?_
        apply Exists.intro
        refine ⟨fun wx hS => ?_, ?_⟩
        · go_simp; rfl
        simp only [Act.put, List.setIfInBounds_toArray, List.set_cons_succ, List.set_cons_zero, List.getElem_toArray, List.getElem_cons_zero]
        refine zE 1 rfl (by kernel_rfl) (fun _ _ _ _ h => h) rfl (by exact s0) ?_
        apply Exists.intro
        refine ⟨fun wx hS => ?_, ?_⟩
        · go_simp; rfl
        simp only [Act.put, zz1, zz2, zz3, zz4, zz5, zz6]
        refine zE 2 rfl (by kernel_rfl) (fun _ _ _ _ h => h) rfl (by exact s0) ?_
        apply Exists.intro
        refine ⟨fun wx hS => ?_, ?_⟩
        · have c3 : wx.cell? ⟨B, 3, none⟩ = some (.slice (some ⟨bk, ok', none⟩) c.keys.length cp) := blk_cell (hS.get CB6.out (by simp)) rfl; go_simp; rfl
        simp only [Act.put, zz1, zz2, zz3, zz4, zz5, zz6]
        refine zE 3 rfl (by kernel_rfl) (fun _ _ _ _ h => h) rfl (by exact s0) ?_
        apply Exists.intro
        refine ⟨fun wx hS => ?_, ?_⟩
        · go_simp; rfl
        simp only [Act.put, zz1, zz2, zz3, zz4, zz5, zz6]
        refine zE 4 rfl (by kernel_rfl) (fun _ _ _ _ h => h) rfl (by exact s0) ?_
        apply Exists.intro
        refine ⟨fun wx hS => ?_, ?_⟩
        · have ck := cell_upd K6.out hS (by simp; omega); go_simp; rfl
        simp only [Act.put, zz1, zz2, zz3, zz4, zz5, zz6]
        refine zE 5 rfl (by kernel_rfl) (fun _ _ _ _ h => h) rfl (by exact s0) ?_
        apply Exists.intro
        refine ⟨fun wx hS => ?_, ?_⟩
        · go_simp; rfl
        simp only [Act.put, zz1, zz2, zz3, zz4, zz5, zz6]
        refine zE 6 rfl (by kernel_rfl) (fun _ _ _ _ h => h) rfl (by exact s0) ?_
        apply Exists.intro
        refine ⟨fun wx hS => ?_, ?_⟩
        · have c5 : wx.cell? ⟨B, 5, none⟩ = some (.string (strOf c.new)) := blk_cell (hS.get CB6.out (by simp)) rfl; go_simp; rfl
        simp only [Act.put, zz1, zz2, zz3, zz4, zz5, zz6]
        refine zE 8 rfl (by kernel_rfl) (fun _ _ _ _ h => h) rfl (by exact s0) ?_
        apply Exists.intro
        refine ⟨fun wx hS => ?_, ?_⟩
        · go_simp; rfl
        simp only [Act.put, zz1, zz2, zz3, zz4, zz5, zz6]
        refine wpAnyZ_one 7 (by kernel_rfl) rfl rfl (fun K hK => ?_)
        try simp only [List.getElem_toArray, List.getElem_cons_succ, List.getElem_cons_zero]
        go_simp
        refine (with_any (k := k) (x := c.new) (w6.drewN 1) (pairK.row_upd_nil R6.out ((Upd.refl [] w6).drewN 1)) (by omega)).mono ?_
        rintro e w2 ⟨⟨v2, rfl, hr2⟩, hu2⟩
        have hu2' : Upd [] w6 w2 := ((Upd.refl [] w6).drewN 1).trans hu2
        obtain ⟨x2, d2, rfl, -, -⟩ := Row.slice hr2
        have CR2 := hide (hu2'.get CR6.out (by simp)); have U2 := hide (U6.out.trans hu2'); have R2 := hide hr2
        have hz2 := hu2'.size
        refine hK _ _ (.inr (hu2'.mono (by simp))) ?_
        clear hK K
        try simp only [Act.put, zz1, zz2, zz3]
        clear s0
        have s2 : Upd [B + 1] w2 w2 := Upd.refl _ _
        refine wpAnyZ_strong (S' := fun wx => Upd [B + 1] w2 wx) (fun wx h => (hu2'.mono (by simp)).trans h) _ _ _ _ ?_
        refine zE 9 rfl (by kernel_rfl) (fun _ _ _ _ h => h) rfl (by exact s2) ?_
        apply Exists.intro
        refine ⟨fun wx hS => ?_, ?_⟩
        · go_simp; rfl
        simp only [Act.put, zz1, zz2, zz3, zz4, zz5, zz6]
        refine wpAnyZ_one 10 (by kernel_rfl) rfl rfl (fun K hK => ?_)
        try simp only [List.getElem_toArray, List.getElem_cons_succ, List.getElem_cons_zero]
        obtain ⟨z0, z1, g0, g1, z2, g2⟩ := res_facts CR2.out
        go_simp
        have hW := upd2 w2 (B + 1) (.int .u8 0) (.string (strOf []))
        refine hK _ _ (.inr hW) ?_
        clear hK K
        try simp only [Act.put, zz1, zz2, zz3]
        refine wpAnyZ_done (by kernel_rfl) ?_ _
        clear s2 hu2 hu2' hr2
        go_wp2_with fail
        exact ret_rp4 (stored2 CR2.out) rfl rfl rfl rfl ⟨⟨_, rfl, (pairK.row_upd R2.out hW (fun k hk hT => by simp at hk; have := hT.1; simp at this; omega)).mono (fun k hk => .inr ⟨by have := hk.1; simp at this; omega, by have h9 := hk.2; simp only [size_setCell]; exact h9⟩) (fun _ _ _ h => h)⟩, U2.out.trans_new hW (fun k hk => .inr (by simp at hk; omega))⟩
      · rw [if_neg hvo] at hrr
        subst hrr
        have heq : ((strOf vx).toList == (strOf c.old).toList) = false := by rw [strOf_eq, decide_eq_false hvo]
        clear hvo
        go_upto_region 19 with fail
        have s0 : Upd [] w5 (w5.drewN 1) := (Upd.refl _ _).drewN 1
        refine wp_region_z (fun wx => Upd [] w5 wx) 99 (by kernel_rfl) ?_
        refine zE 0 rfl (by kernel_rfl) (fun _ _ _ _ h => h) rfl (by exact s0) ?_
        apply Exists.intro
        refine ⟨fun wx hS => ?_, ?_⟩
        · go_simp; rfl
        simp only [Act.put, List.setIfInBounds_toArray, List.set_cons_succ, List.set_cons_zero, List.getElem_toArray, List.getElem_cons_zero]
        refine zE 1 rfl (by kernel_rfl) (fun _ _ _ _ h => h) rfl (by exact s0) ?_
        apply Exists.intro
        refine ⟨fun wx hS => ?_, ?_⟩
        · go_simp; rfl
        simp only [Act.put, zz1, zz2, zz3, zz4, zz5, zz6]
        refine zE 2 rfl (by kernel_rfl) (fun _ _ _ _ h => h) rfl (by exact s0) ?_
        apply Exists.intro
        refine ⟨fun wx hS => ?_, ?_⟩
        · go_simp; rfl
        simp only [Act.put, zz1, zz2, zz3, zz4, zz5, zz6]
        refine zE 3 rfl (by kernel_rfl) (fun _ _ _ _ h => h) rfl (by exact s0) ?_
        apply Exists.intro
        refine ⟨fun wx hS => ?_, ?_⟩
        · go_simp; rfl
        simp only [Act.put, zz1, zz2, zz3, zz4, zz5, zz6]
        refine zE 4 rfl (by kernel_rfl) (fun _ _ _ _ h => h) rfl (by exact s0) ?_
        apply Exists.intro
        refine ⟨fun wx hS => ?_, ?_⟩
        · have cx := CX.out wx (hS.mono (by simp)); go_simp; rfl
        simp only [Act.put, zz1, zz2, zz3, zz4, zz5, zz6]
        refine zE 5 rfl (by kernel_rfl) (fun _ _ _ _ h => h) rfl (by exact s0) ?_
        apply Exists.intro
        refine ⟨fun wx hS => ?_, ?_⟩
        · go_simp; rfl
        simp only [Act.put, zz1, zz2, zz3, zz4, zz5, zz6]
        refine zE 6 rfl (by kernel_rfl) (fun _ _ _ _ h => h) rfl (by exact s0) ?_
        apply Exists.intro
        refine ⟨fun wx hS => ?_, ?_⟩
        · have c4 : wx.cell? ⟨B, 4, none⟩ = some (.string (strOf c.old)) := blk_cell (hS.get CB5.out (by simp)) rfl; go_simp; rfl
        simp only [Act.put, zz1, zz2, zz3, zz4, zz5, zz6]
        refine zE 7 rfl (by kernel_rfl) (fun _ _ _ _ h => h) rfl (by exact s0) ?_
        apply Exists.intro
        refine ⟨fun wx hS => ?_, ?_⟩
        · go_simp; rfl
        simp only [Act.put, zz1, zz2, zz3, zz4, zz5, zz6]
        refine wpAnyZ_done (by kernel_rfl) ?_ _
        have CB6 := hide (s0.get CB5.out (by simp)); have CR6 := hide (s0.get CR5.out (by simp)); have U6 := hide (U5.out.trans s0); have R6 := hide (pairK.row_upd_nil R5.out s0); have K6 := hide (cell_upd K5.out s0 (by simp))
        have hz6 := s0.size
        have hBs := KB.out
        generalize w5.drewN 1 = w6 at *
        clear s0 cx p4'
        obtain ⟨z0, z1, g0, g1, z2, g2⟩ := res_facts CR6.out
        go_wp2_with fail
        have hW := upd2 w6 (B + 1) (.int .u8 2) (.string (strOf []))
        exact ret_rp4 (stored2 CR6.out) rfl rfl rfl rfl ⟨⟨_, rfl, (pairK.row_upd R6.out hW (fun k hk hT => by simp at hk; have := HLT.out k hT; omega)).mono (fun k hk => .inl hk) (fun _ _ _ h => h)⟩, U6.out.trans_new hW (fun k hk => .inr (by simp at hk; omega))⟩
  · have p2k : w5.cell? ⟨B, 2, none⟩ = some (.int .u8 6) := by rw [p2, e]; rfl
    have h2k : 2 ≤ c.keys.length := by
      have := GK.out.2.2.2.1
      rw [e] at this
      exact this
    obtain ⟨k2, hk2⟩ : ∃ k2, c.keys[1]? = some k2 := ⟨_, List.getElem?_eq_getElem (by omega)⟩
    have hkB : Kv.keyB c = k2 := by unfold Kv.keyB; rw [List.getD_eq_getElem?_getD, hk2]; rfl
    obtain ⟨_, _, e2, hb2, hc2⟩ := HGET.out 1 k2 hk2
    cases e2
    have K2 := hide (show ∀ wx, Upd [B + 1] w5 wx → wx.cell? ⟨bk, ok' + 1, none⟩ = some (.string (strOf k2)) from fun wx hS => cell_upd (cell_upd hc2 U5.out (by simp)) hS (by simp; omega))
    have hrr : r = (swapM m k k2, ⟨0, []⟩) := by rw [HRD.out]; unfold doM; rw [e]; simp only [HKA.out, hkB]
    subst hrr
    have hp1 : (1 : Int) < (c.keys.length : Int) := by omega
    clear p2 e HRD HI hk2 hkB hc2 hb2
    go_upto_region 23 with fail
    have s0 : Upd [B + 1] w5 (w5.drewN 1) := (Upd.refl _ _).drewN 1
    have hBs := KB.out
    refine wp_region_z (fun wx => Upd [B + 1] w5 wx) 99 (by kernel_rfl) ?_
    refine zE 0 rfl (by kernel_rfl) (fun _ _ _ _ h => h) rfl (by exact s0) ?_
    apply Exists.intro
    refine ⟨fun wx hS => ?_, ?_⟩
    · go_simp; rfl
    simp only [Act.put, List.setIfInBounds_toArray, List.set_cons_succ, List.set_cons_zero, List.getElem_toArray, List.getElem_cons_zero]
    refine zE 1 rfl (by kernel_rfl) (fun _ _ _ _ h => h) rfl (by exact s0) ?_
    apply Exists.intro
    refine ⟨fun wx hS => ?_, ?_⟩
    · go_simp; rfl
    simp only [Act.put, zz1, zz2, zz3, zz4, zz5, zz6]
    refine zE 2 rfl (by kernel_rfl) (fun _ _ _ _ h => h) rfl (by exact s0) ?_
    apply Exists.intro
    refine ⟨fun wx hS => ?_, ?_⟩
    · have c3 : wx.cell? ⟨B, 3, none⟩ = some (.slice (some ⟨bk, ok', none⟩) c.keys.length cp) := blk_cell (hS.get CB5.out (by simp)) rfl; go_simp; rfl
    simp only [Act.put, zz1, zz2, zz3, zz4, zz5, zz6]
    refine zE 3 rfl (by kernel_rfl) (fun _ _ _ _ h => h) rfl (by exact s0) ?_
    apply Exists.intro
    refine ⟨fun wx hS => ?_, ?_⟩
    · go_simp; rfl
    simp only [Act.put, zz1, zz2, zz3, zz4, zz5, zz6]
    refine zE 4 rfl (by kernel_rfl) (fun _ _ _ _ h => h) rfl (by exact s0) ?_
    apply Exists.intro
    refine ⟨fun wx hS => ?_, ?_⟩
    · have ck := cell_upd K5.out hS (by simp; omega); go_simp; rfl
    simp only [Act.put, zz1, zz2, zz3, zz4, zz5, zz6]
    refine zE 5 rfl (by kernel_rfl) (fun _ _ _ _ h => h) rfl (by exact s0) ?_
    apply Exists.intro
    refine ⟨fun wx hS => ?_, ?_⟩
    · go_simp; rfl
    simp only [Act.put, zz1, zz2, zz3, zz4, zz5, zz6]
    refine zE 6 rfl (by kernel_rfl) (fun _ _ _ _ h => h) rfl (by exact s0) ?_
    apply Exists.intro
    refine ⟨fun wx hS => ?_, ?_⟩
    · have c3 : wx.cell? ⟨B, 3, none⟩ = some (.slice (some ⟨bk, ok', none⟩) c.keys.length cp) := blk_cell (hS.get CB5.out (by simp)) rfl; go_simp; rfl
    simp only [Act.put, zz1, zz2, zz3, zz4, zz5, zz6]
    refine zE 7 rfl (by kernel_rfl) (fun _ _ _ _ h => h) rfl (by exact s0) ?_
    apply Exists.intro
    refine ⟨fun wx hS => ?_, ?_⟩
    · go_simp; rfl
    simp only [Act.put, zz1, zz2, zz3, zz4, zz5, zz6]
    refine zE 8 rfl (by kernel_rfl) (fun _ _ _ _ h => h) rfl (by exact s0) ?_
    apply Exists.intro
    refine ⟨fun wx hS => ?_, ?_⟩
    · have ck2 := K2.out wx hS; go_simp; rfl
    simp only [Act.put, zz1, zz2, zz3, zz4, zz5, zz6]
    refine zE 10 rfl (by kernel_rfl) (fun _ _ _ _ h => h) rfl (by exact s0) ?_
    apply Exists.intro
    refine ⟨fun wx hS => ?_, ?_⟩
    · go_simp; rfl
    simp only [Act.put, zz1, zz2, zz3, zz4, zz5, zz6]
    refine wpAnyZ_one 9 (by kernel_rfl) rfl rfl (fun K hK => ?_)
    try simp only [List.getElem_toArray, List.getElem_cons_succ, List.getElem_cons_zero]
    go_simp
    refine (rswap_any (a := k) (b := k2) (w5.drewN 1) (pairK.row_upd_nil R5.out ((Upd.refl [] w5).drewN 1)) MOK.out.1 (by omega)).mono ?_
    rintro e w2 ⟨⟨v2, rfl, hr2⟩, hu2⟩
    have hu2' : Upd [] w5 w2 := ((Upd.refl [] w5).drewN 1).trans hu2
    obtain ⟨x2, d2, rfl, -, -⟩ := Row.slice hr2
    have CR2 := hide (hu2'.get CR5.out (by simp)); have U2 := hide (U5.out.trans hu2'); have R2 := hide hr2
    have hz2 := hu2'.size
    refine hK _ _ (.inr (hu2'.mono (by simp))) ?_
    clear hK K
    try simp only [Act.put, zz1, zz2, zz3]
    clear s0
    have s2 : Upd [B + 1] w2 w2 := Upd.refl _ _
    refine wpAnyZ_strong (S' := fun wx => Upd [B + 1] w2 wx) (fun wx h => (hu2'.mono (by simp)).trans h) _ _ _ _ ?_
    refine zE 11 rfl (by kernel_rfl) (fun _ _ _ _ h => h) rfl (by exact s2) ?_
    apply Exists.intro
    refine ⟨fun wx hS => ?_, ?_⟩
    · go_simp; rfl
    simp only [Act.put, zz1, zz2, zz3, zz4, zz5, zz6]
    refine wpAnyZ_one 12 (by kernel_rfl) rfl rfl (fun K hK => ?_)
    try simp only [List.getElem_toArray, List.getElem_cons_succ, List.getElem_cons_zero]
    obtain ⟨z0, z1, g0, g1, z2, g2⟩ := res_facts CR2.out
    go_simp
    have hW := upd2 w2 (B + 1) (.int .u8 0) (.string (strOf []))
    refine hK _ _ (.inr hW) ?_
    clear hK K
    try simp only [Act.put, zz1, zz2, zz3]
    refine wpAnyZ_done (by kernel_rfl) ?_ _
    clear s2 hu2 hu2' hr2
    go_wp2_with fail
    exact ret_rp4 (stored2 CR2.out) rfl rfl rfl rfl ⟨⟨_, rfl, (pairK.row_upd R2.out hW (fun k hk hT => by simp at hk; have := hT.1; simp at this; omega)).mono (fun k hk => .inr ⟨by have := hk.1; simp at this; omega, by have h9 := hk.2; simp only [size_setCell]; exact h9⟩) (fun _ _ _ h => h)⟩, U2.out.trans_new hW (fun k hk => .inr (by simp at hk; omega))⟩
  · have hrr : r = (m, ⟨0, joinM m c.keys⟩) := by rw [HRD.out]; unfold doM; rw [e]; rfl
    have hkd : c.kind = 7 := e
    clear HRD HI
    have p2k : w5.cell? ⟨B, 2, none⟩ = some (.int .u8 7) := by rw [p2, e]; rfl
    clear p2 e
    have RT5 := hide (pairK.row_mono (U := fun g => T g ∨ since w5.heap.size w5 g) R5.out (fun g hg => .inl hg))
    go_wp2_with fail
    go_loopw [7, 8, 9] (fun st sr si wr => ∃ (i : Nat) (t : List UInt8) (d : KM), i ≤ c.keys.length ∧ si = .int .i64 i ∧ st = .string (strOf t) ∧ t = joinM m (c.keys.take i) ∧ d = delsM m (c.keys.take i) ∧ pairK.row wr (fun g => T g ∨ since w5.heap.size wr g) sr d ∧ Upd [] w5 wr) (fun _ _ si _ => c.keys.length - (RowKit.intOf si).toNat)
    case atStart => exact ⟨0, [], m, by omega, rfl, rfl, rfl, rfl, RT5.out, Upd.refl _ _⟩
    case round =>
      obtain ⟨i, t, d, hi, rfl, rfl, ht, hd, hrd, hur⟩ := hrel
      have HT := hide ht; have HD := hide hd; have RD := hide hrd; have UR := hide hur
      have hdl : d.length ≤ 1000 := by rw [hd]; have := dels_len m (c.keys.take i); omega
      have htl : t.length ≤ 2000 := by
        rw [ht]
        have h3 := join_len MOK.out (c.keys.take i)
        rw [List.length_take] at h3
        have h4 : 65 * min i c.keys.length ≤ 65 * 16 := Nat.mul_le_mul_left _ (by omega)
        omega
      obtain ⟨xr, cr, rfl, -, -⟩ := Row.slice hrd
      have hzr := hur.size
      have CBr := hide (hur.get CB5.out (by simp)); have CRr := hide (hur.get CR5.out (by simp))
      have c3r : wr.cell? ⟨B, 3, none⟩ = some (.slice (some ⟨bk, ok', none⟩) c.keys.length cp) := blk_cell CBr.out rfl
      have c2r : wr.cell? ⟨B, 2, none⟩ = some (.int .u8 7) := by have := UR.out.get CB5.out (by simp); have h9 : wr.cell? ⟨B, 2, none⟩ = some (.int .u8 (c.kind : Int)) := blk_cell this rfl; rw [h9, hkd]; rfl
      clear ht hd hrd hur
      by_cases hlt : i < c.keys.length
      · have d5 : decide ((i : Int) < c.keys.length) = true := by simp; omega
        have d5' : decide (i < c.keys.length) = true := by simpa using hlt
        obtain ⟨q, hq⟩ : ∃ q, c.keys[i]? = some q := ⟨_, List.getElem?_eq_getElem hlt⟩
        obtain ⟨_, _, e2, hb2, hc2⟩ := HGET.out i q hq
        cases e2
        have cq := cell_upd hc2 (U5.out.trans UR.out) (by simp)
        have HQ := hide (show c.keys.take (i + 1) = c.keys.take i ++ [q] by rw [List.take_add_one, hq]; rfl)
        clear hq hc2
        go_wp2_with fail
        refine (find_any (k := q) wr (pairK.row_upd_nil R5.out UR.out)).mono ?_
        rintro e6 wx ⟨⟨f, rfl, hf⟩, rfl⟩
        have HFI := hide hf
        clear hf
        go_upto_if 125 with fail
        go_cut [7] (fun s wx => s = .string (strOf (t ++ (mfind m q).getD [])) ∧ wr = wx)
        case first =>
          rcases HFI.out with ⟨rfl, hn⟩ | ⟨fx, vx, rfl, hx, hfx⟩
          · have qn : decide ((0 : Int) ≤ -1) = false := by decide
            have HN := hide (show t ++ (mfind m q).getD [] = t by rw [hn]; simp)
            clear hn HFI
            go_wp2_with fail
            go_meet
            exact ⟨by rw [HN.out], rfl⟩
          · have qn : decide ((0 : Int) ≤ (fx : Int)) = true := by simp
            have hlx := (List.getElem?_eq_some_iff.1 hx).1
            obtain ⟨bx, ofx, ex, hbx, -, -, hcx⟩ := HG.out fx _ hx
            have cx := cell_upd hcx (U5.out.trans UR.out) (by simp)
            have hvl := MOK.out.find hfx
            have HEX := hide ex
            have hlt9 : (9223372036854775807 < (strOf t).size + (strOf vx).size) = False := by simp only [eq_iff_iff, iff_false, strOf_size]; omega
            have hcat : strOf t ++ strOf vx = strOf (t ++ vx) := strOf_append _ _
            have HN := hide (show (mfind m q).getD [] = vx by rw [hfx]; rfl)
            clear HFI hx hfx hcx ex
            obtain rfl := HEX.out
            go_wp2_with fail
            go_meet
            exact ⟨by rw [HN.out], rfl⟩
        case rest =>
          obtain ⟨rfl, rfl⟩ := hcut
          obtain ⟨t2, ht2⟩ : ∃ x, t ++ (mfind m q).getD [] = x := ⟨_, rfl⟩
          have hvl : ((mfind m q).getD []).length ≤ 64 := by
            cases hf : mfind m q with
            | none => simp
            | some v => simpa using MOK.out.find hf
          have ht2l : t2.length ≤ 3000 := by rw [← ht2, List.length_append]; omega
          have HT3 := hide (show joinM m (c.keys.take (i + 1)) = t2 ++ [44] by rw [HQ.out, join_snoc, ← HT.out, ← ht2]; simp)
          have HD3 := hide (show delsM m (c.keys.take (i + 1)) = mdel d q by rw [HQ.out, dels_snoc, ← HD.out])
          rw [ht2]
          clear ht2 hvl
          have hlt9 : (9223372036854775807 < (strOf t2).size + (⟨#[44]⟩ : ByteArray).size) = False := by simp only [eq_iff_iff, iff_false, strOf_size]; simp [ByteArray.size]; omega
          have hlt8 : (9223372036854775807 < (strOf t2).size + 1) = False := hlt9
          have hcat : strOf t2 ++ (⟨#[44]⟩ : ByteArray) = strOf (t2 ++ [44]) := strOf_append _ [44]
          go_wp2_with fail
          refine (without_any (k := q) wr RD.out (by omega)).mono ?_
          rintro e7 w7 ⟨⟨v7, rfl, hb7⟩, hu7⟩
          have hr7 := pairK.bag_row hb7
          have hz7 := hu7.size
          have R7 := hide (pairK.row_mono (U := fun g => T g ∨ since w5.heap.size w7 g) hr7 (fun g hg => .inr ⟨by have := hg.1; omega, hg.2⟩)); have U7 := hide (UR.out.trans hu7)
          obtain ⟨x7, d7, rfl, -, -⟩ := Row.slice hr7
          clear hb7 hr7 hu7 hlt9 hlt8 hcat
          go_wp2_with fail
          go_roundw
          case rel => exact ⟨i + 1, t2 ++ [44], mdel d q, by omega, by go_num, rfl, HT3.out.symm, HD3.out.symm, R7.out, U7.out⟩
          case measure => simp [RowKit.intOf]; omega
      · have d5 : decide ((i : Int) < c.keys.length) = false := by simp; omega
        have d5' : decide (i < c.keys.length) = false := by simpa using hlt
        have hie : c.keys.take i = c.keys := List.take_of_length_le (by omega)
        have HT2 := hide (show joinM m c.keys = t by rw [HT.out, hie]); have HD2 := hide (show delsM m c.keys = d by rw [HD.out, hie])
        clear hlt hie
        obtain ⟨z0, z1, g0, g1, z2, g2⟩ := res_facts CRr.out
        rw [HT2.out] at hrr
        subst hrr
        go_wp2_with fail
        have hW := upd2 wr (B + 1) (.int .u8 0) (.string (strOf t))
        have hBs := KB.out
        have R9 := hide (pairK.row_upd_nil R5.out UR.out)
        exact ret_rp4 (stored2 CRr.out) rfl rfl rfl rfl ⟨⟨_, rfl, (pairK.row_upd R9.out hW (fun k hk hT => by simp at hk; have := HLT.out k hT; omega)).mono (fun k hk => .inl hk) (fun _ _ _ h => h)⟩, (U5.out.trans UR.out).trans_new hW (fun k hk => .inr (by simp at hk; omega))⟩
  · have hrr : r = (delsM m c.keys, ⟨0, itoa ((m.length : Int) - ((delsM m c.keys).length : Int))⟩) := by rw [HRD.out]; unfold doM; rw [e]; rfl
    have hkd : c.kind = 8 := e
    clear HRD HI
    have p2k : w5.cell? ⟨B, 2, none⟩ = some (.int .u8 8) := by rw [p2, e]; rfl
    clear p2 e
    have RT5 := hide (pairK.row_mono (U := fun g => T g ∨ since w5.heap.size w5 g) R5.out (fun g hg => .inl hg))
    go_wp2_with fail
    go_loopw [7, 8, 9] (fun st sr si wr => ∃ (i : Nat) (t : List UInt8) (d : KM), i ≤ c.keys.length ∧ si = .int .i64 i ∧ st = .string (strOf t) ∧ t = joinM m (c.keys.take i) ∧ d = delsM m (c.keys.take i) ∧ pairK.row wr (fun g => T g ∨ since w5.heap.size wr g) sr d ∧ Upd [] w5 wr) (fun _ _ si _ => c.keys.length - (RowKit.intOf si).toNat)
    case atStart => exact ⟨0, [], m, by omega, rfl, rfl, rfl, rfl, RT5.out, Upd.refl _ _⟩
    case round =>
      obtain ⟨i, t, d, hi, rfl, rfl, ht, hd, hrd, hur⟩ := hrel
      have HT := hide ht; have HD := hide hd; have RD := hide hrd; have UR := hide hur
      have hdl : d.length ≤ 1000 := by rw [hd]; have := dels_len m (c.keys.take i); omega
      have htl : t.length ≤ 2000 := by
        rw [ht]
        have h3 := join_len MOK.out (c.keys.take i)
        rw [List.length_take] at h3
        have h4 : 65 * min i c.keys.length ≤ 65 * 16 := Nat.mul_le_mul_left _ (by omega)
        omega
      obtain ⟨xr, cr, rfl, -, -⟩ := Row.slice hrd
      have hzr := hur.size
      have CBr := hide (hur.get CB5.out (by simp)); have CRr := hide (hur.get CR5.out (by simp))
      have c3r : wr.cell? ⟨B, 3, none⟩ = some (.slice (some ⟨bk, ok', none⟩) c.keys.length cp) := blk_cell CBr.out rfl
      have c2r : wr.cell? ⟨B, 2, none⟩ = some (.int .u8 8) := by have := UR.out.get CB5.out (by simp); have h9 : wr.cell? ⟨B, 2, none⟩ = some (.int .u8 (c.kind : Int)) := blk_cell this rfl; rw [h9, hkd]; rfl
      clear ht hd hrd hur
      by_cases hlt : i < c.keys.length
      · have d5 : decide ((i : Int) < c.keys.length) = true := by simp; omega
        have d5' : decide (i < c.keys.length) = true := by simpa using hlt
        obtain ⟨q, hq⟩ : ∃ q, c.keys[i]? = some q := ⟨_, List.getElem?_eq_getElem hlt⟩
        obtain ⟨_, _, e2, hb2, hc2⟩ := HGET.out i q hq
        cases e2
        have cq := cell_upd hc2 (U5.out.trans UR.out) (by simp)
        have HQ := hide (show c.keys.take (i + 1) = c.keys.take i ++ [q] by rw [List.take_add_one, hq]; rfl)
        clear hq hc2
        go_wp2_with fail
        refine (find_any (k := q) wr (pairK.row_upd_nil R5.out UR.out)).mono ?_
        rintro e6 wx ⟨⟨f, rfl, hf⟩, rfl⟩
        have HFI := hide hf
        clear hf
        go_upto_if 125 with fail
        go_cut [7] (fun s wx => s = .string (strOf (t ++ (mfind m q).getD [])) ∧ wr = wx)
        case first =>
          rcases HFI.out with ⟨rfl, hn⟩ | ⟨fx, vx, rfl, hx, hfx⟩
          · have qn : decide ((0 : Int) ≤ -1) = false := by decide
            have HN := hide (show t ++ (mfind m q).getD [] = t by rw [hn]; simp)
            clear hn HFI
            go_wp2_with fail
            go_meet
            exact ⟨by rw [HN.out], rfl⟩
          · have qn : decide ((0 : Int) ≤ (fx : Int)) = true := by simp
            have hlx := (List.getElem?_eq_some_iff.1 hx).1
            obtain ⟨bx, ofx, ex, hbx, -, -, hcx⟩ := HG.out fx _ hx
            have cx := cell_upd hcx (U5.out.trans UR.out) (by simp)
            have hvl := MOK.out.find hfx
            have HEX := hide ex
            have hlt9 : (9223372036854775807 < (strOf t).size + (strOf vx).size) = False := by simp only [eq_iff_iff, iff_false, strOf_size]; omega
            have hcat : strOf t ++ strOf vx = strOf (t ++ vx) := strOf_append _ _
            have HN := hide (show (mfind m q).getD [] = vx by rw [hfx]; rfl)
            clear HFI hx hfx hcx ex
            obtain rfl := HEX.out
            go_wp2_with fail
            go_meet
            exact ⟨by rw [HN.out], rfl⟩
        case rest =>
          obtain ⟨rfl, rfl⟩ := hcut
          obtain ⟨t2, ht2⟩ : ∃ x, t ++ (mfind m q).getD [] = x := ⟨_, rfl⟩
          have hvl : ((mfind m q).getD []).length ≤ 64 := by
            cases hf : mfind m q with
            | none => simp
            | some v => simpa using MOK.out.find hf
          have ht2l : t2.length ≤ 3000 := by rw [← ht2, List.length_append]; omega
          have HT3 := hide (show joinM m (c.keys.take (i + 1)) = t2 ++ [44] by rw [HQ.out, join_snoc, ← HT.out, ← ht2]; simp)
          have HD3 := hide (show delsM m (c.keys.take (i + 1)) = mdel d q by rw [HQ.out, dels_snoc, ← HD.out])
          rw [ht2]
          clear ht2 hvl
          have hlt9 : (9223372036854775807 < (strOf t2).size + (⟨#[44]⟩ : ByteArray).size) = False := by simp only [eq_iff_iff, iff_false, strOf_size]; simp [ByteArray.size]; omega
          have hlt8 : (9223372036854775807 < (strOf t2).size + 1) = False := hlt9
          have hcat : strOf t2 ++ (⟨#[44]⟩ : ByteArray) = strOf (t2 ++ [44]) := strOf_append _ [44]
          go_wp2_with fail
          refine (without_any (k := q) wr RD.out (by omega)).mono ?_
          rintro e7 w7 ⟨⟨v7, rfl, hb7⟩, hu7⟩
          have hr7 := pairK.bag_row hb7
          have hz7 := hu7.size
          have R7 := hide (pairK.row_mono (U := fun g => T g ∨ since w5.heap.size w7 g) hr7 (fun g hg => .inr ⟨by have := hg.1; omega, hg.2⟩)); have U7 := hide (UR.out.trans hu7)
          obtain ⟨x7, d7, rfl, -, -⟩ := Row.slice hr7
          clear hb7 hr7 hu7 hlt9 hlt8 hcat
          go_wp2_with fail
          go_roundw
          case rel => exact ⟨i + 1, t2 ++ [44], mdel d q, by omega, by go_num, rfl, HT3.out.symm, HD3.out.symm, R7.out, U7.out⟩
          case measure => simp [RowKit.intOf]; omega
      · have d5 : decide ((i : Int) < c.keys.length) = false := by simp; omega
        have d5' : decide (i < c.keys.length) = false := by simpa using hlt
        have hie : c.keys.take i = c.keys := List.take_of_length_le (by omega)
        have HT2 := hide (show joinM m c.keys = t by rw [HT.out, hie]); have HD2 := hide (show delsM m c.keys = d by rw [HD.out, hie])
        clear hlt hie
        obtain ⟨z0, z1, g0, g1, z2, g2⟩ := res_facts CRr.out
        obtain ⟨dz, hdz⟩ : ∃ x, itoa ((m.length : Int) - (d.length : Int)) = x := ⟨_, rfl⟩
        rw [HD2.out, hdz] at hrr
        subst hrr
        have HDZ := hide hdz
        clear hdz
        go_wp2_with fail
        refine (decimal_any (n := (m.length : Int) - (d.length : Int)) (by simp [fits]; omega) wr).mono ?_
        rw [HDZ.out]
        rintro e6 w6 ⟨rfl, hu6⟩
        have CR6 := hide (hu6.get CRr.out (by simp)); have U6 := hide (UR.out.trans hu6); have R6 := hide (pairK.row_mono (U := fun g => T g ∨ since w5.heap.size w6 g) (pairK.row_upd_nil RD.out hu6) (fun g hg => by
          rcases hg with hg | hg
          · exact .inl hg
          · exact .inr ⟨hg.1, by have := hg.2; have := hu6.size; omega⟩))
        have hz6 := hu6.size
        obtain ⟨z0, z1, g0, g1, z2, g2⟩ := res_facts CR6.out
        clear hu6
        go_wp2_with fail
        have hW := upd2 w6 (B + 1) (.int .u8 0) (.string (strOf dz))
        have hBs := KB.out
        exact ret_rp4 (stored2 CR6.out) rfl rfl rfl rfl ⟨⟨_, rfl, (pairK.row_upd R6.out hW (fun k hk hT => by
          simp at hk
          rcases hT with hT | hT
          · have := HLT.out k hT; omega
          · have := hT.1; omega)).mono (fun k hk => by
          rcases hk with hk | hk
          · exact .inl hk
          · exact .inr ⟨by have := hk.1; omega, by have h9 := hk.2; simp only [size_setCell]; exact h9⟩) (fun _ _ _ h => h)⟩, (U5.out.trans U6.out).trans_new hW (fun k hk => .inr (by simp at hk; omega))⟩
end Go.Proofs.YthpnnffogbjhpaaGreatDoor.Kv
