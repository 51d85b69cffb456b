/- WvL, WvF, KvTr in one text. -/
import Derived.Test.YthpnnffogbjhpaaGreatDoorKvRq
import Derived.Test.YthpnnffogbjhpaaGreatDoorKvQD
import Derived.Test.YthpnnffogbjhpaaGreatDoorKvPure
import Derived.Test.YthpnnffogbjhpaaGreatDoorWvRows
set_option linter.unusedSimpArgs false
set_option linter.unusedVariables false
set_option linter.unnecessarySimpa false

namespace Go.Proofs.YthpnnffogbjhpaaGreatDoor.Kv
set_option linter.unusedSimpArgs false
set_option linter.unusedVariables false
set_option linter.unnecessarySimpa false
open Go.RowKit Go.Lib Go.Proofs.YthpnnffogbjhpaaGreatDoor.Crc Go.Proofs.YthpnnffogbjhpaaGreatDoor.Cm
set_option maxRecDepth 100000 in
set_option maxHeartbeats 2000000 in
theorem lone_any {T : Nat → Prop} {v : Value} {c : Cm} (w : World) (hc : CmAt w T v c) (hk : c.keys.length ≤ 1000000) :
    Calls Tryz.prog 157 #[v] w fun e w' => e = .returned (.bool (loneM c)) ∧ Upd [] w w' := by
  obtain ⟨fit, ks, rfl, hks⟩ := hc
  obtain ⟨xo, cp, rfl, h1, h2, hget⟩ := hks.get
  simp only [maxLen] at h2
  have KS := hide hks; have FIT := hide fit
  clear hget hks fit
  obtain ⟨r, hr⟩ : ∃ r, loneM c = r := ⟨_, rfl⟩
  rw [hr]
  have HR := hide hr
  clear hr
  unfold cmv
  simp only [strV]
  go_enter Tryz.func157, Tryz.ntmps157
  go_upto_region 1 with fail
  have hB := blk_new w (.cells (cmc c (.slice xo c.keys.length cp)).toArray TCmd)
  have hu := (Upd.refl [] w).alloc (.cells (cmc c (.slice xo c.keys.length cp)).toArray TCmd)
  change Code.wp _ _ _ _ (w.alloc (.cells (cmc c (.slice xo c.keys.length cp)).toArray TCmd))
  generalize w.alloc (.cells (cmc c (.slice xo c.keys.length cp)).toArray TCmd) = w1 at *
  have U1 := hide hu; have KS1 := hide (KS.out.upd_nil hu); have CB := hide hB
  clear hB hu
  obtain ⟨p0, p1, p2, p3, p4, p5, p6⟩ := cell7 CB.out
  go_wp2_with fail
  have hta := touches_any (c := c) (v := cmv c (.slice xo c.keys.length cp)) w1 ⟨FIT.out, _, rfl, KS1.out⟩ (by omega)
  simp only [cmv, strV] at hta
  refine hta.mono ?_
  rintro e w2 ⟨⟨vx, rfl, hx⟩, hu2⟩
  obtain ⟨ox, cx, rfl, hx1, hx2, -⟩ := hx.get
  simp only [maxLen] at hx2
  have U2 := hide (U1.out.trans hu2)
  have hrr := HR.out
  unfold loneM at hrr
  clear hta hu2 hx p0 p1 p2 p3 p4 p5 p6
  generalize (sortM c.keys).length = n at *
  go_wp2_with fail
  go_ret
  refine ⟨?_, U2.out⟩
  rw [← hrr]
  simp
  try omega
end Go.Proofs.YthpnnffogbjhpaaGreatDoor.Kv
namespace Go.Proofs.YthpnnffogbjhpaaGreatDoor.Kv
set_option linter.unusedSimpArgs false
set_option linter.unusedVariables false
set_option linter.unnecessarySimpa false
open Go.RowKit Go.Lib Go.Proofs.YthpnnffogbjhpaaGreatDoor.Crc Go.Proofs.YthpnnffogbjhpaaGreatDoor.Cm
noncomputable def fpOps1 : Array Oper := findOps 1 ((Tryz.f130.body).getD .skip)
/-- Rows that another block's change leaves. -/
theorem strs_far {w : World} {kg cx : Nat} {ox : Option Addr} {l : List (List UInt8)} {T : Nat → Prop} (h : Strs w T (.slice ox l.length cx) l) (hT : ∀ k, T k → k ≠ kg) :
    ∀ j k, l[j]? = some k → ∃ b off, ox = some ⟨b, off, none⟩ ∧ b < w.heap.size ∧ ∀ wx, Upd [kg] w wx → wx.cell? ⟨b, off + j, none⟩ = some (.string (strOf k)) := by
  intro j k hj
  obtain ⟨xo, c, e, _, _, hg⟩ := h.get
  cases e
  obtain ⟨b, off, rfl, hb, hc⟩ := hg j k hj
  refine ⟨b, off, rfl, hb, fun wx hu => ?_⟩
  obtain ⟨xo', c', e', _, _, hg'⟩ := (h.upd hu (fun q hq ht => by simp at hq; exact hT q ht hq)).get
  cases e'
  obtain ⟨b', off', e2, _, hc'⟩ := hg' j k hj
  cases e2
  exact hc'
noncomputable def fpOps16 : Array Oper := findOps 16 ((Tryz.f130.body).getD .skip)
set_option maxRecDepth 100000 in
set_option maxHeartbeats 2000000 in
theorem fput_any {T : Nat → Prop} {v : Value} {c : Cm} {p kg cg : Nat} {f : Ft} (w : World) (h : FtIs w p kg cg f) (hok : FtOk f) (hc : CmAt w T v c) (hk : c.keys.length ≤ 1000000) (hky : ∀ k ∈ c.keys, k.length ≤ maxLen) (hsl : (sortM c.keys).length ≤ 100000)
    (hkb : f.ks.length ≤ 500000) (hkc : f.cs.length ≤ 500000) (ht : f.top ≤ 1000000) :
    Calls Tryz.prog 130 #[.pointer (some ⟨p, 0, none⟩), v] w fun e w' => e = .returned (.int .i64 ((ftW f c : Nat) : Int)) ∧ FtIs w' p kg cg (ftNext f c) ∧ Upd [p, kg, cg] w w' := by
  obtain ⟨fit, ks, rfl, hks⟩ := hc
  obtain ⟨xo, cp, rfl, h1, h2, hget⟩ := hks.get
  simp only [maxLen] at h2
  have KS := hide hks; have FIT := hide fit; have FT := hide h; have OK := hide hok
  have hpl := blk_lt h.blk; have hkl := MapKind.is_lt h.ks; have hcl := MapKind.is_lt h.cs
  obtain ⟨hn1, hn2⟩ := h.nes
  have hn3 := h.ne
  have HKX := hide hky; have HBB := hide (And.intro hkb (And.intro hsl hkc))
  clear hget hks fit h hok hky
  unfold cmv
  simp only [strV]
  go_enter Tryz.func130, Tryz.ntmps130
  go_upto_region 1 with fail
  have hB := blk_new w (.cells (cmc c (.slice xo c.keys.length cp)).toArray TCmd)
  have hu := (Upd.refl [] w).alloc (.cells (cmc c (.slice xo c.keys.length cp)).toArray TCmd)
  change Code.wp _ _ _ _ (w.alloc (.cells (cmc c (.slice xo c.keys.length cp)).toArray TCmd))
  generalize w.alloc (.cells (cmc c (.slice xo c.keys.length cp)).toArray TCmd) = w1 at *
  obtain ⟨B, hBs⟩ : ∃ B, w.heap.size = B := ⟨_, rfl⟩
  have KB := hide hBs
  rw [hBs] at hB ⊢
  have U1 := hide hu; have KS1 := hide (KS.out.upd_nil hu); have CB := hide hB; have FT1 := hide (FT.out.upd_nil hu)
  clear hB hu hBs
  refine wp_region_seq fpOps1 (by kernel_rfl) [11] (Upd [] w1) (by kernel_rfl) (by kernel_rfl) (fun _ _ d _ _ h => by cases d <;> exact h) ((Upd.refl _ _).drewN 1) ?_
  refine wpSeq_take (by kernel_rfl) (by kernel_rfl) ?_
  apply Exists.intro
  refine ⟨fun wx hS => ?_, fun a' ha => ?_⟩
  · go_simp; rfl
  simp only [Act.put, List.setIfInBounds_toArray, List.set_cons_succ, List.set_cons_zero] at ha
  subst ha
  refine wpSeq_take (by kernel_rfl) (by kernel_rfl) ?_
  apply Exists.intro
  refine ⟨fun wx hS => ?_, fun a' ha => ?_⟩
  · go_simp; rfl
  simp only [Act.put, List.setIfInBounds_toArray, List.set_cons_succ, List.set_cons_zero] at ha
  subst ha
  refine wpSeq_take (by kernel_rfl) (by kernel_rfl) ?_
  apply Exists.intro
  refine ⟨fun wx hS => ?_, fun a' ha => ?_⟩
  · go_simp; rfl
  simp only [Act.put, List.setIfInBounds_toArray, List.set_cons_succ, List.set_cons_zero] at ha
  subst ha
  refine wpSeq_take (by kernel_rfl) (by kernel_rfl) ?_
  apply Exists.intro
  refine ⟨fun wx hS => ?_, fun a' ha => ?_⟩
  · have c0 : wx.cell? ⟨p, 2, none⟩ = some (.int .i64 (f.lone : Int)) := blk_cell (hS.get FT1.out.blk (by simp)) rfl; go_simp; rfl
  simp only [Act.put, List.setIfInBounds_toArray, List.set_cons_succ, List.set_cons_zero] at ha
  subst ha
  refine wpSeq_take (by kernel_rfl) (by kernel_rfl) ?_
  apply Exists.intro
  refine ⟨fun wx hS => ?_, fun a' ha => ?_⟩
  · go_simp; rfl
  simp only [Act.put, List.setIfInBounds_toArray, List.set_cons_succ, List.set_cons_zero] at ha
  subst ha
  refine wpSeq_take (by kernel_rfl) (by kernel_rfl) ?_
  apply Exists.intro
  refine ⟨fun wx hS => ?_, fun a' ha => ?_⟩
  · go_simp; rfl
  simp only [Act.put, List.setIfInBounds_toArray, List.set_cons_succ, List.set_cons_zero] at ha
  subst ha
  refine wpSeq_take (by kernel_rfl) (by kernel_rfl) ?_
  apply Exists.intro
  refine ⟨fun wx hS => ?_, fun a' ha => ?_⟩
  · go_simp; rfl
  simp only [Act.put, List.setIfInBounds_toArray, List.set_cons_succ, List.set_cons_zero] at ha
  subst ha
  refine wpSeq_take (by kernel_rfl) (by kernel_rfl) ?_
  apply Exists.intro
  refine ⟨fun wx hS => ?_, fun a' ha => ?_⟩
  · have c0 : wx.cell? ⟨p, 1, none⟩ = some (.map (some cg)) := blk_cell (hS.get FT1.out.blk (by simp)) rfl; go_simp; rfl
  simp only [Act.put, List.setIfInBounds_toArray, List.set_cons_succ, List.set_cons_zero] at ha
  subst ha
  refine wpSeq_take (by kernel_rfl) (by kernel_rfl) ?_
  apply Exists.intro
  refine ⟨fun wx hS => ?_, fun a' ha => ?_⟩
  · go_simp; rfl
  simp only [Act.put, List.setIfInBounds_toArray, List.set_cons_succ, List.set_cons_zero] at ha
  subst ha
  refine wpSeq_take (by kernel_rfl) (by kernel_rfl) ?_
  apply Exists.intro
  refine ⟨fun wx hS => ?_, fun a' ha => ?_⟩
  · obtain ⟨b0, b1, b2, b3, b4, b5, b6⟩ := cell7 (hS.get CB.out (by simp)); go_simp; rfl
  simp only [Act.put, List.setIfInBounds_toArray, List.set_cons_succ, List.set_cons_zero] at ha
  subst ha
  refine wpSeq_take (by kernel_rfl) (by kernel_rfl) ?_
  apply Exists.intro
  refine ⟨fun wx hS => ?_, fun a' ha => ?_⟩
  · have c0 := ft_look (MapKind.is_upd_nil FT1.out.cs hS) FIT.out.1; go_simp; rfl
  simp only [Act.put, List.setIfInBounds_toArray, List.set_cons_succ, List.set_cons_zero] at ha
  subst ha
  refine wpSeq_one (by kernel_rfl) (by kernel_rfl) (fun K hK => ?_)
  go_simp
  rw [show max (f.lone : Int) (at0 f.cs c.client : Int) = ((max f.lone (at0 f.cs c.client) : Nat) : Int) by omega]
  refine hK _ _ ((Upd.refl [] w1).drewN 1) ?_
  clear hK K
  try simp only [Act.put, List.setIfInBounds_toArray, List.set_cons_succ, List.set_cons_zero]
  refine wpSeq_take (by kernel_rfl) (by kernel_rfl) ?_
  apply Exists.intro
  refine ⟨fun wx hS => ?_, fun a' ha => ?_⟩
  · go_simp; rfl
  simp only [Act.put, List.setIfInBounds_toArray, List.set_cons_succ, List.set_cons_zero] at ha
  subst ha
  unfold wpSeq
  obtain ⟨m0, hm0⟩ : ∃ m0, max f.lone (at0 f.cs c.client) = m0 := ⟨_, rfl⟩
  rw [hm0]
  have HM0 := hide hm0
  have hud := (Upd.refl [] w1).drewN 1
  generalize w1.drewN 1 = wd at *
  have CBd := hide (hud.get CB.out (by simp)); have KSd := hide (KS1.out.upd_nil hud); have FTd := hide (FT1.out.upd_nil hud); have Ud := hide (U1.out.trans hud)
  clear hm0 hud CB KS1 FT1 U1
  obtain ⟨b0, b1, b2, b3, b4, b5, b6⟩ := cell7 CBd.out
  go_wp2_with fail
  have hta := touches_any (c := c) (v := cmv c (.slice xo c.keys.length cp)) wd ⟨FIT.out, _, rfl, KSd.out⟩ (by omega)
  simp only [cmv, strV] at hta
  refine hta.mono ?_
  rintro e w2 ⟨⟨vx, rfl, hx⟩, hu2⟩
  clear hta
  have hks0 := (sortM_says c.keys).2
  generalize hsk : sortM c.keys = sk at *
  obtain ⟨ox, cx, rfl, hx1, hx2, hxg⟩ := hx.get
  simp only [maxLen] at hx2
  have CB2 := hide (hu2.get CBd.out (by simp)); have FT2 := hide (FTd.out.upd_nil hu2); have KS2 := hide (KSd.out.upd_nil hu2); have U2 := hide (Ud.out.trans hu2); have HXG := hide hxg
  have HKL := hide hks0; have HSK := hide hsk; have HXS := hide hx; have HZD := hide Ud.out.size
  clear hu2 hx hxg b0 b1 b2 b3 b4 b5 b6 CBd KSd FTd Ud hks0 hsk
  have p0 : w2.cell? ⟨p, 0, none⟩ = some (.map (some kg)) := blk_cell FT2.out.blk rfl
  have hkx : ∀ k ∈ sk, k.length ≤ maxLen := fun k hk => HKX.out k ((HKL.out k).1 hk)
  have HKS := hide hkx
  clear hkx
  have hlk : ∀ k ∈ sk, (Instr.lookup 205 (.map (some kg)) (.string (strOf k)) false).run Tryz.prog w2 = .ok (.int .i64 ((at0 f.ks k : Nat) : Int)) w2 := fun k hk => ft_lookk FT2.out.ks (HKS.out k hk)
  have HLK := hide hlk
  clear hlk
  go_wp2_with fail
  go_loop [5, 27] (fun s5 si => ∃ i : Nat, i ≤ sk.length ∧ si = .int .i64 i ∧ s5 = .int .i64 ((wvMax f.ks (sk.take i) m0 : Nat) : Int)) (fun _ si => sk.length - (RowKit.intOf si).toNat)
  case atStart => exact ⟨0, by omega, rfl, rfl⟩
  case round =>
    obtain ⟨i, hi, rfl, rfl⟩ := hrel
    by_cases hlt : i < sk.length
    · have d7 : decide ((i : Int) < sk.length) = true := by simp; omega
      have d7' : decide (i < sk.length) = true := by simpa using hlt
      obtain ⟨k, hk⟩ : ∃ k, sk[i]? = some k := ⟨_, List.getElem?_eq_getElem hlt⟩
      obtain ⟨bk, fy, rfl, -, hcy⟩ := HXG.out i k hk
      have hl2 := HLK.out k (List.mem_of_getElem? hk)
      have hstep : wvMax f.ks (sk.take (i + 1)) m0 = max (wvMax f.ks (sk.take i) m0) (at0 f.ks k) := by
        unfold wvMax
        rw [List.take_add_one, hk, List.foldl_append]
        rfl
      have HST := hide hstep
      clear hstep hk
      go_wp2_with fail
      go_round
      case rel => exact ⟨i + 1, by omega, by go_num, by rw [HST.out]; exact congrArg (Value.int .i64) (by omega)⟩
      case measure => simp [RowKit.intOf]; omega
    · have d7 : decide ((i : Int) < sk.length) = false := by simp; omega
      have d7' : decide (i < sk.length) = false := by simpa using hlt
      have hie : i = sk.length := by omega
      subst hie
      rw [List.take_length]
      obtain ⟨b0, b1, b2, b3, b4, b5, b6⟩ := cell7 CB2.out
      go_wp2_with fail
      have hlo := lone_any (c := c) (v := cmv c (.slice xo c.keys.length cp)) w2 ⟨FIT.out, _, rfl, KS2.out⟩ (by omega)
      simp only [cmv, strV] at hlo
      refine hlo.mono ?_
      rintro e w3 ⟨rfl, hu3⟩
      have hu3' := hide hu3
      have CB3 := hide (hu3.get CB2.out (by simp)); have FT3 := hide (FT2.out.upd_nil hu3); have U3 := hide (U2.out.trans hu3)
      clear hlo hu3 b0 b1 b2 b3 b4 b5 b6 CB2 FT2 U2 HLK p0 d7 d7' hlt hi
      have p2 : w3.cell? ⟨p, 2, none⟩ = some (.int .i64 (f.lone : Int)) := blk_cell FT3.out.blk rfl
      have p3 : w3.cell? ⟨p, 3, none⟩ = some (.int .i64 (f.top : Int)) := blk_cell FT3.out.blk rfl
      have f2 : w3.frozen? ⟨p, 2, none⟩ = false := blk_free FT3.out.blk
      have hxs3 := HXS.out.upd_nil hu3'.out
      have HXS3 := hide hxs3
      clear hxs3 HXS
      have hzd := HZD.out
      by_cases hL : loneM c = true
      · rw [hL]
        go_wp2_with fail
        have hus0 : Upd [p] w3 (w3.setCell ⟨p, 2, none⟩ (.int .i64 ((f.top : Int) + 1))) := (Upd.refl [p] w3).setCell (p := ⟨p, 2, none⟩) (.inl (by simp)) _
        have hbs0 := blk_set (i := 2) FT3.out.blk (.int .i64 ((f.top : Int) + 1))
        simp only [List.setIfInBounds_toArray, List.set_cons_succ, List.set_cons_zero] at hbs0
        generalize w3.setCell ⟨p, 2, none⟩ (.int .i64 ((f.top : Int) + 1)) = wt at *
        obtain ⟨W, hW⟩ : ∃ W, f.top = W := ⟨_, rfl⟩
        rw [hW]
        obtain ⟨L, hLe⟩ : ∃ L, f.top + 1 = L := ⟨_, rfl⟩
        have hn := FT3.out.nes
        have hWt : W ≤ f.top := by omega
        have FT4 : Hid (FtIs wt p kg cg ⟨f.ks, f.cs, L, f.top⟩) := hide ⟨by rw [hbs0, ← hLe]; rfl, MapKind.is_upd FT3.out.ks hus0 (by simpa using fun e => hn.1 e.symm), MapKind.is_upd FT3.out.cs hus0 (by simpa using fun e => hn.2 e.symm), FT3.out.ne⟩
        have CBt := hide (hus0.get CB3.out (by have := KB.out; simp; omega))
        have Ut : Hid (Upd [p] w wt) := hide ((U3.out.mono (by simp)).trans hus0)
        have HX4 := hide (strs_far (kg := kg) (HXS3.out.upd hus0 (fun q hq ht => by simp at hq; have := ht.1; omega)) (fun q ht e => by have := ht.1; omega))
        have HFW : Hid (ftW f c = W) := hide (by unfold ftW; rw [hL]; exact hW)
        have HLL : Hid ((if loneM c then W + 1 else f.lone) = L) := hide (by rw [hL, ← hLe, ← hW]; rfl)
        clear hus0 hbs0 hW hLe hn p2 p3 f2
        go_loopw [53] (fun si wr => ∃ i : Nat, i ≤ sk.length ∧ si = .int .i64 i ∧ FtIs wr p kg cg ⟨wvPut f.ks (sk.take i) (W + 1), f.cs, L, f.top⟩ ∧ Upd [kg] wt wr ∧ (wvPut f.ks (sk.take i) (W + 1)).length ≤ f.ks.length + i) (fun si _ => sk.length - (RowKit.intOf si).toNat)
        case atStart => exact ⟨0, by omega, rfl, FT4.out, Upd.refl _ _, Nat.le_refl _⟩
        case round =>
          obtain ⟨i, hi, rfl, hft, hur, hln⟩ := hrel
          have hb1 := HBB.out.1
          have hb2 : sk.length ≤ 100000 := HBB.out.2.1
          by_cases hlt : i < sk.length
          · have d7 : decide ((i : Int) < sk.length) = true := by simp; omega
            have d7' : decide (i < sk.length) = true := by simpa using hlt
            obtain ⟨k, hk⟩ : ∃ k, sk[i]? = some k := ⟨_, List.getElem?_eq_getElem hlt⟩
            obtain ⟨bk, fy, rfl, hbk, hcy0⟩ := HX4.out i k hk
            have hcy := hcy0 wr hur
            have q0 : wr.cell? ⟨p, 0, none⟩ = some (.map (some kg)) := blk_cell hft.blk rfl
            obtain ⟨w', hr, hm, hu'⟩ := ft_putk (v := W + 1) hft.ks (HKS.out k (List.mem_of_getElem? hk)) (show (wvPut f.ks (sk.take i) (W + 1)).length ≤ 1000000 by omega) (Upd.refl [kg] wr)
            have hr' : (Instr.mapUpdate 205 (.map (some kg)) (.string (strOf k)) (.int .i64 ((W : Int) + 1))).run Tryz.prog wr = .ok () w' := hr
            have hstep : wvPut f.ks (sk.take (i + 1)) (W + 1) = mput strK (wvPut f.ks (sk.take i) (W + 1)) k (W + 1) := by
              unfold wvPut
              rw [List.take_add_one, hk, List.foldl_append]
              rfl
            have hpl' := len_put_le (K := strK) (l := wvPut f.ks (sk.take i) (W + 1)) (k := k) (v := W + 1)
            have hn := hft.nes
            have hbk' : w'.heap[p]? = some (.cells #[.map (some kg), .map (some cg), .int .i64 (L : Int), .int .i64 (f.top : Int)] 208 (0, 0)) := hu'.get hft.blk (by simpa using hn.1)
            have hcs' : wcK.is w' cg f.cs := MapKind.is_upd hft.cs hu' (by simpa using fun e => hft.ne e.symm)
            have E1 := hide hstep; have E2 := hide hpl'; have E3 := hide hbk'; have E4 := hide hcs'; have E5 := hide hm; have E6 := hide (hur.trans hu'); have E7 := hide hft.ne
            clear hstep hpl' hbk' hcs' hm hu' hur hn hft
            go_wp2_with fail
            go_round
            case rel => exact ⟨i + 1, by omega, by go_num, ⟨E3.out, by rw [E1.out]; exact E5.out, E4.out, E7.out⟩, E6.out, by rw [E1.out]; have := E2.out; omega⟩
            case measure => simp [RowKit.intOf]; omega
          · have d7 : decide ((i : Int) < sk.length) = false := by simp; omega
            have d7' : decide (i < sk.length) = false := by simpa using hlt
            have hie : i = sk.length := by omega
            subst hie
            rw [List.take_length] at hft hln
            go_upto_region 16 with fail
            have CB4 := hide (hur.get CBt.out (by have := KB.out; simp; omega)); have FT5 := hide hft; have U4 := hide hur
            clear hur
            refine wp_region_seq fpOps16 (by kernel_rfl) [8] (Upd [cg] wr) (by kernel_rfl) (by kernel_rfl) (fun _ _ d _ _ h => by cases d <;> exact h) ((Upd.refl _ _).drewN 1) ?_
            refine wpSeq_take (by kernel_rfl) (by kernel_rfl) ?_
            apply Exists.intro
            refine ⟨fun wx hS => ?_, fun a' ha => ?_⟩
            · go_simp; rfl
            simp only [Act.put, List.setIfInBounds_toArray, List.set_cons_succ, List.set_cons_zero] at ha
            subst ha
            refine wpSeq_take (by kernel_rfl) (by kernel_rfl) ?_
            apply Exists.intro
            refine ⟨fun wx hS => ?_, fun a' ha => ?_⟩
            · go_simp; rfl
            simp only [Act.put, List.setIfInBounds_toArray, List.set_cons_succ, List.set_cons_zero] at ha
            subst ha
            refine wpSeq_take (by kernel_rfl) (by kernel_rfl) ?_
            apply Exists.intro
            refine ⟨fun wx hS => ?_, fun a' ha => ?_⟩
            · go_simp; rfl
            simp only [Act.put, List.setIfInBounds_toArray, List.set_cons_succ, List.set_cons_zero] at ha
            subst ha
            refine wpSeq_take (by kernel_rfl) (by kernel_rfl) ?_
            apply Exists.intro
            refine ⟨fun wx hS => ?_, fun a' ha => ?_⟩
            · have c0 : wx.cell? ⟨p, 1, none⟩ = some (.map (some cg)) := blk_cell (hS.get FT5.out.blk (by have := FT5.out.nes.2; simpa using this)) rfl; go_simp; rfl
            simp only [Act.put, List.setIfInBounds_toArray, List.set_cons_succ, List.set_cons_zero] at ha
            subst ha
            refine wpSeq_take (by kernel_rfl) (by kernel_rfl) ?_
            apply Exists.intro
            refine ⟨fun wx hS => ?_, fun a' ha => ?_⟩
            · go_simp; rfl
            simp only [Act.put, List.setIfInBounds_toArray, List.set_cons_succ, List.set_cons_zero] at ha
            subst ha
            refine wpSeq_take (by kernel_rfl) (by kernel_rfl) ?_
            apply Exists.intro
            refine ⟨fun wx hS => ?_, fun a' ha => ?_⟩
            · obtain ⟨b0, b1, b2, b3, b4, b5, b6⟩ := cell7 (hS.get CB4.out (by have := KB.out; simp; omega)); go_simp; rfl
            simp only [Act.put, List.setIfInBounds_toArray, List.set_cons_succ, List.set_cons_zero] at ha
            subst ha
            refine wpSeq_take (by kernel_rfl) (by kernel_rfl) ?_
            apply Exists.intro
            refine ⟨fun wx hS => ?_, fun a' ha => ?_⟩
            · go_simp; rfl
            simp only [Act.put, List.setIfInBounds_toArray, List.set_cons_succ, List.set_cons_zero] at ha
            subst ha
            refine wpSeq_take (by kernel_rfl) (by kernel_rfl) ?_
            apply Exists.intro
            refine ⟨fun wx hS => ?_, fun a' ha => ?_⟩
            · go_simp; rfl
            simp only [Act.put, List.setIfInBounds_toArray, List.set_cons_succ, List.set_cons_zero] at ha
            subst ha
            refine wpSeq_one (by kernel_rfl) (by kernel_rfl) (fun K hK => ?_)
            obtain ⟨w6, hr6, hm6, hu6⟩ := ft_put (k := c.client) (v := W + 1) (MapKind.is_upd_nil FT5.out.cs ((Upd.refl [] wr).drewN 1)) FIT.out.1 (show f.cs.length ≤ 1000000 by have := HBB.out.2.2; omega) (Upd.refl [cg] (wr.drewN 1))
            have hr6' : (Instr.mapUpdate 206 (.map (some cg)) (.int .u32 (c.client : Int)) (.int .i64 ((W : Int) + 1))).run Tryz.prog (wr.drewN 1) = .ok () w6 := hr6
            have hwr : IntKind.i64.wrap ((W : Int) + 1) = (W : Int) + 1 := by
              have hw1 : (W : Int) + 1 < 9223372036854775808 := by omega
              first | (rw [IntKind.wrap_i64]; unfold wrap64; omega) | (rw [IntKind.wrap_i64] <;> omega) | (simp only [IntKind.wrap]; unfold wrap64; omega) | (simp only [IntKind.wrap, IntKind.i64]; omega)
            go_simp
            have hu6' : Upd [cg] wr w6 := ((Upd.refl [cg] wr).drewN 1).trans hu6
            have U6 := hide hu6'; have M6 := hide hm6
            have hbl6 := hu6'.get FT5.out.blk (by simpa using FT5.out.nes.2)
            have B6 := hide hbl6
            clear hm6 hu6 hr6 hr6'
            refine hK _ _ (hu6') ?_
            clear hK K
            try simp only [Act.put, List.setIfInBounds_toArray, List.set_cons_succ, List.set_cons_zero]
            unfold wpSeq
            clear hu6'
            have p3 : w6.cell? ⟨p, 3, none⟩ = some (.int .i64 (f.top : Int)) := blk_cell hbl6 rfl
            have f3 : w6.frozen? ⟨p, 3, none⟩ = false := blk_free hbl6
            clear hbl6
            go_wp2_with fail
            go_ret
            have hfw := HFW.out
            have hll := HLL.out
            have hmx : max (f.top : Int) ((W : Int) + 1) = ((max f.top (W + 1) : Nat) : Int) := by omega
            have hbs := blk_set (i := 3) B6.out (.int .i64 (max (f.top : Int) ((W : Int) + 1)))
            simp only [List.setIfInBounds_toArray, List.set_cons_succ, List.set_cons_zero] at hbs
            have hus : Upd [p] w6 (w6.setCell ⟨p, 3, none⟩ (.int .i64 (max (f.top : Int) ((W : Int) + 1)))) := (Upd.refl [p] w6).setCell (p := ⟨p, 3, none⟩) (.inl (by simp)) _
            have hn := FT5.out.nes
            refine ⟨by show Ending.returned (Value.int .i64 (W : Int)) = _; rw [hfw], ⟨?_, ?_, ?_, FT5.out.ne⟩, ?_⟩
            · show _ = some (Obj.cells #[.map (some kg), .map (some cg), .int .i64 (((if loneM c then ftW f c + 1 else f.lone) : Nat) : Int), .int .i64 ((max f.top (ftW f c + 1) : Nat) : Int)] 208 (0, 0))
              rw [hfw, hll, hbs, hmx]
            · simp only [ftNext, hfw, HSK.out]; exact MapKind.is_upd (MapKind.is_upd FT5.out.ks U6.out (by simpa using FT5.out.ne)) hus (by simpa using fun e => hn.1 e.symm)
            · simp only [ftNext, hfw]; exact MapKind.is_upd M6.out hus (by simpa using fun e => hn.2 e.symm)
            · exact (((Ut.out.mono (by simp)).trans (U4.out.mono (by simp))).trans (U6.out.mono (by simp))).trans (hus.mono (by simp))
      · rw [Bool.not_eq_true] at hL
        rw [hL]
        go_wp2_with fail
        obtain ⟨W, hW⟩ : ∃ W, wvMax f.ks sk m0 = W := ⟨_, rfl⟩
        rw [hW]
        obtain ⟨L, hLe⟩ : ∃ L, f.lone = L := ⟨_, rfl⟩
        have hWt : W ≤ f.top := by
          have := OK.out.w (c := c)
          unfold ftW at this
          rw [hL, HSK.out, HM0.out, hW] at this
          simpa using this
        have FT4 : Hid (FtIs w3 p kg cg ⟨f.ks, f.cs, L, f.top⟩) := hide (by rw [← hLe]; exact FT3.out)
        have Ut : Hid (Upd [p] w w3) := hide (U3.out.mono (by simp))
        have CBt := CB3
        have HX4 := hide (strs_far (kg := kg) HXS3.out (fun q ht e => by have := ht.1; omega))
        have HFW : Hid (ftW f c = W) := hide (by unfold ftW; rw [hL, HSK.out, HM0.out, hW]; rfl)
        have HLL : Hid ((if loneM c then W + 1 else f.lone) = L) := hide (by rw [hL, ← hLe]; rfl)
        clear hW hLe p2 p3 f2 CB3
        obtain ⟨wt, hwt⟩ : ∃ wt, wt = w3 := ⟨_, rfl⟩
        subst hwt
        go_loopw [53] (fun si wr => ∃ i : Nat, i ≤ sk.length ∧ si = .int .i64 i ∧ FtIs wr p kg cg ⟨wvPut f.ks (sk.take i) (W + 1), f.cs, L, f.top⟩ ∧ Upd [kg] wt wr ∧ (wvPut f.ks (sk.take i) (W + 1)).length ≤ f.ks.length + i) (fun si _ => sk.length - (RowKit.intOf si).toNat)
        case atStart => exact ⟨0, by omega, rfl, FT4.out, Upd.refl _ _, Nat.le_refl _⟩
        case round =>
          obtain ⟨i, hi, rfl, hft, hur, hln⟩ := hrel
          have hb1 := HBB.out.1
          have hb2 : sk.length ≤ 100000 := HBB.out.2.1
          by_cases hlt : i < sk.length
          · have d7 : decide ((i : Int) < sk.length) = true := by simp; omega
            have d7' : decide (i < sk.length) = true := by simpa using hlt
            obtain ⟨k, hk⟩ : ∃ k, sk[i]? = some k := ⟨_, List.getElem?_eq_getElem hlt⟩
            obtain ⟨bk, fy, rfl, hbk, hcy0⟩ := HX4.out i k hk
            have hcy := hcy0 wr hur
            have q0 : wr.cell? ⟨p, 0, none⟩ = some (.map (some kg)) := blk_cell hft.blk rfl
            obtain ⟨w', hr, hm, hu'⟩ := ft_putk (v := W + 1) hft.ks (HKS.out k (List.mem_of_getElem? hk)) (show (wvPut f.ks (sk.take i) (W + 1)).length ≤ 1000000 by omega) (Upd.refl [kg] wr)
            have hr' : (Instr.mapUpdate 205 (.map (some kg)) (.string (strOf k)) (.int .i64 ((W : Int) + 1))).run Tryz.prog wr = .ok () w' := hr
            have hstep : wvPut f.ks (sk.take (i + 1)) (W + 1) = mput strK (wvPut f.ks (sk.take i) (W + 1)) k (W + 1) := by
              unfold wvPut
              rw [List.take_add_one, hk, List.foldl_append]
              rfl
            have hpl' := len_put_le (K := strK) (l := wvPut f.ks (sk.take i) (W + 1)) (k := k) (v := W + 1)
            have hn := hft.nes
            have hbk' : w'.heap[p]? = some (.cells #[.map (some kg), .map (some cg), .int .i64 (L : Int), .int .i64 (f.top : Int)] 208 (0, 0)) := hu'.get hft.blk (by simpa using hn.1)
            have hcs' : wcK.is w' cg f.cs := MapKind.is_upd hft.cs hu' (by simpa using fun e => hft.ne e.symm)
            have E1 := hide hstep; have E2 := hide hpl'; have E3 := hide hbk'; have E4 := hide hcs'; have E5 := hide hm; have E6 := hide (hur.trans hu'); have E7 := hide hft.ne
            clear hstep hpl' hbk' hcs' hm hu' hur hn hft
            go_wp2_with fail
            go_round
            case rel => exact ⟨i + 1, by omega, by go_num, ⟨E3.out, by rw [E1.out]; exact E5.out, E4.out, E7.out⟩, E6.out, by rw [E1.out]; have := E2.out; omega⟩
            case measure => simp [RowKit.intOf]; omega
          · have d7 : decide ((i : Int) < sk.length) = false := by simp; omega
            have d7' : decide (i < sk.length) = false := by simpa using hlt
            have hie : i = sk.length := by omega
            subst hie
            rw [List.take_length] at hft hln
            go_upto_region 16 with fail
            have CB4 := hide (hur.get CBt.out (by have := KB.out; simp; omega)); have FT5 := hide hft; have U4 := hide hur
            clear hur
            refine wp_region_seq fpOps16 (by kernel_rfl) [8] (Upd [cg] wr) (by kernel_rfl) (by kernel_rfl) (fun _ _ d _ _ h => by cases d <;> exact h) ((Upd.refl _ _).drewN 1) ?_
            refine wpSeq_take (by kernel_rfl) (by kernel_rfl) ?_
            apply Exists.intro
            refine ⟨fun wx hS => ?_, fun a' ha => ?_⟩
            · go_simp; rfl
            simp only [Act.put, List.setIfInBounds_toArray, List.set_cons_succ, List.set_cons_zero] at ha
            subst ha
            refine wpSeq_take (by kernel_rfl) (by kernel_rfl) ?_
            apply Exists.intro
            refine ⟨fun wx hS => ?_, fun a' ha => ?_⟩
            · go_simp; rfl
            simp only [Act.put, List.setIfInBounds_toArray, List.set_cons_succ, List.set_cons_zero] at ha
            subst ha
            refine wpSeq_take (by kernel_rfl) (by kernel_rfl) ?_
            apply Exists.intro
            refine ⟨fun wx hS => ?_, fun a' ha => ?_⟩
            · go_simp; rfl
            simp only [Act.put, List.setIfInBounds_toArray, List.set_cons_succ, List.set_cons_zero] at ha
            subst ha
            refine wpSeq_take (by kernel_rfl) (by kernel_rfl) ?_
            apply Exists.intro
            refine ⟨fun wx hS => ?_, fun a' ha => ?_⟩
            · have c0 : wx.cell? ⟨p, 1, none⟩ = some (.map (some cg)) := blk_cell (hS.get FT5.out.blk (by have := FT5.out.nes.2; simpa using this)) rfl; go_simp; rfl
            simp only [Act.put, List.setIfInBounds_toArray, List.set_cons_succ, List.set_cons_zero] at ha
            subst ha
            refine wpSeq_take (by kernel_rfl) (by kernel_rfl) ?_
            apply Exists.intro
            refine ⟨fun wx hS => ?_, fun a' ha => ?_⟩
            · go_simp; rfl
            simp only [Act.put, List.setIfInBounds_toArray, List.set_cons_succ, List.set_cons_zero] at ha
            subst ha
            refine wpSeq_take (by kernel_rfl) (by kernel_rfl) ?_
            apply Exists.intro
            refine ⟨fun wx hS => ?_, fun a' ha => ?_⟩
            · obtain ⟨b0, b1, b2, b3, b4, b5, b6⟩ := cell7 (hS.get CB4.out (by have := KB.out; simp; omega)); go_simp; rfl
            simp only [Act.put, List.setIfInBounds_toArray, List.set_cons_succ, List.set_cons_zero] at ha
            subst ha
            refine wpSeq_take (by kernel_rfl) (by kernel_rfl) ?_
            apply Exists.intro
            refine ⟨fun wx hS => ?_, fun a' ha => ?_⟩
            · go_simp; rfl
            simp only [Act.put, List.setIfInBounds_toArray, List.set_cons_succ, List.set_cons_zero] at ha
            subst ha
            refine wpSeq_take (by kernel_rfl) (by kernel_rfl) ?_
            apply Exists.intro
            refine ⟨fun wx hS => ?_, fun a' ha => ?_⟩
            · go_simp; rfl
            simp only [Act.put, List.setIfInBounds_toArray, List.set_cons_succ, List.set_cons_zero] at ha
            subst ha
            refine wpSeq_one (by kernel_rfl) (by kernel_rfl) (fun K hK => ?_)
            obtain ⟨w6, hr6, hm6, hu6⟩ := ft_put (k := c.client) (v := W + 1) (MapKind.is_upd_nil FT5.out.cs ((Upd.refl [] wr).drewN 1)) FIT.out.1 (show f.cs.length ≤ 1000000 by have := HBB.out.2.2; omega) (Upd.refl [cg] (wr.drewN 1))
            have hr6' : (Instr.mapUpdate 206 (.map (some cg)) (.int .u32 (c.client : Int)) (.int .i64 ((W : Int) + 1))).run Tryz.prog (wr.drewN 1) = .ok () w6 := hr6
            have hwr : IntKind.i64.wrap ((W : Int) + 1) = (W : Int) + 1 := by
              have hw1 : (W : Int) + 1 < 9223372036854775808 := by omega
              first | (rw [IntKind.wrap_i64]; unfold wrap64; omega) | (rw [IntKind.wrap_i64] <;> omega) | (simp only [IntKind.wrap]; unfold wrap64; omega) | (simp only [IntKind.wrap, IntKind.i64]; omega)
            go_simp
            have hu6' : Upd [cg] wr w6 := ((Upd.refl [cg] wr).drewN 1).trans hu6
            have U6 := hide hu6'; have M6 := hide hm6
            have hbl6 := hu6'.get FT5.out.blk (by simpa using FT5.out.nes.2)
            have B6 := hide hbl6
            clear hm6 hu6 hr6 hr6'
            refine hK _ _ (hu6') ?_
            clear hK K
            try simp only [Act.put, List.setIfInBounds_toArray, List.set_cons_succ, List.set_cons_zero]
            unfold wpSeq
            clear hu6'
            have p3 : w6.cell? ⟨p, 3, none⟩ = some (.int .i64 (f.top : Int)) := blk_cell hbl6 rfl
            have f3 : w6.frozen? ⟨p, 3, none⟩ = false := blk_free hbl6
            clear hbl6
            go_wp2_with fail
            go_ret
            have hfw := HFW.out
            have hll := HLL.out
            have hmx : max (f.top : Int) ((W : Int) + 1) = ((max f.top (W + 1) : Nat) : Int) := by omega
            have hbs := blk_set (i := 3) B6.out (.int .i64 (max (f.top : Int) ((W : Int) + 1)))
            simp only [List.setIfInBounds_toArray, List.set_cons_succ, List.set_cons_zero] at hbs
            have hus : Upd [p] w6 (w6.setCell ⟨p, 3, none⟩ (.int .i64 (max (f.top : Int) ((W : Int) + 1)))) := (Upd.refl [p] w6).setCell (p := ⟨p, 3, none⟩) (.inl (by simp)) _
            have hn := FT5.out.nes
            refine ⟨by show Ending.returned (Value.int .i64 (W : Int)) = _; rw [hfw], ⟨?_, ?_, ?_, FT5.out.ne⟩, ?_⟩
            · show _ = some (Obj.cells #[.map (some kg), .map (some cg), .int .i64 (((if loneM c then ftW f c + 1 else f.lone) : Nat) : Int), .int .i64 ((max f.top (ftW f c + 1) : Nat) : Int)] 208 (0, 0))
              rw [hfw, hll, hbs, hmx]
            · simp only [ftNext, hfw, HSK.out]; exact MapKind.is_upd (MapKind.is_upd FT5.out.ks U6.out (by simpa using FT5.out.ne)) hus (by simpa using fun e => hn.1 e.symm)
            · simp only [ftNext, hfw]; exact MapKind.is_upd M6.out hus (by simpa using fun e => hn.2 e.symm)
            · exact (((Ut.out.mono (by simp)).trans (U4.out.mono (by simp))).trans (U6.out.mono (by simp))).trans (hus.mono (by simp))
end Go.Proofs.YthpnnffogbjhpaaGreatDoor.Kv
