/- translate.parted. -/
import Derived.Test.YtfmaflaoplkdbaaGreatDoorTrXc
set_option linter.unusedSimpArgs false
set_option linter.unusedVariables false
set_option linter.unnecessarySimpa false
namespace Go.Proofs.YtfmaflaoplkdbaaGreatDoor.Tr
open Go.RowKit Go.Proofs.YtfmaflaoplkdbaaGreatDoor.Crc Go.Proofs.YtfmaflaoplkdbaaGreatDoor.Cm Go.Proofs.YtfmaflaoplkdbaaGreatDoor.Var

theorem cutZ_zero (z : Nat) (xo : Option Addr) (c : Nat) : cutZ z xo 0 c = xo := by
  unfold cutZ
  split
  · rfl
  · cases xo with
    | none => rfl
    | some a => simp [Addr.add]
section
variable {P : Program} (t e : TypeId) (z : Nat) (ht : P.underlying t = some (.slice e)) (hz : ∀ w, (sizeOf e).run P w = .ok z w) (xo : Option Addr) (m c : Nat)
include ht hz
theorem run_cutz_l (l : Nat) (i : Int) (hi : i = l) (h : l ≤ m) (w : World) : (Instr.slice t (.slice xo m c) (some (.int .i64 i)) none none).run P w = .ok (.slice (cutZ z xo l c) (m - l) (c - l)) w := by
  subst hi
  have hel : P.elem t = e := by simp [Program.elem, ht]
  rw [run_slice_l (P := P) w t xo m c (by rw [hel]; exact ht) .i64 l (by omega) (by omega), hel, hz]
  simp [Result.andThen, sliced, cutZ]
theorem run_cutz_lh (l h : Nat) (i j : Int) (hi : i = l) (hj : j = h) (h1 : l ≤ h) (h2 : h ≤ c) (w : World) : (Instr.slice t (.slice xo m c) (some (.int .i64 i)) (some (.int .i64 j)) none).run P w = .ok (.slice (cutZ z xo l c) (h - l) (c - l)) w := by
  subst hi; subst hj
  have hel : P.elem t = e := by simp [Program.elem, ht]
  rw [run_slice_lh (P := P) w t xo m c (by rw [hel]; exact ht) .i64 .i64 l h (by omega) (by omega) (by omega), hel, hz]
  simp [Result.andThen, sliced, cutZ]
theorem run_cutz_h (h : Nat) (j : Int) (hj : j = h) (h2 : h ≤ c) (w : World) : (Instr.slice t (.slice xo m c) none (some (.int .i64 j)) none).run P w = .ok (.slice xo h c) w := by
  subst hj
  have hel : P.elem t = e := by simp [Program.elem, ht]
  rw [run_slice_h (P := P) w t xo m c (by rw [hel]; exact ht) .i64 h (by omega) (by omega), hel, hz]
  have := cutZ_zero z xo c
  simp only [cutZ] at this
  simp [Result.andThen, sliced]
  rw [← this]
  split <;> simp_all
end
theorem sizeA : ∀ w, (sizeOf 39).run Tryz.prog w = .ok 4 w := fun w => by kernel_rfl
theorem infoL : (Tryz.prog.info? 118).map (fun i => (i.zero, i.size, i.bytes)) = some (some (.agg #[.int .u64 0, .slice none 0 0, .slice none 0 0]), 3, 56) := by kernel_rfl
theorem slc_src {w : World} {b : Nat} {x y u : Value} {t : TypeId} (h : w.heap[b]? = some (.cells #[x, y, u] t (0, 0))) (hx : x.oneCell' = true) (hy : y.oneCell' = true) (hu : u.oneCell' = true) : SrcAt w (some ⟨b, 0, none⟩) 1 1 [x, y, u] 3 := by
  refine ⟨rfl, ?_, by simp, fun a e j v hj => ?_⟩
  · intro v hv
    simp only [List.mem_cons, List.not_mem_nil, or_false] at hv
    rcases hv with rfl | rfl | rfl <;> assumption
  · cases e
    have hplain : (⟨b, 0, none⟩ : Addr).add j = ⟨b, j, none⟩ := by unfold Addr.add; split <;> simp_all
    rw [hplain]
    simp only [World.cell?, h]
    simpa using hj
theorem partedM_more {ds : List Dn} {left : List An} {k : Nat} {d : Dn} (h : ds[k]? = some d) : partedM (ds.take k) left ++ [⟨d.1, (parseM d.2).1, (left.drop (ate (ds.take k))).take (parseM d.2).1.length⟩] = partedM (ds.take (k + 1)) left := by
  obtain ⟨hlt, e⟩ := List.getElem?_eq_some_iff.1 h
  rw [List.take_succ_eq_append_getElem hlt, partedM_append, e]
  simp [partedM]
theorem ate_more {ds : List Dn} {k : Nat} {d : Dn} (h : ds[k]? = some d) : ate (ds.take (k + 1)) = ate (ds.take k) + (parseM d.2).1.length := by
  obtain ⟨hlt, e⟩ := List.getElem?_eq_some_iff.1 h
  rw [List.take_succ_eq_append_getElem hlt, ate_append, e]
  simp [ate]
theorem beside_le {base : Nat} {w w' : World} {v : Value} (h : w.heap.size ≤ w'.heap.size) : ∀ k, beside base w v k → beside base w' v k := fun k hk => ⟨hk.1, Nat.lt_of_lt_of_le hk.2.1 h, hk.2.2⟩
set_option maxRecDepth 100000 in
set_option maxHeartbeats 4000000 in
theorem parted_any {T : Nat → Prop} {r e n : Int} {va vd : Value} {ds : List Dn} {an : List An} (w : World) (hcnt : CntAt w) (ha : anK.row w T va an) (hd : dnK.row w T vd ds) (hdl : ds.length ≤ 1000) (hal : an.length ≤ 1000000) (hbl : ∀ d ∈ ds, d.2.length ≤ 1000000000000) :
    Calls Tryz.prog 59 #[.agg #[.int .i64 r, .int .i64 e, .int .i64 n, va, vd]] w fun e w' => (∃ v', e = .returned v' ∧ slK.row w' (since w.heap.size w') v' (partedM ds an)) ∧ Upd [] w w' := by
  obtain ⟨xd, cd, rfl, hcd, hcm, hg⟩ := Row.get dnK.hz hd
  obtain ⟨xa, ca, rfl, hca, hcam⟩ := Row.slice ha
  have HG := hide hg; have HA := hide ha; have HBL := hide hbl; have HC := hide hcnt
  simp only [maxLen] at hcm
  clear ha hd hg hbl hcnt
  obtain ⟨i1, hi1, iz0, iz1, iz2⟩ := info_parts infoL
  go_enter Tryz.func59, Tryz.ntmps59
  go_wp2_with fail
  go_loopw [3, 4, 15] (fun so sl si wr => ∃ (k : Nat) (L : List Sl) (R : List An), L = partedM (ds.take k) an ∧ R = an.drop (ate (ds.take k)) ∧ L.length = k ∧ k ≤ ds.length ∧ si = .int .i64 k ∧ anK.row w T sl R ∧ slK.bag 118 wr (w.heap.size + 1) so L ∧ w.heap.size < wr.heap.size ∧ Upd [] w wr) (fun _ _ si _ => ds.length - (intOf si).toNat)
  case atStart => exact ⟨0, [], an, rfl, rfl, rfl, by omega, rfl, HA.out, slK.bag_nil _ _ _, by simp, (Upd.refl _ _).alloc _⟩
  case round =>
    obtain ⟨k, L, R, hL, hR, hLl, hk, rfl, hr, hbg, hz, hu⟩ := hrel
    have HLK := hide hL; have HRK := hide hR; have HLL := hide hLl; have HR := hide hr
    have hRl : R.length ≤ 1000000 := by rw [hR, List.length_drop]; omega
    clear hL hR hLl
    have HBG := hide hbg; have HU := hide hu
    clear hu
    obtain ⟨ao, cap, rfl, hc1, hc2⟩ := Row.slice (slK.bag_row hbg)
    obtain ⟨lo, lc, rfl, hl1, hl2⟩ := Row.slice hr
    by_cases hlt : k < ds.length
    · have d5 : decide ((k : Int) < ds.length) = true := by simp; omega
      have d5' : decide (k < ds.length) = true := by simpa using hlt
      obtain ⟨d, hi⟩ : ∃ d, ds[k]? = some d := ⟨_, List.getElem?_eq_getElem hlt⟩
      have hbk := HBL.out d (List.mem_of_getElem? hi)
      have htk := partedM_more (left := an) hi
      have hak := ate_more hi
      rw [← HLK.out, ← HRK.out] at htk
      have hol2 := Own.lt hbg
      obtain ⟨b, off, cs, rfl, hb, hTb, ⟨hslot, v1, rfl, yo, ym, yc, rfl, hsb, hyc, hycm, -⟩, -, hcell⟩ := HG.out k d hi
      have cx : ∀ j u, ([Value.int .u64 (d.1 : Int), .slice yo ym yc] : List Value)[j]? = some u → wr.cell? ⟨b, off + k * 2 + j, none⟩ = some u := fun j u hj => by
        refine Eq.trans ?_ (hcell j u hj); show _ = w.cell? ⟨b, off + k * 2 + j, none⟩; have := HU.out.block b hb (by simp); simp only [World.cell?, this]
      have y0 : wr.cell? ⟨b, off + k * 2, none⟩ = some (.int .u64 (d.1 : Int)) := cx 0 _ rfl
      have y1 : wr.cell? ⟨b, off + k * 2 + 1, none⟩ = some (.slice yo ym yc) := cx 1 _ rfl
      have HOL := hide hol2; have HTK := hide htk; have HAK := hide hak; have HSB := hide hsb
      clear hbg hol2 htk hak hsb hr hi cx hcell
      go_wp2_with fail
      have hD := blk_new wr (.cells #[.int .u64 (d.1 : Int), .slice yo ym yc] 34)
      have hA := (Upd.refl [] wr).alloc (.cells #[.int .u64 (d.1 : Int), .slice yo ym yc] 34)
      generalize wr.alloc (.cells #[.int .u64 (d.1 : Int), .slice yo ym yc] 34) = w0 at *
      refine (parse_any (bs := d.2) w0 (HC.out.upd_nil (HU.out.trans hA)) (src_upd_nil HSB.out (HU.out.trans hA)) hyc hbk).mono ?_
      obtain ⟨pl, pe, hpm⟩ : ∃ pl pe, parseM d.2 = (pl, pe) := ⟨_, _, rfl⟩
      have hpl := (parseM_says d.2).1
      have htk := HTK.out; have hak := HAK.out
      rw [hpm] at hpl htk hak ⊢
      simp only at hpl htk hak ⊢
      rintro e w1 ⟨⟨v', rfl, hr1⟩, hu1⟩
      obtain ⟨pa, pc, rfl, hpc, hpcm⟩ := Row.slice hr1
      have hD1 := hu1.get hD (by simp)
      have hDlt := blk_lt hD
      have hs1 := hu1.size
      have hA1 := hA.trans hu1
      have TK := hide htk; have AK := hide hak; have D1 := hide hD1; have R1 := hide hr1; have U1 := hide (HU.out.trans hA1); have A1 := hide hA1
      have c0 : w1.cell? ⟨wr.heap.size, 0, none⟩ = some (.int .u64 (d.1 : Int)) := blk_cell D1.out rfl
      clear hpm hA hu1 hD hD1 hr1 hA1 htk hak HTK HAK y0 y1
      by_cases hm : R.length < pl.length
      · have hmi : (R.length : Int) < (pl.length : Int) := by omega
        have hsl := run_cutz_h (P := Tryz.prog) 46 39 4 Tryz.underlying46 sizeA lo R.length lc R.length R.length rfl (by omega)
        have hsl2 := run_cutz_l (P := Tryz.prog) 46 39 4 Tryz.underlying46 sizeA lo R.length lc R.length R.length rfl (by omega)
        go_wp2_with fail
        have R2 : anK.row (w1.drewN 1) T (.slice lo R.length lc) (R.take R.length) := by
          have := Row.cut (lo := 0) (hi := R.length) (q := lc) (anK.row_upd_nil HR.out (U1.out.drewN 1)) (by omega) (by omega) (by omega) (Nat.le_refl _)
          rw [cutZ_zero] at this
          exact this
        have R3 : anK.row w T (.slice (cutZ 4 lo R.length lc) (R.length - R.length) (lc - R.length)) (R.drop R.length) := by
          have := Row.cut (lo := R.length) (hi := R.length) (q := lc) HR.out (by omega) (by omega) (by omega) (Nat.le_refl _)
          rw [List.take_of_length_le (by rw [List.length_drop]; omega)] at this
          exact this
        have RTl : (R.take R.length).length * 32 ≤ 140737488355328 := by rw [List.length_take]; omega
        have hRT1 : R.take R.length = R.take pl.length := by first | rfl | (rw [List.take_length, List.take_of_length_le (by omega)])
        have hRD1 : R.drop R.length = R.drop pl.length := by first | rfl | (rw [List.drop_length, List.drop_eq_nil_of_le (by omega)])
        obtain ⟨RT, hRT⟩ : ∃ RT, R.take R.length = RT := ⟨_, rfl⟩
        rw [hRT] at R2 RTl
        have hRT2 := hRT.symm.trans hRT1
        have HR2 := hide R2; have HR3 := hide R3; have HRT := hide hRT2; have HRD := hide hRD1
        clear R2 R3 hRT hRT1 hRT2 hRD1
        refine wp_region_z (fun w' => w'.cell? ⟨wr.heap.size, 0, none⟩ = some (.int .u64 (d.1 : Int))) 99 (by kernel_rfl) ?_
        refine wpAnyZ_takeE 0 rfl (by kernel_rfl) (by kernel_rfl) (by kernel_rfl) (by kernel_rfl) (fun _ _ _ _ h => h) rfl (by exact c0) ?_
        apply Exists.intro
        refine ⟨fun wx hS => ?_, ?_⟩
        · have s0 := hS; go_simp; rfl
        simp only [Act.put, List.setIfInBounds_toArray, List.set_cons_succ, List.set_cons_zero, List.getElem_toArray, List.getElem_cons_zero]
        refine wpAnyZ_takeE 1 rfl (by kernel_rfl) (by kernel_rfl) (by kernel_rfl) (by kernel_rfl) (fun _ _ _ _ h => h) rfl (by exact c0) ?_
        apply Exists.intro
        refine ⟨fun wx hS => ?_, ?_⟩
        · have s0 := hS; go_simp; rfl
        simp only [Act.put, List.setIfInBounds_toArray, List.set_cons_succ, List.set_cons_zero, List.getElem_toArray, List.getElem_cons_succ, List.getElem_cons_zero]
        refine wpAnyZ_takeE 2 rfl (by kernel_rfl) (by kernel_rfl) (by kernel_rfl) (by kernel_rfl) (fun _ _ _ _ h => h) rfl (by exact c0) ?_
        apply Exists.intro
        refine ⟨fun wx hS => ?_, ?_⟩
        · have s0 := hS; go_simp; rfl
        simp only [Act.put, List.setIfInBounds_toArray, List.set_cons_succ, List.set_cons_zero, List.getElem_toArray, List.getElem_cons_succ, List.getElem_cons_zero]
        refine wpAnyZ_takeE 3 rfl (by kernel_rfl) (by kernel_rfl) (by kernel_rfl) (by kernel_rfl) (fun _ _ _ _ h => h) rfl (by exact c0) ?_
        apply Exists.intro
        refine ⟨fun wx hS => ?_, ?_⟩
        · have s0 := hS; go_simp; rfl
        simp only [Act.put, List.setIfInBounds_toArray, List.set_cons_succ, List.set_cons_zero, List.getElem_toArray, List.getElem_cons_succ, List.getElem_cons_zero]
        refine wpAnyZ_takeE 4 rfl (by kernel_rfl) (by kernel_rfl) (by kernel_rfl) (by kernel_rfl) (fun _ _ _ _ h => h) rfl (by exact c0) ?_
        apply Exists.intro
        refine ⟨fun wx hS => ?_, ?_⟩
        · have s0 := hS; go_simp; rfl
        simp only [Act.put, List.setIfInBounds_toArray, List.set_cons_succ, List.set_cons_zero, List.getElem_toArray, List.getElem_cons_succ, List.getElem_cons_zero]
        refine wpAnyZ_takeE 5 rfl (by kernel_rfl) (by kernel_rfl) (by kernel_rfl) (by kernel_rfl) (fun _ _ _ _ h => h) rfl (by exact c0) ?_
        apply Exists.intro
        refine ⟨fun wx hS => ?_, ?_⟩
        · have s0 := hS; go_simp; rfl
        simp only [Act.put, List.setIfInBounds_toArray, List.set_cons_succ, List.set_cons_zero, List.getElem_toArray, List.getElem_cons_succ, List.getElem_cons_zero]
        refine wpAnyZ_takeE 6 rfl (by kernel_rfl) (by kernel_rfl) (by kernel_rfl) (by kernel_rfl) (fun _ _ _ _ h => h) rfl (by exact c0) ?_
        apply Exists.intro
        refine ⟨fun wx hS => ?_, ?_⟩
        · have s0 := hS; go_simp; rfl
        simp only [Act.put, List.setIfInBounds_toArray, List.set_cons_succ, List.set_cons_zero, List.getElem_toArray, List.getElem_cons_succ, List.getElem_cons_zero]
        refine wpAnyZ_one 7 (by kernel_rfl) rfl rfl (fun K hK => ?_)
        try simp only [List.getElem_toArray, List.getElem_cons_succ, List.getElem_cons_zero]
        go_simp
        refine (clonea_any _ HR2.out RTl).mono ?_
        rintro e w3 ⟨⟨v', rfl, hr3⟩, hu3'⟩
        obtain ⟨ra, rc, rfl, -, -⟩ := Row.slice hr3
        have hu3 := ((Upd.refl [] w1).drewN 1).trans hu3'
        have hD3 := hu3.get D1.out (by simp)
        have c3 : w3.cell? ⟨wr.heap.size, 0, none⟩ = some (.int .u64 (d.1 : Int)) := blk_cell hD3 rfl
        have c4 : (w3.alloc (.cells #[.int .u64 (d.1 : Int), .slice pa pl.length pc, .slice ra RT.length rc] 118)).cell? ⟨wr.heap.size, 0, none⟩ = some (.int .u64 (d.1 : Int)) := blk_cell (blk_alloc hD3 _) rfl
        have hal := (Upd.refl [] w3).alloc (.cells #[.int .u64 (d.1 : Int), .slice pa pl.length pc, .slice ra RT.length rc] 118)
        have hD4 := hal.get hD3 (by simp)
        have hz3 := hu3.size
        have hz3' : w1.heap.size ≤ w3.heap.size := hz3
        have hw01 : wr.heap.size ≤ w0.heap.size := by omega
        have hol : ∀ k, (Value.slice ao L.length cap).ownBlock = some k → k < w0.heap.size := fun g hg => by have := (HOL.out g hg).2; omega
        have hol1 : ∀ k, (Value.slice ao L.length cap).ownBlock = some k → k < (w1.drewN 1).heap.size := fun g hg => by have := (HOL.out g hg).2; have : (w1.drewN 1).heap.size = w1.heap.size := rfl; omega
        have hcm' := cmK.row_upd_nil (cmK.row_mono R1.out (since_beside (base := w.heap.size + 1) hol (by omega))) (hu3.trans hal)
        have han' := anK.row_upd_nil (anK.row_mono hr3 (since_beside (base := w.heap.size + 1) hol1 (by have : (w1.drewN 1).heap.size = w1.heap.size := rfl; omega))) hal
        have hks6 : slK.holds (w3.alloc (.cells #[.int .u64 (d.1 : Int), .slice pa pl.length pc, .slice ra RT.length rc] 118)) (beside (w.heap.size + 1) (w3.alloc (.cells #[.int .u64 (d.1 : Int), .slice pa pl.length pc, .slice ra RT.length rc] 118)) (.slice ao L.length cap)) ⟨d.1, pl, RT⟩ [.int .u64 (d.1 : Int), .slice pa pl.length pc, .slice ra RT.length rc] :=
          ⟨hslot, _, _, rfl, cmK.row_mono hcm' (beside_le (Nat.le_trans hz3 hal.size)), anK.row_mono han' (beside_le hal.size)⟩
        obtain ⟨css, hcss, hrow⟩ := slK.bag_open (slK.bag_upd_nil (slK.bag_upd_nil (slK.bag_upd_nil HBG.out A1.out) hu3) hal)
        have hzz : w.heap.size + 1 ≤ w3.heap.size + 1 := by omega
        have hLk : L.length ≤ 1000 := by have := HLL.out; omega
        have HKS := hide hks6; have HCSS := hide hcss; have HROW := hide hrow; have U3 := hide (U1.out.trans hu3); have D4 := hide hD4
        clear hks6 hcss hrow hcm' han' hu3 hu3' hD3 hr3 HBG HU hD4 hal HR2 HR D1 R1 A1 U1
        refine hK _ _ (.inr c3) ?_
        clear hK K
        try simp only [Act.put, List.setIfInBounds_toArray, List.set_cons_succ, List.set_cons_zero]
        refine wpAnyZ_one 8 (by kernel_rfl) rfl rfl (fun K hK => ?_)
        try simp only [List.getElem_toArray, List.getElem_cons_succ, List.getElem_cons_zero]
        go_simp
        refine hK _ _ (.inr c3) ?_
        clear hK K
        try simp only [Act.put, List.setIfInBounds_toArray, List.set_cons_succ, List.set_cons_zero]
        refine wpAnyZ_one 9 (by kernel_rfl) rfl rfl (fun K hK => ?_)
        try simp only [List.getElem_toArray, List.getElem_cons_succ, List.getElem_cons_zero]
        go_simp
        refine hK _ _ (.inr c4) ?_
        clear hK K
        try simp only [Act.put, List.setIfInBounds_toArray, List.set_cons_succ, List.set_cons_zero]
        refine wpAnyZ_one 10 (by kernel_rfl) rfl rfl (fun K hK => ?_)
        try simp only [List.getElem_toArray, List.getElem_cons_succ, List.getElem_cons_zero]
        refine wp_append_src _ _ _ 56 rfl (w.heap.size + 1) 118 i1 (.agg #[.int .u64 0, .slice none 0 0, .slice none 0 0]) 3 56 Tryz.underlying56 hi1 iz0 iz1 iz2 rfl (by decide) (.slice ao L.length cap) L.length css.flatten rfl (by exact HROW.out) (some ⟨w3.heap.size, 0, none⟩) 1 1 [.int .u64 (d.1 : Int), .slice pa pl.length pc, .slice ra RT.length rc] rfl (slc_src (blk_new _ _) rfl rfl rfl) (by unfold maxLen; omega) (by omega) (by simp; omega) ?_
        intro ao6 cap6 w6 hown6 hU6 hn6
        have bg6 := Kind.bag_more HCSS.out HKS.out hown6 rfl hU6 (by simpa using hn6)
        have hU6' := grown_upd hU6
        have u6 := U3.out.trans_new hU6' (fun g hm => .inr (by have := HOL.out _ (by simpa using hm); omega))
        have hz6 : w.heap.size < w6.heap.size := by have := hU6'.size; omega
        have c6 : w6.cell? ⟨wr.heap.size, 0, none⟩ = some (.int .u64 (d.1 : Int)) := blk_cell (hU6.get D4.out (fun hm => by have := HOL.out _ (by simpa using hm); omega)) rfl
        have BG6 := hide bg6; have U6 := hide u6
        clear hown6 hU6 hU6' hn6 bg6 u6 c3 c4
        refine hK _ _ (.inr c6) ?_
        clear hK K
        try simp only [Act.put, List.setIfInBounds_toArray, List.set_cons_succ, List.set_cons_zero]
        refine wpAnyZ_one 11 (by kernel_rfl) rfl rfl (fun K hK => ?_)
        try simp only [List.getElem_toArray, List.getElem_cons_succ, List.getElem_cons_zero]
        go_simp
        refine hK _ _ (.inr c6) ?_
        clear hK K
        try simp only [Act.put, List.setIfInBounds_toArray, List.set_cons_succ, List.set_cons_zero]
        refine wpAnyZ_done (by kernel_rfl) ?_ _
        go_wp2_with fail
        go_roundw
        case rel =>
          refine ⟨k + 1, L ++ [⟨d.1, pl, RT⟩], R.drop R.length, by rw [HRT.out]; exact TK.out, by rw [HRD.out, AK.out, HRK.out, List.drop_drop], by simp; exact HLL.out, by omega, by go_num, ?_, BG6.out, hz6, U6.out⟩
          simpa using HR3.out
        case measure => simp [intOf]; omega
      · have hmi : ¬ (R.length : Int) < (pl.length : Int) := by omega
        have hsl := run_cutz_h (P := Tryz.prog) 46 39 4 Tryz.underlying46 sizeA lo R.length lc pl.length pl.length rfl (by omega)
        have hsl2 := run_cutz_l (P := Tryz.prog) 46 39 4 Tryz.underlying46 sizeA lo R.length lc pl.length pl.length rfl (by omega)
        go_wp2_with fail
        have R2 : anK.row (w1.drewN 1) T (.slice lo pl.length lc) (R.take pl.length) := by
          have := Row.cut (lo := 0) (hi := pl.length) (q := lc) (anK.row_upd_nil HR.out (U1.out.drewN 1)) (by omega) (by omega) (by omega) (Nat.le_refl _)
          rw [cutZ_zero] at this
          exact this
        have R3 : anK.row w T (.slice (cutZ 4 lo pl.length lc) (R.length - pl.length) (lc - pl.length)) (R.drop pl.length) := by
          have := Row.cut (lo := pl.length) (hi := R.length) (q := lc) HR.out (by omega) (by omega) (by omega) (Nat.le_refl _)
          rw [List.take_of_length_le (by rw [List.length_drop]; omega)] at this
          exact this
        have RTl : (R.take pl.length).length * 32 ≤ 140737488355328 := by rw [List.length_take]; omega
        have hRT1 : R.take pl.length = R.take pl.length := by first | rfl | (rw [List.take_length, List.take_of_length_le (by omega)])
        have hRD1 : R.drop pl.length = R.drop pl.length := by first | rfl | (rw [List.drop_length, List.drop_eq_nil_of_le (by omega)])
        obtain ⟨RT, hRT⟩ : ∃ RT, R.take pl.length = RT := ⟨_, rfl⟩
        rw [hRT] at R2 RTl
        have hRT2 := hRT.symm.trans hRT1
        have HR2 := hide R2; have HR3 := hide R3; have HRT := hide hRT2; have HRD := hide hRD1
        clear R2 R3 hRT hRT1 hRT2 hRD1
        refine wp_region_z (fun w' => w'.cell? ⟨wr.heap.size, 0, none⟩ = some (.int .u64 (d.1 : Int))) 99 (by kernel_rfl) ?_
        refine wpAnyZ_takeE 0 rfl (by kernel_rfl) (by kernel_rfl) (by kernel_rfl) (by kernel_rfl) (fun _ _ _ _ h => h) rfl (by exact c0) ?_
        apply Exists.intro
        refine ⟨fun wx hS => ?_, ?_⟩
        · have s0 := hS; go_simp; rfl
        simp only [Act.put, List.setIfInBounds_toArray, List.set_cons_succ, List.set_cons_zero, List.getElem_toArray, List.getElem_cons_zero]
        refine wpAnyZ_takeE 1 rfl (by kernel_rfl) (by kernel_rfl) (by kernel_rfl) (by kernel_rfl) (fun _ _ _ _ h => h) rfl (by exact c0) ?_
        apply Exists.intro
        refine ⟨fun wx hS => ?_, ?_⟩
        · have s0 := hS; go_simp; rfl
        simp only [Act.put, List.setIfInBounds_toArray, List.set_cons_succ, List.set_cons_zero, List.getElem_toArray, List.getElem_cons_succ, List.getElem_cons_zero]
        refine wpAnyZ_takeE 2 rfl (by kernel_rfl) (by kernel_rfl) (by kernel_rfl) (by kernel_rfl) (fun _ _ _ _ h => h) rfl (by exact c0) ?_
        apply Exists.intro
        refine ⟨fun wx hS => ?_, ?_⟩
        · have s0 := hS; go_simp; rfl
        simp only [Act.put, List.setIfInBounds_toArray, List.set_cons_succ, List.set_cons_zero, List.getElem_toArray, List.getElem_cons_succ, List.getElem_cons_zero]
        refine wpAnyZ_takeE 3 rfl (by kernel_rfl) (by kernel_rfl) (by kernel_rfl) (by kernel_rfl) (fun _ _ _ _ h => h) rfl (by exact c0) ?_
        apply Exists.intro
        refine ⟨fun wx hS => ?_, ?_⟩
        · have s0 := hS; go_simp; rfl
        simp only [Act.put, List.setIfInBounds_toArray, List.set_cons_succ, List.set_cons_zero, List.getElem_toArray, List.getElem_cons_succ, List.getElem_cons_zero]
        refine wpAnyZ_takeE 4 rfl (by kernel_rfl) (by kernel_rfl) (by kernel_rfl) (by kernel_rfl) (fun _ _ _ _ h => h) rfl (by exact c0) ?_
        apply Exists.intro
        refine ⟨fun wx hS => ?_, ?_⟩
        · have s0 := hS; go_simp; rfl
        simp only [Act.put, List.setIfInBounds_toArray, List.set_cons_succ, List.set_cons_zero, List.getElem_toArray, List.getElem_cons_succ, List.getElem_cons_zero]
        refine wpAnyZ_takeE 5 rfl (by kernel_rfl) (by kernel_rfl) (by kernel_rfl) (by kernel_rfl) (fun _ _ _ _ h => h) rfl (by exact c0) ?_
        apply Exists.intro
        refine ⟨fun wx hS => ?_, ?_⟩
        · have s0 := hS; go_simp; rfl
        simp only [Act.put, List.setIfInBounds_toArray, List.set_cons_succ, List.set_cons_zero, List.getElem_toArray, List.getElem_cons_succ, List.getElem_cons_zero]
        refine wpAnyZ_takeE 6 rfl (by kernel_rfl) (by kernel_rfl) (by kernel_rfl) (by kernel_rfl) (fun _ _ _ _ h => h) rfl (by exact c0) ?_
        apply Exists.intro
        refine ⟨fun wx hS => ?_, ?_⟩
        · have s0 := hS; go_simp; rfl
        simp only [Act.put, List.setIfInBounds_toArray, List.set_cons_succ, List.set_cons_zero, List.getElem_toArray, List.getElem_cons_succ, List.getElem_cons_zero]
        refine wpAnyZ_one 7 (by kernel_rfl) rfl rfl (fun K hK => ?_)
        try simp only [List.getElem_toArray, List.getElem_cons_succ, List.getElem_cons_zero]
        go_simp
        refine (clonea_any _ HR2.out RTl).mono ?_
        rintro e w3 ⟨⟨v', rfl, hr3⟩, hu3'⟩
        obtain ⟨ra, rc, rfl, -, -⟩ := Row.slice hr3
        have hu3 := ((Upd.refl [] w1).drewN 1).trans hu3'
        have hD3 := hu3.get D1.out (by simp)
        have c3 : w3.cell? ⟨wr.heap.size, 0, none⟩ = some (.int .u64 (d.1 : Int)) := blk_cell hD3 rfl
        have c4 : (w3.alloc (.cells #[.int .u64 (d.1 : Int), .slice pa pl.length pc, .slice ra RT.length rc] 118)).cell? ⟨wr.heap.size, 0, none⟩ = some (.int .u64 (d.1 : Int)) := blk_cell (blk_alloc hD3 _) rfl
        have hal := (Upd.refl [] w3).alloc (.cells #[.int .u64 (d.1 : Int), .slice pa pl.length pc, .slice ra RT.length rc] 118)
        have hD4 := hal.get hD3 (by simp)
        have hz3 := hu3.size
        have hz3' : w1.heap.size ≤ w3.heap.size := hz3
        have hw01 : wr.heap.size ≤ w0.heap.size := by omega
        have hol : ∀ k, (Value.slice ao L.length cap).ownBlock = some k → k < w0.heap.size := fun g hg => by have := (HOL.out g hg).2; omega
        have hol1 : ∀ k, (Value.slice ao L.length cap).ownBlock = some k → k < (w1.drewN 1).heap.size := fun g hg => by have := (HOL.out g hg).2; have : (w1.drewN 1).heap.size = w1.heap.size := rfl; omega
        have hcm' := cmK.row_upd_nil (cmK.row_mono R1.out (since_beside (base := w.heap.size + 1) hol (by omega))) (hu3.trans hal)
        have han' := anK.row_upd_nil (anK.row_mono hr3 (since_beside (base := w.heap.size + 1) hol1 (by have : (w1.drewN 1).heap.size = w1.heap.size := rfl; omega))) hal
        have hks6 : slK.holds (w3.alloc (.cells #[.int .u64 (d.1 : Int), .slice pa pl.length pc, .slice ra RT.length rc] 118)) (beside (w.heap.size + 1) (w3.alloc (.cells #[.int .u64 (d.1 : Int), .slice pa pl.length pc, .slice ra RT.length rc] 118)) (.slice ao L.length cap)) ⟨d.1, pl, RT⟩ [.int .u64 (d.1 : Int), .slice pa pl.length pc, .slice ra RT.length rc] :=
          ⟨hslot, _, _, rfl, cmK.row_mono hcm' (beside_le (Nat.le_trans hz3 hal.size)), anK.row_mono han' (beside_le hal.size)⟩
        obtain ⟨css, hcss, hrow⟩ := slK.bag_open (slK.bag_upd_nil (slK.bag_upd_nil (slK.bag_upd_nil HBG.out A1.out) hu3) hal)
        have hzz : w.heap.size + 1 ≤ w3.heap.size + 1 := by omega
        have hLk : L.length ≤ 1000 := by have := HLL.out; omega
        have HKS := hide hks6; have HCSS := hide hcss; have HROW := hide hrow; have U3 := hide (U1.out.trans hu3); have D4 := hide hD4
        clear hks6 hcss hrow hcm' han' hu3 hu3' hD3 hr3 HBG HU hD4 hal HR2 HR D1 R1 A1 U1
        refine hK _ _ (.inr c3) ?_
        clear hK K
        try simp only [Act.put, List.setIfInBounds_toArray, List.set_cons_succ, List.set_cons_zero]
        refine wpAnyZ_one 8 (by kernel_rfl) rfl rfl (fun K hK => ?_)
        try simp only [List.getElem_toArray, List.getElem_cons_succ, List.getElem_cons_zero]
        go_simp
        refine hK _ _ (.inr c3) ?_
        clear hK K
        try simp only [Act.put, List.setIfInBounds_toArray, List.set_cons_succ, List.set_cons_zero]
        refine wpAnyZ_one 9 (by kernel_rfl) rfl rfl (fun K hK => ?_)
        try simp only [List.getElem_toArray, List.getElem_cons_succ, List.getElem_cons_zero]
        go_simp
        refine hK _ _ (.inr c4) ?_
        clear hK K
        try simp only [Act.put, List.setIfInBounds_toArray, List.set_cons_succ, List.set_cons_zero]
        refine wpAnyZ_one 10 (by kernel_rfl) rfl rfl (fun K hK => ?_)
        try simp only [List.getElem_toArray, List.getElem_cons_succ, List.getElem_cons_zero]
        refine wp_append_src _ _ _ 56 rfl (w.heap.size + 1) 118 i1 (.agg #[.int .u64 0, .slice none 0 0, .slice none 0 0]) 3 56 Tryz.underlying56 hi1 iz0 iz1 iz2 rfl (by decide) (.slice ao L.length cap) L.length css.flatten rfl (by exact HROW.out) (some ⟨w3.heap.size, 0, none⟩) 1 1 [.int .u64 (d.1 : Int), .slice pa pl.length pc, .slice ra RT.length rc] rfl (slc_src (blk_new _ _) rfl rfl rfl) (by unfold maxLen; omega) (by omega) (by simp; omega) ?_
        intro ao6 cap6 w6 hown6 hU6 hn6
        have bg6 := Kind.bag_more HCSS.out HKS.out hown6 rfl hU6 (by simpa using hn6)
        have hU6' := grown_upd hU6
        have u6 := U3.out.trans_new hU6' (fun g hm => .inr (by have := HOL.out _ (by simpa using hm); omega))
        have hz6 : w.heap.size < w6.heap.size := by have := hU6'.size; omega
        have c6 : w6.cell? ⟨wr.heap.size, 0, none⟩ = some (.int .u64 (d.1 : Int)) := blk_cell (hU6.get D4.out (fun hm => by have := HOL.out _ (by simpa using hm); omega)) rfl
        have BG6 := hide bg6; have U6 := hide u6
        clear hown6 hU6 hU6' hn6 bg6 u6 c3 c4
        refine hK _ _ (.inr c6) ?_
        clear hK K
        try simp only [Act.put, List.setIfInBounds_toArray, List.set_cons_succ, List.set_cons_zero]
        refine wpAnyZ_one 11 (by kernel_rfl) rfl rfl (fun K hK => ?_)
        try simp only [List.getElem_toArray, List.getElem_cons_succ, List.getElem_cons_zero]
        go_simp
        refine hK _ _ (.inr c6) ?_
        clear hK K
        try simp only [Act.put, List.setIfInBounds_toArray, List.set_cons_succ, List.set_cons_zero]
        refine wpAnyZ_done (by kernel_rfl) ?_ _
        go_wp2_with fail
        go_roundw
        case rel =>
          refine ⟨k + 1, L ++ [⟨d.1, pl, RT⟩], R.drop pl.length, by rw [HRT.out]; exact TK.out, by rw [HRD.out, AK.out, HRK.out, List.drop_drop], by simp; exact HLL.out, by omega, by go_num, ?_, BG6.out, hz6, U6.out⟩
          simpa using HR3.out
        case measure => simp [intOf]; omega
    · have hkn : k = ds.length := by omega
      have d5 : decide ((k : Int) < ds.length) = false := by simp; omega
      have d5' : decide (k < ds.length) = false := by simp; omega
      have hLL := HLK.out
      rw [hkn, List.take_length] at hLL
      have HLE := hide hLL
      clear hkn hbg hr hLL
      go_wp2_with fail
      go_ret
      rw [← HLE.out]
      exact ⟨⟨_, rfl, slK.row_mono (slK.bag_row HBG.out) (fun g hg => ⟨by have := hg.1; omega, hg.2⟩)⟩, HU.out⟩
end Go.Proofs.YtfmaflaoplkdbaaGreatDoor.Tr
