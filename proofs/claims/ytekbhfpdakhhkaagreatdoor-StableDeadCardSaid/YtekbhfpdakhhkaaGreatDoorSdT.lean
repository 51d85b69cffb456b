/- The law's same: has a store what the document says? -/
import Derived.Test.YtekbhfpdakhhkaaGreatDoorSdS
import Derived.BigQuiet
namespace Go.Proofs.YtekbhfpdakhhkaaGreatDoor.St
set_option linter.unusedSimpArgs false
set_option linter.unusedVariables false
set_option linter.unnecessarySimpa false
open Go.RowKit Go.Lib Go.Proofs.YtekbhfpdakhhkaaGreatDoor.Crc Go.Proofs.YtekbhfpdakhhkaaGreatDoor.Var Go.Proofs.YtekbhfpdakhhkaaGreatDoor.DiskW Go.Proofs.YtekbhfpdakhhkaaGreatDoor.Rec Go.Proofs.YtekbhfpdakhhkaaGreatDoor.Fr

theorem strs_id (a : List UInt8) : ((strOf a).toList == (strOf a).toList) = true ∧ ((strOf a).toList != (strOf a).toList) = false := by
  have : ((strOf a).toList == (strOf a).toList) = true := by rw [strOf_eq]; simp
  exact ⟨this, by simp [bne, this]⟩
set_option maxRecDepth 100000 in
set_option maxHeartbeats 1000000 in
theorem sopen_dead {D base : Nat} {bv : Value} {d : DS} (w : World) (h : DiskAt w D base bv d) (hd : d.dead = true) : Calls Tryz.prog 10 #[.pointer (some ⟨D, 0, none⟩)] w fun e w' => e = .returned (.tuple #[.pointer none, .int .i64 20]) ∧ Upd [] w w' := by
  have H := hide h
  clear h
  go_enter Tryz.func10, Tryz.ntmps10
  go_wp2_with fail
  refine (open_dead w H.out hd).mono ?_
  rintro e w1 ⟨rfl, hu⟩
  have U := hide hu
  clear hu
  go_wp2_with fail
  refine bodyPost_ret (results_tmp2 rfl _ _ _) rfl ?_
  exact ⟨rfl, U.out⟩
theorem filter_from {vs : List (Nat × Vo)} (h : Rise slotK vs) {k a : Nat} {u : Vo} (hk : vs[k]? = some (a, u)) : (vs.filter fun p => decide (a ≤ p.1)).length = vs.length - k := by
  have hlt := (List.getElem?_eq_some_iff.1 hk).1
  have e : vs.filter (fun p => decide (a ≤ p.1)) = vs.drop k := by
    conv => lhs; rw [← List.take_append_drop k vs]
    rw [List.filter_append, List.filter_eq_nil_iff.2, List.filter_eq_self.2, List.nil_append]
    · intro p hp
      obtain ⟨j, hj⟩ := List.mem_iff_getElem?.1 hp
      rw [List.getElem?_drop] at hj
      rcases Nat.eq_zero_or_pos j with rfl | h0
      · rw [Nat.add_zero, hk] at hj
        cases hj
        simp
      · have := rise_get h hk hj (by omega)
        simp only at this
        simp; omega
    · intro p hp
      obtain ⟨j, hj⟩ := List.mem_iff_getElem?.1 hp
      have hjk : j < k := by
        have := (List.getElem?_eq_some_iff.1 hj).1
        simp at this; omega
      rw [List.getElem?_take_of_lt hjk] at hj
      have := rise_get h hj hk hjk
      simp only at this
      simp; omega
  rw [e, List.length_drop]
section
variable {E : List Nat} {S L D g base : Nat} {so : Option Addr} {sn sc : Nat} {bv : Value} {d : DS} {s : Sto} {i : Nat}
set_option maxRecDepth 100000 in
set_option maxHeartbeats 8000000 in
theorem same_any {T : Nat → Prop} {v : Value} (w : World) (h : StoAt E w S L D g base so sn sc bv d s) (hso : StoOk s i) (hi : i < 1000) (hr : Row w T 4 rvP v s.votes) :
    Calls Tryz.prog 15 #[.pointer (some ⟨S, 0, none⟩), rstV s.prom.n s.prom.r s.base (strOf s.snap) v] w fun e w' => e = .returned (.bool true) ∧ Upd [] w w' := by
  obtain ⟨ro, rc, rfl, hrc1, hrc2, hrg⟩ := rv_get hr
  have RG := hide hrg
  have hX := blk_new w (rstO s.prom.n s.prom.r s.base (strOf s.snap) (.slice ro s.votes.length rc))
  have hu2 := (Upd.refl [] w).alloc (rstO s.prom.n s.prom.r s.base (strOf s.snap) (.slice ro s.votes.length rc))
  have hsn : sn ≤ 1000000000 := by have := h.snp.len; have := hso.sn; omega
  have hvl : s.votes.length < 1000 := by have := hso.len; omega
  have H2 := hide (h.upd_nil hu2); have SO := hide hso
  simp only [maxLen] at hrc2
  clear h hso hr hrg
  go_enter Tryz.func15, Tryz.ntmps15
  go_upto_region 1 with fail
  generalize w.alloc (rstO s.prom.n s.prom.r s.base (strOf s.snap) (.slice ro s.votes.length rc)) = w2 at *
  obtain ⟨Bx, hBx⟩ : ∃ Bx, w.heap.size = Bx := ⟨_, rfl⟩
  rw [hBx] at hX ⊢
  have HX := hide hX; have U2 := hide hu2
  clear hX hu2 hBx
  go_wp2_with fail
  refine (votes_any w2 H2.out SO.out hi 0).mono ?_
  intro e w3 hvs
  obtain ⟨v1, xs, rfl, hv1, hu3⟩ := hvs.told
  have hxl := hv1.len
  obtain ⟨xo, xc, rfl, hxc1, hxc2, hxg⟩ := hv1.slice
  simp only [maxLen] at hxc2
  have VX := hide hv1; have XG := hide hxg; have H3 := hide (H2.out.upd_nil hu3); have HX3 := hide (hu3.get HX.out (by simp)); have U3 := hide (U2.out.trans hu3); have XL := hide hxl
  clear hvs hv1 hxg hu3 HX H2 U2
  rw [hxl] at hxc1 ⊢
  clear hxl
  go_upto_region 2 with fail
  have d0 : Upd [] w3 (w3.drewN 1) := (Upd.refl [] w3).drewN 1
  obtain ⟨qs1, qs2⟩ := strs_id s.snap
  refine wp_region_seqS (findOps 2 ((Tryz.f15.body).getD .skip)) (by kernel_rfl) [1, 7, 14] [0, 2, 3, 1, 4, 5, 6, 8, 9, 7, 10, 11, 12, 13, 16, 17, 14, 15, 18, 19, 20, 21, 22, 23, 24, 25, 26, 27] (fun wx => Upd [] w3 wx) (by kernel_rfl) (by kernel_rfl) (fun _ _ d _ _ h => by cases d <;> exact h) d0 ?_
  simp only [pickO, List.filterMap_cons, List.filterMap_nil, List.getElem?_cons_succ, List.getElem?_cons_zero]
  refine wpSeqS_take (by kernel_rfl) (by kernel_rfl) ?_
  apply Exists.intro
  refine ⟨fun wx hS => ?_, fun a' ha => ?_⟩
  · go_simp; rfl
  simp only [Act.put, List.setIfInBounds_toArray, List.set_cons_succ, List.set_cons_zero] at ha
  subst ha
  refine wpSeqS_take (by kernel_rfl) (by kernel_rfl) ?_
  apply Exists.intro
  refine ⟨fun wx hS => ?_, fun a' ha => ?_⟩
  · go_simp; rfl
  simp only [Act.put, List.setIfInBounds_toArray, List.set_cons_succ, List.set_cons_zero] at ha
  subst ha
  refine wpSeqS_take (by kernel_rfl) (by kernel_rfl) ?_
  apply Exists.intro
  refine ⟨fun wx hS => ?_, fun a' ha => ?_⟩
  · have x0 := Rec.cell_keep hS (blk_cell (i := 0) HX3.out rfl) (by simp);have x1 := Rec.cell_keep hS (blk_cell (i := 1) HX3.out rfl) (by simp); go_simp; rfl
  simp only [Act.put, List.setIfInBounds_toArray, List.set_cons_succ, List.set_cons_zero] at ha
  subst ha
  refine wpSeqS_one (by kernel_rfl) (by kernel_rfl) (fun K hK => ?_)
  go_simp
  refine (promise_any (w3.drewN 1) (H3.out.upd_nil d0)).mono ?_
  rintro e w4 ⟨rfl, hu4⟩
  have d4 := d0.trans hu4
  refine hK (fun wx => Upd [] w4 wx) _ _ (fun _ hx => (d4).trans hx) (Upd.refl [] _) ?_
  clear hK K
  try simp only [Act.put, List.setIfInBounds_toArray, List.set_cons_succ, List.set_cons_zero]
  refine wpSeqS_take (by kernel_rfl) (by kernel_rfl) ?_
  apply Exists.intro
  refine ⟨fun wx hS => ?_, fun a' ha => ?_⟩
  · go_simp; rfl
  simp only [Act.put, List.setIfInBounds_toArray, List.set_cons_succ, List.set_cons_zero] at ha
  subst ha
  refine wpSeqS_take (by kernel_rfl) (by kernel_rfl) ?_
  apply Exists.intro
  refine ⟨fun wx hS => ?_, fun a' ha => ?_⟩
  · go_simp; rfl
  simp only [Act.put, List.setIfInBounds_toArray, List.set_cons_succ, List.set_cons_zero] at ha
  subst ha
  refine wpSeqS_take (by kernel_rfl) (by kernel_rfl) ?_
  apply Exists.intro
  refine ⟨fun wx hS => ?_, fun a' ha => ?_⟩
  · go_simp; rfl
  simp only [Act.put, List.setIfInBounds_toArray, List.set_cons_succ, List.set_cons_zero] at ha
  subst ha
  refine wpSeqS_take (by kernel_rfl) (by kernel_rfl) ?_
  apply Exists.intro
  refine ⟨fun wx hS => ?_, fun a' ha => ?_⟩
  · go_simp; rfl
  simp only [Act.put, List.setIfInBounds_toArray, List.set_cons_succ, List.set_cons_zero] at ha
  subst ha
  refine wpSeqS_take (by kernel_rfl) (by kernel_rfl) ?_
  apply Exists.intro
  refine ⟨fun wx hS => ?_, fun a' ha => ?_⟩
  · have x2 := Rec.cell_keep (d4.trans hS) (blk_cell (i := 2) HX3.out rfl) (by simp); go_simp; rfl
  simp only [Act.put, List.setIfInBounds_toArray, List.set_cons_succ, List.set_cons_zero] at ha
  subst ha
  refine wpSeqS_one (by kernel_rfl) (by kernel_rfl) (fun K hK => ?_)
  go_simp
  refine (base_any w4 (H3.out.upd_nil d4)).mono ?_
  rintro e w5 ⟨rfl, hu5⟩
  have d5 := d4.trans hu5
  refine hK (fun wx => Upd [] w5 wx) _ _ (fun _ hx => (hu5).trans hx) (Upd.refl [] _) ?_
  clear hK K
  try simp only [Act.put, List.setIfInBounds_toArray, List.set_cons_succ, List.set_cons_zero]
  refine wpSeqS_take (by kernel_rfl) (by kernel_rfl) ?_
  apply Exists.intro
  refine ⟨fun wx hS => ?_, fun a' ha => ?_⟩
  · go_simp; rfl
  simp only [Act.put, List.setIfInBounds_toArray, List.set_cons_succ, List.set_cons_zero] at ha
  subst ha
  refine wpSeqS_take (by kernel_rfl) (by kernel_rfl) ?_
  apply Exists.intro
  refine ⟨fun wx hS => ?_, fun a' ha => ?_⟩
  · go_simp; rfl
  simp only [Act.put, List.setIfInBounds_toArray, List.set_cons_succ, List.set_cons_zero] at ha
  subst ha
  refine wpSeqS_take (by kernel_rfl) (by kernel_rfl) ?_
  apply Exists.intro
  refine ⟨fun wx hS => ?_, fun a' ha => ?_⟩
  · go_simp; rfl
  simp only [Act.put, List.setIfInBounds_toArray, List.set_cons_succ, List.set_cons_zero] at ha
  subst ha
  refine wpSeqS_take (by kernel_rfl) (by kernel_rfl) ?_
  apply Exists.intro
  refine ⟨fun wx hS => ?_, fun a' ha => ?_⟩
  · go_simp; rfl
  simp only [Act.put, List.setIfInBounds_toArray, List.set_cons_succ, List.set_cons_zero] at ha
  subst ha
  refine wpSeqS_take (by kernel_rfl) (by kernel_rfl) ?_
  apply Exists.intro
  refine ⟨fun wx hS => ?_, fun a' ha => ?_⟩
  · go_simp; rfl
  simp only [Act.put, List.setIfInBounds_toArray, List.set_cons_succ, List.set_cons_zero] at ha
  subst ha
  refine wpSeqS_take (by kernel_rfl) (by kernel_rfl) ?_
  apply Exists.intro
  refine ⟨fun wx hS => ?_, fun a' ha => ?_⟩
  · have x3 := Rec.cell_keep (d5.trans hS) (blk_cell (i := 3) HX3.out rfl) (by simp); go_simp; rfl
  simp only [Act.put, List.setIfInBounds_toArray, List.set_cons_succ, List.set_cons_zero] at ha
  subst ha
  refine wpSeqS_one (by kernel_rfl) (by kernel_rfl) (fun K hK => ?_)
  go_simp
  refine (snap_any w5 (H3.out.upd_nil d5) hsn).mono ?_
  rintro e w6 ⟨⟨ao, ac, rfl, hao⟩, hu6⟩
  have d6 := d5.trans hu6
  refine hK (fun wx => Upd [] w6 wx) _ _ (fun _ hx => (hu6).trans hx) (Upd.refl [] _) ?_
  clear hK K
  try simp only [Act.put, List.setIfInBounds_toArray, List.set_cons_succ, List.set_cons_zero]
  refine wpSeqS_take (by kernel_rfl) (by kernel_rfl) ?_
  apply Exists.intro
  refine ⟨fun wx hS => ?_, fun a' ha => ?_⟩
  · have q := run_str (src_upd (src_own hao (by simp [u8v, Value.oneCell'])) hS (by simp)); go_simp; rfl
  simp only [Act.put, List.setIfInBounds_toArray, List.set_cons_succ, List.set_cons_zero] at ha
  subst ha
  refine wpSeqS_take (by kernel_rfl) (by kernel_rfl) ?_
  apply Exists.intro
  refine ⟨fun wx hS => ?_, fun a' ha => ?_⟩
  · go_simp; rfl
  simp only [Act.put, List.setIfInBounds_toArray, List.set_cons_succ, List.set_cons_zero] at ha
  subst ha
  refine wpSeqS_take (by kernel_rfl) (by kernel_rfl) ?_
  apply Exists.intro
  refine ⟨fun wx hS => ?_, fun a' ha => ?_⟩
  · go_simp; rfl
  simp only [Act.put, List.setIfInBounds_toArray, List.set_cons_succ, List.set_cons_zero] at ha
  subst ha
  refine wpSeqS_take (by kernel_rfl) (by kernel_rfl) ?_
  apply Exists.intro
  refine ⟨fun wx hS => ?_, fun a' ha => ?_⟩
  · go_simp; rfl
  simp only [Act.put, List.setIfInBounds_toArray, List.set_cons_succ, List.set_cons_zero] at ha
  subst ha
  refine wpSeqS_take (by kernel_rfl) (by kernel_rfl) ?_
  apply Exists.intro
  refine ⟨fun wx hS => ?_, fun a' ha => ?_⟩
  · go_simp; rfl
  simp only [Act.put, List.setIfInBounds_toArray, List.set_cons_succ, List.set_cons_zero] at ha
  subst ha
  refine wpSeqS_take (by kernel_rfl) (by kernel_rfl) ?_
  apply Exists.intro
  refine ⟨fun wx hS => ?_, fun a' ha => ?_⟩
  · go_simp; rfl
  simp only [Act.put, List.setIfInBounds_toArray, List.set_cons_succ, List.set_cons_zero] at ha
  subst ha
  refine wpSeqS_take (by kernel_rfl) (by kernel_rfl) ?_
  apply Exists.intro
  refine ⟨fun wx hS => ?_, fun a' ha => ?_⟩
  · go_simp; rfl
  simp only [Act.put, List.setIfInBounds_toArray, List.set_cons_succ, List.set_cons_zero] at ha
  subst ha
  refine wpSeqS_take (by kernel_rfl) (by kernel_rfl) ?_
  apply Exists.intro
  refine ⟨fun wx hS => ?_, fun a' ha => ?_⟩
  · have x4 := Rec.cell_keep (d6.trans hS) (blk_cell (i := 4) HX3.out rfl) (by simp); go_simp; rfl
  simp only [Act.put, List.setIfInBounds_toArray, List.set_cons_succ, List.set_cons_zero] at ha
  subst ha
  refine wpSeqS_take (by kernel_rfl) (by kernel_rfl) ?_
  apply Exists.intro
  refine ⟨fun wx hS => ?_, fun a' ha => ?_⟩
  · go_simp; rfl
  simp only [Act.put, List.setIfInBounds_toArray, List.set_cons_succ, List.set_cons_zero] at ha
  subst ha
  refine wpSeqS_take (by kernel_rfl) (by kernel_rfl) ?_
  apply Exists.intro
  refine ⟨fun wx hS => ?_, fun a' ha => ?_⟩
  · go_simp; rfl
  simp only [Act.put, List.setIfInBounds_toArray, List.set_cons_succ, List.set_cons_zero] at ha
  subst ha
  refine wpSeqS_take (by kernel_rfl) (by kernel_rfl) ?_
  apply Exists.intro
  refine ⟨fun wx hS => ?_, fun a' ha => ?_⟩
  · go_simp; rfl
  simp only [Act.put, List.setIfInBounds_toArray, List.set_cons_succ, List.set_cons_zero] at ha
  subst ha
  unfold wpSeqS
  have DD := hide d6
  have U6 := hide (U3.out.trans d6)
  clear d0 d4 d5 d6 hu4 hu5 hu6 hao qs1 qs2
  go_wp2_with fail
  go_loopw [6] (fun si wr => ∃ k : Nat, k ≤ s.votes.length ∧ si = .int .i64 k ∧ Upd [] w6 wr) (fun si _ => s.votes.length - (intOf si).toNat)
  case atStart => exact ⟨0, by omega, rfl, Upd.refl _ _⟩
  case round =>
    obtain ⟨k, hk, rfl, hur⟩ := hrel
    rename World => w7
    have UR := hide (DD.out.trans hur); have UW := hide (U6.out.trans hur); have U67 := hide hur
    clear hur
    by_cases hlt : k < s.votes.length
    · have HLT := hide hlt
      have d5 : decide ((k : Int) < (s.votes.length : Int)) = true := by simp; omega
      have d5' : decide (k < s.votes.length) = true := by simpa using hlt
      obtain ⟨x, hx⟩ : ∃ x, xs[k]? = some x := ⟨_, List.getElem?_eq_getElem (by rw [XL.out]; exact hlt)⟩
      obtain ⟨u, a1, a2, a3, a4, a5, a6⟩ := VX.out.at hx
      obtain ⟨b, rfl, -, -, x0, x1, x2, x3⟩ := XG.out k x hx
      obtain ⟨c, off, rfl, -, -, y0, y1, y2, y3⟩ := RG.out k _ a1
      have hvo := SO.out.vote _ (List.mem_of_getElem? a1)
      simp only at y0 y1 y2 y3 hvo
      obtain ⟨xa, hxa⟩ : ∃ xa, adOf x.xo = xa := ⟨_, rfl⟩
      simp only [vsl, hxa] at a6 x3
      rw [a3] at x1
      rw [a4] at x2
      have X0 := hide x0; have X1 := hide x1; have X2 := hide x2; have X3 := hide x3; have Y0 := hide y0; have Y1 := hide y1; have Y2 := hide y2; have Y3 := hide y3; have A6 := hide a6; have A2 := hide a2; have A1 := hide a1
      have b4 := Rec.cell_keep UR.out (blk_cell (i := 4) HX3.out rfl) (by simp)
      have y0 := Rec.cell_keep UW.out Y0.out (by simp)
      clear a1 a2 a3 a4 a5 a6 hxa hx x0 x1 x2 x3 y1 y2 y3
      go_wp2_with fail
      refine (vote_any w7 (H3.out.upd_nil UR.out) x.slot hvo.2.2.2.2.1 (by rw [A2.out]; exact hvo.2.2.2.2.2.2)).mono ?_
      rintro e w8 ⟨po, pc, rfl, hpo, hu8⟩
      rw [A2.out] at hpo ⊢
      simp only [Option.isSome_some, Option.getD_some, if_true] at hpo ⊢
      have hb9 := blk_new w8 (votC x.slot u.b.n u.b.r (.slice po u.batch.length pc))
      have ha9 := (Upd.refl [] w8).alloc (votC x.slot u.b.n u.b.r (.slice po u.batch.length pc))
      go_upto_region 8 with fail
      obtain ⟨B7, hB7⟩ : ∃ B7, w8.heap.size = B7 := ⟨_, rfl⟩
      rw [hB7] at hb9 ⊢
      generalize w8.alloc (votC x.slot u.b.n u.b.r (.slice po u.batch.length pc)) = w9 at *
      have u79 := hu8.trans ha9
      have U9 := hide (UR.out.trans u79); have UW9 := hide (UW.out.trans u79); have U69 := hide (U67.out.trans u79)
      have z0 : w9.cell? ⟨B7, 0, none⟩ = some (.int .u64 (x.slot : Int)) := blk_cell hb9 rfl
      have z1 : w9.cell? ⟨B7, 1, none⟩ = some (.int .u64 (u.b.n : Int)) := blk_cell hb9 rfl
      have z2 : w9.cell? ⟨B7, 2, none⟩ = some (.int .i64 u.b.r) := blk_cell hb9 rfl
      have z3 : w9.cell? ⟨B7, 3, none⟩ = some (.slice po u.batch.length pc) := blk_cell hb9 rfl
      have x0 := Rec.cell_keep U9.out X0.out (by simp)
      have x1 := Rec.cell_keep U9.out X1.out (by simp)
      have x2 := Rec.cell_keep U9.out X2.out (by simp)
      have x3 := Rec.cell_keep U9.out X3.out (by simp)
      have y0 := Rec.cell_keep UW9.out Y0.out (by simp)
      have y1 := Rec.cell_keep UW9.out Y1.out (by simp)
      have y2 := Rec.cell_keep UW9.out Y2.out (by simp)
      have y3 := Rec.cell_keep UW9.out Y3.out (by simp)
      have b4 := Rec.cell_keep U9.out (blk_cell (i := 4) HX3.out rfl) (by simp)
      have hcv1 := fun nq => run_str (src_upd_nil (src_ownB A6.out) (U9.out.drewN nq))
      have hcv2 := fun nq => run_str (src_upd_nil (src_ownB (owns_upd hpo ha9 (by simp))) ((Upd.refl [] w9).drewN nq))
      obtain ⟨qs1, qs2⟩ := strs_id u.batch
      clear hu8 ha9 hb9 hB7 hpo u79
      go_quiet (fail)
      have U10 := hide (U9.out.drewN nq); have UW10 := hide (UW9.out.drewN nq); have U610 := hide (U69.out.drewN nq)
      generalize w9.drewN nq = w10 at *
      clear z0 z1 z2 z3 x0 x1 x2 x3 y0 y1 y2 y3 b4 hcv1 hcv2 qs1 qs2
      have y0 := Rec.cell_keep UW10.out Y0.out (by simp)
      have b4 := Rec.cell_keep U10.out (blk_cell (i := 4) HX3.out rfl) (by simp)
      go_wp2_with fail
      refine (votes_any w10 (H3.out.upd_nil U10.out) SO.out hi x.slot).mono ?_
      rintro e w11 ⟨v, zs, rfl, hz1, hz2, -, hu11⟩
      obtain ⟨zo, zc, rfl, -, -, -⟩ := owns_slice hz1
      have hzl : zs.length = s.votes.length - k := by
        have := congrArg List.length hz2
        rw [List.length_map, filter_from SO.out.rise A1.out] at this
        exact this
      have q9 : ((zs.length : Int) != (s.votes.length : Int) - (k : Int)) = false := by simp; omega
      have U11 := hide (U610.out.trans hu11)
      clear hz1 hz2 hzl hu11 y0 b4
      go_wp2_with fail
      go_roundw
      case rel => exact ⟨k + 1, by have := HLT.out; omega, by go_num, U11.out⟩
      case measure => have := HLT.out; simp [intOf]; omega
    · have d5 : decide ((k : Int) < (s.votes.length : Int)) = false := by simp; omega
      have d5' : decide (k < s.votes.length) = false := by simpa using hlt
      clear hlt
      go_wp2_with fail
      go_ret
      exact ⟨rfl, UW.out⟩
end
end Go.Proofs.YtekbhfpdakhhkaaGreatDoor.St
