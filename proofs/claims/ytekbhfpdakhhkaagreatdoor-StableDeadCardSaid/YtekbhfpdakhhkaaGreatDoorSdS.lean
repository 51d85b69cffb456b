/- The law's pair: opened on a new disk. -/
import Derived.Test.YtekbhfpdakhhkaaGreatDoorSdR
import Derived.Test.YtekbhfpdakhhkaaGreatDoorRefAll
namespace Go.Proofs.YtekbhfpdakhhkaaGreatDoor.St
set_option linter.unusedSimpArgs false
set_option linter.unusedVariables false
set_option linter.unnecessarySimpa false
open Go.RowKit Go.Lib Go.Proofs.YtekbhfpdakhhkaaGreatDoor.Crc Go.Proofs.YtekbhfpdakhhkaaGreatDoor.Var Go.Proofs.YtekbhfpdakhhkaaGreatDoor.DiskW Go.Proofs.YtekbhfpdakhhkaaGreatDoor.Rec Go.Proofs.YtekbhfpdakhhkaaGreatDoor.Fr

abbrev pair0 (D : Nat) : Obj :=
  .cells #[.pointer (some ⟨D, 0, none⟩), .pointer none, .string ⟨#[]⟩, .string ⟨#[]⟩, .bool false, .int .i64 (-1), .int .u64 0, .int .i64 0, .int .u64 0, .string ⟨#[]⟩, .slice none 0 0, .bool false] 38
set_option maxRecDepth 100000 in
set_option maxHeartbeats 2000000 in
theorem rof_none (xo : Option Addr) (c : Nat) (w : World) : Calls Tryz.prog 23 #[.slice xo 0 c] w fun e w' => e = .returned (.tuple #[.agg #[.int .u64 0, .int .i64 0, .int .u64 0, .string ⟨#[]⟩, .slice none 0 0], .int .i64 0]) ∧ Upd [] w w' := by
  go_enter Tryz.func23, Tryz.ntmps23
  go_wp2_with fail
  go_loopw [5] (fun si wr => si = .int .i64 0 ∧ wr.heap[w.heap.size]? = some zSt ∧ wr.heap[w.heap.size + 1]? = some zSt ∧ Upd [] w wr) (fun _ _ => 0)
  case atStart =>
    have h1 := blk_alloc (blk_new w zSt) zSt
    have h2 := blk_new (w.alloc zSt) zSt
    simp only [World.size_alloc] at h2
    exact ⟨rfl, h1, h2, ((Upd.refl [] w).alloc _).alloc _⟩
  case round =>
    obtain ⟨rfl, h1, h2, hu⟩ := hrel
    have c0 := blk_cell (i := 0) h2 rfl
    have c1 := blk_cell (i := 1) h2 rfl
    have c2 := blk_cell (i := 2) h2 rfl
    have c3 := blk_cell (i := 3) h2 rfl
    have c4 := blk_cell (i := 4) h2 rfl
    have e0 := blk_cell (i := 0) h1 rfl
    have e1 := blk_cell (i := 1) h1 rfl
    have e2 := blk_cell (i := 2) h1 rfl
    have e3 := blk_cell (i := 3) h1 rfl
    have e4 := blk_cell (i := 4) h1 rfl
    have g0 := blk_free (i := 0) h1
    have g1 := blk_free (i := 1) h1
    have g2 := blk_free (i := 2) h1
    have g3 := blk_free (i := 3) h1
    have g4 := blk_free (i := 4) h1
    have H1 := hide h1; have U := hide hu
    clear h1 h2 hu
    go_wp2_with fail
    have hb := set5_blk (a' := .int .u64 0) (b' := .int .i64 0) (c' := .int .u64 0) (d' := .string ⟨#[]⟩) (e' := .slice none 0 0) H1.out
    have hu5 := set5_upd (a' := .int .u64 0) (b' := .int .i64 0) (c' := .int .u64 0) (d' := .string ⟨#[]⟩) (e' := .slice none 0 0) U.out (.inr (Nat.le_refl _))
    clear c0 c1 c2 c3 c4 e0 e1 e2 e3 e4 g0 g1 g2 g3 g4
    generalize ((((wr.setCell ⟨w.heap.size, 0, none⟩ (.int .u64 0)).setCell ⟨w.heap.size, 1, none⟩ (.int .i64 0)).setCell ⟨w.heap.size, 2, none⟩ (.int .u64 0)).setCell ⟨w.heap.size, 3, none⟩ (.string ⟨#[]⟩)).setCell ⟨w.heap.size, 4, none⟩ (.slice none 0 0) = W at *
    have k0 := blk_cell (i := 0) hb rfl
    have k1 := blk_cell (i := 1) hb rfl
    have k2 := blk_cell (i := 2) hb rfl
    have k3 := blk_cell (i := 3) hb rfl
    have k4 := blk_cell (i := 4) hb rfl
    refine bodyPost_ret (v := .tuple #[.agg #[.int .u64 0, .int .i64 0, .int .u64 0, .string ⟨#[]⟩, .slice none 0 0], .int .i64 0]) ?_ rfl ⟨rfl, hu5⟩
    rw [results_cell_tmp rfl]
    go_simp
set_option maxRecDepth 100000 in
set_option maxHeartbeats 8000000 in
theorem opens_any {P D base : Nat} {bv : Value} {w0 : World} (w : World) (hst : TabAt w0) (hu0 : Upd [] w0 w) (hP : w.heap[P]? = some (pair0 D)) (hd : DiskAt w D base bv ⟨[], 0, false, -1⟩) (hbD : base ≤ D) (hbw : base ≤ w.heap.size) (h0b : w0.heap.size ≤ base) (h0D : w0.heap.size ≤ D) (h0P : w0.heap.size ≤ P) (hs : SafeB w D P) :
    Calls Tryz.prog 7 #[.pointer (some ⟨P, 0, none⟩)] w fun e w' => e = .returned (.bool true) ∧ ∃ S L g, PairAt [P] w0 w' P S L D g base [] 0 sto0 0 := by
  have hPl := blk_lt hP
  have hDl := blk_lt hd.hD
  have HP := hide hP; have DK := hide hd; have HS := hide hs; have HST := hide hst; have U0 := hide hu0
  clear hP hd hs hst hu0
  go_enter Tryz.func7, Tryz.ntmps7
  go_upto_region 1 with fail
  have d0 : Upd [] w (w.drewN 1) := (Upd.refl [] w).drewN 1
  have ea : (⟨#[]⟩ : ByteArray) ++ ⟨#[]⟩ = ⟨#[]⟩ := rfl
  refine wp_region_seqP (findOps 1 ((Tryz.f7.body).getD .skip)) (by kernel_rfl) [11] [0, 1, 2, 3, 4, 5, 6, 7, 8, 9, 10, 11, 12] (fun wx => Upd [] w wx) (by kernel_rfl) (by kernel_rfl) (fun _ _ d _ _ h => by cases d <;> exact h) d0 ?_
  simp only [pickO, List.filterMap_cons, List.filterMap_nil, List.getElem?_cons_succ, List.getElem?_cons_zero]
  refine wpSeqP_take (by kernel_rfl) (by kernel_rfl) ?_
  apply Exists.intro
  refine ⟨fun wx hS => ?_, fun a' ha => ?_⟩
  · go_simp; rfl
  simp only [Act.put, List.setIfInBounds_toArray, List.set_cons_succ, List.set_cons_zero] at ha
  subst ha
  refine wpSeqP_take (by kernel_rfl) (by kernel_rfl) ?_
  apply Exists.intro
  refine ⟨fun wx hS => ?_, fun a' ha => ?_⟩
  · go_simp; rfl
  simp only [Act.put, List.setIfInBounds_toArray, List.set_cons_succ, List.set_cons_zero] at ha
  subst ha
  refine wpSeqP_take (by kernel_rfl) (by kernel_rfl) ?_
  apply Exists.intro
  refine ⟨fun wx hS => ?_, fun a' ha => ?_⟩
  · go_simp; rfl
  simp only [Act.put, List.setIfInBounds_toArray, List.set_cons_succ, List.set_cons_zero] at ha
  subst ha
  refine wpSeqP_take (by kernel_rfl) (by kernel_rfl) ?_
  apply Exists.intro
  refine ⟨fun wx hS => ?_, fun a' ha => ?_⟩
  · go_simp; rfl
  simp only [Act.put, List.setIfInBounds_toArray, List.set_cons_succ, List.set_cons_zero] at ha
  subst ha
  refine wpSeqP_take (by kernel_rfl) (by kernel_rfl) ?_
  apply Exists.intro
  refine ⟨fun wx hS => ?_, fun a' ha => ?_⟩
  · have p2 := Rec.cell_keep hS (blk_cell (i := 2) HP.out rfl) (by simp); go_simp; rfl
  simp only [Act.put, List.setIfInBounds_toArray, List.set_cons_succ, List.set_cons_zero] at ha
  subst ha
  refine wpSeqP_take (by kernel_rfl) (by kernel_rfl) ?_
  apply Exists.intro
  refine ⟨fun wx hS => ?_, fun a' ha => ?_⟩
  · go_simp; rfl
  simp only [Act.put, List.setIfInBounds_toArray, List.set_cons_succ, List.set_cons_zero] at ha
  subst ha
  refine wpSeqP_take (by kernel_rfl) (by kernel_rfl) ?_
  apply Exists.intro
  refine ⟨fun wx hS => ?_, fun a' ha => ?_⟩
  · go_simp; rfl
  simp only [Act.put, List.setIfInBounds_toArray, List.set_cons_succ, List.set_cons_zero] at ha
  subst ha
  refine wpSeqP_take (by kernel_rfl) (by kernel_rfl) ?_
  apply Exists.intro
  refine ⟨fun wx hS => ?_, fun a' ha => ?_⟩
  · go_simp; rfl
  simp only [Act.put, List.setIfInBounds_toArray, List.set_cons_succ, List.set_cons_zero] at ha
  subst ha
  refine wpSeqP_take (by kernel_rfl) (by kernel_rfl) ?_
  apply Exists.intro
  refine ⟨fun wx hS => ?_, fun a' ha => ?_⟩
  · go_simp; rfl
  simp only [Act.put, List.setIfInBounds_toArray, List.set_cons_succ, List.set_cons_zero] at ha
  subst ha
  refine wpSeqP_take (by kernel_rfl) (by kernel_rfl) ?_
  apply Exists.intro
  refine ⟨fun wx hS => ?_, fun a' ha => ?_⟩
  · have p3 := Rec.cell_keep hS (blk_cell (i := 3) HP.out rfl) (by simp); go_simp; rfl
  simp only [Act.put, List.setIfInBounds_toArray, List.set_cons_succ, List.set_cons_zero] at ha
  subst ha
  refine wpSeqP_take (by kernel_rfl) (by kernel_rfl) ?_
  apply Exists.intro
  refine ⟨fun wx hS => ?_, fun a' ha => ?_⟩
  · go_simp; rfl
  simp only [Act.put, List.setIfInBounds_toArray, List.set_cons_succ, List.set_cons_zero] at ha
  subst ha
  obtain ⟨cap, w1, hr1, hu1, hf1⟩ := conv_bytes (w.drewN 1) [] (by simp [maxLen])
  change (convert 9 39 (.string ⟨#[]⟩)).run Tryz.prog (w.drewN 1) = .ok (.slice (some ⟨(w.drewN 1).heap.size, 0, none⟩) 0 cap) w1 at hr1
  have d1 := d0.trans hu1
  obtain ⟨b1, hb1⟩ : ∃ b1, (w.drewN 1).heap.size = b1 := ⟨_, rfl⟩
  rw [hb1] at hr1 hf1
  refine wpSeqP_one (by kernel_rfl) (by kernel_rfl) (fun K hK => ?_)
  go_simp
  refine hK _ _ (d1) ?_
  clear hK K
  try simp only [Act.put, List.setIfInBounds_toArray, List.set_cons_succ, List.set_cons_zero]
  refine wpSeqP_take (by kernel_rfl) (by kernel_rfl) ?_
  apply Exists.intro
  refine ⟨fun wx hS => ?_, fun a' ha => ?_⟩
  · go_simp; rfl
  simp only [Act.put, List.setIfInBounds_toArray, List.set_cons_succ, List.set_cons_zero] at ha
  subst ha
  unfold wpSeqP
  have U1 := hide d1; have F1 := hide hf1
  have p2 := Rec.cell_keep d1 (blk_cell (i := 2) HP.out rfl) (by simp)
  clear d0 d1 hu1 hf1 hr1 hb1
  go_wp2_with fail
  refine (Ref.open_any (k := 0) w1 F1.out.src F1.out.le F1.out.mx (by simp) (Nat.le_refl _)).mono ?_
  rintro e w2 ⟨hu2, hro⟩
  rcases hro with ⟨hbad, -⟩ | ⟨-, v, rfl, hrr⟩
  · exact absurd (by simp [all_nil]) hbad
  obtain ⟨ro, rc, rfl, -, -, -⟩ := hrr
  simp only [List.take_nil, List.drop_nil, all_nil, List.append_nil, List.length_nil]
  have U2 := hide (U1.out.trans hu2)
  have F2 := hide (F1.out.upd hu2 (by simp))
  have hcvq := run_str (src_upd_nil F1.out.src hu2)
  have p0 := Rec.cell_keep U2.out (blk_cell (i := 0) HP.out rfl) (by simp)
  clear hu2 p2
  go_wp2_with fail
  have dk2 := DK.out.upd U2.out (by simp) (by simp)
  have hz2 := U2.out.size
  refine (sopen_on (s := sto0) w2 dk2 hbD (by omega) ⟨by simp, by simp, by simp, by simp⟩ rfl (HST.out.upd (U0.out.trans U2.out) (by simp)) rfl rfl (by simp [recsD, all_nil]) (by simp [recsD, all_nil])).mono ?_
  rintro e w3 ⟨S, L, g, so, sn, sc, bv', rfl, hst3, hS, hL, hg, hn⟩
  change StoAt [] w3 S L D g base so sn sc bv' (LogD [] 0) sto0 at hst3
  have hs2 := HS.out.upd U2.out hDl (by simp)
  have hp3 := (hs2.near hn).2.trans (U2.out.get HP.out (by simp))
  have hs3 := (hs2.near hn).1
  have hu3 := (Turned.of_near (X := []) hn).far dk2 (U0.out.trans U2.out) h0b h0D (by simp)
  have hcv : ∀ wx, (convert 39 9 (.slice (some ⟨b1, 0, none⟩) 0 cap)).run Tryz.prog wx = .ok (.string ⟨#[]⟩) wx := fun wx => run_str (bs := []) ⟨rfl, by simp, (fun h => by cases h), (fun a e j u hj => by simp at hj)⟩
  have hcap := F2.out.le
  have HID := hide (show P ≠ S ∧ P ≠ L ∧ P ≠ g ∧ w0.heap.size ≤ S ∧ w0.heap.size ≤ L ∧ w0.heap.size ≤ g by have := U0.out.size; omega)
  have p1 := blk_cell (i := 1) hp3 rfl
  have p2 := blk_cell (i := 2) hp3 rfl
  have p3 := blk_cell (i := 3) hp3 rfl
  have p11 := blk_cell (i := 11) hp3 rfl
  have g1 := blk_free (i := 1) hp3
  have g2 := blk_free (i := 2) hp3
  have g3 := blk_free (i := 3) hp3
  have g11 := blk_free (i := 11) hp3
  have HB4 := hide (show ((((w3.setCell ⟨P, 1, none⟩ (.pointer (some ⟨S, 0, none⟩))).setCell ⟨P, 11, none⟩ (.bool false)).setCell ⟨P, 2, none⟩ (.string ⟨#[]⟩)).setCell ⟨P, 3, none⟩ (.string ⟨#[]⟩)).heap[P]? = some (.cells #[.pointer (some ⟨D, 0, none⟩), .pointer (some ⟨S, 0, none⟩), .string ⟨#[]⟩, .string ⟨#[]⟩, .bool false, .int .i64 (-1), .int .u64 0, .int .i64 0, .int .u64 0, .string ⟨#[]⟩, .slice none 0 0, .bool false] 38 (0, 0)) from blk_set (blk_set (blk_set (blk_set hp3 _) _) _) _)
  have HU4 := hide (show Upd [P] w3 ((((w3.setCell ⟨P, 1, none⟩ (.pointer (some ⟨S, 0, none⟩))).setCell ⟨P, 11, none⟩ (.bool false)).setCell ⟨P, 2, none⟩ (.string ⟨#[]⟩)).setCell ⟨P, 3, none⟩ (.string ⟨#[]⟩)) from (((((Upd.refl [P] w3).setCell (.inl (by simp)) _).setCell (.inl (by simp)) _).setCell (.inl (by simp)) _).setCell (.inl (by simp)) _))
  have ST3 := hide hst3; have U3 := hide hu3; have SP3 := hide hs3
  clear hst3 hu3 hs3 hs2 hp3 hn dk2 hcvq p0 hz2
  go_wp2_with fail
  generalize (((w3.setCell ⟨P, 1, none⟩ (.pointer (some ⟨S, 0, none⟩))).setCell ⟨P, 11, none⟩ (.bool false)).setCell ⟨P, 2, none⟩ (.string ⟨#[]⟩)).setCell ⟨P, 3, none⟩ (.string ⟨#[]⟩) = w4 at *
  clear p1 p2 p3 p11 g1 g2 g3 g11
  refine (rof_none ro rc w4).mono ?_
  rintro e w5 ⟨rfl, hu5⟩
  have hb5 := hu5.get HB4.out (by simp)
  have p6 := blk_cell (i := 6) hb5 rfl
  have g6 := blk_free (i := 6) hb5
  have p7 := blk_cell (i := 7) hb5 rfl
  have g7 := blk_free (i := 7) hb5
  have p8 := blk_cell (i := 8) hb5 rfl
  have g8 := blk_free (i := 8) hb5
  have p9 := blk_cell (i := 9) hb5 rfl
  have g9 := blk_free (i := 9) hb5
  have p10 := blk_cell (i := 10) hb5 rfl
  have g10 := blk_free (i := 10) hb5
  have p11 := blk_cell (i := 11) hb5 rfl
  have g11 := blk_free (i := 11) hb5
  have hb6 : ((((((w5.setCell ⟨P, 6, none⟩ (.int .u64 0)).setCell ⟨P, 7, none⟩ (.int .i64 0)).setCell ⟨P, 8, none⟩ (.int .u64 0)).setCell ⟨P, 9, none⟩ (.string ⟨#[]⟩)).setCell ⟨P, 10, none⟩ (.slice none 0 0)).setCell ⟨P, 11, none⟩ (.bool true)).heap[P]? = some (pairO D S ⟨#[]⟩ ⟨#[]⟩ sto0 (.slice none 0 0)) := blk_set (blk_set (blk_set (blk_set (blk_set (blk_set hb5 _) _) _) _) _) _
  have hu6 : Upd [P] w3 ((((((w5.setCell ⟨P, 6, none⟩ (.int .u64 0)).setCell ⟨P, 7, none⟩ (.int .i64 0)).setCell ⟨P, 8, none⟩ (.int .u64 0)).setCell ⟨P, 9, none⟩ (.string ⟨#[]⟩)).setCell ⟨P, 10, none⟩ (.slice none 0 0)).setCell ⟨P, 11, none⟩ (.bool true)) := (((((((HU4.out.trans (hu5.mono (by simp))).setCell (.inl (by simp)) _).setCell (.inl (by simp)) _).setCell (.inl (by simp)) _).setCell (.inl (by simp)) _).setCell (.inl (by simp)) _).setCell (.inl (by simp)) _)
  have HB6 := hide hb6; have HU6 := hide hu6
  have hq11 := blk_cell (i := 11) hb6 rfl
  clear hu5 hb5 hb6 hu6
  go_wp2_with fail
  go_ret
  have hid := HID.out
  have hf3 : Foreign [P] w3 S L D g P := ⟨by simp, SP3.out, hid.1, hid.2.1, hid.2.2.1⟩
  have hst4 := (ST3.out.apart (E := [P]) rfl rfl (by simpa using SP3.out.lt)).aside HU6.out (by simpa using hf3)
  have hz := HU6.out.size
  have hz3 := SP3.out.lt
  have hD3 := blk_lt ST3.out.dsk.hD
  refine ⟨rfl, S, L, g, ⟨⟨_, _, _, _, hst4⟩, by omega, ?_, U3.out.trans_new HU6.out (by simpa using h0P), HST.out, Nat.le_refl _, by simp, by simp, StoOk.zero⟩, hf3.aside HU6.out hD3 (by simpa using SP3.out.ne.symm), h0P, _, _, _, HB6.out, (by show 0 + 0 ≤ 0; omega), Row.nil _ _ _ _⟩
  have := U1.out.size
  omega
end Go.Proofs.YtekbhfpdakhhkaaGreatDoor.St
