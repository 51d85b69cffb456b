/- What a set does: voted. -/
import Derived.Test.YtekbhfpdakhhkaaGreatDoorStD
import Derived.Test.YtekbhfpdakhhkaaGreatDoorGenAll
namespace Go.Proofs.YtekbhfpdakhhkaaGreatDoor.St
set_option linter.unusedSimpArgs false
set_option linter.unusedVariables false
set_option linter.unnecessarySimpa false
open Go.RowKit Go.Lib Go.Proofs.YtekbhfpdakhhkaaGreatDoor.Crc Go.Proofs.YtekbhfpdakhhkaaGreatDoor.Var Go.Proofs.YtekbhfpdakhhkaaGreatDoor.DiskW

theorem new_vr {w w' : World} {ao : Option Addr} {n cap : Nat} {e : TypeId} {z : Nat} {xs : List Value} (h : w'.ownsRow w.heap.size e z (.slice ao n cap) n xs) : ∃ xo, adOf xo = ao := by
  rcases h.2 with ⟨h1, h2⟩ | ⟨b, c, cur, h1, h2⟩
  · cases ao with
    | none => exact ⟨none, rfl⟩
    | some a => simp at h1
  · simp only [Value.slice.injEq] at h1
    exact ⟨some (b, 0), by rw [h1.1]; rfl⟩
theorem mfind_map {α β : Type} {f : α → β} {l : List (Nat × α)} {k : Nat} : mfind (l.map fun p => (p.1, f p.2)) k = (mfind l k).map f := by
  induction l with
  | nil => rfl
  | cons p l ih =>
    rw [List.map_cons, mfind_cons, mfind_cons, ih]
    by_cases e : p.1 = k
    · rw [if_pos e, if_pos e]; rfl
    · rw [if_neg e, if_neg e]
theorem votes_len {w : World} {D g : Nat} {X : List Nat} {vs : List (Nat × Vo)} (h : VotesAt w D X g vs) {l : List (Nat × VR)} (h1 : Rise slotK l) (h2 : ∀ k, mfind vs k = none → mfind l k = none) : l.length ≤ vs.length := by
  have h3 : Rise slotK (l.map fun p => (p.1, ())) := List.pairwise_map.2 h1
  have h4 := sub_len (l := l.map fun p => (p.1, ())) (m := vs.map fun p => (p.1, ())) h3 fun k v hv => by
    rw [mfind_map (f := fun _ => ())] at hv
    rw [mfind_map (f := fun _ => ())]
    cases hf : mfind vs k with
    | none => rw [h2 k hf] at hv; cases hv
    | some u => exact ⟨(), rfl⟩
  simpa using h4
theorem votes_put {w : World} {D g k : Nat} {X : List Nat} {vs : List (Nat × Vo)} {x : VR} {v : Vo} (h : VotesAt w D X g vs) (hD : D < w.heap.size) (hg : g ∈ X) (hx : VrSays w D X k v x) (hk : k < 18446744073709551616) (hlen : vs.length < 1000000) :
    ∃ w2, (Instr.mapUpdate 77 (.map (some g)) (.int .u64 (k : Int)) (vrV x)).run Tryz.prog w = .ok () w2 ∧ VotesAt w2 D X g (mput slotK vs k v) ∧ Upd [g] w w2 := by
  obtain ⟨l, h1, h2, h3, h4⟩ := h.raw
  have hl := votes_len h h2 h3
  have hne : D ∉ [g] := by simpa using fun e => h.safe.ne e.symm
  obtain ⟨w2, r2, i2, u2⟩ := MapKind.store h1 (k := k) (v := x) hk trivial (by unfold maxLen; omega)
  refine ⟨w2, r2, ⟨⟨_, i2, rise_put h2, fun j hj => ?_, fun j u hj => ?_⟩, h.safe.upd u2 hD hne⟩, u2⟩
  · rw [mfind_put] at hj ⊢
    split at hj
    · cases hj
    · rename_i hjk
      rw [if_neg hjk]
      exact h3 j hj
  · rw [mfind_put] at hj ⊢
    split at hj
    · rename_i hjk
      cases hj
      subst hjk
      obtain ⟨g1, g2, g3, g4⟩ := hx
      exact ⟨x, if_pos rfl, g1, g2, g3, g4.upd u2 hD hne (by simpa using hg)⟩
    · rename_i hjk
      obtain ⟨y, hy, g1, g2, g3, g4⟩ := h4 j u hj
      exact ⟨y, by rw [if_neg hjk]; exact hy, g1, g2, g3, g4.upd u2 hD hne (by simpa using hg)⟩
section
variable {E : List Nat} {S L D g base : Nat} {so : Option Addr} {sn sc : Nat} {bv : Value} {d : DS} {s : Sto}
theorem StoAt.setV {w w' : World} {s' : Sto} (h : StoAt E w S L D g base so sn sc bv d s) (hu : Upd [g] w w') (hv : VotesAt w' D (S :: L :: g :: E) g s'.votes) (h1 : s'.prom = s.prom) (h2 : s'.base = s.base) (h3 : s'.snap = s.snap) : StoAt E w' S L D g base so sn sc bv d s' := by
  obtain ⟨n1, n2, n3, n4, n5, n6⟩ := h.nes
  have hD := blk_lt h.dsk.hD
  have hDg : D ∉ [g] := by simpa using n6.symm
  refine ⟨by rw [h1, h2]; exact hu.get h.blk (by simpa using n2), hu.get h.log (by simpa using n3), h.dsk.upd hu hDg (fun k hk => ?_), hv, by rw [h3]; exact h.snp.upd hu hD hDg (by simp), h.sS.upd hu hD hDg, h.sL.upd hu hD hDg, fun k hk => Nat.lt_of_lt_of_le (h.ext k hk) hu.size⟩
  simp only [List.mem_singleton]
  rintro rfl
  exact h.vts.safe.own (h.dsk.ownAt.2 hk)
noncomputable def votedOps2 : Array Oper := findOps 2 ((Tryz.f69.body).getD .skip)
set_option maxRecDepth 100000 in
set_option maxHeartbeats 2000000 in
theorem voted_any (w : World) (h : StoAt E w S L D g base so sn sc bv d s) (x : SetM) (xo : Option Addr) (xn xc : Nat) (hb : Lies w D [S, L, g] xo xn xc x.bytes) (hn : xn ≤ 1000000) (hsl : x.slot < 18446744073709551616) (hvl : s.votes.length < 1000000) :
    Calls Tryz.prog 69 #[.pointer (some ⟨S, 0, none⟩), setV x (.slice xo xn xc)] w fun e w' => e = .returned (.tuple #[]) ∧ StoAt E w' S L D g base so sn sc bv d { s with prom := x.b, votes := mput slotK s.votes x.slot ⟨x.b, x.bytes⟩ } ∧ Upd [S, g] w w' := by
  obtain ⟨n1, n2, n3, n4, n5, n6⟩ := h.nes
  have hDl := blk_lt h.dsk.hD
  have hSl := blk_lt h.blk
  obtain ⟨k, slot, ⟨n, r⟩, bytes⟩ := x
  simp only at hb hsl ⊢
  have hX := blk_new w (setC k slot n r (.slice xo xn xc))
  have hP := blk_alloc h.blk (setC k slot n r (.slice xo xn xc))
  have hu := (Upd.refl [] w).alloc (setC k slot n r (.slice xo xn xc))
  have H := hide h
  clear h
  go_enter Tryz.func69, Tryz.ntmps69
  go_upto_region 1 with fail
  generalize w.alloc (setC k slot n r (.slice xo xn xc)) = w2 at *
  have x0 : w2.cell? ⟨w.heap.size, 0, none⟩ = some (.int .u64 (k : Int)) := blk_cell hX rfl
  have x2 : w2.cell? ⟨w.heap.size, 2, none⟩ = some (.int .u64 (n : Int)) := blk_cell hX rfl
  have x3 : w2.cell? ⟨w.heap.size, 3, none⟩ = some (.int .i64 r) := blk_cell hX rfl
  have y1 : w2.cell? ⟨S, 1, none⟩ = some (.int .u64 (s.prom.n : Int)) := blk_cell hP rfl
  have y2 : w2.cell? ⟨S, 2, none⟩ = some (.int .i64 s.prom.r) := blk_cell hP rfl
  have f1 := blk_free (i := 1) hP
  have f2 := blk_free (i := 2) hP
  go_upto_region 2 with fail
  have hu3 : Upd [S] w ((w2.setCell ⟨S, 1, none⟩ (.int .u64 (n : Int))).setCell ⟨S, 2, none⟩ (.int .i64 r)) := ((hu.mono (by simp)).setCell (.inl (by simp)) _).setCell (.inl (by simp)) _
  have hu23 : Upd [S] w2 ((w2.setCell ⟨S, 1, none⟩ (.int .u64 (n : Int))).setCell ⟨S, 2, none⟩ (.int .i64 r)) := ((Upd.refl [S] w2).setCell (.inl (by simp)) _).setCell (.inl (by simp)) _
  have h3 : StoAt E ((w2.setCell ⟨S, 1, none⟩ (.int .u64 (n : Int))).setCell ⟨S, 2, none⟩ (.int .i64 r)) S L D g base so sn sc bv d { s with prom := ⟨n, r⟩ } := H.out.setS hu3 (blk_set (blk_set hP _) _) (fun hl => hl) rfl
  have hX3 := hu23.get hX (by simp; omega)
  have hb3 := hb.upd hu3 hDl (by simpa using n4.symm) (by simp)
  generalize (w2.setCell ⟨S, 1, none⟩ (.int .u64 (n : Int))).setCell ⟨S, 2, none⟩ (.int .i64 r) = w3 at *
  obtain ⟨B, hBn⟩ : ∃ B, w.heap.size = B := ⟨_, rfl⟩
  have hBg : B ∉ [g] := by have := h3.vts.safe.lt; have := H.out.vts.safe.lt; simp; omega
  rw [hBn] at hX3 ⊢
  have X1 := hide (show w3.cell? ⟨B, 1, none⟩ = some (.int .u64 (slot : Int)) from blk_cell hX3 rfl)
  have X2 := hide (show w3.cell? ⟨B, 2, none⟩ = some (.int .u64 (n : Int)) from blk_cell hX3 rfl)
  have X3 := hide (show w3.cell? ⟨B, 3, none⟩ = some (.int .i64 r) from blk_cell hX3 rfl)
  have X4 := hide (show w3.cell? ⟨B, 4, none⟩ = some (.slice xo xn xc) from blk_cell hX3 rfl)
  have Y4 := hide (show w3.cell? ⟨S, 5, none⟩ = some (.map (some g)) from blk_cell h3.blk rfl)
  have H3 := hide h3; have B3 := hide hb3; have U3 := hide hu3; have BG := hide hBg
  have hSg : S ∉ [g] := by simpa using n2
  have SG := hide hSg
  clear hX hP hu x0 x2 x3 y1 y2 f1 f2 hu23 hX3 hb3 hu3 h3 hBg hb hSg
  have s0 : Upd [g] w3 (w3.drewN 1) := (Upd.refl _ w3).drewN 1
  have d0 : Upd [] w3 (w3.drewN 1) := (Upd.refl _ w3).drewN 1
  refine wp_region_seqP votedOps2 (by kernel_rfl) [12, 14] [0, 1, 2, 3, 4, 5, 6, 7, 8, 9, 10, 11, 12, 13, 14] (fun wx => Upd [g] w3 wx) (by kernel_rfl) (by kernel_rfl) (fun _ _ d _ _ h => by cases d <;> exact h) s0 ?_
  simp only [pickO, List.filterMap_cons, List.filterMap_nil, List.getElem?_cons_succ, List.getElem?_cons_zero]
  refine wpSeqP_take (by kernel_rfl) (by kernel_rfl) ?_
  apply Exists.intro
  refine ⟨fun wx hS => ?_, fun a' ha => ?_⟩
  · go_simp; rfl
  simp only [Act.put, List.setIfInBounds_toArray, List.set_cons_succ, List.set_cons_zero] at ha
  subst ha
  refine wpSeqP_take (by kernel_rfl) (by kernel_rfl) ?_
  apply Exists.intro
  refine ⟨fun wx hS => ?_, fun a' ha => ?_⟩
  · go_simp; rfl
  simp only [Act.put, List.setIfInBounds_toArray, List.set_cons_succ, List.set_cons_zero] at ha
  subst ha
  refine wpSeqP_take (by kernel_rfl) (by kernel_rfl) ?_
  apply Exists.intro
  refine ⟨fun wx hS => ?_, fun a' ha => ?_⟩
  · go_simp; rfl
  simp only [Act.put, List.setIfInBounds_toArray, List.set_cons_succ, List.set_cons_zero] at ha
  subst ha
  refine wpSeqP_take (by kernel_rfl) (by kernel_rfl) ?_
  apply Exists.intro
  refine ⟨fun wx hS => ?_, fun a' ha => ?_⟩
  · have c0 := Rec.cell_keep hS Y4.out SG.out; go_simp; rfl
  simp only [Act.put, List.setIfInBounds_toArray, List.set_cons_succ, List.set_cons_zero] at ha
  subst ha
  refine wpSeqP_take (by kernel_rfl) (by kernel_rfl) ?_
  apply Exists.intro
  refine ⟨fun wx hS => ?_, fun a' ha => ?_⟩
  · go_simp; rfl
  simp only [Act.put, List.setIfInBounds_toArray, List.set_cons_succ, List.set_cons_zero] at ha
  subst ha
  refine wpSeqP_take (by kernel_rfl) (by kernel_rfl) ?_
  apply Exists.intro
  refine ⟨fun wx hS => ?_, fun a' ha => ?_⟩
  · have c0 := Rec.cell_keep hS X1.out BG.out; go_simp; rfl
  simp only [Act.put, List.setIfInBounds_toArray, List.set_cons_succ, List.set_cons_zero] at ha
  subst ha
  refine wpSeqP_take (by kernel_rfl) (by kernel_rfl) ?_
  apply Exists.intro
  refine ⟨fun wx hS => ?_, fun a' ha => ?_⟩
  · go_simp; rfl
  simp only [Act.put, List.setIfInBounds_toArray, List.set_cons_succ, List.set_cons_zero] at ha
  subst ha
  refine wpSeqP_take (by kernel_rfl) (by kernel_rfl) ?_
  apply Exists.intro
  refine ⟨fun wx hS => ?_, fun a' ha => ?_⟩
  · have c0 := Rec.cell_keep hS X1.out BG.out; go_simp; rfl
  simp only [Act.put, List.setIfInBounds_toArray, List.set_cons_succ, List.set_cons_zero] at ha
  subst ha
  refine wpSeqP_take (by kernel_rfl) (by kernel_rfl) ?_
  apply Exists.intro
  refine ⟨fun wx hS => ?_, fun a' ha => ?_⟩
  · go_simp; rfl
  simp only [Act.put, List.setIfInBounds_toArray, List.set_cons_succ, List.set_cons_zero] at ha
  subst ha
  refine wpSeqP_take (by kernel_rfl) (by kernel_rfl) ?_
  apply Exists.intro
  refine ⟨fun wx hS => ?_, fun a' ha => ?_⟩
  · have c0 := Rec.cell_keep hS X2.out BG.out;have c1 := Rec.cell_keep hS X3.out BG.out; go_simp; rfl
  simp only [Act.put, List.setIfInBounds_toArray, List.set_cons_succ, List.set_cons_zero] at ha
  subst ha
  refine wpSeqP_take (by kernel_rfl) (by kernel_rfl) ?_
  apply Exists.intro
  refine ⟨fun wx hS => ?_, fun a' ha => ?_⟩
  · go_simp; rfl
  simp only [Act.put, List.setIfInBounds_toArray, List.set_cons_succ, List.set_cons_zero] at ha
  subst ha
  refine wpSeqP_take (by kernel_rfl) (by kernel_rfl) ?_
  apply Exists.intro
  refine ⟨fun wx hS => ?_, fun a' ha => ?_⟩
  · have c0 := Rec.cell_keep hS X4.out BG.out; go_simp; rfl
  simp only [Act.put, List.setIfInBounds_toArray, List.set_cons_succ, List.set_cons_zero] at ha
  subst ha
  refine wpSeqP_one (by kernel_rfl) (by kernel_rfl) (fun K hK => ?_)
  go_simp
  refine (clone_any (w3.drewN 1) (src_upd B3.out.src d0 (by simp)) (by omega)).mono ?_
  rintro e w4 ⟨⟨ao, cap, rfl, ho⟩, hu4⟩
  have hu34 := d0.trans hu4
  obtain ⟨yo, hyo⟩ := new_vr ho
  have h4 := H3.out.upd_nil hu34
  have hl4 : Lies w4 D (S :: L :: g :: E) ao xn cap bytes := lies_new (H3.out.upd_nil d0).dsk hu4 ho (by
    have := d0.size
    have h5 := H3.out.sS.lt
    have h6 := H3.out.sL.lt
    have h7 := H3.out.vts.safe.lt
    simp only [List.mem_cons]
    rintro k (rfl | rfl | rfl | hk)
    · omega
    · omega
    · omega
    · have := H3.out.ext k hk; omega)
  obtain ⟨w5, r5, v5, u5⟩ := votes_put (k := slot) (x := ⟨slot, n, r, yo, xn, cap⟩) (v := ⟨⟨n, r⟩, bytes⟩) h4.vts (blk_lt h4.dsk.hD) (by simp) ⟨rfl, rfl, rfl, by rw [hyo]; exact hl4⟩ hsl hvl
  simp only [vrV, hyo] at r5
  have s4 := s0.trans (hu4.mono (by simp))
  have s5 := s4.trans u5
  have HF := hide (h4.setV (s' := { s with prom := ⟨n, r⟩, votes := mput slotK s.votes slot ⟨⟨n, r⟩, bytes⟩ }) u5 v5 rfl rfl rfl)
  clear h4 hl4 ho hu4 hu34 v5 u5 hyo
  refine hK _ _ (s4) ?_
  clear hK K
  try simp only [Act.put, List.setIfInBounds_toArray, List.set_cons_succ, List.set_cons_zero]
  refine wpSeqP_take (by kernel_rfl) (by kernel_rfl) ?_
  apply Exists.intro
  refine ⟨fun wx hS => ?_, fun a' ha => ?_⟩
  · go_simp; rfl
  simp only [Act.put, List.setIfInBounds_toArray, List.set_cons_succ, List.set_cons_zero] at ha
  subst ha
  refine wpSeqP_one (by kernel_rfl) (by kernel_rfl) (fun K hK => ?_)
  go_simp
  refine hK _ _ (s5) ?_
  clear hK K
  try simp only [Act.put, List.setIfInBounds_toArray, List.set_cons_succ, List.set_cons_zero]
  unfold wpSeqP
  have UF := hide ((U3.out.mono (by simp) : Upd [S, g] w w3).trans (s5.mono (by simp)))
  clear s4 s5 s0 d0 r5
  go_wp2_with fail
  go_end0
  exact ⟨rfl, HF.out, UF.out⟩
end
end Go.Proofs.YtekbhfpdakhhkaaGreatDoor.St
