/- stable.Open of a disk whose log makes a store. -/
import Derived.Test.YtekbhfpdakhhkaaGreatDoorStP
import Derived.Test.YtekbhfpdakhhkaaGreatDoorStRd
namespace Go.Proofs.YtekbhfpdakhhkaaGreatDoor.St
set_option linter.unusedSimpArgs false
set_option linter.unusedVariables false
set_option linter.unnecessarySimpa false
open Go.RowKit Go.Lib Go.Proofs.YtekbhfpdakhhkaaGreatDoor.Crc Go.Proofs.YtekbhfpdakhhkaaGreatDoor.Var Go.Proofs.YtekbhfpdakhhkaaGreatDoor.DiskW Go.Proofs.YtekbhfpdakhhkaaGreatDoor.Rec Go.Proofs.YtekbhfpdakhhkaaGreatDoor.Fr

/-- What a record makes of a store. -/
def stepS (s : Sto) (ins : List UInt8) : Option Sto := if readOk (readS ins) = true ∧ mayM s (readS ins).1 = 0 then some (doM s (readS ins).1) else none
def openS : List (List UInt8) → Sto → Option Sto
  | [], s => some s
  | x :: xs, s => (stepS s x).bind (openS xs)
theorem openS_append {xs ys : List (List UInt8)} {s : Sto} : openS (xs ++ ys) s = (openS xs s).bind (openS ys) := by
  induction xs generalizing s with
  | nil => rfl
  | cons x xs ih =>
    simp only [List.cons_append, openS]
    cases stepS s x with
    | none => rfl
    | some t => exact ih
theorem openS_take {ls : List (List UInt8)} {s t : Sto} (h : openS ls s = some t) (i : Nat) (hi : i < ls.length) : ∃ u, openS (ls.take i) s = some u ∧ readOk (readS ls[i]) = true ∧ mayM u (readS ls[i]).1 = 0 ∧ openS (ls.take (i + 1)) s = some (doM u (readS ls[i]).1) := by
  have h1 : ls = ls.take i ++ (ls[i] :: ls.drop (i + 1)) := by rw [List.getElem_cons_drop, List.take_append_drop]
  have h0 := h
  rw [h1, openS_append] at h
  cases hu : openS (ls.take i) s with
  | none => rw [hu] at h; cases h
  | some u =>
    rw [hu] at h
    simp only [Option.bind_some, openS] at h
    have hst : ∃ v, stepS u ls[i] = some v := by
      cases hs : stepS u ls[i] with
      | none => rw [hs] at h; cases h
      | some v => exact ⟨v, rfl⟩
    obtain ⟨v, hv⟩ := hst
    have hv2 := hv
    unfold stepS at hv
    split at hv
    · rename_i hc
      cases hv
      refine ⟨u, rfl, hc.1, hc.2, ?_⟩
      rw [List.take_succ_eq_append_getElem hi, openS_append, hu]
      simp only [Option.bind_some, openS, hv2]
    · cases hv
theorem takeB_n (s : RS) : (takeB s).1.1.n < 18446744073709551616 := by
  unfold takeB
  by_cases h1 : (uintM (uintM s).2).2.1 ≠ 0
  · rw [if_pos h1]; simp [Bal.zero]
  · rw [if_neg h1]
    by_cases h2 : 7 ≤ (uintM (uintM s).2).1
    · rw [if_pos h2]; simp [Bal.zero]
    · rw [if_neg h2]; exact uintM_lt _
theorem ite_len {c : Prop} [Decidable c] {X : Type} {a : X × RS} {b : X × RS} {n : Nat} (h1 : a.2.2.length ≤ n) (h2 : b.2.2.length ≤ n) : (if c then a else b).2.2.length ≤ n := by
  by_cases h : c
  · rw [if_pos h]; exact h1
  · rw [if_neg h]; exact h2
theorem readS_len (bs : List UInt8) : (readS bs).1.bytes.length ≤ bs.length := by
  have l0 : (uintM (0, bs)).2.2.length ≤ bs.length := uintM_len (0, bs)
  have l1 := uintM_len (uintM (0, bs)).2
  have ha : (if (uintM (0, bs)).1 ≠ 1 then uintM (uintM (0, bs)).2 else (0, (uintM (0, bs)).2)).2.2.length ≤ bs.length := ite_len (Nat.le_trans l1 l0) l0
  have hb : (if (uintM (0, bs)).1 ≠ 3 then takeB (if (uintM (0, bs)).1 ≠ 1 then uintM (uintM (0, bs)).2 else (0, (uintM (0, bs)).2)).2 else ((Bal.zero, (0 : Int)), (if (uintM (0, bs)).1 ≠ 1 then uintM (uintM (0, bs)).2 else (0, (uintM (0, bs)).2)).2)).2.2.length ≤ bs.length :=
    ite_len (Nat.le_trans (takeB_len _) ha) ha
  unfold readS
  simp only
  by_cases h : (uintM (0, bs)).1 ≠ 1
  · rw [if_pos h]
    exact Nat.le_trans (textM_len _ _) hb
  · rw [if_neg h]
    simp
theorem readS_ok {bs : List UInt8} (hl : bs.length ≤ 1000) (h : readOk (readS bs) = true) : SetOk (readS bs).1 := by
  have h1 : (readS bs).1.kind = 1 ∨ (readS bs).1.kind = 2 ∨ (readS bs).1.kind = 3 := by
    unfold readOk at h
    simp only [Bool.and_eq_true, decide_eq_true_eq] at h
    exact h.1.2
  refine ⟨h1, ?_, ?_, Nat.le_trans (readS_len bs) hl⟩
  · unfold readS
    simp only
    by_cases h : (uintM (0, bs)).1 ≠ 1
    · rw [if_pos h]; exact uintM_lt _
    · rw [if_neg h]; simp
  · unfold readS
    simp only
    by_cases h : (uintM (0, bs)).1 ≠ 3
    · rw [if_pos h]; exact takeB_n _
    · rw [if_neg h]; simp [Bal.zero]
theorem openS_ok {ls : List (List UInt8)} (hl : ∀ x ∈ ls, x.length ≤ 1000) {s t : Sto} {i : Nat} (hs : StoOk s i) (h : openS ls s = some t) : StoOk t (i + ls.length) := by
  induction ls generalizing s i with
  | nil => cases h; exact hs
  | cons x xs ih =>
    simp only [openS] at h
    cases hx : stepS s x with
    | none => rw [hx] at h; cases h
    | some u =>
      rw [hx] at h
      unfold stepS at hx
      split at hx
      · rename_i hc
        cases hx
        have := ih (fun y hy => hl y (by simp [hy])) (hs.next (readS_ok (hl x (by simp)) hc.1) hc.2) h
        exact this.mono (by simp; omega)
      · cases hx
noncomputable def openOps11 : Array Oper := findOps 11 ((Tryz.f10.body).getD .skip)
/-- The disk behind Open. -/
def cutD (d : DS) : DS := { d with byt := d.byt.take (d.syn + (all (d.byt.drop d.syn)).2.1), syn := d.syn + (all (d.byt.drop d.syn)).2.1 }
def recsD (d : DS) : List (List UInt8) := (all (d.byt.take d.syn)).1 ++ (all (d.byt.drop d.syn)).1
/-- What Open answers where the log makes a store. -/
def SOpen (w : World) (D base : Nat) (d : DS) (s : Sto) (e : Ending) (w' : World) : Prop :=
  ∃ S L g so sn sc bv', e = .returned (.tuple #[.pointer (some ⟨S, 0, none⟩), .int .i64 0]) ∧ StoAt [] w' S L D g base so sn sc bv' (cutD d) s ∧ w.heap.size ≤ S ∧ w.heap.size ≤ L ∧ w.heap.size ≤ g ∧ Near D w w'
section
variable {D base : Nat} {bv : Value} {d : DS} {s : Sto}
set_option maxRecDepth 100000 in
set_option maxHeartbeats 4000000 in
theorem sopen_on (w : World) (h : DiskAt w D base bv d) (hD : base ≤ D) (hb : base ≤ w.heap.size) (hok : d.Ok 1000000000000) (hd : d.dead = false) (hst : TabAt w)
    (hall : (all (d.byt.take d.syn)).2.2 = 0) (hf : openS (recsD d) sto0 = some s) (hrl : ∀ x ∈ recsD d, x.length ≤ 1000) (hrn : (recsD d).length < 900) :
    Calls Tryz.prog 10 #[.pointer (some ⟨D, 0, none⟩)] w (SOpen w D base d s) := by
  have hDl := blk_lt h.hD
  have HO := hide (open_on w h hD hb hok hd hst)
  have HALL := hide hall; have HF := hide hf; have HRL := hide hrl; have HH := hide h
  clear h hok hd hst hall hf hrl
  go_enter Tryz.func10, Tryz.ntmps10
  go_wp2_with fail
  refine HO.out.mono ?_
  rintro e w1 (⟨g1, -, -⟩ | ⟨-, L, v, vs, bv1, rfl, hL, hL0, hbL, hlie, hdk, hnr⟩)
  · exact absurd HALL.out g1
  change DiskAt w1 D base bv1 (cutD d) at hdk
  change Lie w1 D w.heap.size v (recsD d) vs at hlie
  obtain ⟨d1, hd1⟩ : ∃ d1, cutD d = d1 := ⟨_, rfl⟩
  obtain ⟨ls, hls⟩ : ∃ ls, recsD d = ls := ⟨_, rfl⟩
  rw [hd1] at hdk
  rw [hls] at hlie HF HRL hrn
  have hzw := hnr.size
  have hLl := blk_lt hL
  have HD1 := hide hd1; have NR := hide hnr; have LIE := hide hlie; have DK := hide hdk; have HL := hide hL; have BL := hide hbL
  clear hd1 hls hnr hlie hdk hL hbL HO HALL
  obtain ⟨va, vc, e5, hvc1, hvc2, hvcell⟩ := owns_slice LIE.out.rows.row
  subst e5
  have hmm := @run_makeMap Tryz.prog
  go_upto_region 5 with fail
  obtain ⟨S, hSn⟩ : ∃ S, w1.heap.size + 1 = S := ⟨_, rfl⟩
  obtain ⟨g, hgn⟩ : ∃ g, w1.heap.size = g := ⟨_, rfl⟩
  have hm0 : vtK.is (w1.alloc (.map #[] 0)) w1.heap.size [] := MapKind.is_new vtK w1
  have hua := (Upd.refl [] w1).alloc (.map #[] 0)
  have hub := (Upd.refl [] (w1.alloc (.map #[] 0))).alloc (.cells #[.pointer (some ⟨L, 0, none⟩), .int .u64 0, .int .i64 0, .int .u64 0, .slice none 0 0, .map (some w1.heap.size)] 79)
  have hSb := blk_new (w1.alloc (.map #[] 0)) (.cells #[.pointer (some ⟨L, 0, none⟩), .int .u64 0, .int .i64 0, .int .u64 0, .slice none 0 0, .map (some w1.heap.size)] 79)
  have hs2 : ((w1.alloc (.map #[] 0)).alloc (.cells #[.pointer (some ⟨L, 0, none⟩), .int .u64 0, .int .i64 0, .int .u64 0, .slice none 0 0, .map (some w1.heap.size)] 79)).heap.size = w1.heap.size + 2 := by simp
  have hm1 := MapKind.is_upd_nil hm0 hub
  have hu2 := hua.trans hub
  simp only [World.size_alloc] at hSb
  clear hm0 hua hub
  generalize (w1.alloc (.map #[] 0)).alloc (.cells #[.pointer (some ⟨L, 0, none⟩), .int .u64 0, .int .i64 0, .int .u64 0, .slice none 0 0, .map (some w1.heap.size)] 79) = w2 at *
  rw [hSn] at hSb ⊢
  rw [hgn] at hSb hm1 hs2 hSn ⊢
  have hDL : D < w1.heap.size := by omega
  have hst2 : StoAt [] w2 S L D g base none 0 0 bv1 d1 sto0 := by
    have fresh : ∀ k, w1.heap.size ≤ k → k < w2.heap.size → SafeB w2 D k := fun k h1 h2 => SafeB.fresh DK.out hu2 (by simp) h1 h2
    refine ⟨hSb, hu2.get HL.out (by simp), DK.out.upd hu2 (by simp) (by simp), ⟨⟨[], hm1, rise_nil, fun _ _ => rfl, fun k v hv => by cases hv⟩, fresh g (by omega) (by omega)⟩, ?_, fresh S (by omega) (by omega), ⟨by omega, by omega, fun ho => ?_⟩, by simp⟩
    · exact ⟨⟨rfl, by simp [sto0], fun _ => ⟨rfl, rfl⟩, fun a h => by cases h⟩, Nat.le_refl _, by simp [maxLen], fun a h => by cases h⟩
    · have h1 := (ownAt_upd hu2 hDL (by simp)).1 ho
      exact BL.out (DK.out.ownAt.1 h1)
  have ST2 := hide hst2; have U2 := hide hu2; have SGN := hide (show w1.heap.size ≤ S ∧ w1.heap.size ≤ g by omega)
  clear hst2 hu2 hm1 hSb hmm
  go_wp2_with fail
  go_loopw [27] (fun si wr => ∃ (i : Nat) (t : Sto), i ≤ ls.length ∧ si = .int .i64 i ∧ openS (ls.take i) sto0 = some t ∧ (∃ so sn sc, StoAt [] wr S L D g base so sn sc bv1 d1 t) ∧ Upd [] w1 wr) (fun si _ => ls.length - (intOf si).toNat)
  case atStart => exact ⟨0, sto0, by omega, rfl, rfl, ⟨_, _, _, ST2.out⟩, U2.out⟩
  case round =>
    obtain ⟨i, u, hi, rfl, hop, ⟨so, sn, sc, hst⟩, hu⟩ := hrel
    have OP := hide hop; have ST := hide hst; have U := hide hu
    have hzr := hu.size
    clear hop hst hu
    by_cases hil : i < ls.length
    · have q1 : decide ((i : Int) < (ls.length : Int)) = true := by simp; omega
      have q1' : decide (i < ls.length) = true := by simpa using hil
      obtain ⟨xo0, n0, c0, hvs, hsrc, hnc, hcm, -⟩ := LIE.out.rows.cell i ls[i] (by simp [hil])
      obtain ⟨gg, eg, -, -, hcell⟩ := hvcell i _ hvs
      subst eg
      have hci := Rec.cell_keep U.out hcell (by simp)
      obtain ⟨u', hu', hro, hma, hnx⟩ := openS_take HF.out i hil
      rw [OP.out] at hu'
      obtain rfl := Option.some.inj hu'
      have hll := HRL.out ls[i] (List.getElem_mem hil)
      have hn0 : n0 = ls[i].length := by have := hsrc.len; simpa using this.symm
      have hsr := src_upd hsrc U.out (by simp)
      have hox := readS_ok hll hro
      have hso : StoOk u (0 + (ls.take i).length) := openS_ok (fun x hx => HRL.out x (List.mem_of_mem_take hx)) StoOk.zero OP.out
      have hrd := read_any (bs := ls[i]) wr hsr hnc (by omega)
      rw [hro] at hrd
      generalize readS ls[i] = RS0 at hro hma hnx hox hrd
      obtain ⟨⟨k, slot, ⟨n, r⟩, bytes⟩, e0, s0⟩ := RS0
      simp only at hma hnx hox hrd
      have RD := hide hrd; have MA := hide hma; have NXT := hide hnx; have OX := hide hox; have SO := hide hso
      have hxk := hox.kind
      have hxs := hox.slot
      have hxl := hox.len
      simp only at hxk hxs hxl
      clear hcell hsrc hvs hro hma hnx hox hrd hso hsr hn0
      go_wp2_with fail
      refine RD.out.mono ?_
      rintro e w3 ⟨⟨xo, xn, xc, rfl, hfb⟩, hu3⟩
      have hlb := hfb.lies (X := [S, L, g]) ST.out.dsk hu3 (by
        have h5 := ST.out.sS.lt
        have h6 := ST.out.sL.lt
        have h7 := ST.out.vts.safe.lt
        simp only [List.mem_cons, List.not_mem_nil, or_false]
        rintro k (rfl | rfl | rfl) <;> omega)
      have hX := blk_new w3 (setC k slot n r (.slice xo xn xc))
      have hu4 := (Upd.refl [] w3).alloc (setC k slot n r (.slice xo xn xc))
      have hxn : xn ≤ 1000 := by have := hlb.len; omega
      have hst4 := (ST.out.upd_nil hu3).upd_nil hu4
      have hb4 := hlb.upd hu4 (by have := hu3.size; omega) (by simp) (by simp)
      have hsz3 := hu3.size
      clear RD hci
      go_upto_region 9 with fail
      have hU4 := (U.out.trans hu3).trans hu4
      generalize w3.alloc (setC k slot n r (.slice xo xn xc)) = w4 at *
      obtain ⟨B, hBn⟩ : ∃ B, w3.heap.size = B := ⟨_, rfl⟩
      rw [hBn] at hX ⊢
      have hBSG : B ≠ S ∧ B ≠ g := by
        have h5 := ST.out.sS.lt
        have h7 := ST.out.vts.safe.lt
        omega
      have BSG := hide hBSG
      have x0 := blk_cell (i := 0) hX rfl
      have x1 := blk_cell (i := 1) hX rfl
      have x2 := blk_cell (i := 2) hX rfl
      have x3 := blk_cell (i := 3) hX rfl
      have x4 := blk_cell (i := 4) hX rfl
      have ST4 := hide hst4; have L4 := hide hb4; have BX := hide hX; have U4 := hide hU4
      clear hst4 hb4 hX hU4 hu3 hu4 hlb hfb hBSG hBn
      go_wp2_with fail
      refine (may_any w4 ST4.out ⟨k, slot, ⟨n, r⟩, bytes⟩ xo xn xc).mono ?_
      rw [MA.out]
      rintro e w5 ⟨rfl, hu5⟩
      have ST5 := hide (ST4.out.upd_nil hu5); have LI5 := hide (L4.out.upd hu5 (blk_lt ST4.out.dsk.hD) (by simp) (by simp)); have B5 := hide (hu5.get BX.out (by simp)); have U5 := hide (U4.out.trans hu5)
      have T5 := hide (Turned.of_upd (X := [S, g]) hu5 (blk_lt ST4.out.dsk.hD) (by simp) (by simp))
      have q0 : (((0 : Nat) : Int) != 0) = false := rfl
      clear hu5 x0 x1 x2 x3 x4
      rcases hxk with hk | hk | hk
      · have KF := hide (show fnV ((mfind kindsL k).getD none) = .func (.func 68) #[] #[] by rw [hk]; rfl)
        have HKK := hide hk
        have hk64 : k < 1000 := by omega
        clear hk
        go_upto_region 11 with fail
        have q5 : Upd [] w5 (w5.drewN 1) := (Upd.refl [] w5).drewN 1
        refine wp_region_seqP openOps11 (by kernel_rfl) [0, 3, 6] [1, 2, 4, 5, 0, 3, 6] (BoxAt B k slot n r (.slice xo xn xc)) (by kernel_rfl) (by kernel_rfl) (fun _ _ d _ _ h => by cases d <;> exact h) (q5.get B5.out (by simp)) ?_
        simp only [pickO, List.filterMap_cons, List.filterMap_nil, List.getElem?_cons_succ, List.getElem?_cons_zero]
        refine wpSeqP_take (by kernel_rfl) (by kernel_rfl) ?_
        apply Exists.intro
        refine ⟨fun wx hS => ?_, fun a' ha => ?_⟩
        · go_simp; rfl
        simp only [Act.put, List.setIfInBounds_toArray, List.set_cons_succ, List.set_cons_zero] at ha
        subst ha
        refine wpSeqP_take (by kernel_rfl) (by kernel_rfl) ?_
        apply Exists.intro
        refine ⟨fun wx hS => ?_, fun a' ha => ?_⟩
        · have c0 : wx.cell? ⟨B, 0, none⟩ = some (.int .u64 (k : Int)) := blk_cell hS rfl; go_simp; rfl
        simp only [Act.put, List.setIfInBounds_toArray, List.set_cons_succ, List.set_cons_zero] at ha
        subst ha
        refine wpSeqP_take (by kernel_rfl) (by kernel_rfl) ?_
        apply Exists.intro
        refine ⟨fun wx hS => ?_, fun a' ha => ?_⟩
        · go_simp; rfl
        simp only [Act.put, List.setIfInBounds_toArray, List.set_cons_succ, List.set_cons_zero] at ha
        subst ha
        refine wpSeqP_take (by kernel_rfl) (by kernel_rfl) ?_
        apply Exists.intro
        refine ⟨fun wx hS => ?_, fun a' ha => ?_⟩
        · have c0 : wx.cell? ⟨B, 0, none⟩ = some (.int .u64 (k : Int)) := blk_cell hS rfl;have c1 : wx.cell? ⟨B, 1, none⟩ = some (.int .u64 (slot : Int)) := blk_cell hS rfl;have c2 : wx.cell? ⟨B, 2, none⟩ = some (.int .u64 (n : Int)) := blk_cell hS rfl;have c3 : wx.cell? ⟨B, 3, none⟩ = some (.int .i64 r) := blk_cell hS rfl;have c4 : wx.cell? ⟨B, 4, none⟩ = some (.slice xo xn xc) := blk_cell hS rfl; go_simp; rfl
        simp only [Act.put, List.setIfInBounds_toArray, List.set_cons_succ, List.set_cons_zero] at ha
        subst ha
        refine wpSeqP_one (by kernel_rfl) (by kernel_rfl) (fun K hK => ?_)
        go_simp
        refine (does_any (w5.drewN 1)).mono ?_
        rintro en w6 ⟨rfl, hk6, hu6⟩
        obtain ⟨G, hG⟩ : ∃ G, (w5.drewN 1).heap.size = G := ⟨_, rfl⟩
        rw [hG] at hk6 ⊢
        clear hG
        have hlk : (Instr.lookup 86 (.map (some G)) (.int .u64 (k : Int)) false).run Tryz.prog w6 = .ok (fnV ((mfind kindsL k).getD none)) w6 := MapKind.look1 hk6 (k := k) (show k < 18446744073709551616 by omega)
        rw [KF.out] at hlk
        have hu56 := q5.trans hu6
        have b6 : BoxAt B k slot n r (.slice xo xn xc) w6 := hu56.get B5.out (by simp)
        have S6 := hide (ST5.out.upd_nil hu56)
        have L6 := hide (LI5.out.upd hu56 (blk_lt ST5.out.dsk.hD) (by simp) (by simp))
        have T6 := hide (T5.out.trans (Turned.of_upd (X := [S, g]) hu56 (blk_lt ST5.out.dsk.hD) (by simp) (by simp)))
        clear hk6 hu6
        refine hK _ _ (b6) ?_
        clear hK K
        try simp only [Act.put, List.setIfInBounds_toArray, List.set_cons_succ, List.set_cons_zero]
        refine wpSeqP_one (by kernel_rfl) (by kernel_rfl) (fun K hK => ?_)
        go_simp
        refine hK _ _ (b6) ?_
        clear hK K
        try simp only [Act.put, List.setIfInBounds_toArray, List.set_cons_succ, List.set_cons_zero]
        clear hlk
        refine wpSeqP_one (by kernel_rfl) (by kernel_rfl) (fun K hK => ?_)
        go_simp
        refine (do1_any w6 S6.out ⟨k, slot, ⟨n, r⟩, bytes⟩ xo xn xc HKK.out).mono ?_
        rintro en w7 ⟨rfl, h7, hu7⟩
        have b7 : BoxAt B k slot n r (.slice xo xn xc) w7 := hu7.get b6 (by have h1 := S6.out.sS.ne; have h2 := BSG.out; simp; omega)
        have H7 := hide h7
        have U7 := hide ((U5.out.trans hu56).trans_new hu7 (fun k hk => by have := SGN.out; simp at hk; rcases hk with rfl | rfl <;> exact .inr (by omega)))
        have hz7 := hu7.size
        clear hu7 h7
        refine hK _ _ (b7) ?_
        clear hK K
        try simp only [Act.put, List.setIfInBounds_toArray, List.set_cons_succ, List.set_cons_zero]
        unfold wpSeqP
        go_wp2_with fail
        go_roundw
        case rel =>
          refine ⟨i + 1, _, by omega, by go_num, NXT.out, H7.out, U7.out⟩
        case measure => simp [intOf]; omega
      · have KF := hide (show fnV ((mfind kindsL k).getD none) = .func (.func 69) #[] #[] by rw [hk]; rfl)
        have HKK := hide hk
        have hk64 : k < 1000 := by omega
        clear hk
        go_upto_region 11 with fail
        have q5 : Upd [] w5 (w5.drewN 1) := (Upd.refl [] w5).drewN 1
        refine wp_region_seqP openOps11 (by kernel_rfl) [0, 3, 6] [1, 2, 4, 5, 0, 3, 6] (BoxAt B k slot n r (.slice xo xn xc)) (by kernel_rfl) (by kernel_rfl) (fun _ _ d _ _ h => by cases d <;> exact h) (q5.get B5.out (by simp)) ?_
        simp only [pickO, List.filterMap_cons, List.filterMap_nil, List.getElem?_cons_succ, List.getElem?_cons_zero]
        refine wpSeqP_take (by kernel_rfl) (by kernel_rfl) ?_
        apply Exists.intro
        refine ⟨fun wx hS => ?_, fun a' ha => ?_⟩
        · go_simp; rfl
        simp only [Act.put, List.setIfInBounds_toArray, List.set_cons_succ, List.set_cons_zero] at ha
        subst ha
        refine wpSeqP_take (by kernel_rfl) (by kernel_rfl) ?_
        apply Exists.intro
        refine ⟨fun wx hS => ?_, fun a' ha => ?_⟩
        · have c0 : wx.cell? ⟨B, 0, none⟩ = some (.int .u64 (k : Int)) := blk_cell hS rfl; go_simp; rfl
        simp only [Act.put, List.setIfInBounds_toArray, List.set_cons_succ, List.set_cons_zero] at ha
        subst ha
        refine wpSeqP_take (by kernel_rfl) (by kernel_rfl) ?_
        apply Exists.intro
        refine ⟨fun wx hS => ?_, fun a' ha => ?_⟩
        · go_simp; rfl
        simp only [Act.put, List.setIfInBounds_toArray, List.set_cons_succ, List.set_cons_zero] at ha
        subst ha
        refine wpSeqP_take (by kernel_rfl) (by kernel_rfl) ?_
        apply Exists.intro
        refine ⟨fun wx hS => ?_, fun a' ha => ?_⟩
        · have c0 : wx.cell? ⟨B, 0, none⟩ = some (.int .u64 (k : Int)) := blk_cell hS rfl;have c1 : wx.cell? ⟨B, 1, none⟩ = some (.int .u64 (slot : Int)) := blk_cell hS rfl;have c2 : wx.cell? ⟨B, 2, none⟩ = some (.int .u64 (n : Int)) := blk_cell hS rfl;have c3 : wx.cell? ⟨B, 3, none⟩ = some (.int .i64 r) := blk_cell hS rfl;have c4 : wx.cell? ⟨B, 4, none⟩ = some (.slice xo xn xc) := blk_cell hS rfl; go_simp; rfl
        simp only [Act.put, List.setIfInBounds_toArray, List.set_cons_succ, List.set_cons_zero] at ha
        subst ha
        refine wpSeqP_one (by kernel_rfl) (by kernel_rfl) (fun K hK => ?_)
        go_simp
        refine (does_any (w5.drewN 1)).mono ?_
        rintro en w6 ⟨rfl, hk6, hu6⟩
        obtain ⟨G, hG⟩ : ∃ G, (w5.drewN 1).heap.size = G := ⟨_, rfl⟩
        rw [hG] at hk6 ⊢
        clear hG
        have hlk : (Instr.lookup 86 (.map (some G)) (.int .u64 (k : Int)) false).run Tryz.prog w6 = .ok (fnV ((mfind kindsL k).getD none)) w6 := MapKind.look1 hk6 (k := k) (show k < 18446744073709551616 by omega)
        rw [KF.out] at hlk
        have hu56 := q5.trans hu6
        have b6 : BoxAt B k slot n r (.slice xo xn xc) w6 := hu56.get B5.out (by simp)
        have S6 := hide (ST5.out.upd_nil hu56)
        have L6 := hide (LI5.out.upd hu56 (blk_lt ST5.out.dsk.hD) (by simp) (by simp))
        have T6 := hide (T5.out.trans (Turned.of_upd (X := [S, g]) hu56 (blk_lt ST5.out.dsk.hD) (by simp) (by simp)))
        clear hk6 hu6
        refine hK _ _ (b6) ?_
        clear hK K
        try simp only [Act.put, List.setIfInBounds_toArray, List.set_cons_succ, List.set_cons_zero]
        refine wpSeqP_one (by kernel_rfl) (by kernel_rfl) (fun K hK => ?_)
        go_simp
        refine hK _ _ (b6) ?_
        clear hK K
        try simp only [Act.put, List.setIfInBounds_toArray, List.set_cons_succ, List.set_cons_zero]
        clear hlk
        refine wpSeqP_one (by kernel_rfl) (by kernel_rfl) (fun K hK => ?_)
        go_simp
        refine (do2_any w6 S6.out ⟨k, slot, ⟨n, r⟩, bytes⟩ xo xn xc HKK.out L6.out (by omega) hxs (by have := SO.out.len; simp at this; omega)).mono ?_
        rintro en w7 ⟨rfl, h7, hu7⟩
        have b7 : BoxAt B k slot n r (.slice xo xn xc) w7 := hu7.get b6 (by have h1 := S6.out.sS.ne; have h2 := BSG.out; simp; omega)
        have H7 := hide h7
        have U7 := hide ((U5.out.trans hu56).trans_new hu7 (fun k hk => by have := SGN.out; simp at hk; rcases hk with rfl | rfl <;> exact .inr (by omega)))
        have hz7 := hu7.size
        clear hu7 h7
        refine hK _ _ (b7) ?_
        clear hK K
        try simp only [Act.put, List.setIfInBounds_toArray, List.set_cons_succ, List.set_cons_zero]
        unfold wpSeqP
        go_wp2_with fail
        go_roundw
        case rel =>
          refine ⟨i + 1, _, by omega, by go_num, NXT.out, H7.out, U7.out⟩
        case measure => simp [intOf]; omega
      · have KF := hide (show fnV ((mfind kindsL k).getD none) = .func (.func 70) #[] #[] by rw [hk]; rfl)
        have HKK := hide hk
        have hk64 : k < 1000 := by omega
        clear hk
        go_upto_region 11 with fail
        have q5 : Upd [] w5 (w5.drewN 1) := (Upd.refl [] w5).drewN 1
        refine wp_region_seqP openOps11 (by kernel_rfl) [0, 3, 6] [1, 2, 4, 5, 0, 3, 6] (BoxAt B k slot n r (.slice xo xn xc)) (by kernel_rfl) (by kernel_rfl) (fun _ _ d _ _ h => by cases d <;> exact h) (q5.get B5.out (by simp)) ?_
        simp only [pickO, List.filterMap_cons, List.filterMap_nil, List.getElem?_cons_succ, List.getElem?_cons_zero]
        refine wpSeqP_take (by kernel_rfl) (by kernel_rfl) ?_
        apply Exists.intro
        refine ⟨fun wx hS => ?_, fun a' ha => ?_⟩
        · go_simp; rfl
        simp only [Act.put, List.setIfInBounds_toArray, List.set_cons_succ, List.set_cons_zero] at ha
        subst ha
        refine wpSeqP_take (by kernel_rfl) (by kernel_rfl) ?_
        apply Exists.intro
        refine ⟨fun wx hS => ?_, fun a' ha => ?_⟩
        · have c0 : wx.cell? ⟨B, 0, none⟩ = some (.int .u64 (k : Int)) := blk_cell hS rfl; go_simp; rfl
        simp only [Act.put, List.setIfInBounds_toArray, List.set_cons_succ, List.set_cons_zero] at ha
        subst ha
        refine wpSeqP_take (by kernel_rfl) (by kernel_rfl) ?_
        apply Exists.intro
        refine ⟨fun wx hS => ?_, fun a' ha => ?_⟩
        · go_simp; rfl
        simp only [Act.put, List.setIfInBounds_toArray, List.set_cons_succ, List.set_cons_zero] at ha
        subst ha
        refine wpSeqP_take (by kernel_rfl) (by kernel_rfl) ?_
        apply Exists.intro
        refine ⟨fun wx hS => ?_, fun a' ha => ?_⟩
        · have c0 : wx.cell? ⟨B, 0, none⟩ = some (.int .u64 (k : Int)) := blk_cell hS rfl;have c1 : wx.cell? ⟨B, 1, none⟩ = some (.int .u64 (slot : Int)) := blk_cell hS rfl;have c2 : wx.cell? ⟨B, 2, none⟩ = some (.int .u64 (n : Int)) := blk_cell hS rfl;have c3 : wx.cell? ⟨B, 3, none⟩ = some (.int .i64 r) := blk_cell hS rfl;have c4 : wx.cell? ⟨B, 4, none⟩ = some (.slice xo xn xc) := blk_cell hS rfl; go_simp; rfl
        simp only [Act.put, List.setIfInBounds_toArray, List.set_cons_succ, List.set_cons_zero] at ha
        subst ha
        refine wpSeqP_one (by kernel_rfl) (by kernel_rfl) (fun K hK => ?_)
        go_simp
        refine (does_any (w5.drewN 1)).mono ?_
        rintro en w6 ⟨rfl, hk6, hu6⟩
        obtain ⟨G, hG⟩ : ∃ G, (w5.drewN 1).heap.size = G := ⟨_, rfl⟩
        rw [hG] at hk6 ⊢
        clear hG
        have hlk : (Instr.lookup 86 (.map (some G)) (.int .u64 (k : Int)) false).run Tryz.prog w6 = .ok (fnV ((mfind kindsL k).getD none)) w6 := MapKind.look1 hk6 (k := k) (show k < 18446744073709551616 by omega)
        rw [KF.out] at hlk
        have hu56 := q5.trans hu6
        have b6 : BoxAt B k slot n r (.slice xo xn xc) w6 := hu56.get B5.out (by simp)
        have S6 := hide (ST5.out.upd_nil hu56)
        have L6 := hide (LI5.out.upd hu56 (blk_lt ST5.out.dsk.hD) (by simp) (by simp))
        have T6 := hide (T5.out.trans (Turned.of_upd (X := [S, g]) hu56 (blk_lt ST5.out.dsk.hD) (by simp) (by simp)))
        clear hk6 hu6
        refine hK _ _ (b6) ?_
        clear hK K
        try simp only [Act.put, List.setIfInBounds_toArray, List.set_cons_succ, List.set_cons_zero]
        refine wpSeqP_one (by kernel_rfl) (by kernel_rfl) (fun K hK => ?_)
        go_simp
        refine hK _ _ (b6) ?_
        clear hK K
        try simp only [Act.put, List.setIfInBounds_toArray, List.set_cons_succ, List.set_cons_zero]
        clear hlk
        refine wpSeqP_one (by kernel_rfl) (by kernel_rfl) (fun K hK => ?_)
        go_simp
        refine (do3_any w6 S6.out ⟨k, slot, ⟨n, r⟩, bytes⟩ xo xn xc HKK.out L6.out (by omega) hxs (fun p hp => (SO.out.vote p hp).2.2.2.2.1)).mono ?_
        rintro en w7 ⟨rfl, h7, hu7⟩
        have b7 : BoxAt B k slot n r (.slice xo xn xc) w7 := hu7.get b6 (by have h1 := S6.out.sS.ne; have h2 := BSG.out; simp; omega)
        have H7 := hide h7
        have U7 := hide ((U5.out.trans hu56).trans_new hu7 (fun k hk => by have := SGN.out; simp at hk; rcases hk with rfl | rfl <;> exact .inr (by omega)))
        have hz7 := hu7.size
        clear hu7 h7
        refine hK _ _ (b7) ?_
        clear hK K
        try simp only [Act.put, List.setIfInBounds_toArray, List.set_cons_succ, List.set_cons_zero]
        unfold wpSeqP
        go_wp2_with fail
        go_roundw
        case rel =>
          refine ⟨i + 1, _, by omega, by go_num, NXT.out, H7.out, U7.out⟩
        case measure => simp [intOf]; omega
    · have q1 : decide ((i : Int) < (ls.length : Int)) = false := by simp; omega
      have q1' : decide (i < ls.length) = false := by simpa using hil
      have e1 : ls.take i = ls := List.take_of_length_le (by omega)
      have e2 : s = u := by have := OP.out; rw [e1, HF.out] at this; exact Option.some.inj this
      have E2 := hide e2
      clear hil e1 e2
      go_wp2_with fail
      refine bodyPost_ret (results_tmp2 rfl _ _ _) rfl ?_
      rw [E2.out]
      refine ⟨S, L, g, so, sn, sc, bv1, rfl, by rw [HD1.out]; exact ST.out, by have := SGN.out; omega, hL0, by have := SGN.out; omega, NR.out.trans (Near.of_upd DK.out U.out)⟩
end
end Go.Proofs.YtekbhfpdakhhkaaGreatDoor.St
