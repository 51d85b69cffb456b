/- stable.Store.put: a set is done behind its record. -/
import Derived.Test.YtekbhfpdakhhkaaGreatDoorStCu
import Derived.Test.YtekbhfpdakhhkaaGreatDoorStW
import Derived.Test.YtekbhfpdakhhkaaGreatDoorStF
namespace Go.Proofs.YtekbhfpdakhhkaaGreatDoor.St
set_option linter.unusedSimpArgs false
set_option linter.unusedVariables false
set_option linter.unnecessarySimpa false
open Go.RowKit Go.Lib Go.Proofs.YtekbhfpdakhhkaaGreatDoor.Crc Go.Proofs.YtekbhfpdakhhkaaGreatDoor.Var Go.Proofs.YtekbhfpdakhhkaaGreatDoor.DiskW Go.Proofs.YtekbhfpdakhhkaaGreatDoor.Rec

/-- Only the disk, its bytes and some blocks have been turned. -/
structure Turned (D : Nat) (X : List Nat) (w w' : World) : Prop where
  upd : ∃ Y, Upd Y w w' ∧ ∀ k, k ∈ Y → k = D ∨ OwnAt w D k ∨ k ∈ X
  own : ∀ k, OwnAt w' D k → OwnAt w D k ∨ w.heap.size ≤ k
theorem Turned.size {D : Nat} {X : List Nat} {w w' : World} (h : Turned D X w w') : w.heap.size ≤ w'.heap.size := by
  obtain ⟨Y, h1, -⟩ := h.upd
  exact h1.size
theorem Turned.of_near {D : Nat} {X : List Nat} {w w' : World} (h : Near D w w') : Turned D X w w' := by
  obtain ⟨Y, h1, h2⟩ := h.upd
  exact ⟨⟨Y, h1, fun k hk => (h2 k hk).imp id .inl⟩, h.own⟩
theorem Turned.of_upd {D : Nat} {X Y : List Nat} {w w' : World} (hu : Upd Y w w') (hD : D < w.heap.size) (hDY : D ∉ Y) (hY : ∀ k ∈ Y, k ∈ X) : Turned D X w w' :=
  ⟨⟨Y, hu, fun k hk => .inr (.inr (hY k hk))⟩, fun k hk => .inl ((ownAt_upd hu hD hDY).1 hk)⟩
theorem Turned.trans {D : Nat} {X : List Nat} {a b c : World} (h : Turned D X a b) (kn : Turned D X b c) : Turned D X a c := by
  obtain ⟨Y1, h1, h2⟩ := h.upd
  obtain ⟨Y2, k1, k2⟩ := kn.upd
  have h5 : ∀ k, OwnAt c D k → OwnAt a D k ∨ a.heap.size ≤ k := fun k hk => by
    rcases kn.own k hk with g | g
    · exact h.own k g
    · exact .inr (Nat.le_trans h1.size g)
  refine ⟨⟨Y1 ++ Y2.filter (· < a.heap.size), ?_, fun k hk => ?_⟩, h5⟩
  · refine (h1.mono (by simp; intro k hk; exact .inl hk)).trans_new k1 fun k hk => ?_
    rcases Nat.lt_or_ge k a.heap.size with g | g
    · exact .inl (List.mem_append_right _ (List.mem_filter.2 ⟨hk, by simpa using g⟩))
    · exact .inr g
  · rcases List.mem_append.1 hk with g | g
    · exact h2 k g
    · obtain ⟨g1, g2⟩ := List.mem_filter.1 g
      rcases k2 k g1 with e | e | e
      · exact .inl e
      · rcases h.own k e with e1 | e1
        · exact .inr (.inl e1)
        · simp at g2; omega
      · exact .inr (.inr e)
theorem Turned.block {D k : Nat} {X : List Nat} {w w' : World} (h : Turned D X w w') (hk : SafeB w D k) (hX : k ∉ X) : SafeB w' D k ∧ w'.heap[k]? = w.heap[k]? := by
  obtain ⟨Y, h1, h2⟩ := h.upd
  refine ⟨⟨Nat.lt_of_lt_of_le hk.lt h1.size, hk.ne, fun ho => ?_⟩, h1.block k hk.lt fun hm => ?_⟩
  · rcases h.own k ho with g | g
    · exact hk.own g
    · have := hk.lt; omega
  · rcases h2 k hm with e | e | e
    · exact hk.ne e
    · exact hk.own e
    · exact hX e
theorem Turned.mono {D : Nat} {X X' : List Nat} {w w' : World} (h : Turned D X w w') (hX : ∀ k ∈ X, k ∈ X') : Turned D X' w w' := by
  obtain ⟨Y, h1, h2⟩ := h.upd
  exact ⟨⟨Y, h1, fun k hk => (h2 k hk).imp id fun e => e.imp id (hX k)⟩, h.own⟩
/-- What put does to the disk and the store, and answers. -/
def putT (d : DS) (s : Sto) (x : SetM) : (DS × Sto) × Int :=
  if mayM s x ≠ 0 then ((d, s), (mayM s x : Int)) else if (d.log (recB x)).2 ≠ 0 then (((d.log (recB x)).1, s), (d.log (recB x)).2) else (((d.log (recB x)).1, doM s x), 0)
section
variable {E : List Nat} {S L D g base : Nat} {so : Option Addr} {sn sc : Nat} {bv : Value} {d : DS} {s : Sto}
theorem do1_any (w : World) (h : StoAt E w S L D g base so sn sc bv d s) (x : SetM) (xo : Option Addr) (xn xc : Nat) (hk : x.kind = 1) :
    Calls Tryz.prog 68 #[.pointer (some ⟨S, 0, none⟩), setV x (.slice xo xn xc)] w fun e w' => e = .returned (.tuple #[]) ∧ (∃ so' sn' sc', StoAt E w' S L D g base so' sn' sc' bv d (doM s x)) ∧ Upd [S, g] w w' := by
  refine (promised_any w h x xo xn xc).mono ?_
  rintro e w' ⟨rfl, h1, hu⟩
  have : doM s x = { s with prom := x.b } := by unfold doM; rw [if_pos hk]
  exact ⟨rfl, ⟨_, _, _, by rw [this]; exact h1⟩, hu.mono (by simp)⟩
theorem do2_any (w : World) (h : StoAt E w S L D g base so sn sc bv d s) (x : SetM) (xo : Option Addr) (xn xc : Nat) (hk : x.kind = 2) (hb : Lies w D [S, L, g] xo xn xc x.bytes) (hn : xn ≤ 1000000) (hsl : x.slot < 18446744073709551616) (hvl : s.votes.length < 1000000) :
    Calls Tryz.prog 69 #[.pointer (some ⟨S, 0, none⟩), setV x (.slice xo xn xc)] w fun e w' => e = .returned (.tuple #[]) ∧ (∃ so' sn' sc', StoAt E w' S L D g base so' sn' sc' bv d (doM s x)) ∧ Upd [S, g] w w' := by
  refine (voted_any w h x xo xn xc hb hn hsl hvl).mono ?_
  rintro e w' ⟨rfl, h1, hu⟩
  have : doM s x = { s with prom := x.b, votes := mput slotK s.votes x.slot ⟨x.b, x.bytes⟩ } := by unfold doM; rw [if_neg (by omega), if_pos hk]
  exact ⟨rfl, ⟨_, _, _, by rw [this]; exact h1⟩, hu⟩
theorem do3_any (w : World) (h : StoAt E w S L D g base so sn sc bv d s) (x : SetM) (xo : Option Addr) (xn xc : Nat) (hk : x.kind = 3) (hb : Lies w D [S, L, g] xo xn xc x.bytes) (hn : xn ≤ 1000000) (hsl : x.slot < 18446744073709551616) (hvo : ∀ p ∈ s.votes, p.1 < 18446744073709551616) :
    Calls Tryz.prog 70 #[.pointer (some ⟨S, 0, none⟩), setV x (.slice xo xn xc)] w fun e w' => e = .returned (.tuple #[]) ∧ (∃ so' sn' sc', StoAt E w' S L D g base so' sn' sc' bv d (doM s x)) ∧ Upd [S, g] w w' := by
  refine (cut_any w h x xo xn xc hb hn hsl hvo).mono ?_
  rintro e w' ⟨rfl, h1, hu⟩
  have : doM s x = { s with base := x.slot, snap := x.bytes, votes := s.votes.filter fun p => !decide (p.1 ≤ x.slot) } := by unfold doM; rw [if_neg (by omega), if_neg (by omega)]
  exact ⟨rfl, by rw [this]; exact h1, hu⟩
noncomputable def putOps6 : Array Oper := findOps 6 ((Tryz.f38.body).getD .skip)
noncomputable def putOps9 : Array Oper := findOps 9 ((Tryz.f38.body).getD .skip)
def BoxAt (B k slot n : Nat) (r : Int) (v : Value) (wx : World) : Prop := wx.heap[B]? = some (setC k slot n r v)
set_option maxRecDepth 100000 in
set_option maxHeartbeats 4000000 in
theorem put_any {i : Nat} (w : World) (h : StoAt E w S L D g base so sn sc bv d s) (hst : TabAt w) (hD : base ≤ D) (hb : base ≤ w.heap.size) (hok : d.Ok 1000000000000) (hso : StoOk s i) (hi : i < 1000) (x : SetM) (hx : SetOk x) (xo : Option Addr) (xn xc : Nat) (hby : Lies w D [S, L, g] xo xn xc x.bytes) :
    Calls Tryz.prog 38 #[.pointer (some ⟨S, 0, none⟩), setV x (.slice xo xn xc)] w fun e w' => e = .returned (.int .i64 (putT d s x).2) ∧ (∃ bv' so' sn' sc', StoAt E w' S L D g base so' sn' sc' bv' (putT d s x).1.1 (putT d s x).1.2) ∧ Turned D [S, g] w w' := by
  obtain ⟨n1, n2, n3, n4, n5, n6⟩ := h.nes
  have hDl := blk_lt h.dsk.hD
  have hSl := blk_lt h.blk
  have hgl := h.vts.safe.lt
  have hxn : xn ≤ 1000 := by have := hby.len; have := hx.len; omega
  obtain ⟨k, slot, ⟨n, r⟩, bytes⟩ := x
  obtain ⟨m, hm⟩ : ∃ m, mayM s ⟨k, slot, ⟨n, r⟩, bytes⟩ = m := ⟨_, rfl⟩
  obtain ⟨res, hres⟩ : ∃ res, putT d s ⟨k, slot, ⟨n, r⟩, bytes⟩ = res := ⟨_, rfl⟩
  rw [hres]
  have hk3 := hx.kind
  have hsl := hx.slot
  simp only at hk3 hsl hby
  have hX := blk_new w (setC k slot n r (.slice xo xn xc))
  have hu := (Upd.refl [] w).alloc (setC k slot n r (.slice xo xn xc))
  have h2 := h.upd_nil hu
  have hb2 := hby.upd hu hDl (by simp) (by simp)
  have hsz2 : (w.alloc (setC k slot n r (.slice xo xn xc))).heap.size = w.heap.size + 1 := by simp
  have H2D := hide h.dsk
  clear h hby
  have HST := hide (hst.upd hu (by simp))
  have x0 := blk_cell (i := 0) hX rfl
  have x1 := blk_cell (i := 1) hX rfl
  have x2 := blk_cell (i := 2) hX rfl
  have x3 := blk_cell (i := 3) hX rfl
  have x4 := blk_cell (i := 4) hX rfl
  go_enter Tryz.func38, Tryz.ntmps38
  go_upto_region 3 with fail
  generalize w.alloc (setC k slot n r (.slice xo xn xc)) = w2 at *
  obtain ⟨B, hBn⟩ : ∃ B, w.heap.size = B := ⟨_, rfl⟩
  rw [hBn] at hX hsz2 x0 x1 x2 x3 x4 ⊢
  have H2 := hide h2; have L2 := hide hb2; have U2 := hide hu; have BX := hide hX; have HM := hide hm; have HR := hide hres; have HX := hide hx; have HOK := hide hok; have HSO := hide hso
  have hBSG : B ≠ S ∧ B ≠ g := by omega
  have BSG := hide hBSG
  clear h2 hb2 hu hX hm hres hx hst hok hso hBSG
  go_wp2_with fail
  refine (may_any w2 H2.out ⟨k, slot, ⟨n, r⟩, bytes⟩ xo xn xc).mono ?_
  rw [HM.out]
  rintro e w3 ⟨rfl, hu3⟩
  have H3 := hide (H2.out.upd_nil hu3); have L3 := hide (L2.out.upd hu3 (blk_lt H2.out.dsk.hD) (by simp) (by simp)); have BX3 := hide (hu3.get BX.out (by simp)); have ST3 := hide (HST.out.upd hu3 (by simp)); have U3 := hide (U2.out.trans hu3)
  have hs3 := hu3.size
  clear hu3 x0 x1 x2 x3 x4 H2 L2 BX HST U2
  by_cases hm0 : m = 0
  · subst hm0
    have hmay := may_ok HM.out
    simp only at hmay
    have hbr : k ≠ 3 → 0 ≤ r ∧ r < 7 := fun h => ⟨(hmay.1 h).1, (hmay.1 h).2.1⟩
    clear hmay
    obtain ⟨rb, hrb⟩ : ∃ rb, recB ⟨k, slot, ⟨n, r⟩, bytes⟩ = rb := ⟨_, rfl⟩
    have hrl : 0 < rb.length ∧ rb.length ≤ 2000 := by
      rw [← hrb]
      refine recB_len HX.out ?_
      by_cases h3 : k = 3
      · exact .inr h3
      · exact .inl (hbr h3)
    obtain ⟨d', e', hlog⟩ : ∃ d' e', d.log rb = (d', e') := ⟨_, _, rfl⟩
    have HRB := hide hrb; have HLOG := hide hlog; have HBR := hide hbr
    clear hrb hlog hbr
    have q0 : (((0 : Nat) : Int) != 0) = false := rfl
    go_upto_region 6 with fail
    have s0 : Upd [] w3 (w3.drewN 1) := (Upd.refl [] w3).drewN 1
    have y0 : w3.cell? ⟨S, 0, none⟩ = some (.pointer (some ⟨L, 0, none⟩)) := blk_cell H3.out.blk rfl
    have p3 : w3.cell? ⟨S, 0, none⟩ = some (.pointer (some ⟨L, 0, none⟩)) ∧ BoxAt B k slot n r (.slice xo xn xc) w3 := ⟨y0, BX3.out⟩
    have p0 : (w3.drewN 1).cell? ⟨S, 0, none⟩ = some (.pointer (some ⟨L, 0, none⟩)) ∧ BoxAt B k slot n r (.slice xo xn xc) (w3.drewN 1) := ⟨Rec.cell_keep s0 y0 (by simp), s0.get BX3.out (by simp)⟩
    clear y0 p3
    refine wp_region_seqP putOps6 (by kernel_rfl) [5, 6] [0, 1, 2, 3, 4, 5, 6, 7] (fun wx => wx.cell? ⟨S, 0, none⟩ = some (.pointer (some ⟨L, 0, none⟩)) ∧ BoxAt B k slot n r (.slice xo xn xc) wx) (by kernel_rfl) (by kernel_rfl) (fun _ _ d _ _ h => by cases d <;> exact h) p0 ?_
    simp only [pickO, List.filterMap_cons, List.filterMap_nil, List.getElem?_cons_succ, List.getElem?_cons_zero]
    refine wpSeqP_take (by kernel_rfl) (by kernel_rfl) ?_
    apply Exists.intro
    refine ⟨fun wx hS => ?_, fun a' ha => ?_⟩
    · go_simp; rfl
    simp only [Act.put, List.setIfInBounds_toArray, List.set_cons_succ, List.set_cons_zero] at ha
    subst ha
    refine wpSeqP_take (by kernel_rfl) (by kernel_rfl) ?_
    apply Exists.intro
    refine ⟨fun wx hS => ?_, fun a' ha => ?_⟩
    · go_simp; rfl
    simp only [Act.put, List.setIfInBounds_toArray, List.set_cons_succ, List.set_cons_zero] at ha
    subst ha
    refine wpSeqP_take (by kernel_rfl) (by kernel_rfl) ?_
    apply Exists.intro
    refine ⟨fun wx hS => ?_, fun a' ha => ?_⟩
    · go_simp; rfl
    simp only [Act.put, List.setIfInBounds_toArray, List.set_cons_succ, List.set_cons_zero] at ha
    subst ha
    refine wpSeqP_take (by kernel_rfl) (by kernel_rfl) ?_
    apply Exists.intro
    refine ⟨fun wx hS => ?_, fun a' ha => ?_⟩
    · have c0 := hS.1; go_simp; rfl
    simp only [Act.put, List.setIfInBounds_toArray, List.set_cons_succ, List.set_cons_zero] at ha
    subst ha
    refine wpSeqP_take (by kernel_rfl) (by kernel_rfl) ?_
    apply Exists.intro
    refine ⟨fun wx hS => ?_, fun a' ha => ?_⟩
    · have c0 : wx.cell? ⟨B, 0, none⟩ = some (.int .u64 (k : Int)) := blk_cell hS.2 rfl;have c1 : wx.cell? ⟨B, 1, none⟩ = some (.int .u64 (slot : Int)) := blk_cell hS.2 rfl;have c2 : wx.cell? ⟨B, 2, none⟩ = some (.int .u64 (n : Int)) := blk_cell hS.2 rfl;have c3 : wx.cell? ⟨B, 3, none⟩ = some (.int .i64 r) := blk_cell hS.2 rfl;have c4 : wx.cell? ⟨B, 4, none⟩ = some (.slice xo xn xc) := blk_cell hS.2 rfl; go_simp; rfl
    simp only [Act.put, List.setIfInBounds_toArray, List.set_cons_succ, List.set_cons_zero] at ha
    subst ha
    refine wpSeqP_one (by kernel_rfl) (by kernel_rfl) (fun K hK => ?_)
    go_simp
    refine (record_any (x := ⟨k, slot, ⟨n, r⟩, bytes⟩) (w3.drewN 1) HX.out HBR.out (src_upd L3.out.src s0 (by simp))).mono ?_
    rw [HRB.out]
    rintro en w4 ⟨v4, rfl, ho4, hu4⟩
    obtain ⟨a4, c4, rfl, hc41, hc42, -⟩ := owns_slice ho4
    have hu34 := s0.trans hu4
    have p4 : w4.cell? ⟨S, 0, none⟩ = some (.pointer (some ⟨L, 0, none⟩)) ∧ BoxAt B k slot n r (.slice xo xn xc) w4 := ⟨Rec.cell_keep hu4 p0.1 (by simp), hu4.get p0.2 (by simp)⟩
    have H4 := hide (H3.out.upd_nil hu34); have L4 := hide (L3.out.upd hu34 (blk_lt H3.out.dsk.hD) (by simp) (by simp)); have ST4 := hide (ST3.out.upd hu34 (by simp)); have U4 := hide (U3.out.trans hu34)
    have SR := hide (src_own ho4 (by simp [u8v, Value.oneCell']))
    have hs4 := hu34.size
    have SB := hide (SafeB.fresh (k := B) H2D.out U4.out (by simp) (by omega) (by omega))
    clear ho4 hu4 hu34 s0 p0
    refine hK _ _ (p4) ?_
    clear hK K
    try simp only [Act.put, List.setIfInBounds_toArray, List.set_cons_succ, List.set_cons_zero]
    refine wpSeqP_one (by kernel_rfl) (by kernel_rfl) (fun K hK => ?_)
    go_simp
    refine (lappend_any (bs := rb) w4 H4.out.dsk hD (by omega) H4.out.log ST4.out SR.out HOK.out (by omega)).mono ?_
    rw [HLOG.out]
    rintro en w5 ⟨v, rfl, rfl, bv', hd5, hbel5, hn5⟩
    have b5 : BoxAt B k slot n r (.slice xo xn xc) w5 := (SB.out.near hn5).2.trans p4.2
    have B5 := hide b5
    have ST5 := hide (H4.out.near hn5 hd5); have LI5 := hide (L4.out.near hn5)
    have T5 := hide ((Turned.of_upd (X := [S, g]) U4.out hDl (by simp) (by simp)).trans (Turned.of_near hn5))
    have p5 : w5.cell? ⟨S, 0, none⟩ = some (.pointer (some ⟨L, 0, none⟩)) ∧ BoxAt B k slot n r (.slice xo xn xc) w5 := ⟨blk_cell ST5.out.blk rfl, b5⟩
    clear hd5 hbel5 hn5 H4 L4 ST4 SR SB b5
    refine hK _ _ (p5) ?_
    clear hK K
    try simp only [Act.put, List.setIfInBounds_toArray, List.set_cons_succ, List.set_cons_zero]
    refine wpSeqP_take (by kernel_rfl) (by kernel_rfl) ?_
    apply Exists.intro
    refine ⟨fun wx hS => ?_, fun a' ha => ?_⟩
    · go_simp; rfl
    simp only [Act.put, List.setIfInBounds_toArray, List.set_cons_succ, List.set_cons_zero] at ha
    subst ha
    unfold wpSeqP
    clear p4 p5
    by_cases he : e' = 0
    · have qe : (e' != 0) = false := by simpa using he
      have hpt : res = ((d', doM s ⟨k, slot, ⟨n, r⟩, bytes⟩), 0) := by
        rw [← HR.out]
        unfold putT
        rw [HM.out, if_neg (by simp), HRB.out, HLOG.out]
        simp [he]
      have PT := hide hpt
      clear hpt he HR HLOG
      rcases hk3 with hk | hk | hk
      · have KF := hide (show fnV ((mfind kindsL k).getD none) = .func (.func 68) #[] #[] by rw [hk]; rfl)
        have HKK := hide hk
        have hk64 : k < 1000 := by omega
        clear hk
        go_upto_region 9 with fail
        have q5 : Upd [] w5 (w5.drewN 1) := (Upd.refl [] w5).drewN 1
        refine wp_region_seqP putOps9 (by kernel_rfl) [0, 3, 6] [1, 2, 4, 5, 0, 3, 6] (BoxAt B k slot n r (.slice xo xn xc)) (by kernel_rfl) (by kernel_rfl) (fun _ _ d _ _ h => by cases d <;> exact h) (q5.get B5.out (by simp)) ?_
        simp only [pickO, List.filterMap_cons, List.filterMap_nil, List.getElem?_cons_succ, List.getElem?_cons_zero]
        refine wpSeqP_take (by kernel_rfl) (by kernel_rfl) ?_
        apply Exists.intro
        refine ⟨fun wx hS => ?_, fun a' ha => ?_⟩
        · go_simp; rfl
        simp only [Act.put, List.setIfInBounds_toArray, List.set_cons_succ, List.set_cons_zero] at ha
        subst ha
        refine wpSeqP_take (by kernel_rfl) (by kernel_rfl) ?_
        apply Exists.intro
        refine ⟨fun wx hS => ?_, fun a' ha => ?_⟩
        · have c0 : wx.cell? ⟨B, 0, none⟩ = some (.int .u64 (k : Int)) := blk_cell hS rfl; go_simp; rfl
        simp only [Act.put, List.setIfInBounds_toArray, List.set_cons_succ, List.set_cons_zero] at ha
        subst ha
        refine wpSeqP_take (by kernel_rfl) (by kernel_rfl) ?_
        apply Exists.intro
        refine ⟨fun wx hS => ?_, fun a' ha => ?_⟩
        · go_simp; rfl
        simp only [Act.put, List.setIfInBounds_toArray, List.set_cons_succ, List.set_cons_zero] at ha
        subst ha
        refine wpSeqP_take (by kernel_rfl) (by kernel_rfl) ?_
        apply Exists.intro
        refine ⟨fun wx hS => ?_, fun a' ha => ?_⟩
        · have c0 : wx.cell? ⟨B, 0, none⟩ = some (.int .u64 (k : Int)) := blk_cell hS rfl;have c1 : wx.cell? ⟨B, 1, none⟩ = some (.int .u64 (slot : Int)) := blk_cell hS rfl;have c2 : wx.cell? ⟨B, 2, none⟩ = some (.int .u64 (n : Int)) := blk_cell hS rfl;have c3 : wx.cell? ⟨B, 3, none⟩ = some (.int .i64 r) := blk_cell hS rfl;have c4 : wx.cell? ⟨B, 4, none⟩ = some (.slice xo xn xc) := blk_cell hS rfl; go_simp; rfl
        simp only [Act.put, List.setIfInBounds_toArray, List.set_cons_succ, List.set_cons_zero] at ha
        subst ha
        refine wpSeqP_one (by kernel_rfl) (by kernel_rfl) (fun K hK => ?_)
        go_simp
        refine (does_any (w5.drewN 1)).mono ?_
        rintro en w6 ⟨rfl, hk6, hu6⟩
        obtain ⟨G, hG⟩ : ∃ G, (w5.drewN 1).heap.size = G := ⟨_, rfl⟩
        rw [hG] at hk6 ⊢
        clear hG
        have hlk : (Instr.lookup 86 (.map (some G)) (.int .u64 (k : Int)) false).run Tryz.prog w6 = .ok (fnV ((mfind kindsL k).getD none)) w6 := MapKind.look1 hk6 (k := k) (show k < 18446744073709551616 by omega)
        rw [KF.out] at hlk
        have hu56 := q5.trans hu6
        have b6 : BoxAt B k slot n r (.slice xo xn xc) w6 := hu56.get B5.out (by simp)
        have S6 := hide (ST5.out.upd_nil hu56)
        have L6 := hide (LI5.out.upd hu56 (blk_lt ST5.out.dsk.hD) (by simp) (by simp))
        have T6 := hide (T5.out.trans (Turned.of_upd (X := [S, g]) hu56 (blk_lt ST5.out.dsk.hD) (by simp) (by simp)))
        clear hk6 hu6
        refine hK _ _ (b6) ?_
        clear hK K
        try simp only [Act.put, List.setIfInBounds_toArray, List.set_cons_succ, List.set_cons_zero]
        refine wpSeqP_one (by kernel_rfl) (by kernel_rfl) (fun K hK => ?_)
        go_simp
        refine hK _ _ (b6) ?_
        clear hK K
        try simp only [Act.put, List.setIfInBounds_toArray, List.set_cons_succ, List.set_cons_zero]
        clear hlk
        refine wpSeqP_one (by kernel_rfl) (by kernel_rfl) (fun K hK => ?_)
        go_simp
        refine (do1_any w6 S6.out ⟨k, slot, ⟨n, r⟩, bytes⟩ xo xn xc HKK.out).mono ?_
        rintro en w7 ⟨rfl, h7, hu7⟩
        have b7 : BoxAt B k slot n r (.slice xo xn xc) w7 := hu7.get b6 (by have h1 := S6.out.sS.ne; have h2 := BSG.out; simp; omega)
        have T7 := hide (T6.out.trans (Turned.of_upd (X := [S, g]) hu7 (blk_lt S6.out.dsk.hD) (by obtain ⟨n1, n2, n3, n4, n5, n6⟩ := S6.out.nes; simp; omega) (by simp)))
        have H7 := hide h7
        clear hu7 h7
        refine hK _ _ (b7) ?_
        clear hK K
        try simp only [Act.put, List.setIfInBounds_toArray, List.set_cons_succ, List.set_cons_zero]
        unfold wpSeqP
        go_wp2_with fail
        go_ret
        rw [PT.out]
        obtain ⟨a, b, c, h9⟩ := H7.out
        exact ⟨rfl, ⟨_, _, _, _, h9⟩, T7.out⟩
      · have KF := hide (show fnV ((mfind kindsL k).getD none) = .func (.func 69) #[] #[] by rw [hk]; rfl)
        have HKK := hide hk
        have hk64 : k < 1000 := by omega
        clear hk
        go_upto_region 9 with fail
        have q5 : Upd [] w5 (w5.drewN 1) := (Upd.refl [] w5).drewN 1
        refine wp_region_seqP putOps9 (by kernel_rfl) [0, 3, 6] [1, 2, 4, 5, 0, 3, 6] (BoxAt B k slot n r (.slice xo xn xc)) (by kernel_rfl) (by kernel_rfl) (fun _ _ d _ _ h => by cases d <;> exact h) (q5.get B5.out (by simp)) ?_
        simp only [pickO, List.filterMap_cons, List.filterMap_nil, List.getElem?_cons_succ, List.getElem?_cons_zero]
        refine wpSeqP_take (by kernel_rfl) (by kernel_rfl) ?_
        apply Exists.intro
        refine ⟨fun wx hS => ?_, fun a' ha => ?_⟩
        · go_simp; rfl
        simp only [Act.put, List.setIfInBounds_toArray, List.set_cons_succ, List.set_cons_zero] at ha
        subst ha
        refine wpSeqP_take (by kernel_rfl) (by kernel_rfl) ?_
        apply Exists.intro
        refine ⟨fun wx hS => ?_, fun a' ha => ?_⟩
        · have c0 : wx.cell? ⟨B, 0, none⟩ = some (.int .u64 (k : Int)) := blk_cell hS rfl; go_simp; rfl
        simp only [Act.put, List.setIfInBounds_toArray, List.set_cons_succ, List.set_cons_zero] at ha
        subst ha
        refine wpSeqP_take (by kernel_rfl) (by kernel_rfl) ?_
        apply Exists.intro
        refine ⟨fun wx hS => ?_, fun a' ha => ?_⟩
        · go_simp; rfl
        simp only [Act.put, List.setIfInBounds_toArray, List.set_cons_succ, List.set_cons_zero] at ha
        subst ha
        refine wpSeqP_take (by kernel_rfl) (by kernel_rfl) ?_
        apply Exists.intro
        refine ⟨fun wx hS => ?_, fun a' ha => ?_⟩
        · have c0 : wx.cell? ⟨B, 0, none⟩ = some (.int .u64 (k : Int)) := blk_cell hS rfl;have c1 : wx.cell? ⟨B, 1, none⟩ = some (.int .u64 (slot : Int)) := blk_cell hS rfl;have c2 : wx.cell? ⟨B, 2, none⟩ = some (.int .u64 (n : Int)) := blk_cell hS rfl;have c3 : wx.cell? ⟨B, 3, none⟩ = some (.int .i64 r) := blk_cell hS rfl;have c4 : wx.cell? ⟨B, 4, none⟩ = some (.slice xo xn xc) := blk_cell hS rfl; go_simp; rfl
        simp only [Act.put, List.setIfInBounds_toArray, List.set_cons_succ, List.set_cons_zero] at ha
        subst ha
        refine wpSeqP_one (by kernel_rfl) (by kernel_rfl) (fun K hK => ?_)
        go_simp
        refine (does_any (w5.drewN 1)).mono ?_
        rintro en w6 ⟨rfl, hk6, hu6⟩
        obtain ⟨G, hG⟩ : ∃ G, (w5.drewN 1).heap.size = G := ⟨_, rfl⟩
        rw [hG] at hk6 ⊢
        clear hG
        have hlk : (Instr.lookup 86 (.map (some G)) (.int .u64 (k : Int)) false).run Tryz.prog w6 = .ok (fnV ((mfind kindsL k).getD none)) w6 := MapKind.look1 hk6 (k := k) (show k < 18446744073709551616 by omega)
        rw [KF.out] at hlk
        have hu56 := q5.trans hu6
        have b6 : BoxAt B k slot n r (.slice xo xn xc) w6 := hu56.get B5.out (by simp)
        have S6 := hide (ST5.out.upd_nil hu56)
        have L6 := hide (LI5.out.upd hu56 (blk_lt ST5.out.dsk.hD) (by simp) (by simp))
        have T6 := hide (T5.out.trans (Turned.of_upd (X := [S, g]) hu56 (blk_lt ST5.out.dsk.hD) (by simp) (by simp)))
        clear hk6 hu6
        refine hK _ _ (b6) ?_
        clear hK K
        try simp only [Act.put, List.setIfInBounds_toArray, List.set_cons_succ, List.set_cons_zero]
        refine wpSeqP_one (by kernel_rfl) (by kernel_rfl) (fun K hK => ?_)
        go_simp
        refine hK _ _ (b6) ?_
        clear hK K
        try simp only [Act.put, List.setIfInBounds_toArray, List.set_cons_succ, List.set_cons_zero]
        clear hlk
        refine wpSeqP_one (by kernel_rfl) (by kernel_rfl) (fun K hK => ?_)
        go_simp
        refine (do2_any w6 S6.out ⟨k, slot, ⟨n, r⟩, bytes⟩ xo xn xc HKK.out L6.out (by omega) hsl (by have := HSO.out.len; omega)).mono ?_
        rintro en w7 ⟨rfl, h7, hu7⟩
        have b7 : BoxAt B k slot n r (.slice xo xn xc) w7 := hu7.get b6 (by have h1 := S6.out.sS.ne; have h2 := BSG.out; simp; omega)
        have T7 := hide (T6.out.trans (Turned.of_upd (X := [S, g]) hu7 (blk_lt S6.out.dsk.hD) (by obtain ⟨n1, n2, n3, n4, n5, n6⟩ := S6.out.nes; simp; omega) (by simp)))
        have H7 := hide h7
        clear hu7 h7
        refine hK _ _ (b7) ?_
        clear hK K
        try simp only [Act.put, List.setIfInBounds_toArray, List.set_cons_succ, List.set_cons_zero]
        unfold wpSeqP
        go_wp2_with fail
        go_ret
        rw [PT.out]
        obtain ⟨a, b, c, h9⟩ := H7.out
        exact ⟨rfl, ⟨_, _, _, _, h9⟩, T7.out⟩
      · have KF := hide (show fnV ((mfind kindsL k).getD none) = .func (.func 70) #[] #[] by rw [hk]; rfl)
        have HKK := hide hk
        have hk64 : k < 1000 := by omega
        clear hk
        go_upto_region 9 with fail
        have q5 : Upd [] w5 (w5.drewN 1) := (Upd.refl [] w5).drewN 1
        refine wp_region_seqP putOps9 (by kernel_rfl) [0, 3, 6] [1, 2, 4, 5, 0, 3, 6] (BoxAt B k slot n r (.slice xo xn xc)) (by kernel_rfl) (by kernel_rfl) (fun _ _ d _ _ h => by cases d <;> exact h) (q5.get B5.out (by simp)) ?_
        simp only [pickO, List.filterMap_cons, List.filterMap_nil, List.getElem?_cons_succ, List.getElem?_cons_zero]
        refine wpSeqP_take (by kernel_rfl) (by kernel_rfl) ?_
        apply Exists.intro
        refine ⟨fun wx hS => ?_, fun a' ha => ?_⟩
        · go_simp; rfl
        simp only [Act.put, List.setIfInBounds_toArray, List.set_cons_succ, List.set_cons_zero] at ha
        subst ha
        refine wpSeqP_take (by kernel_rfl) (by kernel_rfl) ?_
        apply Exists.intro
        refine ⟨fun wx hS => ?_, fun a' ha => ?_⟩
        · have c0 : wx.cell? ⟨B, 0, none⟩ = some (.int .u64 (k : Int)) := blk_cell hS rfl; go_simp; rfl
        simp only [Act.put, List.setIfInBounds_toArray, List.set_cons_succ, List.set_cons_zero] at ha
        subst ha
        refine wpSeqP_take (by kernel_rfl) (by kernel_rfl) ?_
        apply Exists.intro
        refine ⟨fun wx hS => ?_, fun a' ha => ?_⟩
        · go_simp; rfl
        simp only [Act.put, List.setIfInBounds_toArray, List.set_cons_succ, List.set_cons_zero] at ha
        subst ha
        refine wpSeqP_take (by kernel_rfl) (by kernel_rfl) ?_
        apply Exists.intro
        refine ⟨fun wx hS => ?_, fun a' ha => ?_⟩
        · have c0 : wx.cell? ⟨B, 0, none⟩ = some (.int .u64 (k : Int)) := blk_cell hS rfl;have c1 : wx.cell? ⟨B, 1, none⟩ = some (.int .u64 (slot : Int)) := blk_cell hS rfl;have c2 : wx.cell? ⟨B, 2, none⟩ = some (.int .u64 (n : Int)) := blk_cell hS rfl;have c3 : wx.cell? ⟨B, 3, none⟩ = some (.int .i64 r) := blk_cell hS rfl;have c4 : wx.cell? ⟨B, 4, none⟩ = some (.slice xo xn xc) := blk_cell hS rfl; go_simp; rfl
        simp only [Act.put, List.setIfInBounds_toArray, List.set_cons_succ, List.set_cons_zero] at ha
        subst ha
        refine wpSeqP_one (by kernel_rfl) (by kernel_rfl) (fun K hK => ?_)
        go_simp
        refine (does_any (w5.drewN 1)).mono ?_
        rintro en w6 ⟨rfl, hk6, hu6⟩
        obtain ⟨G, hG⟩ : ∃ G, (w5.drewN 1).heap.size = G := ⟨_, rfl⟩
        rw [hG] at hk6 ⊢
        clear hG
        have hlk : (Instr.lookup 86 (.map (some G)) (.int .u64 (k : Int)) false).run Tryz.prog w6 = .ok (fnV ((mfind kindsL k).getD none)) w6 := MapKind.look1 hk6 (k := k) (show k < 18446744073709551616 by omega)
        rw [KF.out] at hlk
        have hu56 := q5.trans hu6
        have b6 : BoxAt B k slot n r (.slice xo xn xc) w6 := hu56.get B5.out (by simp)
        have S6 := hide (ST5.out.upd_nil hu56)
        have L6 := hide (LI5.out.upd hu56 (blk_lt ST5.out.dsk.hD) (by simp) (by simp))
        have T6 := hide (T5.out.trans (Turned.of_upd (X := [S, g]) hu56 (blk_lt ST5.out.dsk.hD) (by simp) (by simp)))
        clear hk6 hu6
        refine hK _ _ (b6) ?_
        clear hK K
        try simp only [Act.put, List.setIfInBounds_toArray, List.set_cons_succ, List.set_cons_zero]
        refine wpSeqP_one (by kernel_rfl) (by kernel_rfl) (fun K hK => ?_)
        go_simp
        refine hK _ _ (b6) ?_
        clear hK K
        try simp only [Act.put, List.setIfInBounds_toArray, List.set_cons_succ, List.set_cons_zero]
        clear hlk
        refine wpSeqP_one (by kernel_rfl) (by kernel_rfl) (fun K hK => ?_)
        go_simp
        refine (do3_any w6 S6.out ⟨k, slot, ⟨n, r⟩, bytes⟩ xo xn xc HKK.out L6.out (by omega) hsl (fun p hp => (HSO.out.vote p hp).2.2.2.2.1)).mono ?_
        rintro en w7 ⟨rfl, h7, hu7⟩
        have b7 : BoxAt B k slot n r (.slice xo xn xc) w7 := hu7.get b6 (by have h1 := S6.out.sS.ne; have h2 := BSG.out; simp; omega)
        have T7 := hide (T6.out.trans (Turned.of_upd (X := [S, g]) hu7 (blk_lt S6.out.dsk.hD) (by obtain ⟨n1, n2, n3, n4, n5, n6⟩ := S6.out.nes; simp; omega) (by simp)))
        have H7 := hide h7
        clear hu7 h7
        refine hK _ _ (b7) ?_
        clear hK K
        try simp only [Act.put, List.setIfInBounds_toArray, List.set_cons_succ, List.set_cons_zero]
        unfold wpSeqP
        go_wp2_with fail
        go_ret
        rw [PT.out]
        obtain ⟨a, b, c, h9⟩ := H7.out
        exact ⟨rfl, ⟨_, _, _, _, h9⟩, T7.out⟩
    · have qe : (e' != 0) = true := by simpa using he
      have hpt : res = ((d', s), e') := by
        rw [← HR.out]
        unfold putT
        rw [HM.out, if_neg (by simp), HRB.out, HLOG.out]
        simp [he]
      have PT := hide hpt
      clear hpt he
      go_wp2_with fail
      go_ret
      rw [PT.out]
      exact ⟨rfl, ⟨_, _, _, _, ST5.out⟩, T5.out⟩
  · have qm : ((m : Int) != 0) = true := by simp; omega
    have hpt : res = ((d, s), (m : Int)) := by
      rw [← HR.out]
      unfold putT
      rw [HM.out, if_pos hm0]
    have PT := hide hpt
    clear hpt hm0
    go_wp2_with fail
    go_ret
    rw [PT.out]
    exact ⟨rfl, ⟨_, _, _, _, H3.out⟩, Turned.of_upd U3.out hDl (by simp) (by simp)⟩
end
end Go.Proofs.YtekbhfpdakhhkaaGreatDoor.St
