/- The law's wakes: a store that is known. -/
import Derived.Test.YtekbhfpdakhhkaaGreatDoorStFs
import Derived.Lib.SmallJoins
namespace Go.Proofs.YtekbhfpdakhhkaaGreatDoor.St
set_option linter.unusedSimpArgs false
set_option linter.unusedVariables false
set_option linter.unnecessarySimpa false
open Go.RowKit Go.Lib Go.Proofs.YtekbhfpdakhhkaaGreatDoor.Crc Go.Proofs.YtekbhfpdakhhkaaGreatDoor.Var Go.Proofs.YtekbhfpdakhhkaaGreatDoor.DiskW Go.Proofs.YtekbhfpdakhhkaaGreatDoor.Rec Go.Proofs.YtekbhfpdakhhkaaGreatDoor.Fr

def wx1 : SetM := ⟨2, 3, ⟨2, 1⟩, [120]⟩
def wx2 : SetM := ⟨1, 0, ⟨2, 0⟩, []⟩
def wx3 : SetM := ⟨3, 2, Bal.zero, [115]⟩
def wx4 : SetM := ⟨3, 2, Bal.zero, []⟩
def ws1 : Sto := doM sto0 wx1
def ws3 : Sto := doM ws1 wx3
theorem wk_ok : okS [wx1, wx3] sto0 := by
  refine ⟨⟨⟨.inr (.inl rfl), by decide, by decide, by decide⟩, fun _ => by decide, by decide, fun h => by cases h⟩, by decide, ⟨⟨.inr (.inr rfl), by decide, by decide, by decide⟩, fun h => absurd rfl h, fun _ => rfl, fun h => by cases h⟩, by decide, trivial⟩
theorem wk_may : mayM sto0 wx1 = 0 ∧ mayM ws1 wx2 = 1 ∧ mayM ws1 wx3 = 0 ∧ mayM ws3 wx4 = 31 := by decide
theorem wk_run : runS [wx1, wx3] sto0 = ws3 := rfl
theorem ws3_eq : ws3 = ⟨⟨2, 1⟩, 2, [115], [(3, ⟨⟨2, 1⟩, [120]⟩)]⟩ := rfl
theorem row_byte {w : World} {b : Nat} {x : UInt8} {D : Nat} {X : List Nat} {fr : Nat × Nat} (h : w.heap[b]? = some (.cells #[.int .u8 (x.toNat : Int)] 5 fr)) (hd : SafeB w D b) (hX : b ∉ X) : Lies w D X (some ⟨b, 0, none⟩) 1 1 [x] := by
  refine ⟨⟨rfl, by simp [u8v, Value.oneCell'], by simp, fun a e j u hj => ?_⟩, Nat.le_refl _, by simp [maxLen], fun a e _ => by cases e; exact ⟨hd, hX⟩⟩
  cases e
  rw [show (⟨b, 0, none⟩ : Addr).add j = ⟨b, j, none⟩ by unfold Addr.add; split <;> simp_all]
  simp only [World.cell?, h]
  simpa [u8v] using hj
/-- The store and its log stay ready. -/
theorem ready_log {w : World} {D base q i : Nat} {recs : List (List UInt8)} {s : Sto} (ht : TabAt w) (hD : base ≤ D) (hb : base ≤ w.heap.size) (hq : q ≤ recs.length) (hl : ∀ r ∈ recs, r.length ≤ 2000) (hn : recs.length ≤ 1000) (hs : StoOk s i) (hi : i < 1000) : Ready w D base (LogD recs q) s i :=
  ⟨ht, hD, hb, logD_ok hq (by have := frs_len hl (by decide); omega), hs, hi⟩
set_option maxRecDepth 100000 in
set_option maxHeartbeats 4000000 in
theorem wakes16_any (w : World) (hst : TabAt w) : Calls Tryz.prog 5 #[] w fun e w' => e = .returned (.bool true) ∧ Upd [] w w' := by
  have HST := hide hst
  clear hst
  go_enter Tryz.func5, Tryz.ntmps5
  go_wp2_with fail
  refine (DiskW.new_any w).mono ?_
  rintro e w1 ⟨v, rfl, rfl, hd1, hu1⟩
  have hz1 := blk_lt hd1.hD
  obtain ⟨D, hDn⟩ : ∃ D, w.heap.size = D := ⟨_, rfl⟩
  rw [hDn] at hd1 hz1 ⊢
  have D1 := hide hd1; have U1 := hide hu1
  clear hd1 hu1
  go_wp2_with fail
  refine (sopen_on (s := sto0) w1 D1.out (Nat.le_refl _) (by omega) ⟨by simp, by simp, by simp, by simp⟩ rfl (HST.out.upd U1.out (by simp)) rfl rfl (by simp [recsD, all_nil]) (by simp [recsD, all_nil])).mono ?_
  rintro e w2 ⟨S, L, g, so, sn, sc, bv', rfl, hst2, hS, hL, hg, hn⟩
  change StoAt [] w2 S L D g D so sn sc bv' (LogD [] 0) sto0 at hst2
  have hu2 := (Turned.of_near (X := []) hn).far D1.out U1.out (by omega) (by omega) (by simp)
  have S2 := hide hst2; have U2 := hide hu2
  have hS2 : w1.heap.size ≤ S ∧ w1.heap.size ≤ g ∧ w1.heap.size ≤ L := ⟨hS, hg, hL⟩
  have HS2 := hide hS2
  clear hst2 hn hS hL hg hS2
  have hz2 := hu2.size
  clear hu2
  have hD2 := blk_lt S2.out.dsk.hD
  have hSg2 := S2.out.vts.safe.lt
  have hSS2 := S2.out.sS.lt
  obtain ⟨wA, hwA⟩ : ∃ wA, (w2.alloc (.cells #[.int .u64 2, .int .i64 1] 25)).alloc (.cells #[.int .u8 120] 5 (1, 2)) = wA := ⟨_, rfl⟩
  have hcv1 := Go.Joins.run_convert_bytes_const_at (P := Tryz.prog) (w2.alloc (.cells #[.int .u64 2, .int .i64 1] 25)) 39 5 #[.int .u8 120] 1 1 (w2.heap.size + 1) (by simp) Tryz.underlying39 Tryz.underlying5
  replace hcv1 : (convert 39 39 (.slice (some ⟨w2.heap.size + 1, 0, none⟩) 1 1)).run Tryz.prog ((w2.alloc (.cells #[.int .u64 2, .int .i64 1] 25)).alloc (.cells #[.int .u8 120] 5)) = .ok (.slice (some ⟨w2.heap.size + 1, 0, none⟩) 1 1) wA := by rw [← hwA]; exact hcv1
  have hb0 : wA.heap[w2.heap.size]? = some (.cells #[.int .u64 2, .int .i64 1] 25 (0, 0)) := by rw [← hwA]; exact blk_alloc (blk_new _ _) _
  have hb1 : wA.heap[w2.heap.size + 1]? = some (.cells #[.int .u8 ((120 : UInt8).toNat : Int)] 5 (1, 2)) := by
    rw [← hwA]
    have := blk_new (w2.alloc (.cells #[.int .u64 2, .int .i64 1] 25)) (.cells #[.int .u8 120] 5 (1, 2))
    simp only [World.size_alloc] at this
    exact this
  have huA : Upd [] w2 wA := by rw [← hwA]; exact ((Upd.refl [] w2).alloc _).alloc _
  have hszA : wA.heap.size = w2.heap.size + 2 := by rw [← hwA]; simp
  have SA := hide (S2.out.upd_nil huA)
  have UA := hide (U2.out.trans huA)
  have fresh : ∀ k, w2.heap.size ≤ k → k < wA.heap.size → SafeB wA D k := fun k h1 h2 => SafeB.fresh S2.out.dsk huA (by simp) h1 h2
  have KA := hide (And.intro (fresh w2.heap.size (by omega) (by omega)) hb0)
  have LA := hide (row_byte (X := [S, L, g]) hb1 (fresh (w2.heap.size + 1) (by omega) (by omega)) (by have := S2.out.sL.lt; simp; omega))
  have RA := hide (ready_log (recs := []) (q := 0) (i := 0) (HST.out.upd UA.out (by simp)) (Nat.le_refl D) (by omega) (by simp) (by simp) (by simp) StoOk.zero (by omega))
  have c0 := blk_cell (i := 0) hb0 rfl
  have c1 := blk_cell (i := 1) hb0 rfl
  clear huA fresh hb0 hb1 S2 hwA
  go_wp2_with fail
  refine (setVote_any (i := 0) wA SA.out RA.out 3 ⟨2, 1⟩ (some ⟨w2.heap.size + 1, 0, none⟩) 1 1 [120] (by omega) (by simp) LA.out (by simp)).mono ?_
  intro e w3 hp3
  obtain ⟨rfl, ⟨bv3, so3, sn3, sc3, hst3⟩, ht3⟩ := step_ok (x := wx1) (recs' := [recB wx1]) (s' := ws1) hp3 (by simp) ⟨.inr (.inl rfl), by decide, by decide, by decide⟩ wk_may.1 rfl rfl
  have hX : ∀ k ∈ [S, g], w.heap.size ≤ k := by have := HS2.out; simp; omega
  have HX := hide hX
  have S3 := hide hst3
  have U3 := hide (ht3.far SA.out.dsk UA.out (by omega) (by omega) hX)
  have hbS : w2.heap.size ∉ [S, g] := by simp; omega
  have hbS' := hide hbS
  have K3 := hide (And.intro (ht3.block KA.out.1 hbS).1 ((ht3.block KA.out.1 hbS).2.trans KA.out.2))
  have hz3 := ht3.size
  have hl1 : (recB wx1).length ≤ 2000 := (recB_len (x := wx1) ⟨.inr (.inl rfl), by decide, by decide, by decide⟩ (.inl (by decide))).2
  have OK1 := hide (StoOk.zero.next (x := wx1) ⟨.inr (.inl rfl), by decide, by decide, by decide⟩ wk_may.1)
  have R3 := hide (ready_log (recs := [recB wx1]) (q := 0) (i := 1) (s := ws1) (HST.out.upd U3.out (by simp)) (Nat.le_refl D) (by omega) (by simp) (by simpa using hl1) (by simp) OK1.out (by omega))
  clear hst3 ht3 hX hbS hp3 c0 c1 hcv1 KA LA RA SA UA
  go_wp2_with fail
  refine (setPromise_any (i := 1) w3 S3.out R3.out ⟨2, 0⟩ (by simp)).mono ?_
  intro e w4 hp4
  obtain ⟨rfl, ⟨bv4, so4, sn4, sc4, hst4⟩, ht4⟩ := step_no (x := wx2) (m := 1) hp4 wk_may.2.1 (by decide)
  have S4 := hide hst4
  have U4 := hide (ht4.far S3.out.dsk U3.out (by omega) (by omega) HX.out)
  have K4 := hide (And.intro (ht4.block K3.out.1 hbS'.out).1 ((ht4.block K3.out.1 hbS'.out).2.trans K3.out.2))
  have hz4 := ht4.size
  clear hst4 ht4 hp4 R3 S3 K3 U3
  have hD4 := blk_lt S4.out.dsk.hD
  have hSg4 := S4.out.vts.safe.lt
  have hSS4 := S4.out.sS.lt
  have hSL4 := S4.out.sL.lt
  obtain ⟨wB, hwB⟩ : ∃ wB, w4.alloc (.cells #[.int .u8 115] 5 (1, 2)) = wB := ⟨_, rfl⟩
  have hcv2 := Go.Joins.run_convert_bytes_const_at (P := Tryz.prog) w4 39 5 #[.int .u8 115] 1 1 w4.heap.size rfl Tryz.underlying39 Tryz.underlying5
  replace hcv2 : (convert 39 39 (.slice (some ⟨w4.heap.size, 0, none⟩) 1 1)).run Tryz.prog (w4.alloc (.cells #[.int .u8 115] 5)) = .ok (.slice (some ⟨w4.heap.size, 0, none⟩) 1 1) wB := by rw [← hwB]; exact hcv2
  have hb1 : wB.heap[w4.heap.size]? = some (.cells #[.int .u8 ((115 : UInt8).toNat : Int)] 5 (1, 2)) := by rw [← hwB]; exact blk_new _ _
  have huB : Upd [] w4 wB := by rw [← hwB]; exact (Upd.refl [] w4).alloc _
  have hszB : wB.heap.size = w4.heap.size + 1 := by rw [← hwB]; simp
  have SB := hide (S4.out.upd_nil huB)
  have UB := hide (U4.out.trans huB)
  have KB := hide (And.intro (K4.out.1.upd huB hD4 (by simp)) (huB.get K4.out.2 (by simp)))
  have LB := hide (row_byte (X := [S, L, g]) hb1 (SafeB.fresh S4.out.dsk huB (by simp) (Nat.le_refl _) (by omega)) (by simp; omega))
  have RB := hide (ready_log (recs := [recB wx1]) (q := 0) (i := 1) (s := ws1) (HST.out.upd UB.out (by simp)) (Nat.le_refl D) (by omega) (by simp) (by simpa using hl1) (by simp) OK1.out (by omega))
  clear hb1 huB hwB S4 U4 K4
  go_wp2_with fail
  refine (setSnap_any (i := 1) wB SB.out RB.out 2 (some ⟨w4.heap.size, 0, none⟩) 1 1 [115] (by omega) LB.out (by simp)).mono ?_
  intro e w5 hp5
  obtain ⟨rfl, ⟨bv5, so5, sn5, sc5, hst5⟩, ht5⟩ := step_ok (x := wx3) (recs' := [recB wx1, recB wx3]) (s' := ws3) hp5 (by simp) ⟨.inr (.inr rfl), by decide, by decide, by decide⟩ wk_may.2.2.1 rfl rfl
  have S5 := hide hst5
  have U5 := hide (ht5.far SB.out.dsk UB.out (by omega) (by omega) HX.out)
  have K5 := hide (And.intro (ht5.block KB.out.1 hbS'.out).1 ((ht5.block KB.out.1 hbS'.out).2.trans KB.out.2))
  have hz5 := ht5.size
  clear hst5 ht5 hp5 hcv2 RB SB KB UB LB
  go_wp2_with fail
  refine (ssync_any (i := 0) w5 S5.out (Nat.le_refl D) (by omega)).mono ?_
  rw [logD_sync]
  rintro e w6 ⟨rfl, ⟨bv6, hst6⟩, ht6⟩
  have S6 := hide hst6
  have U6 := hide (ht6.far S5.out.dsk U5.out (by omega) (by omega) (by simp))
  have K6 := hide (And.intro (ht6.block K5.out.1 (by simp)).1 ((ht6.block K5.out.1 (by simp)).2.trans K5.out.2))
  have hz6 := ht6.size
  clear hst6 ht6 S5 K5 U5
  have hl3 : (recB wx3).length ≤ 2000 := (recB_len (x := wx3) ⟨.inr (.inr rfl), by decide, by decide, by decide⟩ (.inr rfl)).2
  have hok6 : (LogD [recB wx1, recB wx3] 2).Ok 1000000000000 := logD_ok (by simp) (by have := frs_len (l := [recB wx1, recB wx3]) (b := 2000) (by simp [hl1, hl3]) (by decide); simp at this; omega)
  have hcr := logD_crash (recs := [recB wx1, recB wx3]) (q := 2) (n := 0) (by omega) (by simp)
  obtain ⟨p, hp1, hp2, hcr1, hcr2, hp3⟩ := hcr
  have OK6 := hide hok6; have CR1 := hide hcr1
  have hfit := recs_fit wk_ok
  obtain ⟨m, hm1, hm2, hopn1, hopn2, hopn3⟩ := crash_open (recs := [recB wx1, recB wx3]) (q := 2) (p := p) (fun r hr => (hfit r hr).1) (by simp) hp1 hp2
  have hm : m = 2 := by simp at hm2; omega
  subst hm
  have OP1 := hide hopn1; have OP2 := hide hopn2; have OP3 := hide hopn3
  have hshort := recs_short wk_ok (by decide)
  have HSH := hide hshort
  clear hok6 hcr1 hopn1 hopn2 hopn3 hfit hp3 hcr2 hm1 hm2 hshort
  go_wp2_with fail
  refine (crash_any (n := 0) w6 S6.out.dsk OK6.out (Nat.le_refl D) (by omega)).mono ?_
  rintro e w7 ⟨v, rfl, rfl, bv7, hd7, -, hn7⟩
  have D7 := hide hd7
  have U7 := hide ((Turned.of_near (X := []) hn7).far S6.out.dsk U6.out (by omega) (by omega) (by simp))
  have K7 := hide (And.intro (K6.out.1.near hn7).1 ((K6.out.1.near hn7).2.trans K6.out.2))
  have hz7 := hn7.size
  clear hd7 hn7 S6 K6 U6
  go_wp2_with fail
  refine (restart_any w7 D7.out (Nat.le_refl D) (by omega)).mono ?_
  change Hid (((LogD [recB wx1, recB wx3] [recB wx1, recB wx3].length).crash 0).1.restart.1 = _) at CR1
  rw [show ((LogD [recB wx1, recB wx3] [recB wx1, recB wx3].length).crash 0).1.restart = (((LogD [recB wx1, recB wx3] [recB wx1, recB wx3].length).crash 0).1.restart.1, 0) from rfl, CR1.out]
  rintro e w8 ⟨v, rfl, rfl, bv8, hd8, -, hn8⟩
  have D8 := hide hd8
  have U8 := hide ((Turned.of_near (X := []) hn8).far D7.out U7.out (by omega) (by omega) (by simp))
  have K8 := hide (And.intro (K7.out.1.near hn8).1 ((K7.out.1.near hn8).2.trans K7.out.2))
  have hz8 := hn8.size
  clear hd8 hn8 D7 K7 U7
  have hok8 : (⟨(frs [recB wx1, recB wx3]).take p, ends [recB wx1, recB wx3] 2, false, -1⟩ : DS).Ok 1000000000000 := by
    have h1 := OK6.out.len
    change (frs [recB wx1, recB wx3]).length ≤ _ at h1
    exact ⟨by show ends [recB wx1, recB wx3] 2 ≤ ((frs [recB wx1, recB wx3]).take p).length; rw [List.length_take]; omega, by show ((frs [recB wx1, recB wx3]).take p).length ≤ _; rw [List.length_take]; omega, by simp, by simp⟩
  have hopn := sopen_on (s := ws3) w8 D8.out (Nat.le_refl D) (by omega) hok8 rfl (HST.out.upd U8.out (by simp)) OP1.out (by rw [OP2.out]; exact openS_run wk_ok) (by rw [OP2.out]; intro x hx; have := HSH.out x hx; omega) (by rw [OP2.out]; simp)
  have HOPN := hide hopn
  clear hopn hok8
  go_wp2_with fail
  refine HOPN.out.mono ?_
  rintro e w9 ⟨S', L', g', so9, sn9, sc9, bv9, rfl, hst9, hS9, hL9, hg9, hn9⟩
  rw [OP3.out] at hst9
  change StoAt [] w9 S' L' D g' D so9 sn9 sc9 bv9 (LogD [recB wx1, recB wx3] 2) ws3 at hst9
  have S9 := hide hst9
  have U9 := hide ((Turned.of_near (X := []) hn9).far D8.out U8.out (by omega) (by omega) (by simp))
  have K9 := hide (And.intro (K8.out.1.near hn9).1 ((K8.out.1.near hn9).2.trans K8.out.2))
  have hz9 := hn9.size
  have HX9 := hide (show ∀ k ∈ [S', g'], w.heap.size ≤ k by simp; omega)
  have HB9 := hide (show w2.heap.size ∉ [S', g'] by simp; omega)
  clear hst9 hn9 D8 K8 U8 HOPN OP1 OP2 OP3 CR1 OK6
  have OK3 : Hid (StoOk ws3 2) := hide (OK1.out.next (x := wx3) ⟨.inr (.inr rfl), by decide, by decide, by decide⟩ wk_may.2.2.1)
  go_wp2_with fail
  refine (votes_any w9 S9.out OK3.out (by omega) 0).mono ?_
  rintro e w10 ⟨v, xs, rfl, hrow, hphi, hall, hu10⟩
  have hxs : ∃ x, xs = [x] ∧ x.slot = 3 := by
    rw [show (ws3.votes.filter fun p => decide (0 ≤ p.1)) = [(3, ⟨⟨2, 1⟩, [120]⟩)] from rfl] at hphi
    have hlen := congrArg List.length hphi
    rw [List.length_map] at hlen
    obtain ⟨x, rfl⟩ := List.length_eq_one_iff.1 hlen
    exact ⟨x, rfl, by have := congrArg (fun l => (l.headD (0, vo0)).1) hphi; exact this⟩
  obtain ⟨x, rfl, hx3⟩ := hxs
  obtain ⟨⟨vo, hf, -, -, hxl, hbat⟩, -⟩ := hall x (by simp)
  rw [hx3] at hf
  cases hf
  obtain ⟨ga, gc, rfl, hgc1, hgc2, hgcell⟩ := owns_slice hrow
  obtain ⟨gb, hgb, -, -, e0⟩ := hgcell 0 (.int .u64 (x.slot : Int)) rfl
  obtain ⟨gb', hgb', -, -, e3⟩ := hgcell 3 (vsl x) rfl
  rw [hgb] at hgb'
  cases hgb'
  subst hgb
  rw [hx3] at e0
  have S10 := hide (S9.out.upd_nil hu10); have U10 := hide (U9.out.trans hu10)
  have K10 := hide (And.intro (K9.out.1.upd hu10 (blk_lt S9.out.dsk.hD) (by simp)) (hu10.get K9.out.2 (by simp)))
  have hz10 := hu10.size
  obtain ⟨xa, hxa⟩ : ∃ xa, adOf x.xo = xa := ⟨_, rfl⟩
  have hbat2 : w10.ownsRow w9.heap.size 5 1 (.slice xa x.len x.cap) x.len (([120] : List UInt8).map u8v) := by rw [← hxa]; exact hbat
  have e3' : w10.cell? ⟨gb, 3, none⟩ = some (.slice xa x.len x.cap) := by rw [← hxa]; exact e3
  have E0 := hide (show w10.cell? ⟨gb, 0, none⟩ = some (.int .u64 3) from e0); have E3 := hide e3'; have BAT := hide hbat2
  clear hrow hphi hall hu10 hbat hbat2 e0 e3 e3' hgcell hxa hxl S9 U9 K9
  have hbq : ∀ wx, (binOp .eql 25 (.agg #[.int .u64 2, .int .i64 1]) (.agg #[.int .u64 2, .int .i64 1])).run Tryz.prog wx = .ok (.bool true) wx := fun wx => eql_bal ⟨2, 1⟩ ⟨2, 1⟩ wx
  go_upto_region 16 with fail
  have d0 : Upd [] w10 (w10.drewN 1) := (Upd.refl [] w10).drewN 1
  have p0 : (w10.drewN 1).heap[w2.heap.size]? = some (.cells #[.int .u64 2, .int .i64 1] 25 (0, 0)) := d0.get K10.out.2 (by simp)
  refine wp_region_seqP (findOps 16 ((Tryz.f5.body).getD .skip)) (by kernel_rfl) [1, 6, 11, 12, 24, 31, 32, 37] [0, 2, 1, 3, 4, 5, 6, 7, 8, 9, 10, 11, 12, 13, 14, 15, 16, 17, 18, 19, 20, 21, 22, 23, 24, 25, 26, 27, 28, 29, 30, 31, 32, 33, 34, 35, 36, 37, 38, 39, 40] (fun wx => wx.heap[w2.heap.size]? = some (.cells #[.int .u64 2, .int .i64 1] 25 (0, 0))) (by kernel_rfl) (by kernel_rfl) (fun _ _ d _ _ h => by cases d <;> exact h) p0 ?_
  simp only [pickO, List.filterMap_cons, List.filterMap_nil, List.getElem?_cons_succ, List.getElem?_cons_zero]
  refine wpSeqP_take (by kernel_rfl) (by kernel_rfl) ?_
  apply Exists.intro
  refine ⟨fun wx hS => ?_, fun a' ha => ?_⟩
  · go_simp; rfl
  simp only [Act.put, List.setIfInBounds_toArray, List.set_cons_succ, List.set_cons_zero] at ha
  subst ha
  refine wpSeqP_take (by kernel_rfl) (by kernel_rfl) ?_
  apply Exists.intro
  refine ⟨fun wx hS => ?_, fun a' ha => ?_⟩
  · have c0 : wx.cell? ⟨w2.heap.size, 0, none⟩ = some (.int .u64 2) := blk_cell hS rfl;have c1 : wx.cell? ⟨w2.heap.size, 1, none⟩ = some (.int .i64 1) := blk_cell hS rfl; go_simp; rfl
  simp only [Act.put, List.setIfInBounds_toArray, List.set_cons_succ, List.set_cons_zero] at ha
  subst ha
  refine wpSeqP_one (by kernel_rfl) (by kernel_rfl) (fun K hK => ?_)
  go_simp
  refine (promise_any (w10.drewN 1) (S10.out.upd_nil d0)).mono ?_
  rintro e w11 ⟨rfl, hu11⟩
  rw [show balV ws3.prom = .agg #[.int .u64 2, .int .i64 1] from rfl]
  have d11 := d0.trans hu11
  have p11 := hu11.get p0 (by simp)
  refine hK _ _ (p11) ?_
  clear hK K
  try simp only [Act.put, List.setIfInBounds_toArray, List.set_cons_succ, List.set_cons_zero]
  refine wpSeqP_take (by kernel_rfl) (by kernel_rfl) ?_
  apply Exists.intro
  refine ⟨fun wx hS => ?_, fun a' ha => ?_⟩
  · have q := hbq wx; go_simp; rfl
  simp only [Act.put, List.setIfInBounds_toArray, List.set_cons_succ, List.set_cons_zero] at ha
  subst ha
  refine wpSeqP_take (by kernel_rfl) (by kernel_rfl) ?_
  apply Exists.intro
  refine ⟨fun wx hS => ?_, fun a' ha => ?_⟩
  · go_simp; rfl
  simp only [Act.put, List.setIfInBounds_toArray, List.set_cons_succ, List.set_cons_zero] at ha
  subst ha
  refine wpSeqP_take (by kernel_rfl) (by kernel_rfl) ?_
  apply Exists.intro
  refine ⟨fun wx hS => ?_, fun a' ha => ?_⟩
  · go_simp; rfl
  simp only [Act.put, List.setIfInBounds_toArray, List.set_cons_succ, List.set_cons_zero] at ha
  subst ha
  refine wpSeqP_one (by kernel_rfl) (by kernel_rfl) (fun K hK => ?_)
  go_simp
  refine (base_any w11 (S10.out.upd_nil d11)).mono ?_
  rintro e w12 ⟨rfl, hu12⟩
  rw [show ((ws3.base : Nat) : Int) = 2 from rfl]
  have d12 := d11.trans hu12
  have p12 := hu12.get p11 (by simp)
  refine hK _ _ (p12) ?_
  clear hK K
  try simp only [Act.put, List.setIfInBounds_toArray, List.set_cons_succ, List.set_cons_zero]
  refine wpSeqP_take (by kernel_rfl) (by kernel_rfl) ?_
  apply Exists.intro
  refine ⟨fun wx hS => ?_, fun a' ha => ?_⟩
  · go_simp; rfl
  simp only [Act.put, List.setIfInBounds_toArray, List.set_cons_succ, List.set_cons_zero] at ha
  subst ha
  refine wpSeqP_take (by kernel_rfl) (by kernel_rfl) ?_
  apply Exists.intro
  refine ⟨fun wx hS => ?_, fun a' ha => ?_⟩
  · go_simp; rfl
  simp only [Act.put, List.setIfInBounds_toArray, List.set_cons_succ, List.set_cons_zero] at ha
  subst ha
  refine wpSeqP_take (by kernel_rfl) (by kernel_rfl) ?_
  apply Exists.intro
  refine ⟨fun wx hS => ?_, fun a' ha => ?_⟩
  · go_simp; rfl
  simp only [Act.put, List.setIfInBounds_toArray, List.set_cons_succ, List.set_cons_zero] at ha
  subst ha
  refine wpSeqP_take (by kernel_rfl) (by kernel_rfl) ?_
  apply Exists.intro
  refine ⟨fun wx hS => ?_, fun a' ha => ?_⟩
  · go_simp; rfl
  simp only [Act.put, List.setIfInBounds_toArray, List.set_cons_succ, List.set_cons_zero] at ha
  subst ha
  refine wpSeqP_one (by kernel_rfl) (by kernel_rfl) (fun K hK => ?_)
  go_simp
  have hsn : sn9 = 1 := S10.out.snp.len.symm
  refine (snap_any w12 (S10.out.upd_nil d12) (by omega)).mono ?_
  rintro e w13 ⟨⟨sa, scp, rfl, hsow⟩, hu13⟩
  have d13 := d12.trans hu13
  have p13 := hu13.get p12 (by simp)
  have hq1 : (convert 39 9 (.slice sa sn9 scp)).run Tryz.prog w13 = .ok (.string ⟨#[115]⟩) w13 := run_str (src_own hsow (by simp [u8v, Value.oneCell']))
  clear hsn
  refine hK _ _ (p13) ?_
  clear hK K
  try simp only [Act.put, List.setIfInBounds_toArray, List.set_cons_succ, List.set_cons_zero]
  refine wpSeqP_one (by kernel_rfl) (by kernel_rfl) (fun K hK => ?_)
  go_simp
  refine hK _ _ (p13) ?_
  clear hK K
  try simp only [Act.put, List.setIfInBounds_toArray, List.set_cons_succ, List.set_cons_zero]
  refine wpSeqP_take (by kernel_rfl) (by kernel_rfl) ?_
  apply Exists.intro
  refine ⟨fun wx hS => ?_, fun a' ha => ?_⟩
  · go_simp; rfl
  simp only [Act.put, List.setIfInBounds_toArray, List.set_cons_succ, List.set_cons_zero] at ha
  subst ha
  refine wpSeqP_take (by kernel_rfl) (by kernel_rfl) ?_
  apply Exists.intro
  refine ⟨fun wx hS => ?_, fun a' ha => ?_⟩
  · go_simp; rfl
  simp only [Act.put, List.setIfInBounds_toArray, List.set_cons_succ, List.set_cons_zero] at ha
  subst ha
  refine wpSeqP_take (by kernel_rfl) (by kernel_rfl) ?_
  apply Exists.intro
  refine ⟨fun wx hS => ?_, fun a' ha => ?_⟩
  · go_simp; rfl
  simp only [Act.put, List.setIfInBounds_toArray, List.set_cons_succ, List.set_cons_zero] at ha
  subst ha
  refine wpSeqP_take (by kernel_rfl) (by kernel_rfl) ?_
  apply Exists.intro
  refine ⟨fun wx hS => ?_, fun a' ha => ?_⟩
  · go_simp; rfl
  simp only [Act.put, List.setIfInBounds_toArray, List.set_cons_succ, List.set_cons_zero] at ha
  subst ha
  refine wpSeqP_take (by kernel_rfl) (by kernel_rfl) ?_
  apply Exists.intro
  refine ⟨fun wx hS => ?_, fun a' ha => ?_⟩
  · go_simp; rfl
  simp only [Act.put, List.setIfInBounds_toArray, List.set_cons_succ, List.set_cons_zero] at ha
  subst ha
  refine wpSeqP_take (by kernel_rfl) (by kernel_rfl) ?_
  apply Exists.intro
  refine ⟨fun wx hS => ?_, fun a' ha => ?_⟩
  · go_simp; rfl
  simp only [Act.put, List.setIfInBounds_toArray, List.set_cons_succ, List.set_cons_zero] at ha
  subst ha
  refine wpSeqP_take (by kernel_rfl) (by kernel_rfl) ?_
  apply Exists.intro
  refine ⟨fun wx hS => ?_, fun a' ha => ?_⟩
  · go_simp; rfl
  simp only [Act.put, List.setIfInBounds_toArray, List.set_cons_succ, List.set_cons_zero] at ha
  subst ha
  refine wpSeqP_take (by kernel_rfl) (by kernel_rfl) ?_
  apply Exists.intro
  refine ⟨fun wx hS => ?_, fun a' ha => ?_⟩
  · go_simp; rfl
  simp only [Act.put, List.setIfInBounds_toArray, List.set_cons_succ, List.set_cons_zero] at ha
  subst ha
  refine wpSeqP_take (by kernel_rfl) (by kernel_rfl) ?_
  apply Exists.intro
  refine ⟨fun wx hS => ?_, fun a' ha => ?_⟩
  · go_simp; rfl
  simp only [Act.put, List.setIfInBounds_toArray, List.set_cons_succ, List.set_cons_zero] at ha
  subst ha
  refine wpSeqP_take (by kernel_rfl) (by kernel_rfl) ?_
  apply Exists.intro
  refine ⟨fun wx hS => ?_, fun a' ha => ?_⟩
  · go_simp; rfl
  simp only [Act.put, List.setIfInBounds_toArray, List.set_cons_succ, List.set_cons_zero] at ha
  subst ha
  refine wpSeqP_take (by kernel_rfl) (by kernel_rfl) ?_
  apply Exists.intro
  refine ⟨fun wx hS => ?_, fun a' ha => ?_⟩
  · go_simp; rfl
  simp only [Act.put, List.setIfInBounds_toArray, List.set_cons_succ, List.set_cons_zero] at ha
  subst ha
  have c24 := Rec.cell_keep d13 E0.out (by simp)
  refine wpSeqP_one (by kernel_rfl) (by kernel_rfl) (fun K hK => ?_)
  go_simp
  refine hK _ _ (p13) ?_
  clear hK K
  try simp only [Act.put, List.setIfInBounds_toArray, List.set_cons_succ, List.set_cons_zero]
  refine wpSeqP_take (by kernel_rfl) (by kernel_rfl) ?_
  apply Exists.intro
  refine ⟨fun wx hS => ?_, fun a' ha => ?_⟩
  · go_simp; rfl
  simp only [Act.put, List.setIfInBounds_toArray, List.set_cons_succ, List.set_cons_zero] at ha
  subst ha
  refine wpSeqP_take (by kernel_rfl) (by kernel_rfl) ?_
  apply Exists.intro
  refine ⟨fun wx hS => ?_, fun a' ha => ?_⟩
  · go_simp; rfl
  simp only [Act.put, List.setIfInBounds_toArray, List.set_cons_succ, List.set_cons_zero] at ha
  subst ha
  refine wpSeqP_take (by kernel_rfl) (by kernel_rfl) ?_
  apply Exists.intro
  refine ⟨fun wx hS => ?_, fun a' ha => ?_⟩
  · go_simp; rfl
  simp only [Act.put, List.setIfInBounds_toArray, List.set_cons_succ, List.set_cons_zero] at ha
  subst ha
  refine wpSeqP_take (by kernel_rfl) (by kernel_rfl) ?_
  apply Exists.intro
  refine ⟨fun wx hS => ?_, fun a' ha => ?_⟩
  · go_simp; rfl
  simp only [Act.put, List.setIfInBounds_toArray, List.set_cons_succ, List.set_cons_zero] at ha
  subst ha
  refine wpSeqP_take (by kernel_rfl) (by kernel_rfl) ?_
  apply Exists.intro
  refine ⟨fun wx hS => ?_, fun a' ha => ?_⟩
  · go_simp; rfl
  simp only [Act.put, List.setIfInBounds_toArray, List.set_cons_succ, List.set_cons_zero] at ha
  subst ha
  refine wpSeqP_take (by kernel_rfl) (by kernel_rfl) ?_
  apply Exists.intro
  refine ⟨fun wx hS => ?_, fun a' ha => ?_⟩
  · go_simp; rfl
  simp only [Act.put, List.setIfInBounds_toArray, List.set_cons_succ, List.set_cons_zero] at ha
  subst ha
  have c31 := Rec.cell_keep d13 E3.out (by simp)
  refine wpSeqP_one (by kernel_rfl) (by kernel_rfl) (fun K hK => ?_)
  go_simp
  refine hK _ _ (p13) ?_
  clear hK K
  try simp only [Act.put, List.setIfInBounds_toArray, List.set_cons_succ, List.set_cons_zero]
  have hq2 : (convert 39 9 (.slice xa x.len x.cap)).run Tryz.prog w13 = .ok (.string ⟨#[120]⟩) w13 := run_str (src_upd (src_own BAT.out (by simp [u8v, Value.oneCell'])) d13 (by simp))
  refine wpSeqP_one (by kernel_rfl) (by kernel_rfl) (fun K hK => ?_)
  go_simp
  refine hK _ _ (p13) ?_
  clear hK K
  try simp only [Act.put, List.setIfInBounds_toArray, List.set_cons_succ, List.set_cons_zero]
  refine wpSeqP_take (by kernel_rfl) (by kernel_rfl) ?_
  apply Exists.intro
  refine ⟨fun wx hS => ?_, fun a' ha => ?_⟩
  · go_simp; rfl
  simp only [Act.put, List.setIfInBounds_toArray, List.set_cons_succ, List.set_cons_zero] at ha
  subst ha
  refine wpSeqP_take (by kernel_rfl) (by kernel_rfl) ?_
  apply Exists.intro
  refine ⟨fun wx hS => ?_, fun a' ha => ?_⟩
  · go_simp; rfl
  simp only [Act.put, List.setIfInBounds_toArray, List.set_cons_succ, List.set_cons_zero] at ha
  subst ha
  refine wpSeqP_take (by kernel_rfl) (by kernel_rfl) ?_
  apply Exists.intro
  refine ⟨fun wx hS => ?_, fun a' ha => ?_⟩
  · go_simp; rfl
  simp only [Act.put, List.setIfInBounds_toArray, List.set_cons_succ, List.set_cons_zero] at ha
  subst ha
  refine wpSeqP_take (by kernel_rfl) (by kernel_rfl) ?_
  apply Exists.intro
  refine ⟨fun wx hS => ?_, fun a' ha => ?_⟩
  · go_simp; rfl
  simp only [Act.put, List.setIfInBounds_toArray, List.set_cons_succ, List.set_cons_zero] at ha
  subst ha
  refine wpSeqP_one (by kernel_rfl) (by kernel_rfl) (fun K hK => ?_)
  go_simp
  have R13 := ready_log (recs := [recB wx1, recB wx3]) (q := 2) (i := 2) (s := ws3) (HST.out.upd (U10.out.trans d13) (by simp)) (Nat.le_refl D) (by have := d13.size; omega) (by simp) (by simp [hl1, hl3]) (by simp) OK3.out (by omega)
  refine (setSnap_any (i := 2) w13 (S10.out.upd_nil d13) R13 2 none 0 0 [] (by omega) (Lies.nil _ _ _) (by simp)).mono ?_
  intro e w14 hp14
  obtain ⟨rfl, -, ht14⟩ := step_no (x := wx4) (m := 31) hp14 wk_may.2.2.2 (by decide)
  have k13 := K10.out.1.upd d13 (blk_lt S10.out.dsk.hD) (by simp)
  have p14 : w14.heap[w2.heap.size]? = some (.cells #[.int .u64 2, .int .i64 1] 25 (0, 0)) := (ht14.block k13 HB9.out).2.trans p13
  have U14 := hide (ht14.far (S10.out.upd_nil d13).dsk (U10.out.trans d13) (by omega) (by omega) HX9.out)
  clear hp14 ht14 R13
  refine hK _ _ (p14) ?_
  clear hK K
  try simp only [Act.put, List.setIfInBounds_toArray, List.set_cons_succ, List.set_cons_zero]
  refine wpSeqP_take (by kernel_rfl) (by kernel_rfl) ?_
  apply Exists.intro
  refine ⟨fun wx hS => ?_, fun a' ha => ?_⟩
  · go_simp; rfl
  simp only [Act.put, List.setIfInBounds_toArray, List.set_cons_succ, List.set_cons_zero] at ha
  subst ha
  refine wpSeqP_take (by kernel_rfl) (by kernel_rfl) ?_
  apply Exists.intro
  refine ⟨fun wx hS => ?_, fun a' ha => ?_⟩
  · go_simp; rfl
  simp only [Act.put, List.setIfInBounds_toArray, List.set_cons_succ, List.set_cons_zero] at ha
  subst ha
  refine wpSeqP_take (by kernel_rfl) (by kernel_rfl) ?_
  apply Exists.intro
  refine ⟨fun wx hS => ?_, fun a' ha => ?_⟩
  · go_simp; rfl
  simp only [Act.put, List.setIfInBounds_toArray, List.set_cons_succ, List.set_cons_zero] at ha
  subst ha
  unfold wpSeqP
  clear hq1 hq2 c24 c31 hu11 hu12 hu13 p0 p11 p12 p13 p14 d0 d11 d12 d13
  go_wp2_with fail
  go_ret
  exact ⟨rfl, U14.out⟩
end Go.Proofs.YtekbhfpdakhhkaaGreatDoor.St
