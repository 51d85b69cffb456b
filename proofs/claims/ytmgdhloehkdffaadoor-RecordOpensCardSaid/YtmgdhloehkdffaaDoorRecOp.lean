/- quoratelaw06.RecordOpens. -/
import Derived.Test.YtmgdhloehkdffaaDoorRecS
namespace Go.Proofs.YtmgdhloehkdffaaDoor.Rec
open Go.RowKit Go.Proofs.YtmgdhloehkdffaaDoor.Var Go.Proofs.YtmgdhloehkdffaaDoor.Crc Go.Proofs.YtmgdhloehkdffaaDoor.Fr Go.Proofs.YtmgdhloehkdffaaDoor.DiskW

/-- Whatever is done, the disk stays sound; it grows by at most what is appended. -/
theorem does_ok {d : DS} {k : Nat} {n : Int} {bs : List UInt8} {B c : Nat} (h : d.Ok B) (hb : bs.length ≤ c) (hhi : n ≤ 9223372036854775807) : ((d.does k n bs).1).Ok (B + c) := by
  obtain ⟨h1, h2, h3, h4⟩ := h
  have same : d.Ok (B + c) := ⟨h1, by omega, h3, h4⟩
  unfold DS.does
  split
  · unfold DS.turn
    split
    · exact same
    · exact ⟨by simpa using h1, by simp; omega, h3, h4⟩
  · unfold DS.act
    split
    · unfold DS.append
      split
      · exact same
      · split
        · exact ⟨by simp; omega, by simp; omega, by simp, by simp⟩
        · refine ⟨by simp; omega, by simp; omega, ?_, ?_⟩ <;> simp only <;> split <;> omega
    · unfold DS.sync
      split
      · exact same
      · exact ⟨by simp, by simp; omega, h3, h4⟩
    · unfold DS.cut
      split
      · exact same
      · split
        · exact same
        · exact ⟨by simp; omega, by simp; omega, h3, h4⟩
    · unfold DS.setFuse
      split
      · exact same
      · exact ⟨h1, by simp; omega, by simp; omega, by simp; omega⟩
    · unfold DS.crash
      split
      · exact same
      · refine ⟨?_, ?_, by simp, by simp⟩ <;> simp only <;> split <;> first | omega | (simp only [List.length_take]; omega)
    · exact ⟨h1, by show d.byt.length ≤ _; omega, h3, h4⟩
theorem does_at {w w1 : World} {D : Nat} {d : DS} {k : Nat} {n : Int} {bo : Option Addr} {bl bc : Nat} {bs : List UInt8} (h : At w D d w1) (hs : SrcAt w bo bl bc (bs.map u8v) 1) (hbc : bl ≤ bc) (hB : bl ≤ 1000000000000) (hok : d.Ok 1000000000000) (hk : k < 256) (hlo : -9223372036854775808 ≤ n) (hhi : n ≤ 9223372036854775807) :
    Calls Tryd.prog 28 #[.pointer (some ⟨D, 0, none⟩), .agg #[.int .u8 k, .int .i64 n, .slice bo bl bc]] w1 (Acted w w1 D (d.does k n bs)) := by
  obtain ⟨hD, hu, bv, h1⟩ := id h
  exact (does_any w1 h1 hD hu.size (src_upd_nil hs hu) hbc hB hok hk hlo hhi).mono fun e w2 hd => h.done hd
/-- The bytes that Bytes gave lie on. -/
theorem bytes_near {w w1 w2 w3 : World} {D n : Nat} {d : DS} {e : TypeId} {v : Value} {xs : List Value} (h : At w D d w1) (hu : Upd [] w1 w2) (ho : w2.ownsRow w1.heap.size e 1 v n xs) (hn : Near D w2 w3) : w3.ownsRow w1.heap.size e 1 v n xs := by
  obtain ⟨hD, hu0, bv, h1⟩ := h
  obtain ⟨S, hu2, hS⟩ := hn.upd
  refine owns_upd ho hu2 (fun k hk hm => ?_)
  have hl := (owns_lt ho k hk).1
  rcases hS k hm with rfl | h3
  · have := blk_lt h1.hD; omega
  · have h2 := h1.upd hu (by simp) (by simp)
    have := (owns_lt h1.row k (h2.ownAt.1 h3)).2
    omega
set_option maxRecDepth 100000 in
set_option maxHeartbeats 2000000 in
theorem opens_any {ao : Option Addr} {len cap : Nat} {dos : Nat → Nat} {ns : Nat → Int} {bos : Nat → Option Addr} {bls bcs : Nat → Nat} {bss : Nat → List UInt8} (w : World) (hst : TabAt w) (hlen : len ≤ maxLen) (h : Acts w ao len dos ns bos bls bcs bss) :
    Calls Tryd.prog 7 #[.slice ao len cap] w fun e w' => e = .returned (.bool true) ∧ Upd [] w w' := by
  have H := hide h; have HST := hide hst
  clear h hst
  go_enter Tryd.func7, Tryd.ntmps7
  go_wp2_with fail
  refine (great_any _ hlen H.out).mono ?_
  rintro e w0 ⟨rfl, r, rfl, hg⟩
  cases r with
  | true =>
    clear hg
    go_wp2_with fail
    refine (wakes_any _ HST.out).mono ?_
    rintro e w3 ⟨rfl, hu3⟩
    have U3 := hide hu3
    clear hu3
    go_wp2_with fail
    go_ret
    exact ⟨rfl, U3.out⟩
  | false =>
    obtain ⟨hl2, hbl⟩ := hg rfl
    have HB := hide hbl
    clear hg hbl
    simp only [maxLen] at hlen
    go_wp2_with fail
    refine (new_at w).mono ?_
    rintro e w1 ⟨rfl, h1⟩
    have H1 := hide h1
    clear h1
    go_upto_block 0 with fail
    go_cut [4] (fun _ wx => ∃ d : DS, At w w.heap.size d wx ∧ d.Ok 2000000)
    case first =>
      as_aux_lemma =>
      go_wp2_with fail
      go_loopw [4] (fun si wr => ∃ (k : Nat) (d : DS), k ≤ len ∧ si = .int .i64 k ∧ At w w.heap.size d wr ∧ d.Ok (k * 10000)) (fun si _ => len - (intOf si).toNat)
      case atStart => exact ⟨0, _, by omega, rfl, H1.out, ⟨by simp, by simp, by simp, by simp⟩⟩
      case round =>
        obtain ⟨k, d, hk, rfl, hat, hok⟩ := hrel
        have A := hide hat; have OK := hide hok
        clear hat hok
        by_cases hlt : k < len
        · have d5 : decide ((k : Int) < len) = true := by simp; omega
          have d5' : decide (k < len) = true := by simpa using hlt
          obtain ⟨b, off, rfl, hact⟩ := H.out k hlt
          have hbl := HB.out k hlt
          have AC := hide hact
          have hc0 := cell_keep A.out.2.1 hact.c0 (by simp)
          have hc1 := cell_keep A.out.2.1 hact.c1 (by simp)
          have hc2 := cell_keep A.out.2.1 hact.c2 (by simp)
          clear hact
          go_wp2_with fail
          have hbsl : (bss k).length = bls k := by have := AC.out.src.len; simpa using this
          refine (does_at (bs := bss k) A.out AC.out.src AC.out.cap (by omega) ⟨OK.out.syn, by have := OK.out.len; omega, OK.out.lo, OK.out.hi⟩ AC.out.lo AC.out.low AC.out.hi).mono ?_
          rintro e w2 ⟨rfl, h2, -⟩
          have ok2 := does_ok (k := dos k) (n := ns k) (bs := bss k) (c := 10000) OK.out (by omega) AC.out.hi
          have A2 := hide h2; have OK2 := hide ok2
          clear h2 ok2 hbsl hc0 hc1 hc2
          go_wp2_with fail
          go_roundw
          case rel => exact ⟨k + 1, _, by omega, by go_num, A2.out, by have := OK2.out; rwa [show k * 10000 + 10000 = (k + 1) * 10000 by omega] at this⟩
          case measure => simp [intOf]; omega
        · have d5 : decide ((k : Int) < len) = false := by simp; omega
          have d5' : decide (k < len) = false := by simpa using hlt
          go_wp2_with fail
          go_meet
          exact ⟨d, A.out, ⟨OK.out.syn, by have := OK.out.len; omega, OK.out.lo, OK.out.hi⟩⟩
    case rest =>
    obtain ⟨d, hat, hok⟩ := hcut
    have A := hide hat; have OK := hide hok
    clear hat hok
    go_wp2_with fail
    refine (bytes_at A.out (by have := OK.out.len; omega)).mono ?_
    rintro e w2 ⟨⟨bo, bc, rfl, ho⟩, hu2⟩
    have A2 := hide (A.out.quiet hu2).1; have O2 := hide ho; have V2 := hide hu2
    clear ho hu2
    go_wp2_with fail
    obtain ⟨bv2, hd2⟩ := A2.out.2.2
    refine (synced_any _ hd2).mono ?_
    rintro e w3 ⟨rfl, rfl⟩
    clear hd2
    go_wp2_with fail
    refine (open_at HST.out A2.out ⟨OK.out.syn, by have := OK.out.len; omega, OK.out.lo, OK.out.hi⟩).mono ?_
    rintro e w3 hop
    cases hd : d.dead with
    | true =>
      obtain ⟨rfl, h3, -⟩ := hop.dead hd
      have A3 := hide h3
      clear hop h3
      go_wp2_with fail
      obtain ⟨bv3, hd3⟩ := A3.out.2.2
      refine (dead_any _ hd3).mono ?_
      rintro e w4 ⟨rfl, rfl⟩
      rw [hd]
      clear hd3
      go_wp2_with fail
      refine (wakes_any _ (HST.out.upd A3.out.2.1 (by simp))).mono ?_
      rintro e w4 ⟨rfl, hu4⟩
      have U4 := hide (A3.out.2.1.trans hu4)
      clear hu4
      go_wp2_with fail
      go_ret
      exact ⟨rfl, U4.out⟩
    | false =>
      by_cases h0 : (all (d.byt.take d.syn)).2.2 = 0
      · obtain ⟨l1, n1, e1, hal1⟩ : ∃ l1 n1 e1, all (d.byt.take d.syn) = (l1, n1, e1) := ⟨_, _, _, rfl⟩
        obtain ⟨l2, n2, e2, hal2⟩ : ∃ l2 n2 e2, all (d.byt.drop d.syn) = (l2, n2, e2) := ⟨_, _, _, rfl⟩
        rw [hal1] at h0
        have h0' : e1 = 0 := h0
        subst h0'
        obtain ⟨L, rao, rcap, rvs, rfl, hL, hlie, h3, hn3⟩ := hop.ok hd hal1 hal2
        obtain ⟨ls, hls⟩ : ∃ ls, l1 ++ l2 = ls := ⟨_, rfl⟩
        rw [hls] at hlie
        have hlen2 : (l1 ++ l2).length = ls.length := by rw [hls]
        rw [hlen2]
        clear hlen2
        have LS := hide hls
        have hle := all_le _ (d.byt.drop d.syn) (Nat.le_refl _)
        rw [hal2, List.length_drop] at hle
        simp only at hle
        have hsy := OK.out.syn
        have hbl := OK.out.len
        have htl : (d.byt.take (d.syn + n2)).length = d.syn + n2 := by rw [List.length_take]; omega
        have A3 := hide h3; have O3 := hide (bytes_near A.out V2.out O2.out hn3); have AL1 := hide hal1; have AL2 := hide hal2; have RR := hide hlie.rows.reads
        clear hop h3 hn3 h0 hal1 hal2 hL hlie hls
        go_wp2_with fail
        obtain ⟨bv3, hd3⟩ := A3.out.2.2
        refine (dead_any _ hd3).mono ?_
        rintro e w4 ⟨rfl, rfl⟩
        rw [hd]
        clear hd3
        go_wp2_with fail
        obtain ⟨_, _, eqs, hb1, hb2, -⟩ := owns_slice O3.out
        cases eqs
        refine (Ref.open_any (bs := d.byt) (k := d.syn) _ (src_own O3.out (by simp [u8v, Value.oneCell'])) hb1 hb2 (by have := OK.out.len; omega) OK.out.syn).mono ?_
        rintro e w4 ⟨hu4, (⟨h4, -⟩ | ⟨-, rv, rfl, hrr⟩)⟩
        · rw [AL1.out] at h4; exact absurd rfl h4
        · rw [AL1.out, AL2.out] at hrr
          rw [AL2.out]
          simp only at hrr
          rw [LS.out] at hrr
          obtain ⟨vao, vcap, rfl, -⟩ := id hrr
          have RR4 := hide (RR.out.upd hu4); have RV4 := hide hrr
          clear hrr
          have A4 := hide (A3.out.quiet hu4).1
          have O4 := hide (owns_upd O3.out hu4 (by simp))
          clear hu4
          go_upto_region 13 with fail
          go_cut [75] (fun s wx => s = .bool false ∧ Upd [] w4 wx)
          case first =>
            as_aux_lemma =>
            have hu0 := (Upd.refl [] w4).drewN 1
            have hr := run_cut_h (P := Tryd.prog) 22 5 Tryd.underlying22 sizeB bo d.byt.length bc (d.syn + n2) ((d.syn : Int) + (n2 : Int)) (by omega) (by omega)
            refine wp_region_z (fun _ => True) 99 (by kernel_rfl) ?_
            refine wpAnyZ_takeE 0 rfl (by kernel_rfl) (by kernel_rfl) (by kernel_rfl) (by kernel_rfl) (fun _ _ _ _ h => h) rfl (by exact trivial) ?_
            apply Exists.intro
            refine ⟨fun wx hS => ?_, ?_⟩
            · go_simp; rfl
            simp only [Act.put, List.setIfInBounds_toArray, List.set_cons_succ, List.set_cons_zero, List.getElem_toArray, List.getElem_cons_zero]
            refine wpAnyZ_takeE 1 rfl (by kernel_rfl) (by kernel_rfl) (by kernel_rfl) (by kernel_rfl) (fun _ _ _ _ h => h) rfl (by exact trivial) ?_
            apply Exists.intro
            refine ⟨fun wx hS => ?_, ?_⟩
            · go_simp; rfl
            simp only [Act.put, List.setIfInBounds_toArray, List.set_cons_succ, List.set_cons_zero, List.getElem_toArray, List.getElem_cons_succ, List.getElem_cons_zero]
            refine wpAnyZ_takeE 2 rfl (by kernel_rfl) (by kernel_rfl) (by kernel_rfl) (by kernel_rfl) (fun _ _ _ _ h => h) rfl (by exact trivial) ?_
            apply Exists.intro
            refine ⟨fun wx hS => ?_, ?_⟩
            · go_simp; rfl
            simp only [Act.put, List.setIfInBounds_toArray, List.set_cons_succ, List.set_cons_zero, List.getElem_toArray, List.getElem_cons_succ, List.getElem_cons_zero]
            refine wpAnyZ_takeE 3 rfl (by kernel_rfl) (by kernel_rfl) (by kernel_rfl) (by kernel_rfl) (fun _ _ _ _ h => h) rfl (by exact trivial) ?_
            apply Exists.intro
            refine ⟨fun wx hS => ?_, ?_⟩
            · go_simp; rfl
            simp only [Act.put, List.setIfInBounds_toArray, List.set_cons_succ, List.set_cons_zero, List.getElem_toArray, List.getElem_cons_succ, List.getElem_cons_zero]
            refine wpAnyZ_takeE 4 rfl (by kernel_rfl) (by kernel_rfl) (by kernel_rfl) (by kernel_rfl) (fun _ _ _ _ h => h) rfl (by exact trivial) ?_
            apply Exists.intro
            refine ⟨fun wx hS => ?_, ?_⟩
            · go_simp; rfl
            simp only [Act.put, List.setIfInBounds_toArray, List.set_cons_succ, List.set_cons_zero, List.getElem_toArray, List.getElem_cons_succ, List.getElem_cons_zero]
            refine wpAnyZ_takeE 5 rfl (by kernel_rfl) (by kernel_rfl) (by kernel_rfl) (by kernel_rfl) (fun _ _ _ _ h => h) rfl (by exact trivial) ?_
            apply Exists.intro
            refine ⟨fun wx hS => ?_, ?_⟩
            · go_simp; rfl
            simp only [Act.put, List.setIfInBounds_toArray, List.set_cons_succ, List.set_cons_zero, List.getElem_toArray, List.getElem_cons_succ, List.getElem_cons_zero]
            refine wpAnyZ_one 6 (by kernel_rfl) rfl rfl (fun K hK => ?_)
            try simp only [List.getElem_toArray, List.getElem_cons_succ, List.getElem_cons_zero]
            go_simp
            refine (Ref.rows_same _ (RR4.out.upd hu0) (RV4.out.upd hu0)).mono ?_
            rintro e w5 ⟨rfl, hu5⟩
            have U5 := hide (hu0.trans hu5)
            clear hu5
            rw [decide_eq_true rfl]
            refine hK _ _ (.inr trivial) ?_
            clear hK K
            try simp only [Act.put, List.setIfInBounds_toArray, List.set_cons_succ, List.set_cons_zero]
            refine wpAnyZ_takeE 7 rfl (by kernel_rfl) (by kernel_rfl) (by kernel_rfl) (by kernel_rfl) (fun _ _ _ _ h => h) rfl (by exact trivial) ?_
            apply Exists.intro
            refine ⟨fun wx hS => ?_, ?_⟩
            · go_simp; rfl
            simp only [Act.put, List.setIfInBounds_toArray, List.set_cons_succ, List.set_cons_zero, List.getElem_toArray, List.getElem_cons_succ, List.getElem_cons_zero]
            refine wpAnyZ_takeE 8 rfl (by kernel_rfl) (by kernel_rfl) (by kernel_rfl) (by kernel_rfl) (fun _ _ _ _ h => h) rfl (by exact trivial) ?_
            apply Exists.intro
            refine ⟨fun wx hS => ?_, ?_⟩
            · go_simp; rfl
            simp only [Act.put, List.setIfInBounds_toArray, List.set_cons_succ, List.set_cons_zero, List.getElem_toArray, List.getElem_cons_succ, List.getElem_cons_zero]
            refine wpAnyZ_takeE 9 rfl (by kernel_rfl) (by kernel_rfl) (by kernel_rfl) (by kernel_rfl) (fun _ _ _ _ h => h) rfl (by exact trivial) ?_
            apply Exists.intro
            refine ⟨fun wx hS => ?_, ?_⟩
            · go_simp; rfl
            simp only [Act.put, List.setIfInBounds_toArray, List.set_cons_succ, List.set_cons_zero, List.getElem_toArray, List.getElem_cons_succ, List.getElem_cons_zero]
            refine wpAnyZ_takeE 10 rfl (by kernel_rfl) (by kernel_rfl) (by kernel_rfl) (by kernel_rfl) (fun _ _ _ _ h => h) rfl (by exact trivial) ?_
            apply Exists.intro
            refine ⟨fun wx hS => ?_, ?_⟩
            · go_simp; rfl
            simp only [Act.put, List.setIfInBounds_toArray, List.set_cons_succ, List.set_cons_zero, List.getElem_toArray, List.getElem_cons_succ, List.getElem_cons_zero]
            refine wpAnyZ_takeE 13 rfl (by kernel_rfl) (by kernel_rfl) (by kernel_rfl) (by kernel_rfl) (fun _ _ _ _ h => h) rfl (by exact trivial) ?_
            apply Exists.intro
            refine ⟨fun wx hS => ?_, ?_⟩
            · go_simp; rfl
            simp only [Act.put, List.setIfInBounds_toArray, List.set_cons_succ, List.set_cons_zero, List.getElem_toArray, List.getElem_cons_succ, List.getElem_cons_zero]
            refine wpAnyZ_takeE 14 rfl (by kernel_rfl) (by kernel_rfl) (by kernel_rfl) (by kernel_rfl) (fun _ _ _ _ h => h) rfl (by exact trivial) ?_
            apply Exists.intro
            refine ⟨fun wx hS => ?_, ?_⟩
            · go_simp; rfl
            simp only [Act.put, List.setIfInBounds_toArray, List.set_cons_succ, List.set_cons_zero, List.getElem_toArray, List.getElem_cons_succ, List.getElem_cons_zero]
            refine wpAnyZ_takeE 15 rfl (by kernel_rfl) (by kernel_rfl) (by kernel_rfl) (by kernel_rfl) (fun _ _ _ _ h => h) rfl (by exact trivial) ?_
            apply Exists.intro
            refine ⟨fun wx hS => ?_, ?_⟩
            · go_simp; rfl
            simp only [Act.put, List.setIfInBounds_toArray, List.set_cons_succ, List.set_cons_zero, List.getElem_toArray, List.getElem_cons_succ, List.getElem_cons_zero]
            have hs1 := run_str (src_head (src_own (owns_upd O4.out U5.out (by simp)) (by simp [u8v, Value.oneCell'])) (h := d.syn + n2) (by omega) hb1)
            refine wpAnyZ_strong (S' := fun w' => (convert 22 9 (.slice bo (d.syn + n2) bc)).run Tryd.prog w' = .ok (.string (strOf (d.byt.take (d.syn + n2)))) w') (fun _ _ => trivial) _ _ _ _ ?_
            refine wpAnyZ_takeE 16 rfl (by kernel_rfl) (by kernel_rfl) (by kernel_rfl) (by kernel_rfl) (fun _ _ _ _ h => h) rfl (by exact hs1) ?_
            apply Exists.intro
            refine ⟨fun wx hS => ?_, ?_⟩
            · have s0 := hS; go_simp; rfl
            simp only [Act.put, List.setIfInBounds_toArray, List.set_cons_succ, List.set_cons_zero, List.getElem_toArray, List.getElem_cons_succ, List.getElem_cons_zero]
            refine wpAnyZ_one 11 (by kernel_rfl) rfl rfl (fun K hK => ?_)
            try simp only [List.getElem_toArray, List.getElem_cons_succ, List.getElem_cons_zero]
            go_simp
            refine (bytes_at (A4.out.quiet U5.out).1 (by simp only; omega)).mono ?_
            rintro e w6 ⟨⟨bo6, bc6, rfl, ho6⟩, hu6⟩
            have U6 := hide (U5.out.trans hu6)
            have hs2 := run_str (src_head (src_own (owns_upd O4.out U6.out (by simp)) (by simp [u8v, Value.oneCell'])) (h := d.syn + n2) (by omega) hb1)
            have hs3 := run_str (src_ownB ho6)
            simp only [htl] at hs3
            have hq := strOf_eq (d.byt.take (d.syn + n2)) (d.byt.take (d.syn + n2))
            rw [decide_eq_true rfl] at hq
            clear hu6 ho6 hs1
            refine hK _ _ (.inr hs2) ?_
            clear hK K
            refine wpAnyZ_strong (S' := fun w' => (convert 22 9 (.slice bo6 (d.syn + n2) bc6)).run Tryd.prog w' = .ok (.string (strOf (d.byt.take (d.syn + n2)))) w' ∧ (convert 22 9 (.slice bo (d.syn + n2) bc)).run Tryd.prog w' = .ok (.string (strOf (d.byt.take (d.syn + n2)))) w') (fun _ h => h.2) _ _ _ _ ?_
            refine wpAnyZ_takeE 12 rfl (by kernel_rfl) (by kernel_rfl) (by kernel_rfl) (by kernel_rfl) (fun _ _ _ _ h => h) rfl (by exact ⟨hs3, hs2⟩) ?_
            apply Exists.intro
            refine ⟨fun wx hS => ?_, ?_⟩
            · obtain ⟨s0, s1⟩ := hS; go_simp; rfl
            simp only [Act.put, List.setIfInBounds_toArray, List.set_cons_succ, List.set_cons_zero, List.getElem_toArray, List.getElem_cons_succ, List.getElem_cons_zero]
            refine wpAnyZ_takeE 17 rfl (by kernel_rfl) (by kernel_rfl) (by kernel_rfl) (by kernel_rfl) (fun _ _ _ _ h => h) rfl (by exact ⟨hs3, hs2⟩) ?_
            apply Exists.intro
            refine ⟨fun wx hS => ?_, ?_⟩
            · obtain ⟨s0, s1⟩ := hS; go_simp; rfl
            simp only [Act.put, List.setIfInBounds_toArray, List.set_cons_succ, List.set_cons_zero, List.getElem_toArray, List.getElem_cons_succ, List.getElem_cons_zero]
            refine wpAnyZ_takeE 18 rfl (by kernel_rfl) (by kernel_rfl) (by kernel_rfl) (by kernel_rfl) (fun _ _ _ _ h => h) rfl (by exact ⟨hs3, hs2⟩) ?_
            apply Exists.intro
            refine ⟨fun wx hS => ?_, ?_⟩
            · obtain ⟨s0, s1⟩ := hS; go_simp; rfl
            simp only [Act.put, List.setIfInBounds_toArray, List.set_cons_succ, List.set_cons_zero, List.getElem_toArray, List.getElem_cons_succ, List.getElem_cons_zero]
            refine wpAnyZ_done (by kernel_rfl) ?_ _
            go_wp2_with fail
            go_meet
            exact ⟨rfl, U6.out⟩
          case rest =>
          obtain ⟨rfl, hu7⟩ := hcut
          have qz : (((d.syn + n2 : Nat) : Int) == (d.syn : Int) + (n2 : Int)) = true := by simp
          have A7 := hide (A4.out.quiet hu7).1
          clear hu7
          go_wp2_with fail
          obtain ⟨bv7, hd7⟩ := A7.out.2.2
          refine (synced_any _ hd7).mono ?_
          rintro e w8 ⟨rfl, rfl⟩
          clear hd7
          go_wp2_with fail
          refine (wakes_any _ (HST.out.upd A7.out.2.1 (by simp))).mono ?_
          rintro e w8 ⟨rfl, hu8⟩
          have U8 := hide (A7.out.2.1.trans hu8)
          clear hu8
          go_wp2_with fail
          go_ret
          exact ⟨rfl, U8.out⟩
      · obtain ⟨rfl, h3, hn3⟩ := hop.bad hd h0
        have A3 := hide h3; have O3 := hide (bytes_near A.out V2.out O2.out hn3); have Z := hide h0
        clear hop h3 hn3 h0
        go_wp2_with fail
        obtain ⟨bv3, hd3⟩ := A3.out.2.2
        refine (dead_any _ hd3).mono ?_
        rintro e w4 ⟨rfl, rfl⟩
        rw [hd]
        clear hd3
        go_wp2_with fail
        obtain ⟨_, _, eqs, hb1, hb2, -⟩ := owns_slice O3.out
        cases eqs
        refine (Ref.open_any (bs := d.byt) (k := d.syn) _ (src_own O3.out (by simp [u8v, Value.oneCell'])) hb1 hb2 (by have := OK.out.len; omega) OK.out.syn).mono ?_
        rintro e w4 ⟨hu4, (⟨-, rfl⟩ | ⟨h4, -⟩)⟩
        · have A4 := hide (A3.out.quiet hu4).1
          have O4 := hide (owns_upd O3.out hu4 (by simp))
          clear hu4
          go_upto_region 13 with fail
          go_cut [75] (fun s wx => s = .bool false ∧ Upd [] w4 wx)
          case first =>
            as_aux_lemma =>
            have hu0 := (Upd.refl [] w4).drewN 1
            have hr := run_cut_h (P := Tryd.prog) 22 5 Tryd.underlying22 sizeB bo d.byt.length bc d.byt.length (d.byt.length : Int) rfl hb1
            have nilr : ∀ W, ReadsRows W (.slice none 0 0) [] := fun W => ⟨none, 0, rfl, by simp, by simp [maxLen], fun i l h => by simp at h⟩
            refine wp_region_z (fun _ => True) 99 (by kernel_rfl) ?_
            refine wpAnyZ_takeE 0 rfl (by kernel_rfl) (by kernel_rfl) (by kernel_rfl) (by kernel_rfl) (fun _ _ _ _ h => h) rfl (by exact trivial) ?_
            apply Exists.intro
            refine ⟨fun wx hS => ?_, ?_⟩
            · go_simp; rfl
            simp only [Act.put, List.setIfInBounds_toArray, List.set_cons_succ, List.set_cons_zero, List.getElem_toArray, List.getElem_cons_zero]
            refine wpAnyZ_takeE 1 rfl (by kernel_rfl) (by kernel_rfl) (by kernel_rfl) (by kernel_rfl) (fun _ _ _ _ h => h) rfl (by exact trivial) ?_
            apply Exists.intro
            refine ⟨fun wx hS => ?_, ?_⟩
            · go_simp; rfl
            simp only [Act.put, List.setIfInBounds_toArray, List.set_cons_succ, List.set_cons_zero, List.getElem_toArray, List.getElem_cons_succ, List.getElem_cons_zero]
            refine wpAnyZ_takeE 2 rfl (by kernel_rfl) (by kernel_rfl) (by kernel_rfl) (by kernel_rfl) (fun _ _ _ _ h => h) rfl (by exact trivial) ?_
            apply Exists.intro
            refine ⟨fun wx hS => ?_, ?_⟩
            · go_simp; rfl
            simp only [Act.put, List.setIfInBounds_toArray, List.set_cons_succ, List.set_cons_zero, List.getElem_toArray, List.getElem_cons_succ, List.getElem_cons_zero]
            refine wpAnyZ_takeE 3 rfl (by kernel_rfl) (by kernel_rfl) (by kernel_rfl) (by kernel_rfl) (fun _ _ _ _ h => h) rfl (by exact trivial) ?_
            apply Exists.intro
            refine ⟨fun wx hS => ?_, ?_⟩
            · go_simp; rfl
            simp only [Act.put, List.setIfInBounds_toArray, List.set_cons_succ, List.set_cons_zero, List.getElem_toArray, List.getElem_cons_succ, List.getElem_cons_zero]
            refine wpAnyZ_takeE 4 rfl (by kernel_rfl) (by kernel_rfl) (by kernel_rfl) (by kernel_rfl) (fun _ _ _ _ h => h) rfl (by exact trivial) ?_
            apply Exists.intro
            refine ⟨fun wx hS => ?_, ?_⟩
            · go_simp; rfl
            simp only [Act.put, List.setIfInBounds_toArray, List.set_cons_succ, List.set_cons_zero, List.getElem_toArray, List.getElem_cons_succ, List.getElem_cons_zero]
            refine wpAnyZ_takeE 5 rfl (by kernel_rfl) (by kernel_rfl) (by kernel_rfl) (by kernel_rfl) (fun _ _ _ _ h => h) rfl (by exact trivial) ?_
            apply Exists.intro
            refine ⟨fun wx hS => ?_, ?_⟩
            · go_simp; rfl
            simp only [Act.put, List.setIfInBounds_toArray, List.set_cons_succ, List.set_cons_zero, List.getElem_toArray, List.getElem_cons_succ, List.getElem_cons_zero]
            refine wpAnyZ_one 6 (by kernel_rfl) rfl rfl (fun K hK => ?_)
            try simp only [List.getElem_toArray, List.getElem_cons_succ, List.getElem_cons_zero]
            go_simp
            refine (Ref.rows_same (la := []) (lb := []) _ (nilr _) (nilr _)).mono ?_
            rintro e w5 ⟨rfl, hu5⟩
            have U5 := hide (hu0.trans hu5)
            clear hu5
            rw [decide_eq_true rfl]
            refine hK _ _ (.inr trivial) ?_
            clear hK K
            try simp only [Act.put, List.setIfInBounds_toArray, List.set_cons_succ, List.set_cons_zero]
            refine wpAnyZ_takeE 7 rfl (by kernel_rfl) (by kernel_rfl) (by kernel_rfl) (by kernel_rfl) (fun _ _ _ _ h => h) rfl (by exact trivial) ?_
            apply Exists.intro
            refine ⟨fun wx hS => ?_, ?_⟩
            · go_simp; rfl
            simp only [Act.put, List.setIfInBounds_toArray, List.set_cons_succ, List.set_cons_zero, List.getElem_toArray, List.getElem_cons_succ, List.getElem_cons_zero]
            refine wpAnyZ_takeE 8 rfl (by kernel_rfl) (by kernel_rfl) (by kernel_rfl) (by kernel_rfl) (fun _ _ _ _ h => h) rfl (by exact trivial) ?_
            apply Exists.intro
            refine ⟨fun wx hS => ?_, ?_⟩
            · go_simp; rfl
            simp only [Act.put, List.setIfInBounds_toArray, List.set_cons_succ, List.set_cons_zero, List.getElem_toArray, List.getElem_cons_succ, List.getElem_cons_zero]
            refine wpAnyZ_takeE 9 rfl (by kernel_rfl) (by kernel_rfl) (by kernel_rfl) (by kernel_rfl) (fun _ _ _ _ h => h) rfl (by exact trivial) ?_
            apply Exists.intro
            refine ⟨fun wx hS => ?_, ?_⟩
            · go_simp; rfl
            simp only [Act.put, List.setIfInBounds_toArray, List.set_cons_succ, List.set_cons_zero, List.getElem_toArray, List.getElem_cons_succ, List.getElem_cons_zero]
            refine wpAnyZ_takeE 10 rfl (by kernel_rfl) (by kernel_rfl) (by kernel_rfl) (by kernel_rfl) (fun _ _ _ _ h => h) rfl (by exact trivial) ?_
            apply Exists.intro
            refine ⟨fun wx hS => ?_, ?_⟩
            · go_simp; rfl
            simp only [Act.put, List.setIfInBounds_toArray, List.set_cons_succ, List.set_cons_zero, List.getElem_toArray, List.getElem_cons_succ, List.getElem_cons_zero]
            refine wpAnyZ_takeE 13 rfl (by kernel_rfl) (by kernel_rfl) (by kernel_rfl) (by kernel_rfl) (fun _ _ _ _ h => h) rfl (by exact trivial) ?_
            apply Exists.intro
            refine ⟨fun wx hS => ?_, ?_⟩
            · go_simp; rfl
            simp only [Act.put, List.setIfInBounds_toArray, List.set_cons_succ, List.set_cons_zero, List.getElem_toArray, List.getElem_cons_succ, List.getElem_cons_zero]
            refine wpAnyZ_takeE 14 rfl (by kernel_rfl) (by kernel_rfl) (by kernel_rfl) (by kernel_rfl) (fun _ _ _ _ h => h) rfl (by exact trivial) ?_
            apply Exists.intro
            refine ⟨fun wx hS => ?_, ?_⟩
            · go_simp; rfl
            simp only [Act.put, List.setIfInBounds_toArray, List.set_cons_succ, List.set_cons_zero, List.getElem_toArray, List.getElem_cons_succ, List.getElem_cons_zero]
            refine wpAnyZ_takeE 15 rfl (by kernel_rfl) (by kernel_rfl) (by kernel_rfl) (by kernel_rfl) (fun _ _ _ _ h => h) rfl (by exact trivial) ?_
            apply Exists.intro
            refine ⟨fun wx hS => ?_, ?_⟩
            · go_simp; rfl
            simp only [Act.put, List.setIfInBounds_toArray, List.set_cons_succ, List.set_cons_zero, List.getElem_toArray, List.getElem_cons_succ, List.getElem_cons_zero]
            have hs1 := run_str (src_own (owns_upd O4.out U5.out (by simp)) (by simp [u8v, Value.oneCell']))
            refine wpAnyZ_strong (S' := fun w' => (convert 22 9 (.slice bo d.byt.length bc)).run Tryd.prog w' = .ok (.string (strOf d.byt)) w') (fun _ _ => trivial) _ _ _ _ ?_
            refine wpAnyZ_takeE 16 rfl (by kernel_rfl) (by kernel_rfl) (by kernel_rfl) (by kernel_rfl) (fun _ _ _ _ h => h) rfl (by exact hs1) ?_
            apply Exists.intro
            refine ⟨fun wx hS => ?_, ?_⟩
            · have s0 := hS; go_simp; rfl
            simp only [Act.put, List.setIfInBounds_toArray, List.set_cons_succ, List.set_cons_zero, List.getElem_toArray, List.getElem_cons_succ, List.getElem_cons_zero]
            refine wpAnyZ_one 11 (by kernel_rfl) rfl rfl (fun K hK => ?_)
            try simp only [List.getElem_toArray, List.getElem_cons_succ, List.getElem_cons_zero]
            go_simp
            refine (bytes_at (A4.out.quiet U5.out).1 (by have := OK.out.len; omega)).mono ?_
            rintro e w6 ⟨⟨bo6, bc6, rfl, ho6⟩, hu6⟩
            have U6 := hide (U5.out.trans hu6)
            have hs2 := run_str (src_own (owns_upd O4.out U6.out (by simp)) (by simp [u8v, Value.oneCell']))
            have hs3 := run_str (src_own ho6 (by simp [u8v, Value.oneCell']))
            have hq := strOf_eq d.byt d.byt
            rw [decide_eq_true rfl] at hq
            clear hu6 ho6 hs1
            refine hK _ _ (.inr hs2) ?_
            clear hK K
            try simp only [Act.put, List.setIfInBounds_toArray, List.set_cons_succ, List.set_cons_zero]
            refine wpAnyZ_strong (S' := fun w' => (convert 22 9 (.slice bo6 d.byt.length bc6)).run Tryd.prog w' = .ok (.string (strOf d.byt)) w' ∧ (convert 22 9 (.slice bo d.byt.length bc)).run Tryd.prog w' = .ok (.string (strOf d.byt)) w') (fun _ h => h.2) _ _ _ _ ?_
            refine wpAnyZ_takeE 12 rfl (by kernel_rfl) (by kernel_rfl) (by kernel_rfl) (by kernel_rfl) (fun _ _ _ _ h => h) rfl (by exact ⟨hs3, hs2⟩) ?_
            apply Exists.intro
            refine ⟨fun wx hS => ?_, ?_⟩
            · obtain ⟨s0, s1⟩ := hS; go_simp; rfl
            simp only [Act.put, List.setIfInBounds_toArray, List.set_cons_succ, List.set_cons_zero, List.getElem_toArray, List.getElem_cons_succ, List.getElem_cons_zero]
            refine wpAnyZ_takeE 17 rfl (by kernel_rfl) (by kernel_rfl) (by kernel_rfl) (by kernel_rfl) (fun _ _ _ _ h => h) rfl (by exact ⟨hs3, hs2⟩) ?_
            apply Exists.intro
            refine ⟨fun wx hS => ?_, ?_⟩
            · obtain ⟨s0, s1⟩ := hS; go_simp; rfl
            simp only [Act.put, List.setIfInBounds_toArray, List.set_cons_succ, List.set_cons_zero, List.getElem_toArray, List.getElem_cons_succ, List.getElem_cons_zero]
            refine wpAnyZ_takeE 18 rfl (by kernel_rfl) (by kernel_rfl) (by kernel_rfl) (by kernel_rfl) (fun _ _ _ _ h => h) rfl (by exact ⟨hs3, hs2⟩) ?_
            apply Exists.intro
            refine ⟨fun wx hS => ?_, ?_⟩
            · obtain ⟨s0, s1⟩ := hS; go_simp; rfl
            simp only [Act.put, List.setIfInBounds_toArray, List.set_cons_succ, List.set_cons_zero, List.getElem_toArray, List.getElem_cons_succ, List.getElem_cons_zero]
            refine wpAnyZ_done (by kernel_rfl) ?_ _
            go_wp2_with fail
            go_meet
            exact ⟨rfl, U6.out⟩
          case rest =>
          obtain ⟨rfl, hu7⟩ := hcut
          have A7 := hide (A4.out.quiet hu7).1
          clear hu7
          go_wp2_with fail
          obtain ⟨bv7, hd7⟩ := A7.out.2.2
          refine (synced_any _ hd7).mono ?_
          rintro e w8 ⟨rfl, rfl⟩
          clear hd7
          go_wp2_with fail
          refine (wakes_any _ (HST.out.upd A7.out.2.1 (by simp))).mono ?_
          rintro e w8 ⟨rfl, hu8⟩
          have U8 := hide (A7.out.2.1.trans hu8)
          clear hu8
          go_wp2_with fail
          go_ret
          exact ⟨rfl, U8.out⟩
        · exact absurd h4 Z.out
end Go.Proofs.YtmgdhloehkdffaaDoor.Rec
