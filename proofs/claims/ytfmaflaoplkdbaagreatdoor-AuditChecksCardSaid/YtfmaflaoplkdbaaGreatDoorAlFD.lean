/- AlF, AlD in one text. -/
import Derived.Test.YtfmaflaoplkdbaaGreatDoorAuKH
import Derived.Test.YtfmaflaoplkdbaaGreatDoorAuI
import Derived.Test.YtfmaflaoplkdbaaGreatDoorAlGB
set_option linter.unusedSimpArgs false
set_option linter.unusedVariables false
set_option linter.unnecessarySimpa false
namespace Go.Proofs.YtfmaflaoplkdbaaGreatDoor.Au
open Go.RowKit Go.Proofs.YtfmaflaoplkdbaaGreatDoor.Crc Go.Proofs.YtfmaflaoplkdbaaGreatDoor.Cm Go.Proofs.YtfmaflaoplkdbaaGreatDoor.Tr Go.Proofs.YtfmaflaoplkdbaaGreatDoor.Kv
set_option linter.unusedSimpArgs false
set_option linter.unusedVariables false

theorem eql_an (a b : An) (w : World) : (binOp .eql 39 (.agg #[.int .u32 (a.client : Int), .int .u32 (a.seq : Int), .int .u8 (a.code : Int), .string (strOf a.text)]) (.agg #[.int .u32 (b.client : Int), .int .u32 (b.seq : Int), .int .u8 (b.code : Int), .string (strOf b.text)])).run Tryz.prog w = .ok (.bool (decide (a = b))) w := by
  rw [run_eql_struct]
  have := eq_an a b w
  unfold anv at this
  rw [this]
  rfl
theorem sl_at {w : World} {T : Nat → Prop} {xo : Option Addr} {m cp : Nat} {l : List Sl} {i : Nat} {s : Sl} (h : slK.row w T (.slice xo m cp) l) (hi : l[i]? = some s) : ∃ (b off : Nat) (xc : Option Addr) (cc : Nat) (xa : Option Addr) (ca : Nat), xo = some ⟨b, off, none⟩ ∧
    w.cell? ⟨b, off + i * 3, none⟩ = some (.int .u64 (s.slot : Int)) ∧ w.cell? ⟨b, off + i * 3 + 1, none⟩ = some (.slice xc s.cmds.length cc) ∧ w.cell? ⟨b, off + i * 3 + 2, none⟩ = some (.slice xa s.ans.length ca) ∧
    cmK.row w T (.slice xc s.cmds.length cc) s.cmds ∧ anK.row w T (.slice xa s.ans.length ca) s.ans ∧ s.cmds.length ≤ 9223372036854775807 ∧ s.ans.length ≤ 9223372036854775807 := by
  obtain ⟨xo', cp', e, hcp, hcm, hg⟩ := Row.get slK.hz h
  obtain ⟨b, off, cs, h1, hb, hT, ⟨hs, vc, va, rfl, hvc, hva⟩, -, hcell⟩ := hg i s hi
  obtain ⟨xc, cc, rfl, h2, h3⟩ := Row.slice hvc
  obtain ⟨xa, ca, rfl, h4, h5⟩ := Row.slice hva
  cases e
  simp only [maxLen] at h3 h5
  exact ⟨b, off, xc, cc, xa, ca, h1, hcell 0 _ rfl, hcell 1 _ rfl, hcell 2 _ rfl, hvc, hva, by omega, by omega⟩
theorem same_all {A : Ap} {s : Sl} : (decide (s.cmds.length = s.ans.length) && decide ((wantM A s.cmds).1 = s.ans.take s.cmds.length)) = decide ((wantM A s.cmds).1 = s.ans) := by
  have hl := wantM_len s.cmds A
  by_cases h : s.cmds.length = s.ans.length
  · rw [decide_eq_true h, Bool.true_and, h, List.take_length]
  · have h2 : ¬ (wantM A s.cmds).1 = s.ans := fun e => h (by rw [← hl, e])
    rw [decide_eq_false h, decide_eq_false h2, Bool.false_and]
theorem same_step {A : Ap} {s : Sl} {j : Nat} {c : Cm} {a : An} (hc : s.cmds[j]? = some c) (ha : s.ans[j]? = some a) :
    decide ((wantM A (s.cmds.take (j + 1))).1 = s.ans.take (j + 1)) = (decide ((wantM A (s.cmds.take j)).1 = s.ans.take j) && decide (a = wantA (wantM A (s.cmds.take j)).2 c)) := by
  rw [take_snoc hc, wantM_snoc, take_snoc ha]
  have hl : (wantM A (s.cmds.take j)).1.length = (s.ans.take j).length := by
    have h1 := (List.getElem?_eq_some_iff.1 hc).1
    have h2 := (List.getElem?_eq_some_iff.1 ha).1
    rw [wantM_len, List.length_take, List.length_take]
    omega
  rw [← Bool.decide_and]
  refine decide_eq_decide.2 ⟨fun h => ?_, fun h => ?_⟩
  · obtain ⟨h1, h2⟩ := List.append_inj h hl
    exact ⟨h1, by simpa using h2.symm⟩
  · rw [h.1, h.2]
set_option maxRecDepth 100000 in
set_option maxHeartbeats 8000000 in
theorem folded_any {T : Nat → Prop} {v : Value} {out : List Sl} {k : Nat} (w : World) (he : EnvAt w) (h : slK.row w T v out) (hT : ∀ g, T g → g < w.heap.size) (hlen : ∀ n, ((out.take n).flatMap (·.cmds)).length ≤ 6400) :
    Calls Tryz.prog 66 #[v, .int .u64 (k : Int)] w fun e w' => e = .returned (.bool (foldedM ap0 out k)) ∧ Upd [] w w' := by
  obtain ⟨xo, cp, rfl, h3, h4⟩ := Row.slice h
  have HE := hide he; have HR := hide h; have HL := hide hlen; have HTT := hide hT
  simp only [maxLen] at h4
  clear he h hlen hT
  go_enter Tryz.func66, Tryz.ntmps66
  go_wp2_with fail
  refine (anew_any w).mono ?_
  rintro e w1 ⟨⟨p, rfl, hap⟩, hu1⟩
  have hz1 := hu1.size
  obtain ⟨lo, hlo⟩ : ∃ lo, w.heap.size = lo := ⟨_, rfl⟩
  obtain ⟨hi, hhi⟩ : ∃ hi, w1.heap.size = hi := ⟨_, rfl⟩
  rw [hlo] at hap hz1
  rw [hhi] at hap hz1
  have U1 := hide hu1; have AP := hide hap
  clear hap hu1
  go_wp2_with fail
  go_loopw [6] (fun si wr => ∃ i : Nat, i ≤ out.length ∧ si = .int .i64 i ∧ Turned lo hi w1 wr ∧ ApIs wr lo hi p (apAll ap0 (out.take i)) ∧ ApOk (apAll ap0 (out.take i)) ((out.take i).flatMap (·.cmds)).length ∧ ∀ s ∈ out.take i, s.slot ≠ k) (fun si _ => out.length - (RowKit.intOf si).toNat)
  case atStart => exact ⟨0, by omega, rfl, Turned.of_nil (Upd.refl _ _) _ _, AP.out, ApOk.zero, by simp⟩
  case round =>
    obtain ⟨i, hi1, rfl, htu, hap, hok, hno⟩ := hrel
    have hur : Upd [] w wr := htu.upd_new U1.out (by omega)
    have TU := hide htu; have AR := hide hap; have OK := hide hok; have NO := hide hno; have UR := hide hur
    clear htu hap hok hno hur
    by_cases hil : i < out.length
    · have d5 : decide ((i : Int) < out.length) = true := by simp; omega
      have d5' : decide (i < out.length) = true := by simpa using hil
      obtain ⟨s, hs⟩ : ∃ s, out[i]? = some s := ⟨_, List.getElem?_eq_getElem hil⟩
      obtain ⟨b, off, xc, cc, xa, ca, rfl, y0, y1, y2, hvc, hva, hcl, hal⟩ := sl_at HR.out hs
      have y0' : ∀ n, (wr.drewN n).cell? ⟨b, off + i * 3, none⟩ = some (.int .u64 (s.slot : Int)) := fun n => cellU y0 (UR.out.drewN n) (by simp)
      have y1' : ∀ n, (wr.drewN n).cell? ⟨b, off + i * 3 + 1, none⟩ = some (.slice xc s.cmds.length cc) := fun n => cellU y1 (UR.out.drewN n) (by simp)
      have y2' : ∀ n, (wr.drewN n).cell? ⟨b, off + i * 3 + 2, none⟩ = some (.slice xa s.ans.length ca) := fun n => cellU y2 (UR.out.drewN n) (by simp)
      have z1 : wr.cell? ⟨b, off + i * 3 + 1, none⟩ = some (.slice xc s.cmds.length cc) := cellU y1 UR.out (by simp)
      have z2 : wr.cell? ⟨b, off + i * 3 + 2, none⟩ = some (.slice xa s.ans.length ca) := cellU y2 UR.out (by simp)
      have HS := hide hs; have VC := hide hvc; have VA := hide hva
      have hlen1 := HL.out (i + 1)
      rw [take_snoc HS.out, List.flatMap_append, List.length_append] at hlen1
      simp only [List.flatMap_cons, List.flatMap_nil, List.append_nil] at hlen1
      have HLEN := hide hlen1
      clear hs hvc hva hlen1
      obtain ⟨bo, hbo⟩ : ∃ bo, decide (s.cmds.length = s.ans.length) = bo := ⟨_, rfl⟩
      have hbo2 : ((s.cmds.length : Int) == (s.ans.length : Int)) = bo := by
        rw [← hbo]
        by_cases e : s.cmds.length = s.ans.length
        · simp [e]
        · simp [e]; omega
      have HBO := hide hbo
      clear hbo
      go_upto_region 5 with fail
      go_quiet (fail)
      have TU1 := hide (TU.out.trans (Turned.of_nil ((Upd.refl [] wr).drewN nq) lo hi)); have AR1 := hide (AR.out.upd_nil ((Upd.refl [] wr).drewN nq))
      generalize wr.drewN nq = wq at *
      clear y0' y1' y2' z1 z2 TU AR UR
      go_wp2_with fail
      obtain ⟨A0, hA0⟩ : ∃ A0, apAll ap0 (out.take i) = A0 := ⟨_, rfl⟩
      obtain ⟨n0, hn0⟩ : ∃ n0, ((out.take i).flatMap (·.cmds)).length = n0 := ⟨_, rfl⟩
      have ok := OK.out; have ar := AR1.out; have hln := HLEN.out
      rw [hA0, hn0] at ok
      rw [hA0] at ar
      rw [hn0] at hln
      have OK1 := hide ok; have AR1 := hide ar; have HA0 := hide hA0; have HN0 := hide hn0
      clear ok ar hA0 hn0 HLEN OK
      go_loopw [7, 8] (fun ss sj wx => ∃ j : Nat, j ≤ s.cmds.length ∧ sj = .int .i64 j ∧ ss = .bool (bo && decide ((wantM A0 (s.cmds.take j)).1 = s.ans.take j)) ∧ Turned lo hi w1 wx ∧ ApIs wx lo hi p (wantM A0 (s.cmds.take j)).2 ∧ ApOk (wantM A0 (s.cmds.take j)).2 (n0 + j)) (fun _ sj _ => s.cmds.length - (RowKit.intOf sj).toNat)
      case atStart => exact ⟨0, by omega, rfl, by simp [wantM], TU1.out, AR1.out, OK1.out⟩
      case round =>
        obtain ⟨j, hj, rfl, rfl, htu, hap, hok⟩ := hrel
        have hur : Upd [] w wr := htu.upd_new U1.out (by omega)
        have TU := hide htu; have AR := hide hap; have OK := hide hok; have UR := hide hur
        have z0 : wr.cell? ⟨b, off + i * 3, none⟩ = some (.int .u64 (s.slot : Int)) := cellU y0 hur (by simp)
        have z1 : wr.cell? ⟨b, off + i * 3 + 1, none⟩ = some (.slice xc s.cmds.length cc) := cellU y1 hur (by simp)
        clear htu hap hok hur
        by_cases hjl : j < s.cmds.length
        · have d6 : decide ((j : Int) < s.cmds.length) = true := by simp; omega
          have d6' : decide (j < s.cmds.length) = true := by simpa using hjl
          obtain ⟨c, hc⟩ : ∃ c, s.cmds[j]? = some c := ⟨_, List.getElem?_eq_getElem hjl⟩
          obtain ⟨xc', cc', ec, hcc, hccm, hcg⟩ := cm_get VC.out
          cases ec
          obtain ⟨bc, oc, ka, kc, rfl, hbc, hTc, fit, hks, hcells⟩ := hcg j c hc
          obtain ⟨c0, c1, c2, c3, c4, c5, c6⟩ := hcells.upd UR.out hbc (by simp)
          have HCJ := hide hc; have FIT := hide fit; have KS := hide (hks.upd_nil UR.out)
          have hj1 : j + 1 ≤ s.cmds.length := by omega
          have hnj : n0 + j ≤ 6400 := by omega
          simp only [maxLen] at hccm
          clear hc hcg hcells fit hks z0
          go_upto_region 10 with fail
          have hB := blk_new wr (.cells (cmc c (.slice ka c.keys.length kc)).toArray 25)
          have hal2 := (Upd.refl [] wr).alloc (.cells (cmc c (.slice ka c.keys.length kc)).toArray 25)
          change Code.wp _ _ _ _ (wr.alloc (.cells (cmc c (.slice ka c.keys.length kc)).toArray 25))
          generalize wr.alloc (.cells (cmc c (.slice ka c.keys.length kc)).toArray 25) = w3 at *
          obtain ⟨B, hBs⟩ : ∃ B, wr.heap.size = B := ⟨_, rfl⟩
          have hzB := TU.out.size
          rw [hBs] at hB hzB ⊢
          have CB := hide hB; have TU3 := hide (TU.out.trans (Turned.of_nil hal2 lo hi)); have AR3 := hide (AR.out.upd_nil hal2); have KS3 := hide (KS.out.upd_nil hal2); have UR3 := hide (UR.out.trans hal2)
          clear hB hal2 hBs c0 c1 c2 c3 c4 c5 c6 z1 TU AR KS UR
          obtain ⟨b0, b1, b2, b3, b4, b5, b6⟩ := cell7 CB.out
          go_wp2_with fail
          obtain ⟨AA, hAA⟩ : ∃ AA, (wantM A0 (s.cmds.take j)).2 = AA := ⟨_, rfl⟩
          have ok := OK.out; have ar := AR3.out
          rw [hAA] at ok ar
          have hda := ado_any (c := c) (T := T) (v := cmv c (.slice ka c.keys.length kc)) w3 (HE.out.upd_nil UR3.out) ar ok (by omega) ⟨FIT.out, _, rfl, KS3.out⟩
          obtain ⟨rr, hrr⟩ : ∃ rr, apDo AA c = rr := ⟨_, rfl⟩
          have hokn := ok.next (c := c) (by omega) FIT.out.1 FIT.out.2.1
          rw [hrr] at hda hokn
          simp only [cmv, strV, rpv] at hda
          have HRR := hide hrr; have OKN := hide hokn; have HAA := hide hAA
          clear hokn hrr ok ar hAA b0 b1 b2 b3 b4 b5 b6 AR3 OK
          refine hda.mono ?_
          rintro e w4 ⟨rfl, ha4, ht4⟩
          clear hda
          have hzt := ht4.size
          have CB4 := hide (ht4.get CB.out (.inr (by omega))); have TU4 := hide (TU3.out.trans ht4); have AR4 := hide ha4
          clear ha4 ht4 CB TU3
          go_upto_region 11 with fail
          have hR := blk_new w4 (.cells #[.int .u8 (rr.2.1.code : Int), .string (strOf rr.2.1.text)] 37)
          have hal5 := (Upd.refl [] w4).alloc (.cells #[.int .u8 (rr.2.1.code : Int), .string (strOf rr.2.1.text)] 37)
          change Code.wp _ _ _ _ (w4.alloc (.cells #[.int .u8 (rr.2.1.code : Int), .string (strOf rr.2.1.text)] 37))
          generalize w4.alloc (.cells #[.int .u8 (rr.2.1.code : Int), .string (strOf rr.2.1.text)] 37) = w5 at *
          obtain ⟨R, hRs⟩ : ∃ R, w4.heap.size = R := ⟨_, rfl⟩
          rw [hRs] at hR ⊢
          have r0 : w5.cell? ⟨R, 0, none⟩ = some (.int .u8 (rr.2.1.code : Int)) := blk_cell hR rfl
          have r1 : w5.cell? ⟨R, 1, none⟩ = some (.string (strOf rr.2.1.text)) := blk_cell hR rfl
          have hcb5 := hal5.get CB4.out (by simp)
          have b0 : w5.cell? ⟨B, 0, none⟩ = some (.int .u32 (c.client : Int)) := blk_cell hcb5 rfl
          have b1 : w5.cell? ⟨B, 1, none⟩ = some (.int .u32 (c.seq : Int)) := blk_cell hcb5 rfl
          have TU5 := hide (TU4.out.trans (Turned.of_nil hal5 lo hi)); have AR5 := hide (AR4.out.upd_nil hal5)
          have UR5 : Upd [] w w5 := TU5.out.upd_new U1.out (by omega)
          have z2 : w5.cell? ⟨b, off + i * 3 + 2, none⟩ = some (.slice xa s.ans.length ca) := cellU y2 UR5 (by simp)
          have hws : wantM A0 (s.cmds.take (j + 1)) = ((wantM A0 (s.cmds.take j)).1 ++ [⟨c.client, c.seq, rr.2.1.code, rr.2.1.text⟩], rr.1) := by
            rw [take_snoc HCJ.out, wantM_snoc, HAA.out]
            unfold wantA
            rw [HRR.out]
          have WS := hide hws
          clear hR hal5 hRs hcb5 TU4 AR4 hws
          obtain ⟨so, hso⟩ : ∃ so, (bo && decide ((wantM A0 (s.cmds.take j)).1 = s.ans.take j)) = so := ⟨_, rfl⟩
          rw [hso]
          cases so with
          | false =>
            have hnx : (bo && decide ((wantM A0 (s.cmds.take (j + 1))).1 = s.ans.take (j + 1))) = false := by
              cases bo with
              | false => rfl
              | true =>
                rw [Bool.true_and] at hso ⊢
                have hle : s.cmds.length = s.ans.length := by simpa using HBO.out
                obtain ⟨a, ha⟩ : ∃ a, s.ans[j]? = some a := ⟨_, List.getElem?_eq_getElem (by omega)⟩
                rw [same_step HCJ.out ha, hso, Bool.false_and]
            have NX := hide hnx
            clear hso hnx
            go_quiet (fail)
            have TU6 := hide (TU5.out.trans (Turned.of_nil ((Upd.refl [] w5).drewN nq) lo hi)); have AR6 := hide (AR5.out.upd_nil ((Upd.refl [] w5).drewN nq))
            generalize w5.drewN nq = w6 at *
            clear TU5 AR5 CB4 b0 b1 r0 r1 z2
            go_wp2_with fail
            go_roundw
            case rel => exact ⟨j + 1, hj1, by go_num, by rw [NX.out], TU6.out, by rw [WS.out]; exact AR6.out, by rw [WS.out]; exact OKN.out⟩
            case measure => simp [RowKit.intOf]; omega
          | true =>
            rw [Bool.and_eq_true] at hso
            obtain ⟨hbt, hst⟩ := hso
            have hle : s.cmds.length = s.ans.length := by have h5 := HBO.out; rw [hbt] at h5; simpa using h5
            obtain ⟨a, ha⟩ : ∃ a, s.ans[j]? = some a := ⟨_, List.getElem?_eq_getElem (by omega)⟩
            obtain ⟨ba, oa, rfl, a0, a1, a2, a3⟩ := an_at (anK.row_upd_nil VA.out UR5) ha
            have hjla : j < s.ans.length := by omega
            have d7 : decide ((j : Int) < s.ans.length) = true := by simp; omega
            have d7' : decide (j < s.ans.length) = true := by simpa using hjla
            have hcmp := eql_an a ⟨c.client, c.seq, rr.2.1.code, rr.2.1.text⟩
            have hnx : (bo && decide ((wantM A0 (s.cmds.take (j + 1))).1 = s.ans.take (j + 1))) = decide (a = ⟨c.client, c.seq, rr.2.1.code, rr.2.1.text⟩) := by
              rw [same_step HCJ.out ha, hst, hbt, Bool.true_and, Bool.true_and, HAA.out]
              unfold wantA
              rw [HRR.out]
            obtain ⟨be, hbe⟩ : ∃ be, decide (a = ⟨c.client, c.seq, rr.2.1.code, rr.2.1.text⟩) = be := ⟨_, rfl⟩
            rw [hbe] at hcmp hnx
            have NX := hide hnx
            clear hnx hbe ha hst hle hbt
            go_quiet (fail)
            have TU6 := hide (TU5.out.trans (Turned.of_nil ((Upd.refl [] w5).drewN nq) lo hi)); have AR6 := hide (AR5.out.upd_nil ((Upd.refl [] w5).drewN nq))
            generalize w5.drewN nq = w6 at *
            clear TU5 AR5 CB4 b0 b1 r0 r1 z2
            go_wp2_with fail
            go_roundw
            case rel => exact ⟨j + 1, hj1, by go_num, by rw [NX.out], TU6.out, by rw [WS.out]; exact AR6.out, by rw [WS.out]; exact OKN.out⟩
            case measure => simp [RowKit.intOf]; omega
        · have d6 : decide ((j : Int) < s.cmds.length) = false := by simp; omega
          have d6' : decide (j < s.cmds.length) = false := by simpa using hjl
          have hje : s.cmds.take j = s.cmds := List.take_of_length_le (by omega)
          have hjn : j = s.cmds.length := by omega
          have hsm : (bo && decide ((wantM A0 (s.cmds.take j)).1 = s.ans.take j)) = decide ((wantM A0 s.cmds).1 = s.ans) := by rw [hje, ← HBO.out, hjn, same_all]
          rw [hsm]
          have ar := AR.out; have ok := OK.out
          rw [hje] at ar ok
          have ARE := hide ar; have OKE := hide ok
          obtain ⟨bs, hbs⟩ : ∃ bs, decide ((wantM A0 s.cmds).1 = s.ans) = bs := ⟨_, rfl⟩
          rw [hbs]
          have hfo := folded_step (a := ap0) (l := out) (k := k) i NO.out
          rw [HA0.out, List.drop_eq_getElem_cons hil, (List.getElem?_eq_some_iff.1 HS.out).2] at hfo
          have HFO := hide hfo; have HBS := hide hbs; have HJN := hide hjn
          clear hje hsm ar ok hbs hfo AR OK hjn
          by_cases hsk : s.slot = k
          · have q0 : ((s.slot : Int) == (k : Int)) = true := by simp [hsk]
            have q0' : decide ((s.slot : Int) = (k : Int)) = true := by simp [hsk]
            have hres : foldedM ap0 out k = !bs := by
              rw [HFO.out]
              unfold foldedM
              rw [if_pos hsk, HBS.out]
            have RES := hide hres
            clear hsk hres
            go_wp2_with fail
            go_ret
            rw [RES.out]
            exact ⟨rfl, UR.out⟩
          · have q0 : ((s.slot : Int) == (k : Int)) = false := by simp; omega
            have q0' : decide ((s.slot : Int) = (k : Int)) = false := by simp; omega
            have SK := hide hsk
            clear hsk
            go_wp2_with fail
            go_roundw
            case rel =>
              refine ⟨i + 1, by omega, by go_num, TU.out, ?_, ?_, fun x hx => ?_⟩
              · rw [take_snoc HS.out, apAll_snoc, HA0.out]; exact ARE.out
              · rw [take_snoc HS.out, apAll_snoc, HA0.out, List.flatMap_append, List.length_append, HN0.out]
                have := OKE.out
                rw [HJN.out] at this
                simpa using this
              · rw [take_snoc HS.out] at hx
                rcases List.mem_append.1 hx with h5 | h5
                · exact NO.out x h5
                · simp only [List.mem_singleton] at h5; rw [h5]; exact SK.out
            case measure => simp [RowKit.intOf]; omega
    · have d5 : decide ((i : Int) < out.length) = false := by simp; omega
      have d5' : decide (i < out.length) = false := by simpa using hil
      have hfo := folded_step (a := ap0) (l := out) (k := k) i NO.out
      rw [List.drop_eq_nil_of_le (show out.length ≤ i by omega)] at hfo
      have HFO := hide hfo
      clear hfo
      go_wp2_with fail
      go_ret
      rw [HFO.out]
      exact ⟨rfl, UR.out⟩
end Go.Proofs.YtfmaflaoplkdbaaGreatDoor.Au
namespace Go.Proofs.YtfmaflaoplkdbaaGreatDoor.Au
open Go.RowKit Go.Proofs.YtfmaflaoplkdbaaGreatDoor.Crc Go.Proofs.YtfmaflaoplkdbaaGreatDoor.Cm Go.Proofs.YtfmaflaoplkdbaaGreatDoor.Tr Go.Proofs.YtfmaflaoplkdbaaGreatDoor.Kv
set_option linter.unusedSimpArgs false
set_option linter.unusedVariables false

theorem none_snoc {X : List Dn} {ds : List Dn} {m s : Nat} {d : Dn} (hd : ds[m]? = some d) : (findD (X ++ ds.take (m + 1)) s).isNone = ((findD (X ++ ds.take m) s).isNone && !decide (d.1 = s)) := by
  rw [findD_seen hd]
  cases findD (X ++ ds.take m) s with
  | some b => rfl
  | none =>
    rw [Option.none_or]
    by_cases e : s = d.1
    · simp [e]
    · have : ¬ d.1 = s := fun h => e h.symm
      simp [e, this]
set_option maxRecDepth 100000 in
set_option maxHeartbeats 8000000 in
theorem folds_any {T U : Nat → Prop} {ov tv : Value} {out : List Sl} {told : List To} {t : To} {i : Nat} (w : World) (he : EnvAt w) (ho : slK.row w U ov out) (hU : ∀ g, U g → g < w.heap.size) (hlen : ∀ n, ((out.take n).flatMap (·.cmds)).length ≤ 6400) (hnd : (out.map (·.slot)).Nodup) (ht : toK.row w T tv told) (hi : told[i]? = some t) :
    Calls Tryz.prog 19 #[ov, tv, .int .i64 (i : Int)] w fun e w' => e = .returned (.bool (b5 (wrongM ap0 out) told i t)) ∧ Upd [] w w' := by
  obtain ⟨xo, cp, rfl, h3, h4⟩ := Row.slice ht
  obtain ⟨xl, cl, rfl, hl3, hl4⟩ := Row.slice ho
  have HT := hide ht; have HI := hide hi; have HO := hide ho; have HE := hide he; have HUU := hide hU; have HL := hide hlen; have ND := hide hnd
  simp only [maxLen] at h4 hl4
  have hlt := (List.getElem?_eq_some_iff.1 hi).1
  have dI : decide ((i : Int) < told.length) = true := by simp; omega
  have dI' : decide (0 ≤ (i : Int)) = true := by simp
  obtain ⟨P, hP⟩ : ∃ P : Dn → Bool, P = fun d => (findD (dones told i) d.1).isNone && (wrongM ap0 out d.1).getD false := ⟨_, rfl⟩
  have hb1 : b5 (wrongM ap0 out) told i t = t.done.any P := by unfold b5; rw [hP]
  rw [hb1]
  have HP := hide hP
  clear ht hi hP hb1 ho he hU hlen hnd
  go_enter Tryz.func19, Tryz.ntmps19
  go_wp2_with fail
  go_loopw [7] (fun si wr => ∃ k : Nat, k ≤ t.done.length ∧ si = .int .i64 k ∧ Upd [] w wr ∧ ∀ d ∈ t.done.take k, P d = false) (fun si _ => t.done.length - (RowKit.intOf si).toNat)
  case atStart => exact ⟨0, by omega, rfl, Upd.refl _ _, by simp⟩
  case round =>
    obtain ⟨k, hk, rfl, hu, hall⟩ := hrel
    have HALL := hide hall; have HU := hide hu
    clear hall hu
    obtain ⟨b, off, xa, ca, xd, cd, rfl, -, -, c4, -, hvd, -, hd2⟩ := to_at (toK.row_upd_nil HT.out HU.out) HI.out
    have HVD := hide hvd
    clear hvd
    by_cases hkl : k < t.done.length
    · have d5 : decide ((k : Int) < t.done.length) = true := by simp; omega
      have d5' : decide (k < t.done.length) = true := by simpa using hkl
      obtain ⟨d, hd⟩ : ∃ d, t.done[k]? = some d := ⟨_, List.getElem?_eq_getElem hkl⟩
      obtain ⟨bd, od, xb, n, c, rfl, y0, y1, hsrc, hnc, hcm, hs, hdl⟩ := dn_at HVD.out hd
      have HD := hide hd
      have hk1 : k + 1 ≤ t.done.length := by omega
      clear hd hsrc y1 HVD
      go_wp2_with fail
      go_loopw [9, 10] (fun sf sj wq => ∃ j : Nat, j ≤ i ∧ sj = .int .i64 j ∧ sf = .bool ((findD (dones told j) d.1).isNone) ∧ Upd [] wr wq) (fun _ sj _ => i - (RowKit.intOf sj).toNat)
      case atStart => exact ⟨0, by omega, rfl, rfl, Upd.refl _ _⟩
      case round =>
        obtain ⟨j, hj, rfl, rfl, hu2⟩ := hrel
        have HU2 := hide hu2
        clear hu2 y0 c4
        by_cases hji : j < i
        · have d6 : decide ((j : Int) < (i : Int)) = true := by simp; omega
          have d6' : decide (j < i) = true := by simpa using hji
          have dj : decide ((j : Int) < told.length) = true := by simp; omega
          obtain ⟨tj, htj⟩ : ∃ tj, told[j]? = some tj := ⟨_, List.getElem?_eq_getElem (by omega)⟩
          have HTJ := hide htj
          clear htj
          go_wp2_with fail
          go_loopw [9, 11] (fun sf sm wx => ∃ m : Nat, m ≤ tj.done.length ∧ sm = .int .i64 m ∧ sf = .bool ((findD (dones told j ++ tj.done.take m) d.1).isNone) ∧ Upd [] wr wx) (fun _ sm _ => tj.done.length - (RowKit.intOf sm).toNat)
          case atStart => exact ⟨0, by omega, rfl, by rw [List.take_zero, List.append_nil], Upd.refl _ _⟩
          case round =>
            obtain ⟨m, hm, rfl, rfl, hu3⟩ := hrel
            have HU3 := hide hu3
            clear hu3
            obtain ⟨b', off', xa', ca', xe, ce, e1, -, -, c4, -, hvd, -, hd3⟩ := to_at (toK.row_upd_nil HT.out (HU.out.trans (HU2.out.trans HU3.out))) HTJ.out
            cases e1
            by_cases hml : m < tj.done.length
            · have d7 : decide ((m : Int) < tj.done.length) = true := by simp; omega
              have d7' : decide (m < tj.done.length) = true := by simpa using hml
              obtain ⟨e, he⟩ : ∃ e, tj.done[m]? = some e := ⟨_, List.getElem?_eq_getElem hml⟩
              obtain ⟨be, oe, xc, nc, cc, rfl, z0, z1, -, -, -, -, -⟩ := dn_at hvd he
              have hnx := none_snoc (X := dones told j) (s := d.1) he
              have hm1 : m + 1 ≤ tj.done.length := by omega
              obtain ⟨so, hso⟩ : ∃ so, (findD (dones told j ++ tj.done.take m) d.1).isNone = so := ⟨_, rfl⟩
              rw [hso] at hnx ⊢
              clear he z1 hvd hso
              cases so with
              | false =>
                rw [Bool.false_and] at hnx
                have NX := hide hnx
                clear hnx
                go_wp2_with fail
                go_roundw
                case rel => exact ⟨m + 1, hm1, by go_num, by rw [NX.out], HU3.out⟩
                case measure => simp [RowKit.intOf]; omega
              | true =>
                rw [Bool.true_and] at hnx
                by_cases hes : e.1 = d.1
                · have d8 : ((e.1 : Int) != (d.1 : Int)) = false := by simp [hes]
                  rw [decide_eq_true hes] at hnx
                  have NX := hide hnx
                  clear hnx hes
                  go_wp2_with fail
                  go_roundw
                  case rel => exact ⟨m + 1, hm1, by go_num, by rw [NX.out]; rfl, HU3.out⟩
                  case measure => simp [RowKit.intOf]; omega
                · have d8 : ((e.1 : Int) != (d.1 : Int)) = true := by simp; omega
                  rw [decide_eq_false hes] at hnx
                  have NX := hide hnx
                  clear hnx hes
                  go_wp2_with fail
                  go_roundw
                  case rel => exact ⟨m + 1, hm1, by go_num, by rw [NX.out]; rfl, HU3.out⟩
                  case measure => simp [RowKit.intOf]; omega
            · have d7 : decide ((m : Int) < tj.done.length) = false := by simp; omega
              have d7' : decide (m < tj.done.length) = false := by simpa using hml
              have hme : tj.done.take m = tj.done := List.take_of_length_le (by omega)
              rw [hme, ← dones_next HTJ.out]
              clear hme hvd
              go_wp2_with fail
              go_roundw
              case rel => exact ⟨j + 1, by omega, by go_num, rfl, HU2.out.trans HU3.out⟩
              case measure => simp [RowKit.intOf]; omega
        · have d6 : decide ((j : Int) < (i : Int)) = false := by simp; omega
          have d6' : decide (j < i) = false := by simpa using hji
          obtain rfl : j = i := by omega
          have UU := HU.out.trans HU2.out
          have hfo := folded_any (k := d.1) wr (HE.out.upd_nil UU) (slK.row_upd_nil HO.out UU) (fun g hg => Nat.lt_of_lt_of_le (HUU.out g hg) UU.size) HL.out
          rw [folded_eq out ap0 d.1 ND.out] at hfo
          have hPd : P d = ((findD (dones told j) d.1).isNone && (wrongM ap0 out d.1).getD false) := by rw [HP.out]
          obtain ⟨so, hso⟩ : ∃ so, (findD (dones told j) d.1).isNone = so := ⟨_, rfl⟩
          obtain ⟨fo, hfo2⟩ : ∃ fo, (wrongM ap0 out d.1).getD false = fo := ⟨_, rfl⟩
          rw [hso, hfo2] at hPd
          rw [hfo2] at hfo
          rw [hso]
          have HFO := hide hfo; have PD := hide hPd; have U2 := hide UU
          clear hfo hPd hso hfo2 UU
          cases so with
          | false =>
            go_wp2_with fail
            go_roundw
            case rel =>
              refine ⟨k + 1, hk1, by go_num, U2.out, fun x hx => ?_⟩
              rw [take_snoc HD.out] at hx
              rcases List.mem_append.1 hx with h5 | h5
              · exact HALL.out x h5
              · simp only [List.mem_singleton] at h5; rw [h5, PD.out]; rfl
            case measure => simp [RowKit.intOf]; omega
          | true =>
            go_wp2_with fail
            refine HFO.out.mono ?_
            rintro e5 w5 ⟨rfl, hu5⟩
            have U5 := hide (U2.out.trans hu5)
            clear hu5 HFO
            cases fo with
            | false =>
              go_wp2_with fail
              go_roundw
              case rel =>
                refine ⟨k + 1, hk1, by go_num, U5.out, fun x hx => ?_⟩
                rw [take_snoc HD.out] at hx
                rcases List.mem_append.1 hx with h5 | h5
                · exact HALL.out x h5
                · simp only [List.mem_singleton] at h5; rw [h5, PD.out]; rfl
              case measure => simp [RowKit.intOf]; omega
            | true =>
              have hany : t.done.any P = true := List.any_eq_true.2 ⟨d, List.mem_of_getElem? HD.out, by rw [PD.out]; rfl⟩
              have PA := hide hany
              clear hany
              go_wp2_with fail
              go_ret
              rw [PA.out]
              exact ⟨rfl, U5.out⟩
    · have d5 : decide ((k : Int) < t.done.length) = false := by simp; omega
      have d5' : decide (k < t.done.length) = false := by simpa using hkl
      have hall := HALL.out
      rw [List.take_of_length_le (by omega)] at hall
      have hany : t.done.any P = false := List.any_eq_false.2 fun d hd => by rw [hall d hd]; simp
      have PA := hide hany
      clear hall hany
      go_wp2_with fail
      go_ret
      rw [PA.out]
      exact ⟨rfl, HU.out⟩
end Go.Proofs.YtfmaflaoplkdbaaGreatDoor.Au
