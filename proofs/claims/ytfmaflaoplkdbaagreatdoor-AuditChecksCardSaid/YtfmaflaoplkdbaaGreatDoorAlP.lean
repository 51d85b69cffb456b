/- quoratelaw26.late. -/
import Derived.Test.YtfmaflaoplkdbaaGreatDoorAlHS
set_option linter.unusedSimpArgs false
set_option linter.unusedVariables false
set_option linter.unnecessarySimpa false
namespace Go.Proofs.YtfmaflaoplkdbaaGreatDoor.Au
open Go.RowKit Go.Proofs.YtfmaflaoplkdbaaGreatDoor.Crc Go.Proofs.YtfmaflaoplkdbaaGreatDoor.Cm Go.Proofs.YtfmaflaoplkdbaaGreatDoor.Tr
set_option linter.unusedSimpArgs false
set_option linter.unusedVariables false

theorem numbered_le {l : List En} {told : List To} {j n : Nat} {k : Nu} (h : j ≤ n) (hk : numbered (handedM l told j) k = true) : numbered (handedM l told n) k = true := by
  unfold numbered handedM at *
  rw [List.any_eq_true] at hk ⊢
  obtain ⟨c, hc, h1⟩ := hk
  obtain ⟨i, hi, h2⟩ := List.mem_filterMap.1 hc
  exact ⟨c, List.mem_filterMap.2 ⟨i, List.mem_range.2 (by have := List.mem_range.1 hi; omega), h2⟩, h1⟩
theorem handed_q {f : FuncId} {args : Array Value} {w : World} {v : Value} (h : Calls Tryz.prog f args w fun e w' => e = .returned v ∧ w' = w) : Calls Tryz.prog f args w fun e w' => e = .returned v ∧ w = w' := h.mono fun _ _ ⟨h1, h2⟩ => ⟨h1, h2.symm⟩
theorem anss_next' {told : List To} {n : Nat} {t : To} (h : told[n]? = some t) : anss told (n + 1) = anss told n ++ t.ans := anss_next h
set_option maxRecDepth 100000 in
set_option maxHeartbeats 8000000 in
theorem lates_any {T U : Nat → Prop} {cv lv tv : Value} {cs : List Cm} {l : List En} {told : List To} {t : To} {i : Nat} (w : World) (hc : cmK.row w U cv cs) (hl : enK.row w T lv l) (ht : toK.row w T tv told) (hi : told[i]? = some t) :
    Calls Tryz.prog 20 #[cv, lv, tv, .int .i64 (i : Int)] w fun e w' => e = .returned (.bool (b6 cs l told i t)) ∧ Upd [] w w' := by
  obtain ⟨xo, cp, rfl, h3, h4⟩ := Row.slice ht
  obtain ⟨xl, cl, rfl, hl3, hl4⟩ := Row.slice hl
  obtain ⟨xc, cc, rfl, hc3, hc4⟩ := Row.slice hc
  have HT := hide ht; have HI := hide hi; have HL := hide hl; have CR := hide hc
  simp only [maxLen] at h4 hl4 hc4
  have hlt := (List.getElem?_eq_some_iff.1 hi).1
  have dI : decide ((i : Int) < told.length) = true := by simp; omega
  have dI' : decide (0 ≤ (i : Int)) = true := by simp
  have hha := handed_any (i := i) w hl ht hi
  obtain ⟨ha, hhe⟩ : ∃ ha, handsM l t i = ha := ⟨_, rfl⟩
  have hb6 := late_eq (cs := cs) (l := l) (told := told) (i := i) (t := t)
  rw [hhe] at hha hb6
  have HHA := hide hha
  clear ht hi hl hc hha
  go_enter Tryz.func20, Tryz.ntmps20
  go_wp2_with fail
  refine HHA.out.mono ?_
  rintro e0 w0 ⟨rfl, rfl⟩
  clear HHA
  cases ha with
  | false =>
    rw [Bool.false_and, Bool.false_and, Bool.false_and] at hb6
    have HB6 := hide hb6
    clear hb6 hhe
    go_wp2_with fail
    go_ret
    exact ⟨by rw [HB6.out]; rfl, Upd.refl _ _⟩
  | true =>
    have hil := hands_lt hhe
    obtain ⟨e, hle⟩ : ∃ e, l[i]? = some e := ⟨_, List.getElem?_eq_getElem hil⟩
    have hem : entM l i = e := by unfold entM; rw [hle]; rfl
    rw [Bool.true_and, hem] at hb6
    obtain ⟨be, oe, xk, ck, rfl, fite, hkse, -, c0, c1, c2, c3, c4, c5, c6⟩ := en_at HL.out hle
    have d8 : decide ((i : Int) < l.length) = true := by simp; omega
    have HB6 := hide hb6
    clear hb6 hle hem fite hkse hhe
    go_upto_region 4 with fail
    have hB := blk_new w0 (.cells (cmc e.cmd (.slice xk e.cmd.keys.length ck)).toArray 25)
    have hal := (Upd.refl [] w0).alloc (.cells (cmc e.cmd (.slice xk e.cmd.keys.length ck)).toArray 25)
    change Code.wp _ _ _ _ (w0.alloc (.cells (cmc e.cmd (.slice xk e.cmd.keys.length ck)).toArray 25))
    generalize w0.alloc (.cells (cmc e.cmd (.slice xk e.cmd.keys.length ck)).toArray 25) = w1 at *
    obtain ⟨B, hBs⟩ : ∃ B, w0.heap.size = B := ⟨_, rfl⟩
    rw [hBs] at hB ⊢
    have B1 := hide hB; have U1 := hide hal
    have b0 : w1.cell? ⟨B, 0, none⟩ = some (.int .u32 (e.cmd.client : Int)) := blk_cell hB rfl
    have b1 : w1.cell? ⟨B, 1, none⟩ = some (.int .u32 (e.cmd.seq : Int)) := blk_cell hB rfl
    clear hB hal hBs c0 c1 c2 c3 c4 c5 c6
    obtain ⟨at', hat⟩ : ∃ at', placeI cs (cmNu e.cmd) = at' := ⟨_, rfl⟩
    have hpa := place_any (c := e.cmd.client) (s := e.cmd.seq) w1 (cmK.row_upd_nil CR.out U1.out)
    rw [show placeI cs (e.cmd.client, e.cmd.seq) = at' from hat] at hpa
    have hb6 := HB6.out
    rw [hat] at hb6
    have HPA := hide hpa; have HB6 := hide hb6
    clear hpa hb6 hat
    go_wp2_with fail
    refine HPA.out.mono ?_
    rintro e5 w5 ⟨rfl, rfl⟩
    clear HPA b0 b1
    by_cases hneg : at' < 0
    · have q0 : decide (at' < 0) = true := by simpa using hneg
      have hb6 := HB6.out
      rw [decide_eq_false (show ¬ 0 ≤ at' by omega), Bool.false_and, Bool.false_and] at hb6
      have HB6 := hide hb6
      clear hb6 hneg
      go_wp2_with fail
      go_ret
      exact ⟨by rw [HB6.out]; rfl, U1.out⟩
    · have q0 : decide (at' < 0) = false := by simp; omega
      have hb6 := HB6.out
      rw [decide_eq_true (show 0 ≤ at' by omega), Bool.true_and] at hb6
      have HB6 := hide hb6
      clear hb6 hneg
      go_wp2_with fail
      clear q0
      go_loopw [11, 12] (fun sw sj wr => ∃ j : Nat, j ≤ i ∧ sj = .int .i64 j ∧ sw = .bool ((anss told j).any (geA cs at')) ∧ numbered (handedM l told j) (cmNu e.cmd) = false ∧ Upd [] w5 wr) (fun _ sj _ => i - (intOf sj).toNat)
      case atStart => exact ⟨0, by omega, rfl, rfl, rfl, Upd.refl _ _⟩
      case round =>
        obtain ⟨j, hj, rfl, rfl, hnum, hu3⟩ := hrel
        have HU3 := hide hu3; have HN := hide hnum
        clear hu3 hnum
        by_cases hji : j < i
        · have d6 : decide ((j : Int) < (i : Int)) = true := by simp; omega
          have d6' : decide (j < i) = true := by simpa using hji
          have dj : decide ((j : Int) < told.length) = true := by simp; omega
          obtain ⟨tj, htj⟩ : ∃ tj, told[j]? = some tj := ⟨_, List.getElem?_eq_getElem (by omega)⟩
          have UU := U1.out.trans HU3.out
          have hq : ∀ n, Calls Tryz.prog 64 #[.slice (some ⟨be, oe, none⟩) l.length cl, .slice xo told.length cp, .int .i64 (j : Int)] (wr.drewN n) fun e w' => e = .returned (.bool (handsM l tj j)) ∧ wr.drewN n = w' := fun n => handed_q (handed_any _ (enK.row_upd_nil HL.out (UU.drewN n)) (toK.row_upd_nil HT.out (UU.drewN n)) htj)
          obtain ⟨ha, hhe⟩ : ∃ ha, handsM l tj j = ha := ⟨_, rfl⟩
          rw [hhe] at hq
          have hnn := numbered_append (handedM l told j) (if handsM l tj j then [(entM l j).cmd] else []) (cmNu e.cmd)
          rw [← handed_next htj, HN.out, Bool.false_or, hhe] at hnn
          have HQ := hide hq; have HTJ := hide htj
          obtain ⟨so, hso⟩ : ∃ so, (anss told j).any (geA cs at') = so := ⟨_, rfl⟩
          rw [hso]
          have HSO := hide hso
          clear hq htj hso
          cases ha with
          | false =>
            rw [if_neg (by simp)] at hnn
            have NUM := hide (show numbered (handedM l told (j + 1)) (cmNu e.cmd) = false from hnn)
            clear hnn hhe UU
            go_upto_region 11 with fail
            go_quiet ((go_at_call 64; exact quiet_left (HQ.out _)))
            have UN := hide ((U1.out.trans HU3.out).drewN nq); have UN1 := hide (HU3.out.drewN nq)
            generalize wr.drewN nq = wn at *
            clear HQ HU3 HN
            rw [← HSO.out]
            clear HSO
            go_wp2_with fail
            go_loopw [11, 13] (fun sw sm wq => ∃ m : Nat, m ≤ tj.ans.length ∧ sm = .int .i64 m ∧ sw = .bool ((anss told j ++ tj.ans.take m).any (geA cs at')) ∧ Upd [] wn wq) (fun _ sm _ => tj.ans.length - (intOf sm).toNat)
            case atStart => exact ⟨0, by omega, rfl, by rw [List.take_zero, List.append_nil], Upd.refl _ _⟩
            case round =>
              obtain ⟨m, hm, rfl, rfl, hu4⟩ := hrel
              have HU4 := hide hu4
              clear hu4
              obtain ⟨b', off', xe, ce, xd', cd', e1, -, c4, -, hvd, -, hd3, -⟩ := to_at (toK.row_upd_nil HT.out (UN.out.trans HU4.out)) HTJ.out
              first
                | cases e1
                | obtain ⟨rfl, rfl⟩ := e1
              have HVD := hide hvd
              clear hvd
              by_cases hml : m < tj.ans.length
              · have d8 : decide ((m : Int) < tj.ans.length) = true := by simp; omega
                have d8' : decide (m < tj.ans.length) = true := by simpa using hml
                obtain ⟨a, ha⟩ : ∃ a, tj.ans[m]? = some a := ⟨_, List.getElem?_eq_getElem hml⟩
                obtain ⟨be, oe, rfl, z0, z1, z2, z3⟩ := an_at HVD.out ha
                have hnx : (anss told j ++ tj.ans.take (m + 1)).any (geA cs at') = ((anss told j ++ tj.ans.take m).any (geA cs at') || geA cs at' a) := by
                  rw [take_snoc' ha, ← List.append_assoc, List.any_append]
                  simp
                have hm1 : m + 1 ≤ tj.ans.length := by omega
                have hge : geA cs at' a = (!decide (a.code = 3) && decide (at' ≤ placeI cs (anNu a))) := rfl
                have ROW := hide (cmK.row_upd_nil CR.out ((UN.out.trans HU4.out).trans ((Upd.refl [] _).alloc (.cells #[.int .u32 (a.client : Int), .int .u32 (a.seq : Int), .int .u8 (a.code : Int), .string (strOf a.text)] 39))))
                obtain ⟨so, hso⟩ : ∃ so, (anss told j ++ tj.ans.take m).any (geA cs at') = so := ⟨_, rfl⟩
                rw [hso] at hnx ⊢
                clear ha hso
                cases so with
                | true =>
                  rw [Bool.true_or] at hnx
                  have NX := hide hnx
                  clear hnx hge
                  go_wp2_with fail
                  go_roundw
                  case rel => exact ⟨m + 1, hm1, by go_num, by rw [NX.out], HU4.out.trans ((Upd.refl [] _).alloc _)⟩
                  case measure => simp [intOf]; omega
                | false =>
                  rw [Bool.false_or, hge] at hnx
                  by_cases hc3 : a.code = 3
                  · have q0 : ((a.code : Int) != 3) = false := by simp [hc3]
                    rw [decide_eq_true hc3] at hnx
                    have NX := hide hnx
                    clear hnx hge hc3
                    go_wp2_with fail
                    go_roundw
                    case rel => exact ⟨m + 1, hm1, by go_num, by rw [NX.out]; rfl, HU4.out.trans ((Upd.refl [] _).alloc _)⟩
                    case measure => simp [intOf]; omega
                  · have q0 : ((a.code : Int) != 3) = true := by simp; omega
                    rw [decide_eq_false hc3] at hnx
                    obtain ⟨pl, hpl⟩ : ∃ pl, placeI cs (anNu a) = pl := ⟨_, rfl⟩
                    rw [hpl] at hnx
                    have hpa := place_any (c := a.client) (s := a.seq) _ ROW.out
                    rw [show placeI cs (a.client, a.seq) = pl from hpl] at hpa
                    obtain ⟨bo, hbo⟩ : ∃ bo, decide (at' ≤ pl) = bo := ⟨_, rfl⟩
                    rw [hbo] at hnx
                    have hbo2 : decide (pl ≥ at') = bo := hbo
                    have NX := hide hnx; have HPA := hide hpa
                    clear hnx hge hc3 hpa hpl
                    go_wp2_with fail
                    refine HPA.out.mono ?_
                    rintro e5 w5 ⟨rfl, rfl⟩
                    clear HPA
                    go_wp2_with fail
                    go_roundw
                    case rel => exact ⟨m + 1, hm1, by go_num, by rw [NX.out]; simp, HU4.out.trans ((Upd.refl [] _).alloc _)⟩
                    case measure => simp [intOf]; omega
              · have d8 : decide ((m : Int) < tj.ans.length) = false := by simp; omega
                have d8' : decide (m < tj.ans.length) = false := by simpa using hml
                have hme : tj.ans.take m = tj.ans := List.take_of_length_le (by omega)
                rw [hme, ← anss_next' HTJ.out]
                clear hme
                go_wp2_with fail
                go_roundw
                case rel => exact ⟨j + 1, by omega, by go_num, rfl, NUM.out, UN1.out.trans HU4.out⟩
                case measure => simp [intOf]; omega
          | true =>
            have hjl := hands_lt hhe
            obtain ⟨f, hlf⟩ : ∃ f, l[j]? = some f := ⟨_, List.getElem?_eq_getElem hjl⟩
            have hfm : entM l j = f := by unfold entM; rw [hlf]; rfl
            rw [if_pos rfl, hfm] at hnn
            obtain ⟨be', oe', xf, cf, e1, -, -, -, hce⟩ := en_at (enK.row_upd_nil HL.out UU) hlf
            cases e1
            obtain ⟨g0, g1, g2, g3, g4, g5, g6⟩ := hce
            have d9 : decide ((j : Int) < l.length) = true := by simp; omega
            have b0 : wr.cell? ⟨B, 0, none⟩ = some (.int .u32 (e.cmd.client : Int)) := blk_cell (HU3.out.get B1.out (by simp)) rfl
            have b1 : wr.cell? ⟨B, 1, none⟩ = some (.int .u32 (e.cmd.seq : Int)) := blk_cell (HU3.out.get B1.out (by simp)) rfl
            clear hlf g2 g3 g4 g5 g6 UU
            by_cases hcl : f.cmd.client = e.cmd.client
            · have q1 : ((f.cmd.client : Int) == (e.cmd.client : Int)) = true := by simp [hcl]
              have q1' : decide ((f.cmd.client : Int) = (e.cmd.client : Int)) = true := by simp [hcl]
              by_cases hsq : f.cmd.seq = e.cmd.seq
              · have q2 : ((f.cmd.seq : Int) == (e.cmd.seq : Int)) = true := by simp [hsq]
                have q2' : decide ((f.cmd.seq : Int) = (e.cmd.seq : Int)) = true := by simp [hsq]
                have hb6 := HB6.out
                have hnu : numbered (handedM l told i) (cmNu e.cmd) = true := numbered_le (j := j + 1) (by omega) (by rw [hnn]; unfold numbered cmNu; simp [hcl, hsq])
                rw [hnu, Bool.not_true, Bool.false_and] at hb6
                have HB6 := hide hb6
                clear hnn hhe hcl hsq hb6 hnu hfm
                go_upto_region 11 with fail
                go_quiet ((go_at_call 64; exact quiet_left (HQ.out _)))
                go_wp2_with fail
                go_ret
                exact ⟨by rw [HB6.out]; rfl, (U1.out.trans HU3.out).drewN _⟩
              · have q2 : ((f.cmd.seq : Int) == (e.cmd.seq : Int)) = false := by simp; omega
                have q2' : decide ((f.cmd.seq : Int) = (e.cmd.seq : Int)) = false := by simp; omega
                have NUM : Hid (numbered (handedM l told (j + 1)) (cmNu e.cmd) = false) := hide (by rw [hnn]; unfold numbered cmNu; simp [hsq])
                clear hnn hhe hcl hsq hfm
                go_upto_region 11 with fail
                go_quiet ((go_at_call 64; exact quiet_left (HQ.out _)))
                have UN := hide ((U1.out.trans HU3.out).drewN nq); have UN1 := hide (HU3.out.drewN nq)
                generalize wr.drewN nq = wn at *
                clear HQ HU3 HN
                rw [← HSO.out]
                clear HSO
                go_wp2_with fail
                go_loopw [11, 13] (fun sw sm wq => ∃ m : Nat, m ≤ tj.ans.length ∧ sm = .int .i64 m ∧ sw = .bool ((anss told j ++ tj.ans.take m).any (geA cs at')) ∧ Upd [] wn wq) (fun _ sm _ => tj.ans.length - (intOf sm).toNat)
                case atStart => exact ⟨0, by omega, rfl, by rw [List.take_zero, List.append_nil], Upd.refl _ _⟩
                case round =>
                  obtain ⟨m, hm, rfl, rfl, hu4⟩ := hrel
                  have HU4 := hide hu4
                  clear hu4
                  obtain ⟨b', off', xe, ce, xd', cd', e1, -, c4, -, hvd, -, hd3, -⟩ := to_at (toK.row_upd_nil HT.out (UN.out.trans HU4.out)) HTJ.out
                  first
                    | cases e1
                    | obtain ⟨rfl, rfl⟩ := e1
                  have HVD := hide hvd
                  clear hvd
                  by_cases hml : m < tj.ans.length
                  · have d8 : decide ((m : Int) < tj.ans.length) = true := by simp; omega
                    have d8' : decide (m < tj.ans.length) = true := by simpa using hml
                    obtain ⟨a, ha⟩ : ∃ a, tj.ans[m]? = some a := ⟨_, List.getElem?_eq_getElem hml⟩
                    obtain ⟨be, oe, rfl, z0, z1, z2, z3⟩ := an_at HVD.out ha
                    have hnx : (anss told j ++ tj.ans.take (m + 1)).any (geA cs at') = ((anss told j ++ tj.ans.take m).any (geA cs at') || geA cs at' a) := by
                      rw [take_snoc' ha, ← List.append_assoc, List.any_append]
                      simp
                    have hm1 : m + 1 ≤ tj.ans.length := by omega
                    have hge : geA cs at' a = (!decide (a.code = 3) && decide (at' ≤ placeI cs (anNu a))) := rfl
                    have ROW := hide (cmK.row_upd_nil CR.out ((UN.out.trans HU4.out).trans ((Upd.refl [] _).alloc (.cells #[.int .u32 (a.client : Int), .int .u32 (a.seq : Int), .int .u8 (a.code : Int), .string (strOf a.text)] 39))))
                    obtain ⟨so, hso⟩ : ∃ so, (anss told j ++ tj.ans.take m).any (geA cs at') = so := ⟨_, rfl⟩
                    rw [hso] at hnx ⊢
                    clear ha hso
                    cases so with
                    | true =>
                      rw [Bool.true_or] at hnx
                      have NX := hide hnx
                      clear hnx hge
                      go_wp2_with fail
                      go_roundw
                      case rel => exact ⟨m + 1, hm1, by go_num, by rw [NX.out], HU4.out.trans ((Upd.refl [] _).alloc _)⟩
                      case measure => simp [intOf]; omega
                    | false =>
                      rw [Bool.false_or, hge] at hnx
                      by_cases hc3 : a.code = 3
                      · have q0 : ((a.code : Int) != 3) = false := by simp [hc3]
                        rw [decide_eq_true hc3] at hnx
                        have NX := hide hnx
                        clear hnx hge hc3
                        go_wp2_with fail
                        go_roundw
                        case rel => exact ⟨m + 1, hm1, by go_num, by rw [NX.out]; rfl, HU4.out.trans ((Upd.refl [] _).alloc _)⟩
                        case measure => simp [intOf]; omega
                      · have q0 : ((a.code : Int) != 3) = true := by simp; omega
                        rw [decide_eq_false hc3] at hnx
                        obtain ⟨pl, hpl⟩ : ∃ pl, placeI cs (anNu a) = pl := ⟨_, rfl⟩
                        rw [hpl] at hnx
                        have hpa := place_any (c := a.client) (s := a.seq) _ ROW.out
                        rw [show placeI cs (a.client, a.seq) = pl from hpl] at hpa
                        obtain ⟨bo, hbo⟩ : ∃ bo, decide (at' ≤ pl) = bo := ⟨_, rfl⟩
                        rw [hbo] at hnx
                        have hbo2 : decide (pl ≥ at') = bo := hbo
                        have NX := hide hnx; have HPA := hide hpa
                        clear hnx hge hc3 hpa hpl
                        go_wp2_with fail
                        refine HPA.out.mono ?_
                        rintro e5 w5 ⟨rfl, rfl⟩
                        clear HPA
                        go_wp2_with fail
                        go_roundw
                        case rel => exact ⟨m + 1, hm1, by go_num, by rw [NX.out]; simp, HU4.out.trans ((Upd.refl [] _).alloc _)⟩
                        case measure => simp [intOf]; omega
                  · have d8 : decide ((m : Int) < tj.ans.length) = false := by simp; omega
                    have d8' : decide (m < tj.ans.length) = false := by simpa using hml
                    have hme : tj.ans.take m = tj.ans := List.take_of_length_le (by omega)
                    rw [hme, ← anss_next' HTJ.out]
                    clear hme
                    go_wp2_with fail
                    go_roundw
                    case rel => exact ⟨j + 1, by omega, by go_num, rfl, NUM.out, UN1.out.trans HU4.out⟩
                    case measure => simp [intOf]; omega
            · have q1 : ((f.cmd.client : Int) == (e.cmd.client : Int)) = false := by simp; omega
              have q1' : decide ((f.cmd.client : Int) = (e.cmd.client : Int)) = false := by simp; omega
              have NUM : Hid (numbered (handedM l told (j + 1)) (cmNu e.cmd) = false) := hide (by rw [hnn]; unfold numbered cmNu; simp [hcl])
              clear hnn hhe hcl hfm
              go_upto_region 11 with fail
              go_quiet ((go_at_call 64; exact quiet_left (HQ.out _)))
              have UN := hide ((U1.out.trans HU3.out).drewN nq); have UN1 := hide (HU3.out.drewN nq)
              generalize wr.drewN nq = wn at *
              clear HQ HU3 HN
              rw [← HSO.out]
              clear HSO
              go_wp2_with fail
              go_loopw [11, 13] (fun sw sm wq => ∃ m : Nat, m ≤ tj.ans.length ∧ sm = .int .i64 m ∧ sw = .bool ((anss told j ++ tj.ans.take m).any (geA cs at')) ∧ Upd [] wn wq) (fun _ sm _ => tj.ans.length - (intOf sm).toNat)
              case atStart => exact ⟨0, by omega, rfl, by rw [List.take_zero, List.append_nil], Upd.refl _ _⟩
              case round =>
                obtain ⟨m, hm, rfl, rfl, hu4⟩ := hrel
                have HU4 := hide hu4
                clear hu4
                obtain ⟨b', off', xe, ce, xd', cd', e1, -, c4, -, hvd, -, hd3, -⟩ := to_at (toK.row_upd_nil HT.out (UN.out.trans HU4.out)) HTJ.out
                first
                  | cases e1
                  | obtain ⟨rfl, rfl⟩ := e1
                have HVD := hide hvd
                clear hvd
                by_cases hml : m < tj.ans.length
                · have d8 : decide ((m : Int) < tj.ans.length) = true := by simp; omega
                  have d8' : decide (m < tj.ans.length) = true := by simpa using hml
                  obtain ⟨a, ha⟩ : ∃ a, tj.ans[m]? = some a := ⟨_, List.getElem?_eq_getElem hml⟩
                  obtain ⟨be, oe, rfl, z0, z1, z2, z3⟩ := an_at HVD.out ha
                  have hnx : (anss told j ++ tj.ans.take (m + 1)).any (geA cs at') = ((anss told j ++ tj.ans.take m).any (geA cs at') || geA cs at' a) := by
                    rw [take_snoc' ha, ← List.append_assoc, List.any_append]
                    simp
                  have hm1 : m + 1 ≤ tj.ans.length := by omega
                  have hge : geA cs at' a = (!decide (a.code = 3) && decide (at' ≤ placeI cs (anNu a))) := rfl
                  have ROW := hide (cmK.row_upd_nil CR.out ((UN.out.trans HU4.out).trans ((Upd.refl [] _).alloc (.cells #[.int .u32 (a.client : Int), .int .u32 (a.seq : Int), .int .u8 (a.code : Int), .string (strOf a.text)] 39))))
                  obtain ⟨so, hso⟩ : ∃ so, (anss told j ++ tj.ans.take m).any (geA cs at') = so := ⟨_, rfl⟩
                  rw [hso] at hnx ⊢
                  clear ha hso
                  cases so with
                  | true =>
                    rw [Bool.true_or] at hnx
                    have NX := hide hnx
                    clear hnx hge
                    go_wp2_with fail
                    go_roundw
                    case rel => exact ⟨m + 1, hm1, by go_num, by rw [NX.out], HU4.out.trans ((Upd.refl [] _).alloc _)⟩
                    case measure => simp [intOf]; omega
                  | false =>
                    rw [Bool.false_or, hge] at hnx
                    by_cases hc3 : a.code = 3
                    · have q0 : ((a.code : Int) != 3) = false := by simp [hc3]
                      rw [decide_eq_true hc3] at hnx
                      have NX := hide hnx
                      clear hnx hge hc3
                      go_wp2_with fail
                      go_roundw
                      case rel => exact ⟨m + 1, hm1, by go_num, by rw [NX.out]; rfl, HU4.out.trans ((Upd.refl [] _).alloc _)⟩
                      case measure => simp [intOf]; omega
                    · have q0 : ((a.code : Int) != 3) = true := by simp; omega
                      rw [decide_eq_false hc3] at hnx
                      obtain ⟨pl, hpl⟩ : ∃ pl, placeI cs (anNu a) = pl := ⟨_, rfl⟩
                      rw [hpl] at hnx
                      have hpa := place_any (c := a.client) (s := a.seq) _ ROW.out
                      rw [show placeI cs (a.client, a.seq) = pl from hpl] at hpa
                      obtain ⟨bo, hbo⟩ : ∃ bo, decide (at' ≤ pl) = bo := ⟨_, rfl⟩
                      rw [hbo] at hnx
                      have hbo2 : decide (pl ≥ at') = bo := hbo
                      have NX := hide hnx; have HPA := hide hpa
                      clear hnx hge hc3 hpa hpl
                      go_wp2_with fail
                      refine HPA.out.mono ?_
                      rintro e5 w5 ⟨rfl, rfl⟩
                      clear HPA
                      go_wp2_with fail
                      go_roundw
                      case rel => exact ⟨m + 1, hm1, by go_num, by rw [NX.out]; simp, HU4.out.trans ((Upd.refl [] _).alloc _)⟩
                      case measure => simp [intOf]; omega
                · have d8 : decide ((m : Int) < tj.ans.length) = false := by simp; omega
                  have d8' : decide (m < tj.ans.length) = false := by simpa using hml
                  have hme : tj.ans.take m = tj.ans := List.take_of_length_le (by omega)
                  rw [hme, ← anss_next' HTJ.out]
                  clear hme
                  go_wp2_with fail
                  go_roundw
                  case rel => exact ⟨j + 1, by omega, by go_num, rfl, NUM.out, UN1.out.trans HU4.out⟩
                  case measure => simp [intOf]; omega
        · have d6 : decide ((j : Int) < (i : Int)) = false := by simp; omega
          have d6' : decide (j < i) = false := by simpa using hji
          obtain rfl : j = i := by omega
          have hb6 := HB6.out
          rw [HN.out, Bool.not_false, Bool.true_and] at hb6
          rw [← hb6]
          clear hb6
          go_wp2_with fail
          go_ret
          exact ⟨rfl, U1.out.trans HU3.out⟩
end Go.Proofs.YtfmaflaoplkdbaaGreatDoor.Au
