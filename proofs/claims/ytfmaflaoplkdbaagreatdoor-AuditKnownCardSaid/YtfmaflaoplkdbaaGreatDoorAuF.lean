/- audit.history.late. -/
import Derived.Test.YtfmaflaoplkdbaaGreatDoorAuBCDE
set_option linter.unusedSimpArgs false
set_option linter.unusedVariables false
set_option linter.unnecessarySimpa false
namespace Go.Proofs.YtfmaflaoplkdbaaGreatDoor.Au
open Go.RowKit Go.Proofs.YtfmaflaoplkdbaaGreatDoor.Crc Go.Proofs.YtfmaflaoplkdbaaGreatDoor.Cm Go.Proofs.YtfmaflaoplkdbaaGreatDoor.Tr
set_option linter.unusedSimpArgs false
set_option linter.unusedVariables false

theorem num_look {w : World} {g : Nat} {f : Nu → Option Bool} (h : numK w g f) (c s : Nat) :
    (Instr.lookup 186 (.map (some g)) (.agg #[.int .u32 (c : Int), .int .u32 (s : Int)]) false).run Tryz.prog w = .ok (.bool ((f (c, s)).getD false)) w := by
  have := FIs.look1 h Tryz.underlying186 (zeroBool w) (c, s)
  have e : ((f (c, s)).map Value.bool).getD (.bool false) = .bool ((f (c, s)).getD false) := by cases f (c, s) <;> rfl
  rw [e] at this
  exact this
theorem num_store {w : World} {g : Nat} {f : Nu → Option Bool} (h : numK w g f) (c s : Nat) (b : Bool) :
    ∃ W, (Instr.mapUpdate 186 (.map (some g)) (.agg #[.int .u32 (c : Int), .int .u32 (s : Int)]) (.bool b)).run Tryz.prog w = .ok () W ∧ numK W g (fun j => if j = (c, s) then some b else f j) ∧ Upd [g] w W ∧ W.heap.size = w.heap.size :=
  FIs.store h Tryz.underlying186 (c, s) b
theorem pl_look {w : World} {g : Nat} {f : Nu → Option Int} (h : plK w g f) (c s : Nat) :
    (Instr.lookup 188 (.map (some g)) (.agg #[.int .u32 (c : Int), .int .u32 (s : Int)]) true).run Tryz.prog w = .ok (.tuple #[.int .i64 ((f (c, s)).getD 0), .bool (f (c, s)).isSome]) w := by
  have := FIs.look h Tryz.underlying188 (zeroInt w) (c, s)
  have e : ((f (c, s)).map fun n => Value.int .i64 n).getD (.int .i64 0) = .int .i64 ((f (c, s)).getD 0) := by cases f (c, s) <;> rfl
  rw [e] at this
  exact this
theorem pl_store {w : World} {g : Nat} {f : Nu → Option Int} (h : plK w g f) (c s : Nat) (b : Int) :
    ∃ W, (Instr.mapUpdate 188 (.map (some g)) (.agg #[.int .u32 (c : Int), .int .u32 (s : Int)]) (.int .i64 b)).run Tryz.prog w = .ok () W ∧ plK W g (fun j => if j = (c, s) then some b else f j) ∧ Upd [g] w W ∧ W.heap.size = w.heap.size :=
  FIs.store h Tryz.underlying188 (c, s) b
/-- The greatest place of the answers. -/
def lastP (pl : Nu → Option Int) (z : Int) (L : List An) : Int := L.foldl (fun m a => match pl (anNu a) with
  | none => m
  | some p => if a.code = 3 then m else max m p) z
theorem lastP_more {pl : Nu → Option Int} {z : Int} {l : List An} {k : Nat} {a : An} (h : l[k]? = some a) : lastP pl z (l.take (k + 1)) = match pl (anNu a) with
    | none => lastP pl z (l.take k)
    | some p => if a.code = 3 then lastP pl z (l.take k) else max (lastP pl z (l.take k)) p := by
  obtain ⟨hlt, e⟩ := List.getElem?_eq_some_iff.1 h
  rw [List.take_succ_eq_append_getElem hlt, e]
  simp only [lastP, List.foldl_append, List.foldl_cons, List.foldl_nil]
def numNext (l : List En) (t : To) (i : Nat) (f : Nu → Option Bool) : Nu → Option Bool := fun j => if handsM l t i && decide (j = cmNu (entM l i).cmd) then some true else f j
def lateM (l : List En) (t : To) (i : Nat) (x : Hs) : Bool := handsM l t i && match x.pl (cmNu (entM l i).cmd) with
  | none => false
  | some p => !(x.num (cmNu (entM l i).cmd)).getD false && decide (p ≤ x.last)
noncomputable def laOps7 : Array Oper := Kv.findOps 7 ((Tryz.f58.body).getD .skip)
set_option maxRecDepth 100000 in
set_option maxHeartbeats 4000000 in
theorem late_any {T : Nat → Prop} {H mb ma mn ms mw mp : Nat} {lv tv hv : Value} {x : Hs} {l : List En} {told : List To} {t : To} {i : Nat} (w : World) (h : HAt w T H mb ma mn ms mw mp lv tv hv x) (hl : enK.row w T lv l) (ht : toK.row w T tv told) (hi : told[i]? = some t) :
    Calls Tryz.prog 58 #[.pointer (some ⟨H, 0, none⟩), .int .i64 (i : Int)] w fun e w' => e = .returned (.bool (lateM l t i x)) ∧
      w'.heap[H]? = some (.cells #[lv, tv, .map (some mb), .map (some ma), hv, .map (some mn), .map (some ms), .map (some mw), .map (some mp), .int .i64 (lastP x.pl x.last t.ans)] THi (0, 0)) ∧ numK w' mn (numNext l t i x.num) ∧ Upd [mn, H] w w' := by
  obtain ⟨xo, cp, rfl, hcp, hcm, hg⟩ := to_get ht
  simp only [maxLen] at hcm
  have hlt := (List.getElem?_eq_some_iff.1 hi).1
  obtain ⟨b, off, r, n, xa, ca, xd, cd, rfl, hb, hTb, han, hdn, -, -, -, z3, -⟩ := hg i t hi
  obtain ⟨xa', ca', he, hca, hcam, hag⟩ := Row.get anK.hz han
  cases he
  simp only [maxLen] at hcam
  have d1 : decide (0 ≤ (i : Int)) = true := by simp
  have hmb := h.ord
  have HAL := hide h; have HG := hide hag; have HL := hide hl; have HT := hide ht; have HI := hide hi
  clear hg h ht hi han hdn hag hl
  go_enter Tryz.func58, Tryz.ntmps58
  go_wp2_with fail
  refine (entry_any (i := i) w HAL.out HL.out).mono ?_
  rintro e w1 ⟨⟨v, rfl, hE⟩, hu⟩
  obtain ⟨fit, torn, pick, xk, ck, rfl, hks⟩ := hE
  have f5 := fun v0 v1 v2 v3 v4 v5 v6 v7 v8 v9 v10 v11 w => field_en5 v0 v1 v2 v3 v4 v5 v6 v7 v8 v9 v10 v11 w
  have H1 := hide (HAL.out.upd_nil hu); have U1 := hide hu
  clear hu hks
  go_wp2_with fail
  generalize hE : entM l i = E at *
  have hB := blk_new w1 (.cells #[.int .u32 (E.cmd.client : Int), .int .u32 (E.cmd.seq : Int), .int .u8 (E.cmd.kind : Int), .slice xk E.cmd.keys.length ck, .string (strOf E.cmd.old), .string (strOf E.cmd.new), .int .i64 E.cmd.n] TCmd)
  have hal := (Upd.refl [] w1).alloc (.cells #[.int .u32 (E.cmd.client : Int), .int .u32 (E.cmd.seq : Int), .int .u8 (E.cmd.kind : Int), .slice xk E.cmd.keys.length ck, .string (strOf E.cmd.old), .string (strOf E.cmd.new), .int .i64 E.cmd.n] TCmd)
  change Calls _ _ _ (w1.alloc (.cells #[.int .u32 (E.cmd.client : Int), .int .u32 (E.cmd.seq : Int), .int .u8 (E.cmd.kind : Int), .slice xk E.cmd.keys.length ck, .string (strOf E.cmd.old), .string (strOf E.cmd.new), .int .i64 E.cmd.n] TCmd)) _
  generalize w1.alloc (.cells #[.int .u32 (E.cmd.client : Int), .int .u32 (E.cmd.seq : Int), .int .u8 (E.cmd.kind : Int), .slice xk E.cmd.keys.length ck, .string (strOf E.cmd.old), .string (strOf E.cmd.new), .int .i64 E.cmd.n] TCmd) = w2 at *
  obtain ⟨B, hBs⟩ : ∃ B, w1.heap.size = B := ⟨_, rfl⟩
  have hHB : H < B := by have := blk_lt H1.out.blk; omega
  rw [hBs] at hB ⊢
  have u2 := U1.out.trans hal
  refine (hands_any (i := i) w2 (HAL.out.upd_nil u2) (enK.row_upd_nil HL.out u2) (toK.row_upd_nil HT.out u2) HI.out).mono ?_
  rintro e w3 ⟨rfl, hu3⟩
  have B3 := hide (hu3.get hB (by simp)); have U3 := hide (u2.trans hu3); have H3 := hide (H1.out.upd_nil (hal.trans hu3))
  clear hB hal u2 hu3 H1 U1 hBs
  obtain ⟨ha, hha⟩ : ∃ ha, handsM l t i = ha := ⟨_, rfl⟩
  rw [hha]
  have HHA := hide hha; have HE := hide hE
  clear hha hE
  cases ha with
  | false =>
    have RZ : Hid (lateM l t i x = false) := hide (by unfold lateM; rw [HHA.out]; rfl)
    go_upto_region 8 with fail
    have nz : numK w3 mn (numNext l t i x.num) := H3.out.num.congr fun j => by unfold numNext; rw [HHA.out]; rfl
    have UZ : Hid (Upd [mn, H] w w3) := hide (U3.out.mono (by simp))
    have BZ := hide H3.out.blk; have PZ := hide H3.out.pl; have NZ := hide nz
    clear nz H3 U3 B3
    generalize w3 = wz at *
    have y1 : wz.cell? ⟨H, 1, none⟩ = some (.slice (some ⟨b, off, none⟩) told.length cp) := blk_cell BZ.out rfl
    have z3' : wz.cell? ⟨b, off + i * 5 + 3, none⟩ = some (.slice xa t.ans.length ca) := cellU z3 UZ.out (by have := HAL.out.old _ hTb; simp; omega)
    go_wp2_with fail
    go_loopw [67] (fun si wr => ∃ k : Nat, k ≤ t.ans.length ∧ si = .int .i64 k ∧ wr.heap[H]? = some (.cells #[lv, .slice (some ⟨b, off, none⟩) told.length cp, .map (some mb), .map (some ma), hv, .map (some mn), .map (some ms), .map (some mw), .map (some mp), .int .i64 (lastP x.pl x.last (t.ans.take k))] THi (0, 0)) ∧ plK wr mp x.pl ∧ numK wr mn (numNext l t i x.num) ∧ Upd [mn, H] w wr) (fun si _ => t.ans.length - (intOf si).toNat)
    case atStart => exact ⟨0, by omega, rfl, BZ.out, PZ.out, NZ.out, UZ.out⟩
    case round =>
      obtain ⟨k, hk, rfl, hbk, hpk, hnk, huk⟩ := hrel
      have BK := hide hbk; have PK := hide hpk; have NK := hide hnk; have UK := hide huk
      clear hbk hpk hnk huk
      by_cases hkl : k < t.ans.length
      · have d5 : decide ((k : Int) < t.ans.length) = true := by simp; omega
        have d5' : decide (k < t.ans.length) = true := by simpa using hkl
        obtain ⟨a, hak⟩ : ∃ a, t.ans[k]? = some a := ⟨_, List.getElem?_eq_getElem hkl⟩
        obtain ⟨bd, od, cs, rfl, hbd, hTd, ⟨hfit, rfl⟩, -, hcd2⟩ := HG.out k a hak
        have hnb : bd ∉ [mn, H] := by have := HAL.out.old _ hTd; simp; omega
        have q0 : wr.cell? ⟨bd, od + k * 4, none⟩ = some (.int .u32 (a.client : Int)) := cellU (hcd2 0 _ rfl) UK.out hnb
        have q1 : wr.cell? ⟨bd, od + k * 4 + 1, none⟩ = some (.int .u32 (a.seq : Int)) := cellU (hcd2 1 _ rfl) UK.out hnb
        have q2 : wr.cell? ⟨bd, od + k * 4 + 2, none⟩ = some (.int .u8 (a.code : Int)) := cellU (hcd2 2 _ rfl) UK.out hnb
        have q3 : wr.cell? ⟨bd, od + k * 4 + 3, none⟩ = some (.string (strOf a.text)) := cellU (hcd2 3 _ rfl) UK.out hnb
        have HMO := hide (lastP_more (pl := x.pl) (z := x.last) hak)
        have hk1 : k + 1 ≤ t.ans.length := by omega
        clear hcd2 hak
        go_upto_region 11 with fail
        have hA := blk_new wr (.cells #[.int .u32 (a.client : Int), .int .u32 (a.seq : Int), .int .u8 (a.code : Int), .string (strOf a.text)] 39)
        have hal := (Upd.refl [] wr).alloc (.cells #[.int .u32 (a.client : Int), .int .u32 (a.seq : Int), .int .u8 (a.code : Int), .string (strOf a.text)] 39)
        change Code.wp _ _ _ _ (wr.alloc (.cells #[.int .u32 (a.client : Int), .int .u32 (a.seq : Int), .int .u8 (a.code : Int), .string (strOf a.text)] 39))
        generalize wr.alloc (.cells #[.int .u32 (a.client : Int), .int .u32 (a.seq : Int), .int .u8 (a.code : Int), .string (strOf a.text)] 39) = wa at *
        have hHr := blk_lt BK.out
        obtain ⟨G, hGs⟩ : ∃ G, wr.heap.size = G := ⟨_, rfl⟩
        rw [hGs] at hA hHr ⊢
        have hHG : H ≠ G := by omega
        have AA := hide hA; have BA := hide (hal.get BK.out (by simp)); have PA := hide (PK.out.upd_nil hal); have NA := hide (NK.out.upd_nil hal); have UA := hide (UK.out.trans (hal.mono (by simp)))
        clear hA hal q0 q1 q2 q3 hGs
        have g0 : wa.cell? ⟨G, 0, none⟩ = some (.int .u32 (a.client : Int)) := blk_cell AA.out rfl
        have g1 : wa.cell? ⟨G, 1, none⟩ = some (.int .u32 (a.seq : Int)) := blk_cell AA.out rfl
        have g8 : wa.cell? ⟨H, 8, none⟩ = some (.map (some mp)) := blk_cell BA.out rfl
        have l3 := fun n => pl_look (PA.out.upd_nil ((Upd.refl [] wa).drewN n)) a.client a.seq
        have hmo := HMO.out
        rw [show x.pl (anNu a) = x.pl (a.client, a.seq) from rfl] at hmo
        obtain ⟨oa, hoa⟩ : ∃ oa, x.pl (a.client, a.seq) = oa := ⟨_, rfl⟩
        rw [hoa] at l3 hmo
        have HMP := hide hmo
        clear hmo hoa HMO
        cases oa with
        | none =>
          go_quiet (fail)
          go_wp2_with fail
          go_roundw
          case rel => exact ⟨k + 1, hk1, by go_num, by rw [HMP.out]; exact ((Upd.refl [] wa).drewN _).get BA.out (by simp), PA.out.upd_nil ((Upd.refl [] wa).drewN _), NA.out.upd_nil ((Upd.refl [] wa).drewN _), UA.out.drewN _⟩
          case measure => simp [intOf]; omega
        | some p =>
          have g2 : ∀ n, (wa.drewN n).cell? ⟨G, 2, none⟩ = some (.int .u8 (a.code : Int)) := fun n => blk_cell (((Upd.refl [] wa).drewN n).get AA.out (by simp)) rfl
          have g9 : ∀ n, (wa.drewN n).cell? ⟨H, 9, none⟩ = some (.int .i64 (lastP x.pl x.last (t.ans.take k))) := fun n => blk_cell (((Upd.refl [] wa).drewN n).get BA.out (by simp)) rfl
          by_cases hc3 : a.code = 3
          · have d6 : ((a.code : Int) != 3) = false := by simp [hc3]
            have hmo := HMP.out
            simp only [hc3, if_true] at hmo
            have HM2 := hide hmo
            clear hmo HMP hc3
            go_quiet (fail)
            have g2' := g2 nq
            go_wp2_with fail
            go_roundw
            case rel => exact ⟨k + 1, hk1, by go_num, by rw [HM2.out]; exact ((Upd.refl [] wa).drewN _).get BA.out (by simp), PA.out.upd_nil ((Upd.refl [] wa).drewN _), NA.out.upd_nil ((Upd.refl [] wa).drewN _), UA.out.drewN _⟩
            case measure => simp [intOf]; omega
          · have d6 : ((a.code : Int) != 3) = true := by simp; omega
            have hmo := HMP.out
            simp only [hc3, if_false] at hmo
            have HM2 := hide hmo
            clear hmo HMP hc3
            go_quiet (fail)
            have g2' := g2 nq
            have g9' := g9 nq
            have f9 : (wa.drewN nq).frozen? ⟨H, 9, none⟩ = false := blk_free (((Upd.refl [] wa).drewN nq).get BA.out (by simp))
            go_wp2_with fail
            have hmx : max (lastP x.pl x.last (t.ans.take k)) p = if lastP x.pl x.last (t.ans.take k) < p then p else lastP x.pl x.last (t.ans.take k) := by split <;> omega
            generalize (if lastP x.pl x.last (t.ans.take k) < p then p else lastP x.pl x.last (t.ans.take k)) = V at *
            have uw := (Upd.refl [] wa).drewN nq
            have b1 := blk_set (i := 9) (uw.get BA.out (by simp)) (.int .i64 V)
            simp only [List.setIfInBounds_toArray, List.set_cons_succ, List.set_cons_zero] at b1
            have us : Upd [H] (wa.drewN nq) ((wa.drewN nq).setCell ⟨H, 9, none⟩ (.int .i64 V)) := (Upd.refl [H] _).setCell (p := ⟨H, 9, none⟩) (.inl (by simp)) _
            go_roundw
            case rel => exact ⟨k + 1, hk1, by go_num, by rw [HM2.out, hmx]; exact b1, (PA.out.upd_nil uw).upd us (by simp; omega), (NA.out.upd_nil uw).upd us (by simp; omega), (UA.out.drewN _).trans (us.mono (by simp))⟩
            case measure => simp [intOf]; omega
      · have d5 : decide ((k : Int) < t.ans.length) = false := by simp; omega
        have d5' : decide (k < t.ans.length) = false := by simpa using hkl
        have hke : t.ans.take k = t.ans := List.take_of_length_le (by omega)
        rw [hke] at BK
        go_wp2_with fail
        go_ret
        exact ⟨by rw [RZ.out]; rfl, BK.out, NK.out, UK.out⟩
  | true =>
    have c0 : w3.cell? ⟨B, 0, none⟩ = some (.int .u32 (E.cmd.client : Int)) := blk_cell B3.out rfl
    have c1 : w3.cell? ⟨B, 1, none⟩ = some (.int .u32 (E.cmd.seq : Int)) := blk_cell B3.out rfl
    go_upto_region 5 with fail
    have hN := blk_new w3 (.cells #[.int .u32 (E.cmd.client : Int), .int .u32 (E.cmd.seq : Int)] 192)
    have hal := (Upd.refl [] w3).alloc (.cells #[.int .u32 (E.cmd.client : Int), .int .u32 (E.cmd.seq : Int)] 192)
    change Code.wp _ _ _ _ (w3.alloc (.cells #[.int .u32 (E.cmd.client : Int), .int .u32 (E.cmd.seq : Int)] 192))
    generalize w3.alloc (.cells #[.int .u32 (E.cmd.client : Int), .int .u32 (E.cmd.seq : Int)] 192) = w4 at *
    obtain ⟨N, hNs⟩ : ∃ N, w3.heap.size = N := ⟨_, rfl⟩
    have hHN : H < N := by have := blk_lt H3.out.blk; omega
    rw [hNs] at hN ⊢
    have N4 := hide hN; have U4 := hide (U3.out.trans hal); have H4 := hide (H3.out.upd_nil hal)
    clear hN hal U3 H3 B3 c0 c1 hNs
    have e0 : w4.cell? ⟨H, 8, none⟩ = some (.map (some mp)) := blk_cell H4.out.blk rfl
    have e1 : w4.cell? ⟨H, 5, none⟩ = some (.map (some mn)) := blk_cell H4.out.blk rfl
    have e2 : w4.cell? ⟨H, 9, none⟩ = some (.int .i64 x.last) := blk_cell H4.out.blk rfl
    have e3 : w4.cell? ⟨N, 0, none⟩ = some (.int .u32 (E.cmd.client : Int)) := blk_cell N4.out rfl
    have e4 : w4.cell? ⟨N, 1, none⟩ = some (.int .u32 (E.cmd.seq : Int)) := blk_cell N4.out rfl
    have l1 := fun n => pl_look (H4.out.upd_nil ((Upd.refl [] w4).drewN n)).pl E.cmd.client E.cmd.seq
    have l2 := fun n => num_look (H4.out.upd_nil ((Upd.refl [] w4).drewN n)).num E.cmd.client E.cmd.seq
    obtain ⟨o, ho⟩ : ∃ o, x.pl (E.cmd.client, E.cmd.seq) = o := ⟨_, rfl⟩
    obtain ⟨vo, hvo⟩ : ∃ vo, o.getD 0 = vo := ⟨_, rfl⟩
    obtain ⟨io, hio⟩ : ∃ io, o.isSome = io := ⟨_, rfl⟩
    obtain ⟨nu, hnu⟩ : ∃ nu, (x.num (E.cmd.client, E.cmd.seq)).getD false = nu := ⟨_, rfl⟩
    obtain ⟨le, hle⟩ : ∃ le, decide (vo ≤ x.last) = le := ⟨_, rfl⟩
    rw [ho, hvo, hio] at l1
    rw [hnu] at l2
    have hval : lateM l t i x = (io && (!nu && le)) := by
      unfold lateM
      rw [HHA.out, HE.out, Bool.true_and]
      show (match x.pl (E.cmd.client, E.cmd.seq) with
        | none => false
        | some p => !(x.num (E.cmd.client, E.cmd.seq)).getD false && decide (p ≤ x.last)) = _
      rw [ho, hnu, ← hio, ← hle, ← hvo]
      cases o <;> rfl
    have HV := hide hval; have HNU := hide hnu
    clear ho hvo hio hnu hval
    go_quiet (fail)
    have u5 := (Upd.refl [] w4).drewN nq
    generalize w4.drewN nq = w5 at *
    have N5 := hide (u5.get N4.out (by simp)); have U5 := hide (U4.out.trans u5); have H5 := hide (H4.out.upd_nil u5)
    clear u5 N4 U4 H4 e0 e1 e2 e3 e4 l1 l2
    have e1 : w5.cell? ⟨H, 5, none⟩ = some (.map (some mn)) := blk_cell H5.out.blk rfl
    have e2 : w5.cell? ⟨H, 9, none⟩ = some (.int .i64 x.last) := blk_cell H5.out.blk rfl
    have e3 : w5.cell? ⟨N, 0, none⟩ = some (.int .u32 (E.cmd.client : Int)) := blk_cell N5.out rfl
    have e4 : w5.cell? ⟨N, 1, none⟩ = some (.int .u32 (E.cmd.seq : Int)) := blk_cell N5.out rfl
    have l2 := fun n => num_look (H5.out.upd_nil ((Upd.refl [] w5).drewN n)).num E.cmd.client E.cmd.seq
    have hnn : (x.num (E.cmd.client, E.cmd.seq)).getD false = nu := HNU.out
    rw [hnn] at l2
    clear hnn
    cases io with
    | false =>
      have RZ : Hid (lateM l t i x = false) := hide (by rw [HV.out]; rfl)
      go_upto_region 6 with fail
      go_quiet (fail)
      have u6 := (Upd.refl [] w5).drewN nq
      generalize w5.drewN nq = w6 at *
      have N6 := hide (u6.get N5.out (by simp)); have U6 := hide (U5.out.trans u6); have H6 := hide (H5.out.upd_nil u6)
      clear u6 N5 U5 H5 e1 e2 e3 e4 l2
      go_upto_region 7 with fail
      have hHm : H ≠ mn := by omega
      have hNm : N ≠ mn := by omega
      refine wp_region_seq laOps7 (by kernel_rfl) [5] (Upd [mn] (w6.drewN 1)) (by kernel_rfl) (by kernel_rfl) (fun _ _ d _ _ h => by cases d <;> exact h) (Upd.refl _ _) ?_
      refine wpSeq_take (by kernel_rfl) (by kernel_rfl) ?_
      apply Exists.intro
      refine ⟨fun wx hS => ?_, fun a' ha => ?_⟩
      · go_simp; rfl
      simp only [Act.put, List.setIfInBounds_toArray, List.set_cons_succ, List.set_cons_zero] at ha
      subst ha
      refine wpSeq_take (by kernel_rfl) (by kernel_rfl) ?_
      apply Exists.intro
      refine ⟨fun wx hS => ?_, fun a' ha => ?_⟩
      · go_simp; rfl
      simp only [Act.put, List.setIfInBounds_toArray, List.set_cons_succ, List.set_cons_zero] at ha
      subst ha
      refine wpSeq_take (by kernel_rfl) (by kernel_rfl) ?_
      apply Exists.intro
      refine ⟨fun wx hS => ?_, fun a' ha => ?_⟩
      · go_simp; rfl
      simp only [Act.put, List.setIfInBounds_toArray, List.set_cons_succ, List.set_cons_zero] at ha
      subst ha
      refine wpSeq_take (by kernel_rfl) (by kernel_rfl) ?_
      apply Exists.intro
      refine ⟨fun wx hS => ?_, fun a' ha => ?_⟩
      · have c0 : wx.cell? ⟨H, 5, none⟩ = some (.map (some mn)) := blk_cell (hS.get (show (w6.drewN 1).heap[H]? = _ from H6.out.blk) (by simpa using hHm)) rfl; go_simp; rfl
      simp only [Act.put, List.setIfInBounds_toArray, List.set_cons_succ, List.set_cons_zero] at ha
      subst ha
      refine wpSeq_take (by kernel_rfl) (by kernel_rfl) ?_
      apply Exists.intro
      refine ⟨fun wx hS => ?_, fun a' ha => ?_⟩
      · have hb := hS.get (show (w6.drewN 1).heap[N]? = _ from N6.out) (by simpa using hNm); have c0 : wx.cell? ⟨N, 0, none⟩ = some (.int .u32 (E.cmd.client : Int)) := blk_cell hb rfl; have c1 : wx.cell? ⟨N, 1, none⟩ = some (.int .u32 (E.cmd.seq : Int)) := blk_cell hb rfl; go_simp; rfl
      simp only [Act.put, List.setIfInBounds_toArray, List.set_cons_succ, List.set_cons_zero] at ha
      subst ha
      refine wpSeq_one (by kernel_rfl) (by kernel_rfl) (fun K hK => ?_)
      obtain ⟨wz, hr, hm3, hu3, hz3⟩ := num_store (H6.out.upd_nil ((Upd.refl [] w6).drewN 1)).num E.cmd.client E.cmd.seq true
      have hr' : (Instr.mapUpdate 186 (.map (some mn)) (.agg #[.int .u32 (E.cmd.client : Int), .int .u32 (E.cmd.seq : Int)]) (.bool true)).run Tryz.prog (w6.drewN 1) = .ok () wz := hr
      go_simp
      have uz : Upd [mn, H] w wz := ((U6.out.mono (by simp)).drewN 1).trans (hu3.mono (by simp))
      have bz := hu3.get (show (w6.drewN 1).heap[H]? = _ from H6.out.blk) (by simpa using hHm)
      have pz : plK wz mp x.pl := (H6.out.upd_nil ((Upd.refl [] w6).drewN 1)).pl.upd hu3 (by simp; omega)
      have nz : numK wz mn (numNext l t i x.num) := hm3.congr fun j => by
        unfold numNext
        rw [HHA.out, HE.out]
        by_cases e : j = (E.cmd.client, E.cmd.seq)
        · simp [e, cmNu]
        · have e' : ¬ j = cmNu E.cmd := e
          simp [e, e']
      have UZ := hide uz; have BZ := hide bz; have PZ := hide pz; have NZ := hide nz
      clear hr hr' hm3 hz3 uz bz pz nz N6 U6 H6
      refine hK _ _ (hu3) ?_
      clear hK K
      try simp only [Act.put, List.setIfInBounds_toArray, List.set_cons_succ, List.set_cons_zero]
      clear hu3
      unfold wpSeq
      have y1 : wz.cell? ⟨H, 1, none⟩ = some (.slice (some ⟨b, off, none⟩) told.length cp) := blk_cell BZ.out rfl
      have z3' : wz.cell? ⟨b, off + i * 5 + 3, none⟩ = some (.slice xa t.ans.length ca) := cellU z3 UZ.out (by have := HAL.out.old _ hTb; simp; omega)
      go_wp2_with fail
      go_loopw [67] (fun si wr => ∃ k : Nat, k ≤ t.ans.length ∧ si = .int .i64 k ∧ wr.heap[H]? = some (.cells #[lv, .slice (some ⟨b, off, none⟩) told.length cp, .map (some mb), .map (some ma), hv, .map (some mn), .map (some ms), .map (some mw), .map (some mp), .int .i64 (lastP x.pl x.last (t.ans.take k))] THi (0, 0)) ∧ plK wr mp x.pl ∧ numK wr mn (numNext l t i x.num) ∧ Upd [mn, H] w wr) (fun si _ => t.ans.length - (intOf si).toNat)
      case atStart => exact ⟨0, by omega, rfl, BZ.out, PZ.out, NZ.out, UZ.out⟩
      case round =>
        obtain ⟨k, hk, rfl, hbk, hpk, hnk, huk⟩ := hrel
        have BK := hide hbk; have PK := hide hpk; have NK := hide hnk; have UK := hide huk
        clear hbk hpk hnk huk
        by_cases hkl : k < t.ans.length
        · have d5 : decide ((k : Int) < t.ans.length) = true := by simp; omega
          have d5' : decide (k < t.ans.length) = true := by simpa using hkl
          obtain ⟨a, hak⟩ : ∃ a, t.ans[k]? = some a := ⟨_, List.getElem?_eq_getElem hkl⟩
          obtain ⟨bd, od, cs, rfl, hbd, hTd, ⟨hfit, rfl⟩, -, hcd2⟩ := HG.out k a hak
          have hnb : bd ∉ [mn, H] := by have := HAL.out.old _ hTd; simp; omega
          have q0 : wr.cell? ⟨bd, od + k * 4, none⟩ = some (.int .u32 (a.client : Int)) := cellU (hcd2 0 _ rfl) UK.out hnb
          have q1 : wr.cell? ⟨bd, od + k * 4 + 1, none⟩ = some (.int .u32 (a.seq : Int)) := cellU (hcd2 1 _ rfl) UK.out hnb
          have q2 : wr.cell? ⟨bd, od + k * 4 + 2, none⟩ = some (.int .u8 (a.code : Int)) := cellU (hcd2 2 _ rfl) UK.out hnb
          have q3 : wr.cell? ⟨bd, od + k * 4 + 3, none⟩ = some (.string (strOf a.text)) := cellU (hcd2 3 _ rfl) UK.out hnb
          have HMO := hide (lastP_more (pl := x.pl) (z := x.last) hak)
          have hk1 : k + 1 ≤ t.ans.length := by omega
          clear hcd2 hak
          go_upto_region 11 with fail
          have hA := blk_new wr (.cells #[.int .u32 (a.client : Int), .int .u32 (a.seq : Int), .int .u8 (a.code : Int), .string (strOf a.text)] 39)
          have hal := (Upd.refl [] wr).alloc (.cells #[.int .u32 (a.client : Int), .int .u32 (a.seq : Int), .int .u8 (a.code : Int), .string (strOf a.text)] 39)
          change Code.wp _ _ _ _ (wr.alloc (.cells #[.int .u32 (a.client : Int), .int .u32 (a.seq : Int), .int .u8 (a.code : Int), .string (strOf a.text)] 39))
          generalize wr.alloc (.cells #[.int .u32 (a.client : Int), .int .u32 (a.seq : Int), .int .u8 (a.code : Int), .string (strOf a.text)] 39) = wa at *
          have hHr := blk_lt BK.out
          obtain ⟨G, hGs⟩ : ∃ G, wr.heap.size = G := ⟨_, rfl⟩
          rw [hGs] at hA hHr ⊢
          have hHG : H ≠ G := by omega
          have AA := hide hA; have BA := hide (hal.get BK.out (by simp)); have PA := hide (PK.out.upd_nil hal); have NA := hide (NK.out.upd_nil hal); have UA := hide (UK.out.trans (hal.mono (by simp)))
          clear hA hal q0 q1 q2 q3 hGs
          have g0 : wa.cell? ⟨G, 0, none⟩ = some (.int .u32 (a.client : Int)) := blk_cell AA.out rfl
          have g1 : wa.cell? ⟨G, 1, none⟩ = some (.int .u32 (a.seq : Int)) := blk_cell AA.out rfl
          have g8 : wa.cell? ⟨H, 8, none⟩ = some (.map (some mp)) := blk_cell BA.out rfl
          have l3 := fun n => pl_look (PA.out.upd_nil ((Upd.refl [] wa).drewN n)) a.client a.seq
          have hmo := HMO.out
          rw [show x.pl (anNu a) = x.pl (a.client, a.seq) from rfl] at hmo
          obtain ⟨oa, hoa⟩ : ∃ oa, x.pl (a.client, a.seq) = oa := ⟨_, rfl⟩
          rw [hoa] at l3 hmo
          have HMP := hide hmo
          clear hmo hoa HMO
          cases oa with
          | none =>
            go_quiet (fail)
            go_wp2_with fail
            go_roundw
            case rel => exact ⟨k + 1, hk1, by go_num, by rw [HMP.out]; exact ((Upd.refl [] wa).drewN _).get BA.out (by simp), PA.out.upd_nil ((Upd.refl [] wa).drewN _), NA.out.upd_nil ((Upd.refl [] wa).drewN _), UA.out.drewN _⟩
            case measure => simp [intOf]; omega
          | some p =>
            have g2 : ∀ n, (wa.drewN n).cell? ⟨G, 2, none⟩ = some (.int .u8 (a.code : Int)) := fun n => blk_cell (((Upd.refl [] wa).drewN n).get AA.out (by simp)) rfl
            have g9 : ∀ n, (wa.drewN n).cell? ⟨H, 9, none⟩ = some (.int .i64 (lastP x.pl x.last (t.ans.take k))) := fun n => blk_cell (((Upd.refl [] wa).drewN n).get BA.out (by simp)) rfl
            by_cases hc3 : a.code = 3
            · have d6 : ((a.code : Int) != 3) = false := by simp [hc3]
              have hmo := HMP.out
              simp only [hc3, if_true] at hmo
              have HM2 := hide hmo
              clear hmo HMP hc3
              go_quiet (fail)
              have g2' := g2 nq
              go_wp2_with fail
              go_roundw
              case rel => exact ⟨k + 1, hk1, by go_num, by rw [HM2.out]; exact ((Upd.refl [] wa).drewN _).get BA.out (by simp), PA.out.upd_nil ((Upd.refl [] wa).drewN _), NA.out.upd_nil ((Upd.refl [] wa).drewN _), UA.out.drewN _⟩
              case measure => simp [intOf]; omega
            · have d6 : ((a.code : Int) != 3) = true := by simp; omega
              have hmo := HMP.out
              simp only [hc3, if_false] at hmo
              have HM2 := hide hmo
              clear hmo HMP hc3
              go_quiet (fail)
              have g2' := g2 nq
              have g9' := g9 nq
              have f9 : (wa.drewN nq).frozen? ⟨H, 9, none⟩ = false := blk_free (((Upd.refl [] wa).drewN nq).get BA.out (by simp))
              go_wp2_with fail
              have hmx : max (lastP x.pl x.last (t.ans.take k)) p = if lastP x.pl x.last (t.ans.take k) < p then p else lastP x.pl x.last (t.ans.take k) := by split <;> omega
              generalize (if lastP x.pl x.last (t.ans.take k) < p then p else lastP x.pl x.last (t.ans.take k)) = V at *
              have uw := (Upd.refl [] wa).drewN nq
              have b1 := blk_set (i := 9) (uw.get BA.out (by simp)) (.int .i64 V)
              simp only [List.setIfInBounds_toArray, List.set_cons_succ, List.set_cons_zero] at b1
              have us : Upd [H] (wa.drewN nq) ((wa.drewN nq).setCell ⟨H, 9, none⟩ (.int .i64 V)) := (Upd.refl [H] _).setCell (p := ⟨H, 9, none⟩) (.inl (by simp)) _
              go_roundw
              case rel => exact ⟨k + 1, hk1, by go_num, by rw [HM2.out, hmx]; exact b1, (PA.out.upd_nil uw).upd us (by simp; omega), (NA.out.upd_nil uw).upd us (by simp; omega), (UA.out.drewN _).trans (us.mono (by simp))⟩
              case measure => simp [intOf]; omega
        · have d5 : decide ((k : Int) < t.ans.length) = false := by simp; omega
          have d5' : decide (k < t.ans.length) = false := by simpa using hkl
          have hke : t.ans.take k = t.ans := List.take_of_length_le (by omega)
          rw [hke] at BK
          go_wp2_with fail
          go_ret
          exact ⟨by rw [RZ.out]; rfl, BK.out, NK.out, UK.out⟩
    | true =>
      cases nu with
      | true =>
        have RZ : Hid (lateM l t i x = false) := hide (by rw [HV.out]; rfl)
        go_upto_region 6 with fail
        go_quiet (fail)
        have u6 := (Upd.refl [] w5).drewN nq
        generalize w5.drewN nq = w6 at *
        have N6 := hide (u6.get N5.out (by simp)); have U6 := hide (U5.out.trans u6); have H6 := hide (H5.out.upd_nil u6)
        clear u6 N5 U5 H5 e1 e2 e3 e4 l2
        go_upto_region 7 with fail
        have hHm : H ≠ mn := by omega
        have hNm : N ≠ mn := by omega
        refine wp_region_seq laOps7 (by kernel_rfl) [5] (Upd [mn] (w6.drewN 1)) (by kernel_rfl) (by kernel_rfl) (fun _ _ d _ _ h => by cases d <;> exact h) (Upd.refl _ _) ?_
        refine wpSeq_take (by kernel_rfl) (by kernel_rfl) ?_
        apply Exists.intro
        refine ⟨fun wx hS => ?_, fun a' ha => ?_⟩
        · go_simp; rfl
        simp only [Act.put, List.setIfInBounds_toArray, List.set_cons_succ, List.set_cons_zero] at ha
        subst ha
        refine wpSeq_take (by kernel_rfl) (by kernel_rfl) ?_
        apply Exists.intro
        refine ⟨fun wx hS => ?_, fun a' ha => ?_⟩
        · go_simp; rfl
        simp only [Act.put, List.setIfInBounds_toArray, List.set_cons_succ, List.set_cons_zero] at ha
        subst ha
        refine wpSeq_take (by kernel_rfl) (by kernel_rfl) ?_
        apply Exists.intro
        refine ⟨fun wx hS => ?_, fun a' ha => ?_⟩
        · go_simp; rfl
        simp only [Act.put, List.setIfInBounds_toArray, List.set_cons_succ, List.set_cons_zero] at ha
        subst ha
        refine wpSeq_take (by kernel_rfl) (by kernel_rfl) ?_
        apply Exists.intro
        refine ⟨fun wx hS => ?_, fun a' ha => ?_⟩
        · have c0 : wx.cell? ⟨H, 5, none⟩ = some (.map (some mn)) := blk_cell (hS.get (show (w6.drewN 1).heap[H]? = _ from H6.out.blk) (by simpa using hHm)) rfl; go_simp; rfl
        simp only [Act.put, List.setIfInBounds_toArray, List.set_cons_succ, List.set_cons_zero] at ha
        subst ha
        refine wpSeq_take (by kernel_rfl) (by kernel_rfl) ?_
        apply Exists.intro
        refine ⟨fun wx hS => ?_, fun a' ha => ?_⟩
        · have hb := hS.get (show (w6.drewN 1).heap[N]? = _ from N6.out) (by simpa using hNm); have c0 : wx.cell? ⟨N, 0, none⟩ = some (.int .u32 (E.cmd.client : Int)) := blk_cell hb rfl; have c1 : wx.cell? ⟨N, 1, none⟩ = some (.int .u32 (E.cmd.seq : Int)) := blk_cell hb rfl; go_simp; rfl
        simp only [Act.put, List.setIfInBounds_toArray, List.set_cons_succ, List.set_cons_zero] at ha
        subst ha
        refine wpSeq_one (by kernel_rfl) (by kernel_rfl) (fun K hK => ?_)
        obtain ⟨wz, hr, hm3, hu3, hz3⟩ := num_store (H6.out.upd_nil ((Upd.refl [] w6).drewN 1)).num E.cmd.client E.cmd.seq true
        have hr' : (Instr.mapUpdate 186 (.map (some mn)) (.agg #[.int .u32 (E.cmd.client : Int), .int .u32 (E.cmd.seq : Int)]) (.bool true)).run Tryz.prog (w6.drewN 1) = .ok () wz := hr
        go_simp
        have uz : Upd [mn, H] w wz := ((U6.out.mono (by simp)).drewN 1).trans (hu3.mono (by simp))
        have bz := hu3.get (show (w6.drewN 1).heap[H]? = _ from H6.out.blk) (by simpa using hHm)
        have pz : plK wz mp x.pl := (H6.out.upd_nil ((Upd.refl [] w6).drewN 1)).pl.upd hu3 (by simp; omega)
        have nz : numK wz mn (numNext l t i x.num) := hm3.congr fun j => by
          unfold numNext
          rw [HHA.out, HE.out]
          by_cases e : j = (E.cmd.client, E.cmd.seq)
          · simp [e, cmNu]
          · have e' : ¬ j = cmNu E.cmd := e
            simp [e, e']
        have UZ := hide uz; have BZ := hide bz; have PZ := hide pz; have NZ := hide nz
        clear hr hr' hm3 hz3 uz bz pz nz N6 U6 H6
        refine hK _ _ (hu3) ?_
        clear hK K
        try simp only [Act.put, List.setIfInBounds_toArray, List.set_cons_succ, List.set_cons_zero]
        clear hu3
        unfold wpSeq
        have y1 : wz.cell? ⟨H, 1, none⟩ = some (.slice (some ⟨b, off, none⟩) told.length cp) := blk_cell BZ.out rfl
        have z3' : wz.cell? ⟨b, off + i * 5 + 3, none⟩ = some (.slice xa t.ans.length ca) := cellU z3 UZ.out (by have := HAL.out.old _ hTb; simp; omega)
        go_wp2_with fail
        go_loopw [67] (fun si wr => ∃ k : Nat, k ≤ t.ans.length ∧ si = .int .i64 k ∧ wr.heap[H]? = some (.cells #[lv, .slice (some ⟨b, off, none⟩) told.length cp, .map (some mb), .map (some ma), hv, .map (some mn), .map (some ms), .map (some mw), .map (some mp), .int .i64 (lastP x.pl x.last (t.ans.take k))] THi (0, 0)) ∧ plK wr mp x.pl ∧ numK wr mn (numNext l t i x.num) ∧ Upd [mn, H] w wr) (fun si _ => t.ans.length - (intOf si).toNat)
        case atStart => exact ⟨0, by omega, rfl, BZ.out, PZ.out, NZ.out, UZ.out⟩
        case round =>
          obtain ⟨k, hk, rfl, hbk, hpk, hnk, huk⟩ := hrel
          have BK := hide hbk; have PK := hide hpk; have NK := hide hnk; have UK := hide huk
          clear hbk hpk hnk huk
          by_cases hkl : k < t.ans.length
          · have d5 : decide ((k : Int) < t.ans.length) = true := by simp; omega
            have d5' : decide (k < t.ans.length) = true := by simpa using hkl
            obtain ⟨a, hak⟩ : ∃ a, t.ans[k]? = some a := ⟨_, List.getElem?_eq_getElem hkl⟩
            obtain ⟨bd, od, cs, rfl, hbd, hTd, ⟨hfit, rfl⟩, -, hcd2⟩ := HG.out k a hak
            have hnb : bd ∉ [mn, H] := by have := HAL.out.old _ hTd; simp; omega
            have q0 : wr.cell? ⟨bd, od + k * 4, none⟩ = some (.int .u32 (a.client : Int)) := cellU (hcd2 0 _ rfl) UK.out hnb
            have q1 : wr.cell? ⟨bd, od + k * 4 + 1, none⟩ = some (.int .u32 (a.seq : Int)) := cellU (hcd2 1 _ rfl) UK.out hnb
            have q2 : wr.cell? ⟨bd, od + k * 4 + 2, none⟩ = some (.int .u8 (a.code : Int)) := cellU (hcd2 2 _ rfl) UK.out hnb
            have q3 : wr.cell? ⟨bd, od + k * 4 + 3, none⟩ = some (.string (strOf a.text)) := cellU (hcd2 3 _ rfl) UK.out hnb
            have HMO := hide (lastP_more (pl := x.pl) (z := x.last) hak)
            have hk1 : k + 1 ≤ t.ans.length := by omega
            clear hcd2 hak
            go_upto_region 11 with fail
            have hA := blk_new wr (.cells #[.int .u32 (a.client : Int), .int .u32 (a.seq : Int), .int .u8 (a.code : Int), .string (strOf a.text)] 39)
            have hal := (Upd.refl [] wr).alloc (.cells #[.int .u32 (a.client : Int), .int .u32 (a.seq : Int), .int .u8 (a.code : Int), .string (strOf a.text)] 39)
            change Code.wp _ _ _ _ (wr.alloc (.cells #[.int .u32 (a.client : Int), .int .u32 (a.seq : Int), .int .u8 (a.code : Int), .string (strOf a.text)] 39))
            generalize wr.alloc (.cells #[.int .u32 (a.client : Int), .int .u32 (a.seq : Int), .int .u8 (a.code : Int), .string (strOf a.text)] 39) = wa at *
            have hHr := blk_lt BK.out
            obtain ⟨G, hGs⟩ : ∃ G, wr.heap.size = G := ⟨_, rfl⟩
            rw [hGs] at hA hHr ⊢
            have hHG : H ≠ G := by omega
            have AA := hide hA; have BA := hide (hal.get BK.out (by simp)); have PA := hide (PK.out.upd_nil hal); have NA := hide (NK.out.upd_nil hal); have UA := hide (UK.out.trans (hal.mono (by simp)))
            clear hA hal q0 q1 q2 q3 hGs
            have g0 : wa.cell? ⟨G, 0, none⟩ = some (.int .u32 (a.client : Int)) := blk_cell AA.out rfl
            have g1 : wa.cell? ⟨G, 1, none⟩ = some (.int .u32 (a.seq : Int)) := blk_cell AA.out rfl
            have g8 : wa.cell? ⟨H, 8, none⟩ = some (.map (some mp)) := blk_cell BA.out rfl
            have l3 := fun n => pl_look (PA.out.upd_nil ((Upd.refl [] wa).drewN n)) a.client a.seq
            have hmo := HMO.out
            rw [show x.pl (anNu a) = x.pl (a.client, a.seq) from rfl] at hmo
            obtain ⟨oa, hoa⟩ : ∃ oa, x.pl (a.client, a.seq) = oa := ⟨_, rfl⟩
            rw [hoa] at l3 hmo
            have HMP := hide hmo
            clear hmo hoa HMO
            cases oa with
            | none =>
              go_quiet (fail)
              go_wp2_with fail
              go_roundw
              case rel => exact ⟨k + 1, hk1, by go_num, by rw [HMP.out]; exact ((Upd.refl [] wa).drewN _).get BA.out (by simp), PA.out.upd_nil ((Upd.refl [] wa).drewN _), NA.out.upd_nil ((Upd.refl [] wa).drewN _), UA.out.drewN _⟩
              case measure => simp [intOf]; omega
            | some p =>
              have g2 : ∀ n, (wa.drewN n).cell? ⟨G, 2, none⟩ = some (.int .u8 (a.code : Int)) := fun n => blk_cell (((Upd.refl [] wa).drewN n).get AA.out (by simp)) rfl
              have g9 : ∀ n, (wa.drewN n).cell? ⟨H, 9, none⟩ = some (.int .i64 (lastP x.pl x.last (t.ans.take k))) := fun n => blk_cell (((Upd.refl [] wa).drewN n).get BA.out (by simp)) rfl
              by_cases hc3 : a.code = 3
              · have d6 : ((a.code : Int) != 3) = false := by simp [hc3]
                have hmo := HMP.out
                simp only [hc3, if_true] at hmo
                have HM2 := hide hmo
                clear hmo HMP hc3
                go_quiet (fail)
                have g2' := g2 nq
                go_wp2_with fail
                go_roundw
                case rel => exact ⟨k + 1, hk1, by go_num, by rw [HM2.out]; exact ((Upd.refl [] wa).drewN _).get BA.out (by simp), PA.out.upd_nil ((Upd.refl [] wa).drewN _), NA.out.upd_nil ((Upd.refl [] wa).drewN _), UA.out.drewN _⟩
                case measure => simp [intOf]; omega
              · have d6 : ((a.code : Int) != 3) = true := by simp; omega
                have hmo := HMP.out
                simp only [hc3, if_false] at hmo
                have HM2 := hide hmo
                clear hmo HMP hc3
                go_quiet (fail)
                have g2' := g2 nq
                have g9' := g9 nq
                have f9 : (wa.drewN nq).frozen? ⟨H, 9, none⟩ = false := blk_free (((Upd.refl [] wa).drewN nq).get BA.out (by simp))
                go_wp2_with fail
                have hmx : max (lastP x.pl x.last (t.ans.take k)) p = if lastP x.pl x.last (t.ans.take k) < p then p else lastP x.pl x.last (t.ans.take k) := by split <;> omega
                generalize (if lastP x.pl x.last (t.ans.take k) < p then p else lastP x.pl x.last (t.ans.take k)) = V at *
                have uw := (Upd.refl [] wa).drewN nq
                have b1 := blk_set (i := 9) (uw.get BA.out (by simp)) (.int .i64 V)
                simp only [List.setIfInBounds_toArray, List.set_cons_succ, List.set_cons_zero] at b1
                have us : Upd [H] (wa.drewN nq) ((wa.drewN nq).setCell ⟨H, 9, none⟩ (.int .i64 V)) := (Upd.refl [H] _).setCell (p := ⟨H, 9, none⟩) (.inl (by simp)) _
                go_roundw
                case rel => exact ⟨k + 1, hk1, by go_num, by rw [HM2.out, hmx]; exact b1, (PA.out.upd_nil uw).upd us (by simp; omega), (NA.out.upd_nil uw).upd us (by simp; omega), (UA.out.drewN _).trans (us.mono (by simp))⟩
                case measure => simp [intOf]; omega
          · have d5 : decide ((k : Int) < t.ans.length) = false := by simp; omega
            have d5' : decide (k < t.ans.length) = false := by simpa using hkl
            have hke : t.ans.take k = t.ans := List.take_of_length_le (by omega)
            rw [hke] at BK
            go_wp2_with fail
            go_ret
            exact ⟨by rw [RZ.out]; rfl, BK.out, NK.out, UK.out⟩
      | false =>
        cases le with
        | true =>
          have RZ : Hid (lateM l t i x = true) := hide (by rw [HV.out]; rfl)
          go_upto_region 6 with fail
          go_quiet (fail)
          have u6 := (Upd.refl [] w5).drewN nq
          generalize w5.drewN nq = w6 at *
          have N6 := hide (u6.get N5.out (by simp)); have U6 := hide (U5.out.trans u6); have H6 := hide (H5.out.upd_nil u6)
          clear u6 N5 U5 H5 e1 e2 e3 e4 l2
          go_upto_region 7 with fail
          have hHm : H ≠ mn := by omega
          have hNm : N ≠ mn := by omega
          refine wp_region_seq laOps7 (by kernel_rfl) [5] (Upd [mn] (w6.drewN 1)) (by kernel_rfl) (by kernel_rfl) (fun _ _ d _ _ h => by cases d <;> exact h) (Upd.refl _ _) ?_
          refine wpSeq_take (by kernel_rfl) (by kernel_rfl) ?_
          apply Exists.intro
          refine ⟨fun wx hS => ?_, fun a' ha => ?_⟩
          · go_simp; rfl
          simp only [Act.put, List.setIfInBounds_toArray, List.set_cons_succ, List.set_cons_zero] at ha
          subst ha
          refine wpSeq_take (by kernel_rfl) (by kernel_rfl) ?_
          apply Exists.intro
          refine ⟨fun wx hS => ?_, fun a' ha => ?_⟩
          · go_simp; rfl
          simp only [Act.put, List.setIfInBounds_toArray, List.set_cons_succ, List.set_cons_zero] at ha
          subst ha
          refine wpSeq_take (by kernel_rfl) (by kernel_rfl) ?_
          apply Exists.intro
          refine ⟨fun wx hS => ?_, fun a' ha => ?_⟩
          · go_simp; rfl
          simp only [Act.put, List.setIfInBounds_toArray, List.set_cons_succ, List.set_cons_zero] at ha
          subst ha
          refine wpSeq_take (by kernel_rfl) (by kernel_rfl) ?_
          apply Exists.intro
          refine ⟨fun wx hS => ?_, fun a' ha => ?_⟩
          · have c0 : wx.cell? ⟨H, 5, none⟩ = some (.map (some mn)) := blk_cell (hS.get (show (w6.drewN 1).heap[H]? = _ from H6.out.blk) (by simpa using hHm)) rfl; go_simp; rfl
          simp only [Act.put, List.setIfInBounds_toArray, List.set_cons_succ, List.set_cons_zero] at ha
          subst ha
          refine wpSeq_take (by kernel_rfl) (by kernel_rfl) ?_
          apply Exists.intro
          refine ⟨fun wx hS => ?_, fun a' ha => ?_⟩
          · have hb := hS.get (show (w6.drewN 1).heap[N]? = _ from N6.out) (by simpa using hNm); have c0 : wx.cell? ⟨N, 0, none⟩ = some (.int .u32 (E.cmd.client : Int)) := blk_cell hb rfl; have c1 : wx.cell? ⟨N, 1, none⟩ = some (.int .u32 (E.cmd.seq : Int)) := blk_cell hb rfl; go_simp; rfl
          simp only [Act.put, List.setIfInBounds_toArray, List.set_cons_succ, List.set_cons_zero] at ha
          subst ha
          refine wpSeq_one (by kernel_rfl) (by kernel_rfl) (fun K hK => ?_)
          obtain ⟨wz, hr, hm3, hu3, hz3⟩ := num_store (H6.out.upd_nil ((Upd.refl [] w6).drewN 1)).num E.cmd.client E.cmd.seq true
          have hr' : (Instr.mapUpdate 186 (.map (some mn)) (.agg #[.int .u32 (E.cmd.client : Int), .int .u32 (E.cmd.seq : Int)]) (.bool true)).run Tryz.prog (w6.drewN 1) = .ok () wz := hr
          go_simp
          have uz : Upd [mn, H] w wz := ((U6.out.mono (by simp)).drewN 1).trans (hu3.mono (by simp))
          have bz := hu3.get (show (w6.drewN 1).heap[H]? = _ from H6.out.blk) (by simpa using hHm)
          have pz : plK wz mp x.pl := (H6.out.upd_nil ((Upd.refl [] w6).drewN 1)).pl.upd hu3 (by simp; omega)
          have nz : numK wz mn (numNext l t i x.num) := hm3.congr fun j => by
            unfold numNext
            rw [HHA.out, HE.out]
            by_cases e : j = (E.cmd.client, E.cmd.seq)
            · simp [e, cmNu]
            · have e' : ¬ j = cmNu E.cmd := e
              simp [e, e']
          have UZ := hide uz; have BZ := hide bz; have PZ := hide pz; have NZ := hide nz
          clear hr hr' hm3 hz3 uz bz pz nz N6 U6 H6
          refine hK _ _ (hu3) ?_
          clear hK K
          try simp only [Act.put, List.setIfInBounds_toArray, List.set_cons_succ, List.set_cons_zero]
          clear hu3
          unfold wpSeq
          have y1 : wz.cell? ⟨H, 1, none⟩ = some (.slice (some ⟨b, off, none⟩) told.length cp) := blk_cell BZ.out rfl
          have z3' : wz.cell? ⟨b, off + i * 5 + 3, none⟩ = some (.slice xa t.ans.length ca) := cellU z3 UZ.out (by have := HAL.out.old _ hTb; simp; omega)
          go_wp2_with fail
          go_loopw [67] (fun si wr => ∃ k : Nat, k ≤ t.ans.length ∧ si = .int .i64 k ∧ wr.heap[H]? = some (.cells #[lv, .slice (some ⟨b, off, none⟩) told.length cp, .map (some mb), .map (some ma), hv, .map (some mn), .map (some ms), .map (some mw), .map (some mp), .int .i64 (lastP x.pl x.last (t.ans.take k))] THi (0, 0)) ∧ plK wr mp x.pl ∧ numK wr mn (numNext l t i x.num) ∧ Upd [mn, H] w wr) (fun si _ => t.ans.length - (intOf si).toNat)
          case atStart => exact ⟨0, by omega, rfl, BZ.out, PZ.out, NZ.out, UZ.out⟩
          case round =>
            obtain ⟨k, hk, rfl, hbk, hpk, hnk, huk⟩ := hrel
            have BK := hide hbk; have PK := hide hpk; have NK := hide hnk; have UK := hide huk
            clear hbk hpk hnk huk
            by_cases hkl : k < t.ans.length
            · have d5 : decide ((k : Int) < t.ans.length) = true := by simp; omega
              have d5' : decide (k < t.ans.length) = true := by simpa using hkl
              obtain ⟨a, hak⟩ : ∃ a, t.ans[k]? = some a := ⟨_, List.getElem?_eq_getElem hkl⟩
              obtain ⟨bd, od, cs, rfl, hbd, hTd, ⟨hfit, rfl⟩, -, hcd2⟩ := HG.out k a hak
              have hnb : bd ∉ [mn, H] := by have := HAL.out.old _ hTd; simp; omega
              have q0 : wr.cell? ⟨bd, od + k * 4, none⟩ = some (.int .u32 (a.client : Int)) := cellU (hcd2 0 _ rfl) UK.out hnb
              have q1 : wr.cell? ⟨bd, od + k * 4 + 1, none⟩ = some (.int .u32 (a.seq : Int)) := cellU (hcd2 1 _ rfl) UK.out hnb
              have q2 : wr.cell? ⟨bd, od + k * 4 + 2, none⟩ = some (.int .u8 (a.code : Int)) := cellU (hcd2 2 _ rfl) UK.out hnb
              have q3 : wr.cell? ⟨bd, od + k * 4 + 3, none⟩ = some (.string (strOf a.text)) := cellU (hcd2 3 _ rfl) UK.out hnb
              have HMO := hide (lastP_more (pl := x.pl) (z := x.last) hak)
              have hk1 : k + 1 ≤ t.ans.length := by omega
              clear hcd2 hak
              go_upto_region 11 with fail
              have hA := blk_new wr (.cells #[.int .u32 (a.client : Int), .int .u32 (a.seq : Int), .int .u8 (a.code : Int), .string (strOf a.text)] 39)
              have hal := (Upd.refl [] wr).alloc (.cells #[.int .u32 (a.client : Int), .int .u32 (a.seq : Int), .int .u8 (a.code : Int), .string (strOf a.text)] 39)
              change Code.wp _ _ _ _ (wr.alloc (.cells #[.int .u32 (a.client : Int), .int .u32 (a.seq : Int), .int .u8 (a.code : Int), .string (strOf a.text)] 39))
              generalize wr.alloc (.cells #[.int .u32 (a.client : Int), .int .u32 (a.seq : Int), .int .u8 (a.code : Int), .string (strOf a.text)] 39) = wa at *
              have hHr := blk_lt BK.out
              obtain ⟨G, hGs⟩ : ∃ G, wr.heap.size = G := ⟨_, rfl⟩
              rw [hGs] at hA hHr ⊢
              have hHG : H ≠ G := by omega
              have AA := hide hA; have BA := hide (hal.get BK.out (by simp)); have PA := hide (PK.out.upd_nil hal); have NA := hide (NK.out.upd_nil hal); have UA := hide (UK.out.trans (hal.mono (by simp)))
              clear hA hal q0 q1 q2 q3 hGs
              have g0 : wa.cell? ⟨G, 0, none⟩ = some (.int .u32 (a.client : Int)) := blk_cell AA.out rfl
              have g1 : wa.cell? ⟨G, 1, none⟩ = some (.int .u32 (a.seq : Int)) := blk_cell AA.out rfl
              have g8 : wa.cell? ⟨H, 8, none⟩ = some (.map (some mp)) := blk_cell BA.out rfl
              have l3 := fun n => pl_look (PA.out.upd_nil ((Upd.refl [] wa).drewN n)) a.client a.seq
              have hmo := HMO.out
              rw [show x.pl (anNu a) = x.pl (a.client, a.seq) from rfl] at hmo
              obtain ⟨oa, hoa⟩ : ∃ oa, x.pl (a.client, a.seq) = oa := ⟨_, rfl⟩
              rw [hoa] at l3 hmo
              have HMP := hide hmo
              clear hmo hoa HMO
              cases oa with
              | none =>
                go_quiet (fail)
                go_wp2_with fail
                go_roundw
                case rel => exact ⟨k + 1, hk1, by go_num, by rw [HMP.out]; exact ((Upd.refl [] wa).drewN _).get BA.out (by simp), PA.out.upd_nil ((Upd.refl [] wa).drewN _), NA.out.upd_nil ((Upd.refl [] wa).drewN _), UA.out.drewN _⟩
                case measure => simp [intOf]; omega
              | some p =>
                have g2 : ∀ n, (wa.drewN n).cell? ⟨G, 2, none⟩ = some (.int .u8 (a.code : Int)) := fun n => blk_cell (((Upd.refl [] wa).drewN n).get AA.out (by simp)) rfl
                have g9 : ∀ n, (wa.drewN n).cell? ⟨H, 9, none⟩ = some (.int .i64 (lastP x.pl x.last (t.ans.take k))) := fun n => blk_cell (((Upd.refl [] wa).drewN n).get BA.out (by simp)) rfl
                by_cases hc3 : a.code = 3
                · have d6 : ((a.code : Int) != 3) = false := by simp [hc3]
                  have hmo := HMP.out
                  simp only [hc3, if_true] at hmo
                  have HM2 := hide hmo
                  clear hmo HMP hc3
                  go_quiet (fail)
                  have g2' := g2 nq
                  go_wp2_with fail
                  go_roundw
                  case rel => exact ⟨k + 1, hk1, by go_num, by rw [HM2.out]; exact ((Upd.refl [] wa).drewN _).get BA.out (by simp), PA.out.upd_nil ((Upd.refl [] wa).drewN _), NA.out.upd_nil ((Upd.refl [] wa).drewN _), UA.out.drewN _⟩
                  case measure => simp [intOf]; omega
                · have d6 : ((a.code : Int) != 3) = true := by simp; omega
                  have hmo := HMP.out
                  simp only [hc3, if_false] at hmo
                  have HM2 := hide hmo
                  clear hmo HMP hc3
                  go_quiet (fail)
                  have g2' := g2 nq
                  have g9' := g9 nq
                  have f9 : (wa.drewN nq).frozen? ⟨H, 9, none⟩ = false := blk_free (((Upd.refl [] wa).drewN nq).get BA.out (by simp))
                  go_wp2_with fail
                  have hmx : max (lastP x.pl x.last (t.ans.take k)) p = if lastP x.pl x.last (t.ans.take k) < p then p else lastP x.pl x.last (t.ans.take k) := by split <;> omega
                  generalize (if lastP x.pl x.last (t.ans.take k) < p then p else lastP x.pl x.last (t.ans.take k)) = V at *
                  have uw := (Upd.refl [] wa).drewN nq
                  have b1 := blk_set (i := 9) (uw.get BA.out (by simp)) (.int .i64 V)
                  simp only [List.setIfInBounds_toArray, List.set_cons_succ, List.set_cons_zero] at b1
                  have us : Upd [H] (wa.drewN nq) ((wa.drewN nq).setCell ⟨H, 9, none⟩ (.int .i64 V)) := (Upd.refl [H] _).setCell (p := ⟨H, 9, none⟩) (.inl (by simp)) _
                  go_roundw
                  case rel => exact ⟨k + 1, hk1, by go_num, by rw [HM2.out, hmx]; exact b1, (PA.out.upd_nil uw).upd us (by simp; omega), (NA.out.upd_nil uw).upd us (by simp; omega), (UA.out.drewN _).trans (us.mono (by simp))⟩
                  case measure => simp [intOf]; omega
            · have d5 : decide ((k : Int) < t.ans.length) = false := by simp; omega
              have d5' : decide (k < t.ans.length) = false := by simpa using hkl
              have hke : t.ans.take k = t.ans := List.take_of_length_le (by omega)
              rw [hke] at BK
              go_wp2_with fail
              go_ret
              exact ⟨by rw [RZ.out]; rfl, BK.out, NK.out, UK.out⟩
        | false =>
          have RZ : Hid (lateM l t i x = false) := hide (by rw [HV.out]; rfl)
          go_upto_region 6 with fail
          go_quiet (fail)
          have u6 := (Upd.refl [] w5).drewN nq
          generalize w5.drewN nq = w6 at *
          have N6 := hide (u6.get N5.out (by simp)); have U6 := hide (U5.out.trans u6); have H6 := hide (H5.out.upd_nil u6)
          clear u6 N5 U5 H5 e1 e2 e3 e4 l2
          go_upto_region 7 with fail
          have hHm : H ≠ mn := by omega
          have hNm : N ≠ mn := by omega
          refine wp_region_seq laOps7 (by kernel_rfl) [5] (Upd [mn] (w6.drewN 1)) (by kernel_rfl) (by kernel_rfl) (fun _ _ d _ _ h => by cases d <;> exact h) (Upd.refl _ _) ?_
          refine wpSeq_take (by kernel_rfl) (by kernel_rfl) ?_
          apply Exists.intro
          refine ⟨fun wx hS => ?_, fun a' ha => ?_⟩
          · go_simp; rfl
          simp only [Act.put, List.setIfInBounds_toArray, List.set_cons_succ, List.set_cons_zero] at ha
          subst ha
          refine wpSeq_take (by kernel_rfl) (by kernel_rfl) ?_
          apply Exists.intro
          refine ⟨fun wx hS => ?_, fun a' ha => ?_⟩
          · go_simp; rfl
          simp only [Act.put, List.setIfInBounds_toArray, List.set_cons_succ, List.set_cons_zero] at ha
          subst ha
          refine wpSeq_take (by kernel_rfl) (by kernel_rfl) ?_
          apply Exists.intro
          refine ⟨fun wx hS => ?_, fun a' ha => ?_⟩
          · go_simp; rfl
          simp only [Act.put, List.setIfInBounds_toArray, List.set_cons_succ, List.set_cons_zero] at ha
          subst ha
          refine wpSeq_take (by kernel_rfl) (by kernel_rfl) ?_
          apply Exists.intro
          refine ⟨fun wx hS => ?_, fun a' ha => ?_⟩
          · have c0 : wx.cell? ⟨H, 5, none⟩ = some (.map (some mn)) := blk_cell (hS.get (show (w6.drewN 1).heap[H]? = _ from H6.out.blk) (by simpa using hHm)) rfl; go_simp; rfl
          simp only [Act.put, List.setIfInBounds_toArray, List.set_cons_succ, List.set_cons_zero] at ha
          subst ha
          refine wpSeq_take (by kernel_rfl) (by kernel_rfl) ?_
          apply Exists.intro
          refine ⟨fun wx hS => ?_, fun a' ha => ?_⟩
          · have hb := hS.get (show (w6.drewN 1).heap[N]? = _ from N6.out) (by simpa using hNm); have c0 : wx.cell? ⟨N, 0, none⟩ = some (.int .u32 (E.cmd.client : Int)) := blk_cell hb rfl; have c1 : wx.cell? ⟨N, 1, none⟩ = some (.int .u32 (E.cmd.seq : Int)) := blk_cell hb rfl; go_simp; rfl
          simp only [Act.put, List.setIfInBounds_toArray, List.set_cons_succ, List.set_cons_zero] at ha
          subst ha
          refine wpSeq_one (by kernel_rfl) (by kernel_rfl) (fun K hK => ?_)
          obtain ⟨wz, hr, hm3, hu3, hz3⟩ := num_store (H6.out.upd_nil ((Upd.refl [] w6).drewN 1)).num E.cmd.client E.cmd.seq true
          have hr' : (Instr.mapUpdate 186 (.map (some mn)) (.agg #[.int .u32 (E.cmd.client : Int), .int .u32 (E.cmd.seq : Int)]) (.bool true)).run Tryz.prog (w6.drewN 1) = .ok () wz := hr
          go_simp
          have uz : Upd [mn, H] w wz := ((U6.out.mono (by simp)).drewN 1).trans (hu3.mono (by simp))
          have bz := hu3.get (show (w6.drewN 1).heap[H]? = _ from H6.out.blk) (by simpa using hHm)
          have pz : plK wz mp x.pl := (H6.out.upd_nil ((Upd.refl [] w6).drewN 1)).pl.upd hu3 (by simp; omega)
          have nz : numK wz mn (numNext l t i x.num) := hm3.congr fun j => by
            unfold numNext
            rw [HHA.out, HE.out]
            by_cases e : j = (E.cmd.client, E.cmd.seq)
            · simp [e, cmNu]
            · have e' : ¬ j = cmNu E.cmd := e
              simp [e, e']
          have UZ := hide uz; have BZ := hide bz; have PZ := hide pz; have NZ := hide nz
          clear hr hr' hm3 hz3 uz bz pz nz N6 U6 H6
          refine hK _ _ (hu3) ?_
          clear hK K
          try simp only [Act.put, List.setIfInBounds_toArray, List.set_cons_succ, List.set_cons_zero]
          clear hu3
          unfold wpSeq
          have y1 : wz.cell? ⟨H, 1, none⟩ = some (.slice (some ⟨b, off, none⟩) told.length cp) := blk_cell BZ.out rfl
          have z3' : wz.cell? ⟨b, off + i * 5 + 3, none⟩ = some (.slice xa t.ans.length ca) := cellU z3 UZ.out (by have := HAL.out.old _ hTb; simp; omega)
          go_wp2_with fail
          go_loopw [67] (fun si wr => ∃ k : Nat, k ≤ t.ans.length ∧ si = .int .i64 k ∧ wr.heap[H]? = some (.cells #[lv, .slice (some ⟨b, off, none⟩) told.length cp, .map (some mb), .map (some ma), hv, .map (some mn), .map (some ms), .map (some mw), .map (some mp), .int .i64 (lastP x.pl x.last (t.ans.take k))] THi (0, 0)) ∧ plK wr mp x.pl ∧ numK wr mn (numNext l t i x.num) ∧ Upd [mn, H] w wr) (fun si _ => t.ans.length - (intOf si).toNat)
          case atStart => exact ⟨0, by omega, rfl, BZ.out, PZ.out, NZ.out, UZ.out⟩
          case round =>
            obtain ⟨k, hk, rfl, hbk, hpk, hnk, huk⟩ := hrel
            have BK := hide hbk; have PK := hide hpk; have NK := hide hnk; have UK := hide huk
            clear hbk hpk hnk huk
            by_cases hkl : k < t.ans.length
            · have d5 : decide ((k : Int) < t.ans.length) = true := by simp; omega
              have d5' : decide (k < t.ans.length) = true := by simpa using hkl
              obtain ⟨a, hak⟩ : ∃ a, t.ans[k]? = some a := ⟨_, List.getElem?_eq_getElem hkl⟩
              obtain ⟨bd, od, cs, rfl, hbd, hTd, ⟨hfit, rfl⟩, -, hcd2⟩ := HG.out k a hak
              have hnb : bd ∉ [mn, H] := by have := HAL.out.old _ hTd; simp; omega
              have q0 : wr.cell? ⟨bd, od + k * 4, none⟩ = some (.int .u32 (a.client : Int)) := cellU (hcd2 0 _ rfl) UK.out hnb
              have q1 : wr.cell? ⟨bd, od + k * 4 + 1, none⟩ = some (.int .u32 (a.seq : Int)) := cellU (hcd2 1 _ rfl) UK.out hnb
              have q2 : wr.cell? ⟨bd, od + k * 4 + 2, none⟩ = some (.int .u8 (a.code : Int)) := cellU (hcd2 2 _ rfl) UK.out hnb
              have q3 : wr.cell? ⟨bd, od + k * 4 + 3, none⟩ = some (.string (strOf a.text)) := cellU (hcd2 3 _ rfl) UK.out hnb
              have HMO := hide (lastP_more (pl := x.pl) (z := x.last) hak)
              have hk1 : k + 1 ≤ t.ans.length := by omega
              clear hcd2 hak
              go_upto_region 11 with fail
              have hA := blk_new wr (.cells #[.int .u32 (a.client : Int), .int .u32 (a.seq : Int), .int .u8 (a.code : Int), .string (strOf a.text)] 39)
              have hal := (Upd.refl [] wr).alloc (.cells #[.int .u32 (a.client : Int), .int .u32 (a.seq : Int), .int .u8 (a.code : Int), .string (strOf a.text)] 39)
              change Code.wp _ _ _ _ (wr.alloc (.cells #[.int .u32 (a.client : Int), .int .u32 (a.seq : Int), .int .u8 (a.code : Int), .string (strOf a.text)] 39))
              generalize wr.alloc (.cells #[.int .u32 (a.client : Int), .int .u32 (a.seq : Int), .int .u8 (a.code : Int), .string (strOf a.text)] 39) = wa at *
              have hHr := blk_lt BK.out
              obtain ⟨G, hGs⟩ : ∃ G, wr.heap.size = G := ⟨_, rfl⟩
              rw [hGs] at hA hHr ⊢
              have hHG : H ≠ G := by omega
              have AA := hide hA; have BA := hide (hal.get BK.out (by simp)); have PA := hide (PK.out.upd_nil hal); have NA := hide (NK.out.upd_nil hal); have UA := hide (UK.out.trans (hal.mono (by simp)))
              clear hA hal q0 q1 q2 q3 hGs
              have g0 : wa.cell? ⟨G, 0, none⟩ = some (.int .u32 (a.client : Int)) := blk_cell AA.out rfl
              have g1 : wa.cell? ⟨G, 1, none⟩ = some (.int .u32 (a.seq : Int)) := blk_cell AA.out rfl
              have g8 : wa.cell? ⟨H, 8, none⟩ = some (.map (some mp)) := blk_cell BA.out rfl
              have l3 := fun n => pl_look (PA.out.upd_nil ((Upd.refl [] wa).drewN n)) a.client a.seq
              have hmo := HMO.out
              rw [show x.pl (anNu a) = x.pl (a.client, a.seq) from rfl] at hmo
              obtain ⟨oa, hoa⟩ : ∃ oa, x.pl (a.client, a.seq) = oa := ⟨_, rfl⟩
              rw [hoa] at l3 hmo
              have HMP := hide hmo
              clear hmo hoa HMO
              cases oa with
              | none =>
                go_quiet (fail)
                go_wp2_with fail
                go_roundw
                case rel => exact ⟨k + 1, hk1, by go_num, by rw [HMP.out]; exact ((Upd.refl [] wa).drewN _).get BA.out (by simp), PA.out.upd_nil ((Upd.refl [] wa).drewN _), NA.out.upd_nil ((Upd.refl [] wa).drewN _), UA.out.drewN _⟩
                case measure => simp [intOf]; omega
              | some p =>
                have g2 : ∀ n, (wa.drewN n).cell? ⟨G, 2, none⟩ = some (.int .u8 (a.code : Int)) := fun n => blk_cell (((Upd.refl [] wa).drewN n).get AA.out (by simp)) rfl
                have g9 : ∀ n, (wa.drewN n).cell? ⟨H, 9, none⟩ = some (.int .i64 (lastP x.pl x.last (t.ans.take k))) := fun n => blk_cell (((Upd.refl [] wa).drewN n).get BA.out (by simp)) rfl
                by_cases hc3 : a.code = 3
                · have d6 : ((a.code : Int) != 3) = false := by simp [hc3]
                  have hmo := HMP.out
                  simp only [hc3, if_true] at hmo
                  have HM2 := hide hmo
                  clear hmo HMP hc3
                  go_quiet (fail)
                  have g2' := g2 nq
                  go_wp2_with fail
                  go_roundw
                  case rel => exact ⟨k + 1, hk1, by go_num, by rw [HM2.out]; exact ((Upd.refl [] wa).drewN _).get BA.out (by simp), PA.out.upd_nil ((Upd.refl [] wa).drewN _), NA.out.upd_nil ((Upd.refl [] wa).drewN _), UA.out.drewN _⟩
                  case measure => simp [intOf]; omega
                · have d6 : ((a.code : Int) != 3) = true := by simp; omega
                  have hmo := HMP.out
                  simp only [hc3, if_false] at hmo
                  have HM2 := hide hmo
                  clear hmo HMP hc3
                  go_quiet (fail)
                  have g2' := g2 nq
                  have g9' := g9 nq
                  have f9 : (wa.drewN nq).frozen? ⟨H, 9, none⟩ = false := blk_free (((Upd.refl [] wa).drewN nq).get BA.out (by simp))
                  go_wp2_with fail
                  have hmx : max (lastP x.pl x.last (t.ans.take k)) p = if lastP x.pl x.last (t.ans.take k) < p then p else lastP x.pl x.last (t.ans.take k) := by split <;> omega
                  generalize (if lastP x.pl x.last (t.ans.take k) < p then p else lastP x.pl x.last (t.ans.take k)) = V at *
                  have uw := (Upd.refl [] wa).drewN nq
                  have b1 := blk_set (i := 9) (uw.get BA.out (by simp)) (.int .i64 V)
                  simp only [List.setIfInBounds_toArray, List.set_cons_succ, List.set_cons_zero] at b1
                  have us : Upd [H] (wa.drewN nq) ((wa.drewN nq).setCell ⟨H, 9, none⟩ (.int .i64 V)) := (Upd.refl [H] _).setCell (p := ⟨H, 9, none⟩) (.inl (by simp)) _
                  go_roundw
                  case rel => exact ⟨k + 1, hk1, by go_num, by rw [HM2.out, hmx]; exact b1, (PA.out.upd_nil uw).upd us (by simp; omega), (NA.out.upd_nil uw).upd us (by simp; omega), (UA.out.drewN _).trans (us.mono (by simp))⟩
                  case measure => simp [intOf]; omega
            · have d5 : decide ((k : Int) < t.ans.length) = false := by simp; omega
              have d5' : decide (k < t.ans.length) = false := by simpa using hkl
              have hke : t.ans.take k = t.ans := List.take_of_length_le (by omega)
              rw [hke] at BK
              go_wp2_with fail
              go_ret
              exact ⟨by rw [RZ.out]; rfl, BK.out, NK.out, UK.out⟩
end Go.Proofs.YtfmaflaoplkdbaaGreatDoor.Au
