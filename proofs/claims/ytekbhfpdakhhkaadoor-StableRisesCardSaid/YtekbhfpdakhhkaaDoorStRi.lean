/- The law StableRises: a promise never falls, nor does a base. -/
import Derived.Test.YtekbhfpdakhhkaaDoorStTw
import Derived.Test.YtekbhfpdakhhkaaDoorStWk
import Derived.BigQuiet
namespace Go.Proofs.YtekbhfpdakhhkaaDoor.St
set_option linter.unusedSimpArgs false
set_option linter.unusedVariables false
set_option linter.unnecessarySimpa false
open Go.RowKit Go.Lib Go.Proofs.YtekbhfpdakhhkaaDoor.Crc Go.Proofs.YtekbhfpdakhhkaaDoor.Var Go.Proofs.YtekbhfpdakhhkaaDoor.DiskW Go.Proofs.YtekbhfpdakhhkaaDoor.Rec Go.Proofs.YtekbhfpdakhhkaaDoor.Fr

theorem ballot_cells {w : World} {n : Nat} {r : Int} {B : Nat} (h : w.heap[B]? = some (.cells #[.int .u64 (n : Int), .int .i64 r] 35 (0, 0))) : w.cell? ⟨B, 0, none⟩ = some (.int .u64 (n : Int)) ∧ w.cell? ⟨B, 1, none⟩ = some (.int .i64 r) := ⟨blk_cell h rfl, blk_cell h rfl⟩
theorem LogS.below {E : List Nat} {w0 w w5 w6 : World} {S L D g base q i : Nat} {recs : List (List UInt8)} {s : Sto} (h : LogS E w0 w S L D g base recs q s i) (hu : Upd [] w w5) (ht : Turned D [S, g] w5 w6) : ∃ Y, Upd Y w5 w6 ∧ ∀ k ∈ Y, k < w.heap.size := by
  obtain ⟨Y, h1, h2⟩ := ht.upd
  obtain ⟨l1, l2, l3, l4⟩ := h.ltD
  obtain ⟨bv, so, sn, sc, ha⟩ := h.at_
  refine ⟨Y, h1, fun k hk => ?_⟩
  rcases h2 k hk with e | e | e
  · omega
  · have := (ownAt_upd hu l1 (by simp)).1 e
    exact (owns_lt ha.dsk.row k (ha.dsk.ownAt.1 this)).2
  · simp only [List.mem_cons, List.not_mem_nil, or_false] at e
    rcases e with e | e <;> omega
/-- What a round of the law finds. -/
structure Risen (s s' : Sto) (x : SetM) (i : Nat) : Prop where
  up : ¬ bLess s'.prom s.prom ∧ s.base ≤ s'.base
  no : mayM s x ≠ 0 → s' = s
  ok : StoOk s i
  ok' : StoOk s' (i + 1)
  old : ∀ k v, mfind s.votes k = some v → s'.base < k → ∃ u, mfind s'.votes k = some u ∧ (¬ (mayM s x = 0 ∧ x.kind = 2 ∧ x.slot = k) → u = v)
theorem risen {s : Sto} {x : SetM} {i : Nat} (h : StoOk s i) (hx : SetOk x) : Risen s (putM s x) x i :=
  ⟨put_rises h, fun hm => by unfold putM; rw [if_neg hm], h, h.put hx, fun k v hv hk => put_votes hx.kind hv hk⟩
set_option maxRecDepth 100000 in
set_option maxHeartbeats 8000000 in
theorem rises_any {v : Value} {l : List A16} (w : World) (hst : TabAt w) (h : Acts w w.heap.size v l) : Calls Tryd.prog 4 #[v] w fun e w' => e = .returned (.bool true) ∧ Upd [] w w' := by
  obtain ⟨lo, lc, rfl, hlc1, hlc2, hget⟩ := act_get h
  have HST := hide hst; have H := hide h; have HG := hide hget
  clear hst h hget
  go_enter Tryd.func4, Tryd.ntmps4
  go_wp2_with fail
  refine (great_any16 w H.out).mono ?_
  rintro e w1 ⟨rfl, rfl⟩
  obtain ⟨gr, hgr⟩ : ∃ gr, greatM l = gr := ⟨_, rfl⟩
  rw [hgr]
  cases gr
  case true =>
    clear hgr
    go_wp2_with fail
    refine (wakes16_any w HST.out).mono ?_
    rintro e w1 ⟨rfl, hu⟩
    have U := hide hu
    clear hu
    go_wp2_with fail
    go_ret
    exact ⟨rfl, U.out⟩
  case false =>
    have GN := hide (great_no hgr)
    clear hgr
    have hl100 : l.length ≤ 100 := GN.out.1
    go_wp2_with fail
    refine (fresh_any w HST.out).mono ?_
    rintro e w1 ⟨S, L, D, g, rfl, hf⟩
    have F := hide (hf.log HST.out)
    clear hf
    go_wp2_with fail
    go_loopw [5] (fun si wr => ∃ (i : Nat) (s : Sto) (recs : List (List UInt8)), i ≤ l.length ∧ si = .int .i64 i ∧ LogS [] w wr S L D g w.heap.size recs 0 s i) (fun si _ => l.length - (intOf si).toNat)
    case atStart => exact ⟨0, sto0, [], by omega, rfl, F.out⟩
    case round =>
      obtain ⟨i, s, recs, hi, rfl, hlog⟩ := hrel
      rename World => wo
      have LG := hide hlog
      have hszr := hlog.upd.size
      clear hlog F
      by_cases hlt : i < l.length
      · have d5 : decide ((i : Int) < (l.length : Int)) = true := by simp; omega
        have d5' : decide (i < l.length) = true := by simpa using hlt
        obtain ⟨a, ha⟩ : ∃ a, l[i]? = some a := ⟨l[i], List.getElem?_eq_getElem hlt⟩
        obtain ⟨b, off, yo, yn, yc, rfl, hb, hin, hok, c0, c1, c2, c3, c4, c5⟩ := HG.out i a ha
        have hbl := GN.out.2 a (List.mem_of_getElem? ha)
        obtain ⟨bv, so, sn, sc, hst⟩ := LG.out.at_
        have ST := hide hst
        have C0 := hide c0; have C1 := hide c1; have C2 := hide c2; have C3 := hide c3; have C4 := hide c4; have C5 := hide c5; have IN := hide hin; have OK := hide hok; have BL := hide hbl
        clear c0 c1 c2 c3 c4 c5 hin hok hbl hst ha
        go_wp2_with fail
        refine (promise_any wo ST.out).mono ?_
        rintro e w2 ⟨rfl, hu2⟩
        have U2 := hide hu2
        clear hu2
        go_wp2_with fail
        refine (base_any w2 (ST.out.upd_nil U2.out)).mono ?_
        rintro e w3 ⟨rfl, hu3⟩
        have U3 := hide (U2.out.trans hu3)
        clear hu3
        go_wp2_with fail
        refine (votes_any w3 (ST.out.upd_nil U3.out) LG.out.sto (by omega) 0).mono ?_
        intro e w4 hvs
        obtain ⟨v1, xs, rfl, hv1, hu4⟩ := hvs.told
        have VT := hide hv1; have U4 := hide (U3.out.trans hu4)
        clear hvs hv1 hu4
        have hal4 := (Upd.refl [] w4).alloc (.cells #[.int .u64 (s.prom.n : Int), .int .i64 s.prom.r] 35)
        have hb6 := blk_new w4 (.cells #[.int .u64 (s.prom.n : Int), .int .i64 s.prom.r] 35)
        go_upto_region 10 with fail
        obtain ⟨B6, hB6⟩ : ∃ B6, w4.heap.size = B6 := ⟨_, rfl⟩
        rw [hB6] at hb6 ⊢
        generalize w4.alloc (.cells #[.int .u64 (s.prom.n : Int), .int .i64 s.prom.r] 35) = w5 at *
        have U5 := hide (U4.out.trans hal4)
        have LG5 := hide (LG.out.upd_nil U5.out)
        have HB6 := hide (And.intro hb6 (show wo.heap.size ≤ B6 by have := U4.out.size; omega))
        have VT5 := hide (VT.out.upd hal4 (by simp))
        have c0 := Rec.cell_keep LG5.out.upd C0.out (by simp)
        have c1 := Rec.cell_keep LG5.out.upd C1.out (by simp)
        have c2 := Rec.cell_keep LG5.out.upd C2.out (by simp)
        have c3 := Rec.cell_keep LG5.out.upd C3.out (by simp)
        have c4 := Rec.cell_keep LG5.out.upd C4.out (by simp)
        have c5 := Rec.cell_keep LG5.out.upd C5.out (by simp)
        have HB6N := hide hB6
        clear hal4 hb6 hB6
        go_wp2_with fail
        obtain ⟨bv5, so5, sn5, sc5, hst5⟩ := LG5.out.at_
        have hin5 := IN.out.upd LG5.out.upd (by simp)
        have ltl := LG5.out.lt
        refine (lset_log LG5.out (by omega) a OK.out (by have := BL.out; omega) yo yn yc (hin5.lies hst5.dsk (by have := LG5.out.upd.size; omega) ltl.1 ltl.2.2.2.2.1 (by simp; omega))).mono ?_
        rintro e w6 ⟨rfl, hl6, ht6⟩
        obtain ⟨Y6, hY6, hYl⟩ := LG.out.below U5.out ht6
        have hvt6 := VT5.out.upd hY6 (fun k hk => by have := hYl k hk; have := U3.out.size; omega)
        have hb6' := hY6.get HB6.out.1 (fun hm => by have := hYl _ hm; have := HB6.out.2; omega)
        have hset := a.setOk OK.out (by have := BL.out; omega)
        have RN := hide (risen LG.out.sto hset)
        have hrn := risen LG.out.sto hset
        obtain ⟨s', hs'⟩ : ∃ s', putM s a.set = s' := ⟨_, rfl⟩
        obtain ⟨R', hR'⟩ : ∃ R', logR recs s a.set = R' := ⟨_, rfl⟩
        rw [hs'] at hl6 hrn
        rw [hR'] at hl6
        have LG6 := hide hl6; have VT6 := hide hvt6; have HB6' := hide hb6'; have RI := hide hrn
        clear hl6 ht6 hvt6 hb6' hrn hY6 hYl c0 c1 c2 c3 c4 c5 hst5 hin5 ltl VT5 VT HB6 RN hs' hR' LG5 hset
        obtain ⟨bv6, so6, sn6, sc6, hst6⟩ := LG6.out.at_
        have ST6 := hide hst6
        clear hst6
        have hvl' : s'.votes.length ≤ 101 := by have := RI.out.ok'.len; omega
        have hvl : s.votes.length ≤ 100 := by have := RI.out.ok.len; omega
        obtain ⟨dn, hdn⟩ : ∃ dn, decide (mayM s a.set = 0) = dn := ⟨_, rfl⟩
        rw [hdn]
        have DN := hide hdn
        clear hdn
        go_wp2_with fail
        refine (promise_any w6 ST6.out).mono ?_
        rintro e w7 ⟨rfl, hu7⟩
        have U7 := hide hu7
        clear hu7
        go_wp2_with fail
        refine (votes_any w7 (ST6.out.upd_nil U7.out) RI.out.ok' (by omega) 0).mono ?_
        intro e w8 hvs
        obtain ⟨v2, ys, rfl, hv2, hu8⟩ := hvs.told
        have hal9 := (Upd.refl [] w8).alloc (.cells #[.int .u64 (s'.prom.n : Int), .int .i64 s'.prom.r] 35)
        have hb10 := blk_new w8 (.cells #[.int .u64 (s'.prom.n : Int), .int .i64 s'.prom.r] 35)
        have hv2' := hv2.upd hal9 (by simp)
        have U8 := hide (U7.out.trans hu8)
        clear hvs hv2 hu8
        go_upto_region 12 with fail
        obtain ⟨B10, hB10⟩ : ∃ B10, w8.heap.size = B10 := ⟨_, rfl⟩
        rw [hB10] at hb10 ⊢
        generalize w8.alloc (.cells #[.int .u64 (s'.prom.n : Int), .int .i64 s'.prom.r] 35) = w9 at *
        have U9 := hide (U8.out.trans hal9)
        have hvt9 := VT6.out.upd U9.out (by simp)
        obtain ⟨xo, xc, rfl, hxc1, hxc2, hxg⟩ := hvt9.slice
        obtain ⟨zo, zc, rfl, hzc1, hzc2, hzg⟩ := hv2'.slice
        have hxl := hvt9.len
        have hzl := hv2'.len
        have VX := hide hvt9; have VZ := hide hv2'; have XG := hide hxg; have ZG := hide hzg
        have K10 := hide hb10
        have K6 := hide (U9.out.get HB6'.out (by simp))
        have ST9 := hide (ST6.out.upd_nil U9.out)
        have LG9 := hide (LG6.out.upd_nil U9.out)
        clear hal9 hb10 hv2' hvt9 hxg hzg hB10
        have hxl1 : xs.length ≤ 100 := by omega
        have hzl1 : ys.length ≤ 101 := by omega
        simp only [maxLen] at hxc2 hzc2
        have XL := hide hxl; have ZL := hide hzl
        clear hxl hzl
        go_cut [95] (fun sc wx => wx = w9 ∧ sc = .bool false)
        case first => as_aux_lemma =>
          obtain ⟨k0, k1⟩ := ballot_cells K10.out
          obtain ⟨j0, j1⟩ := ballot_cells K6.out
          obtain ⟨up1, up2⟩ := RI.out.up
          unfold bLess at up1
          have q1 : decide ((s'.prom.n : Int) < (s.prom.n : Int)) = false := by simp; omega
          have q1' : decide (s'.prom.n < s.prom.n) = false := by simp; omega
          have q4 : decide ((s'.base : Int) < (s.base : Int)) = false := by simp; omega
          have q4' : decide (s'.base < s.base) = false := by simp; omega
          have DNN := hide (fun hd : dn = false => RI.out.no (by have := DN.out; rw [hd] at this; simpa using this))
          by_cases hn : s'.prom.n = s.prom.n
          · have q2 : ((s'.prom.n : Int) == (s.prom.n : Int)) = true := by simp; omega
            have q3 : decide (s'.prom.r < s.prom.r) = false := by simp; omega
            cases dn
            · obtain rfl := DNN.out rfl
              have q5 : ((ys.length : Int) != (xs.length : Int)) = false := by have := XL.out; have := ZL.out; simp; omega
              clear up1 up2 hn
              go_wp2_with (go_at_call 18; refine (base_q w9 ST9.out).mono ?_; rintro e w' ⟨rfl, rfl⟩)
              go_meet
              exact ⟨rfl, rfl⟩
            · clear up1 up2 hn
              go_wp2_with (go_at_call 18; refine (base_q w9 ST9.out).mono ?_; rintro e w' ⟨rfl, rfl⟩)
              go_meet
              exact ⟨rfl, rfl⟩
          · have q2 : ((s'.prom.n : Int) == (s.prom.n : Int)) = false := by simp; omega
            cases dn
            · obtain rfl := DNN.out rfl
              exact absurd rfl hn
            · clear up1 up2 hn
              go_wp2_with (go_at_call 18; refine (base_q w9 ST9.out).mono ?_; rintro e w' ⟨rfl, rfl⟩)
              go_meet
              exact ⟨rfl, rfl⟩
        case rest =>
        obtain ⟨rfl, rfl⟩ := hcut
        have HA5 := hide (And.intro hlt hi)
        rename World => w10
        go_upto_block 2 with fail
        go_cut [] (fun wx => Upd [] w10 wx)
        case first => as_aux_lemma =>
          go_wp2_with fail
          go_loopw [12] (fun si wr => ∃ k : Nat, k ≤ ys.length ∧ si = .int .i64 k ∧ Upd [] w10 wr) (fun si _ => ys.length - (intOf si).toNat)
          case atStart => exact ⟨0, by omega, rfl, Upd.refl _ _⟩
          case round =>
            obtain ⟨k, hk, rfl, hur⟩ := hrel
            have UR := hide hur
            clear hur
            by_cases hkl : k < ys.length
            · have HK := hide hkl
              obtain ⟨y, hy⟩ : ∃ y, ys[k]? = some y := ⟨_, List.getElem?_eq_getElem hkl⟩
              obtain ⟨u, a1, a2, a3, a4, a5, a6⟩ := VZ.out.at hy
              obtain ⟨b, rfl, hb1, hb2, y0, y1, y2, y3⟩ := ZG.out k y hy
              obtain ⟨ya, hya⟩ : ∃ ya, adOf y.xo = ya := ⟨_, rfl⟩
              simp only [vsl, hya] at y3
              have hvo := RI.out.ok'.vote _ (List.mem_of_getElem? a1)
              simp only at hvo
              obtain ⟨v1, v2, -⟩ := hvo
              replace y0 := Rec.cell_keep UR.out y0 (by simp)
              replace y1 := Rec.cell_keep UR.out y1 (by simp)
              replace y2 := Rec.cell_keep UR.out y2 (by simp)
              replace y3 := Rec.cell_keep UR.out y3 (by simp)
              have d5 : decide ((k : Int) < (ys.length : Int)) = true := by simp; omega
              have d5' : decide (k < ys.length) = true := by simpa using hkl
              have PREV := hide (show ∀ k', k = k' + 1 → ∃ z : VR, ys[k']? = some z ∧ z.slot < y.slot from fun k' e => by
                obtain ⟨z, hz⟩ : ∃ z, ys[k']? = some z := ⟨_, List.getElem?_eq_getElem (by omega)⟩
                obtain ⟨u', z1, -⟩ := VZ.out.at hz
                exact ⟨z, hz, rise_get RI.out.ok'.rise z1 a1 (by omega)⟩)
              have V1 := hide v1; have V2 := hide v2; have A3 := hide a3; have A4 := hide a4
              clear a1 a2 a3 a4 a5 a6 v1 v2 hy hya
              have hb13 := blk_new wr (votC y.slot y.n y.r (.slice ya y.len y.cap))
              have hal := (Upd.refl [] wr).alloc (votC y.slot y.n y.r (.slice ya y.len y.cap))
              go_upto_region 18 with fail
              obtain ⟨B13, hB13⟩ : ∃ B13, wr.heap.size = B13 := ⟨_, rfl⟩
              rw [hB13] at hb13 ⊢
              generalize wr.alloc (votC y.slot y.n y.r (.slice ya y.len y.cap)) = w11 at *
              have UB := hide (UR.out.trans hal)
              have z0 : w11.cell? ⟨B13, 0, none⟩ = some (.int .u64 (y.slot : Int)) := blk_cell hb13 rfl
              have z1 : w11.cell? ⟨B13, 1, none⟩ = some (.int .u64 (y.n : Int)) := blk_cell hb13 rfl
              have z2 : w11.cell? ⟨B13, 2, none⟩ = some (.int .i64 y.r) := blk_cell hb13 rfl
              obtain ⟨k0, k1⟩ := ballot_cells (UB.out.get K10.out (by simp))
              have ST11 := hide (ST9.out.upd_nil UB.out)
              clear y0 y1 y2 y3 hb13 hal hB13
              have q1 : decide ((y.slot : Int) ≤ (s'.base : Int)) = false := by have := V1.out; simp; omega
              have q1' : decide (y.slot ≤ s'.base) = false := by have := V1.out; simp; omega
              have v2 := V2.out
              have a3 := A3.out
              have a4 := A4.out
              unfold bLess at v2
              have q2 : decide ((y.n : Int) > (s'.prom.n : Int)) = false := by simp; omega
              have q2' : decide ((s'.prom.n : Int) < (y.n : Int)) = false := by simp; omega
              have q2n : decide (s'.prom.n < y.n) = false := by simp; omega
              have PF : ∃ pe, ((y.n : Int) == (s'.prom.n : Int)) = pe ∧ (pe = true → decide (y.r > s'.prom.r) = false ∧ decide (s'.prom.r < y.r) = false) := by
                refine ⟨_, rfl, fun e => ?_⟩
                have e' : y.n = s'.prom.n := by simp at e; omega
                constructor <;> (simp; omega)
              obtain ⟨pe, q3, q4⟩ := PF
              clear v2 a3 a4
              cases pe
              · clear q4
                rcases Nat.eq_zero_or_pos k with hk0 | hk0
                · subst hk0
                  have q6 : decide ((0 : Int) > 0) = false := by simp
                  go_quiet ((go_at_call 18; exact quiet_left (base_q _ (ST11.out.upd_nil ((Upd.refl [] _).drewN _)))))
                  go_wp2_with fail
                  go_roundw
                  case rel => exact ⟨0 + 1, by have := HK.out; omega, by go_num, UB.out.drewN _⟩
                  case measure => have := HK.out; simp [intOf]; omega
                · obtain ⟨k', rfl⟩ : ∃ k', k = k' + 1 := ⟨k - 1, by omega⟩
                  obtain ⟨z, hz, hzs⟩ := PREV.out k' rfl
                  obtain ⟨b', e, -, -, p0, -⟩ := ZG.out k' z hz
                  cases e
                  replace p0 := Rec.cell_keep UB.out p0 (by simp)
                  have q6 : decide ((k' : Int) + 1 > 0) = true := decide_eq_true (by omega)
                  have q6' : decide ((0 : Int) < (k' : Int) + 1) = true := decide_eq_true (by omega)
                  have q7 : decide ((z.slot : Int) ≥ (y.slot : Int)) = false := by simp; omega
                  have q7' : decide ((y.slot : Int) ≤ (z.slot : Int)) = false := by simp; omega
                  have q7n : decide (y.slot ≤ z.slot) = false := by simp; omega
                  have hkl2 : k' < ys.length := by omega
                  clear hz hzs hk0
                  go_quiet ((go_at_call 18; exact quiet_left (base_q _ (ST11.out.upd_nil ((Upd.refl [] _).drewN _)))))
                  go_wp2_with fail
                  go_roundw
                  case rel => exact ⟨(k' + 1) + 1, by have := HK.out; omega, by go_num, UB.out.drewN _⟩
                  case measure => have := HK.out; simp [intOf]; omega
              · obtain ⟨q4, q5⟩ := q4 rfl
                rcases Nat.eq_zero_or_pos k with hk0 | hk0
                · subst hk0
                  have q6 : decide ((0 : Int) > 0) = false := by simp
                  go_quiet ((go_at_call 18; exact quiet_left (base_q _ (ST11.out.upd_nil ((Upd.refl [] _).drewN _)))))
                  go_wp2_with fail
                  go_roundw
                  case rel => exact ⟨0 + 1, by have := HK.out; omega, by go_num, UB.out.drewN _⟩
                  case measure => have := HK.out; simp [intOf]; omega
                · obtain ⟨k', rfl⟩ : ∃ k', k = k' + 1 := ⟨k - 1, by omega⟩
                  obtain ⟨z, hz, hzs⟩ := PREV.out k' rfl
                  obtain ⟨b', e, -, -, p0, -⟩ := ZG.out k' z hz
                  cases e
                  replace p0 := Rec.cell_keep UB.out p0 (by simp)
                  have q6 : decide ((k' : Int) + 1 > 0) = true := decide_eq_true (by omega)
                  have q6' : decide ((0 : Int) < (k' : Int) + 1) = true := decide_eq_true (by omega)
                  have q7 : decide ((z.slot : Int) ≥ (y.slot : Int)) = false := by simp; omega
                  have q7' : decide ((y.slot : Int) ≤ (z.slot : Int)) = false := by simp; omega
                  have q7n : decide (y.slot ≤ z.slot) = false := by simp; omega
                  have hkl2 : k' < ys.length := by omega
                  clear hz hzs hk0
                  go_quiet ((go_at_call 18; exact quiet_left (base_q _ (ST11.out.upd_nil ((Upd.refl [] _).drewN _)))))
                  go_wp2_with fail
                  go_roundw
                  case rel => exact ⟨(k' + 1) + 1, by have := HK.out; omega, by go_num, UB.out.drewN _⟩
                  case measure => have := HK.out; simp [intOf]; omega
            · have d5 : decide ((k : Int) < (ys.length : Int)) = false := by simp; omega
              have d5' : decide (k < ys.length) = false := by simpa using hkl
              clear hkl
              go_wp2_with fail
              go_meet
              exact UR.out
        case rest =>
        have U10 := hide hcut
        rename World => w11
        clear hcut
        go_wp2_with fail
        go_loopw [14] (fun si wr => ∃ k : Nat, k ≤ xs.length ∧ si = .int .i64 k ∧ Upd [] w11 wr) (fun si _ => xs.length - (intOf si).toNat)
        case atStart => exact ⟨0, by omega, rfl, Upd.refl _ _⟩
        case round =>
          obtain ⟨k, hk, rfl, hur⟩ := hrel
          have UR := hide (U10.out.trans hur); have UR1 := hide hur
          clear hur
          by_cases hkl : k < xs.length
          · have HK := hide hkl
            obtain ⟨x, hx⟩ : ∃ x, xs[k]? = some x := ⟨_, List.getElem?_eq_getElem hkl⟩
            obtain ⟨u, a1, a2, a3, a4, a5, a6⟩ := VX.out.at hx
            obtain ⟨b', rfl, hb1, hb2, x0, x1, x2, x3⟩ := XG.out k x hx
            obtain ⟨xa, hxa⟩ : ∃ xa, adOf x.xo = xa := ⟨_, rfl⟩
            simp only [vsl, hxa] at x3 a6
            have hold := RI.out.old _ _ a2
            have hvo := RI.out.ok.vote _ (List.mem_of_getElem? a1)
            have hsl : x.slot < 18446744073709551616 := hvo.2.2.2.2.1
            have X0 := hide x0; have X1 := hide x1; have X2 := hide x2; have X3 := hide x3; have A3 := hide a3; have A4 := hide a4; have A6 := hide a6; have OLD := hide hold
            have x0 := Rec.cell_keep UR.out X0.out (by simp)
            have d5 : decide ((k : Int) < (xs.length : Int)) = true := by simp; omega
            have d5' : decide (k < xs.length) = true := by simpa using hkl
            have ST11 := hide (ST9.out.upd_nil UR.out)
            have hvl11 : ((mfind s'.votes x.slot).getD vo0).batch.length ≤ 1000 := by
              cases hf : mfind s'.votes x.slot with
              | none => simp [vo0]
              | some u' => exact (RI.out.ok'.vote _ (mfind_mem hf)).2.2.2.2.2.2
            clear a1 a2 a3 a4 a5 a6 hx hxa hold hvo x1 x2 x3
            go_wp2_with fail
            refine (vote_any wr ST11.out x.slot hsl hvl11).mono ?_
            rintro e w12 ⟨ao, cap, rfl, hao, hu12⟩
            obtain ⟨o, ho⟩ : ∃ o, mfind s'.votes x.slot = o := ⟨_, rfl⟩
            rw [ho] at hao ⊢
            obtain ⟨vs, hvs⟩ : ∃ vs : Nat, (if o.isSome then x.slot else 0) = vs := ⟨_, rfl⟩
            rw [hvs]
            have hb15 := blk_new w12 (votC vs (o.getD vo0).b.n (o.getD vo0).b.r (.slice ao (o.getD vo0).batch.length cap))
            have hal := (Upd.refl [] w12).alloc (votC vs (o.getD vo0).b.n (o.getD vo0).b.r (.slice ao (o.getD vo0).batch.length cap))
            have HAO := hide hao; have HO := hide ho; have HVS := hide hvs
            clear hao ho hvs
            go_upto_region 24 with fail
            obtain ⟨B15, hB15⟩ : ∃ B15, w12.heap.size = B15 := ⟨_, rfl⟩
            rw [hB15] at hb15 ⊢
            generalize w12.alloc (votC vs (o.getD vo0).b.n (o.getD vo0).b.r (.slice ao (o.getD vo0).batch.length cap)) = w13 at *
            have U13 := hide (UR.out.trans (hu12.trans hal)); have UV := hide hal; have UW13 := hide (UR1.out.trans (hu12.trans hal))
            have HB15 := hide hb15
            clear hu12 hal hb15 hB15 x0
            go_cut [17] (fun sc wx => ∃ (ch : Bool) (m : Nat), sc = .bool ch ∧ wx = w13.drewN m ∧ (ch = false → ¬ (mayM s a.set = 0 ∧ a.set.kind = 2 ∧ a.set.slot = x.slot)))
            case first => as_aux_lemma =>
              have x0 := Rec.cell_keep U13.out X0.out (by simp)
              have c0 := Rec.cell_keep (LG9.out.upd.trans U13.out) C0.out (by simp)
              have c2 := Rec.cell_keep (LG9.out.upd.trans U13.out) C2.out (by simp)
              have hkx : k < xs.length := HK.out
              have hix : i < l.length := HA5.out.1
              have hkd := a.kind
              cases dn
              · have hno : ¬ (mayM s a.set = 0 ∧ a.set.kind = 2 ∧ a.set.slot = x.slot) := fun e => by
                  have := DN.out
                  rw [decide_eq_true e.1] at this
                  cases this
                have NO := hide hno
                clear hno hkd
                go_quiet (fail)
                go_wp2_with fail
                go_meet
                exact ⟨_, _, rfl, rfl, fun _ => NO.out⟩
              · by_cases h3 : a.k % 3 = 1
                · have q1 : (((a.k : Int) % 3) == 1) = true := by simp; omega
                  by_cases h4 : a.slot = x.slot
                  · have q2 : ((a.slot : Int) == (x.slot : Int)) = true := by simp; omega
                    clear hkd h3 h4
                    go_quiet (fail)
                    go_wp2_with fail
                    go_meet
                    exact ⟨_, _, rfl, rfl, fun e => by cases e⟩
                  · have q2 : ((a.slot : Int) == (x.slot : Int)) = false := by simp; omega
                    have NO := hide (show ¬ (mayM s a.set = 0 ∧ a.set.kind = 2 ∧ a.set.slot = x.slot) from fun e => by
                      rcases hkd with ⟨e1, -⟩ | ⟨-, -, e2⟩ | ⟨e1, -⟩
                      · omega
                      · exact h4 (e2.symm.trans e.2.2)
                      · omega)
                    clear hkd h3 h4
                    go_quiet (fail)
                    go_wp2_with fail
                    go_meet
                    exact ⟨_, _, rfl, rfl, fun _ => NO.out⟩
                · have q1 : (((a.k : Int) % 3) == 1) = false := by simp; omega
                  have NO := hide (show ¬ (mayM s a.set = 0 ∧ a.set.kind = 2 ∧ a.set.slot = x.slot) from fun e => by
                    rcases hkd with ⟨e1, -⟩ | ⟨-, e1, -⟩ | ⟨e1, -⟩
                    · omega
                    · exact h3 e1
                    · omega)
                  clear hkd h3
                  go_quiet (fail)
                  go_wp2_with fail
                  go_meet
                  exact ⟨_, _, rfl, rfl, fun _ => NO.out⟩
            case rest =>
            obtain ⟨ch, mm, rfl, rfl, hch⟩ := hcut
            have CH := hide hch
            have U14 := hide (U13.out.drewN mm)
            have b15 : (w13.drewN mm).heap[B15]? = some (votC vs (o.getD vo0).b.n (o.getD vo0).b.r (.slice ao (o.getD vo0).batch.length cap)) := HB15.out
            have b16 := owns_upd HAO.out (UV.out.drewN mm) (by simp)
            have U15 := hide (UW13.out.drewN mm)
            generalize w13.drewN mm = w14 at *
            have x0 := Rec.cell_keep U14.out X0.out (by simp)
            have x1 := Rec.cell_keep U14.out X1.out (by simp)
            have x2 := Rec.cell_keep U14.out X2.out (by simp)
            have x3 := Rec.cell_keep U14.out X3.out (by simp)
            rw [A3.out] at x1
            rw [A4.out] at x2
            have hkx : k < xs.length := HK.out
            have ST14 := hide (ST9.out.upd_nil U14.out)
            clear hch
            by_cases hbx : s'.base < x.slot
            · have q1 : decide ((x.slot : Int) > (s'.base : Int)) = true := by simp; omega
              have q1' : decide ((s'.base : Int) < (x.slot : Int)) = true := by simp; omega
              have q1n : decide (s'.base < x.slot) = true := by simpa using hbx
              obtain ⟨u', ho', hu'⟩ := OLD.out hbx
              have e1 := HO.out
              rw [ho'] at e1
              subst e1
              simp only [Option.getD_some, Option.isSome_some] at b15 b16 ⊢
              have z1 : w14.cell? ⟨B15, 1, none⟩ = some (.int .u64 (u'.b.n : Int)) := blk_cell b15 rfl
              have z2 : w14.cell? ⟨B15, 2, none⟩ = some (.int .i64 u'.b.r) := blk_cell b15 rfl
              have z3 : w14.cell? ⟨B15, 3, none⟩ = some (.slice ao u'.batch.length cap) := blk_cell b15 rfl
              cases ch
              · obtain rfl : u' = u := hu' (CH.out rfl)
                obtain ⟨qs1, qs2⟩ := strs_same u'.batch
                have hcv1 := fun nq => run_str (src_upd_nil (src_ownB b16) ((Upd.refl [] w14).drewN nq))
                have hcv2 := fun nq => run_str (src_upd_nil (src_ownB A6.out) (U14.out.drewN nq))
                clear hu' ho' b15 b16 hbx
                go_upto_region 25 with fail
                go_quiet ((go_at_call 18; exact quiet_left (base_q _ (ST14.out.upd_nil ((Upd.refl [] _).drewN _)))))
                go_wp2_with fail
                go_roundw
                case rel => exact ⟨k + 1, by have := HK.out; omega, by go_num, U15.out.drewN _⟩
                case measure => have := HK.out; simp [intOf]; omega
              · clear hu' ho' b15 b16 hbx
                go_upto_region 25 with fail
                go_quiet ((go_at_call 18; exact quiet_left (base_q _ (ST14.out.upd_nil ((Upd.refl [] _).drewN _)))))
                go_wp2_with fail
                go_roundw
                case rel => exact ⟨k + 1, by have := HK.out; omega, by go_num, U15.out.drewN _⟩
                case measure => have := HK.out; simp [intOf]; omega
            · have q1 : decide ((x.slot : Int) > (s'.base : Int)) = false := by simp; omega
              have q1' : decide ((s'.base : Int) < (x.slot : Int)) = false := by simp; omega
              have q1n : decide (s'.base < x.slot) = false := by simpa using hbx
              clear b15 b16 hbx
              go_upto_region 25 with fail
              go_quiet ((go_at_call 18; exact quiet_left (base_q _ (ST14.out.upd_nil ((Upd.refl [] _).drewN _)))))
              go_wp2_with fail
              go_roundw
              case rel => exact ⟨k + 1, by have := HK.out; omega, by go_num, U15.out.drewN _⟩
              case measure => have := HK.out; simp [intOf]; omega
          · have d5 : decide ((k : Int) < (xs.length : Int)) = false := by simp; omega
            have d5' : decide (k < xs.length) = false := by simpa using hkl
            clear hkl
            go_wp2_with fail
            go_roundw
            case rel => exact ⟨i + 1, s', R', by have := HA5.out; omega, by go_num, LG9.out.upd_nil UR.out⟩
            case measure => have := HA5.out; simp [intOf]; omega
      · have d5 : decide ((i : Int) < (l.length : Int)) = false := by simp; omega
        have d5' : decide (i < l.length) = false := by simpa using hlt
        clear hlt
        go_wp2_with fail
        refine (wakes16_any wo (HST.out.upd LG.out.upd (by simp))).mono ?_
        rintro e w2 ⟨rfl, hu⟩
        have U := hide (LG.out.upd.trans hu)
        clear hu
        go_wp2_with fail
        go_ret
        exact ⟨rfl, U.out⟩
end Go.Proofs.YtekbhfpdakhhkaaDoor.St
