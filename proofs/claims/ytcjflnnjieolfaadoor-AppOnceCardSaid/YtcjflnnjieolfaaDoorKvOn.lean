/- The law AppOnce, walked. -/
import Derived.Test.YtcjflnnjieolfaaDoorKvWk
import Derived.Test.YtcjflnnjieolfaaDoorKvG
namespace Go.Proofs.YtcjflnnjieolfaaDoor.Kv
open Go.RowKit Go.Lib Go.Proofs.YtcjflnnjieolfaaDoor.Crc Go.Proofs.YtcjflnnjieolfaaDoor.Cm

/-- What came is not fresh. -/
theorem told_old {l : List Cm} {i j : Nat} {a : Ap} {d : Cm} (h : Told l (i + 1) a) (hd : l[j]? = some d) (hj : j ≤ i) : ∃ r, apDo a d = (a, r, false) := by
  by_cases h0 : d.client = 0
  · exact ⟨_, apDo_none h0⟩
  · obtain ⟨x, hx, hs⟩ := h j d (by omega) hd h0
    obtain ⟨h1, h2⟩ := apDo_known hx hs
    obtain ⟨b, r, f, e⟩ : ∃ b r f, apDo a d = (b, r, f) := ⟨_, _, _, rfl⟩
    rw [e] at h1 h2 ⊢
    simp only at h1 h2
    subst h1; subst h2
    exact ⟨r, rfl⟩
/-- Two applications that have the same. -/
structure Two (w wr : World) (N0 N1 N2 pa pb : Nat) (x : Ap) : Prop where
  a : ApIs wr N0 N1 pa x
  b : ApIs wr N1 N2 pb x
  upd : Upd [] w wr
  size : N2 ≤ wr.heap.size
theorem Two.upd_nil {w wr w' : World} {N0 N1 N2 pa pb : Nat} {a : Ap} (h : Two w wr N0 N1 N2 pa pb a) (hu : Upd [] wr w') : Two w w' N0 N1 N2 pa pb a :=
  ⟨h.a.upd_nil hu, h.b.upd_nil hu, h.upd.trans hu, Nat.le_trans h.size hu.size⟩
theorem Two.turn_b {w wr w' : World} {N0 N1 N2 pa pb : Nat} {a : Ap} (h : Two w wr N0 N1 N2 pa pb a) (hb : ApIs w' N1 N2 pb a) (ht : Turned N1 N2 wr w') (h1 : w.heap.size ≤ N1) : Two w w' N0 N1 N2 pa pb a :=
  ⟨h.a.keep ht (.inl (Nat.le_refl _)), hb, ht.upd_new h.upd h1, Nat.le_trans h.size ht.size⟩
theorem rem_nat (z n : Nat) : ∃ q : Nat, q < n + 1 ∧ (z : Int).tmod ((n : Int) + 1) = (q : Int) :=
  ⟨z % (n + 1), Nat.mod_lt _ (by omega), by rw [Int.natCast_emod, Int.tmod_eq_emod_of_nonneg (by omega)]; rfl⟩
theorem wrap_small {z : Int} (h : 0 ≤ z ∧ z < 1000000) : RowKit.wrap64 z = z := by unfold RowKit.wrap64; omega
theorem u64_small {z : Int} (h : 0 ≤ z ∧ z < 1000000) : IntKind.u64.wrap z = z := IntWalk.u64_in _ (by omega)
set_option maxRecDepth 100000 in
set_option maxHeartbeats 8000000 in
theorem once_any {T : Nat → Prop} {v : Value} {l : List Cm} {ao : Option Addr} {an ac : Nat} {al : List UInt8} (w : World) (he : EnvAt w) (h : cmK.row w T v l) (ha : SrcAt w ao an ac (al.map u8v) 1) (hm : an ≤ ac) (hm2 : ac ≤ maxLen) :
    Calls Tryd.prog 3 #[v, .slice ao an ac] w fun e w' => e = .returned (.bool true) ∧ Upd [] w w' := by
  have CR := hide h; have ENV := hide he; have SRC := hide ha
  have hal : al.length = an := by have := ha.len; simpa using this
  obtain ⟨xo, cp, rfl, h1, h2, hg⟩ := cm_get h
  have HG := hide hg
  simp only [maxLen] at h2 hm2
  clear h he ha hg
  go_enter Tryd.func3, Tryd.ntmps3
  go_wp2_with fail
  refine (great_any w CR.out).mono ?_
  rintro e w1 ⟨hu1, r0, rfl, hr0⟩
  have U1 := hide hu1; have R0 := hide hr0; have E1 := hide (ENV.out.upd_nil hu1)
  clear hu1 hr0
  cases r0 with
  | true =>
    go_wp2_with fail
    refine (wakes_any w1 E1.out).mono ?_
    rintro e w2 ⟨rfl, hu2⟩
    have U2 := hide (U1.out.trans hu2)
    clear hu2
    go_wp2_with fail
    go_ret
    exact ⟨rfl, U2.out⟩
  | false =>
    have hsm := R0.out rfl
    have SM := hide hsm
    have hl100 := hsm.1
    clear R0 hsm
    by_cases h200 : 200 < an
    · have d0 : decide ((200 : Int) < (an : Int)) = true := by simp; omega
      clear h200
      go_wp2_with fail
      refine (wakes_any w1 E1.out).mono ?_
      rintro e w2 ⟨rfl, hu2⟩
      have U2 := hide (U1.out.trans hu2)
      clear hu2
      go_wp2_with fail
      go_ret
      exact ⟨rfl, U2.out⟩
    have d0 : decide ((200 : Int) < (an : Int)) = false := by simp; omega
    clear h200
    go_wp2_with fail
    refine (anew_any w1).mono ?_
    rintro e w2 ⟨⟨pa, rfl, ha2⟩, hu2⟩
    have A2 := hide ha2; have U2 := hide (U1.out.trans hu2)
    have hs1 := U1.out.size; have hs2 := hu2.size
    clear ha2 hu2
    go_wp2_with fail
    refine (anew_any w2).mono ?_
    rintro e w3 ⟨⟨pb, rfl, hb3⟩, hu3⟩
    have hs3 := hu3.size
    have TW := hide (show Two w w3 w1.heap.size w2.heap.size w3.heap.size pa pb ap0 from ⟨A2.out.upd_nil hu3, hb3, U2.out.trans hu3, Nat.le_refl _⟩)
    obtain ⟨N0, hN0⟩ : ∃ N, w1.heap.size = N := ⟨_, rfl⟩
    obtain ⟨N1, hN1⟩ : ∃ N, w2.heap.size = N := ⟨_, rfl⟩
    obtain ⟨N2, hN2⟩ : ∃ N, w3.heap.size = N := ⟨_, rfl⟩
    rw [hN0, hN1, hN2] at TW
    rw [hN0] at hs1 hs2
    rw [hN1] at hs2 hs3
    rw [hN2] at hs3
    clear hb3 hu3 hN0 hN1 hN2 A2 U2
    go_wp2_with fail
    go_loopw [7] (fun si wr => ∃ (i : Nat) (a : Ap), i ≤ l.length ∧ si = .int .i64 i ∧ Two w wr N0 N1 N2 pa pb a ∧ ApOk a i ∧ Told l i a) (fun si _ => l.length - (RowKit.intOf si).toNat)
    case atStart => exact ⟨0, ap0, by omega, rfl, TW.out, ApOk.zero, Told.zero _ _⟩
    case round =>
      obtain ⟨i, a, hi, rfl, ht, hok, htl⟩ := hrel
      have TR := hide ht; have OK := hide hok; have TL := hide htl
      clear ht hok htl
      by_cases hlt : i < l.length
      · have d5 : decide ((i : Int) < l.length) = true := by simp; omega
        have d5' : decide (i < l.length) = true := by simpa using hlt
        obtain ⟨c, hc⟩ : ∃ c, l[i]? = some c := ⟨_, List.getElem?_eq_getElem hlt⟩
        obtain ⟨bc, oc, ka, kc, rfl, hbc, -, fit, hks, hcc⟩ := HG.out i c hc
        have HC := hide hc; have FIT := hide fit; have KS := hide hks; have CC := hide hcc
        obtain ⟨c0, c1, c2, c3, c4, c5, c6⟩ := hcc.upd TR.out.upd hbc (by simp)
        obtain ⟨a', r, f, hd⟩ : ∃ a' r f, apDo a c = (a', r, f) := ⟨_, _, _, rfl⟩
        have HD := hide hd
        clear hc fit hks hcc hd
        go_wp2_with fail
        refine (wstep HD.out wr (ENV.out.upd_nil TR.out.upd) TR.out.a OK.out (by omega) ⟨FIT.out, _, rfl, KS.out.upd_nil TR.out.upd⟩).mono ?_
        rintro e w4 ⟨rfl, ha4, ht4⟩
        unfold rpv
        clear c0 c1 c2 c3 c4 c5 c6
        have hb4 := TR.out.b.keep ht4 (.inr (Nat.le_refl _)); have hu4 := ht4.upd_new TR.out.upd (by omega); have hz4 : N2 ≤ w4.heap.size := Nat.le_trans TR.out.size ht4.size
        go_upto_region 8 with fail
        have hR := blk_new w4 (.cells #[.int .u8 (r.code : Int), .string (strOf r.text)] TRp)
        have hal := (Upd.refl [] w4).alloc (.cells #[.int .u8 (r.code : Int), .string (strOf r.text)] TRp)
        change Code.wp _ _ _ _ (w4.alloc (.cells #[.int .u8 (r.code : Int), .string (strOf r.text)] TRp))
        generalize w4.alloc (.cells #[.int .u8 (r.code : Int), .string (strOf r.text)] TRp) = w5 at *
        have A5 := hide (ha4.upd_nil hal); have B5 := hide (hb4.upd_nil hal); have U5 := hide (hu4.trans hal); have X5 := hide hR
        have hz5 := hal.size
        generalize w4.heap.size = R1 at *
        clear hR hal ha4 hb4 hu4 ht4
        obtain ⟨c0, c1, c2, c3, c4, c5, c6⟩ := CC.out.upd U5.out hbc (by simp)
        go_wp2_with fail
        refine (wstep HD.out w5 (ENV.out.upd_nil U5.out) B5.out OK.out (by omega) ⟨FIT.out, _, rfl, KS.out.upd_nil U5.out⟩).mono ?_
        rintro e w6 ⟨rfl, hb6, ht6⟩
        unfold rpv
        clear c0 c1 c2 c3 c4 c5 c6
        have ha6 := A5.out.keep ht6 (.inl (Nat.le_refl _)); have hu6 := ht6.upd_new U5.out (by omega); have hz6 : N2 ≤ w6.heap.size := Nat.le_trans (by omega) ht6.size
        have hx6 := ht6.get X5.out (.inr (by omega))
        go_upto_region 9 with fail
        have hR := blk_new w6 (.cells #[.int .u8 (r.code : Int), .string (strOf r.text)] TRp)
        have hal := (Upd.refl [] w6).alloc (.cells #[.int .u8 (r.code : Int), .string (strOf r.text)] TRp)
        change Code.wp _ _ _ _ (w6.alloc (.cells #[.int .u8 (r.code : Int), .string (strOf r.text)] TRp))
        generalize w6.alloc (.cells #[.int .u8 (r.code : Int), .string (strOf r.text)] TRp) = w7 at *
        have T7 := hide (show Two w w7 N0 N1 N2 pa pb a' from ⟨ha6.upd_nil hal, hb6.upd_nil hal, hu6.trans hal, Nat.le_trans hz6 hal.size⟩)
        have X7 := hide (hal.get hx6 (by simp)); have Y7 := hide hR
        generalize w6.heap.size = R2 at *
        clear hR hal ha6 hb6 hu6 ht6 hx6 A5 B5 U5 X5
        obtain ⟨y0, y1, -, -, -, -⟩ := res_facts X7.out
        obtain ⟨y2, y3, -, -, -, -⟩ := res_facts Y7.out
        have q1 := neq_rp r r w7
        rw [decide_eq_true rfl] at q1
        have q2 : (f != f) = false := by simp
        go_upto_if 59 with fail
        have hok' := OK.out.next (c := c) (by omega) FIT.out.1 FIT.out.2.1
        have htl' := TL.out.next HC.out
        rw [HD.out] at hok' htl'
        have OK' := hide (show ApOk a' (i + 1) from hok'); have TL' := hide (show Told l (i + 1) a' from htl')
        clear hok' htl' y0 y1 y2 y3 q1 q2
        go_cut [] (fun wx => Two w wx N0 N1 N2 pa pb a')
        case first =>
          cases f with
          | false =>
            go_wp2_with fail
            go_meet
            exact T7.out
          | true =>
            have hag := apDo_again (a := a) (c := c) (by rw [HD.out])
            rw [HD.out] at hag
            have HA := hide (show apDo a' c = (a', r, false) from hag)
            obtain ⟨c0, c1, c2, c3, c4, c5, c6⟩ := CC.out.upd T7.out.upd hbc (by simp)
            clear hag
            go_wp2_with fail
            refine (wstep HA.out w7 (ENV.out.upd_nil T7.out.upd) T7.out.b OK'.out (by omega) ⟨FIT.out, _, rfl, KS.out.upd_nil T7.out.upd⟩).mono ?_
            rintro e w8 ⟨rfl, hb8, ht8⟩
            unfold rpv
            clear c0 c1 c2 c3 c4 c5 c6
            have T8 := hide (T7.out.turn_b hb8 ht8 (by omega))
            have hz7 := T7.out.size
            have hzz := ht8.size
            have X8 := hide (ht8.get X7.out (.inr (by omega)))
            clear hb8 ht8
            go_upto_region 13 with fail
            have hR := blk_new w8 (.cells #[.int .u8 (r.code : Int), .string (strOf r.text)] TRp)
            have hal := (Upd.refl [] w8).alloc (.cells #[.int .u8 (r.code : Int), .string (strOf r.text)] TRp)
            change Code.wp _ _ _ _ (w8.alloc (.cells #[.int .u8 (r.code : Int), .string (strOf r.text)] TRp))
            generalize w8.alloc (.cells #[.int .u8 (r.code : Int), .string (strOf r.text)] TRp) = w9 at *
            have T9 := hide (T8.out.upd_nil hal); have X9 := hide (hal.get X8.out (by simp)); have Y9 := hide hR
            generalize w8.heap.size = R3 at *
            clear hR hal
            obtain ⟨y0, y1, -, -, -, -⟩ := res_facts X9.out
            obtain ⟨y2, y3, -, -, -, -⟩ := res_facts Y9.out
            have q1 := neq_rp r r w9
            rw [decide_eq_true rfl] at q1
            go_wp2_with fail
            go_meet
            exact T9.out
        case rest =>
          have TC := hide hcut
          clear hcut T7 X7 Y7 TR OK TL
          go_wp2_with fail
          go_loopw [14] (fun si wr => ∃ k : Nat, k ≤ an ∧ si = .int .i64 k ∧ Two w wr N0 N1 N2 pa pb a') (fun si _ => an - (RowKit.intOf si).toNat)
          case atStart => exact ⟨0, by omega, rfl, TC.out⟩
          case round =>
            obtain ⟨k, hk, rfl, ht⟩ := hrel
            have TK := hide ht
            clear ht
            by_cases hlk : k < an
            · have d6 : decide ((k : Int) < (an : Int)) = true := by simp; omega
              have d6' : decide (k < an) = true := by simpa using hlk
              obtain ⟨b, off, rfl, hcell⟩ := src_at (src_upd_nil SRC.out TK.out.upd) hlk
              have hz2 := (al.getD k 0).toNat_lt
              obtain ⟨z, hz⟩ : ∃ z : Nat, (al.getD k 0).toNat = z := ⟨_, rfl⟩
              rw [hz] at hcell hz2
              obtain ⟨q, hq2, hq1⟩ := rem_nat z l.length
              clear hz
              by_cases hqi : q ≤ i
              · have d7 : decide ((q : Int) ≤ (i : Int)) = true := by simp; omega
                have d7' : decide (q ≤ i) = true := by simpa using hqi
                have hql : q < l.length := by omega
                have d8 : decide ((q : Int) < (l.length : Int)) = true := by simp; omega
                obtain ⟨d, hdq⟩ : ∃ d, l[q]? = some d := ⟨_, List.getElem?_eq_getElem hql⟩
                obtain ⟨b2, o2, ka2, kc2, hb2, hbc2, -, fit2, hks2, hcc2⟩ := HG.out q d hdq
                cases hb2
                obtain ⟨r', hdo⟩ := told_old TL'.out hdq hqi
                have HDO := hide hdo; have FIT2 := hide fit2; have KS2 := hide hks2
                obtain ⟨c0, c1, c2, c3, c4, c5, c6⟩ := hcc2.upd TK.out.upd hbc2 (by simp)
                clear hdo fit2 hks2 hcc2 hdq
                go_wp2_with fail
                refine (wstep HDO.out wr (ENV.out.upd_nil TK.out.upd) TK.out.b OK'.out (by omega) ⟨FIT2.out, _, rfl, KS2.out.upd_nil TK.out.upd⟩).mono ?_
                rintro e w8 ⟨rfl, hb8, ht8⟩
                unfold rpv
                clear c0 c1 c2 c3 c4 c5 c6
                have T8 := hide (TK.out.turn_b hb8 ht8 (by omega))
                clear hb8 ht8
                go_upto_region 20 with fail
                have hal := (Upd.refl [] w8).alloc (.cells #[.int .u8 (r'.code : Int), .string (strOf r'.text)] TRp)
                change Code.wp _ _ _ _ (w8.alloc (.cells #[.int .u8 (r'.code : Int), .string (strOf r'.text)] TRp))
                generalize w8.alloc (.cells #[.int .u8 (r'.code : Int), .string (strOf r'.text)] TRp) = w9 at *
                have T9 := hide (T8.out.upd_nil hal)
                clear hal
                go_wp2_with fail
                go_roundw
                case rel => exact ⟨k + 1, by omega, by go_num, T9.out⟩
                case measure => simp [RowKit.intOf]; omega
              · have d7 : decide ((q : Int) ≤ (i : Int)) = false := by simp; omega
                have d7' : decide (q ≤ i) = false := by simpa using hqi
                clear hqi
                go_wp2_with fail
                go_roundw
                case rel => exact ⟨k + 1, by omega, by go_num, TK.out⟩
                case measure => simp [RowKit.intOf]; omega
            · have d6 : decide ((k : Int) < (an : Int)) = false := by simp; omega
              have d6' : decide (k < an) = false := by simpa using hlk
              clear hlk
              go_wp2_with fail
              refine (asame_any wr TK.out.a TK.out.b OK'.out (by omega)).mono ?_
              rintro e w8 ⟨rfl, hu8⟩
              have T8 := hide (TK.out.upd_nil hu8)
              clear hu8
              have hn := OK'.out.n
              have e3 : decide ((i : Int) + 1 < (a'.n : Int)) = false := by simp; omega
              go_wp2_with fail
              refine (acount_any w8 T8.out.a).mono ?_
              rintro e w9 ⟨rfl, rfl⟩
              go_wp2_with fail
              go_roundw
              case rel => exact ⟨i + 1, a', by omega, by go_num, T8.out, OK'.out, TL'.out⟩
              case measure => simp [RowKit.intOf]; omega
      · have d5 : decide ((i : Int) < l.length) = false := by simp; omega
        have d5' : decide (i < l.length) = false := by simpa using hlt
        clear hlt
        go_wp2_with fail
        refine (wakes_any wr (ENV.out.upd_nil TR.out.upd)).mono ?_
        rintro e w4 ⟨rfl, hu4⟩
        have U4 := hide (TR.out.upd.trans hu4)
        clear hu4
        go_wp2_with fail
        go_ret
        exact ⟨rfl, U4.out⟩
end Go.Proofs.YtcjflnnjieolfaaDoor.Kv
