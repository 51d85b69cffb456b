/- The law WavesTwice, walked. -/
import Derived.Test.YteeepelmkfiocaaGreatDoorWvA
import Derived.Test.YteeepelmkfiocaaGreatDoorKvX
namespace Go.Proofs.YteeepelmkfiocaaGreatDoor.Kv
set_option linter.unusedSimpArgs false
set_option linter.unusedVariables false
set_option linter.unnecessarySimpa false
open Go.RowKit Go.Lib Go.Proofs.YteeepelmkfiocaaGreatDoor.Crc Go.Proofs.YteeepelmkfiocaaGreatDoor.Cm

theorem runM_ok {l : List Cm} (hf : ∀ p, (l.getD p cm0).client < 4294967296 ∧ (l.getD p cm0).seq < 4294967296) : ∀ (ps : List Nat) (a : Ap) (k : Nat), k + ps.length ≤ 10000 → ApOk a k → ApOk (runM l a ps).1 (k + ps.length)
  | [], a, k, _, h => h
  | p :: ps, a, k, hk, h => by
    simp only [List.length_cons] at hk ⊢
    have := runM_ok hf ps _ (k + 1) (by omega) (h.next (by omega) (hf p).1 (hf p).2)
    rw [show k + (ps.length + 1) = k + 1 + ps.length by omega]
    exact this
theorem fits_get {w : World} {T : Nat → Prop} {v : Value} {l : List Cm} (h : cmK.row w T v l) : ∀ p, (l.getD p cm0).client < 4294967296 ∧ (l.getD p cm0).seq < 4294967296 := fun p => by
  obtain ⟨xo, cp, -, -, -, hg⟩ := cm_get h
  rcases Nat.lt_or_ge p l.length with hp | hp
  · obtain ⟨_, _, _, _, _, _, _, fit, _⟩ := hg p _ (List.getElem?_eq_getElem hp)
    rw [getD_at _ _ hp]
    exact ⟨fit.1, fit.2.1⟩
  · have : l.getD p cm0 = cm0 := by simp [List.getD, List.getElem?_eq_none hp]
    rw [this]
    exact ⟨by decide, by decide⟩
theorem order_ok {l : List Cm} {ps : List Int} {a : Ap} {k : Nat} {d : List Dn} (hf : ∀ p, (l.getD p cm0).client < 4294967296 ∧ (l.getD p cm0).seq < 4294967296) (hk : k + l.length ≤ 10000) (h : ApOk a k) : ApOk (runD l a (orderM l ps) 0 d).1 (k + l.length) := by
  rw [runD_ap]
  have := runM_ok hf ((orderM l ps).map (·.1)) a k (by simp [orderM_len]; omega) h
  simpa [orderM_len] using this
/-- A batch again is not fresh, and leaves what there was. -/
theorem twice_says {l : List Cm} {ps qs : List Int} {a a1 : Ap} {d : List Dn} (h1 : (runD l a (orderM l ps) 0 d).1 = a1) :
    (runD l a1 (orderM l qs) 0 (List.replicate l.length dn0)).1 = a1 ∧ ∀ i, i < l.length → ∃ d, (runD l a1 (orderM l qs) 0 (List.replicate l.length dn0)).2[i]? = some d ∧ d.fresh = false := by
  rw [runD_ap] at h1
  obtain ⟨t1, t2⟩ := twice (l := l) (ps := ps) (qs := qs) (a := a)
  rw [h1] at t1 t2
  refine ⟨by rw [runD_ap]; exact t1, fun i hi => ?_⟩
  have hp := orderM_perm l qs
  have hm : i ∈ (orderM l qs).map (·.1) := hp.mem_iff.2 (by simpa using hi)
  obtain ⟨p, hpm, rfl⟩ := List.mem_map.1 hm
  obtain ⟨k, hk, rfl⟩ := List.mem_iff_getElem.1 hpm
  obtain ⟨r, f, g1, g2⟩ := runD_says l (orderM l qs) a1 0 (List.replicate l.length dn0) (hp.nodup_iff.2 List.nodup_range)
    (fun p hp' => by rw [List.length_replicate]; have := hp.mem_iff.1 (List.mem_map_of_mem (f := (·.1)) hp'); simpa using this) k hk
  exact ⟨_, g2, t2 _ g1⟩
set_option maxRecDepth 100000 in
set_option maxHeartbeats 8000000 in
theorem twice_any {T : Nat → Prop} {v : Value} {l : List Cm} {po qo : Option Addr} {pn pc qn qc : Nat} {ps qs : List Int} (w : World) (he : EnvAt w) (h : cmK.row w T v l)
    (hp : SrcAt w po pn pc (ps.map pV) 1) (hq : SrcAt w qo qn qc (qs.map pV) 1) (hpm : pn ≤ pc) (hpx : pc ≤ maxLen) (hqm : qn ≤ qc) (hqx : qc ≤ maxLen) :
    Calls Tryz.prog 3 #[v, .slice po pn pc, .slice qo qn qc] w fun e w' => e = .returned (.bool true) ∧ Upd [] w w' := by
  have CR := hide h; have ENV := hide he; have SP := hide hp; have SQ := hide hq; have HF := hide (fits_get h)
  obtain ⟨xo, cp, rfl, h1, h2, hg⟩ := cm_get h
  simp only [maxLen] at h2 hpx hqx
  clear h he hp hq hg
  go_enter Tryz.func3, Tryz.ntmps3
  go_wp2_with fail
  refine (great_any w CR.out).mono ?_
  rintro e w1 ⟨hu1, r0, rfl, hr0⟩
  have U1 := hide hu1; have R0 := hide hr0; have E1 := hide (ENV.out.upd_nil hu1)
  clear hu1 hr0
  cases r0 with
  | true =>
    go_wp2_with fail
    refine (wakes13_any w1 E1.out).mono ?_
    rintro e w2 ⟨rfl, hu2⟩
    have U2 := hide (U1.out.trans hu2)
    clear hu2
    go_wp2_with fail
    go_ret
    exact ⟨rfl, U2.out⟩
  | false =>
    have hsm := R0.out rfl
    have SM := hide hsm
    have hl100 := hsm.1
    clear R0 hsm
    by_cases h200 : 200 < pn
    · have d0 : decide ((200 : Int) < (pn : Int)) = true := by simp; omega
      have d0' : decide ((pn : Int) > 200) = true := by simp; omega
      clear h200
      go_wp2_with fail
      refine (wakes13_any w1 E1.out).mono ?_
      rintro e w2 ⟨rfl, hu2⟩
      have U2 := hide (U1.out.trans hu2)
      clear hu2
      go_wp2_with fail
      go_ret
      exact ⟨rfl, U2.out⟩
    have d0 : decide ((200 : Int) < (pn : Int)) = false := by simp; omega
    have d0' : decide ((pn : Int) > 200) = false := by simp; omega
    by_cases h201 : 200 < qn
    · have d1 : decide ((200 : Int) < (qn : Int)) = true := by simp; omega
      have d1' : decide ((qn : Int) > 200) = true := by simp; omega
      clear h201
      go_wp2_with fail
      refine (wakes13_any w1 E1.out).mono ?_
      rintro e w2 ⟨rfl, hu2⟩
      have U2 := hide (U1.out.trans hu2)
      clear hu2
      go_wp2_with fail
      go_ret
      exact ⟨rfl, U2.out⟩
    have d1 : decide ((200 : Int) < (qn : Int)) = false := by simp; omega
    have d1' : decide ((qn : Int) > 200) = false := by simp; omega
    go_wp2_with fail
    refine (anew_any w1).mono ?_
    rintro e w2 ⟨⟨pa, rfl, ha2⟩, hu2⟩
    have A2 := hide ha2; have U2 := hide (U1.out.trans hu2)
    have hs1 := U1.out.size; have hs2 := hu2.size
    clear ha2 hu2 d0 d0' d1 d1'
    go_wp2_with fail
    refine (run_any (T := T) (k := 0) w2 (Around.old ENV.out CR.out U2.out hs1) SM.out (PickAt.old SP.out U2.out hs1) (by omega) (Nat.le_refl _) A2.out ApOk.zero (by decide)).mono ?_
    rintro e w3 ⟨⟨g3, rfl, hg3, -⟩, ha3, ht3⟩
    have hok3 := order_ok (l := l) (ps := ps) (a := ap0) (k := 0) (d := List.replicate l.length dn0) HF.out (by omega) ApOk.zero
    obtain ⟨a1, ha1⟩ : ∃ a1, (runD l ap0 (orderM l ps) 0 (List.replicate l.length dn0)).1 = a1 := ⟨_, rfl⟩
    obtain ⟨t1, t2⟩ := twice_says (qs := qs) ha1
    rw [ha1] at ha3 hok3
    rw [Nat.zero_add] at hok3
    have A3 := hide ha3; have U3 := hide (ht3.upd_new U2.out hs1); have OK3 := hide hok3; have T1 := hide t1; have T2 := hide t2
    have hs3 := ht3.size
    clear ha3 ht3 hok3 t1 t2 ha1 A2 U2
    go_wp2_with fail
    refine (acopy_any w3 A3.out OK3.out (by omega)).mono ?_
    rintro e w4 ⟨⟨pb, rfl, hb4⟩, hu4⟩
    have A4 := hide (A3.out.upd_nil hu4); have U4 := hide (U3.out.trans hu4); have B4 := hide hb4
    have hs4 := hu4.size
    clear hb4 hu4 A3 U3
    go_wp2_with fail
    refine (run_any (T := T) (k := l.length) w4 (Around.old ENV.out CR.out U4.out hs1) SM.out (PickAt.old SQ.out U4.out hs1) (by omega) (by omega) A4.out OK3.out (by omega)).mono ?_
    rintro e w5 ⟨⟨g, rfl, hg5, hblk⟩, ha5, ht5⟩
    rw [T1.out] at ha5
    obtain ⟨ds, hds⟩ : ∃ ds, (runD l a1 (orderM l qs) 0 (List.replicate l.length dn0)).2 = ds := ⟨_, rfl⟩
    have t2 := T2.out
    rw [hds] at hblk t2
    have A5 := hide ha5; have U5 := hide (ht5.upd_new U4.out hs1); have B5 := hide (B4.out.keep ht5 (.inr (by omega))); have BK := hide hblk; have FR := hide t2
    clear ha5 ht5 hblk t2 hds A4 U4 B4 T1 T2
    go_wp2_with fail
    go_loop [10] (fun si => ∃ i : Nat, i ≤ l.length ∧ si = .int .i64 i) (fun si => l.length - (RowKit.intOf si).toNat)
    case atStart => exact ⟨0, by omega, rfl⟩
    case round =>
      obtain ⟨i, hi, rfl⟩ := hrel
      by_cases hlt : i < l.length
      · have d7 : decide ((i : Int) < l.length) = true := by simp; omega
        have d7' : decide (i < l.length) = true := by simpa using hlt
        obtain ⟨d, hd, hdf⟩ := FR.out i hlt
        have c0 : w5.cell? ⟨g, i * 5 + 1, none⟩ = some (.string (strOf d.r.text)) := blk_cell BK.out (by simpa using dncs_get _ _ _ _ _ hd (by rfl))
        have c2 : w5.cell? ⟨g, i * 5 + 2, none⟩ = some (.bool false) := by
          have h7 : w5.cell? ⟨g, i * 5 + 2, none⟩ = some (.bool d.fresh) := blk_cell BK.out (by simpa using dncs_get _ _ _ _ _ hd (by rfl))
          rw [h7, hdf]
        clear hd hdf
        go_wp2_with fail
        go_round
        case rel => exact ⟨i + 1, by omega, by go_num⟩
        case measure => simp [RowKit.intOf]; omega
      · have d7 : decide ((i : Int) < l.length) = false := by simp; omega
        have d7' : decide (i < l.length) = false := by simpa using hlt
        have hie : i = l.length := by omega
        subst hie
        go_wp2_with fail
        refine (asame_any w5 A5.out B5.out OK3.out (by omega)).mono ?_
        rintro e w6 ⟨rfl, hu6⟩
        have U6 := hide (U5.out.trans hu6)
        clear hu6
        have q1 : ((l.length : Int) == (l.length : Int)) = true := by simp
        go_wp2_with fail
        refine (wakes13_any w6 (ENV.out.upd_nil U6.out)).mono ?_
        rintro e w7 ⟨rfl, hu7⟩
        have U7 := hide (U6.out.trans hu7)
        clear hu7
        go_wp2_with fail
        go_ret
        exact ⟨rfl, U7.out⟩
end Go.Proofs.YteeepelmkfiocaaGreatDoor.Kv
