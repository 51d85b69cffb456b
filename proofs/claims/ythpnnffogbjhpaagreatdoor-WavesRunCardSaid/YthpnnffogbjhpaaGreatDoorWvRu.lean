/- The law WavesRun, walked. -/
import Derived.Test.YthpnnffogbjhpaaGreatDoorR13c
import Derived.Test.YthpnnffogbjhpaaGreatDoorWvRR
import Derived.Test.YthpnnffogbjhpaaGreatDoorWvDE
import Derived.Test.YthpnnffogbjhpaaGreatDoorKvPure
import Derived.Test.YthpnnffogbjhpaaGreatDoorWvA
import Derived.Test.YthpnnffogbjhpaaGreatDoorR11a
import Derived.Test.YthpnnffogbjhpaaGreatDoorApFo
import Derived.Test.YthpnnffogbjhpaaGreatDoorKvWH
import Derived.Test.YthpnnffogbjhpaaGreatDoorKvTU
import Derived.Test.YthpnnffogbjhpaaGreatDoorKvGH
import Derived.Test.YthpnnffogbjhpaaGreatDoorGenAll
set_option linter.unusedSimpArgs false
set_option linter.unusedVariables false
set_option linter.unnecessarySimpa false
namespace Go.Proofs.YthpnnffogbjhpaaGreatDoor.Kv
set_option linter.unusedSimpArgs false
set_option linter.unusedVariables false
set_option linter.unnecessarySimpa false
open Go.RowKit Go.Lib Go.Proofs.YthpnnffogbjhpaaGreatDoor.Crc Go.Proofs.YthpnnffogbjhpaaGreatDoor.Cm

theorem ApOk.up' {a : Ap} {k : Nat} (h : ApOk a k) : ApRise a := ⟨h.kv.1, h.rise⟩
theorem fits_all {w : World} {T : Nat → Prop} {v : Value} {l : List Cm} (h : cmK.row w T v l) : ∀ c ∈ l, c.client < 4294967296 ∧ c.seq < 4294967296 := fun c hc => by
  obtain ⟨xo, cp, rfl, -, -, hg⟩ := cm_get h
  obtain ⟨i, hi⟩ := List.getElem?_of_mem hc
  obtain ⟨_, _, _, _, -, -, -, fit, -⟩ := hg i c hi
  exact ⟨fit.1, fit.2.1⟩
theorem dn_cells {w : World} {g i : Nat} {ds : List Dn} {d : Dn} (h : w.heap[g]? = some (.cells (dncs ds).toArray TDone (0, 0))) (hd : ds[i]? = some d) : w.cell? ⟨g, i * 5, none⟩ = some (.int .u8 (d.r.code : Int)) ∧ w.cell? ⟨g, i * 5 + 1, none⟩ = some (.string (strOf d.r.text)) ∧
    w.cell? ⟨g, i * 5 + 2, none⟩ = some (.bool d.fresh) ∧ w.cell? ⟨g, i * 5 + 3, none⟩ = some (.int .i64 (d.wave : Int)) ∧ w.cell? ⟨g, i * 5 + 4, none⟩ = some (.int .i64 (d.turn : Int)) := by
  refine ⟨blk_cell h ?_, blk_cell h ?_, blk_cell h ?_, blk_cell h ?_, blk_cell h ?_⟩
  · simpa using dncs_get ds i 0 d _ hd rfl
  · simpa using dncs_get ds i 1 d _ hd rfl
  · simpa using dncs_get ds i 2 d _ hd rfl
  · simpa using dncs_get ds i 3 d _ hd rfl
  · simpa using dncs_get ds i 4 d _ hd rfl
theorem rp_cells {w : World} {g i : Nat} {ds : List Dn} {d : Dn} (h : w.heap[g]? = some (.cells (rpcs ds).toArray TRp (0, 0))) (hd : ds[i]? = some d) : w.cell? ⟨g, i * 2, none⟩ = some (.int .u8 (d.r.code : Int)) ∧ w.cell? ⟨g, i * 2 + 1, none⟩ = some (.string (strOf d.r.text)) := by
  obtain ⟨h1, h2⟩ := rpcs_get ds i d hd
  exact ⟨blk_cell h (by simpa using h1), blk_cell h (by simpa using h2)⟩
theorem src_none {w : World} (n : Nat) : SrcAt w none 0 0 (([] : List Int).map pV) 1 := ⟨rfl, by simp, fun _ => ⟨rfl, rfl⟩, fun a e => by cases e⟩
theorem fr_cell {w : World} {g i : Nat} {ds : List Dn} {d : Dn} (h : w.heap[g]? = some (.cells (frs ds).toArray TBo (0, 0))) (hd : ds[i]? = some d) : w.cell? ⟨g, i, none⟩ = some (.bool d.fresh) := blk_cell h (by simp [frs, hd])
theorem tu_cell {w : World} {g i : Nat} {ds : List Dn} {d : Dn} (h : w.heap[g]? = some (.cells (tus ds).toArray TInt (0, 0))) (hd : ds[i]? = some d) : w.cell? ⟨g, i, none⟩ = some (.int .i64 (d.turn : Int)) := blk_cell h (by simp [tus, hd])
set_option maxRecDepth 100000 in
set_option maxHeartbeats 16000000 in
theorem wrun_any {T0 T : Nat → Prop} {v0 v : Value} {l0 l : List Cm} {po : Option Addr} {pn pc : Nat} {ps : List Int} (w : World) (he : EnvAt w) (h0 : cmK.row w T0 v0 l0) (h : cmK.row w T v l)
    (hp : SrcAt w po pn pc (ps.map pV) 1) (hpm : pn ≤ pc) (hpx : pc ≤ maxLen) :
    Calls Tryz.prog 5 #[v0, v, .slice po pn pc] w fun e w' => e = .returned (.bool true) ∧ Upd [] w w' := by
  have CR0 := hide h0; have CR := hide h; have ENV := hide he; have SP := hide hp; have HF := hide (fits_all h)
  obtain ⟨yo, yp, rfl, y1, y2, -⟩ := cm_get h0
  obtain ⟨xo, cp, rfl, h1, h2, -⟩ := cm_get h
  simp only [maxLen] at h2 hpx y2
  clear h0 h he hp
  go_enter Tryz.func5, Tryz.ntmps5
  go_wp2_with fail
  refine (great_any w CR0.out).mono ?_
  rintro e w1 ⟨hu1, r0, rfl, hr0⟩
  have U1 := hide hu1; have R0 := hide hr0; have E1 := hide (ENV.out.upd_nil hu1)
  clear hu1 hr0
  cases r0 with
  | true =>
    go_wp2_with fail
    refine (wakes13_any _ E1.out).mono ?_
    rintro e wz ⟨rfl, huz⟩
    have U2 := hide (U1.out.trans huz)
    clear huz
    go_wp2_with fail
    go_ret
    exact ⟨rfl, U2.out⟩
  | false =>
    have hsm0 := R0.out rfl
    have SM0 := hide hsm0
    have hl0 := hsm0.1
    clear R0 hsm0
    go_wp2_with fail
    refine (great_any w1 (Kind.row_upd_nil CR.out U1.out)).mono ?_
    rintro e wb ⟨hu1, r0, rfl, hr0⟩
    have U1' := hide (U1.out.trans hu1); have R0 := hide hr0
    clear hu1 hr0 U1 E1
    have U1 := U1'
    clear U1'
    have E1 := hide (ENV.out.upd_nil U1.out)
    cases r0 with
    | true =>
      go_wp2_with fail
      refine (wakes13_any _ E1.out).mono ?_
      rintro e wz ⟨rfl, huz⟩
      have U2 := hide (U1.out.trans huz)
      clear huz
      go_wp2_with fail
      go_ret
      exact ⟨rfl, U2.out⟩
    | false =>
      have hsm := R0.out rfl
      have SM := hide hsm
      have hl100 := hsm.1
      have htop : topM (wavesM l) ≤ 100 := by have := topM_le hsm.2; omega
      clear R0 hsm
      by_cases h200 : 200 < pn
      · have d0 : decide ((200 : Int) < (pn : Int)) = true := by simp; omega
        have d0' : decide ((pn : Int) > 200) = true := by simp; omega
        clear h200
        go_wp2_with fail
        refine (wakes13_any _ E1.out).mono ?_
        rintro e wz ⟨rfl, huz⟩
        have U2 := hide (U1.out.trans huz)
        clear huz
        go_wp2_with fail
        go_ret
        exact ⟨rfl, U2.out⟩
      have d0 : decide ((200 : Int) < (pn : Int)) = false := by simp; omega
      have d0' : decide ((pn : Int) > 200) = false := by simp; omega
      go_wp2_with fail
      refine (fold_any (T := T0) wb E1.out (Kind.row_upd_nil CR0.out U1.out) hl0).mono ?_
      rintro e w2 ⟨⟨lo1, hi1, pa, rfl, ha2, hlo1, hhi1⟩, hok2, hu2⟩
      have A2 := hide ha2; have U2 := hide (U1.out.trans hu2); have OK2 := hide hok2
      have hs1 := U1.out.size; have hs2 := hu2.size
      clear ha2 hu2 hok2 d0 d0'
      go_wp2_with fail
      refine (fold_any (T := T0) w2 (ENV.out.upd_nil U2.out) (Kind.row_upd_nil CR0.out U2.out) hl0).mono ?_
      rintro e w3 ⟨⟨lo2, hi2, pb, rfl, hb3, hlo2, hhi2⟩, -, hu3⟩
      have A3 := hide (A2.out.upd_nil hu3); have B3 := hide hb3; have U3 := hide (U2.out.trans hu3)
      have hs3 := hu3.size
      clear hb3 hu3 A2 U2
      go_wp2_with fail
      refine (rfold_any (T := T0) w3 (Kind.row_upd_nil CR0.out U3.out) SM0.out).mono ?_
      rintro e w4 ⟨⟨vp, vl, rfl, hpr, hla⟩, hu4⟩
      obtain ⟨x0, hx0⟩ : ∃ x0, foldA l0 = x0 := ⟨_, rfl⟩
      rw [hx0] at A3 B3 OK2 hpr hla ⊢
      obtain ⟨xpo, xpc, rfl, -, -⟩ := Row.slice hpr
      obtain ⟨xmo, xmc, rfl, -, -⟩ := Row.slice hla
      go_upto_region 5 with fail
      have hb5 := blk_new w4 (.cells #[.slice xpo x0.m.length xpc, .slice xmo x0.t.length xmc, .int .u64 (x0.n : Int)] TRa)
      have hu5 := (Upd.refl [] w4).alloc (.cells #[.slice xpo x0.m.length xpc, .slice xmo x0.t.length xmc, .int .u64 (x0.n : Int)] TRa)
      change Code.wp _ _ _ _ (w4.alloc (.cells #[.slice xpo x0.m.length xpc, .slice xmo x0.t.length xmc, .int .u64 (x0.n : Int)] TRa))
      generalize w4.alloc (.cells #[.slice xpo x0.m.length xpc, .slice xmo x0.t.length xmc, .int .u64 (x0.n : Int)] TRa) = w5 at *
      obtain ⟨X, hX⟩ : ∃ x, w4.heap.size = x := ⟨_, rfl⟩
      obtain ⟨G, hG⟩ : ∃ x, w3.heap.size = x := ⟨_, rfl⟩
      rw [hX] at hb5 ⊢
      rw [hG] at hpr hla
      have hs4 := hu4.size; have hs5 := hu5.size; have hbx := blk_lt hb5
      have hGX : G ≤ X := by omega
      have hiG : hi2 ≤ G := by omega
      have h1G : hi1 ≤ G := by omega
      have h12 : hi1 ≤ lo2 := by omega
      have X5 := hide hb5; have U5 := hide ((U3.out.trans hu4).trans hu5); have A5 := hide ((A3.out.upd_nil hu4).upd_nil hu5); have B5 := hide ((B3.out.upd_nil hu4).upd_nil hu5)
      have P5 := hide (pairK.row_mono (pairK.row_upd_nil hpr hu5) (since_mono' hu5.size)); have L5 := hide (laK.row_mono (laK.row_upd_nil hla hu5) (since_mono' hu5.size))
      clear hx0 hpr hla hb5 hu5 hu4 hX hG A3 B3 U3
      go_wp2_with fail
      refine (rwaves_any w5 (Kind.row_upd_nil CR.out U5.out) SM.out).mono ?_
      rintro e wa ⟨⟨wo, wcap, rfl, how⟩, hu6⟩
      have hs6 := hu6.size
      have WS := hide (IntsAt.own how); have Ua := hide (U5.out.trans hu6); have Aa := hide (A5.out.upd_nil hu6); have Ba := hide (B5.out.upd_nil hu6)
      have XBa := hide (hu6.get X5.out (by simp)); have PRa := hide (pairK.row_mono (pairK.row_upd_nil P5.out hu6) (since_mono' hu6.size)); have LRa := hide (laK.row_mono (laK.row_upd_nil L5.out hu6) (since_mono' hu6.size))
      have CRa := hide (Kind.row_upd_nil CR.out Ua.out); have SPa := hide (srcS_upd SP.out Ua.out (by simp))
      clear how hu6 X5 U5 A5 B5 P5 L5
      obtain ⟨k, hk⟩ : ∃ k, l0.length = k := ⟨_, rfl⟩
      rw [hk] at OK2 hl0
      have OKa := OK2
      have hka := hl0
      obtain ⟨a', ds, hrd⟩ : ∃ a' ds, runD l x0 (orderM l ps) 0 (List.replicate l.length dn0) = (a', ds) := ⟨_, _, rfl⟩
      obtain ⟨a2, ds2, hrd2⟩ : ∃ a' ds, runD l x0 (orderM l []) 0 (List.replicate l.length dn0) = (a', ds) := ⟨_, _, rfl⟩
      have hsame := runD_same (l := l) (ps := ps) (qs := []) OKa.out.up'
      rw [hrd, hrd2] at hsame
      simp only at hsame
      subst hsame
      have hdl : ds.length = l.length := by have := runD_len l (orderM l ps) x0 0 (List.replicate l.length dn0); rw [hrd] at this; simpa using this
      have hdl2 : ds2.length = l.length := by have := runD_len l (orderM l []) x0 0 (List.replicate l.length dn0); rw [hrd2] at this; simpa using this
      have hwv : ∀ (i : Nat) (d : Dn), i < l.length → ds[i]? = some d → (wavesM l)[i]? = some d.wave := fun i d hi hd => runD_wave (ps := ps) OKa.out.up' hi (by rw [hrd]; exact hd)
      have hrp : ∀ (i : Nat) (d e : Dn), i < l.length → ds[i]? = some d → ds2[i]? = some e → d.r = e.r := fun i d e hi hd he => runD_reply (ps := ps) (qs := []) OKa.out.up' hi (by rw [hrd]; exact hd) (by rw [hrd2]; exact he)
      have hokn : ApOk a' (k + l.length) := by
        have h5 := runM_ok HF.out ((orderM l ps).map (·.1)) x0 k OKa.out (by rw [List.length_map, orderM_len]; omega)
        rw [List.length_map, orderM_len, ← runD_ap l (orderM l ps) x0 0 (List.replicate l.length dn0), hrd] at h5
        exact h5
      have HRD := hide hrd; have HRD2 := hide hrd2; have HWV := hide hwv; have HRP := hide hrp; have OKn := hide hokn
      have HTL := hide (show G ≤ wa.heap.size by omega)
      clear hrd hrd2 hwv hrp hokn hk
      go_upto_region 6 with fail
      go_cut [11, 12, 13, 14] (fun s1 s2 s3 s4 wx => Ran wa G l.length a' ds s1 s2 s3 s4 wx)
      case first =>
        as_aux_lemma =>
        refine wp_region_z (fun wx => Upd [] wa wx) 99 (by kernel_rfl) ?_
        have s0 : Upd [] wa (wa.drewN 1) := (Upd.refl _ _).drewN 1
        have Vwa := hide s0
        refine zE 0 rfl (by kernel_rfl) (fun _ _ _ _ h => h) rfl (by exact s0) ?_
        apply Exists.intro
        refine ⟨fun wx hS => ?_, ?_⟩
        · obtain ⟨k0, k1, k2⟩ := cell3 (hS.get XBa.out (by simp)); go_simp; rfl
        simp only [Act.put, List.setIfInBounds_toArray, List.set_cons_succ, List.set_cons_zero, List.getElem_toArray, List.getElem_cons_zero]
        refine zE 1 rfl (by kernel_rfl) (fun _ _ _ _ h => h) rfl (by exact s0) ?_
        apply Exists.intro
        refine ⟨fun wx hS => ?_, ?_⟩
        · go_simp; rfl
        simp only [Act.put, zz1, zz2, zz3, zz4, zz5, zz6]
        refine zE 2 rfl (by kernel_rfl) (fun _ _ _ _ h => h) rfl (by exact s0) ?_
        apply Exists.intro
        refine ⟨fun wx hS => ?_, ?_⟩
        · go_simp; rfl
        simp only [Act.put, zz1, zz2, zz3, zz4, zz5, zz6]
        refine zE 3 rfl (by kernel_rfl) (fun _ _ _ _ h => h) rfl (by exact s0) ?_
        apply Exists.intro
        refine ⟨fun wx hS => ?_, ?_⟩
        · go_simp; rfl
        simp only [Act.put, zz1, zz2, zz3, zz4, zz5, zz6]
        obtain ⟨w5, hw5⟩ : ∃ x, wa.drewN 1 = x := ⟨_, rfl⟩
        rw [hw5] at s0 Vwa ⊢
        have Vw5 := Vwa
        clear hw5 s0 Vwa
        refine wpAnyZ_two 4 11 (by kernel_rfl) rfl rfl rfl rfl (fun K hK => ?_) (fun K hK => ?_)
        · try simp only [List.getElem_toArray, List.getElem_cons_succ, List.getElem_cons_zero]
          go_simp
          have hda := rorder_any (ps := ps) w5 (Kind.row_upd_nil CRa.out Vw5.out) SM.out (srcS_upd SPa.out Vw5.out (by simp)) (by omega) htop
          refine hda.mono ?_
          rintro e x1 ⟨⟨oo, oc, rfl, hoo⟩, hu⟩
          have Vx1 := hide (Vw5.out.trans hu)
          have IOx1 := hide ((IntsAt.own hoo).low (Nat.zero_le _))
          have Lx1 := hide hu.size
          clear hda hoo hu
          refine hK _ _ (.inr Vx1.out) ?_
          clear hK K
          try simp only [Act.put, zz1, zz2, zz3]
          refine wpAnyZ_two 5 11 (by kernel_rfl) rfl rfl rfl rfl (fun K hK => ?_) (fun K hK => ?_)
          · try simp only [List.getElem_toArray, List.getElem_cons_succ, List.getElem_cons_zero]
            go_simp
            have hda := rrun_any (T := T) (v := .slice xo l.length cp) (qs := orderM l ps) (oo := oo) (oc := oc) (k := k) (Tp := since G wa) x1 (Kind.row_upd_nil CRa.out Vx1.out) SM.out (fun q hq => orderM_lt hq) (by rw [orderM_len]; exact hl100) (by rw [orderM_len]; exact IOx1.out) (pairK.row_upd_nil PRa.out Vx1.out) (laK.row_upd_nil LRa.out Vx1.out) OKa.out hka (fun j hj => by have := hj.2; have := Vx1.out.size; omega)
            rw [orderM_len, HRD.out] at hda
            have HDA := hide hda
            clear hda
            refine HDA.out.mono ?_
            rintro e x2 ⟨⟨vq, vm, R7, F7, M7, rfl, hq, hm, hr, hf, ht, hgr, hgf, hgm⟩, hu⟩
            obtain ⟨qo, qc, rfl, -, -⟩ := Row.slice hq
            obtain ⟨mo2, mc2, rfl, -, -⟩ := Row.slice hm
            simp only at hq hm hr hf ht
            have Vx2 := hide (Vx1.out.trans hu)
            have Cx2 := hide (Upd.refl ([] : List Nat) x2)
            have HQ := hide hq; have HM := hide hm; have HR := hide hr; have HF := hide hf; have HT := hide ht; have Lx2 := hide hu.size
            have hbr := hide (blk_lt hr); have hbf := hide (blk_lt hf); have hbt := hide (blk_lt ht); have HGR := hide hgr; have HGF := hide hgf; have HGM := hide hgm
            clear hq hm hr hf ht hu hgr hgf hgm HDA
            refine hK _ _ (.inr Vx2.out) ?_
            clear hK K
            try simp only [Act.put, zz1, zz2, zz3]
            refine zE 6 rfl (by kernel_rfl) (fun _ _ _ _ h => h) rfl (by exact Vx2.out) ?_
            apply Exists.intro
            refine ⟨fun wx hS => ?_, ?_⟩
            · go_simp; rfl
            simp only [Act.put, zz1, zz2, zz3, zz4, zz5, zz6]
            refine zE 7 rfl (by kernel_rfl) (fun _ _ _ _ h => h) rfl (by exact Vx2.out) ?_
            apply Exists.intro
            refine ⟨fun wx hS => ?_, ?_⟩
            · go_simp; rfl
            simp only [Act.put, zz1, zz2, zz3, zz4, zz5, zz6]
            refine zE 8 rfl (by kernel_rfl) (fun _ _ _ _ h => h) rfl (by exact Vx2.out) ?_
            apply Exists.intro
            refine ⟨fun wx hS => ?_, ?_⟩
            · go_simp; rfl
            simp only [Act.put, zz1, zz2, zz3, zz4, zz5, zz6]
            refine zE 9 rfl (by kernel_rfl) (fun _ _ _ _ h => h) rfl (by exact Vx2.out) ?_
            apply Exists.intro
            refine ⟨fun wx hS => ?_, ?_⟩
            · go_simp; rfl
            simp only [Act.put, zz1, zz2, zz3, zz4, zz5, zz6]
            refine zE 10 rfl (by kernel_rfl) (fun _ _ _ _ h => h) rfl (by exact Vx2.out) ?_
            apply Exists.intro
            refine ⟨fun wx hS => ?_, ?_⟩
            · go_simp; rfl
            simp only [Act.put, zz1, zz2, zz3, zz4, zz5, zz6]
            refine wpAnyZ_one 11 (by kernel_rfl) rfl rfl (fun K hK => ?_)
            try simp only [List.getElem_toArray, List.getElem_cons_succ, List.getElem_cons_zero]
            try simp only [List.getElem_toArray, List.getElem_cons_succ, List.getElem_cons_zero]
            go_simp
            have hN := blk_new x2 (.cells #[.slice none 0 0, .slice none 0 0, .int .u64 0] TRa)
            have hu := (Upd.refl [] x2).alloc (.cells #[.slice none 0 0, .slice none 0 0, .int .u64 0] TRa)
            have hs : (x2.alloc (.cells #[.slice none 0 0, .slice none 0 0, .int .u64 0] TRa)).heap.size = x2.heap.size + 1 := by simp
            generalize x2.alloc (.cells #[.slice none 0 0, .slice none 0 0, .int .u64 0] TRa) = x3 at *
            have Vx3 := hide (Vx2.out.trans hu)
            have Cx3 := hide (Cx2.out.trans (hu.mono (by simp)))
            obtain ⟨B7, hB⟩ : ∃ x, x2.heap.size = x := ⟨_, rfl⟩
            have KB7 := hide hB
            rw [hB] at hN hs ⊢
            have Nx3 := hide hN
            have SB7 := hide hs
            clear hN hu hs hB
            refine hK _ _ (.inr Vx3.out) ?_
            clear hK K
            try simp only [Act.put, zz1, zz2, zz3]
            refine wpAnyZ_one 12 (by kernel_rfl) rfl rfl (fun K hK => ?_)
            try simp only [List.getElem_toArray, List.getElem_cons_succ, List.getElem_cons_zero]
            try simp only [List.getElem_toArray, List.getElem_cons_succ, List.getElem_cons_zero]
            obtain ⟨z0, z1, z2, z3, z4, z5, zz⟩ := res_facts33 Nx3.out
            have ZZ := hide zz
            clear zz
            go_simp
            obtain ⟨e1, e3⟩ := ZZ.out (.slice qo a'.m.length qc) (.slice mo2 a'.t.length mc2) (.int .u64 (a'.n : Int))
            clear z0 z1 z2 z3 z4 z5 ZZ
            generalize (((x3.setCell ⟨B7, 0, none⟩ (.slice qo a'.m.length qc)).setCell ⟨B7, 1, none⟩ (.slice mo2 a'.t.length mc2)).setCell ⟨B7, 2, none⟩ (.int .u64 (a'.n : Int))) = x4 at e1 e3 ⊢
            have g7 : wa.heap.size ≤ B7 := by have := KB7.out; have := Vx2.out.size; omega
            have Vx4 := hide (Vx3.out.trans_new e3 (fun k hk => .inr (by simp at hk; omega)))
            have Cx4 := hide ((Cx3.out.mono (by simp)).trans (e3.mono (by simp)) : Upd [B7] _ _)
            have Nx4 := hide e1
            clear e1 e3
            refine hK _ _ (.inr Vx4.out) ?_
            clear hK K
            try simp only [Act.put, zz1, zz2, zz3]
            refine wpAnyZ_one 13 (by kernel_rfl) rfl rfl (fun K hK => ?_)
            try simp only [List.getElem_toArray, List.getElem_cons_succ, List.getElem_cons_zero]
            go_simp
            refine hK _ _ (.inr Vx4.out) ?_
            clear hK K
            try simp only [Act.put, zz1, zz2, zz3]
            refine wpAnyZ_one 14 (by kernel_rfl) rfl rfl (fun K hK => ?_)
            try simp only [List.getElem_toArray, List.getElem_cons_succ, List.getElem_cons_zero]
            go_simp
            refine hK _ _ (.inr Vx4.out) ?_
            clear hK K
            try simp only [Act.put, zz1, zz2, zz3]
            refine wpAnyZ_one 15 (by kernel_rfl) rfl rfl (fun K hK => ?_)
            try simp only [List.getElem_toArray, List.getElem_cons_succ, List.getElem_cons_zero]
            go_simp
            refine hK _ _ (.inr Vx4.out) ?_
            clear hK K
            try simp only [Act.put, zz1, zz2, zz3]
            refine wpAnyZ_done (by kernel_rfl) ?_ _
            go_wp2_with fail
            go_meet
            have k7 := KB7.out; have s7 := SB7.out; have h1 := hbr.out; have h2 := hbf.out; have h3 := hbt.out; have hp := Vx1.out.size
            have := Lx1.out
            have := Lx2.out
            exact Ran.mk Nx4.out g7 Vx4.out Cx4.out HQ.out HM.out HTL.out Vx1.out.size (by omega) HR.out HF.out HT.out HGR.out HGF.out HGM.out
          · try simp only [List.getElem_toArray, List.getElem_cons_succ, List.getElem_cons_zero]
            go_simp
            have hN := blk_new x1 (.cells #[.slice none 0 0, .slice none 0 0, .int .u64 0] TRa)
            have hu := (Upd.refl [] x1).alloc (.cells #[.slice none 0 0, .slice none 0 0, .int .u64 0] TRa)
            have hs : (x1.alloc (.cells #[.slice none 0 0, .slice none 0 0, .int .u64 0] TRa)).heap.size = x1.heap.size + 1 := by simp
            generalize x1.alloc (.cells #[.slice none 0 0, .slice none 0 0, .int .u64 0] TRa) = x5 at *
            have Vx5 := hide (Vx1.out.trans hu)
            have IOx5 := hide (IOx1.out.upd hu (by simp))
            obtain ⟨B7, hB⟩ : ∃ x, x1.heap.size = x := ⟨_, rfl⟩
            have KB7 := hide hB
            rw [hB] at hN hs ⊢
            have Nx5 := hide hN
            have SB7 := hide hs
            clear hN hu hs hB
            refine hK _ _ (.inr Vx5.out) ?_
            clear hK K
            try simp only [Act.put, zz1, zz2, zz3]
            refine wpAnyZ_one 5 (by kernel_rfl) rfl rfl (fun K hK => ?_)
            try simp only [List.getElem_toArray, List.getElem_cons_succ, List.getElem_cons_zero]
            try simp only [List.getElem_toArray, List.getElem_cons_succ, List.getElem_cons_zero]
            go_simp
            have hda := rrun_any (T := T) (v := .slice xo l.length cp) (qs := orderM l ps) (oo := oo) (oc := oc) (k := k) (Tp := since G wa) x5 (Kind.row_upd_nil CRa.out Vx5.out) SM.out (fun q hq => orderM_lt hq) (by rw [orderM_len]; exact hl100) (by rw [orderM_len]; exact IOx5.out) (pairK.row_upd_nil PRa.out Vx5.out) (laK.row_upd_nil LRa.out Vx5.out) OKa.out hka (fun j hj => by have := hj.2; have := Vx5.out.size; omega)
            rw [orderM_len, HRD.out] at hda
            have HDA := hide hda
            clear hda
            refine HDA.out.mono ?_
            rintro e x6 ⟨⟨vq, vm, R7, F7, M7, rfl, hq, hm, hr, hf, ht, hgr, hgf, hgm⟩, hu⟩
            obtain ⟨qo, qc, rfl, -, -⟩ := Row.slice hq
            obtain ⟨mo2, mc2, rfl, -, -⟩ := Row.slice hm
            simp only at hq hm hr hf ht
            have Vx6 := hide (Vx5.out.trans hu)
            have Cx6 := hide (Upd.refl ([] : List Nat) x6)
            have HQ := hide hq; have HM := hide hm; have HR := hide hr; have HF := hide hf; have HT := hide ht; have Lx6 := hide hu.size
            have hbr := hide (blk_lt hr); have hbf := hide (blk_lt hf); have hbt := hide (blk_lt ht); have HGR := hide hgr; have HGF := hide hgf; have HGM := hide hgm
            have Nx6 := hide (hu.get Nx5.out (by simp))
            clear hq hm hr hf ht hu hgr hgf hgm HDA
            refine hK _ _ (.inr Vx6.out) ?_
            clear hK K
            try simp only [Act.put, zz1, zz2, zz3]
            refine zE 6 rfl (by kernel_rfl) (fun _ _ _ _ h => h) rfl (by exact Vx6.out) ?_
            apply Exists.intro
            refine ⟨fun wx hS => ?_, ?_⟩
            · go_simp; rfl
            simp only [Act.put, zz1, zz2, zz3, zz4, zz5, zz6]
            refine zE 7 rfl (by kernel_rfl) (fun _ _ _ _ h => h) rfl (by exact Vx6.out) ?_
            apply Exists.intro
            refine ⟨fun wx hS => ?_, ?_⟩
            · go_simp; rfl
            simp only [Act.put, zz1, zz2, zz3, zz4, zz5, zz6]
            refine zE 8 rfl (by kernel_rfl) (fun _ _ _ _ h => h) rfl (by exact Vx6.out) ?_
            apply Exists.intro
            refine ⟨fun wx hS => ?_, ?_⟩
            · go_simp; rfl
            simp only [Act.put, zz1, zz2, zz3, zz4, zz5, zz6]
            refine zE 9 rfl (by kernel_rfl) (fun _ _ _ _ h => h) rfl (by exact Vx6.out) ?_
            apply Exists.intro
            refine ⟨fun wx hS => ?_, ?_⟩
            · go_simp; rfl
            simp only [Act.put, zz1, zz2, zz3, zz4, zz5, zz6]
            refine zE 10 rfl (by kernel_rfl) (fun _ _ _ _ h => h) rfl (by exact Vx6.out) ?_
            apply Exists.intro
            refine ⟨fun wx hS => ?_, ?_⟩
            · go_simp; rfl
            simp only [Act.put, zz1, zz2, zz3, zz4, zz5, zz6]
            refine wpAnyZ_one 12 (by kernel_rfl) rfl rfl (fun K hK => ?_)
            try simp only [List.getElem_toArray, List.getElem_cons_succ, List.getElem_cons_zero]
            try simp only [List.getElem_toArray, List.getElem_cons_succ, List.getElem_cons_zero]
            obtain ⟨z0, z1, z2, z3, z4, z5, zz⟩ := res_facts33 Nx6.out
            have ZZ := hide zz
            clear zz
            go_simp
            obtain ⟨e1, e3⟩ := ZZ.out (.slice qo a'.m.length qc) (.slice mo2 a'.t.length mc2) (.int .u64 (a'.n : Int))
            clear z0 z1 z2 z3 z4 z5 ZZ
            generalize (((x6.setCell ⟨B7, 0, none⟩ (.slice qo a'.m.length qc)).setCell ⟨B7, 1, none⟩ (.slice mo2 a'.t.length mc2)).setCell ⟨B7, 2, none⟩ (.int .u64 (a'.n : Int))) = x7 at e1 e3 ⊢
            have g7 : wa.heap.size ≤ B7 := by have := KB7.out; have := Vx1.out.size; omega
            have Vx7 := hide (Vx6.out.trans_new e3 (fun k hk => .inr (by simp at hk; omega)))
            have Cx7 := hide ((Cx6.out.mono (by simp)).trans (e3.mono (by simp)) : Upd [B7] _ _)
            have Nx7 := hide e1
            clear e1 e3
            refine hK _ _ (.inr Vx7.out) ?_
            clear hK K
            try simp only [Act.put, zz1, zz2, zz3]
            refine wpAnyZ_one 13 (by kernel_rfl) rfl rfl (fun K hK => ?_)
            try simp only [List.getElem_toArray, List.getElem_cons_succ, List.getElem_cons_zero]
            go_simp
            refine hK _ _ (.inr Vx7.out) ?_
            clear hK K
            try simp only [Act.put, zz1, zz2, zz3]
            refine wpAnyZ_one 14 (by kernel_rfl) rfl rfl (fun K hK => ?_)
            try simp only [List.getElem_toArray, List.getElem_cons_succ, List.getElem_cons_zero]
            go_simp
            refine hK _ _ (.inr Vx7.out) ?_
            clear hK K
            try simp only [Act.put, zz1, zz2, zz3]
            refine wpAnyZ_one 15 (by kernel_rfl) rfl rfl (fun K hK => ?_)
            try simp only [List.getElem_toArray, List.getElem_cons_succ, List.getElem_cons_zero]
            go_simp
            refine hK _ _ (.inr Vx7.out) ?_
            clear hK K
            try simp only [Act.put, zz1, zz2, zz3]
            refine wpAnyZ_done (by kernel_rfl) ?_ _
            go_wp2_with fail
            go_meet
            have k7 := KB7.out; have s7 := SB7.out; have h1 := hbr.out; have h2 := hbf.out; have h3 := hbt.out; have hp := Vx5.out.size
            have := Lx1.out
            have := Lx6.out
            exact Ran.mk Nx7.out g7 Vx7.out Cx7.out HQ.out HM.out HTL.out Vx5.out.size (by omega) HR.out HF.out HT.out HGR.out HGF.out HGM.out
        · try simp only [List.getElem_toArray, List.getElem_cons_succ, List.getElem_cons_zero]
          go_simp
          have hN := blk_new w5 (.cells #[.slice none 0 0, .slice none 0 0, .int .u64 0] TRa)
          have hu := (Upd.refl [] w5).alloc (.cells #[.slice none 0 0, .slice none 0 0, .int .u64 0] TRa)
          have hs : (w5.alloc (.cells #[.slice none 0 0, .slice none 0 0, .int .u64 0] TRa)).heap.size = w5.heap.size + 1 := by simp
          generalize w5.alloc (.cells #[.slice none 0 0, .slice none 0 0, .int .u64 0] TRa) = x8 at *
          have Vx8 := hide (Vw5.out.trans hu)
          obtain ⟨B7, hB⟩ : ∃ x, w5.heap.size = x := ⟨_, rfl⟩
          have KB7 := hide hB
          rw [hB] at hN hs ⊢
          have Nx8 := hide hN
          have SB7 := hide hs
          clear hN hu hs hB
          refine hK _ _ (.inr Vx8.out) ?_
          clear hK K
          try simp only [Act.put, zz1, zz2, zz3]
          refine wpAnyZ_one 4 (by kernel_rfl) rfl rfl (fun K hK => ?_)
          try simp only [List.getElem_toArray, List.getElem_cons_succ, List.getElem_cons_zero]
          try simp only [List.getElem_toArray, List.getElem_cons_succ, List.getElem_cons_zero]
          go_simp
          have hda := rorder_any (ps := ps) x8 (Kind.row_upd_nil CRa.out Vx8.out) SM.out (srcS_upd SPa.out Vx8.out (by simp)) (by omega) htop
          refine hda.mono ?_
          rintro e x9 ⟨⟨oo, oc, rfl, hoo⟩, hu⟩
          have Vx9 := hide (Vx8.out.trans hu)
          have IOx9 := hide ((IntsAt.own hoo).low (Nat.zero_le _))
          have Lx9 := hide hu.size
          have Nx9 := hide (hu.get Nx8.out (by simp))
          clear hda hoo hu
          refine hK _ _ (.inr Vx9.out) ?_
          clear hK K
          try simp only [Act.put, zz1, zz2, zz3]
          refine wpAnyZ_one 5 (by kernel_rfl) rfl rfl (fun K hK => ?_)
          try simp only [List.getElem_toArray, List.getElem_cons_succ, List.getElem_cons_zero]
          try simp only [List.getElem_toArray, List.getElem_cons_succ, List.getElem_cons_zero]
          go_simp
          have hda := rrun_any (T := T) (v := .slice xo l.length cp) (qs := orderM l ps) (oo := oo) (oc := oc) (k := k) (Tp := since G wa) x9 (Kind.row_upd_nil CRa.out Vx9.out) SM.out (fun q hq => orderM_lt hq) (by rw [orderM_len]; exact hl100) (by rw [orderM_len]; exact IOx9.out) (pairK.row_upd_nil PRa.out Vx9.out) (laK.row_upd_nil LRa.out Vx9.out) OKa.out hka (fun j hj => by have := hj.2; have := Vx9.out.size; omega)
          rw [orderM_len, HRD.out] at hda
          have HDA := hide hda
          clear hda
          refine HDA.out.mono ?_
          rintro e x10 ⟨⟨vq, vm, R7, F7, M7, rfl, hq, hm, hr, hf, ht, hgr, hgf, hgm⟩, hu⟩
          obtain ⟨qo, qc, rfl, -, -⟩ := Row.slice hq
          obtain ⟨mo2, mc2, rfl, -, -⟩ := Row.slice hm
          simp only at hq hm hr hf ht
          have Vx10 := hide (Vx9.out.trans hu)
          have Cx10 := hide (Upd.refl ([] : List Nat) x10)
          have HQ := hide hq; have HM := hide hm; have HR := hide hr; have HF := hide hf; have HT := hide ht; have Lx10 := hide hu.size
          have hbr := hide (blk_lt hr); have hbf := hide (blk_lt hf); have hbt := hide (blk_lt ht); have HGR := hide hgr; have HGF := hide hgf; have HGM := hide hgm
          have Nx10 := hide (hu.get Nx9.out (by simp))
          clear hq hm hr hf ht hu hgr hgf hgm HDA
          refine hK _ _ (.inr Vx10.out) ?_
          clear hK K
          try simp only [Act.put, zz1, zz2, zz3]
          refine zE 6 rfl (by kernel_rfl) (fun _ _ _ _ h => h) rfl (by exact Vx10.out) ?_
          apply Exists.intro
          refine ⟨fun wx hS => ?_, ?_⟩
          · go_simp; rfl
          simp only [Act.put, zz1, zz2, zz3, zz4, zz5, zz6]
          refine zE 7 rfl (by kernel_rfl) (fun _ _ _ _ h => h) rfl (by exact Vx10.out) ?_
          apply Exists.intro
          refine ⟨fun wx hS => ?_, ?_⟩
          · go_simp; rfl
          simp only [Act.put, zz1, zz2, zz3, zz4, zz5, zz6]
          refine zE 8 rfl (by kernel_rfl) (fun _ _ _ _ h => h) rfl (by exact Vx10.out) ?_
          apply Exists.intro
          refine ⟨fun wx hS => ?_, ?_⟩
          · go_simp; rfl
          simp only [Act.put, zz1, zz2, zz3, zz4, zz5, zz6]
          refine zE 9 rfl (by kernel_rfl) (fun _ _ _ _ h => h) rfl (by exact Vx10.out) ?_
          apply Exists.intro
          refine ⟨fun wx hS => ?_, ?_⟩
          · go_simp; rfl
          simp only [Act.put, zz1, zz2, zz3, zz4, zz5, zz6]
          refine zE 10 rfl (by kernel_rfl) (fun _ _ _ _ h => h) rfl (by exact Vx10.out) ?_
          apply Exists.intro
          refine ⟨fun wx hS => ?_, ?_⟩
          · go_simp; rfl
          simp only [Act.put, zz1, zz2, zz3, zz4, zz5, zz6]
          refine wpAnyZ_one 12 (by kernel_rfl) rfl rfl (fun K hK => ?_)
          try simp only [List.getElem_toArray, List.getElem_cons_succ, List.getElem_cons_zero]
          try simp only [List.getElem_toArray, List.getElem_cons_succ, List.getElem_cons_zero]
          obtain ⟨z0, z1, z2, z3, z4, z5, zz⟩ := res_facts33 Nx10.out
          have ZZ := hide zz
          clear zz
          go_simp
          obtain ⟨e1, e3⟩ := ZZ.out (.slice qo a'.m.length qc) (.slice mo2 a'.t.length mc2) (.int .u64 (a'.n : Int))
          clear z0 z1 z2 z3 z4 z5 ZZ
          generalize (((x10.setCell ⟨B7, 0, none⟩ (.slice qo a'.m.length qc)).setCell ⟨B7, 1, none⟩ (.slice mo2 a'.t.length mc2)).setCell ⟨B7, 2, none⟩ (.int .u64 (a'.n : Int))) = x11 at e1 e3 ⊢
          have g7 : wa.heap.size ≤ B7 := by have := KB7.out; have := Vw5.out.size; omega
          have Vx11 := hide (Vx10.out.trans_new e3 (fun k hk => .inr (by simp at hk; omega)))
          have Cx11 := hide ((Cx10.out.mono (by simp)).trans (e3.mono (by simp)) : Upd [B7] _ _)
          have Nx11 := hide e1
          clear e1 e3
          refine hK _ _ (.inr Vx11.out) ?_
          clear hK K
          try simp only [Act.put, zz1, zz2, zz3]
          refine wpAnyZ_one 13 (by kernel_rfl) rfl rfl (fun K hK => ?_)
          try simp only [List.getElem_toArray, List.getElem_cons_succ, List.getElem_cons_zero]
          go_simp
          refine hK _ _ (.inr Vx11.out) ?_
          clear hK K
          try simp only [Act.put, zz1, zz2, zz3]
          refine wpAnyZ_one 14 (by kernel_rfl) rfl rfl (fun K hK => ?_)
          try simp only [List.getElem_toArray, List.getElem_cons_succ, List.getElem_cons_zero]
          go_simp
          refine hK _ _ (.inr Vx11.out) ?_
          clear hK K
          try simp only [Act.put, zz1, zz2, zz3]
          refine wpAnyZ_one 15 (by kernel_rfl) rfl rfl (fun K hK => ?_)
          try simp only [List.getElem_toArray, List.getElem_cons_succ, List.getElem_cons_zero]
          go_simp
          refine hK _ _ (.inr Vx11.out) ?_
          clear hK K
          try simp only [Act.put, zz1, zz2, zz3]
          refine wpAnyZ_done (by kernel_rfl) ?_ _
          go_wp2_with fail
          go_meet
          have k7 := KB7.out; have s7 := SB7.out; have h1 := hbr.out; have h2 := hbf.out; have h3 := hbt.out; have hp := Vx9.out.size
          have := Lx9.out
          have := Lx10.out
          exact Ran.mk Nx11.out g7 Vx11.out Cx11.out HQ.out HM.out HTL.out Vx9.out.size (by omega) HR.out HF.out HT.out HGR.out HGF.out HGM.out
      case rest =>
      obtain ⟨BN, R1, F1, M1, np, nl, rfl, rfl, rfl, rfl, hb7, hg7, hu7, hp7, hl7, hr7, hf7, hm7, gr7, gf7, gm7⟩ := hcut
      obtain ⟨npo, npc, rfl, -, -⟩ := Row.slice hp7
      obtain ⟨nmo, nmc, rfl, -, -⟩ := Row.slice hl7
      have hs7 := hu7.size; have htl := HTL.out
      have Uc := hide (Ua.out.trans hu7); have Ac := hide (Aa.out.upd_nil hu7)
      have Bc := hide (Ba.out.upd_nil hu7)
      have KN := hide hb7; have KP := hide hp7; have KL := hide hl7; have KR := hide hr7; have KF := hide hf7; have KM := hide hm7
      have XBc := hide (hu7.get XBa.out (by simp)); have PRc := hide (pairK.row_mono (pairK.row_upd_nil PRa.out hu7) (since_mono' hu7.size)); have LRc := hide (laK.row_mono (laK.row_upd_nil LRa.out hu7) (since_mono' hu7.size)); have WSc := hide (WS.out.upd hu7 (by simp))
      have hbw := hide (fun a e hn => WS.out.blk_lt a e hn)
      clear hb7 hu7 hp7 hl7 hr7 hf7 hm7 Aa Ba XBa PRa LRa CRa SPa HTL Ua WS
      go_wp2_with fail
      refine (run_any (T := T) (k := k) wc (Around.old ENV.out CR.out Uc.out (by omega)) SM.out (PickAt.old SP.out Uc.out (by omega)) (by omega) (by omega) Ac.out OKa.out (by omega)).mono ?_
      rw [HRD.out]
      rintro e w8 ⟨⟨g, rfl, hg8, hblk⟩, ha8, ht8⟩
      simp only at hblk ha8
      have hs8 := ht8.size
      have HT8 := ht8
      obtain ⟨ST, hST, hUT⟩ := ht8
      have nG : ∀ j ∈ ST, ¬ since G wc j := fun j hj hs => by have := hST j hj; have := hs.1; omega
      have nS : ∀ j, hi1 ≤ j → j ∉ ST := fun j hj hm => by have := hST j hm; omega
      have A8 := hide ha8; have B8 := hide (Bc.out.keep HT8 (.inr (by omega))); have U8 := hide (HT8.upd_new Uc.out (by omega))
      have GB := hide hblk
      have N8 := hide (hUT.get KN.out (nS _ (by omega))); have R8 := hide (hUT.get KR.out (nS _ (by omega))); have F8 := hide (hUT.get KF.out (nS _ (by omega))); have M8 := hide (hUT.get KM.out (nS _ (by omega))); have X8 := hide (hUT.get XBc.out (nS _ (by omega)))
      have NP8 := hide (pairK.row_mono (pairK.row_upd KP.out hUT nG) (since_mono' hUT.size)); have NL8 := hide (laK.row_mono (laK.row_upd KL.out hUT nG) (since_mono' hUT.size))
      have PR8 := hide (pairK.row_mono (pairK.row_upd PRc.out hUT nG) (since_mono' hUT.size)); have LR8 := hide (laK.row_mono (laK.row_upd LRc.out hUT nG) (since_mono' hUT.size))
      have WS8 := hide (WSc.out.updF hUT (fun a e hn hm => by have := WSc.out.lo a e; have := hST _ hm; omega))
      clear hblk ha8 hUT hST HT8 nG nS Ac Bc Uc KN KP KL KR KF KM XBc PRc LRc WSc hbw
      have q0 : ((l.length : Int) != (l.length : Int)) = false := by simp
      go_wp2_with fail
      go_loopw [16] (fun si wr => ∃ i : Nat, i ≤ l.length ∧ si = .int .i64 i ∧ Upd [] w8 wr) (fun si _ => l.length - (RowKit.intOf si).toNat)
      case atStart => exact ⟨0, by omega, rfl, Upd.refl _ _⟩
      case round =>
        obtain ⟨i, hi, rfl, hu⟩ := hrel
        have HU := hide hu
        clear hu
        by_cases hlt : i < l.length
        · have d5 : decide ((i : Int) < l.length) = true := by simp; omega
          have d5' : decide (i < l.length) = true := by simpa using hlt
          obtain ⟨d, hd⟩ : ∃ d, ds[i]? = some d := ⟨_, List.getElem?_eq_getElem (by omega)⟩
          obtain ⟨ad, rfl, hcw⟩ := (WS8.out.upd HU.out (by simp)).get (HWV.out i d hlt hd)
          have HD := hide hd
          have CW := hide (show ∀ wx, Upd [] wr wx → wx.cell? (ad.add i) = some (.int .i64 (d.wave : Int)) from fun wx hS => by
            obtain ⟨a3, e3, h3⟩ := (WS8.out.upd (HU.out.trans hS) (by simp)).get (HWV.out i d hlt HD.out)
            cases e3
            exact h3)
          clear hd hcw
          go_wp2_with fail
          refine wp_region_z (fun wx => Upd [] wr wx) 99 (by kernel_rfl) ?_
          have s0 : Upd [] wr (wr.drewN 1) := (Upd.refl _ _).drewN 1
          refine zE 0 rfl (by kernel_rfl) (fun _ _ _ _ h => h) rfl (by exact s0) ?_
          apply Exists.intro
          refine ⟨fun wx hS => ?_, ?_⟩
          · go_simp; rfl
          simp only [Act.put, List.setIfInBounds_toArray, List.set_cons_succ, List.set_cons_zero, List.getElem_toArray, List.getElem_cons_zero]
          refine zE 1 rfl (by kernel_rfl) (fun _ _ _ _ h => h) rfl (by exact s0) ?_
          apply Exists.intro
          refine ⟨fun wx hS => ?_, ?_⟩
          · go_simp; rfl
          simp only [Act.put, zz1, zz2, zz3, zz4, zz5, zz6]
          refine zE 2 rfl (by kernel_rfl) (fun _ _ _ _ h => h) rfl (by exact s0) ?_
          apply Exists.intro
          refine ⟨fun wx hS => ?_, ?_⟩
          · go_simp; rfl
          simp only [Act.put, zz1, zz2, zz3, zz4, zz5, zz6]
          refine zE 3 rfl (by kernel_rfl) (fun _ _ _ _ h => h) rfl (by exact s0) ?_
          apply Exists.intro
          refine ⟨fun wx hS => ?_, ?_⟩
          · obtain ⟨c0, c1, c2, c3, c4⟩ := dn_cells ((HU.out.trans hS).get GB.out (by simp)) HD.out; go_simp; rfl
          simp only [Act.put, zz1, zz2, zz3, zz4, zz5, zz6]
          refine zE 4 rfl (by kernel_rfl) (fun _ _ _ _ h => h) rfl (by exact s0) ?_
          apply Exists.intro
          refine ⟨fun wx hS => ?_, ?_⟩
          · go_simp; rfl
          simp only [Act.put, zz1, zz2, zz3, zz4, zz5, zz6]
          refine zE 5 rfl (by kernel_rfl) (fun _ _ _ _ h => h) rfl (by exact s0) ?_
          apply Exists.intro
          refine ⟨fun wx hS => ?_, ?_⟩
          · go_simp; rfl
          simp only [Act.put, zz1, zz2, zz3, zz4, zz5, zz6]
          refine zE 6 rfl (by kernel_rfl) (fun _ _ _ _ h => h) rfl (by exact s0) ?_
          apply Exists.intro
          refine ⟨fun wx hS => ?_, ?_⟩
          · go_simp; rfl
          simp only [Act.put, zz1, zz2, zz3, zz4, zz5, zz6]
          refine zE 7 rfl (by kernel_rfl) (fun _ _ _ _ h => h) rfl (by exact s0) ?_
          apply Exists.intro
          refine ⟨fun wx hS => ?_, ?_⟩
          · obtain ⟨c0, c1⟩ := rp_cells ((HU.out.trans hS).get R8.out (by simp)) HD.out; go_simp; rfl
          simp only [Act.put, zz1, zz2, zz3, zz4, zz5, zz6]
          refine zE 8 rfl (by kernel_rfl) (fun _ _ _ _ h => h) rfl (by exact s0) ?_
          apply Exists.intro
          refine ⟨fun wx hS => ?_, ?_⟩
          · go_simp; rfl
          simp only [Act.put, zz1, zz2, zz3, zz4, zz5, zz6]
          refine zE 9 rfl (by kernel_rfl) (fun _ _ _ _ h => h) rfl (by exact s0) ?_
          apply Exists.intro
          refine ⟨fun wx hS => ?_, ?_⟩
          · go_simp; rfl
          simp only [Act.put, zz1, zz2, zz3, zz4, zz5, zz6]
          refine zE 10 rfl (by kernel_rfl) (fun _ _ _ _ h => h) rfl (by exact s0) ?_
          apply Exists.intro
          refine ⟨fun wx hS => ?_, ?_⟩
          · go_simp; rfl
          simp only [Act.put, zz1, zz2, zz3, zz4, zz5, zz6]
          refine zE 11 rfl (by kernel_rfl) (fun _ _ _ _ h => h) rfl (by exact s0) ?_
          apply Exists.intro
          refine ⟨fun wx hS => ?_, ?_⟩
          · have c0 := fr_cell ((HU.out.trans hS).get F8.out (by simp)) HD.out; go_simp; rfl
          simp only [Act.put, zz1, zz2, zz3, zz4, zz5, zz6]
          refine zE 12 rfl (by kernel_rfl) (fun _ _ _ _ h => h) rfl (by exact s0) ?_
          apply Exists.intro
          refine ⟨fun wx hS => ?_, ?_⟩
          · go_simp; rfl
          simp only [Act.put, zz1, zz2, zz3, zz4, zz5, zz6]
          refine zE 13 rfl (by kernel_rfl) (fun _ _ _ _ h => h) rfl (by exact s0) ?_
          apply Exists.intro
          refine ⟨fun wx hS => ?_, ?_⟩
          · go_simp; rfl
          simp only [Act.put, zz1, zz2, zz3, zz4, zz5, zz6]
          refine zE 14 rfl (by kernel_rfl) (fun _ _ _ _ h => h) rfl (by exact s0) ?_
          apply Exists.intro
          refine ⟨fun wx hS => ?_, ?_⟩
          · go_simp; rfl
          simp only [Act.put, zz1, zz2, zz3, zz4, zz5, zz6]
          refine zE 15 rfl (by kernel_rfl) (fun _ _ _ _ h => h) rfl (by exact s0) ?_
          apply Exists.intro
          refine ⟨fun wx hS => ?_, ?_⟩
          · have c0 := CW.out wx hS; go_simp; rfl
          simp only [Act.put, zz1, zz2, zz3, zz4, zz5, zz6]
          refine zE 16 rfl (by kernel_rfl) (fun _ _ _ _ h => h) rfl (by exact s0) ?_
          apply Exists.intro
          refine ⟨fun wx hS => ?_, ?_⟩
          · go_simp; rfl
          simp only [Act.put, zz1, zz2, zz3, zz4, zz5, zz6]
          refine zE 17 rfl (by kernel_rfl) (fun _ _ _ _ h => h) rfl (by exact s0) ?_
          apply Exists.intro
          refine ⟨fun wx hS => ?_, ?_⟩
          · go_simp; rfl
          simp only [Act.put, zz1, zz2, zz3, zz4, zz5, zz6]
          refine zE 18 rfl (by kernel_rfl) (fun _ _ _ _ h => h) rfl (by exact s0) ?_
          apply Exists.intro
          refine ⟨fun wx hS => ?_, ?_⟩
          · go_simp; rfl
          simp only [Act.put, zz1, zz2, zz3, zz4, zz5, zz6]
          refine zE 19 rfl (by kernel_rfl) (fun _ _ _ _ h => h) rfl (by exact s0) ?_
          apply Exists.intro
          refine ⟨fun wx hS => ?_, ?_⟩
          · have c0 := tu_cell ((HU.out.trans hS).get M8.out (by simp)) HD.out; go_simp; rfl
          simp only [Act.put, zz1, zz2, zz3, zz4, zz5, zz6]
          refine zE 20 rfl (by kernel_rfl) (fun _ _ _ _ h => h) rfl (by exact s0) ?_
          apply Exists.intro
          refine ⟨fun wx hS => ?_, ?_⟩
          · go_simp; rfl
          simp only [Act.put, zz1, zz2, zz3, zz4, zz5, zz6]
          refine zE 21 rfl (by kernel_rfl) (fun _ _ _ _ h => h) rfl (by exact s0) ?_
          apply Exists.intro
          refine ⟨fun wx hS => ?_, ?_⟩
          · have c0 := neq_dn d wx; go_simp; rfl
          simp only [Act.put, zz1, zz2, zz3, zz4, zz5, zz6]
          refine wpAnyZ_done (by kernel_rfl) ?_ _
          have HU2 := hide (HU.out.trans s0)
          clear s0 CW
          go_wp2_with fail
          go_roundw
          case rel => exact ⟨i + 1, by omega, by go_num, HU2.out⟩
          case measure => simp [RowKit.intOf]; omega
        · have d5 : decide ((i : Int) < l.length) = false := by simp; omega
          have d5' : decide (i < l.length) = false := by simpa using hlt
          have hsr := HU.out.size
          have Ar := hide (A8.out.upd_nil HU.out); have Br := hide (B8.out.upd_nil HU.out); have Ur := hide (U8.out.trans HU.out)
          have Nr := hide (HU.out.get N8.out (by simp)); have Rr := hide (HU.out.get R8.out (by simp)); have Xr := hide (HU.out.get X8.out (by simp))
          have NPr := hide (pairK.row_mono (pairK.row_upd_nil NP8.out HU.out) (since_mono' HU.out.size)); have NLr := hide (laK.row_mono (laK.row_upd_nil NL8.out HU.out) (since_mono' HU.out.size))
          have PRr := hide (pairK.row_mono (pairK.row_upd_nil PR8.out HU.out) (since_mono' HU.out.size)); have LRr := hide (laK.row_mono (laK.row_upd_nil LR8.out HU.out) (since_mono' HU.out.size))
          clear hlt HU A8 B8 U8 N8 R8 F8 M8 X8 NP8 NL8 PR8 LR8 WS8 GB
          go_wp2_with fail
          refine (runn_any (T := T) (k := k) wr (Around.old ENV.out CR.out Ur.out (by omega)) SM.out (by omega) Br.out OKa.out (by omega)).mono ?_
          rw [HRD2.out]
          rintro e w9 ⟨⟨g2, rfl, hg9, hblk⟩, hb9, ht9⟩
          simp only at hblk hb9
          have hs9 := ht9.size
          have HT9 := ht9
          obtain ⟨ST, hST, hUT⟩ := ht9
          have nG : ∀ j ∈ ST, ¬ since G wr j := fun j hj hs => by have := hST j hj; have := hs.1; omega
          have nS : ∀ j, hi2 ≤ j → j ∉ ST := fun j hj hm => by have := hST j hm; omega
          have B9 := hide hb9; have A9 := hide (Ar.out.keep HT9 (.inl (by omega))); have U9 := hide (HT9.upd_new Ur.out (by omega))
          have GB2 := hide hblk
          have N9 := hide (hUT.get Nr.out (nS _ (by omega))); have R9 := hide (hUT.get Rr.out (nS _ (by omega))); have X9 := hide (hUT.get Xr.out (nS _ (by omega)))
          have NP9 := hide (pairK.row_mono (pairK.row_upd NPr.out hUT nG) (since_mono' hUT.size)); have NL9 := hide (laK.row_mono (laK.row_upd NLr.out hUT nG) (since_mono' hUT.size))
          have PR9 := hide (pairK.row_mono (pairK.row_upd PRr.out hUT nG) (since_mono' hUT.size)); have LR9 := hide (laK.row_mono (laK.row_upd LRr.out hUT nG) (since_mono' hUT.size))
          clear hblk hb9 hUT hST HT9 nG nS Ar Br Ur Nr Rr Xr NPr NLr PRr LRr
          obtain ⟨wa, hwa⟩ : ∃ x, w9 = x := ⟨_, rfl⟩
          have XBa := hide (show wa.heap[X]? = _ from hwa ▸ X9.out)
          have PRa := hide (show pairK.row wa (since G wa) _ x0.m from hwa ▸ PR9.out)
          have LRa := hide (show laK.row wa (since G wa) _ x0.t from hwa ▸ LR9.out)
          have CRa := hide (Kind.row_upd_nil CR.out (show Upd [] w wa from hwa ▸ U9.out))
          have HTL := hide (show G ≤ wa.heap.size by rw [← hwa]; omega)
          rw [hwa]
          rw [hwa] at A9 B9 U9 GB2 N9 R9 NP9 NL9 hs9
          have HRD1 := HRD
          clear HRD
          have HRD := HRD2
          clear hwa X9 PR9 LR9
          go_upto_region 16 with fail
          go_cut [18, 19, 20, 21] (fun s1 s2 s3 s4 wx => Ran wa G l.length a' ds2 s1 s2 s3 s4 wx)
          case first =>
            as_aux_lemma =>
            refine wp_region_z (fun wx => Upd [] wa wx) 99 (by kernel_rfl) ?_
            have s0 : Upd [] wa (wa.drewN 1) := (Upd.refl _ _).drewN 1
            have Vwa := hide s0
            refine zE 0 rfl (by kernel_rfl) (fun _ _ _ _ h => h) rfl (by exact s0) ?_
            apply Exists.intro
            refine ⟨fun wx hS => ?_, ?_⟩
            · obtain ⟨k0, k1, k2⟩ := cell3 (hS.get XBa.out (by simp)); go_simp; rfl
            simp only [Act.put, List.setIfInBounds_toArray, List.set_cons_succ, List.set_cons_zero, List.getElem_toArray, List.getElem_cons_zero]
            refine zE 1 rfl (by kernel_rfl) (fun _ _ _ _ h => h) rfl (by exact s0) ?_
            apply Exists.intro
            refine ⟨fun wx hS => ?_, ?_⟩
            · go_simp; rfl
            simp only [Act.put, zz1, zz2, zz3, zz4, zz5, zz6]
            refine zE 2 rfl (by kernel_rfl) (fun _ _ _ _ h => h) rfl (by exact s0) ?_
            apply Exists.intro
            refine ⟨fun wx hS => ?_, ?_⟩
            · go_simp; rfl
            simp only [Act.put, zz1, zz2, zz3, zz4, zz5, zz6]
            obtain ⟨w5, hw5⟩ : ∃ x, wa.drewN 1 = x := ⟨_, rfl⟩
            rw [hw5] at s0 Vwa ⊢
            have Vw5 := Vwa
            clear hw5 s0 Vwa
            refine wpAnyZ_two 3 10 (by kernel_rfl) rfl rfl rfl rfl (fun K hK => ?_) (fun K hK => ?_)
            · try simp only [List.getElem_toArray, List.getElem_cons_succ, List.getElem_cons_zero]
              go_simp
              have hda := rorder_any (ps := []) w5 (Kind.row_upd_nil CRa.out Vw5.out) SM.out (src_none w5.heap.size) (by omega) htop
              refine hda.mono ?_
              rintro e x1 ⟨⟨oo, oc, rfl, hoo⟩, hu⟩
              have Vx1 := hide (Vw5.out.trans hu)
              have IOx1 := hide ((IntsAt.own hoo).low (Nat.zero_le _))
              have Lx1 := hide hu.size
              clear hda hoo hu
              refine hK _ _ (.inr Vx1.out) ?_
              clear hK K
              try simp only [Act.put, zz1, zz2, zz3]
              refine wpAnyZ_two 4 10 (by kernel_rfl) rfl rfl rfl rfl (fun K hK => ?_) (fun K hK => ?_)
              · try simp only [List.getElem_toArray, List.getElem_cons_succ, List.getElem_cons_zero]
                go_simp
                have hda := rrun_any (T := T) (v := .slice xo l.length cp) (qs := orderM l []) (oo := oo) (oc := oc) (k := k) (Tp := since G wa) x1 (Kind.row_upd_nil CRa.out Vx1.out) SM.out (fun q hq => orderM_lt hq) (by rw [orderM_len]; exact hl100) (by rw [orderM_len]; exact IOx1.out) (pairK.row_upd_nil PRa.out Vx1.out) (laK.row_upd_nil LRa.out Vx1.out) OKa.out hka (fun j hj => by have := hj.2; have := Vx1.out.size; omega)
                rw [orderM_len, HRD.out] at hda
                have HDA := hide hda
                clear hda
                refine HDA.out.mono ?_
                rintro e x2 ⟨⟨vq, vm, R7, F7, M7, rfl, hq, hm, hr, hf, ht, hgr, hgf, hgm⟩, hu⟩
                obtain ⟨qo, qc, rfl, -, -⟩ := Row.slice hq
                obtain ⟨mo2, mc2, rfl, -, -⟩ := Row.slice hm
                simp only at hq hm hr hf ht
                have Vx2 := hide (Vx1.out.trans hu)
                have Cx2 := hide (Upd.refl ([] : List Nat) x2)
                have HQ := hide hq; have HM := hide hm; have HR := hide hr; have HF := hide hf; have HT := hide ht; have Lx2 := hide hu.size
                have hbr := hide (blk_lt hr); have hbf := hide (blk_lt hf); have hbt := hide (blk_lt ht); have HGR := hide hgr; have HGF := hide hgf; have HGM := hide hgm
                clear hq hm hr hf ht hu hgr hgf hgm HDA
                refine hK _ _ (.inr Vx2.out) ?_
                clear hK K
                try simp only [Act.put, zz1, zz2, zz3]
                refine zE 5 rfl (by kernel_rfl) (fun _ _ _ _ h => h) rfl (by exact Vx2.out) ?_
                apply Exists.intro
                refine ⟨fun wx hS => ?_, ?_⟩
                · go_simp; rfl
                simp only [Act.put, zz1, zz2, zz3, zz4, zz5, zz6]
                refine zE 6 rfl (by kernel_rfl) (fun _ _ _ _ h => h) rfl (by exact Vx2.out) ?_
                apply Exists.intro
                refine ⟨fun wx hS => ?_, ?_⟩
                · go_simp; rfl
                simp only [Act.put, zz1, zz2, zz3, zz4, zz5, zz6]
                refine zE 7 rfl (by kernel_rfl) (fun _ _ _ _ h => h) rfl (by exact Vx2.out) ?_
                apply Exists.intro
                refine ⟨fun wx hS => ?_, ?_⟩
                · go_simp; rfl
                simp only [Act.put, zz1, zz2, zz3, zz4, zz5, zz6]
                refine zE 8 rfl (by kernel_rfl) (fun _ _ _ _ h => h) rfl (by exact Vx2.out) ?_
                apply Exists.intro
                refine ⟨fun wx hS => ?_, ?_⟩
                · go_simp; rfl
                simp only [Act.put, zz1, zz2, zz3, zz4, zz5, zz6]
                refine zE 9 rfl (by kernel_rfl) (fun _ _ _ _ h => h) rfl (by exact Vx2.out) ?_
                apply Exists.intro
                refine ⟨fun wx hS => ?_, ?_⟩
                · go_simp; rfl
                simp only [Act.put, zz1, zz2, zz3, zz4, zz5, zz6]
                refine wpAnyZ_one 10 (by kernel_rfl) rfl rfl (fun K hK => ?_)
                try simp only [List.getElem_toArray, List.getElem_cons_succ, List.getElem_cons_zero]
                try simp only [List.getElem_toArray, List.getElem_cons_succ, List.getElem_cons_zero]
                go_simp
                have hN := blk_new x2 (.cells #[.slice none 0 0, .slice none 0 0, .int .u64 0] TRa)
                have hu := (Upd.refl [] x2).alloc (.cells #[.slice none 0 0, .slice none 0 0, .int .u64 0] TRa)
                have hs : (x2.alloc (.cells #[.slice none 0 0, .slice none 0 0, .int .u64 0] TRa)).heap.size = x2.heap.size + 1 := by simp
                generalize x2.alloc (.cells #[.slice none 0 0, .slice none 0 0, .int .u64 0] TRa) = x3 at *
                have Vx3 := hide (Vx2.out.trans hu)
                have Cx3 := hide (Cx2.out.trans (hu.mono (by simp)))
                obtain ⟨B7, hB⟩ : ∃ x, x2.heap.size = x := ⟨_, rfl⟩
                have KB7 := hide hB
                rw [hB] at hN hs ⊢
                have Nx3 := hide hN
                have SB7 := hide hs
                clear hN hu hs hB
                refine hK _ _ (.inr Vx3.out) ?_
                clear hK K
                try simp only [Act.put, zz1, zz2, zz3]
                refine wpAnyZ_one 11 (by kernel_rfl) rfl rfl (fun K hK => ?_)
                try simp only [List.getElem_toArray, List.getElem_cons_succ, List.getElem_cons_zero]
                try simp only [List.getElem_toArray, List.getElem_cons_succ, List.getElem_cons_zero]
                obtain ⟨z0, z1, z2, z3, z4, z5, zz⟩ := res_facts33 Nx3.out
                have ZZ := hide zz
                clear zz
                go_simp
                obtain ⟨e1, e3⟩ := ZZ.out (.slice qo a'.m.length qc) (.slice mo2 a'.t.length mc2) (.int .u64 (a'.n : Int))
                clear z0 z1 z2 z3 z4 z5 ZZ
                generalize (((x3.setCell ⟨B7, 0, none⟩ (.slice qo a'.m.length qc)).setCell ⟨B7, 1, none⟩ (.slice mo2 a'.t.length mc2)).setCell ⟨B7, 2, none⟩ (.int .u64 (a'.n : Int))) = x4 at e1 e3 ⊢
                have g7 : wa.heap.size ≤ B7 := by have := KB7.out; have := Vx2.out.size; omega
                have Vx4 := hide (Vx3.out.trans_new e3 (fun k hk => .inr (by simp at hk; omega)))
                have Cx4 := hide ((Cx3.out.mono (by simp)).trans (e3.mono (by simp)) : Upd [B7] _ _)
                have Nx4 := hide e1
                clear e1 e3
                refine hK _ _ (.inr Vx4.out) ?_
                clear hK K
                try simp only [Act.put, zz1, zz2, zz3]
                refine wpAnyZ_one 12 (by kernel_rfl) rfl rfl (fun K hK => ?_)
                try simp only [List.getElem_toArray, List.getElem_cons_succ, List.getElem_cons_zero]
                go_simp
                refine hK _ _ (.inr Vx4.out) ?_
                clear hK K
                try simp only [Act.put, zz1, zz2, zz3]
                refine wpAnyZ_one 13 (by kernel_rfl) rfl rfl (fun K hK => ?_)
                try simp only [List.getElem_toArray, List.getElem_cons_succ, List.getElem_cons_zero]
                go_simp
                refine hK _ _ (.inr Vx4.out) ?_
                clear hK K
                try simp only [Act.put, zz1, zz2, zz3]
                refine wpAnyZ_one 14 (by kernel_rfl) rfl rfl (fun K hK => ?_)
                try simp only [List.getElem_toArray, List.getElem_cons_succ, List.getElem_cons_zero]
                go_simp
                refine hK _ _ (.inr Vx4.out) ?_
                clear hK K
                try simp only [Act.put, zz1, zz2, zz3]
                refine wpAnyZ_done (by kernel_rfl) ?_ _
                go_wp2_with fail
                go_meet
                have k7 := KB7.out; have s7 := SB7.out; have h1 := hbr.out; have h2 := hbf.out; have h3 := hbt.out; have hp := Vx1.out.size
                have := Lx1.out
                have := Lx2.out
                exact Ran.mk Nx4.out g7 Vx4.out Cx4.out HQ.out HM.out HTL.out Vx1.out.size (by omega) HR.out HF.out HT.out HGR.out HGF.out HGM.out
              · try simp only [List.getElem_toArray, List.getElem_cons_succ, List.getElem_cons_zero]
                go_simp
                have hN := blk_new x1 (.cells #[.slice none 0 0, .slice none 0 0, .int .u64 0] TRa)
                have hu := (Upd.refl [] x1).alloc (.cells #[.slice none 0 0, .slice none 0 0, .int .u64 0] TRa)
                have hs : (x1.alloc (.cells #[.slice none 0 0, .slice none 0 0, .int .u64 0] TRa)).heap.size = x1.heap.size + 1 := by simp
                generalize x1.alloc (.cells #[.slice none 0 0, .slice none 0 0, .int .u64 0] TRa) = x5 at *
                have Vx5 := hide (Vx1.out.trans hu)
                have IOx5 := hide (IOx1.out.upd hu (by simp))
                obtain ⟨B7, hB⟩ : ∃ x, x1.heap.size = x := ⟨_, rfl⟩
                have KB7 := hide hB
                rw [hB] at hN hs ⊢
                have Nx5 := hide hN
                have SB7 := hide hs
                clear hN hu hs hB
                refine hK _ _ (.inr Vx5.out) ?_
                clear hK K
                try simp only [Act.put, zz1, zz2, zz3]
                refine wpAnyZ_one 4 (by kernel_rfl) rfl rfl (fun K hK => ?_)
                try simp only [List.getElem_toArray, List.getElem_cons_succ, List.getElem_cons_zero]
                try simp only [List.getElem_toArray, List.getElem_cons_succ, List.getElem_cons_zero]
                go_simp
                have hda := rrun_any (T := T) (v := .slice xo l.length cp) (qs := orderM l []) (oo := oo) (oc := oc) (k := k) (Tp := since G wa) x5 (Kind.row_upd_nil CRa.out Vx5.out) SM.out (fun q hq => orderM_lt hq) (by rw [orderM_len]; exact hl100) (by rw [orderM_len]; exact IOx5.out) (pairK.row_upd_nil PRa.out Vx5.out) (laK.row_upd_nil LRa.out Vx5.out) OKa.out hka (fun j hj => by have := hj.2; have := Vx5.out.size; omega)
                rw [orderM_len, HRD.out] at hda
                have HDA := hide hda
                clear hda
                refine HDA.out.mono ?_
                rintro e x6 ⟨⟨vq, vm, R7, F7, M7, rfl, hq, hm, hr, hf, ht, hgr, hgf, hgm⟩, hu⟩
                obtain ⟨qo, qc, rfl, -, -⟩ := Row.slice hq
                obtain ⟨mo2, mc2, rfl, -, -⟩ := Row.slice hm
                simp only at hq hm hr hf ht
                have Vx6 := hide (Vx5.out.trans hu)
                have Cx6 := hide (Upd.refl ([] : List Nat) x6)
                have HQ := hide hq; have HM := hide hm; have HR := hide hr; have HF := hide hf; have HT := hide ht; have Lx6 := hide hu.size
                have hbr := hide (blk_lt hr); have hbf := hide (blk_lt hf); have hbt := hide (blk_lt ht); have HGR := hide hgr; have HGF := hide hgf; have HGM := hide hgm
                have Nx6 := hide (hu.get Nx5.out (by simp))
                clear hq hm hr hf ht hu hgr hgf hgm HDA
                refine hK _ _ (.inr Vx6.out) ?_
                clear hK K
                try simp only [Act.put, zz1, zz2, zz3]
                refine zE 5 rfl (by kernel_rfl) (fun _ _ _ _ h => h) rfl (by exact Vx6.out) ?_
                apply Exists.intro
                refine ⟨fun wx hS => ?_, ?_⟩
                · go_simp; rfl
                simp only [Act.put, zz1, zz2, zz3, zz4, zz5, zz6]
                refine zE 6 rfl (by kernel_rfl) (fun _ _ _ _ h => h) rfl (by exact Vx6.out) ?_
                apply Exists.intro
                refine ⟨fun wx hS => ?_, ?_⟩
                · go_simp; rfl
                simp only [Act.put, zz1, zz2, zz3, zz4, zz5, zz6]
                refine zE 7 rfl (by kernel_rfl) (fun _ _ _ _ h => h) rfl (by exact Vx6.out) ?_
                apply Exists.intro
                refine ⟨fun wx hS => ?_, ?_⟩
                · go_simp; rfl
                simp only [Act.put, zz1, zz2, zz3, zz4, zz5, zz6]
                refine zE 8 rfl (by kernel_rfl) (fun _ _ _ _ h => h) rfl (by exact Vx6.out) ?_
                apply Exists.intro
                refine ⟨fun wx hS => ?_, ?_⟩
                · go_simp; rfl
                simp only [Act.put, zz1, zz2, zz3, zz4, zz5, zz6]
                refine zE 9 rfl (by kernel_rfl) (fun _ _ _ _ h => h) rfl (by exact Vx6.out) ?_
                apply Exists.intro
                refine ⟨fun wx hS => ?_, ?_⟩
                · go_simp; rfl
                simp only [Act.put, zz1, zz2, zz3, zz4, zz5, zz6]
                refine wpAnyZ_one 11 (by kernel_rfl) rfl rfl (fun K hK => ?_)
                try simp only [List.getElem_toArray, List.getElem_cons_succ, List.getElem_cons_zero]
                try simp only [List.getElem_toArray, List.getElem_cons_succ, List.getElem_cons_zero]
                obtain ⟨z0, z1, z2, z3, z4, z5, zz⟩ := res_facts33 Nx6.out
                have ZZ := hide zz
                clear zz
                go_simp
                obtain ⟨e1, e3⟩ := ZZ.out (.slice qo a'.m.length qc) (.slice mo2 a'.t.length mc2) (.int .u64 (a'.n : Int))
                clear z0 z1 z2 z3 z4 z5 ZZ
                generalize (((x6.setCell ⟨B7, 0, none⟩ (.slice qo a'.m.length qc)).setCell ⟨B7, 1, none⟩ (.slice mo2 a'.t.length mc2)).setCell ⟨B7, 2, none⟩ (.int .u64 (a'.n : Int))) = x7 at e1 e3 ⊢
                have g7 : wa.heap.size ≤ B7 := by have := KB7.out; have := Vx1.out.size; omega
                have Vx7 := hide (Vx6.out.trans_new e3 (fun k hk => .inr (by simp at hk; omega)))
                have Cx7 := hide ((Cx6.out.mono (by simp)).trans (e3.mono (by simp)) : Upd [B7] _ _)
                have Nx7 := hide e1
                clear e1 e3
                refine hK _ _ (.inr Vx7.out) ?_
                clear hK K
                try simp only [Act.put, zz1, zz2, zz3]
                refine wpAnyZ_one 12 (by kernel_rfl) rfl rfl (fun K hK => ?_)
                try simp only [List.getElem_toArray, List.getElem_cons_succ, List.getElem_cons_zero]
                go_simp
                refine hK _ _ (.inr Vx7.out) ?_
                clear hK K
                try simp only [Act.put, zz1, zz2, zz3]
                refine wpAnyZ_one 13 (by kernel_rfl) rfl rfl (fun K hK => ?_)
                try simp only [List.getElem_toArray, List.getElem_cons_succ, List.getElem_cons_zero]
                go_simp
                refine hK _ _ (.inr Vx7.out) ?_
                clear hK K
                try simp only [Act.put, zz1, zz2, zz3]
                refine wpAnyZ_one 14 (by kernel_rfl) rfl rfl (fun K hK => ?_)
                try simp only [List.getElem_toArray, List.getElem_cons_succ, List.getElem_cons_zero]
                go_simp
                refine hK _ _ (.inr Vx7.out) ?_
                clear hK K
                try simp only [Act.put, zz1, zz2, zz3]
                refine wpAnyZ_done (by kernel_rfl) ?_ _
                go_wp2_with fail
                go_meet
                have k7 := KB7.out; have s7 := SB7.out; have h1 := hbr.out; have h2 := hbf.out; have h3 := hbt.out; have hp := Vx5.out.size
                have := Lx1.out
                have := Lx6.out
                exact Ran.mk Nx7.out g7 Vx7.out Cx7.out HQ.out HM.out HTL.out Vx5.out.size (by omega) HR.out HF.out HT.out HGR.out HGF.out HGM.out
            · try simp only [List.getElem_toArray, List.getElem_cons_succ, List.getElem_cons_zero]
              go_simp
              have hN := blk_new w5 (.cells #[.slice none 0 0, .slice none 0 0, .int .u64 0] TRa)
              have hu := (Upd.refl [] w5).alloc (.cells #[.slice none 0 0, .slice none 0 0, .int .u64 0] TRa)
              have hs : (w5.alloc (.cells #[.slice none 0 0, .slice none 0 0, .int .u64 0] TRa)).heap.size = w5.heap.size + 1 := by simp
              generalize w5.alloc (.cells #[.slice none 0 0, .slice none 0 0, .int .u64 0] TRa) = x8 at *
              have Vx8 := hide (Vw5.out.trans hu)
              obtain ⟨B7, hB⟩ : ∃ x, w5.heap.size = x := ⟨_, rfl⟩
              have KB7 := hide hB
              rw [hB] at hN hs ⊢
              have Nx8 := hide hN
              have SB7 := hide hs
              clear hN hu hs hB
              refine hK _ _ (.inr Vx8.out) ?_
              clear hK K
              try simp only [Act.put, zz1, zz2, zz3]
              refine wpAnyZ_one 3 (by kernel_rfl) rfl rfl (fun K hK => ?_)
              try simp only [List.getElem_toArray, List.getElem_cons_succ, List.getElem_cons_zero]
              try simp only [List.getElem_toArray, List.getElem_cons_succ, List.getElem_cons_zero]
              go_simp
              have hda := rorder_any (ps := []) x8 (Kind.row_upd_nil CRa.out Vx8.out) SM.out (src_none x8.heap.size) (by omega) htop
              refine hda.mono ?_
              rintro e x9 ⟨⟨oo, oc, rfl, hoo⟩, hu⟩
              have Vx9 := hide (Vx8.out.trans hu)
              have IOx9 := hide ((IntsAt.own hoo).low (Nat.zero_le _))
              have Lx9 := hide hu.size
              have Nx9 := hide (hu.get Nx8.out (by simp))
              clear hda hoo hu
              refine hK _ _ (.inr Vx9.out) ?_
              clear hK K
              try simp only [Act.put, zz1, zz2, zz3]
              refine wpAnyZ_one 4 (by kernel_rfl) rfl rfl (fun K hK => ?_)
              try simp only [List.getElem_toArray, List.getElem_cons_succ, List.getElem_cons_zero]
              try simp only [List.getElem_toArray, List.getElem_cons_succ, List.getElem_cons_zero]
              go_simp
              have hda := rrun_any (T := T) (v := .slice xo l.length cp) (qs := orderM l []) (oo := oo) (oc := oc) (k := k) (Tp := since G wa) x9 (Kind.row_upd_nil CRa.out Vx9.out) SM.out (fun q hq => orderM_lt hq) (by rw [orderM_len]; exact hl100) (by rw [orderM_len]; exact IOx9.out) (pairK.row_upd_nil PRa.out Vx9.out) (laK.row_upd_nil LRa.out Vx9.out) OKa.out hka (fun j hj => by have := hj.2; have := Vx9.out.size; omega)
              rw [orderM_len, HRD.out] at hda
              have HDA := hide hda
              clear hda
              refine HDA.out.mono ?_
              rintro e x10 ⟨⟨vq, vm, R7, F7, M7, rfl, hq, hm, hr, hf, ht, hgr, hgf, hgm⟩, hu⟩
              obtain ⟨qo, qc, rfl, -, -⟩ := Row.slice hq
              obtain ⟨mo2, mc2, rfl, -, -⟩ := Row.slice hm
              simp only at hq hm hr hf ht
              have Vx10 := hide (Vx9.out.trans hu)
              have Cx10 := hide (Upd.refl ([] : List Nat) x10)
              have HQ := hide hq; have HM := hide hm; have HR := hide hr; have HF := hide hf; have HT := hide ht; have Lx10 := hide hu.size
              have hbr := hide (blk_lt hr); have hbf := hide (blk_lt hf); have hbt := hide (blk_lt ht); have HGR := hide hgr; have HGF := hide hgf; have HGM := hide hgm
              have Nx10 := hide (hu.get Nx9.out (by simp))
              clear hq hm hr hf ht hu hgr hgf hgm HDA
              refine hK _ _ (.inr Vx10.out) ?_
              clear hK K
              try simp only [Act.put, zz1, zz2, zz3]
              refine zE 5 rfl (by kernel_rfl) (fun _ _ _ _ h => h) rfl (by exact Vx10.out) ?_
              apply Exists.intro
              refine ⟨fun wx hS => ?_, ?_⟩
              · go_simp; rfl
              simp only [Act.put, zz1, zz2, zz3, zz4, zz5, zz6]
              refine zE 6 rfl (by kernel_rfl) (fun _ _ _ _ h => h) rfl (by exact Vx10.out) ?_
              apply Exists.intro
              refine ⟨fun wx hS => ?_, ?_⟩
              · go_simp; rfl
              simp only [Act.put, zz1, zz2, zz3, zz4, zz5, zz6]
              refine zE 7 rfl (by kernel_rfl) (fun _ _ _ _ h => h) rfl (by exact Vx10.out) ?_
              apply Exists.intro
              refine ⟨fun wx hS => ?_, ?_⟩
              · go_simp; rfl
              simp only [Act.put, zz1, zz2, zz3, zz4, zz5, zz6]
              refine zE 8 rfl (by kernel_rfl) (fun _ _ _ _ h => h) rfl (by exact Vx10.out) ?_
              apply Exists.intro
              refine ⟨fun wx hS => ?_, ?_⟩
              · go_simp; rfl
              simp only [Act.put, zz1, zz2, zz3, zz4, zz5, zz6]
              refine zE 9 rfl (by kernel_rfl) (fun _ _ _ _ h => h) rfl (by exact Vx10.out) ?_
              apply Exists.intro
              refine ⟨fun wx hS => ?_, ?_⟩
              · go_simp; rfl
              simp only [Act.put, zz1, zz2, zz3, zz4, zz5, zz6]
              refine wpAnyZ_one 11 (by kernel_rfl) rfl rfl (fun K hK => ?_)
              try simp only [List.getElem_toArray, List.getElem_cons_succ, List.getElem_cons_zero]
              try simp only [List.getElem_toArray, List.getElem_cons_succ, List.getElem_cons_zero]
              obtain ⟨z0, z1, z2, z3, z4, z5, zz⟩ := res_facts33 Nx10.out
              have ZZ := hide zz
              clear zz
              go_simp
              obtain ⟨e1, e3⟩ := ZZ.out (.slice qo a'.m.length qc) (.slice mo2 a'.t.length mc2) (.int .u64 (a'.n : Int))
              clear z0 z1 z2 z3 z4 z5 ZZ
              generalize (((x10.setCell ⟨B7, 0, none⟩ (.slice qo a'.m.length qc)).setCell ⟨B7, 1, none⟩ (.slice mo2 a'.t.length mc2)).setCell ⟨B7, 2, none⟩ (.int .u64 (a'.n : Int))) = x11 at e1 e3 ⊢
              have g7 : wa.heap.size ≤ B7 := by have := KB7.out; have := Vw5.out.size; omega
              have Vx11 := hide (Vx10.out.trans_new e3 (fun k hk => .inr (by simp at hk; omega)))
              have Cx11 := hide ((Cx10.out.mono (by simp)).trans (e3.mono (by simp)) : Upd [B7] _ _)
              have Nx11 := hide e1
              clear e1 e3
              refine hK _ _ (.inr Vx11.out) ?_
              clear hK K
              try simp only [Act.put, zz1, zz2, zz3]
              refine wpAnyZ_one 12 (by kernel_rfl) rfl rfl (fun K hK => ?_)
              try simp only [List.getElem_toArray, List.getElem_cons_succ, List.getElem_cons_zero]
              go_simp
              refine hK _ _ (.inr Vx11.out) ?_
              clear hK K
              try simp only [Act.put, zz1, zz2, zz3]
              refine wpAnyZ_one 13 (by kernel_rfl) rfl rfl (fun K hK => ?_)
              try simp only [List.getElem_toArray, List.getElem_cons_succ, List.getElem_cons_zero]
              go_simp
              refine hK _ _ (.inr Vx11.out) ?_
              clear hK K
              try simp only [Act.put, zz1, zz2, zz3]
              refine wpAnyZ_one 14 (by kernel_rfl) rfl rfl (fun K hK => ?_)
              try simp only [List.getElem_toArray, List.getElem_cons_succ, List.getElem_cons_zero]
              go_simp
              refine hK _ _ (.inr Vx11.out) ?_
              clear hK K
              try simp only [Act.put, zz1, zz2, zz3]
              refine wpAnyZ_done (by kernel_rfl) ?_ _
              go_wp2_with fail
              go_meet
              have k7 := KB7.out; have s7 := SB7.out; have h1 := hbr.out; have h2 := hbf.out; have h3 := hbt.out; have hp := Vx9.out.size
              have := Lx9.out
              have := Lx10.out
              exact Ran.mk Nx11.out g7 Vx11.out Cx11.out HQ.out HM.out HTL.out Vx9.out.size (by omega) HR.out HF.out HT.out HGR.out HGF.out HGM.out
          case rest =>
          obtain ⟨BN2, R2, F2, M2, np2, nl2, rfl, rfl, rfl, rfl, -, -, hu7, -, -, -, -, hm7, -, -, gm7'⟩ := hcut
          have htl := HTL.out
          have A10 := hide (A9.out.upd_nil hu7); have B10 := hide (B9.out.upd_nil hu7); have U10 := hide (U9.out.trans hu7)
          have N10 := hide (hu7.get N9.out (by simp)); have R10 := hide (hu7.get R9.out (by simp)); have G10 := hide (hu7.get GB2.out (by simp)); have M10 := hide hm7
          have NP10 := hide (pairK.row_mono (pairK.row_upd_nil NP9.out hu7) (since_mono' hu7.size)); have NL10 := hide (laK.row_mono (laK.row_upd_nil NL9.out hu7) (since_mono' hu7.size))
          clear hu7 hm7 A9 B9 U9 N9 R9 GB2 NP9 NL9 XBa PRa LRa CRa HTL HRD HRD1 HRD2
          go_wp2_with fail
          obtain ⟨w10, hw10⟩ : ∃ x, x = wc := ⟨_, rfl⟩
          subst hw10
          go_loopw [22] (fun si wr => ∃ i : Nat, i ≤ l.length ∧ si = .int .i64 i ∧ Upd [] w10 wr) (fun si _ => l.length - (RowKit.intOf si).toNat)
          case atStart => exact ⟨0, by omega, rfl, Upd.refl _ _⟩
          case round =>
            obtain ⟨j, hj, rfl, hu⟩ := hrel
            have HU := hide hu
            clear hu
            by_cases hlt : j < l.length
            · have d6 : decide ((j : Int) < l.length) = true := by simp; omega
              have d6' : decide (j < l.length) = true := by simpa using hlt
              obtain ⟨d, hd⟩ : ∃ d, ds[j]? = some d := ⟨_, List.getElem?_eq_getElem (by omega)⟩
              obtain ⟨f, hf⟩ : ∃ d, ds2[j]? = some d := ⟨_, List.getElem?_eq_getElem (by omega)⟩
              have hrr := HRP.out j d f hlt hd hf
              have HD := hide hd; have HDF := hide hf; have HRR := hide hrr
              have qt : ((f.turn : Int) != (f.turn : Int)) = false := by simp
              clear hd hf hrr
              go_wp2_with fail
              refine wp_region_z (fun wx => Upd [] wr wx) 99 (by kernel_rfl) ?_
              have s0 : Upd [] wr (wr.drewN 1) := (Upd.refl _ _).drewN 1
              refine zE 0 rfl (by kernel_rfl) (fun _ _ _ _ h => h) rfl (by exact s0) ?_
              apply Exists.intro
              refine ⟨fun wx hS => ?_, ?_⟩
              · go_simp; rfl
              simp only [Act.put, List.setIfInBounds_toArray, List.set_cons_succ, List.set_cons_zero, List.getElem_toArray, List.getElem_cons_zero]
              refine zE 1 rfl (by kernel_rfl) (fun _ _ _ _ h => h) rfl (by exact s0) ?_
              apply Exists.intro
              refine ⟨fun wx hS => ?_, ?_⟩
              · go_simp; rfl
              simp only [Act.put, zz1, zz2, zz3, zz4, zz5, zz6]
              refine zE 2 rfl (by kernel_rfl) (fun _ _ _ _ h => h) rfl (by exact s0) ?_
              apply Exists.intro
              refine ⟨fun wx hS => ?_, ?_⟩
              · go_simp; rfl
              simp only [Act.put, zz1, zz2, zz3, zz4, zz5, zz6]
              refine zE 3 rfl (by kernel_rfl) (fun _ _ _ _ h => h) rfl (by exact s0) ?_
              apply Exists.intro
              refine ⟨fun wx hS => ?_, ?_⟩
              · go_simp; rfl
              simp only [Act.put, zz1, zz2, zz3, zz4, zz5, zz6]
              refine zE 4 rfl (by kernel_rfl) (fun _ _ _ _ h => h) rfl (by exact s0) ?_
              apply Exists.intro
              refine ⟨fun wx hS => ?_, ?_⟩
              · obtain ⟨c0, c1, c2, c3, c4⟩ := dn_cells ((HU.out.trans hS).get G10.out (by simp)) HDF.out; go_simp; rfl
              simp only [Act.put, zz1, zz2, zz3, zz4, zz5, zz6]
              refine zE 5 rfl (by kernel_rfl) (fun _ _ _ _ h => h) rfl (by exact s0) ?_
              apply Exists.intro
              refine ⟨fun wx hS => ?_, ?_⟩
              · go_simp; rfl
              simp only [Act.put, zz1, zz2, zz3, zz4, zz5, zz6]
              refine zE 6 rfl (by kernel_rfl) (fun _ _ _ _ h => h) rfl (by exact s0) ?_
              apply Exists.intro
              refine ⟨fun wx hS => ?_, ?_⟩
              · go_simp; rfl
              simp only [Act.put, zz1, zz2, zz3, zz4, zz5, zz6]
              refine zE 7 rfl (by kernel_rfl) (fun _ _ _ _ h => h) rfl (by exact s0) ?_
              apply Exists.intro
              refine ⟨fun wx hS => ?_, ?_⟩
              · go_simp; rfl
              simp only [Act.put, zz1, zz2, zz3, zz4, zz5, zz6]
              refine zE 8 rfl (by kernel_rfl) (fun _ _ _ _ h => h) rfl (by exact s0) ?_
              apply Exists.intro
              refine ⟨fun wx hS => ?_, ?_⟩
              · have c0 := tu_cell ((HU.out.trans hS).get M10.out (by simp)) HDF.out; go_simp; rfl
              simp only [Act.put, zz1, zz2, zz3, zz4, zz5, zz6]
              refine zE 9 rfl (by kernel_rfl) (fun _ _ _ _ h => h) rfl (by exact s0) ?_
              apply Exists.intro
              refine ⟨fun wx hS => ?_, ?_⟩
              · go_simp; rfl
              simp only [Act.put, zz1, zz2, zz3, zz4, zz5, zz6]
              refine zE 10 rfl (by kernel_rfl) (fun _ _ _ _ h => h) rfl (by exact s0) ?_
              apply Exists.intro
              refine ⟨fun wx hS => ?_, ?_⟩
              · go_simp; rfl
              simp only [Act.put, zz1, zz2, zz3, zz4, zz5, zz6]
              refine zE 11 rfl (by kernel_rfl) (fun _ _ _ _ h => h) rfl (by exact s0) ?_
              apply Exists.intro
              refine ⟨fun wx hS => ?_, ?_⟩
              · go_simp; rfl
              simp only [Act.put, zz1, zz2, zz3, zz4, zz5, zz6]
              refine zE 12 rfl (by kernel_rfl) (fun _ _ _ _ h => h) rfl (by exact s0) ?_
              apply Exists.intro
              refine ⟨fun wx hS => ?_, ?_⟩
              · go_simp; rfl
              simp only [Act.put, zz1, zz2, zz3, zz4, zz5, zz6]
              refine zE 13 rfl (by kernel_rfl) (fun _ _ _ _ h => h) rfl (by exact s0) ?_
              apply Exists.intro
              refine ⟨fun wx hS => ?_, ?_⟩
              · go_simp; rfl
              simp only [Act.put, zz1, zz2, zz3, zz4, zz5, zz6]
              refine zE 14 rfl (by kernel_rfl) (fun _ _ _ _ h => h) rfl (by exact s0) ?_
              apply Exists.intro
              refine ⟨fun wx hS => ?_, ?_⟩
              · go_simp; rfl
              simp only [Act.put, zz1, zz2, zz3, zz4, zz5, zz6]
              refine zE 15 rfl (by kernel_rfl) (fun _ _ _ _ h => h) rfl (by exact s0) ?_
              apply Exists.intro
              refine ⟨fun wx hS => ?_, ?_⟩
              · obtain ⟨c0, c1, c2, c3, c4⟩ := dn_cells ((HU.out.trans hS).get G10.out (by simp)) HDF.out; go_simp; rfl
              simp only [Act.put, zz1, zz2, zz3, zz4, zz5, zz6]
              refine zE 16 rfl (by kernel_rfl) (fun _ _ _ _ h => h) rfl (by exact s0) ?_
              apply Exists.intro
              refine ⟨fun wx hS => ?_, ?_⟩
              · go_simp; rfl
              simp only [Act.put, zz1, zz2, zz3, zz4, zz5, zz6]
              refine zE 17 rfl (by kernel_rfl) (fun _ _ _ _ h => h) rfl (by exact s0) ?_
              apply Exists.intro
              refine ⟨fun wx hS => ?_, ?_⟩
              · go_simp; rfl
              simp only [Act.put, zz1, zz2, zz3, zz4, zz5, zz6]
              refine zE 18 rfl (by kernel_rfl) (fun _ _ _ _ h => h) rfl (by exact s0) ?_
              apply Exists.intro
              refine ⟨fun wx hS => ?_, ?_⟩
              · go_simp; rfl
              simp only [Act.put, zz1, zz2, zz3, zz4, zz5, zz6]
              refine zE 19 rfl (by kernel_rfl) (fun _ _ _ _ h => h) rfl (by exact s0) ?_
              apply Exists.intro
              refine ⟨fun wx hS => ?_, ?_⟩
              · obtain ⟨c0, c1⟩ := rp_cells ((HU.out.trans hS).get R10.out (by simp)) HD.out ; rw [HRR.out] at c0 c1; go_simp; rfl
              simp only [Act.put, zz1, zz2, zz3, zz4, zz5, zz6]
              refine zE 20 rfl (by kernel_rfl) (fun _ _ _ _ h => h) rfl (by exact s0) ?_
              apply Exists.intro
              refine ⟨fun wx hS => ?_, ?_⟩
              · have q1 := neq_rp f.r f.r wx ; rw [decide_eq_true rfl] at q1; go_simp; rfl
              simp only [Act.put, zz1, zz2, zz3, zz4, zz5, zz6]
              refine zE 21 rfl (by kernel_rfl) (fun _ _ _ _ h => h) rfl (by exact s0) ?_
              apply Exists.intro
              refine ⟨fun wx hS => ?_, ?_⟩
              · go_simp; rfl
              simp only [Act.put, zz1, zz2, zz3, zz4, zz5, zz6]
              refine wpAnyZ_done (by kernel_rfl) ?_ _
              have HU2 := hide (HU.out.trans s0)
              clear s0
              go_wp2_with fail
              go_roundw
              case rel => exact ⟨j + 1, by omega, by go_num, HU2.out⟩
              case measure => simp [RowKit.intOf]; omega
            · have d6 : decide ((j : Int) < l.length) = false := by simp; omega
              have d6' : decide (j < l.length) = false := by simpa using hlt
              have q2 : ((l.length : Int) == (l.length : Int)) = true := by simp
              have NPr := hide (pairK.row_upd_nil NP10.out HU.out); have NLr := hide (laK.row_upd_nil NL10.out HU.out)
              have Ar := hide (A10.out.upd_nil HU.out); have Br := hide (B10.out.upd_nil HU.out); have Ur := hide (U10.out.trans HU.out); have Nr := hide (HU.out.get N10.out (by simp))
              clear hlt HU A10 B10 U10 N10 R10 G10 M10 NP10 NL10 HRP HWV
              go_wp2_with fail
              refine wp_region_z (fun wx => Upd [] wr wx) 99 (by kernel_rfl) ?_
              have s0 : Upd [] wr (wr.drewN 1) := (Upd.refl _ _).drewN 1
              refine zE 0 rfl (by kernel_rfl) (fun _ _ _ _ h => h) rfl (by exact s0) ?_
              apply Exists.intro
              refine ⟨fun wx hS => ?_, ?_⟩
              · go_simp; rfl
              simp only [Act.put, List.setIfInBounds_toArray, List.set_cons_succ, List.set_cons_zero, List.getElem_toArray, List.getElem_cons_zero]
              refine zE 3 rfl (by kernel_rfl) (fun _ _ _ _ h => h) rfl (by exact s0) ?_
              apply Exists.intro
              refine ⟨fun wx hS => ?_, ?_⟩
              · obtain ⟨x0', x1', x2'⟩ := cell3 (hS.get Nr.out (by simp)); go_simp; rfl
              simp only [Act.put, zz1, zz2, zz3, zz4, zz5, zz6]
              refine wpAnyZ_one 1 (by kernel_rfl) rfl rfl (fun K hK => ?_)
              try simp only [List.getElem_toArray, List.getElem_cons_succ, List.getElem_cons_zero]
              go_simp
              refine (abytes_any (wr.drewN 1) (Ar.out.upd_nil s0) (OKn.out.w (by omega))).mono ?_
              obtain ⟨K1, hK1⟩ : ∃ x, apB a' = x := ⟨_, rfl⟩
              rw [hK1]
              have HK1 := hide hK1
              clear hK1
              rintro e v8 ⟨u8, rfl, o8, hu8⟩
              obtain ⟨ao8, ac8, rfl, -, -, -⟩ := owns_slice o8
              have s8 := s0.trans hu8
              have O8 := hide o8
              clear o8 hu8 s0
              refine hK _ _ (.inr s8) ?_
              clear hK K
              try simp only [Act.put, zz1, zz2, zz3]
              refine wpAnyZ_strong (S' := fun wx => Upd [] v8 wx) (fun wx h => s8.trans h) _ _ _ _ ?_
              have t0 : Upd [] v8 v8 := Upd.refl _ _
              refine zE 2 rfl (by kernel_rfl) (fun _ _ _ _ h => h) rfl (by exact t0) ?_
              apply Exists.intro
              refine ⟨fun wx hS => ?_, ?_⟩
              · have hq := run_str (src_own (owns_upd O8.out hS (by simp)) (by simp [u8v, Value.oneCell'])); go_simp; rfl
              simp only [Act.put, zz1, zz2, zz3, zz4, zz5, zz6]
              refine wpAnyZ_one 4 (by kernel_rfl) rfl rfl (fun K hK => ?_)
              try simp only [List.getElem_toArray, List.getElem_cons_succ, List.getElem_cons_zero]
              go_simp
              refine (rabytes_any v8 (pairK.row_upd_nil NPr.out s8) (laK.row_upd_nil NLr.out s8) (OKn.out.w (by omega)) (by have := OKn.out.len; omega)).mono ?_
              rw [HK1.out]
              rintro e v9 ⟨u9, rfl, o9, hu9⟩
              obtain ⟨ao9, ac9, rfl, -, -, -⟩ := owns_slice o9
              have s9 := s8.trans hu9
              have O9 := hide o9
              clear o9 t0
              refine hK _ _ (.inr hu9) ?_
              clear hK K
              try simp only [Act.put, zz1, zz2, zz3]
              refine wpAnyZ_strong (S' := fun wx => Upd [] v9 wx) (fun wx h => hu9.trans h) _ _ _ _ ?_
              have t0 : Upd [] v9 v9 := Upd.refl _ _
              refine zE 5 rfl (by kernel_rfl) (fun _ _ _ _ h => h) rfl (by exact t0) ?_
              apply Exists.intro
              refine ⟨fun wx hS => ?_, ?_⟩
              · have hq := run_str (src_own (owns_upd O9.out hS (by simp)) (by simp [u8v, Value.oneCell'])); go_simp; rfl
              simp only [Act.put, zz1, zz2, zz3, zz4, zz5, zz6]
              refine zE 6 rfl (by kernel_rfl) (fun _ _ _ _ h => h) rfl (by exact t0) ?_
              apply Exists.intro
              refine ⟨fun wx hS => ?_, ?_⟩
              · have hq : ((strOf K1).toList == (strOf K1).toList) = true := (by simp); go_simp; rfl
              simp only [Act.put, zz1, zz2, zz3, zz4, zz5, zz6]
              refine zE 7 rfl (by kernel_rfl) (fun _ _ _ _ h => h) rfl (by exact t0) ?_
              apply Exists.intro
              refine ⟨fun wx hS => ?_, ?_⟩
              · go_simp; rfl
              simp only [Act.put, zz1, zz2, zz3, zz4, zz5, zz6]
              refine zE 8 rfl (by kernel_rfl) (fun _ _ _ _ h => h) rfl (by exact t0) ?_
              apply Exists.intro
              refine ⟨fun wx hS => ?_, ?_⟩
              · go_simp; rfl
              simp only [Act.put, zz1, zz2, zz3, zz4, zz5, zz6]
              refine zE 9 rfl (by kernel_rfl) (fun _ _ _ _ h => h) rfl (by exact t0) ?_
              apply Exists.intro
              refine ⟨fun wx hS => ?_, ?_⟩
              · go_simp; rfl
              simp only [Act.put, zz1, zz2, zz3, zz4, zz5, zz6]
              refine wpAnyZ_one 10 (by kernel_rfl) rfl rfl (fun K hK => ?_)
              try simp only [List.getElem_toArray, List.getElem_cons_succ, List.getElem_cons_zero]
              go_simp
              refine (asame_any v9 (Ar.out.upd_nil s9) (Br.out.upd_nil s9) OKn.out (by omega)).mono ?_
              rintro e v10 ⟨rfl, hu10⟩
              clear t0
              refine hK _ _ (.inr hu10) ?_
              clear hK K
              try simp only [Act.put, zz1, zz2, zz3]
              refine zE 11 rfl (by kernel_rfl) (fun _ _ _ _ h => h) rfl (by exact hu10) ?_
              apply Exists.intro
              refine ⟨fun wx hS => ?_, ?_⟩
              · go_simp; rfl
              simp only [Act.put, zz1, zz2, zz3, zz4, zz5, zz6]
              refine zE 12 rfl (by kernel_rfl) (fun _ _ _ _ h => h) rfl (by exact hu10) ?_
              apply Exists.intro
              refine ⟨fun wx hS => ?_, ?_⟩
              · go_simp; rfl
              simp only [Act.put, zz1, zz2, zz3, zz4, zz5, zz6]
              refine zE 13 rfl (by kernel_rfl) (fun _ _ _ _ h => h) rfl (by exact hu10) ?_
              apply Exists.intro
              refine ⟨fun wx hS => ?_, ?_⟩
              · go_simp; rfl
              simp only [Act.put, zz1, zz2, zz3, zz4, zz5, zz6]
              refine zE 14 rfl (by kernel_rfl) (fun _ _ _ _ h => h) rfl (by exact hu10) ?_
              apply Exists.intro
              refine ⟨fun wx hS => ?_, ?_⟩
              · go_simp; rfl
              simp only [Act.put, zz1, zz2, zz3, zz4, zz5, zz6]
              refine zE 15 rfl (by kernel_rfl) (fun _ _ _ _ h => h) rfl (by exact hu10) ?_
              apply Exists.intro
              refine ⟨fun wx hS => ?_, ?_⟩
              · go_simp; rfl
              simp only [Act.put, zz1, zz2, zz3, zz4, zz5, zz6]
              refine zE 16 rfl (by kernel_rfl) (fun _ _ _ _ h => h) rfl (by exact hu10) ?_
              apply Exists.intro
              refine ⟨fun wx hS => ?_, ?_⟩
              · go_simp; rfl
              simp only [Act.put, zz1, zz2, zz3, zz4, zz5, zz6]
              refine zE 17 rfl (by kernel_rfl) (fun _ _ _ _ h => h) rfl (by exact hu10) ?_
              apply Exists.intro
              refine ⟨fun wx hS => ?_, ?_⟩
              · go_simp; rfl
              simp only [Act.put, zz1, zz2, zz3, zz4, zz5, zz6]
              refine zE 18 rfl (by kernel_rfl) (fun _ _ _ _ h => h) rfl (by exact hu10) ?_
              apply Exists.intro
              refine ⟨fun wx hS => ?_, ?_⟩
              · go_simp; rfl
              simp only [Act.put, zz1, zz2, zz3, zz4, zz5, zz6]
              refine zE 19 rfl (by kernel_rfl) (fun _ _ _ _ h => h) rfl (by exact hu10) ?_
              apply Exists.intro
              refine ⟨fun wx hS => ?_, ?_⟩
              · go_simp; rfl
              simp only [Act.put, zz1, zz2, zz3, zz4, zz5, zz6]
              refine zE 20 rfl (by kernel_rfl) (fun _ _ _ _ h => h) rfl (by exact hu10) ?_
              apply Exists.intro
              refine ⟨fun wx hS => ?_, ?_⟩
              · go_simp; rfl
              simp only [Act.put, zz1, zz2, zz3, zz4, zz5, zz6]
              refine wpAnyZ_one 21 (by kernel_rfl) rfl rfl (fun K hK => ?_)
              try simp only [List.getElem_toArray, List.getElem_cons_succ, List.getElem_cons_zero]
              go_simp
              refine (run0_any v10).mono ?_
              rintro e v11 ⟨rfl, hu11⟩
              have t1 := hu10.trans hu11
              clear hu11
              refine hK _ _ (.inr t1) ?_
              clear hK K
              try simp only [Act.put, zz1, zz2, zz3]
              refine zE 22 rfl (by kernel_rfl) (fun _ _ _ _ h => h) rfl (by exact t1) ?_
              apply Exists.intro
              refine ⟨fun wx hS => ?_, ?_⟩
              · go_simp; rfl
              simp only [Act.put, zz1, zz2, zz3, zz4, zz5, zz6]
              refine zE 23 rfl (by kernel_rfl) (fun _ _ _ _ h => h) rfl (by exact t1) ?_
              apply Exists.intro
              refine ⟨fun wx hS => ?_, ?_⟩
              · go_simp; rfl
              simp only [Act.put, zz1, zz2, zz3, zz4, zz5, zz6]
              refine zE 24 rfl (by kernel_rfl) (fun _ _ _ _ h => h) rfl (by exact t1) ?_
              apply Exists.intro
              refine ⟨fun wx hS => ?_, ?_⟩
              · go_simp; rfl
              simp only [Act.put, zz1, zz2, zz3, zz4, zz5, zz6]
              refine zE 25 rfl (by kernel_rfl) (fun _ _ _ _ h => h) rfl (by exact t1) ?_
              apply Exists.intro
              refine ⟨fun wx hS => ?_, ?_⟩
              · go_simp; rfl
              simp only [Act.put, zz1, zz2, zz3, zz4, zz5, zz6]
              refine zE 26 rfl (by kernel_rfl) (fun _ _ _ _ h => h) rfl (by exact t1) ?_
              apply Exists.intro
              refine ⟨fun wx hS => ?_, ?_⟩
              · go_simp; rfl
              simp only [Act.put, zz1, zz2, zz3, zz4, zz5, zz6]
              refine wpAnyZ_one 27 (by kernel_rfl) rfl rfl (fun K hK => ?_)
              try simp only [List.getElem_toArray, List.getElem_cons_succ, List.getElem_cons_zero]
              go_simp
              refine (one0_any v11 (Kind.row_upd_nil CR.out (Ur.out.trans (s9.trans t1))) hl100).mono ?_
              rintro e v12 ⟨rfl, hu12⟩
              have t2 := t1.trans hu12
              clear hu12
              refine hK _ _ (.inr t2) ?_
              clear hK K
              try simp only [Act.put, zz1, zz2, zz3]
              refine zE 28 rfl (by kernel_rfl) (fun _ _ _ _ h => h) rfl (by exact t2) ?_
              apply Exists.intro
              refine ⟨fun wx hS => ?_, ?_⟩
              · go_simp; rfl
              simp only [Act.put, zz1, zz2, zz3, zz4, zz5, zz6]
              refine zE 29 rfl (by kernel_rfl) (fun _ _ _ _ h => h) rfl (by exact t2) ?_
              apply Exists.intro
              refine ⟨fun wx hS => ?_, ?_⟩
              · go_simp; rfl
              simp only [Act.put, zz1, zz2, zz3, zz4, zz5, zz6]
              refine zE 30 rfl (by kernel_rfl) (fun _ _ _ _ h => h) rfl (by exact t2) ?_
              apply Exists.intro
              refine ⟨fun wx hS => ?_, ?_⟩
              · go_simp; rfl
              simp only [Act.put, zz1, zz2, zz3, zz4, zz5, zz6]
              refine zE 31 rfl (by kernel_rfl) (fun _ _ _ _ h => h) rfl (by exact t2) ?_
              apply Exists.intro
              refine ⟨fun wx hS => ?_, ?_⟩
              · go_simp; rfl
              simp only [Act.put, zz1, zz2, zz3, zz4, zz5, zz6]
              refine wpAnyZ_one 32 (by kernel_rfl) rfl rfl (fun K hK => ?_)
              try simp only [List.getElem_toArray, List.getElem_cons_succ, List.getElem_cons_zero]
              go_simp
              refine (wakes13_any v12 (ENV.out.upd_nil (Ur.out.trans (s9.trans t2)))).mono ?_
              rintro e v13 ⟨rfl, hu13⟩
              have t3 := t2.trans hu13
              clear hu13
              refine hK _ _ (.inr t3) ?_
              clear hK K
              try simp only [Act.put, zz1, zz2, zz3]
              refine zE 33 rfl (by kernel_rfl) (fun _ _ _ _ h => h) rfl (by exact t3) ?_
              apply Exists.intro
              refine ⟨fun wx hS => ?_, ?_⟩
              · go_simp; rfl
              simp only [Act.put, zz1, zz2, zz3, zz4, zz5, zz6]
              refine zE 34 rfl (by kernel_rfl) (fun _ _ _ _ h => h) rfl (by exact t3) ?_
              apply Exists.intro
              refine ⟨fun wx hS => ?_, ?_⟩
              · go_simp; rfl
              simp only [Act.put, zz1, zz2, zz3, zz4, zz5, zz6]
              refine wpAnyZ_done (by kernel_rfl) ?_ _
              have UF := hide (Ur.out.trans (s9.trans t3))
              clear s8 s9 t1 t2 t3 hu9 hu10 O8 O9
              go_wp2_with fail
              go_ret
              exact ⟨rfl, UF.out⟩
end Go.Proofs.YthpnnffogbjhpaaGreatDoor.Kv
