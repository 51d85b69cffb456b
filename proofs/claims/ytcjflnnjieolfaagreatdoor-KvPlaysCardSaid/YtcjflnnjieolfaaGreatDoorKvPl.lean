/- The law KvPlays, walked. -/
import Derived.Test.YtcjflnnjieolfaaGreatDoorKvRv
import Derived.Test.YtcjflnnjieolfaaGreatDoorKvRb
import Derived.Test.YtcjflnnjieolfaaGreatDoorKvPz
import Derived.Test.YtcjflnnjieolfaaGreatDoorKvPure
import Derived.Test.YtcjflnnjieolfaaGreatDoorKvTkW
import Derived.Test.YtcjflnnjieolfaaGreatDoorKvW9
import Derived.Test.YtcjflnnjieolfaaGreatDoorKvG
import Derived.Test.YtcjflnnjieolfaaGreatDoorGenAll
import Derived.Lib.SlBytesConst
namespace Go.Proofs.YtcjflnnjieolfaaGreatDoor.Kv
set_option linter.unusedSimpArgs false
set_option linter.unusedVariables false
set_option linter.unnecessarySimpa false
open Go.RowKit Go.Lib Go.Proofs.YtcjflnnjieolfaaGreatDoor.Crc Go.Proofs.YtcjflnnjieolfaaGreatDoor.Cm Go.Proofs.YtcjflnnjieolfaaGreatDoor.Var

/-- The state and the document's pairs, behind some commands. -/
structure Plays (w wr : World) (b g G : Nat) (m : KM) (vm : Value) : Prop where
  st : StIs wr b g m
  row : pairK.row wr (since G wr) vm m
  upd : Upd [] w wr
  size : G ≤ wr.heap.size
theorem Plays.upd_nil {w wr w' : World} {b g G : Nat} {m : KM} {vm : Value} (h : Plays w wr b g G m vm) (hu : Upd [] wr w') : Plays w w' b g G m vm :=
  ⟨h.st.upd_nil hu, pairK.row_mono (pairK.row_upd_nil h.row hu) (fun k hk => ⟨hk.1, by have := hk.2; have := hu.size; omega⟩), h.upd.trans hu, Nat.le_trans h.size hu.size⟩
theorem src_x {w : World} {b : Nat} {t : TypeId} {fr : Nat × Nat} (h : w.heap[b]? = some (.cells #[.int .u8 120] t fr)) : SrcAt w (some ⟨b, 0, none⟩) [(120 : UInt8)].length [(120 : UInt8)].length ([(120 : UInt8)].map u8v) 1 := by
  refine ⟨by simp, by simp [u8v, Value.oneCell'], by simp, fun a e j u hj => ?_⟩
  cases e
  rw [add_plain]
  simp only [World.cell?, h]
  simpa [u8v] using hj
theorem rds_of' {w : World} {R : Nat} {lim : Int} {xo : Option Addr} {m c : Nat} {bs : List UInt8} {T : Nat → Prop} (h : RdAt w R 0 xo m c lim) (hs : SrcAt w xo m c (bs.map u8v) 1) (hc : m ≤ c) (hT : ∀ a, xo = some a → m ≠ 0 → T a.block) : RdS w T R lim (0, bs) :=
  ⟨xo, m, c, h, fun _ => ⟨hs, hc, hT⟩⟩
theorem src_lt' {w : World} {xo : Option Addr} {m c : Nat} {bs : List UInt8} (hs : SrcAt w xo m c (bs.map u8v) 1) : ∀ a, xo = some a → m ≠ 0 → a.block < w.heap.size := fun a e hm => by
  have hl := hs.len
  have h0 : 0 < (bs.map u8v).length := by omega
  have := hs.cells a e 0 _ (List.getElem?_eq_getElem h0)
  have := World.block_lt_of_cell? w _ this
  rwa [show (a.add 0).block = a.block by unfold Addr.add; split <;> rfl] at this
theorem field_code (w : World) : (Instr.field 29 (.agg #[.int .u8 2, .string (strOf [])]) 0).run Tryz.prog w = .ok (.int .u8 2) w := by
  have hd := Tryz.underlying29
  unfold Instr.field
  simp [run_underlying hd, go_sem, asAgg, Result.andThen]
theorem kvB_len' {m : KM} (hm : KvOk m) (hl : m.length ≤ 1000000) : (kvB m).length ≤ 20 + 116 * m.length := by
  have h1 := prs_len m hm
  have h2 := uv_len10 (n := m.length) (by omega)
  rw [kvB, List.length_append]
  omega
set_option maxRecDepth 100000 in
set_option maxHeartbeats 8000000 in
theorem plays_any {T : Nat → Prop} {v : Value} {l : List Cm} (w : World) (he : EnvAt w) (h : cmK.row w T v l) :
    Calls Tryz.prog 3 #[v] w fun e w' => e = .returned (.bool true) ∧ Upd [] w w' := by
  have CR := hide h; have ENV := hide he
  obtain ⟨xo, cp, rfl, h1, h2, hg⟩ := cm_get h
  have HG := hide hg
  simp only [maxLen] at h2
  clear h he hg
  go_enter Tryz.func3, Tryz.ntmps3
  go_wp2_with fail
  refine (great_any w CR.out).mono ?_
  rintro e w1 ⟨hu1, r0, rfl, hr0⟩
  have U1 := hide hu1; have R0 := hide hr0; have E1 := hide (ENV.out.upd_nil hu1)
  clear hu1 hr0
  cases r0 with
  | true =>
    go_wp2_with fail
    refine (wakes9_any w1 E1.out).mono ?_
    rintro e w2 ⟨rfl, hu2⟩
    have U2 := hide (U1.out.trans hu2)
    clear hu2
    go_wp2_with fail
    go_ret
    exact ⟨rfl, U2.out⟩
  | false =>
    have hsm := R0.out rfl
    have SM := hide hsm
    have hl100 := hsm.1
    have FOK := hide (fold_ok l)
    clear R0 hsm
    go_wp2_with fail
    refine (new_any w1).mono ?_
    rintro e w2 ⟨rfl, hs2, hu2⟩
    have hgl := MapKind.is_lt hs2.map; have hbl := blk_lt hs2.blk
    have hzw := U1.out.size; have hz2 := hu2.size
    have PL := hide (show Plays w w2 (w1.heap.size + 1) w1.heap.size w2.heap.size [] (.slice none 0 0) from ⟨hs2, pairK.row_nil _ _, U1.out.trans hu2, Nat.le_refl _⟩)
    obtain ⟨N1, hN1⟩ : ∃ N, w1.heap.size = N := ⟨_, rfl⟩
    obtain ⟨N2, hN2⟩ : ∃ N, w2.heap.size = N := ⟨_, rfl⟩
    rw [hN1, hN2] at PL
    rw [hN1] at hgl hbl hzw hz2 ⊢
    rw [hN2] at hgl hbl hz2
    clear hs2 hu2 hN1 hN2
    go_wp2_with fail
    go_loopw [4, 5] (fun sm si wr => ∃ (i : Nat) (m : KM), i ≤ l.length ∧ si = .int .i64 i ∧ m = foldM (l.take i) ∧ Plays w wr (N1 + 1) N1 N2 m sm) (fun _ si _ => l.length - (RowKit.intOf si).toNat)
    case atStart => exact ⟨0, [], by omega, rfl, rfl, PL.out⟩
    case round =>
      obtain ⟨i, m, hi, rfl, hm, hp⟩ := hrel
      obtain ⟨mok, mne, mlen⟩ := FOK.out i hi (by omega)
      rw [← hm] at mok mne mlen
      have P := hide hp; have HM := hide hm; have MOK := hide mok; have MNE := hide mne
      obtain ⟨xm, cm, rfl, hmc1, hmc2⟩ := Row.slice hp.row
      have hzr := hp.size
      clear hp hm mok mne
      by_cases hlt : i < l.length
      · have d5 : decide ((i : Int) < l.length) = true := by simp; omega
        have d5' : decide (i < l.length) = true := by simpa using hlt
        obtain ⟨c, hc⟩ : ∃ c, l[i]? = some c := ⟨_, List.getElem?_eq_getElem hlt⟩
        obtain ⟨bc, oc, ka, kc, rfl, hbc, -, fit, hks, hcc⟩ := HG.out i c hc
        have hsc := SM.out.2 c (List.mem_of_getElem? hc)
        have HC := hide hc; have FIT := hide fit; have KS := hide hks; have CC := hide hcc; have HSC := hide hsc
        clear hc fit hks hcc hsc
        go_wp2_with fail
        refine (kcopy_any wr P.out.st MOK.out (by omega)).mono ?_
        rintro e w4 ⟨⟨b4, g4, rfl, hs4, hb4, hg4⟩, hu4⟩
        have P4 := hide (P.out.upd_nil hu4); have S4 := hide hs4
        have hz4 := hu4.size
        clear hs4 hu4 P
        obtain ⟨c0, c1, c2, c3, c4, c5, c6⟩ := CC.out.upd P4.out.upd hbc (by simp)
        go_wp2_with fail
        refine (rdo_any (c := c) w4 P4.out.row ⟨FIT.out, _, rfl, KS.out.upd_nil P4.out.upd⟩ MOK.out (by omega) (fun k hk => hk.2)).mono ?_
        rintro e w5 ⟨⟨v5, rfl, hr5⟩, hu5⟩
        obtain ⟨m', r', hd⟩ : ∃ m' r', kvDo m c = (m', r') := ⟨_, _, rfl⟩
        rw [hd] at hr5 ⊢
        have hmok' := do_bound (c := c) MOK.out (by omega)
        have hmne' := MNE.out.do (c := c)
        have hfn := fold_next HC.out
        rw [← HM.out, hd] at hfn
        rw [hd] at hmok' hmne'
        simp only at hr5 hfn hmok' hmne' ⊢
        have P5 := hide (P4.out.upd_nil hu5); have S5 := hide (S4.out.upd_nil hu5); have R5 := hide (pairK.row_mono (U := since N2 w5) hr5 (fun k hk => by
          have := hu5.size
          rcases hk with hk | hk
          · exact ⟨hk.1, by have := hk.2; omega⟩
          · exact ⟨by have := hk.1; omega, hk.2⟩))
        obtain ⟨xm5, cm5, rfl, hmc51, hmc52⟩ := Row.slice hr5
        have hz5 := hu5.size
        have HD := hide hd; have HF := hide hfn; have MB := hide hmok'; have MNE' := hide hmne'
        have hml' : m'.length ≤ 300 := by have := hmok'.len; omega
        unfold rpv
        clear c0 c1 c2 c3 c4 c5 c6 hr5 hu5 hd hfn hmok' hmne' P4 S4
        go_upto_region 10 with fail
        have hR := blk_new w5 (.cells #[.int .u8 (r'.code : Int), .string (strOf r'.text)] TRp)
        have hal := (Upd.refl [] w5).alloc (.cells #[.int .u8 (r'.code : Int), .string (strOf r'.text)] TRp)
        change Code.wp _ _ _ _ (w5.alloc (.cells #[.int .u8 (r'.code : Int), .string (strOf r'.text)] TRp))
        generalize w5.alloc (.cells #[.int .u8 (r'.code : Int), .string (strOf r'.text)] TRp) = w6 at *
        have P6 := hide (P5.out.upd_nil hal); have S6 := hide (S5.out.upd_nil hal); have R6 := hide (pairK.row_mono (U := since N2 w6) (pairK.row_upd_nil R5.out hal) (fun k hk => ⟨hk.1, by have := hk.2; have := hal.size; omega⟩)); have X6 := hide hR
        have hz6 := hal.size
        obtain ⟨R, hRn⟩ : ∃ x, w5.heap.size = x := ⟨_, rfl⟩
        rw [hRn] at X6 ⊢
        have hRN : N2 ≤ R := by omega
        clear hR hal P5 S5 R5 hRn
        have CC6 := hide (show ∀ wx, Upd [N1] w6 wx → Cells7 wx bc (oc + i * 7) c ka kc from fun wx hS => (CC.out.upd P6.out.upd hbc (by simp)).upd hS (by have := P6.out.upd.size; omega) (by simp; omega))
        have s0 : Upd [N1] w6 (w6.drewN 1) := (Upd.refl _ _).drewN 1
        refine wp_region_z (fun wx => Upd [N1] w6 wx) 99 (by kernel_rfl) ?_
        refine wpAnyZ_takeE 0 rfl (by kernel_rfl) (by kernel_rfl) (by kernel_rfl) (by kernel_rfl) (fun _ _ _ _ h => h) rfl (by exact s0) ?_
        apply Exists.intro
        refine ⟨fun wx hS => ?_, ?_⟩
        · go_simp; rfl
        simp only [Act.put, List.setIfInBounds_toArray, List.set_cons_succ, List.set_cons_zero, List.getElem_toArray, List.getElem_cons_zero]
        refine wpAnyZ_takeE 1 rfl (by kernel_rfl) (by kernel_rfl) (by kernel_rfl) (by kernel_rfl) (fun _ _ _ _ h => h) rfl (by exact s0) ?_
        apply Exists.intro
        refine ⟨fun wx hS => ?_, ?_⟩
        · go_simp; rfl
        simp only [Act.put, List.setIfInBounds_toArray, List.set_cons_succ, List.set_cons_zero, List.getElem_toArray, List.getElem_cons_succ, List.getElem_cons_zero]
        refine wpAnyZ_takeE 2 rfl (by kernel_rfl) (by kernel_rfl) (by kernel_rfl) (by kernel_rfl) (fun _ _ _ _ h => h) rfl (by exact s0) ?_
        apply Exists.intro
        refine ⟨fun wx hS => ?_, ?_⟩
        · go_simp; rfl
        simp only [Act.put, List.setIfInBounds_toArray, List.set_cons_succ, List.set_cons_zero, List.getElem_toArray, List.getElem_cons_succ, List.getElem_cons_zero]
        refine wpAnyZ_takeE 3 rfl (by kernel_rfl) (by kernel_rfl) (by kernel_rfl) (by kernel_rfl) (fun _ _ _ _ h => h) rfl (by exact s0) ?_
        apply Exists.intro
        refine ⟨fun wx hS => ?_, ?_⟩
        · go_simp; rfl
        simp only [Act.put, List.setIfInBounds_toArray, List.set_cons_succ, List.set_cons_zero, List.getElem_toArray, List.getElem_cons_succ, List.getElem_cons_zero]
        refine wpAnyZ_takeE 4 rfl (by kernel_rfl) (by kernel_rfl) (by kernel_rfl) (by kernel_rfl) (fun _ _ _ _ h => h) rfl (by exact s0) ?_
        apply Exists.intro
        refine ⟨fun wx hS => ?_, ?_⟩
        · obtain ⟨c0, c1, c2, c3, c4, c5, c6⟩ := CC6.out wx hS; go_simp; rfl
        simp only [Act.put, List.setIfInBounds_toArray, List.set_cons_succ, List.set_cons_zero, List.getElem_toArray, List.getElem_cons_succ, List.getElem_cons_zero]
        refine wpAnyZ_takeE 6 rfl (by kernel_rfl) (by kernel_rfl) (by kernel_rfl) (by kernel_rfl) (fun _ _ _ _ h => h) rfl (by exact s0) ?_
        apply Exists.intro
        refine ⟨fun wx hS => ?_, ?_⟩
        · have x0 : wx.cell? ⟨R, 0, none⟩ = some (.int .u8 (r'.code : Int)) := blk_cell (hS.get X6.out (by simp; omega)) rfl ; have x1 : wx.cell? ⟨R, 1, none⟩ = some (.string (strOf r'.text)) := blk_cell (hS.get X6.out (by simp; omega)) rfl; go_simp; rfl
        simp only [Act.put, List.setIfInBounds_toArray, List.set_cons_succ, List.set_cons_zero, List.getElem_toArray, List.getElem_cons_succ, List.getElem_cons_zero]
        refine wpAnyZ_one 5 (by kernel_rfl) rfl rfl (fun K hK => ?_)
        try simp only [List.getElem_toArray, List.getElem_cons_succ, List.getElem_cons_zero]
        go_simp
        refine (kstep HD.out (w6.drewN 1) (ENV.out.upd_nil (P6.out.upd.drewN 1)) (P6.out.st.upd_nil ((Upd.refl [] _).drewN 1)) MOK.out ⟨FIT.out, _, rfl, KS.out.upd_nil (P6.out.upd.drewN 1)⟩ (by omega)).mono ?_
        rintro e w7 ⟨rfl, hs7, hu7⟩
        have s7 := s0.trans hu7
        have P7 := hide (show Plays w w7 (N1 + 1) N1 N2 m' (.slice xm5 m'.length cm5) from ⟨hs7, pairK.row_mono (pairK.row_upd R6.out s7 (fun k hk hT => by simp at hk; have := hT.1; omega)) (fun k hk => ⟨hk.1, by have := hk.2; have := s7.size; omega⟩), P6.out.upd.trans_new s7 (fun k hk => .inr (by simp at hk; omega)), by have := s7.size; omega⟩)
        have RO7 := hide (pairK.row_mono (U := fun _ => True) (pairK.row_upd P6.out.row s7 (fun k hk hT => by simp at hk; have := hT.1; omega)) (fun _ _ => trivial)); have S7 := hide (S6.out.upd s7 (by simp; omega) (by simp; omega))
        have hz7 := s7.size
        unfold rpv
        refine hK _ _ (.inr s7) ?_
        clear hK K
        try simp only [Act.put, List.setIfInBounds_toArray, List.set_cons_succ, List.set_cons_zero]
        clear s0 hs7 hu7
        refine wpAnyZ_strong (S' := fun wx => Upd [] w7 wx) (fun wx h => s7.trans (h.mono (by simp))) _ _ _ _ ?_
        have t0 : Upd [] w7 w7 := Upd.refl _ _
        refine wpAnyZ_takeE 7 rfl (by kernel_rfl) (by kernel_rfl) (by kernel_rfl) (by kernel_rfl) (fun _ _ _ _ h => h) rfl (by exact t0) ?_
        apply Exists.intro
        refine ⟨fun wx hS => ?_, ?_⟩
        · have q1 := neq_rp r' r' wx ; rw [decide_eq_true rfl] at q1; go_simp; rfl
        simp only [Act.put, List.setIfInBounds_toArray, List.set_cons_succ, List.set_cons_zero, List.getElem_toArray, List.getElem_cons_succ, List.getElem_cons_zero]
        refine wpAnyZ_takeE 8 rfl (by kernel_rfl) (by kernel_rfl) (by kernel_rfl) (by kernel_rfl) (fun _ _ _ _ h => h) rfl (by exact t0) ?_
        apply Exists.intro
        refine ⟨fun wx hS => ?_, ?_⟩
        · go_simp; rfl
        simp only [Act.put, List.setIfInBounds_toArray, List.set_cons_succ, List.set_cons_zero, List.getElem_toArray, List.getElem_cons_succ, List.getElem_cons_zero]
        refine wpAnyZ_takeE 9 rfl (by kernel_rfl) (by kernel_rfl) (by kernel_rfl) (by kernel_rfl) (fun _ _ _ _ h => h) rfl (by exact t0) ?_
        apply Exists.intro
        refine ⟨fun wx hS => ?_, ?_⟩
        · go_simp; rfl
        simp only [Act.put, List.setIfInBounds_toArray, List.set_cons_succ, List.set_cons_zero, List.getElem_toArray, List.getElem_cons_succ, List.getElem_cons_zero]
        refine wpAnyZ_takeE 11 rfl (by kernel_rfl) (by kernel_rfl) (by kernel_rfl) (by kernel_rfl) (fun _ _ _ _ h => h) rfl (by exact t0) ?_
        apply Exists.intro
        refine ⟨fun wx hS => ?_, ?_⟩
        · go_simp; rfl
        simp only [Act.put, List.setIfInBounds_toArray, List.set_cons_succ, List.set_cons_zero, List.getElem_toArray, List.getElem_cons_succ, List.getElem_cons_zero]
        refine wpAnyZ_takeE 12 rfl (by kernel_rfl) (by kernel_rfl) (by kernel_rfl) (by kernel_rfl) (fun _ _ _ _ h => h) rfl (by exact t0) ?_
        apply Exists.intro
        refine ⟨fun wx hS => ?_, ?_⟩
        · go_simp; rfl
        simp only [Act.put, List.setIfInBounds_toArray, List.set_cons_succ, List.set_cons_zero, List.getElem_toArray, List.getElem_cons_succ, List.getElem_cons_zero]
        refine wpAnyZ_one 10 (by kernel_rfl) rfl rfl (fun K hK => ?_)
        try simp only [List.getElem_toArray, List.getElem_cons_succ, List.getElem_cons_zero]
        go_simp
        refine (klen_any w7 P7.out.st).mono ?_
        rintro e w8 ⟨rfl, rfl⟩
        refine hK _ _ (.inr t0) ?_
        clear hK K
        try simp only [Act.put, List.setIfInBounds_toArray, List.set_cons_succ, List.set_cons_zero]
        refine wpAnyZ_takeE 13 rfl (by kernel_rfl) (by kernel_rfl) (by kernel_rfl) (by kernel_rfl) (fun _ _ _ _ h => h) rfl (by exact t0) ?_
        apply Exists.intro
        refine ⟨fun wx hS => ?_, ?_⟩
        · go_simp; rfl
        simp only [Act.put, List.setIfInBounds_toArray, List.set_cons_succ, List.set_cons_zero, List.getElem_toArray, List.getElem_cons_succ, List.getElem_cons_zero]
        refine wpAnyZ_takeE 14 rfl (by kernel_rfl) (by kernel_rfl) (by kernel_rfl) (by kernel_rfl) (fun _ _ _ _ h => h) rfl (by exact t0) ?_
        apply Exists.intro
        refine ⟨fun wx hS => ?_, ?_⟩
        · go_simp; rfl
        simp only [Act.put, List.setIfInBounds_toArray, List.set_cons_succ, List.set_cons_zero, List.getElem_toArray, List.getElem_cons_succ, List.getElem_cons_zero]
        refine wpAnyZ_takeE 15 rfl (by kernel_rfl) (by kernel_rfl) (by kernel_rfl) (by kernel_rfl) (fun _ _ _ _ h => h) rfl (by exact t0) ?_
        apply Exists.intro
        refine ⟨fun wx hS => ?_, ?_⟩
        · go_simp; rfl
        simp only [Act.put, List.setIfInBounds_toArray, List.set_cons_succ, List.set_cons_zero, List.getElem_toArray, List.getElem_cons_succ, List.getElem_cons_zero]
        refine wpAnyZ_takeE 16 rfl (by kernel_rfl) (by kernel_rfl) (by kernel_rfl) (by kernel_rfl) (fun _ _ _ _ h => h) rfl (by exact t0) ?_
        apply Exists.intro
        refine ⟨fun wx hS => ?_, ?_⟩
        · go_simp; rfl
        simp only [Act.put, List.setIfInBounds_toArray, List.set_cons_succ, List.set_cons_zero, List.getElem_toArray, List.getElem_cons_succ, List.getElem_cons_zero]
        refine wpAnyZ_takeE 19 rfl (by kernel_rfl) (by kernel_rfl) (by kernel_rfl) (by kernel_rfl) (fun _ _ _ _ h => h) rfl (by exact t0) ?_
        apply Exists.intro
        refine ⟨fun wx hS => ?_, ?_⟩
        · go_simp; rfl
        simp only [Act.put, List.setIfInBounds_toArray, List.set_cons_succ, List.set_cons_zero, List.getElem_toArray, List.getElem_cons_succ, List.getElem_cons_zero]
        refine wpAnyZ_one 17 (by kernel_rfl) rfl rfl (fun K hK => ?_)
        try simp only [List.getElem_toArray, List.getElem_cons_succ, List.getElem_cons_zero]
        go_simp
        refine (kput_any (base := w7.heap.size) (bs := []) w7 S7.out MOK.out (by omega) (World.ownsRow_nil _ _ _ _) (Nat.le_refl _) (by simp) (by simp [Value.ownBlock]) (by simp [Value.ownBlock])).mono ?_
        rw [List.nil_append]
        obtain ⟨K1, hK1⟩ : ∃ x, kvB m = x := ⟨_, rfl⟩
        have hk1 := kvB_len' MOK.out (by omega)
        rw [hK1] at hk1 ⊢
        have HK1 := hide hK1
        clear hK1
        rintro e w8 ⟨v8, rfl, h8⟩
        have t8 : Upd [] w7 w8 := h8.upd.mono (by simp [Value.ownBlock])
        obtain ⟨a8, c8, rfl, -, -, -⟩ := owns_slice h8.own
        have O8 := hide h8.own
        have hz8 := t8.size
        clear h8
        refine hK _ _ (.inr t8) ?_
        clear hK K
        try simp only [Act.put, List.setIfInBounds_toArray, List.set_cons_succ, List.set_cons_zero]
        refine wpAnyZ_strong (S' := fun wx => Upd [] w8 wx) (fun wx h => t8.trans h) _ _ _ _ ?_
        have t0' : Upd [] w8 w8 := Upd.refl _ _
        refine wpAnyZ_takeE 18 rfl (by kernel_rfl) (by kernel_rfl) (by kernel_rfl) (by kernel_rfl) (fun _ _ _ _ h => h) rfl (by exact t0') ?_
        apply Exists.intro
        refine ⟨fun wx hS => ?_, ?_⟩
        · have hq := run_str (src_own (owns_upd O8.out hS (by simp)) (by simp [u8v, Value.oneCell'])); go_simp; rfl
        simp only [Act.put, List.setIfInBounds_toArray, List.set_cons_succ, List.set_cons_zero, List.getElem_toArray, List.getElem_cons_succ, List.getElem_cons_zero]
        refine wpAnyZ_one 20 (by kernel_rfl) rfl rfl (fun K hK => ?_)
        try simp only [List.getElem_toArray, List.getElem_cons_succ, List.getElem_cons_zero]
        go_simp
        refine (rbytes_any w8 (pairK.row_upd_nil RO7.out t8) MOK.out (by omega)).mono ?_
        rw [HK1.out]
        rintro e w9 ⟨v9, rfl, o9, t9⟩
        obtain ⟨a9, c9, rfl, -, -, -⟩ := owns_slice o9
        have O9 := hide o9
        have hz9 := t9.size
        clear o9
        refine hK _ _ (.inr t9) ?_
        clear hK K
        try simp only [Act.put, List.setIfInBounds_toArray, List.set_cons_succ, List.set_cons_zero]
        refine wpAnyZ_strong (S' := fun wx => Upd [] w9 wx) (fun wx h => t9.trans h) _ _ _ _ ?_
        have u0 : Upd [] w9 w9 := Upd.refl _ _
        refine wpAnyZ_takeE 21 rfl (by kernel_rfl) (by kernel_rfl) (by kernel_rfl) (by kernel_rfl) (fun _ _ _ _ h => h) rfl (by exact u0) ?_
        apply Exists.intro
        refine ⟨fun wx hS => ?_, ?_⟩
        · have hq := run_str (src_own (owns_upd O9.out hS (by simp)) (by simp [u8v, Value.oneCell'])); go_simp; rfl
        simp only [Act.put, List.setIfInBounds_toArray, List.set_cons_succ, List.set_cons_zero, List.getElem_toArray, List.getElem_cons_succ, List.getElem_cons_zero]
        refine wpAnyZ_takeE 22 rfl (by kernel_rfl) (by kernel_rfl) (by kernel_rfl) (by kernel_rfl) (fun _ _ _ _ h => h) rfl (by exact u0) ?_
        apply Exists.intro
        refine ⟨fun wx hS => ?_, ?_⟩
        · have hq : ((strOf K1).toList == (strOf K1).toList) = true := (by simp); go_simp; rfl
        simp only [Act.put, List.setIfInBounds_toArray, List.set_cons_succ, List.set_cons_zero, List.getElem_toArray, List.getElem_cons_succ, List.getElem_cons_zero]
        refine wpAnyZ_takeE 23 rfl (by kernel_rfl) (by kernel_rfl) (by kernel_rfl) (by kernel_rfl) (fun _ _ _ _ h => h) rfl (by exact u0) ?_
        apply Exists.intro
        refine ⟨fun wx hS => ?_, ?_⟩
        · go_simp; rfl
        simp only [Act.put, List.setIfInBounds_toArray, List.set_cons_succ, List.set_cons_zero, List.getElem_toArray, List.getElem_cons_succ, List.getElem_cons_zero]
        refine wpAnyZ_takeE 24 rfl (by kernel_rfl) (by kernel_rfl) (by kernel_rfl) (by kernel_rfl) (fun _ _ _ _ h => h) rfl (by exact u0) ?_
        apply Exists.intro
        refine ⟨fun wx hS => ?_, ?_⟩
        · go_simp; rfl
        simp only [Act.put, List.setIfInBounds_toArray, List.set_cons_succ, List.set_cons_zero, List.getElem_toArray, List.getElem_cons_succ, List.getElem_cons_zero]
        refine wpAnyZ_takeE 25 rfl (by kernel_rfl) (by kernel_rfl) (by kernel_rfl) (by kernel_rfl) (fun _ _ _ _ h => h) rfl (by exact u0) ?_
        apply Exists.intro
        refine ⟨fun wx hS => ?_, ?_⟩
        · go_simp; rfl
        simp only [Act.put, List.setIfInBounds_toArray, List.set_cons_succ, List.set_cons_zero, List.getElem_toArray, List.getElem_cons_succ, List.getElem_cons_zero]
        refine wpAnyZ_takeE 30 rfl (by kernel_rfl) (by kernel_rfl) (by kernel_rfl) (by kernel_rfl) (fun _ _ _ _ h => h) rfl (by exact u0) ?_
        apply Exists.intro
        refine ⟨fun wx hS => ?_, ?_⟩
        · go_simp; rfl
        simp only [Act.put, List.setIfInBounds_toArray, List.set_cons_succ, List.set_cons_zero, List.getElem_toArray, List.getElem_cons_succ, List.getElem_cons_zero]
        refine wpAnyZ_one 26 (by kernel_rfl) rfl rfl (fun K hK => ?_)
        try simp only [List.getElem_toArray, List.getElem_cons_succ, List.getElem_cons_zero]
        go_simp
        have u1 := (Upd.refl [] w9).alloc (.cells #[.int .u8 120] 5)
        refine hK _ _ (.inr u1) ?_
        clear hK K
        try simp only [Act.put, List.setIfInBounds_toArray, List.set_cons_succ, List.set_cons_zero]
        refine wpAnyZ_one 27 (by kernel_rfl) rfl rfl (fun K hK => ?_)
        try simp only [List.getElem_toArray, List.getElem_cons_succ, List.getElem_cons_zero]
        have hcv := Lib.run_convert_bytes_const (P := Tryz.prog) w9 38 5 #[.int .u8 120] 1 1 Tryz.underlying38 Tryz.underlying5
        go_simp
        have hB := blk_new w9 (.cells #[.int .u8 120] 5 (1, 2))
        have u2 := (Upd.refl [] w9).alloc (.cells #[.int .u8 120] 5 (1, 2))
        refine hK _ _ (.inr u2) ?_
        clear hK K
        try simp only [Act.put, List.setIfInBounds_toArray, List.set_cons_succ, List.set_cons_zero]
        clear hcv u1
        generalize w9.alloc (.cells #[.int .u8 120] 5 (1, 2)) = w10 at *
        have SX := hide (src_x hB)
        have hz10 := u2.size
        have hlt10 := blk_lt hB
        have P10 := hide (P7.out.upd_nil (t8.trans (t9.trans u2)))
        clear hB
        refine wpAnyZ_one 28 (by kernel_rfl) rfl rfl (fun K hK => ?_)
        try simp only [List.getElem_toArray, List.getElem_cons_succ, List.getElem_cons_zero]
        go_simp
        have hnb := blk_lt P7.out.st.blk; have hng := MapKind.is_lt P7.out.st.map
        refine (kput_full (b0 := ⟨w9.heap.size, 0, none⟩) (bs := [120]) w10 P10.out.st MB.out.ok (by omega) SX.out (by simp) (by simp only; omega) (by simp only; omega)).mono ?_
        obtain ⟨K2, hK2⟩ : ∃ x, kvB m' = x := ⟨_, rfl⟩
        have hk2 := kvB_len' MB.out.ok (by omega)
        obtain ⟨K3, hK3⟩ : ∃ x, [120] ++ K2 = x := ⟨_, rfl⟩
        rw [hK2] at hk2 ⊢
        rw [hK3]
        have HK2 := hide hK2; have HK3 := hide hK3
        clear hK2 hK3
        rintro e w11 ⟨v11, rfl, h11⟩
        have t11 : Upd [] w9 w11 := u2.trans_new h11.upd (fun k hk => .inr (by simp [Value.ownBlock] at hk; omega))
        obtain ⟨a11, c11, rfl, -, -, -⟩ := owns_slice h11.own
        have O11 := hide h11.own
        have hz11 := t11.size
        refine hK _ _ (.inr t11) ?_
        clear hK K
        try simp only [Act.put, List.setIfInBounds_toArray, List.set_cons_succ, List.set_cons_zero]
        refine wpAnyZ_strong (S' := fun wx => Upd [] w11 wx) (fun wx h => t11.trans h) _ _ _ _ ?_
        have x0 : Upd [] w11 w11 := Upd.refl _ _
        clear h11
        refine wpAnyZ_takeE 29 rfl (by kernel_rfl) (by kernel_rfl) (by kernel_rfl) (by kernel_rfl) (fun _ _ _ _ h => h) rfl (by exact x0) ?_
        apply Exists.intro
        refine ⟨fun wx hS => ?_, ?_⟩
        · have hq := run_str (src_own (owns_upd O11.out hS (by simp)) (by simp [u8v, Value.oneCell'])); go_simp; rfl
        simp only [Act.put, List.setIfInBounds_toArray, List.set_cons_succ, List.set_cons_zero, List.getElem_toArray, List.getElem_cons_succ, List.getElem_cons_zero]
        refine wpAnyZ_one 31 (by kernel_rfl) rfl rfl (fun K hK => ?_)
        try simp only [List.getElem_toArray, List.getElem_cons_succ, List.getElem_cons_zero]
        go_simp
        have P11 := hide (P7.out.upd_nil (t8.trans (t9.trans t11)))
        refine (rbytes_any w11 P11.out.row MB.out.ok (by omega)).mono ?_
        rw [HK2.out]
        rintro e w12 ⟨v12, rfl, o12, t12⟩
        obtain ⟨a12, c12, rfl, -, -, -⟩ := owns_slice o12
        have O12 := hide o12
        have hz12 := t12.size
        clear o12
        refine hK _ _ (.inr t12) ?_
        clear hK K
        try simp only [Act.put, List.setIfInBounds_toArray, List.set_cons_succ, List.set_cons_zero]
        refine wpAnyZ_strong (S' := fun wx => Upd [] w12 wx) (fun wx h => t12.trans h) _ _ _ _ ?_
        have y0 : Upd [] w12 w12 := Upd.refl _ _
        have HL12 := hide (show (9223372036854775807 < (⟨#[120]⟩ : ByteArray).size + (strOf K2).size) = False by simp only [eq_iff_iff, iff_false, strOf_size]; simp [ByteArray.size]; omega)
        have HC12 := hide (show (⟨#[120]⟩ : ByteArray) ++ strOf K2 = strOf K3 by rw [← HK3.out]; exact strOf_append [120] K2)
        refine wpAnyZ_takeE 32 rfl (by kernel_rfl) (by kernel_rfl) (by kernel_rfl) (by kernel_rfl) (fun _ _ _ _ h => h) rfl (by exact y0) ?_
        apply Exists.intro
        refine ⟨fun wx hS => ?_, ?_⟩
        · have hq := run_str (src_own (owns_upd O12.out hS (by simp)) (by simp [u8v, Value.oneCell'])); go_simp; rfl
        simp only [Act.put, List.setIfInBounds_toArray, List.set_cons_succ, List.set_cons_zero, List.getElem_toArray, List.getElem_cons_succ, List.getElem_cons_zero]
        refine wpAnyZ_takeE 33 rfl (by kernel_rfl) (by kernel_rfl) (by kernel_rfl) (by kernel_rfl) (fun _ _ _ _ h => h) rfl (by exact y0) ?_
        apply Exists.intro
        refine ⟨fun wx hS => ?_, ?_⟩
        · have hq := HL12.out ; have hq2 : (9223372036854775807 < 1 + (strOf K2).size) = False := hq ; have hq3 := HC12.out; go_simp; rfl
        simp only [Act.put, List.setIfInBounds_toArray, List.set_cons_succ, List.set_cons_zero, List.getElem_toArray, List.getElem_cons_succ, List.getElem_cons_zero]
        refine wpAnyZ_takeE 34 rfl (by kernel_rfl) (by kernel_rfl) (by kernel_rfl) (by kernel_rfl) (fun _ _ _ _ h => h) rfl (by exact y0) ?_
        apply Exists.intro
        refine ⟨fun wx hS => ?_, ?_⟩
        · have hq : ((strOf K3).toList == (strOf K3).toList) = true := (by simp); go_simp; rfl
        simp only [Act.put, List.setIfInBounds_toArray, List.set_cons_succ, List.set_cons_zero, List.getElem_toArray, List.getElem_cons_succ, List.getElem_cons_zero]
        refine wpAnyZ_takeE 35 rfl (by kernel_rfl) (by kernel_rfl) (by kernel_rfl) (by kernel_rfl) (fun _ _ _ _ h => h) rfl (by exact y0) ?_
        apply Exists.intro
        refine ⟨fun wx hS => ?_, ?_⟩
        · go_simp; rfl
        simp only [Act.put, List.setIfInBounds_toArray, List.set_cons_succ, List.set_cons_zero, List.getElem_toArray, List.getElem_cons_succ, List.getElem_cons_zero]
        refine wpAnyZ_done (by kernel_rfl) ?_ _
        have PE := hide (P11.out.upd_nil t12)
        have hbase : Upd [] w7 w12 := t8.trans (t9.trans (t11.trans t12))
        clear x0 y0 u0 t0 t0' t8 t9 t11 t12 HL12 HC12 O8 O9 O11 O12 SX P10 P11 P7 RO7 S7 hbase CC6 X6 R6 S6 P6 HK1 HK2 HK3 HD hk1 hk2
        obtain ⟨wo, hwo⟩ : ∃ x, x = wr := ⟨_, rfl⟩
        subst hwo
        obtain ⟨_, _, e0, -, -, hkg⟩ := KS.out.get
        cases e0
        have KG := hide hkg
        have hk100 := HSC.out.2.2.1
        clear hkg
        go_wp2_with fail
        go_loopw [9] (fun sk wr => ∃ q : Nat, q ≤ c.keys.length ∧ sk = .int .i64 q ∧ Plays w wr (N1 + 1) N1 N2 m' (.slice xm5 m'.length cm5)) (fun sk _ => c.keys.length - (RowKit.intOf sk).toNat)
        case atStart => exact ⟨0, by omega, rfl, PE.out⟩
        case round =>
          obtain ⟨q, hq, rfl, hp⟩ := hrel
          have PQ := hide hp
          clear hp
          obtain ⟨c0, c1, c2, c3, c4, c5, c6⟩ := CC.out.upd PQ.out.upd hbc (by simp)
          by_cases hlq : q < c.keys.length
          · have d6 : decide ((q : Int) < c.keys.length) = true := by simp; omega
            have d6' : decide (q < c.keys.length) = true := by simpa using hlq
            obtain ⟨kx, hkx⟩ : ∃ kx, c.keys[q]? = some kx := ⟨_, List.getElem?_eq_getElem hlq⟩
            obtain ⟨bk, ok, rfl, hbk, hck⟩ := KG.out q kx hkx
            have ck := cell_upd hck PQ.out.upd (by simp)
            have hkl := HSC.out.2.2.2 kx (List.mem_of_getElem? hkx)
            obtain ⟨pm, pc, e3, -, -, hpg⟩ := pair_get PQ.out.row
            cases e3
            have PG := hide hpg
            clear hkx hck hpg
            go_wp2_with fail
            refine (kget_any (k := kx) wr PQ.out.st (by unfold maxLen; omega)).mono ?_
            rintro e wx ⟨rfl, rfl⟩
            go_wp2_with fail
            refine (find_any (k := kx) wr PQ.out.row).mono ?_
            rintro e wx ⟨⟨f, rfl, hf⟩, rfl⟩
            rcases hf with ⟨rfl, hn⟩ | ⟨fx, vx, rfl, hx, hfx⟩
            · have qn : decide ((0 : Int) ≤ -1) = false := by decide
              rw [hn]
              clear hn
              go_wp2_with fail
              go_roundw
              case rel => exact ⟨q + 1, by omega, by go_num, PQ.out⟩
              case measure => simp [RowKit.intOf]; omega
            · have qn : decide ((0 : Int) ≤ (fx : Int)) = true := by simp
              have hlx := (List.getElem?_eq_some_iff.1 hx).1
              obtain ⟨bx, ofx, ex, hbx, -, -, hcx⟩ := PG.out fx _ hx
              cases ex
              have heq : ((strOf vx).toList == (strOf vx).toList) = true := by simp
              rw [hfx]
              clear hx hfx
              go_wp2_with fail
              go_roundw
              case rel => exact ⟨q + 1, by omega, by go_num, PQ.out⟩
              case measure => simp [RowKit.intOf]; omega
          · have d6 : decide ((q : Int) < c.keys.length) = false := by simp; omega
            have d6' : decide (q < c.keys.length) = false := by simpa using hlq
            clear hlq
            go_wp2_with fail
            go_roundw
            case rel => exact ⟨i + 1, m', by omega, by go_num, HF.out.symm, PQ.out⟩
            case measure => simp [RowKit.intOf]; omega
      · have d5 : decide ((i : Int) < l.length) = false := by simp; omega
        have d5' : decide (i < l.length) = false := by simpa using hlt
        clear hlt
        have hfw := takeK_fwd (lim := 64) (m := m) (by omega) (by omega) MOK.out MNE.out (by omega) []
        have hkb := kvB_len' MOK.out (by omega)
        obtain ⟨K, hK⟩ : ∃ x, kvB m = x := ⟨_, rfl⟩
        rw [hK, List.append_nil] at hfw
        rw [hK] at hkb
        have HK := hide hK; have HFW := hide hfw
        clear hK hfw
        go_wp2_with fail
        refine (rbytes_any wr P.out.row MOK.out (by omega)).mono ?_
        rw [HK.out]
        rintro e w4 ⟨v4, rfl, o4, t4⟩
        obtain ⟨a4, c4, rfl, hn4, hc4, -⟩ := owns_slice o4
        have P4 := hide (P.out.upd_nil t4); have SR4 := hide (src_own o4 (by simp [u8v, Value.oneCell']))
        clear o4 t4
        go_wp2_with fail
        refine (Var.new_any (xo := a4) (m := K.length) (c := c4) (lim := ((64 : Nat) : Int)) w4).mono ?_
        rintro e w5 ⟨_, rfl, rfl, hr5, hu5⟩
        have r5 := rds_of' (T := fun k => k < w4.heap.size) hr5 (src_upd SR4.out hu5 (by simp)) hn4 (fun a ha hm => src_lt' SR4.out a ha hm)
        have hlt5 := blk_lt hr5.hR
        have R5 := hide r5; have P5 := hide (P4.out.upd_nil hu5); have HU5 := hide hu5
        obtain ⟨RR, hRR⟩ : ∃ x, w4.heap.size = x := ⟨_, rfl⟩
        have KR := hide hRR
        rw [hRR] at R5 hlt5 ⊢
        clear hr5 hu5 r5 hRR SR4
        go_wp2_with fail
        refine (take_any w5 R5.out hlt5 (fun k hk => by omega) (by simp only; omega) (by omega)).mono ?_
        rw [HFW.out]
        rintro e w6 ⟨⟨v6, rfl, hv6⟩, -, hu6⟩
        obtain ⟨b6, g6, rfl, hs6, hb6, hg6⟩ := hv6
        have hRN : N2 ≤ RR := by have := KR.out; have := P4.out.size; omega
        have P6 := hide (show Plays w w6 (N1 + 1) N1 N2 m (.slice xm m.length cm) from ⟨P5.out.st.upd hu6 (by simp; omega) (by simp; omega), pairK.row_mono (pairK.row_upd P4.out.row ((HU5.out.mono (by simp)).trans hu6) (fun k hk hT => by simp at hk; have := hT.2; have := KR.out; omega)) (fun k hk => ⟨hk.1, by have := hk.2; have := HU5.out.size; have := hu6.size; omega⟩), P5.out.upd.trans_new hu6 (fun k hk => .inr (by simp at hk; omega)), by have := hu6.size; have := P5.out.size; omega⟩)
        have S6 := hide hs6
        clear hs6 hu6 R5
        simp only
        go_wp2_with fail
        refine (kget_nil _ w6).mono ?_
        rintro e wx ⟨rfl, rfl⟩
        clear P4 P5 HU5 HFW
        go_wp2_with fail
        refine (ksame_any w6 S6.out P6.out.st MOK.out MOK.out (by omega)).mono ?_
        rw [decide_eq_true rfl]
        rintro e w7 ⟨rfl, hu7⟩
        have P7 := hide (P6.out.upd_nil hu7)
        clear hu7 S6 P6
        go_wp2_with fail
        refine (kcopy_any w7 P7.out.st MOK.out (by omega)).mono ?_
        rintro e w8 ⟨⟨b8, g8, rfl, hs8, -, -⟩, hu8⟩
        have P8 := hide (P7.out.upd_nil hu8); have S8 := hide hs8
        clear hs8 hu8 P7
        go_wp2_with fail
        refine (ksame_any w8 P8.out.st S8.out MOK.out MOK.out (by omega)).mono ?_
        rw [decide_eq_true rfl]
        rintro e w9 ⟨rfl, hu9⟩
        have P9 := hide (P8.out.upd_nil hu9)
        clear hu9 P8 S8
        go_wp2_with fail
        refine (ksame_nil w9 P9.out.st MOK.out).mono ?_
        obtain ⟨em, hem⟩ : ∃ x, decide (m = []) = x := ⟨_, rfl⟩
        have hel : ((m.length : Int) == 0) = em := by
          rw [← hem]
          cases m with
          | nil => rfl
          | cons a t => simp; omega
        have hel' : decide (m.length = 0) = em := by
          rw [← hem]
          cases m with
          | nil => rfl
          | cons a t => simp
        rw [hem]
        clear hem
        rintro e w10 ⟨rfl, hu10⟩
        have P10 := hide (P9.out.upd_nil hu10)
        clear hu10 P9
        go_wp2_with fail
        refine (klen_nil w10).mono ?_
        rintro e wx ⟨rfl, rfl⟩
        go_wp2_with fail
        refine (kdo_nil w10).mono ?_
        rintro e w11 ⟨rfl, hu11⟩
        have P11 := hide (P10.out.upd_nil hu11)
        unfold rpv
        have hfd := field_code w11
        clear hu11 P10
        go_wp2_with fail
        refine (kcopy_nil w11).mono ?_
        rintro e w12 ⟨⟨b12, g12, rfl, hs12, -, -⟩, hu12⟩
        have P12 := hide (P11.out.upd_nil hu12); have S12 := hide hs12
        clear hs12 hu12 P11
        go_wp2_with fail
        refine (klen_any w12 S12.out).mono ?_
        rintro e wx ⟨rfl, rfl⟩
        go_wp2_with fail
        refine (kput_nil w12).mono ?_
        rintro e w13 ⟨v13, rfl, h13⟩
        obtain ⟨a13, c13, rfl, -, -, -⟩ := owns_slice h13.own
        have P13 := hide (P12.out.upd_nil (h13.upd.mono (by simp [Value.ownBlock])))
        have hq := run_str (src_own h13.own (by simp [u8v, Value.oneCell']))
        have hk0 : kvB [] = [0] := by simp [kvB, uv_last]
        rw [hk0] at hq ⊢
        have hq' : (convert 38 9 (.slice a13 1 c13)).run Tryz.prog w13 = .ok (.string (strOf [0])) w13 := hq
        have heq0 : (strOf [0]).toList = [0] := by simp [strOf]
        clear h13 S12 P12 hk0 hq
        go_wp2_with fail
        refine (wakes9_any w13 (ENV.out.upd_nil P13.out.upd)).mono ?_
        rintro e w14 ⟨rfl, hu14⟩
        have U14 := hide (P13.out.upd.trans hu14)
        clear hu14
        go_wp2_with fail
        go_ret
        exact ⟨rfl, U14.out⟩
end Go.Proofs.YtcjflnnjieolfaaGreatDoor.Kv
