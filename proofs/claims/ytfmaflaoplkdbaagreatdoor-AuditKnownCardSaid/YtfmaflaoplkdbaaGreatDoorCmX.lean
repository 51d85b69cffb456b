/- cmd.Parse. -/
import Derived.Test.YtfmaflaoplkdbaaGreatDoorCmW
import Derived.Test.YtfmaflaoplkdbaaGreatDoorCmK
import Derived.Test.YtfmaflaoplkdbaaGreatDoorTrR
set_option linter.unusedSimpArgs false
set_option linter.unusedVariables false
set_option linter.unnecessarySimpa false
namespace Go.Proofs.YtfmaflaoplkdbaaGreatDoor.Tr
open Go.RowKit Go.Proofs.YtfmaflaoplkdbaaGreatDoor.Crc Go.Proofs.YtfmaflaoplkdbaaGreatDoor.Cm Go.Proofs.YtfmaflaoplkdbaaGreatDoor.Var

theorem infoC : (Tryz.prog.info? TCmd).map (fun i => (i.zero, i.size, i.bytes)) = some (some (.agg ZA), 7, 80) := by kernel_rfl
theorem cmAt_cells {w : World} {T : Nat → Prop} {c : Cm} {ks : Value} (h : CmAt w T (cmv c ks) c) : cmK.holds w T c (cmc c ks) := by
  obtain ⟨h1, ks', e, h2⟩ := h
  cases e
  exact ⟨h1, ks, rfl, h2⟩
theorem cmc_src {w : World} {b : Nat} {c : Cm} {ks : Value} {t : TypeId} (h : w.heap[b]? = some (.cells (cmc c ks).toArray t (0, 0))) (h1 : ks.oneCell' = true) : SrcAt w (some ⟨b, 0, none⟩) 1 1 (cmc c ks) 7 := by
  refine ⟨rfl, ?_, by simp, fun a e j u hj => ?_⟩
  · intro u hu
    simp only [cmc, strV, List.mem_cons, List.not_mem_nil, or_false] at hu
    rcases hu with rfl | rfl | rfl | rfl | rfl | rfl | rfl <;> first | rfl | exact h1
  · cases e
    have hplain : (⟨b, 0, none⟩ : Addr).add j = ⟨b, j, none⟩ := by unfold Addr.add; split <;> simp_all
    rw [hplain]
    simp only [World.cell?, h]
    simpa using hj
set_option maxRecDepth 100000 in
set_option maxHeartbeats 4000000 in
theorem parse_any {xo : Option Addr} {m c : Nat} {bs : List UInt8} (w : World) (hcnt : CntAt w) (hs : SrcAt w xo m c (bs.map u8v) 1) (hmc : m ≤ c) (hB : bs.length ≤ 1000000000000) :
    Calls Tryz.prog 63 #[.slice xo m c] w fun e w' => (∃ v, e = .returned (.tuple #[v, .int .i64 (parseM bs).2]) ∧ cmK.row w' (since w.heap.size w') v (parseM bs).1) ∧ Upd [] w w' := by
  have HC := hide hcnt; have HS := hide hs
  have hT0 : ∀ a, xo = some a → m ≠ 0 → a.block < w.heap.size := fun a ha hm => by
    obtain ⟨b, off, e, hc⟩ := src_at hs (j := 0) (by omega)
    rw [ha] at e
    cases e
    exact World.block_lt_of_cell? w _ hc
  have HT := hide hT0
  clear hcnt hs hT0
  obtain ⟨i1, hi1, iz0, iz1, iz2⟩ := info_parts infoC
  go_enter Tryz.func63, Tryz.ntmps63
  go_wp2_with fail
  refine (new_any _).mono ?_
  rintro e w1 ⟨_, rfl, rfl, hr, hu⟩
  have hr1 : RdS w1 (fun k => k < w.heap.size) w.heap.size ((64 : Nat) : Int) (0, bs) := ⟨xo, m, c, hr, fun _ => ⟨src_upd_nil HS.out hu, hmc, HT.out⟩⟩
  have hz1 : w.heap.size < w1.heap.size := blk_lt hr.hR
  have R1 := hide hr1; have U1 := hide hu
  clear hr hu hr1
  obtain ⟨n, s1, e1⟩ : ∃ n s1, uintM (0, bs) = (n, s1) := ⟨_, _, rfl⟩
  have hl1 : s1.2.length ≤ 1000000000000 := by have := uintM_len (0, bs); rw [e1] at this; simp only at this; omega
  have E1 := hide e1
  clear e1
  go_wp2_with fail
  refine (small_s (most := 8) _ R1.out).mono ?_
  rw [E1.out]
  rintro e w2 ⟨rfl, hr2, hu2⟩
  have R2 := hide hr2; have U2 := hide (U1.out.trans_new hu2 (fun k hk => .inr (by simp at hk; omega)))
  have hz2 : w.heap.size < w2.heap.size := by have := hu2.size; omega
  clear hr2 hu2 R1 U1
  simp only
  by_cases h8 : n ≤ 8
  · have d8 : decide (n ≤ 8) = true := by simpa using h8
    have hpg : goM n [] s1 = parseM bs := by
      unfold parseM
      rw [E1.out]
      simp only [h8, if_true]
    have PG := hide hpg
    clear hpg
    rw [d8]
    go_wp2_with fail
    go_loopw [5, 8] (fun so si wr => ∃ (k : Nat) (out : List Cm) (s : St), k ≤ n ∧ si = .int .u64 k ∧ out.length = k ∧ cmK.bag TCmd wr (w.heap.size + 1) so out ∧ RdS wr (fun k => k < w.heap.size) w.heap.size ((64 : Nat) : Int) s ∧ s.2.length ≤ 1000000000000 ∧ goM (n - k) out s = parseM bs ∧ w.heap.size < wr.heap.size ∧ Upd [] w wr) (fun _ si _ => n - (intOf si).toNat)
    case atStart => exact ⟨0, [], s1, by omega, rfl, rfl, cmK.bag_nil _ _ _, R2.out, hl1, PG.out, hz2, U2.out⟩
    case round =>
      obtain ⟨k, out, ⟨er, rest⟩, hk, rfl, hol, hbg, hr, hl, hg, hz, hu⟩ := hrel
      have HBG := hide hbg; have HR := hide hr; have HG0 := hide hg; have HU := hide hu; have HOLN := hide hol
      clear hbg hr hg hu hol
      by_cases hlt : k < n
      · have q1 : decide ((k : Int) < (n : Int)) = true := by simp; omega
        have q1' : decide (k < n) = true := by simp; omega
        go_wp2_with fail
        refine (err_s _ HR.out).mono ?_
        rintro e w2 ⟨rfl, rfl⟩
        simp only
        by_cases he : er = 0
        · subst he
          obtain ⟨j, hj⟩ : ∃ j, n - k = j + 1 := ⟨n - k - 1, by omega⟩
          obtain ⟨c1, g1, ⟨er2, rest2⟩, et⟩ : ∃ c1 g1 s2, takeM 64 (0, rest) = (c1, g1, s2) := ⟨_, _, _, rfl⟩
          have hg1 := HG0.out
          rw [hj] at hg1
          unfold goM at hg1
          rw [if_neg (by simp), et] at hg1
          simp only at hg1
          have hl2 : rest2.length ≤ 1000000000000 := by have := takeM_left 64 (0, rest); rw [et] at this; simp only at this hl; omega
          obtain ⟨ao, cap, rfl, hc1, hc2⟩ := Row.slice (cmK.bag_row HBG.out)
          have hol2 := Own.lt HBG.out
          have hlo : out.length ≤ 8 := by have := HOLN.out; omega
          have ET := hide et; have HG1 := hide hg1; have HOL := hide (fun g hg => (hol2 g hg).1)
          have HOL2 := hide (fun g hg => (hol2 g hg).2)
          clear et hg1 hol2 HG0
          go_wp2_with fail
          refine (take_any _ HR.out (fun k hk => by omega) hz hl).mono ?_
          rw [ET.out]
          rintro e w3 ⟨⟨v, rfl, fit, ks, rfl, hks⟩, hr3, hu3⟩
          obtain ⟨ka, kc, rfl, -, -, -⟩ := hks.get
          have BG3 := hide (cmK.bag_upd HBG.out hu3 (by simp))
          have hks3 : Strs w3 (beside (w.heap.size + 1) w3 (.slice ao out.length cap)) (.slice ka c1.keys.length kc) c1.keys := hks.mono (since_beside HOL2.out (by omega))
          have KS3 := hide hks3; have R3 := hide hr3; have FIT := hide fit
          have U3 := hide (HU.out.trans_new hu3 (fun g hm => .inr (by simp at hm; omega)))
          have hz3 : w.heap.size < w3.heap.size := by have := hu3.size; omega
          clear hks hr3 fit hu3 hks3 HBG HR HU
          unfold cmv
          simp only [strV]
          go_wp2_with fail
          have hY := blk_new w3 (.cells #[.int .u32 (c1.client : Int), .int .u32 (c1.seq : Int), .int .u8 (c1.kind : Int), .slice ka c1.keys.length kc, .string (strOf c1.old), .string (strOf c1.new), .int .i64 c1.n] TCmd)
          have hA := (Upd.refl [] w3).alloc (.cells #[.int .u32 (c1.client : Int), .int .u32 (c1.seq : Int), .int .u8 (c1.kind : Int), .slice ka c1.keys.length kc, .string (strOf c1.old), .string (strOf c1.new), .int .i64 c1.n] TCmd)
          generalize w3.alloc (.cells #[.int .u32 (c1.client : Int), .int .u32 (c1.seq : Int), .int .u8 (c1.kind : Int), .slice ka c1.keys.length kc, .string (strOf c1.old), .string (strOf c1.new), .int .i64 c1.n] TCmd) = w5 at *
          have A5 := hide hA; have Y5 := hide hY
          clear hY hA
          have y0 : w5.cell? ⟨w3.heap.size, 0, none⟩ = some (.int .u32 (c1.client : Int)) := blk_cell Y5.out rfl
          have y1 : w5.cell? ⟨w3.heap.size, 1, none⟩ = some (.int .u32 (c1.seq : Int)) := blk_cell Y5.out rfl
          have y2 : w5.cell? ⟨w3.heap.size, 2, none⟩ = some (.int .u8 (c1.kind : Int)) := blk_cell Y5.out rfl
          have y3 : w5.cell? ⟨w3.heap.size, 3, none⟩ = some (.slice ka c1.keys.length kc) := blk_cell Y5.out rfl
          have y4 : w5.cell? ⟨w3.heap.size, 4, none⟩ = some (.string (strOf c1.old)) := blk_cell Y5.out rfl
          have y5 : w5.cell? ⟨w3.heap.size, 5, none⟩ = some (.string (strOf c1.new)) := blk_cell Y5.out rfl
          have y6 : w5.cell? ⟨w3.heap.size, 6, none⟩ = some (.int .i64 c1.n) := blk_cell Y5.out rfl
          refine (err_s _ (R3.out.upd A5.out)).mono ?_
          rintro e w4 ⟨rfl, rfl⟩
          simp only
          by_cases he2 : er2 = 0
          · subst he2
            cases g1 with
            | false =>
              go_wp2_with fail
              go_ret2
              have hp : parseM bs = ([], 11) := by
                rw [← HG1.out, if_pos (by simp)]
              rw [hp]
              exact ⟨⟨_, rfl, cmK.row_nil _ _⟩, U3.out.trans A5.out⟩
            | true =>
              go_wp2_with fail
              refine (check_any w5 (HC.out.upd_nil (U3.out.trans A5.out)) (T := beside (w.heap.size + 1) w3 (.slice ao out.length cap)) (c := c1) ⟨FIT.out, _, rfl, KS3.out.upd_nil A5.out⟩).mono ?_
              rintro e w6 ⟨hu6, rfl⟩
              by_cases hgd : Cm.Good c1
              · have hck : checkM c1 = 0 := by unfold checkM; rw [if_pos hgd]
                have hgn : goM j (out ++ [c1]) (0, rest2) = parseM bs := by
                  rw [← HG1.out, if_neg (by simp [hgd])]
                have HGN := hide hgn
                rw [hck]
                have A6 := hide (A5.out.trans hu6); have Y6 := hide (hu6.get Y5.out (by simp))
                clear hgn hck hgd hu6 y0 y1 y2 y3 y4 y5 y6 A5 Y5
                have z0 : w6.cell? ⟨w3.heap.size, 0, none⟩ = some (.int .u32 (c1.client : Int)) := blk_cell Y6.out rfl
                have z1 : w6.cell? ⟨w3.heap.size, 1, none⟩ = some (.int .u32 (c1.seq : Int)) := blk_cell Y6.out rfl
                have z2 : w6.cell? ⟨w3.heap.size, 2, none⟩ = some (.int .u8 (c1.kind : Int)) := blk_cell Y6.out rfl
                have z3 : w6.cell? ⟨w3.heap.size, 3, none⟩ = some (.slice ka c1.keys.length kc) := blk_cell Y6.out rfl
                have z4 : w6.cell? ⟨w3.heap.size, 4, none⟩ = some (.string (strOf c1.old)) := blk_cell Y6.out rfl
                have z5 : w6.cell? ⟨w3.heap.size, 5, none⟩ = some (.string (strOf c1.new)) := blk_cell Y6.out rfl
                have z6 : w6.cell? ⟨w3.heap.size, 6, none⟩ = some (.int .i64 c1.n) := blk_cell Y6.out rfl
                have hks5 : Strs w6 (beside (w.heap.size + 1) w6 (.slice ao out.length cap)) (.slice ka c1.keys.length kc) c1.keys := (KS3.out.upd_nil A6.out).mono (fun g hg => ⟨hg.1, Nat.lt_of_lt_of_le hg.2.1 A6.out.size, hg.2.2⟩)
                have hal := (Upd.refl [] w6).alloc (.cells (cmc c1 (.slice ka c1.keys.length kc)).toArray TCmd)
                have R5 := hide (R3.out.upd A6.out); have U5 := hide (U3.out.trans A6.out)
                have hz5 : w.heap.size < w6.heap.size := by have := A6.out.size; omega
                have hks6 : cmK.holds (w6.alloc (.cells (cmc c1 (.slice ka c1.keys.length kc)).toArray TCmd)) (beside (w.heap.size + 1) (w6.alloc (.cells (cmc c1 (.slice ka c1.keys.length kc)).toArray TCmd)) (.slice ao out.length cap)) c1 (cmc c1 (.slice ka c1.keys.length kc)) :=
                  ⟨FIT.out, _, rfl, (hks5.upd_nil hal).mono (fun g hg => ⟨hg.1, Nat.lt_of_lt_of_le hg.2.1 hal.size, hg.2.2⟩)⟩
                obtain ⟨css, hcss, hrow⟩ := cmK.bag_open (cmK.bag_upd_nil (cmK.bag_upd_nil BG3.out A6.out) hal)
                have hcl := hcss.len
                have HKS := hide hks6; have HCSS := hide hcss; have HROW := hide hrow
                clear hks5 hal hks6 hcss hrow
                go_wp2_with (at_builtin; go_must (refine wpList_append_src _ rfl _ _ 31 rfl (w.heap.size + 1) TCmd i1 (.agg ZA) 7 80 Tryz.underlying31 hi1 iz0 iz1 iz2 rfl (by decide) (.slice ao out.length cap) out.length css.flatten rfl HROW.out (some ⟨w6.heap.size, 0, none⟩) 1 1 (cmc c1 (.slice ka c1.keys.length kc)) rfl (cmc_src (blk_new _ _) rfl) (by unfold maxLen; omega) (by omega) (by simp; omega) ?_))
                intro ao6 cap6 w7 hown6 hU6 hn6
                have bg6 := Kind.bag_more HCSS.out HKS.out hown6 rfl hU6 (by simpa using hn6)
                have hU6' := grown_upd hU6
                have r6 := R5.out.updS hU6' (fun hm => by have := HOL.out _ (by simpa using hm); omega) (fun g hm hk => by have := HOL.out _ (by simpa using hm); omega)
                have u6 := U5.out.trans_new hU6' (fun g hm => .inr (by have := HOL.out _ (by simpa using hm); omega))
                have hz6 : w.heap.size < w7.heap.size := by have := hU6'.size; omega
                have BG6 := hide bg6; have R6 := hide r6; have U6 := hide u6
                clear hown6 hU6 hU6' hn6 bg6 r6 u6
                go_wp2_with fail
                go_roundw
                case rel => exact ⟨k + 1, out ++ [c1], (0, rest2), by omega, by go_num, by simp; exact HOLN.out, BG6.out, R6.out, hl2, by rw [show n - (k + 1) = j by omega]; exact HGN.out, hz6, U6.out⟩
                case measure => simp [intOf]; omega
              · have hck : checkM c1 = 1 := by unfold checkM; rw [if_neg hgd]
                have hp : parseM bs = ([], 11) := by
                  rw [← HG1.out, if_pos (by simp [hgd])]
                have HP := hide hp; have U6 := hide ((U3.out.trans A5.out).trans hu6)
                rw [hck]
                clear hp hgd hck hu6
                go_wp2_with fail
                go_ret2
                rw [HP.out]
                exact ⟨⟨_, rfl, cmK.row_nil _ _⟩, U6.out⟩
          · have q3 : (er2 != 0) = true := by simpa using he2
            have q2 : (er2 == 0) = false := by simpa using he2
            have hgn : goM j (out ++ [c1]) (er2, rest2) = parseM bs := by
              rw [← HG1.out, if_neg (by simp [he2])]
            have HGN := hide hgn
            clear hgn he2
            have hks5 : Strs w5 (beside (w.heap.size + 1) w5 (.slice ao out.length cap)) (.slice ka c1.keys.length kc) c1.keys := (KS3.out.upd_nil A5.out).mono (fun g hg => ⟨hg.1, Nat.lt_of_lt_of_le hg.2.1 A5.out.size, hg.2.2⟩)
            have hal := (Upd.refl [] w5).alloc (.cells (cmc c1 (.slice ka c1.keys.length kc)).toArray TCmd)
            have R5 := hide (R3.out.upd A5.out); have U5 := hide (U3.out.trans A5.out)
            have hz5 : w.heap.size < w5.heap.size := by have := A5.out.size; omega
            have hks6 : cmK.holds (w5.alloc (.cells (cmc c1 (.slice ka c1.keys.length kc)).toArray TCmd)) (beside (w.heap.size + 1) (w5.alloc (.cells (cmc c1 (.slice ka c1.keys.length kc)).toArray TCmd)) (.slice ao out.length cap)) c1 (cmc c1 (.slice ka c1.keys.length kc)) :=
              ⟨FIT.out, _, rfl, (hks5.upd_nil hal).mono (fun g hg => ⟨hg.1, Nat.lt_of_lt_of_le hg.2.1 hal.size, hg.2.2⟩)⟩
            obtain ⟨css, hcss, hrow⟩ := cmK.bag_open (cmK.bag_upd_nil (cmK.bag_upd_nil BG3.out A5.out) hal)
            have hcl := hcss.len
            have HKS := hide hks6; have HCSS := hide hcss; have HROW := hide hrow
            clear hks5 hal hks6 hcss hrow
            go_wp2_with (at_builtin; go_must (refine wpList_append_src _ rfl _ _ 31 rfl (w.heap.size + 1) TCmd i1 (.agg ZA) 7 80 Tryz.underlying31 hi1 iz0 iz1 iz2 rfl (by decide) (.slice ao out.length cap) out.length css.flatten rfl HROW.out (some ⟨w5.heap.size, 0, none⟩) 1 1 (cmc c1 (.slice ka c1.keys.length kc)) rfl (cmc_src (blk_new _ _) rfl) (by unfold maxLen; omega) (by omega) (by simp; omega) ?_))
            intro ao6 cap6 w6 hown6 hU6 hn6
            have bg6 := Kind.bag_more HCSS.out HKS.out hown6 rfl hU6 (by simpa using hn6)
            have hU6' := grown_upd hU6
            have r6 := R5.out.updS hU6' (fun hm => by have := HOL.out _ (by simpa using hm); omega) (fun g hm hk => by have := HOL.out _ (by simpa using hm); omega)
            have u6 := U5.out.trans_new hU6' (fun g hm => .inr (by have := HOL.out _ (by simpa using hm); omega))
            have hz6 : w.heap.size < w6.heap.size := by have := hU6'.size; omega
            have BG6 := hide bg6; have R6 := hide r6; have U6 := hide u6
            clear hown6 hU6 hU6' hn6 bg6 r6 u6
            go_wp2_with fail
            go_roundw
            case rel => exact ⟨k + 1, out ++ [c1], (er2, rest2), by omega, by go_num, by simp; exact HOLN.out, BG6.out, R6.out, hl2, by rw [show n - (k + 1) = j by omega]; exact HGN.out, hz6, U6.out⟩
            case measure => simp [intOf]; omega
        · have q3 : (er != 0) = true := by simpa using he
          have q2 : (er == 0) = false := by simpa using he
          have hg : endM out (er, rest) = parseM bs := by
            have := HG0.out
            obtain ⟨j, hj⟩ : ∃ j, n - k = j + 1 := ⟨n - k - 1, by omega⟩
            rw [hj] at this
            unfold goM at this
            rw [if_pos (by exact he)] at this
            exact this
          have HG := hide hg
          clear hg he
          go_wp2_with fail
          refine (err_s _ HR.out).mono ?_
          rintro e w2 ⟨rfl, rfl⟩
          simp only
          by_cases he : er = 0
          · subst he
            go_wp2_with fail
            refine (done_s _ HR.out).mono ?_
            rintro e w3 ⟨rfl, hr3, hu3⟩
            have U3 := hide (HU.out.trans_new hu3 (fun k hk => .inr (by simp at hk; omega)))
            have BG3 := hide (cmK.bag_upd HBG.out hu3 (by simp))
            clear hr3 hu3
            obtain ⟨de, hde⟩ : ∃ de, (doneM (0, rest)).1 = de := ⟨_, rfl⟩
            rw [hde]
            have HDE := hide hde
            clear hde
            by_cases hd0 : de = 0
            · subst hd0
              go_wp2_with fail
              go_ret2
              have hp : parseM bs = (out, 0) := by
                rw [← HG.out]
                unfold endM
                rw [if_neg (by simp), if_neg (by rw [HDE.out]; simp)]
              rw [hp]
              exact ⟨⟨_, rfl, cmK.row_mono (cmK.bag_row BG3.out) (fun k hk => ⟨by have := hk.1; omega, hk.2⟩)⟩, U3.out⟩
            · have q1 : (de != 0) = true := by simpa using hd0
              have q2 : (de == 0) = false := by simpa using hd0
              have HD0 := hide hd0
              clear hd0
              go_wp2_with fail
              go_ret2
              have hp : parseM bs = ([], 11) := by
                rw [← HG.out]
                unfold endM
                rw [if_neg (by simp), if_pos (by rw [HDE.out]; exact HD0.out)]
              rw [hp]
              exact ⟨⟨_, rfl, cmK.row_nil _ _⟩, U3.out⟩
          · have q1 : (er != 0) = true := by simpa using he
            have q2 : (er == 0) = false := by simpa using he
            have HE := hide he
            clear he
            go_wp2_with fail
            go_ret2
            have hp : parseM bs = ([], er) := by
              rw [← HG.out]
              unfold endM
              rw [if_pos (by exact HE.out)]
            rw [hp]
            exact ⟨⟨_, rfl, cmK.row_nil _ _⟩, HU.out⟩
      · have hkn : k = n := by omega
        subst hkn
        have q1 : decide ((k : Int) < (k : Int)) = false := by simp
        have q1' : decide (k < k) = false := by simp
        have hg : endM out (er, rest) = parseM bs := by have := HG0.out; rw [Nat.sub_self] at this; exact this
        have HG := hide hg
        clear hg
        go_wp2_with fail
        refine (err_s _ HR.out).mono ?_
        rintro e w2 ⟨rfl, rfl⟩
        simp only
        by_cases he : er = 0
        · subst he
          go_wp2_with fail
          refine (done_s _ HR.out).mono ?_
          rintro e w3 ⟨rfl, hr3, hu3⟩
          have U3 := hide (HU.out.trans_new hu3 (fun k hk => .inr (by simp at hk; omega)))
          have BG3 := hide (cmK.bag_upd HBG.out hu3 (by simp))
          clear hr3 hu3
          obtain ⟨de, hde⟩ : ∃ de, (doneM (0, rest)).1 = de := ⟨_, rfl⟩
          rw [hde]
          have HDE := hide hde
          clear hde
          by_cases hd0 : de = 0
          · subst hd0
            go_wp2_with fail
            go_ret2
            have hp : parseM bs = (out, 0) := by
              rw [← HG.out]
              unfold endM
              rw [if_neg (by simp), if_neg (by rw [HDE.out]; simp)]
            rw [hp]
            exact ⟨⟨_, rfl, cmK.row_mono (cmK.bag_row BG3.out) (fun k hk => ⟨by have := hk.1; omega, hk.2⟩)⟩, U3.out⟩
          · have q1 : (de != 0) = true := by simpa using hd0
            have q2 : (de == 0) = false := by simpa using hd0
            have HD0 := hide hd0
            clear hd0
            go_wp2_with fail
            go_ret2
            have hp : parseM bs = ([], 11) := by
              rw [← HG.out]
              unfold endM
              rw [if_neg (by simp), if_pos (by rw [HDE.out]; exact HD0.out)]
            rw [hp]
            exact ⟨⟨_, rfl, cmK.row_nil _ _⟩, U3.out⟩
        · have q1 : (er != 0) = true := by simpa using he
          have q2 : (er == 0) = false := by simpa using he
          have HE := hide he
          clear he
          go_wp2_with fail
          go_ret2
          have hp : parseM bs = ([], er) := by
            rw [← HG.out]
            unfold endM
            rw [if_pos (by exact HE.out)]
          rw [hp]
          exact ⟨⟨_, rfl, cmK.row_nil _ _⟩, HU.out⟩
  · have d8 : decide (n ≤ 8) = false := by simp; omega
    obtain ⟨er, rest⟩ := s1
    rw [d8]
    go_wp2_with fail
    go_loopw [8] (fun si wr => si = .int .u64 0 ∧ wr = w2) (fun _ _ => 0)
    case atStart => exact ⟨rfl, rfl⟩
    case round =>
      obtain ⟨rfl, rfl⟩ := hrel
      have H8 := hide h8
      clear h8
      go_wp2_with fail
      refine (err_s _ R2.out).mono ?_
      rintro e w3 ⟨rfl, rfl⟩
      simp only
      by_cases he : er = 0
      · subst he
        go_wp2_with fail
        go_ret2
        have hp : parseM bs = ([], 11) := by
          unfold parseM
          rw [E1.out]
          simp only [H8.out, if_false, ne_eq, not_true_eq_false]
        rw [hp]
        exact ⟨⟨_, rfl, cmK.row_nil _ _⟩, U2.out⟩
      · have q1 : (er != 0) = true := by simpa using he
        have q2 : (er == 0) = false := by simpa using he
        have HE := hide he
        clear he
        go_wp2_with fail
        go_ret2
        have hp : parseM bs = ([], er) := by
          unfold parseM
          rw [E1.out]
          simp only [H8.out, if_false, ne_eq, HE.out, not_false_eq_true, if_true]
        rw [hp]
        exact ⟨⟨_, rfl, cmK.row_nil _ _⟩, U2.out⟩
end Go.Proofs.YtfmaflaoplkdbaaGreatDoor.Tr
