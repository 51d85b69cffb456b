/- single.answered. -/
import Derived.Test.YtanjnhohfcgapaaGreatDoorSgVJ
import Derived.Test.YtanjnhohfcgapaaGreatDoorPureAll
set_option linter.unusedSimpArgs false
set_option linter.unusedVariables false
set_option linter.unnecessarySimpa false
namespace Go.Proofs.YtanjnhohfcgapaaGreatDoor.Sg
open Go.RowKit Go.Proofs.YtanjnhohfcgapaaGreatDoor.Crc Go.Proofs.YtanjnhohfcgapaaGreatDoor.Cm Go.Proofs.YtanjnhohfcgapaaGreatDoor.Tr Go.Proofs.YtanjnhohfcgapaaGreatDoor.Kv Go.Proofs.YtanjnhohfcgapaaGreatDoor.Au
set_option linter.unusedSimpArgs false
set_option linter.unusedVariables false
theorem fromI {f : Int} (h : 0 ≤ f) : f = ((f.toNat : Nat) : Int) := by omega
set_option maxRecDepth 100000 in
set_option maxHeartbeats 8000000 in
theorem answered_any {T M : Nat → Prop} {z p L k : Nat} {x : Sg} {o : Ou} {G : Gh} {m : Mg} {ks : Value} (w : World) (h : Hp w T M z p L x o G) (hL : L ≤ 10000) (hm : MgOk m) (hk : Ky w T ks m.cmd) (hkn : k < x.n) (hs : o.send.length ≤ 40000) :
    Calls Tryz.prog 69 #[.pointer (some ⟨p, 0, none⟩), .int .i64 (k : Int), mgv m ks] w fun e w' => e = .returned (.tuple #[]) ∧ Aft z p w T M (answeredM (k : Int) m (x, o)) w' := by
  obtain ⟨xk, ck, rfl⟩ := hk.slice
  have HH := hide h; have K0 := hide hk; have HMO := hide hm
  have hpl := blk_lt h.at'.1
  clear h hk hm
  unfold mgv
  simp only [strV]
  go_enter Tryz.func69, Tryz.ntmps69
  go_upto_region 1 with fail
  have hB := blk_new w (.cells (mgA m (.slice xk m.cmd.keys.length ck)) TMg)
  have hal := (Upd.refl [] w).alloc (.cells (mgA m (.slice xk m.cmd.keys.length ck)) TMg)
  change Code.wp _ _ _ _ (w.alloc (.cells (mgA m (.slice xk m.cmd.keys.length ck)) TMg))
  generalize w.alloc (.cells (mgA m (.slice xk m.cmd.keys.length ck)) TMg) = w1 at *
  have N1 : Hid (¬ M w.heap.size ∧ ¬ T w.heap.size) := hide (HH.out.at'.2.apt.new (Nat.le_refl _))
  obtain ⟨B, hBn⟩ : ∃ B, w.heap.size = B := ⟨_, rfl⟩
  have HBN := hide hBn
  rw [hBn] at hB hpl N1 ⊢
  have X1 := hide (HH.out.at'.upd_nil hal); have E1 := hide (Ext.of_nil hal T M); have K1 := hide (K0.out.upd hal (by simp)); have B1 := hide hB
  clear hB hal hBn K0
  cases hasks : x.asks with
  | none =>
    have hA := X1.out.2.asks
    rw [hasks] at hA
    have HAS := hide hasks
    have c19 : w1.cell? ⟨p, 19, none⟩ = some (.pointer none) := by rw [← hA.1]; exact blk_cell X1.out.1 rfl
    clear hA hasks
    go_upto_region 2 with fail
    go_quiet (fail)
    go_wp2_with fail
    refine bodyPost_ret (results_none rfl _ _ _) rfl ?_
    refine ⟨rfl, T, M, G, ?_, E1.out.drewN _⟩
    unfold answeredM
    simp only [HAS.out]
    exact X1.out.upd_nil ((Upd.refl [] w1).drewN _)
  | some a =>
    have HAS := hide hasks
    clear hasks
    obtain ⟨ab, g, xq, cq, h1, h2, h3, h4, h5, h6, hMb, hMg, hbg, hbp, hgp, hTg, hTb⟩ := X1.out.ask_open HAS.out
    have c19 : w1.cell? ⟨p, 19, none⟩ = some (.pointer (some ⟨ab, 0, none⟩)) := by rw [← h1]; exact blk_cell X1.out.1 rfl
    have A1 := hide h4; have HM := hide h5
    clear h1 h2 h3 h4 h5 h6 hMb hMg hbg hbp hgp hTg hTb
    have s0 : (w1.drewN 1).heap[ab]? = some (.cells (akc a g (.slice xq a.c.keys.length cq)) TAk (0, 0)) ∧ (w1.drewN 1).heap[B]? = some (.cells (mgA m (.slice xk m.cmd.keys.length ck)) TMg (0, 0)) := ⟨A1.out, B1.out⟩
    have v0 : Upd [] w1 (w1.drewN 1) := (Upd.refl [] w1).drewN 1
    go_upto_region 2 with fail
    clear c19
    refine wp_region_z (fun wx => wx.heap[ab]? = some (.cells (akc a g (.slice xq a.c.keys.length cq)) TAk (0, 0)) ∧ wx.heap[B]? = some (.cells (mgA m (.slice xk m.cmd.keys.length ck)) TMg (0, 0))) 99 (by kernel_rfl) ?_
    refine zE 0 rfl (by kernel_rfl) (fun _ _ _ _ h => h) rfl (by exact s0) ?_
    apply Exists.intro
    refine ⟨fun wx hS => ?_, ?_⟩
    · go_simp; rfl
    simp only [Act.put, List.setIfInBounds_toArray, List.set_cons_succ, List.set_cons_zero, List.getElem_toArray, List.getElem_cons_zero]
    refine zE 1 rfl (by kernel_rfl) (fun _ _ _ _ h => h) rfl (by exact s0) ?_
    apply Exists.intro
    refine ⟨fun wx hS => ?_, ?_⟩
    · go_simp; rfl
    simp only [Act.put, zz1, zz2, zz3, zz4, zz5, zz6]
    refine zE 2 rfl (by kernel_rfl) (fun _ _ _ _ h => h) rfl (by exact s0) ?_
    apply Exists.intro
    refine ⟨fun wx hS => ?_, ?_⟩
    · go_simp; rfl
    simp only [Act.put, zz1, zz2, zz3, zz4, zz5, zz6]
    refine zE 3 rfl (by kernel_rfl) (fun _ _ _ _ h => h) rfl (by exact s0) ?_
    apply Exists.intro
    refine ⟨fun wx hS => ?_, ?_⟩
    · go_simp; rfl
    simp only [Act.put, zz1, zz2, zz3, zz4, zz5, zz6]
    refine zE 4 rfl (by kernel_rfl) (fun _ _ _ _ h => h) rfl (by exact s0) ?_
    apply Exists.intro
    refine ⟨fun wx hS => ?_, ?_⟩
    · go_simp; rfl
    simp only [Act.put, zz1, zz2, zz3, zz4, zz5, zz6]
    refine zE 5 rfl (by kernel_rfl) (fun _ _ _ _ h => h) rfl (by exact s0) ?_
    apply Exists.intro
    refine ⟨fun wx hS => ?_, ?_⟩
    · go_simp; rfl
    simp only [Act.put, zz1, zz2, zz3, zz4, zz5, zz6]
    refine zE 6 rfl (by kernel_rfl) (fun _ _ _ _ h => h) rfl (by exact s0) ?_
    apply Exists.intro
    refine ⟨fun wx hS => ?_, ?_⟩
    · obtain ⟨a0, a1, a2, a3, a4, a5, a6, a7, a8, a9, a10⟩ := akc_cells hS.1; go_simp; rfl
    simp only [Act.put, zz1, zz2, zz3, zz4, zz5, zz6]
    refine zE 7 rfl (by kernel_rfl) (fun _ _ _ _ h => h) rfl (by exact s0) ?_
    apply Exists.intro
    refine ⟨fun wx hS => ?_, ?_⟩
    · go_simp; rfl
    simp only [Act.put, zz1, zz2, zz3, zz4, zz5, zz6]
    refine zE 8 rfl (by kernel_rfl) (fun _ _ _ _ h => h) rfl (by exact s0) ?_
    apply Exists.intro
    refine ⟨fun wx hS => ?_, ?_⟩
    · obtain ⟨y0, y1, y2, y3, y4, y5, y6, y7, y8, y9, y10, y11, y12, y13⟩ := mg_cells hS.2; go_simp; rfl
    simp only [Act.put, zz1, zz2, zz3, zz4, zz5, zz6]
    by_cases hb : a.b = m.b
    · have HBE := hide hb
      have NQ : Hid (∀ wx : World, (if (a.b.n : Int) = (m.b.n : Int) then if a.b.r = m.b.r then Result.ok (Next.value (.bool false)) wx else Result.ok (Next.value (.bool true)) wx else Result.ok (Next.value (.bool true)) wx : Result Next) = Result.ok (Next.value (.bool false)) wx) := hide fun wx => by rw [hb, if_pos rfl, if_pos rfl]
      clear hb
      refine zE 9 rfl (by kernel_rfl) (fun _ _ _ _ h => h) rfl (by exact s0) ?_
      apply Exists.intro
      refine ⟨fun wx hS => ?_, ?_⟩
      · go_simp
        exact NQ.out wx
      simp only [Act.put, zz1, zz2, zz3, zz4, zz5, zz6]
      refine zE 10 rfl (by kernel_rfl) (fun _ _ _ _ h => h) rfl (by exact s0) ?_
      apply Exists.intro
      refine ⟨fun wx hS => ?_, ?_⟩
      · go_simp; rfl
      simp only [Act.put, zz1, zz2, zz3, zz4, zz5, zz6]
      refine zE 11 rfl (by kernel_rfl) (fun _ _ _ _ h => h) rfl (by exact s0) ?_
      apply Exists.intro
      refine ⟨fun wx hS => ?_, ?_⟩
      · go_simp; rfl
      simp only [Act.put, zz1, zz2, zz3, zz4, zz5, zz6]
      refine zE 12 rfl (by kernel_rfl) (fun _ _ _ _ h => h) rfl (by exact s0) ?_
      apply Exists.intro
      refine ⟨fun wx hS => ?_, ?_⟩
      · go_simp; rfl
      simp only [Act.put, zz1, zz2, zz3, zz4, zz5, zz6]
      refine zE 13 rfl (by kernel_rfl) (fun _ _ _ _ h => h) rfl (by exact s0) ?_
      apply Exists.intro
      refine ⟨fun wx hS => ?_, ?_⟩
      · go_simp; rfl
      simp only [Act.put, zz1, zz2, zz3, zz4, zz5, zz6]
      refine zE 14 rfl (by kernel_rfl) (fun _ _ _ _ h => h) rfl (by exact s0) ?_
      apply Exists.intro
      refine ⟨fun wx hS => ?_, ?_⟩
      · go_simp; rfl
      simp only [Act.put, zz1, zz2, zz3, zz4, zz5, zz6]
      refine zE 15 rfl (by kernel_rfl) (fun _ _ _ _ h => h) rfl (by exact s0) ?_
      apply Exists.intro
      refine ⟨fun wx hS => ?_, ?_⟩
      · obtain ⟨a0, a1, a2, a3, a4, a5, a6, a7, a8, a9, a10⟩ := akc_cells hS.1; go_simp; rfl
      simp only [Act.put, zz1, zz2, zz3, zz4, zz5, zz6]
      refine zE 16 rfl (by kernel_rfl) (fun _ _ _ _ h => h) rfl (by exact s0) ?_
      apply Exists.intro
      refine ⟨fun wx hS => ?_, ?_⟩
      · go_simp; rfl
      simp only [Act.put, zz1, zz2, zz3, zz4, zz5, zz6]
      refine zE 17 rfl (by kernel_rfl) (fun _ _ _ _ h => h) rfl (by exact s0) ?_
      apply Exists.intro
      refine ⟨fun wx hS => ?_, ?_⟩
      · obtain ⟨y0, y1, y2, y3, y4, y5, y6, y7, y8, y9, y10, y11, y12, y13⟩ := mg_cells hS.2; go_simp; rfl
      simp only [Act.put, zz1, zz2, zz3, zz4, zz5, zz6]
      have Q5 : Hid (((m.kind : Int) == 5) = decide (m.kind = 5)) := hide (by
        by_cases h5 : m.kind = 5
        · rw [h5]; rfl
        · have : ((m.kind : Int) == 5) = false := by simp; omega
          rw [this]; simp [h5])
      refine zE 18 rfl (by kernel_rfl) (fun _ _ _ _ h => h) rfl (by exact s0) ?_
      apply Exists.intro
      refine ⟨fun wx hS => ?_, ?_⟩
      · go_simp; rfl
      simp only [Act.put, zz1, zz2, zz3, zz4, zz5, zz6]
      rw [Q5.out]
      by_cases hv : a.votes = decide (m.kind = 5)
      · have HVE := hide hv
        rw [← hv]
        have Q6 : Hid (∀ wx, (binOp .neq 4 (.bool a.votes) (.bool a.votes)).run Tryz.prog wx = .ok (.bool false) wx) := hide fun wx => by cases a.votes <;> rfl
        clear hv
        refine zE 19 rfl (by kernel_rfl) (fun _ _ _ _ h => h) rfl (by exact s0) ?_
        apply Exists.intro
        refine ⟨fun wx hS => ?_, ?_⟩
        · have q := Q6.out wx; go_simp; rfl
        simp only [Act.put, zz1, zz2, zz3, zz4, zz5, zz6]
        refine zE 20 rfl (by kernel_rfl) (fun _ _ _ _ h => h) rfl (by exact s0) ?_
        apply Exists.intro
        refine ⟨fun wx hS => ?_, ?_⟩
        · go_simp; rfl
        simp only [Act.put, zz1, zz2, zz3, zz4, zz5, zz6]
        refine wpAnyZ_done (by kernel_rfl) ?_ _
        go_upto_region 3 with fail
        have X2 := hide (X1.out.upd_nil v0); have E2 := hide (E1.out.on v0 (by simp)); have A2 := hide s0.1; have B2 := hide s0.2; have HM2 := hide (HM.out.upd v0 (by
          obtain ⟨F, hF, -⟩ := HM.out
          simp) (by simp)); have K2 := hide (K1.out.upd v0 (by simp))
        obtain ⟨w2, hw2⟩ : ∃ w2, w1.drewN 1 = w2 := ⟨_, rfl⟩
        rw [hw2] at X2 E2 A2 B2 HM2 K2 ⊢
        clear hw2 s0 v0 X1 E1 A1 B1 HM K1 Q5 Q6 NQ
        obtain ⟨xv, cv, -, lk, -⟩ := heard_look HM2.out k
        unfold vtv at lk
        simp only [strV] at lk
        have a10 : w2.cell? ⟨ab, 10, none⟩ = some (.map (some g)) := (akc_cells A2.out).2.2.2.2.2.2.2.2.2.2
        cases hf : a.heard k with
        | some u =>
          have HF := hide hf
          rw [hf] at lk
          simp only [Option.getD_some, Option.isSome_some] at lk
          clear hf
          go_wp2_with fail
          go_end0
          have hal := (Upd.refl [] w2).alloc (.cells #[.bool u.has, .int .u64 (u.b.n : Int), .int .i64 u.b.r, .int .u32 (u.c.client : Int), .int .u32 (u.c.seq : Int), .int .u8 (u.c.kind : Int), .slice xv u.c.keys.length cv, .string (strOf u.c.old), .string (strOf u.c.new), .int .i64 u.c.n] 131)
          refine ⟨rfl, T, M, G, ?_, E2.out.on hal (by simp)⟩
          unfold answeredM
          simp only [HAS.out]
          rw [if_neg (fun h => by
            have h5 := h.2.2
            rw [Int.toNat_natCast, HF.out] at h5
            cases h5)]
          exact X2.out.upd_nil hal
        | none =>
          have HF := hide hf
          rw [hf] at lk
          simp only [Option.getD_none, Option.isSome_none, Vt.zero, Bal.zero, Cm.zero] at lk
          clear hf
          go_upto_region 5 with fail
          have hal := (Upd.refl [] w2).alloc (.cells #[.bool false, .int .u64 0, .int .i64 0, .int .u32 0, .int .u32 0, .int .u8 0, .slice xv 0 cv, .string (strOf []), .string (strOf []), .int .i64 0] 131)
          generalize w2.alloc (.cells #[.bool false, .int .u64 0, .int .i64 0, .int .u32 0, .int .u32 0, .int .u8 0, .slice xv 0 cv, .string (strOf []), .string (strOf []), .int .i64 0] 131) = w3 at *
          have X3 := hide (X2.out.upd_nil hal); have E3 := hide (E2.out.on hal (by simp)); have B3 := hide (hal.get B2.out (by simp)); have K3 := hide (K2.out.upd hal (by simp))
          clear hal X2 E2 A2 B2 HM2 K2 lk a10
          have v0 : Upd [] w3 (w3.drewN 1) := (Upd.refl [] w3).drewN 1
          have s0 : (w3.drewN 1).heap[B]? = some (.cells (mgA m (.slice xk m.cmd.keys.length ck)) TMg (0, 0)) := B3.out
          refine wp_region_z (fun wx => wx.heap[B]? = some (.cells (mgA m (.slice xk m.cmd.keys.length ck)) TMg (0, 0))) 10 (by kernel_rfl) ?_
          refine zT 0 rfl (by kernel_rfl) (fun _ _ _ _ h => h) rfl (by exact s0) ?_
          apply Exists.intro
          refine ⟨fun wx hS => ?_, ?_⟩
          · go_simp; rfl
          simp only [Act.put, List.setIfInBounds_toArray, List.set_cons_succ, List.set_cons_zero, List.getElem_toArray, List.getElem_cons_zero]
          refine zT 1 rfl (by kernel_rfl) (fun _ _ _ _ h => h) rfl (by exact s0) ?_
          apply Exists.intro
          refine ⟨fun wx hS => ?_, ?_⟩
          · go_simp; rfl
          simp only [Act.put, zz1, zz2, zz3, zz4, zz5, zz6]
          refine zT 2 rfl (by kernel_rfl) (fun _ _ _ _ h => h) rfl (by exact s0) ?_
          apply Exists.intro
          refine ⟨fun wx hS => ?_, ?_⟩
          · go_simp; rfl
          simp only [Act.put, zz1, zz2, zz3, zz4, zz5, zz6]
          refine zT 3 rfl (by kernel_rfl) (fun _ _ _ _ h => h) rfl (by exact s0) ?_
          apply Exists.intro
          refine ⟨fun wx hS => ?_, ?_⟩
          · obtain ⟨y0, y1, y2, y3, y4, y5, y6, y7, y8, y9, y10, y11, y12, y13⟩ := mg_cells hS; go_simp; rfl
          simp only [Act.put, zz1, zz2, zz3, zz4, zz5, zz6]
          refine zT 4 rfl (by kernel_rfl) (fun _ _ _ _ h => h) rfl (by exact s0) ?_
          apply Exists.intro
          refine ⟨fun wx hS => ?_, ?_⟩
          · go_simp; rfl
          simp only [Act.put, zz1, zz2, zz3, zz4, zz5, zz6]
          refine zT 5 rfl (by kernel_rfl) (fun _ _ _ _ h => h) rfl (by exact s0) ?_
          apply Exists.intro
          refine ⟨fun wx hS => ?_, ?_⟩
          · obtain ⟨y0, y1, y2, y3, y4, y5, y6, y7, y8, y9, y10, y11, y12, y13⟩ := mg_cells hS; go_simp; rfl
          simp only [Act.put, zz1, zz2, zz3, zz4, zz5, zz6]
          refine zT 6 rfl (by kernel_rfl) (fun _ _ _ _ h => h) rfl (by exact s0) ?_
          apply Exists.intro
          refine ⟨fun wx hS => ?_, ?_⟩
          · go_simp; rfl
          simp only [Act.put, zz1, zz2, zz3, zz4, zz5, zz6]
          refine zT 7 rfl (by kernel_rfl) (fun _ _ _ _ h => h) rfl (by exact s0) ?_
          apply Exists.intro
          refine ⟨fun wx hS => ?_, ?_⟩
          · obtain ⟨y0, y1, y2, y3, y4, y5, y6, y7, y8, y9, y10, y11, y12, y13⟩ := mg_cells hS; go_simp; rfl
          simp only [Act.put, zz1, zz2, zz3, zz4, zz5, zz6]
          refine wpAnyZ_one 8 (by kernel_rfl) rfl rfl (fun K hK => ?_)
          try simp only [List.getElem_toArray, List.getElem_cons_succ, List.getElem_cons_zero]
          go_simp
          refine (copied_any (c := m.cmd) (w3.drewN 1) (K3.out.upd v0 (by simp)).at (by have := HMO.out.2.2.2.2.2; omega)).mono ?_
          rintro e w6 ⟨⟨ks', rfl, hk'⟩, hu⟩
          obtain ⟨xl, cl, rfl⟩ := hk'.slice
          have v6 := v0.trans hu
          have X6 := hide (show XAt w6 (Sg.fresh w3 w6 T) M z p x o G from ⟨v6.get X3.out.1 (by simp), X3.out.2.fresh v6⟩)
          have E6 := hide (E3.out.trans (Ext.fresh v6 T M)); have K6 := hide (hk'.mono (U := Sg.fresh w3 w6 T) fun k hk => .inr hk)
          have s6 : w6.heap[B]? = some (.cells (mgA m (.slice xk m.cmd.keys.length ck)) TMg (0, 0)) := v6.get B3.out (by simp)
          generalize Sg.fresh w3 w6 T = T6 at *
          clear hk' hu v0 v6 s0 X3 E3 K3 B3
          unfold cmv
          simp only [strV]
          refine hK _ _ (.inr s6) ?_
          clear hK K
          try simp only [Act.put, zz1, zz2, zz3]
          refine zT 9 rfl (by kernel_rfl) (fun _ _ _ _ h => h) rfl (by exact s6) ?_
          apply Exists.intro
          refine ⟨fun wx hS => ?_, ?_⟩
          · go_simp; rfl
          simp only [Act.put, zz1, zz2, zz3, zz4, zz5, zz6]
          refine wpAnyZ_one 10 (by kernel_rfl) rfl rfl (fun K hK => ?_)
          try simp only [List.getElem_toArray, List.getElem_cons_succ, List.getElem_cons_zero]
          go_simp
          have VO : Hid (Vt.Ok ⟨m.has, m.vote, m.cmd⟩) := hide ⟨HMO.out.2.2.2.1, HMO.out.2.2.2.2⟩
          have HP : Hid (Hp w6 T6 M z p L x o G) := hide ⟨X6.out, E6.out.envM HH.out.env, HH.out.ok, by have := HH.out.z; have := E6.out.size; omega, HH.out.send, HH.out.done, HH.out.ans⟩
          have key : Calls Tryz.prog 101 #[.pointer (some ⟨p, 0, none⟩), .int .i64 (k : Int), vtv ⟨m.has, m.vote, m.cmd⟩ (.slice xl m.cmd.keys.length cl)] w6 fun e w' => e = .returned (.tuple #[]) ∧ Aft z p w6 T6 M (hearsM a k ⟨m.has, m.vote, m.cmd⟩ (x, o)) w' := by
            unfold hearsM
            cases hv : a.votes with
            | true => exact hears2_any w6 HP.out hL HAS.out hv hkn VO.out K6.out
            | false => exact hears1_any w6 HP.out hL HAS.out hv hkn VO.out K6.out hs
          refine key.mono ?_
          rintro e w7 ⟨rfl, h7⟩
          have H7 := hide (Aft.ext E6.out h7)
          clear h7 key s6
          refine hK _ _ (.inl rfl) ?_
          clear hK K
          try simp only [Act.put, zz1, zz2, zz3]
          refine wpAnyZ_done (by kernel_rfl) ?_ _
          go_wp2_with fail
          go_end0
          refine ⟨rfl, ?_⟩
          unfold answeredM
          simp only [HAS.out]
          rw [if_pos ⟨HBE.out, HVE.out, by rw [Int.toNat_natCast, HF.out]; rfl⟩, Int.toNat_natCast]
          exact H7.out
      · have HVE := hide hv
        have Q6 : Hid (∀ wx, (binOp .neq 4 (.bool a.votes) (.bool (decide (m.kind = 5)))).run Tryz.prog wx = .ok (.bool true) wx) := hide fun wx => by
          cases hx : a.votes <;> cases hy : decide (m.kind = 5) <;> first | rfl | (rw [hx, hy] at hv; exact absurd rfl hv)
        clear hv
        refine zE 19 rfl (by kernel_rfl) (fun _ _ _ _ h => h) rfl (by exact s0) ?_
        apply Exists.intro
        refine ⟨fun wx hS => ?_, ?_⟩
        · have q := Q6.out wx; go_simp; rfl
        simp only [Act.put, zz1, zz2, zz3, zz4, zz5, zz6]
        refine zE 20 rfl (by kernel_rfl) (fun _ _ _ _ h => h) rfl (by exact s0) ?_
        apply Exists.intro
        refine ⟨fun wx hS => ?_, ?_⟩
        · go_simp; rfl
        simp only [Act.put, zz1, zz2, zz3, zz4, zz5, zz6]
        refine wpAnyZ_done (by kernel_rfl) ?_ _
        go_wp2_with fail
        refine bodyPost_ret (results_none rfl _ _ _) rfl ?_
        refine ⟨rfl, T, M, G, ?_, E1.out.drewN _⟩
        unfold answeredM
        simp only [HAS.out]
        rw [if_neg (fun h => HVE.out h.2.1)]
        exact X1.out.upd_nil v0
    · have HBE := hide hb
      have NQ : Hid (∀ wx : World, (if (a.b.n : Int) = (m.b.n : Int) then if a.b.r = m.b.r then Result.ok (Next.value (.bool false)) wx else Result.ok (Next.value (.bool true)) wx else Result.ok (Next.value (.bool true)) wx : Result Next) = Result.ok (Next.value (.bool true)) wx) := hide fun wx => by
        by_cases h1 : (a.b.n : Int) = m.b.n
        · rw [if_pos h1, if_neg]
          intro h2
          refine hb ?_
          have h3 : a.b.n = m.b.n := by omega
          obtain ⟨ab0, _, _, _⟩ := a
          cases ab0; cases hmb : m.b
          simp_all
        · rw [if_neg h1]
      clear hb
      refine zE 9 rfl (by kernel_rfl) (fun _ _ _ _ h => h) rfl (by exact s0) ?_
      apply Exists.intro
      refine ⟨fun wx hS => ?_, ?_⟩
      · go_simp
        exact NQ.out wx
      simp only [Act.put, zz1, zz2, zz3, zz4, zz5, zz6]
      refine zE 10 rfl (by kernel_rfl) (fun _ _ _ _ h => h) rfl (by exact s0) ?_
      apply Exists.intro
      refine ⟨fun wx hS => ?_, ?_⟩
      · go_simp; rfl
      simp only [Act.put, zz1, zz2, zz3, zz4, zz5, zz6]
      refine zE 11 rfl (by kernel_rfl) (fun _ _ _ _ h => h) rfl (by exact s0) ?_
      apply Exists.intro
      refine ⟨fun wx hS => ?_, ?_⟩
      · go_simp; rfl
      simp only [Act.put, zz1, zz2, zz3, zz4, zz5, zz6]
      refine wpAnyZ_skipE 12 rfl (by kernel_rfl) (by kernel_rfl) (by kernel_rfl) (by kernel_rfl) (fun _ _ _ h => h) rfl (by exact s0) ?_
      simp only [Act.put, zz1, zz2, zz3]
      refine wpAnyZ_skipE 13 rfl (by kernel_rfl) (by kernel_rfl) (by kernel_rfl) (by kernel_rfl) (fun _ _ _ h => h) rfl (by exact s0) ?_
      simp only [Act.put, zz1, zz2, zz3]
      refine wpAnyZ_skipE 14 rfl (by kernel_rfl) (by kernel_rfl) (by kernel_rfl) (by kernel_rfl) (fun _ _ _ h => h) rfl (by exact s0) ?_
      simp only [Act.put, zz1, zz2, zz3]
      refine wpAnyZ_skipE 15 rfl (by kernel_rfl) (by kernel_rfl) (by kernel_rfl) (by kernel_rfl) (fun _ _ _ h => h) rfl (by exact s0) ?_
      simp only [Act.put, zz1, zz2, zz3]
      refine wpAnyZ_skipE 16 rfl (by kernel_rfl) (by kernel_rfl) (by kernel_rfl) (by kernel_rfl) (fun _ _ _ h => h) rfl (by exact s0) ?_
      simp only [Act.put, zz1, zz2, zz3]
      refine wpAnyZ_skipE 17 rfl (by kernel_rfl) (by kernel_rfl) (by kernel_rfl) (by kernel_rfl) (fun _ _ _ h => h) rfl (by exact s0) ?_
      simp only [Act.put, zz1, zz2, zz3]
      refine wpAnyZ_skipE 18 rfl (by kernel_rfl) (by kernel_rfl) (by kernel_rfl) (by kernel_rfl) (fun _ _ _ h => h) rfl (by exact s0) ?_
      simp only [Act.put, zz1, zz2, zz3]
      refine wpAnyZ_skipE 19 rfl (by kernel_rfl) (by kernel_rfl) (by kernel_rfl) (by kernel_rfl) (fun _ _ _ h => h) rfl (by exact s0) ?_
      simp only [Act.put, zz1, zz2, zz3]
      refine zE 20 rfl (by kernel_rfl) (fun _ _ _ _ h => h) rfl (by exact s0) ?_
      apply Exists.intro
      refine ⟨fun wx hS => ?_, ?_⟩
      · go_simp; rfl
      simp only [Act.put, zz1, zz2, zz3, zz4, zz5, zz6]
      refine wpAnyZ_done (by kernel_rfl) ?_ _
      go_wp2_with fail
      refine bodyPost_ret (results_none rfl _ _ _) rfl ?_
      refine ⟨rfl, T, M, G, ?_, E1.out.drewN _⟩
      unfold answeredM
      simp only [HAS.out]
      rw [if_neg (fun h => HBE.out h.1)]
      exact X1.out.upd_nil v0
end Go.Proofs.YtanjnhohfcgapaaGreatDoor.Sg
