/- keyset.Groups. -/
import Derived.Test.YteeepelmkfiocaaGreatDoorWvW
import Derived.Test.YteeepelmkfiocaaGreatDoorWvRows
import Derived.Test.YteeepelmkfiocaaGreatDoorGenAll
namespace Go.Proofs.YteeepelmkfiocaaGreatDoor.Kv
set_option linter.unusedSimpArgs false
set_option linter.unusedVariables false
set_option linter.unnecessarySimpa false
open Go.RowKit Go.Lib Go.Proofs.YteeepelmkfiocaaGreatDoor.Crc Go.Proofs.YteeepelmkfiocaaGreatDoor.Cm

theorem waves_lt {l : List Cm} (hs : ∀ c ∈ l, SmallC c) : ∀ i, i ≤ l.length → ∀ x ∈ wavesM (l.take i), x < i
  | 0, _ => by simp [wavesM, wavesF]
  | i + 1, h => fun x hx => by
    have hc : l[i]? = some l[i] := List.getElem?_eq_getElem (by omega)
    rw [waves_next hc, List.mem_append, List.mem_singleton] at hx
    rcases hx with hx | rfl
    · have := waves_lt hs i (by omega) x hx; omega
    · have h1 := FtB.at hs i (by omega)
      have := h1.ok.w (c := l[i])
      have := h1.top
      omega
theorem foldl_top_le {n : Nat} : ∀ (ws : List Nat) (m : Nat), m ≤ n → (∀ x ∈ ws, x < n) → ws.foldl (fun m w => max m (w + 1)) m ≤ n
  | [], m, h, _ => h
  | x :: ws, m, h, hw => by
    have := hw x (by simp)
    exact foldl_top_le ws (max m (x + 1)) (by omega) fun y hy => hw y (by simp [hy])
theorem topM_le {l : List Cm} (hs : ∀ c ∈ l, SmallC c) : topM (wavesM l) ≤ l.length := by
  refine foldl_top_le _ _ (by omega) fun x hx => ?_
  have := waves_lt hs l.length (Nat.le_refl _) x (by rwa [List.take_length])
  exact this
theorem made_row (v : Value) (n : Nat) : madeCells #[v] n = (List.replicate n v).toArray := by
  apply Array.ext
  · simp [madeCells]
  · intro i h1 h2
    simp [madeCells, Nat.mod_one]
set_option maxRecDepth 100000 in
set_option maxHeartbeats 4000000 in
theorem groups_any {T : Nat → Prop} {v : Value} {l : List Cm} (w : World) (h : cmK.row w T v l) (hs : Small l) :
    Calls Tryz.prog 27 #[v] w fun e w' => (∃ go, e = .returned (.slice go (topM (wavesM l)) (topM (wavesM l))) ∧ GsAt w' w.heap.size go (groupsM (wavesM l) (topM (wavesM l)))) ∧ Upd [] w w' := by
  obtain ⟨i1, hi1, iz0, iz1, iz2⟩ := partsI infoI
  obtain ⟨i2, hi2, jz0, jz1, jz2⟩ := partsI infoSI
  obtain ⟨xo, cp, rfl, h1, h2, hg⟩ := cm_get h
  have ROW := hide h; have HS := hide hs
  have hl100 := hs.1
  have htl := topM_le hs.2
  have hwl : (wavesM l).length = l.length := waves_len l ft0
  simp only [maxLen] at h2
  have hwa := waves_any w h hs
  have htop : wavesM l ≠ [] → topM (wavesM l) = maxN (wavesM l) + 1 := topM_max
  have hlt := top_gt (ws := wavesM l)
  clear h hg hs ROW HS
  generalize hws : wavesM l = ws at *
  generalize hn : l.length = n at *
  generalize hto : topM ws = top at *
  have HWA := hide hwa; have HTO := hide hto
  clear hwa hws hto
  go_enter Tryz.func27, Tryz.ntmps27
  go_wp2_with fail
  refine HWA.out.mono ?_
  rintro e w1 ⟨⟨ao, cap, rfl, ho⟩, hu1⟩
  have hin := IntsAt.own ho
  have U1 := hide hu1; have IN1 := hide hin; have HLT := hide hlt; have OW1 := hide ho
  clear ho hu1 hin hlt HWA
  by_cases h0 : n = 0
  · have hwe : ws = [] := List.eq_nil_of_length_eq_zero (by omega)
    have d0 : ((n : Int) == 0) = true := by rw [beq_iff_eq]; omega
    have HWE := hide hwe
    have htz : top = 0 := by rw [← HTO.out, hwe]; rfl
    have HTZ := hide htz
    clear hwe htop hn htz
    go_wp2_with fail
    go_ret
    refine ⟨⟨none, by rw [HTZ.out]; rfl, ?_⟩, U1.out⟩
    rw [HTZ.out]
    intro j g hj
    simp [groupsM] at hj
  · have d0 : ((n : Int) == 0) = false := by rw [beq_eq_false_iff_ne]; omega
    have hne : ws ≠ [] := by rintro rfl; simp at hwl; omega
    have htp := htop hne
    have HTP := hide htp
    clear htop hn hne
    go_wp2_with fail
    refine (max_any w1 IN1.out (by omega) (by omega)).mono ?_
    rintro e w2 ⟨rfl, rfl⟩
    have e1 : ((maxN ws : Nat) : Int) + 1 = (top : Int) := by omega
    have hmk := fun wx => run_make_rowN (P := Tryz.prog) 77 23 i2 (.slice none 0 0) Tryz.underlying77 hi2 jz0 .i64 .i64 top top (Nat.le_refl _) (by rw [jz2]; omega) (by omega) wx
    rw [jz1, Nat.mul_one, show (Value.slice none 0 0).cells = #[.slice none 0 0] from rfl] at hmk
    simp only [made_row] at hmk
    clear htp HTP
    go_wp2_with fail
    obtain ⟨g, hg⟩ : ∃ g, w1.heap.size = g := ⟨_, rfl⟩
    have hB := blk_new w1 (.cells (Array.replicate top (.slice none 0 0)) 23)
    have hu2 := (Upd.refl [] w1).alloc (.cells (Array.replicate top (.slice none 0 0)) 23)
    have hwb : ∀ a, ao = some a → n ≠ 0 → a.block < g := fun a e h0 => by
      obtain ⟨x, hx⟩ : ∃ x, ws[0]? = some x := ⟨_, List.getElem?_eq_getElem (by omega)⟩
      obtain ⟨b, e2, hc⟩ := IN1.out.get hx
      rw [e] at e2
      cases e2
      have := World.block_lt_of_cell? w1 _ hc
      rw [add_block] at this
      omega
    have hz2 : (w1.alloc (.cells (Array.replicate top (.slice none 0 0)) 23)).heap.size = g + 1 := by simp [hg]
    generalize w1.alloc (.cells (Array.replicate top (.slice none 0 0)) 23) = w2 at *
    rw [← List.toArray_replicate] at hB
    rw [hg] at hB ⊢
    have hgs := grIs_new (base := g + 1) hB
    rw [← grp_zero ws top] at hgs
    have hzw := U1.out.size
    rw [hg] at hzw
    have G2 := hide hgs; have U2 := hide (U1.out.trans hu2); have IN2 := hide (IN1.out.upd hu2 (by simp)); have HWB := hide hwb
    clear hB hu2 hgs hg hwb U1 IN1 OW1
    go_loopw [17] (fun si wr => ∃ (i : Nat) (cs : List Value), i ≤ n ∧ si = .int .i64 i ∧ GrIs wr (g + 1) g (grpN ws top i) cs ∧ Upd [] w wr ∧ IntsAt wr w.heap.size ao n cap ws ∧ g + 1 ≤ wr.heap.size) (fun si _ => n - (RowKit.intOf si).toNat)
    case atStart => exact ⟨0, _, by omega, rfl, G2.out, U2.out, IN2.out, by omega⟩
    case round =>
      obtain ⟨i, cs, hi, rfl, hgr, hu, hin, hsz⟩ := hrel
      have GR := hide hgr; have HU := hide hu; have IN := hide hin
      clear hgr hu hin hz2 G2 U2 IN2
      by_cases hlt : i < n
      · have d5 : decide ((i : Int) < n) = true := by simp; omega
        have d5' : decide (i < n) = true := by simpa using hlt
        obtain ⟨x, hx⟩ : ∃ x, ws[i]? = some x := ⟨_, List.getElem?_eq_getElem (by omega)⟩
        obtain ⟨a, rfl, hca⟩ := IN.out.get hx
        have hxt : x < top := HLT.out x (List.mem_of_getElem? hx)
        obtain ⟨gl, hgl⟩ : ∃ gl, (grpN ws top i)[x]? = some gl := ⟨_, List.getElem?_eq_getElem (by rw [grp_len]; exact hxt)⟩
        have hgd : ws.getD i 0 = x := by simp [List.getD, hx]
        have hstep := grp_step hgd hgl
        obtain ⟨a2, c2, hcs, hog⟩ := GR.out.row x gl hgl
        have hcg : wr.cell? ⟨g, x, none⟩ = some (.slice a2 gl.length c2) := blk_cell GR.out.blk (by simpa using hcs)
        have hgln : gl.length ≤ 1000 := by
          have hm := List.mem_of_getElem? hgl
          obtain ⟨q, _, rfl⟩ := List.mem_map.1 hm
          have := List.length_filter_le (fun j => decide (ws.getD j 0 = q)) (List.range i)
          simp at this ⊢
          omega
        have hlo := owns_lt hog
        have HST := hide hstep; have HGL := hide hgl; have HCS := hide hcs; have HOG := hide hog; have HLO := hide hlo; have HXX := hide hx
        clear hstep hgl hcs hog hgd hlo hx
        go_upto_region 8 with fail
        refine wp_region_z (fun wx => wx.cell? (a.add i) = some (.int .i64 (x : Int)) ∧ wx.cell? ⟨g, x, none⟩ = some (.slice a2 gl.length c2)) 16 (by kernel_rfl) ?_
        refine wpAnyZ_takeE 0 rfl (by kernel_rfl) (by kernel_rfl) (by kernel_rfl) (by kernel_rfl) (fun _ _ _ _ h => h) rfl (by exact ⟨hca, hcg⟩) ?_
        apply Exists.intro
        refine ⟨fun wx hS => ?_, ?_⟩
        · obtain ⟨s0, s1⟩ := hS; go_simp; rfl
        simp only [Act.put, List.setIfInBounds_toArray, List.set_cons_succ, List.set_cons_zero, List.getElem_toArray, List.getElem_cons_zero]
        refine wpAnyZ_takeE 1 rfl (by kernel_rfl) (by kernel_rfl) (by kernel_rfl) (by kernel_rfl) (fun _ _ _ _ h => h) rfl (by exact ⟨hca, hcg⟩) ?_
        apply Exists.intro
        refine ⟨fun wx hS => ?_, ?_⟩
        · obtain ⟨s0, s1⟩ := hS; go_simp; rfl
        simp only [Act.put, List.setIfInBounds_toArray, List.set_cons_succ, List.set_cons_zero, List.getElem_toArray, List.getElem_cons_succ, List.getElem_cons_zero]
        refine wpAnyZ_takeE 2 rfl (by kernel_rfl) (by kernel_rfl) (by kernel_rfl) (by kernel_rfl) (fun _ _ _ _ h => h) rfl (by exact ⟨hca, hcg⟩) ?_
        apply Exists.intro
        refine ⟨fun wx hS => ?_, ?_⟩
        · obtain ⟨s0, s1⟩ := hS; go_simp; rfl
        simp only [Act.put, List.setIfInBounds_toArray, List.set_cons_succ, List.set_cons_zero, List.getElem_toArray, List.getElem_cons_succ, List.getElem_cons_zero]
        refine wpAnyZ_takeE 3 rfl (by kernel_rfl) (by kernel_rfl) (by kernel_rfl) (by kernel_rfl) (fun _ _ _ _ h => h) rfl (by exact ⟨hca, hcg⟩) ?_
        apply Exists.intro
        refine ⟨fun wx hS => ?_, ?_⟩
        · obtain ⟨s0, s1⟩ := hS; go_simp; rfl
        simp only [Act.put, List.setIfInBounds_toArray, List.set_cons_succ, List.set_cons_zero, List.getElem_toArray, List.getElem_cons_succ, List.getElem_cons_zero]
        refine wpAnyZ_takeE 4 rfl (by kernel_rfl) (by kernel_rfl) (by kernel_rfl) (by kernel_rfl) (fun _ _ _ _ h => h) rfl (by exact ⟨hca, hcg⟩) ?_
        apply Exists.intro
        refine ⟨fun wx hS => ?_, ?_⟩
        · obtain ⟨s0, s1⟩ := hS; go_simp; rfl
        simp only [Act.put, List.setIfInBounds_toArray, List.set_cons_succ, List.set_cons_zero, List.getElem_toArray, List.getElem_cons_succ, List.getElem_cons_zero]
        refine wpAnyZ_takeE 5 rfl (by kernel_rfl) (by kernel_rfl) (by kernel_rfl) (by kernel_rfl) (fun _ _ _ _ h => h) rfl (by exact ⟨hca, hcg⟩) ?_
        apply Exists.intro
        refine ⟨fun wx hS => ?_, ?_⟩
        · obtain ⟨s0, s1⟩ := hS; go_simp; rfl
        simp only [Act.put, List.setIfInBounds_toArray, List.set_cons_succ, List.set_cons_zero, List.getElem_toArray, List.getElem_cons_succ, List.getElem_cons_zero]
        refine wpAnyZ_takeE 6 rfl (by kernel_rfl) (by kernel_rfl) (by kernel_rfl) (by kernel_rfl) (fun _ _ _ _ h => h) rfl (by exact ⟨hca, hcg⟩) ?_
        apply Exists.intro
        refine ⟨fun wx hS => ?_, ?_⟩
        · obtain ⟨s0, s1⟩ := hS; go_simp; rfl
        simp only [Act.put, List.setIfInBounds_toArray, List.set_cons_succ, List.set_cons_zero, List.getElem_toArray, List.getElem_cons_succ, List.getElem_cons_zero]
        refine wpAnyZ_takeE 7 rfl (by kernel_rfl) (by kernel_rfl) (by kernel_rfl) (by kernel_rfl) (fun _ _ _ _ h => h) rfl (by exact ⟨hca, hcg⟩) ?_
        apply Exists.intro
        refine ⟨fun wx hS => ?_, ?_⟩
        · obtain ⟨s0, s1⟩ := hS; go_simp; rfl
        simp only [Act.put, List.setIfInBounds_toArray, List.set_cons_succ, List.set_cons_zero, List.getElem_toArray, List.getElem_cons_succ, List.getElem_cons_zero]
        refine wpAnyZ_takeE 8 rfl (by kernel_rfl) (by kernel_rfl) (by kernel_rfl) (by kernel_rfl) (fun _ _ _ _ h => h) rfl (by exact ⟨hca, hcg⟩) ?_
        apply Exists.intro
        refine ⟨fun wx hS => ?_, ?_⟩
        · obtain ⟨s0, s1⟩ := hS; go_simp; rfl
        simp only [Act.put, List.setIfInBounds_toArray, List.set_cons_succ, List.set_cons_zero, List.getElem_toArray, List.getElem_cons_succ, List.getElem_cons_zero]
        refine wpAnyZ_takeE 9 rfl (by kernel_rfl) (by kernel_rfl) (by kernel_rfl) (by kernel_rfl) (fun _ _ _ _ h => h) rfl (by exact ⟨hca, hcg⟩) ?_
        apply Exists.intro
        refine ⟨fun wx hS => ?_, ?_⟩
        · obtain ⟨s0, s1⟩ := hS; go_simp; rfl
        simp only [Act.put, List.setIfInBounds_toArray, List.set_cons_succ, List.set_cons_zero, List.getElem_toArray, List.getElem_cons_succ, List.getElem_cons_zero]
        refine wpAnyZ_takeE 10 rfl (by kernel_rfl) (by kernel_rfl) (by kernel_rfl) (by kernel_rfl) (fun _ _ _ _ h => h) rfl (by exact ⟨hca, hcg⟩) ?_
        apply Exists.intro
        refine ⟨fun wx hS => ?_, ?_⟩
        · obtain ⟨s0, s1⟩ := hS; go_simp; rfl
        simp only [Act.put, List.setIfInBounds_toArray, List.set_cons_succ, List.set_cons_zero, List.getElem_toArray, List.getElem_cons_succ, List.getElem_cons_zero]
        refine wpAnyZ_takeE 11 rfl (by kernel_rfl) (by kernel_rfl) (by kernel_rfl) (by kernel_rfl) (fun _ _ _ _ h => h) rfl (by exact ⟨hca, hcg⟩) ?_
        apply Exists.intro
        refine ⟨fun wx hS => ?_, ?_⟩
        · obtain ⟨s0, s1⟩ := hS; go_simp; rfl
        simp only [Act.put, List.setIfInBounds_toArray, List.set_cons_succ, List.set_cons_zero, List.getElem_toArray, List.getElem_cons_succ, List.getElem_cons_zero]
        refine wpAnyZ_takeE 12 rfl (by kernel_rfl) (by kernel_rfl) (by kernel_rfl) (by kernel_rfl) (fun _ _ _ _ h => h) rfl (by exact ⟨hca, hcg⟩) ?_
        apply Exists.intro
        refine ⟨fun wx hS => ?_, ?_⟩
        · obtain ⟨s0, s1⟩ := hS; go_simp; rfl
        simp only [Act.put, List.setIfInBounds_toArray, List.set_cons_succ, List.set_cons_zero, List.getElem_toArray, List.getElem_cons_succ, List.getElem_cons_zero]
        refine wpAnyZ_one 13 (by kernel_rfl) rfl rfl (fun K hK => ?_)
        try simp only [List.getElem_toArray, List.getElem_cons_succ, List.getElem_cons_zero]
        go_simp
        have hal := ((Upd.refl [] wr).drewN 1).alloc (.cells #[.int .i64 (i : Int)] 3)
        have hca1 : ((wr.drewN 1).alloc (.cells #[.int .i64 (i : Int)] 3)).cell? (a.add i) = some (.int .i64 (x : Int)) := by
          obtain ⟨a', e, h⟩ := (IN.out.upd hal (by simp)).get HXX.out
          cases e
          exact h
        have hcg1 : ((wr.drewN 1).alloc (.cells #[.int .i64 (i : Int)] 3)).cell? ⟨g, x, none⟩ = some (.slice a2 gl.length c2) := blk_cell (hal.get GR.out.blk (by simp)) (by simpa using HCS.out)
        refine hK _ _ (.inr ⟨hca1, hcg1⟩) ?_
        clear hK K
        try simp only [Act.put, List.setIfInBounds_toArray, List.set_cons_succ, List.set_cons_zero]
        refine wpAnyZ_one 14 (by kernel_rfl) rfl rfl (fun K hK => ?_)
        try simp only [List.getElem_toArray, List.getElem_cons_succ, List.getElem_cons_zero]
        refine wp_append_src _ _ _ 23 rfl (g + 1) 3 i1 (.int .i64 0) 1 8 Tryz.underlying23 hi1 iz0 iz1 iz2 rfl (by decide) (.slice a2 gl.length c2) gl.length (gl.map nV) rfl (by exact owns_upd HOG.out hal (by simp)) (some ⟨(wr.drewN 1).heap.size, 0, none⟩) 1 1 [nV i] rfl (src_one (cell_new1 rfl) rfl) (by unfold maxLen; omega) (by omega) (by simp; omega) ?_
        intro ao7 cap7 w7 hown7 hU7 hn7
        have hU7' : Upd (Value.slice a2 gl.length c2).ownBlock.toList wr w7 := (hal.mono (by simp)).trans hU7
        have hn7' : ∀ b, (Value.slice ao7 (gl.length + 1) cap7).ownBlock = some b → (Value.slice a2 gl.length c2).ownBlock = some b ∨ wr.heap.size ≤ b := fun b hb => (hn7 b hb).imp id fun h => by simp at h; omega
        have hnw : ∀ b, some a = some b → n ≠ 0 → b.block ∉ (Value.slice a2 gl.length c2).ownBlock.toList := fun b e h0' hm => by
          have h1 := HWB.out b e h0'
          have h2 := (HLO.out b.block (by simpa using hm)).1
          omega
        have hng : g ∉ (Value.slice a2 gl.length c2).ownBlock.toList := fun hm => by have := (HLO.out g (by simpa using hm)).1; omega
        have IN7 := hide (IN.out.updF hU7' hnw)
        have hg7 := hU7'.get GR.out.blk hng
        have hca7 : w7.cell? (a.add i) = some (.int .i64 (x : Int)) := by
          obtain ⟨a', e, h⟩ := IN7.out.get HXX.out
          cases e
          exact h
        have hcg7 : w7.cell? ⟨g, x, none⟩ = some (.slice a2 gl.length c2) := blk_cell hg7 (by simpa using HCS.out)
        have hfg7 : w7.frozen? ⟨g, x, none⟩ = false := blk_free hg7
        have GS := hide (GR.out.step (x := x) (i := i) (by omega) HGL.out HCS.out hU7' hown7 hn7')
        have U7 := hide (HU.out.trans_new hU7' (fun q hq => .inr (by have := (HLO.out q (by simpa using hq)).1; omega)))
        have hz7 := hU7'.size
        clear hown7 hU7 hU7' hn7 hn7' hnw hng hg7 hal hca hcg hca1 hcg1
        refine hK _ _ (.inr ⟨hca7, hcg7⟩) ?_
        clear hK K
        try simp only [Act.put, List.setIfInBounds_toArray, List.set_cons_succ, List.set_cons_zero]
        refine wpAnyZ_one 15 (by kernel_rfl) rfl rfl (fun K hK => ?_)
        try simp only [List.getElem_toArray, List.getElem_cons_succ, List.getElem_cons_zero]
        go_simp
        refine hK _ _ (.inr ⟨hca7, hcg7⟩) ?_
        clear hK K
        try simp only [Act.put, List.setIfInBounds_toArray, List.set_cons_succ, List.set_cons_zero]
        refine wpAnyZ_one 16 (by kernel_rfl) rfl rfl (fun K hK => ?_)
        try simp only [List.getElem_toArray, List.getElem_cons_succ, List.getElem_cons_zero]
        go_simp
        refine hK _ _ (.inl rfl) ?_
        clear hK K
        try simp only [Act.put, List.setIfInBounds_toArray, List.set_cons_succ, List.set_cons_zero]
        refine wpAnyZ_done (by kernel_rfl) ?_ _
        have hset : Upd [g] w7 (w7.setCell ⟨g, x, none⟩ (.slice ao7 (gl.length + 1) cap7)) := (Upd.refl [g] w7).setCell (p := ⟨g, x, none⟩) (.inl (by simp)) _
        have IN8 := hide (IN7.out.updF hset (fun b e h0' hm => by have := HWB.out b e h0'; simp at hm; omega))
        have U8 := hide (U7.out.trans_new hset (fun q hq => .inr (by simp at hq; omega)))
        have hz8 := hset.size
        clear hset hca7 hcg7 hfg7
        generalize w7.setCell ⟨g, x, none⟩ (.slice ao7 (gl.length + 1) cap7) = w8 at *
        go_wp2_with fail
        go_roundw
        case rel => exact ⟨i + 1, _, by omega, by go_num, by rw [HST.out]; exact GS.out, U8.out, IN8.out, by omega⟩
        case measure => simp [RowKit.intOf]; omega
      · have d5 : decide ((i : Int) < n) = false := by simp; omega
        have d5' : decide (i < n) = false := by simpa using hlt
        have hie : i = n := by omega
        have hwn : ws.length = n := hwl
        subst hie
        go_wp2_with fail
        go_ret
        have hgr := GR.out
        rw [← hwn, grp_all] at hgr
        refine ⟨⟨_, rfl, fun j gl hj => ?_⟩, HU.out⟩
        obtain ⟨a1, c1, hc1, ho1⟩ := hgr.row j gl hj
        refine ⟨g, a1, c1, rfl, by omega, blk_lt hgr.blk, blk_cell hgr.blk (by simpa using hc1), IntsAt.own (own_lower ho1 (by omega))⟩
end Go.Proofs.YteeepelmkfiocaaGreatDoor.Kv
