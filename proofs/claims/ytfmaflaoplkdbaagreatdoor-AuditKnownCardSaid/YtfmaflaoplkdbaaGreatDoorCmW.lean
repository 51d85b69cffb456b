/- cmd.take. -/
import Derived.Test.YtfmaflaoplkdbaaGreatDoorPureAll
import Derived.Test.YtfmaflaoplkdbaaGreatDoorGenAll
import Derived.Laws.ResultCell
set_option linter.unusedSimpArgs false
set_option linter.unusedVariables false
set_option linter.unnecessarySimpa false
namespace Go.Proofs.YtfmaflaoplkdbaaGreatDoor.Cm
open Go.RowKit Go.Proofs.YtfmaflaoplkdbaaGreatDoor.Crc Go.Proofs.YtfmaflaoplkdbaaGreatDoor.Var

theorem infoS : (Tryz.prog.info? 9).map (fun i => (i.zero, i.size, i.bytes)) = some (some (.string ByteArray.empty), 1, 16) := by kernel_rfl
theorem info_parts {p : Option TypeInfo} {z : Value} {a b : Nat} (h : p.map (fun i => (i.zero, i.size, i.bytes)) = some (some z, a, b)) : ∃ i, p = some i ∧ i.zero = some z ∧ i.size = a ∧ i.bytes = b := by
  cases p with
  | none => cases h
  | some i =>
    simp only [Option.map_some, Option.some.injEq, Prod.mk.injEq] at h
    exact ⟨i, rfl, h.1, h.2.1, h.2.2⟩
abbrev ZA : Array Value := #[.int .u32 0, .int .u32 0, .int .u8 0, .slice none 0 0, .string ⟨#[]⟩, .string ⟨#[]⟩, .int .i64 0]
theorem strs_own {w : World} {base n : Nat} {e : TypeId} {v : Value} {l : List (List UInt8)} (h : w.ownsRow base e 1 v n (l.map strV)) (hn : n = l.length) : Strs w (fun k => v.ownBlock = some k) v l := by
  obtain ⟨ao, cap, rfl, h1, h2, h3⟩ := owns_slice h
  subst hn
  refine ⟨ao, cap, rfl, src_own h (by simp [strV, Value.oneCell']), h1, h2, fun a ha hm => ?_⟩
  rcases h.2 with ⟨e2, e3⟩ | ⟨g, c, cur, e2, -⟩
  · omega
  · cases e2; cases ha; rfl
theorem store7 {w : World} {b : Nat} {a0 a1 a2 a3 a4 a5 a6 : Value} {t : TypeId} (h0 : w.heap[b]? = some (.cells #[a0, a1, a2, a3, a4, a5, a6] t (0, 0))) (v0 v1 v2 v3 v4 v5 v6 : Value) :
    ∃ W, (((((((w.setCell ⟨b, 0, none⟩ v0).setCell ⟨b, 1, none⟩ v1).setCell ⟨b, 2, none⟩ v2).setCell ⟨b, 3, none⟩ v3).setCell ⟨b, 4, none⟩ v4).setCell ⟨b, 5, none⟩ v5).setCell ⟨b, 6, none⟩ v6) = W ∧
      W.heap[b]? = some (.cells #[v0, v1, v2, v3, v4, v5, v6] t (0, 0)) ∧ ∀ S a, Upd S a w → (b ∈ S ∨ a.heap.size ≤ b) → Upd S a W := by
  have h1 := blk_set (i := 0) h0 v0
  simp only [List.setIfInBounds_toArray, List.set_cons_zero] at h1
  have h2 := blk_set (i := 1) h1 v1
  simp only [List.setIfInBounds_toArray, List.set_cons_succ, List.set_cons_zero] at h2
  have h3 := blk_set (i := 2) h2 v2
  simp only [List.setIfInBounds_toArray, List.set_cons_succ, List.set_cons_zero] at h3
  have h4 := blk_set (i := 3) h3 v3
  simp only [List.setIfInBounds_toArray, List.set_cons_succ, List.set_cons_zero] at h4
  have h5 := blk_set (i := 4) h4 v4
  simp only [List.setIfInBounds_toArray, List.set_cons_succ, List.set_cons_zero] at h5
  have h6 := blk_set (i := 5) h5 v5
  simp only [List.setIfInBounds_toArray, List.set_cons_succ, List.set_cons_zero] at h6
  have h7 := blk_set (i := 6) h6 v6
  simp only [List.setIfInBounds_toArray, List.set_cons_succ, List.set_cons_zero] at h7
  exact ⟨_, rfl, h7, fun S a hu hb => ((((((hu.setCell hb _).setCell hb _).setCell hb _).setCell hb _).setCell hb _).setCell hb _).setCell hb _⟩
theorem store3 {w : World} {b : Nat} {a0 a1 a2 a3 a4 a5 a6 : Value} {t : TypeId} (h0 : w.heap[b]? = some (.cells #[a0, a1, a2, a3, a4, a5, a6] t (0, 0))) (v0 v1 v2 : Value) :
    ∃ W, (((w.setCell ⟨b, 0, none⟩ v0).setCell ⟨b, 1, none⟩ v1).setCell ⟨b, 2, none⟩ v2) = W ∧
      W.heap[b]? = some (.cells #[v0, v1, v2, a3, a4, a5, a6] t (0, 0)) ∧ ∀ S a, Upd S a w → (b ∈ S ∨ a.heap.size ≤ b) → Upd S a W := by
  have h1 := blk_set (i := 0) h0 v0
  simp only [List.setIfInBounds_toArray, List.set_cons_zero] at h1
  have h2 := blk_set (i := 1) h1 v1
  simp only [List.setIfInBounds_toArray, List.set_cons_succ, List.set_cons_zero] at h2
  have h3 := blk_set (i := 2) h2 v2
  simp only [List.setIfInBounds_toArray, List.set_cons_succ, List.set_cons_zero] at h3
  exact ⟨_, rfl, h3, fun S a hu hb => ((hu.setCell hb _).setCell hb _).setCell hb _⟩
theorem store456 {w : World} {b : Nat} {a0 a1 a2 a3 a4 a5 a6 : Value} {t : TypeId} (h0 : w.heap[b]? = some (.cells #[a0, a1, a2, a3, a4, a5, a6] t (0, 0))) (v4 v5 v6 : Value) :
    ∃ W, (((w.setCell ⟨b, 4, none⟩ v4).setCell ⟨b, 5, none⟩ v5).setCell ⟨b, 6, none⟩ v6) = W ∧
      W.heap[b]? = some (.cells #[a0, a1, a2, a3, v4, v5, v6] t (0, 0)) ∧ ∀ S a, Upd S a w → (b ∈ S ∨ a.heap.size ≤ b) → Upd S a W := by
  have h1 := blk_set (i := 4) h0 v4
  simp only [List.setIfInBounds_toArray, List.set_cons_succ, List.set_cons_zero] at h1
  have h2 := blk_set (i := 5) h1 v5
  simp only [List.setIfInBounds_toArray, List.set_cons_succ, List.set_cons_zero] at h2
  have h3 := blk_set (i := 6) h2 v6
  simp only [List.setIfInBounds_toArray, List.set_cons_succ, List.set_cons_zero] at h3
  exact ⟨_, rfl, h3, fun S a hu hb => ((hu.setCell hb _).setCell hb _).setCell hb _⟩
theorem ret_cm {fn : Func} {p u : Tmp} {B : Nat} {v0 v1 v2 v3 v4 v5 v6 x : Value} {W : World} {act : Act} {post : Ending → World → Prop} (hW : W.heap[B]? = some (.cells #[v0, v1, v2, v3, v4, v5, v6] TCmd (0, 0)))
    (hfn : fn.results = #[.cell p TCmd, .tmp u]) (hp : act.tmps.getD p undef = .pointer (some ⟨B, 0, none⟩)) (hv : act.tmps.getD u undef = x) (hd : act.defers = []) (h : post (.returned (.tuple #[.agg #[v0, v1, v2, v3, v4, v5, v6], x])) W) :
    bodyPost Tryz.prog fn post Exit.ret act W := by
  have z0 : W.cell? ⟨B, 0, none⟩ = some v0 := blk_cell hW rfl
  have z1 : W.cell? ⟨B, 1, none⟩ = some v1 := blk_cell hW rfl
  have z2 : W.cell? ⟨B, 2, none⟩ = some v2 := blk_cell hW rfl
  have z3 : W.cell? ⟨B, 3, none⟩ = some v3 := blk_cell hW rfl
  have z4 : W.cell? ⟨B, 4, none⟩ = some v4 := blk_cell hW rfl
  have z5 : W.cell? ⟨B, 5, none⟩ = some v5 := blk_cell hW rfl
  have z6 : W.cell? ⟨B, 6, none⟩ = some v6 := blk_cell hW rfl
  refine bodyPost_ret (v := .tuple #[.agg #[v0, v1, v2, v3, v4, v5, v6], x]) ?_ hd h
  rw [results_cell_tmp hfn, hp, hv]
  go_simp
theorem cmAt_zero (w : World) (T : Nat → Prop) : CmAt w T (.agg ZA) Cm.zero := ⟨zero_fits, .slice none 0 0, rfl, Strs.nil _ _⟩
set_option maxRecDepth 100000 in
set_option maxHeartbeats 4000000 in
theorem take_any {T : Nat → Prop} {R : Nat} {s : St} (w : World) (h : RdS w T R ((64 : Nat) : Int) s) (hT : ∀ k, T k → k < w.heap.size) (hR : R < w.heap.size) (hB : s.2.length ≤ 1000000000000) :
    Calls Tryz.prog 108 #[.pointer (some ⟨R, 0, none⟩)] w fun e w' => (∃ v, e = .returned (.tuple #[v, .bool (takeM 64 s).2.1]) ∧ CmAt w' (since w.heap.size w') v (takeM 64 s).1) ∧ RdS w' T R ((64 : Nat) : Int) (takeM 64 s).2.2 ∧ Upd [R] w w' := by
  have H := hide h; have HT := hide hT
  clear h hT
  have hneR : ∀ n, w.heap.size + n ∉ [R] := fun n => by simp; omega
  have hneR0 : w.heap.size ∉ [R] := by simp; omega
  have NER := hide hneR; have NER0 := hide hneR0
  clear hneR hneR0
  go_enter Tryz.func108, Tryz.ntmps108
  go_wp2_with fail
  have zX := blk_alloc (blk_new w (.cells ZA TCmd)) (.cells ZA TCmd)
  have zY := blk_new (w.alloc (.cells ZA TCmd)) (.cells ZA TCmd)
  have zU := ((Upd.refl [] w).alloc (.cells ZA TCmd)).alloc (.cells ZA TCmd)
  rw [World.size_alloc] at zY
  generalize hW : (w.alloc (.cells ZA TCmd)).alloc (.cells ZA TCmd) = W at *
  obtain ⟨n1, s1, e1⟩ : ∃ n1 s1, uintM s = (n1, s1) := ⟨_, _, rfl⟩
  obtain ⟨n2, s2, e2⟩ : ∃ n2 s2, uintM s1 = (n2, s2) := ⟨_, _, rfl⟩
  obtain ⟨n3, s3, e3⟩ : ∃ n3 s3, uintM s2 = (n3, s3) := ⟨_, _, rfl⟩
  obtain ⟨n4, s4, e4⟩ : ∃ n4 s4, uintM s3 = (n4, s4) := ⟨_, _, rfl⟩
  have hh : headsM s = ⟨n1, n2, n3, n4, s4⟩ := by unfold headsM; simp only [e1, e2, e3, e4]
  have hl4 : s4.2.length ≤ 1000000000000 := by have := headsM_left s; rw [hh] at this; simp only at this; omega
  have HH := hide hh; have E1 := hide e1; have E2 := hide e2; have E3 := hide e3; have E4 := hide e4
  clear hh e1 e2 e3 e4
  refine (small_s (most := 4294967295) W (H.out.upd zU)).mono ?_
  rw [E1.out]
  rintro e w1 ⟨rfl, h1, hu1⟩
  have X1 := hide (hu1.get zX NER0.out); have Y1 := hide (hu1.get zY (NER.out 1)); have R1 := hide h1; have U1 := hide ((zU.mono (by simp)).trans hu1)
  clear h1 hu1 zX zY zU hW H
  go_wp2_with fail
  refine (small_s (most := 4294967295) w1 R1.out).mono ?_
  rw [E2.out]
  rintro e w2 ⟨rfl, h2, hu2⟩
  have X2 := hide (hu2.get X1.out NER0.out); have Y2 := hide (hu2.get Y1.out (NER.out 1)); have R2 := hide h2; have U2 := hide (U1.out.trans hu2)
  clear h2 hu2 X1 Y1 R1 U1
  go_wp2_with fail
  refine (small_s (most := 255) w2 R2.out).mono ?_
  rw [E3.out]
  rintro e w3 ⟨rfl, h3, hu3⟩
  have X3 := hide (hu3.get X2.out NER0.out); have Y3 := hide (hu3.get Y2.out (NER.out 1)); have R3 := hide h3; have U3 := hide (U2.out.trans hu3)
  clear h3 hu3 X2 Y2 R2 U2
  go_wp2_with fail
  refine (small_s (most := 16) w3 R3.out).mono ?_
  rw [E4.out]
  rintro e w4 ⟨rfl, h4, hu4⟩
  have X4 := hide (hu4.get X3.out NER0.out); have Y4 := hide (hu4.get Y3.out (NER.out 1)); have R4 := hide h4; have U4 := hide (U3.out.trans hu4)
  clear h4 hu4 X3 Y3 R3 U3
  simp only
  by_cases hok : (⟨n1, n2, n3, n4, s4⟩ : Heads).ok = true
  · have hb4 : n1 ≤ 4294967295 ∧ n2 ≤ 4294967295 ∧ n3 ≤ 255 ∧ n4 ≤ 16 := by
      unfold Heads.ok at hok
      simp only [Bool.and_eq_true, decide_eq_true_eq] at hok
      exact ⟨hok.1.1.1, hok.1.1.2, hok.1.2, hok.2⟩
    obtain ⟨c1, c2, c3, c4⟩ := hb4
    obtain ⟨ks, s5, e5⟩ : ∃ ks s5, textsM 64 n4 s4 = (ks, s5) := ⟨_, _, rfl⟩
    obtain ⟨od, s6, e6⟩ : ∃ od s6, textM 64 s5 = (od, s6) := ⟨_, _, rfl⟩
    obtain ⟨nw, s7, e7⟩ : ∃ nw s7, textM 64 s6 = (nw, s7) := ⟨_, _, rfl⟩
    obtain ⟨m, s8, e8⟩ : ∃ m s8, uintM s7 = (m, s8) := ⟨_, _, rfl⟩
    have hall : takeM 64 s = (⟨n1, n2, n3, ks, od, nw, intV m⟩, true, s8) := by
      unfold takeM
      rw [HH.out, if_pos hok]
      simp only [tailM, e5, e6, e7, e8]
    have hfit := takeM_fits s
    rw [hall] at hfit
    have hl5 : s5.2.length ≤ 1000000000000 := by have := textsM_left 64 n4 s4; rw [e5] at this; simp only at this; omega
    have hl6 : s6.2.length ≤ 1000000000000 := by have := textM_left 64 s5; rw [e6] at this; simp only at this; omega
    have ALL := hide hall; have E5 := hide e5; have E6 := hide e6; have E7 := hide e7; have E8 := hide e8; have FIT := hide hfit
    clear hall e5 e6 e7 e8 hok hfit
    have d1 : decide (n1 ≤ 4294967295) = true := by simpa using c1
    have d2 : decide (n2 ≤ 4294967295) = true := by simpa using c2
    have d3 : decide (n3 ≤ 255) = true := by simpa using c3
    have d4 : decide (n4 ≤ 16) = true := by simpa using c4
    rw [d1, d2, d3, d4]
    clear d1 d2 d3 d4
    have v1 : IntKind.u32.wrap (n1 : Int) = n1 := IntWalk.u32_in _ (by omega)
    have v2 : IntKind.u32.wrap (n2 : Int) = n2 := IntWalk.u32_in _ (by omega)
    have v3 : IntKind.u8.wrap (n3 : Int) = n3 := IntWalk.u8_in _ (by omega)
    have y0 : w4.cell? ⟨w.heap.size + 1, 0, none⟩ = some (.int .u32 0) := blk_cell Y4.out rfl
    have y1 : w4.cell? ⟨w.heap.size + 1, 1, none⟩ = some (.int .u32 0) := blk_cell Y4.out rfl
    have y2 : w4.cell? ⟨w.heap.size + 1, 2, none⟩ = some (.int .u8 0) := blk_cell Y4.out rfl
    have yf : ∀ i, w4.frozen? ⟨w.heap.size + 1, i, none⟩ = false := fun i => blk_free Y4.out
    go_wp2_with fail
    obtain ⟨W5, ew5, hb5, hu5⟩ := store3 Y4.out (.int .u32 (n1 : Int)) (.int .u32 (n2 : Int)) (.int .u8 (n3 : Int))
    rw [ew5]
    have Y5 := hide hb5; have X5 := hide ((hu5 _ _ (Upd.refl [w.heap.size + 1] _) (.inl (by simp))).get X4.out (by simp))
    have R5 := hide (R4.out.updS (hu5 _ _ (Upd.refl [w.heap.size + 1] _) (.inl (by simp))) (by simp; omega) (by simp; intro hk; have := HT.out _ hk; omega))
    have U5 := hide (hu5 _ _ U4.out (.inr (by omega)))
    clear hb5 hu5 ew5 y0 y1 y2 yf v1 v2 v3 X4 Y4 R4 U4
    obtain ⟨i1, hi1, hz0, hz1, hz2⟩ := info_parts infoS
    go_loopw [58] (fun st wr => ∃ (k : Nat) (kv : Value), k ≤ n4 ∧ st = .int .u64 k ∧ wr.heap[w.heap.size + 1]? = some (.cells #[.int .u32 (n1 : Int), .int .u32 (n2 : Int), .int .u8 (n3 : Int), kv, .string ⟨#[]⟩, .string ⟨#[]⟩, .int .i64 0] TCmd (0, 0)) ∧ wr.heap[w.heap.size]? = some (.cells ZA TCmd (0, 0)) ∧
      wr.ownsRow (w.heap.size + 2) 9 1 kv k ((textsM 64 k s4).1.map strV) ∧ RdS wr T R ((64 : Nat) : Int) (textsM 64 k s4).2 ∧ Upd [R] w wr) (fun st _ => n4 - (intOf st).toNat)
    case atStart => exact ⟨0, .slice none 0 0, by omega, rfl, Y5.out, X5.out, World.ownsRow_nil _ _ _ _, R5.out, U5.out⟩
    case round =>
      obtain ⟨k, kv, hk, rfl, hy, hx, ho, hr, hu⟩ := hrel
      have HY := hide hy; have HX := hide hx; have HO := hide ho; have HR := hide hr; have HU := hide hu
      have hsz := blk_lt hy
      clear hx hr hu
      by_cases hlt : k < n4
      · have q1 : decide ((k : Int) < (n4 : Int)) = true := by simp; omega
        have q1' : decide (k < n4) = true := by simp; omega
        have hk3 : wr.cell? ⟨w.heap.size + 1, 3, none⟩ = some kv := blk_cell hy rfl
        have hlk : (textsM 64 k s4).2.2.length ≤ 1000000000000 := Nat.le_trans (textsM_left _ _ _) hl4
        have hown := owns_lt ho
        obtain ⟨ao, cap, rfl, hcap1, hcap2, -⟩ := owns_slice ho
        have HW := hide hown
        clear ho hy hown
        go_wp2_with fail
        refine wp_region_z (fun w' => w'.cell? ⟨w.heap.size + 1, 3, none⟩ = some (.slice ao k cap)) 7 (by kernel_rfl) ?_
        refine wpAnyZ_takeE 0 rfl (by kernel_rfl) (by kernel_rfl) (by kernel_rfl) (by kernel_rfl) (fun _ _ _ _ h => h) rfl (by exact hk3) ?_
        apply Exists.intro
        refine ⟨fun wx hS => ?_, ?_⟩
        · have s0 := hS; go_simp; rfl
        simp only [Act.put, List.setIfInBounds_toArray, List.set_cons_succ, List.set_cons_zero, List.getElem_toArray, List.getElem_cons_zero]
        refine wpAnyZ_takeE 1 rfl (by kernel_rfl) (by kernel_rfl) (by kernel_rfl) (by kernel_rfl) (fun _ _ _ _ h => h) rfl (by exact hk3) ?_
        apply Exists.intro
        refine ⟨fun wx hS => ?_, ?_⟩
        · have s0 := hS; go_simp; rfl
        simp only [Act.put, List.setIfInBounds_toArray, List.set_cons_succ, List.set_cons_zero, List.getElem_toArray, List.getElem_cons_succ, List.getElem_cons_zero]
        refine wpAnyZ_takeE 2 rfl (by kernel_rfl) (by kernel_rfl) (by kernel_rfl) (by kernel_rfl) (fun _ _ _ _ h => h) rfl (by exact hk3) ?_
        apply Exists.intro
        refine ⟨fun wx hS => ?_, ?_⟩
        · have s0 := hS; go_simp; rfl
        simp only [Act.put, List.setIfInBounds_toArray, List.set_cons_succ, List.set_cons_zero, List.getElem_toArray, List.getElem_cons_succ, List.getElem_cons_zero]
        refine wpAnyZ_one 3 (by kernel_rfl) rfl rfl (fun K hK => ?_)
        try simp only [List.getElem_toArray, List.getElem_cons_succ, List.getElem_cons_zero]
        go_simp
        obtain ⟨t, st, et⟩ : ∃ t st, textM 64 (textsM 64 k s4).2 = (t, st) := ⟨_, _, rfl⟩
        have ET := hide et
        clear et
        refine (text_s (lim := 64) _ (HR.out.upd ((Upd.refl _ _).drewN 1)) (by decide) hlk).mono ?_
        rw [ET.out]
        rintro e w6 ⟨rfl, hr6, hu6'⟩
        have hu6 := ((Upd.refl [R] wr).drewN 1).trans hu6'
        have Y6 := hide (hu6.get HY.out (NER.out 1)); have X6 := hide (hu6.get HX.out NER0.out); have R6 := hide hr6; have U6 := hide (HU.out.trans hu6)
        have O6 := hide (owns_upd HO.out hu6 (fun g hg => by have := (HW.out g hg).1; simp; omega))
        have hk6 : w6.cell? ⟨w.heap.size + 1, 3, none⟩ = some (.slice ao k cap) := blk_cell Y6.out rfl
        have hk7 : (w6.alloc (.cells #[.string (strOf t)] 9)).cell? ⟨w.heap.size + 1, 3, none⟩ = some (.slice ao k cap) := blk_cell (blk_alloc Y6.out _) rfl
        have hs6 := hu6.size
        clear hr6 hu6 hu6' HY HX HO HR HU
        refine hK _ _ (.inr hk6) ?_
        clear hK K
        try simp only [Act.put, List.setIfInBounds_toArray, List.set_cons_succ, List.set_cons_zero]
        refine wpAnyZ_one 4 (by kernel_rfl) rfl rfl (fun K hK => ?_)
        try simp only [List.getElem_toArray, List.getElem_cons_succ, List.getElem_cons_zero]
        go_simp
        refine hK _ _ (.inr hk7) ?_
        clear hK K
        try simp only [Act.put, List.setIfInBounds_toArray, List.set_cons_succ, List.set_cons_zero]
        refine wpAnyZ_one 5 (by kernel_rfl) rfl rfl (fun K hK => ?_)
        try simp only [List.getElem_toArray, List.getElem_cons_succ, List.getElem_cons_zero]
        refine wp_append_src _ _ _ 23 rfl (w.heap.size + 2) 9 i1 (.string ByteArray.empty) 1 16 Tryz.underlying23 hi1 hz0 hz1 hz2 rfl (by decide) (.slice ao k cap) k ((textsM 64 k s4).1.map strV) rfl (by exact owns_upd O6.out ((Upd.refl [] w6).alloc _) (by simp)) (some ⟨w6.heap.size, 0, none⟩) 1 1 [.string (strOf t)] rfl (src_one (cell_new1 rfl) rfl) (by unfold maxLen; omega) (by omega) (by simp; omega) ?_
        intro ao7 cap7 w7 hown7 hU7 hn7
        have hU7' := grown_upd hU7
        have hnot : ∀ g, g < w.heap.size + 2 → g ∉ (Value.slice ao k cap).ownBlock.toList := fun g hg hm => by have := HW.out g (by simpa using hm); omega
        have Y7 := hide (hU7'.get Y6.out (hnot _ (by omega))); have X7 := hide (hU7'.get X6.out (hnot _ (by omega)))
        have R7 := hide (R6.out.updS hU7' (hnot _ (by omega)) (fun g hm hk => hnot g (by have := HT.out g hk; omega) hm))
        have U7 := hide (U6.out.trans_new hU7' (fun g hm => .inr (by have := HW.out g (by simpa using hm); omega)))
        have hk8 : w7.cell? ⟨w.heap.size + 1, 3, none⟩ = some (.slice ao k cap) := blk_cell Y7.out rfl
        have hf8 : w7.frozen? ⟨w.heap.size + 1, 3, none⟩ = false := blk_free Y7.out
        have O7 := hide hown7; have N7 := hide hn7
        clear hown7 hU7 hU7' hn7 hnot hk6 hk7 Y6 X6 R6 U6 O6
        refine hK _ _ (.inr hk8) ?_
        clear hK K
        try simp only [Act.put, List.setIfInBounds_toArray, List.set_cons_succ, List.set_cons_zero]
        refine wpAnyZ_one 6 (by kernel_rfl) rfl rfl (fun K hK => ?_)
        try simp only [List.getElem_toArray, List.getElem_cons_succ, List.getElem_cons_zero]
        go_simp
        refine hK _ _ (.inr hk8) ?_
        clear hK K
        try simp only [Act.put, List.setIfInBounds_toArray, List.set_cons_succ, List.set_cons_zero]
        refine wpAnyZ_one 7 (by kernel_rfl) rfl rfl (fun K hK => ?_)
        try simp only [List.getElem_toArray, List.getElem_cons_succ, List.getElem_cons_zero]
        go_simp
        refine hK _ _ (.inl rfl) ?_
        clear hK K
        try simp only [Act.put, List.setIfInBounds_toArray, List.set_cons_succ, List.set_cons_zero]
        refine wpAnyZ_done (by kernel_rfl) ?_ _
        have hb8 := blk_set (i := 3) Y7.out (.slice ao7 (k + 1) cap7)
        simp only [List.setIfInBounds_toArray, List.set_cons_succ, List.set_cons_zero] at hb8
        have hu8 : Upd [w.heap.size + 1] w7 (w7.setCell ⟨w.heap.size + 1, 3, none⟩ (.slice ao7 (k + 1) cap7)) := (Upd.refl _ _).setCell (.inl (by simp)) _
        have X8 := hide (hu8.get X7.out (by simp)); have Y8 := hide hb8
        have R8 := hide (R7.out.updS hu8 (by simp; omega) (by simp; intro hk; have := HT.out _ hk; omega))
        have U8 := hide (U7.out.trans_new hu8 (fun g hm => .inr (by simp at hm; omega)))
        have O8 := hide (owns_upd O7.out hu8 (fun g hg => by have := (owns_lt O7.out g hg).1; simp; omega))
        clear hu8 hb8 X7 Y7 R7 U7 O7 hk8 hf8
        generalize w7.setCell ⟨w.heap.size + 1, 3, none⟩ (.slice ao7 (k + 1) cap7) = w8 at *
        go_wp2_with fail
        go_roundw
        case rel => exact ⟨k + 1, .slice ao7 (k + 1) cap7, by omega, by go_num, Y8.out, X8.out, by simp only [textsM, ET.out, List.map_append]; exact O8.out, by simp only [textsM, ET.out]; exact R8.out, U8.out⟩
        case measure => simp [intOf]; omega
      · have hkn : k = n4 := by omega
        subst hkn
        have q1 : decide ((k : Int) < (k : Int)) = false := by simp
        have q1' : decide (k < k) = false := by simp
        have hr5 := HR.out
        rw [E5.out] at hr5
        rw [E5.out] at ho
        obtain ⟨ao, cap, rfl, -, -, -⟩ := owns_slice ho
        have O5 := hide ho
        clear ho hy HR HO
        go_wp2_with fail
        refine (text_s (lim := 64) _ hr5 (by decide) hl5).mono ?_
        rw [E6.out]
        rintro e w6 ⟨rfl, hr6, hu6⟩
        have Y6 := hide (hu6.get HY.out (NER.out 1)); have X6 := hide (hu6.get HX.out NER0.out); have R6 := hide hr6; have U6 := hide (HU.out.trans hu6)
        have O6 := hide (owns_upd O5.out hu6 (fun g hg => by have := (owns_lt O5.out g hg).1; simp; omega))
        clear hr6 hu6 HY HX HU O5 hr5
        go_wp2_with fail
        refine (text_s (lim := 64) _ R6.out (by decide) hl6).mono ?_
        rw [E7.out]
        rintro e w7 ⟨rfl, hr7, hu7⟩
        have Y7 := hide (hu7.get Y6.out (NER.out 1)); have X7 := hide (hu7.get X6.out NER0.out); have R7 := hide hr7; have U7 := hide (U6.out.trans hu7)
        have O7 := hide (owns_upd O6.out hu7 (fun g hg => by have := (owns_lt O6.out g hg).1; simp; omega))
        clear hr7 hu7 Y6 X6 R6 U6 O6
        go_wp2_with fail
        refine (int_s _ R7.out).mono ?_
        rw [E8.out]
        rintro e w8 ⟨rfl, hr8, hu8⟩
        have Y8 := hide (hu8.get Y7.out (NER.out 1)); have X8 := hide (hu8.get X7.out NER0.out); have R8 := hide hr8; have U8 := hide (U7.out.trans hu8)
        have O8 := hide (owns_upd O7.out hu8 (fun g hg => by have := (owns_lt O7.out g hg).1; simp; omega))
        clear hr8 hu8 Y7 X7 R7 U7 O7
        simp only
        have y0 : w8.cell? ⟨w.heap.size + 1, 0, none⟩ = some (.int .u32 (n1 : Int)) := blk_cell Y8.out rfl
        have y1 : w8.cell? ⟨w.heap.size + 1, 1, none⟩ = some (.int .u32 (n2 : Int)) := blk_cell Y8.out rfl
        have y2 : w8.cell? ⟨w.heap.size + 1, 2, none⟩ = some (.int .u8 (n3 : Int)) := blk_cell Y8.out rfl
        have y3 : w8.cell? ⟨w.heap.size + 1, 3, none⟩ = some (.slice ao k cap) := blk_cell Y8.out rfl
        have y4 : w8.cell? ⟨w.heap.size + 1, 4, none⟩ = some (.string ⟨#[]⟩) := blk_cell Y8.out rfl
        have y5 : w8.cell? ⟨w.heap.size + 1, 5, none⟩ = some (.string ⟨#[]⟩) := blk_cell Y8.out rfl
        have y6 : w8.cell? ⟨w.heap.size + 1, 6, none⟩ = some (.int .i64 0) := blk_cell Y8.out rfl
        have x0 : w8.cell? ⟨w.heap.size, 0, none⟩ = some (.int .u32 0) := blk_cell X8.out rfl
        have x1 : w8.cell? ⟨w.heap.size, 1, none⟩ = some (.int .u32 0) := blk_cell X8.out rfl
        have x2 : w8.cell? ⟨w.heap.size, 2, none⟩ = some (.int .u8 0) := blk_cell X8.out rfl
        have x3 : w8.cell? ⟨w.heap.size, 3, none⟩ = some (.slice none 0 0) := blk_cell X8.out rfl
        have x4 : w8.cell? ⟨w.heap.size, 4, none⟩ = some (.string ⟨#[]⟩) := blk_cell X8.out rfl
        have x5 : w8.cell? ⟨w.heap.size, 5, none⟩ = some (.string ⟨#[]⟩) := blk_cell X8.out rfl
        have x6 : w8.cell? ⟨w.heap.size, 6, none⟩ = some (.int .i64 0) := blk_cell X8.out rfl
        have xf : ∀ i, w8.frozen? ⟨w.heap.size, i, none⟩ = false := fun i => blk_free X8.out
        have yf : ∀ i, w8.frozen? ⟨w.heap.size + 1, i, none⟩ = false := fun i => blk_free Y8.out
        go_wp2_with fail
        obtain ⟨W9, e9, hb9, hu9⟩ := store456 Y8.out (.string (strOf od)) (.string (strOf nw)) (.int .i64 (intV m))
        rw [e9]
        have hx9 := (hu9 _ _ (Upd.refl [w.heap.size + 1] _) (.inl (by simp))).get X8.out (by simp)
        obtain ⟨W10, e10, hb10, hu10⟩ := store7 hx9 (.int .u32 (n1 : Int)) (.int .u32 (n2 : Int)) (.int .u8 (n3 : Int)) (.slice ao k cap) (.string (strOf od)) (.string (strOf nw)) (.int .i64 (intV m))
        rw [e10]
        try simp only [Exit.inBlock, Exit.then]
        have hu : ∀ S a, Upd S a w8 → (w.heap.size + 1 ∈ S ∨ a.heap.size ≤ w.heap.size + 1) → (w.heap.size ∈ S ∨ a.heap.size ≤ w.heap.size) → Upd S a W10 := fun S a h h1 h2 => hu10 S a (hu9 S a h h1) h2
        have hd := hu [w.heap.size, w.heap.size + 1] w8 (Upd.refl _ _) (.inl (by simp)) (.inl (by simp))
        have hoo := owns_upd O8.out hd (fun g hg => by have := (owns_lt O8.out g hg).1; simp; omega)
        exact ret_cm hb10 rfl rfl rfl rfl (by
          rw [ALL.out]
          refine ⟨⟨_, rfl, FIT.out, .slice ao k cap, rfl, (strs_own hoo (by have := textsM_len 64 k s4; rw [E5.out] at this; exact this.symm)).mono (fun g hg => ?_)⟩, R8.out.updS hd (by simp; omega) (by simp; exact ⟨fun hk => by have := HT.out _ hk; omega, fun hk => by have := HT.out _ hk; omega⟩), hu _ _ U8.out (.inr (by omega)) (.inr (Nat.le_refl _))⟩
          have := owns_lt hoo g hg
          exact ⟨by omega, this.2⟩)
  · have hbad : takeM 64 s = (Cm.zero, false, s4) := by
      unfold takeM
      rw [HH.out, if_neg hok]
    have OK := hide hok; have BAD := hide hbad
    clear hok hbad
    obtain ⟨b1, hb1⟩ : ∃ b, decide (n1 ≤ 4294967295) = b := ⟨_, rfl⟩
    obtain ⟨b2, hb2⟩ : ∃ b, decide (n2 ≤ 4294967295) = b := ⟨_, rfl⟩
    obtain ⟨b3, hb3⟩ : ∃ b, decide (n3 ≤ 255) = b := ⟨_, rfl⟩
    obtain ⟨b4, hb4⟩ : ∃ b, decide (n4 ≤ 16) = b := ⟨_, rfl⟩
    have hor : b1 = true → b2 = true → b3 = true → b4 = true → False := by
      rintro rfl rfl rfl rfl
      apply OK.out
      unfold Heads.ok
      simp only [hb1, hb2, hb3, hb4, Bool.and_self]
    rw [hb1, hb2, hb3, hb4]
    have HOR := hide hor
    clear hor hb1 hb2 hb3 hb4
    have y0 : w4.cell? ⟨w.heap.size + 1, 0, none⟩ = some (.int .u32 0) := blk_cell Y4.out rfl
    have y1 : w4.cell? ⟨w.heap.size + 1, 1, none⟩ = some (.int .u32 0) := blk_cell Y4.out rfl
    have y2 : w4.cell? ⟨w.heap.size + 1, 2, none⟩ = some (.int .u8 0) := blk_cell Y4.out rfl
    have y3 : w4.cell? ⟨w.heap.size + 1, 3, none⟩ = some (.slice none 0 0) := blk_cell Y4.out rfl
    have y4 : w4.cell? ⟨w.heap.size + 1, 4, none⟩ = some (.string ⟨#[]⟩) := blk_cell Y4.out rfl
    have y5 : w4.cell? ⟨w.heap.size + 1, 5, none⟩ = some (.string ⟨#[]⟩) := blk_cell Y4.out rfl
    have y6 : w4.cell? ⟨w.heap.size + 1, 6, none⟩ = some (.int .i64 0) := blk_cell Y4.out rfl
    have x0 : w4.cell? ⟨w.heap.size, 0, none⟩ = some (.int .u32 0) := blk_cell X4.out rfl
    have x1 : w4.cell? ⟨w.heap.size, 1, none⟩ = some (.int .u32 0) := blk_cell X4.out rfl
    have x2 : w4.cell? ⟨w.heap.size, 2, none⟩ = some (.int .u8 0) := blk_cell X4.out rfl
    have x3 : w4.cell? ⟨w.heap.size, 3, none⟩ = some (.slice none 0 0) := blk_cell X4.out rfl
    have x4 : w4.cell? ⟨w.heap.size, 4, none⟩ = some (.string ⟨#[]⟩) := blk_cell X4.out rfl
    have x5 : w4.cell? ⟨w.heap.size, 5, none⟩ = some (.string ⟨#[]⟩) := blk_cell X4.out rfl
    have x6 : w4.cell? ⟨w.heap.size, 6, none⟩ = some (.int .i64 0) := blk_cell X4.out rfl
    have xf : ∀ i, w4.frozen? ⟨w.heap.size, i, none⟩ = false := fun i => blk_free X4.out
    rcases b1 with _ | _
    · go_wp2_with fail
      obtain ⟨W5, e5, hb5, hu5⟩ := store7 X4.out (.int .u32 0) (.int .u32 0) (.int .u8 0) (.slice none 0 0) (.string ⟨#[]⟩) (.string ⟨#[]⟩) (.int .i64 0)
      rw [e5]
      try simp only [Exit.inBlock, Exit.then]
      exact ret_cm hb5 rfl rfl rfl rfl (by
        rw [BAD.out]
        exact ⟨⟨_, rfl, cmAt_zero _ _⟩, R4.out.updS (hu5 _ _ (Upd.refl [w.heap.size] _) (.inl (by simp))) (by simp; omega) (by simp; intro hk; have := HT.out _ hk; omega), hu5 _ _ U4.out (.inr (Nat.le_refl _))⟩)
    · rcases b2 with _ | _
      · go_wp2_with fail
        obtain ⟨W5, e5, hb5, hu5⟩ := store7 X4.out (.int .u32 0) (.int .u32 0) (.int .u8 0) (.slice none 0 0) (.string ⟨#[]⟩) (.string ⟨#[]⟩) (.int .i64 0)
        rw [e5]
        try simp only [Exit.inBlock, Exit.then]
        exact ret_cm hb5 rfl rfl rfl rfl (by
          rw [BAD.out]
          exact ⟨⟨_, rfl, cmAt_zero _ _⟩, R4.out.updS (hu5 _ _ (Upd.refl [w.heap.size] _) (.inl (by simp))) (by simp; omega) (by simp; intro hk; have := HT.out _ hk; omega), hu5 _ _ U4.out (.inr (Nat.le_refl _))⟩)
      · rcases b3 with _ | _
        · go_wp2_with fail
          obtain ⟨W5, e5, hb5, hu5⟩ := store7 X4.out (.int .u32 0) (.int .u32 0) (.int .u8 0) (.slice none 0 0) (.string ⟨#[]⟩) (.string ⟨#[]⟩) (.int .i64 0)
          rw [e5]
          try simp only [Exit.inBlock, Exit.then]
          exact ret_cm hb5 rfl rfl rfl rfl (by
            rw [BAD.out]
            exact ⟨⟨_, rfl, cmAt_zero _ _⟩, R4.out.updS (hu5 _ _ (Upd.refl [w.heap.size] _) (.inl (by simp))) (by simp; omega) (by simp; intro hk; have := HT.out _ hk; omega), hu5 _ _ U4.out (.inr (Nat.le_refl _))⟩)
        · rcases b4 with _ | _
          · go_wp2_with fail
            obtain ⟨W5, e5, hb5, hu5⟩ := store7 X4.out (.int .u32 0) (.int .u32 0) (.int .u8 0) (.slice none 0 0) (.string ⟨#[]⟩) (.string ⟨#[]⟩) (.int .i64 0)
            rw [e5]
            try simp only [Exit.inBlock, Exit.then]
            exact ret_cm hb5 rfl rfl rfl rfl (by
              rw [BAD.out]
              exact ⟨⟨_, rfl, cmAt_zero _ _⟩, R4.out.updS (hu5 _ _ (Upd.refl [w.heap.size] _) (.inl (by simp))) (by simp; omega) (by simp; intro hk; have := HT.out _ hk; omega), hu5 _ _ U4.out (.inr (Nat.le_refl _))⟩)
          · exact (HOR.out rfl rfl rfl rfl).elim
end Go.Proofs.YtfmaflaoplkdbaaGreatDoor.Cm
