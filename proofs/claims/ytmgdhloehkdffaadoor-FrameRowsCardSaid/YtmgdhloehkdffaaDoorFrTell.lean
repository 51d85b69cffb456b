/- quoratelaw03.FrameTells returns true, and turns nothing that was there. -/
import Derived.Test.YtmgdhloehkdffaaDoorFrK
namespace Go.Proofs.YtmgdhloehkdffaaDoor.FrL
open Go.RowKit Go.Proofs.YtmgdhloehkdffaaDoor.Var Go.Proofs.YtmgdhloehkdffaaDoor.Crc Go.Proofs.YtmgdhloehkdffaaDoor.Fr

set_option maxRecDepth 100000 in
set_option maxHeartbeats 4000000 in
theorem tells_long {xo yo : Option Addr} {m c n d : Nat} (w : World) (hst : TabAt w) (h : 2000 < m ∨ 2000 < n) :
    Calls Tryd.prog 4 #[.slice xo m c, .slice yo n d] w fun e w' => e = .returned (.bool true) ∧ Upd [] w w' := by
  have H := hide (wakes_any w hst)
  have q0 : decide ((2000 : Int) < m) = true ∨ decide ((2000 : Int) < m) = false ∧ decide ((2000 : Int) < n) = true := by
    rcases Nat.lt_or_ge 2000 m with h1 | h1
    · exact .inl (by simp; omega)
    · exact .inr ⟨by simp; omega, by simp; omega⟩
  clear h hst
  rcases q0 with q0 | ⟨q0, q1⟩
  all_goals
    go_enter Tryd.func4, Tryd.ntmps4
    go_wp2_with fail
    refine H.out.mono ?_
    rintro e w3 ⟨rfl, hu3⟩
    have U3 := hide hu3
    clear hu3
    go_wp2_with fail
    go_ret
    exact ⟨rfl, U3.out⟩

theorem _root_.Go.Proofs.YtmgdhloehkdffaaDoor.Upd.of_cell {w w' : World} {b i : Nat} {v : Value} (h : Upd [] w w') (hc : w.cell? ⟨b, i, none⟩ = some v) : w'.cell? ⟨b, i, none⟩ = some v := by
  rw [← hc]
  have := h.block b (World.block_lt_of_cell? w ⟨b, i, none⟩ hc) (by simp)
  simp only [World.cell?, this]
/-- Take's answer in one form. -/
def Took (w : World) (bs : List UInt8) (e : Ending) : Prop := ∃ yo n c, e = .returned (.tuple #[.slice yo n c, .int .i64 ((take bs).2.1 : Nat), .int .i64 (take bs).2.2]) ∧ SrcAt w yo n c ((take bs).1.map u8v) 1
theorem took_one {w w' : World} {xo : Option Addr} {bs : List UInt8} {e : Ending} (h : Fr.TakeSays w xo bs e w') : Upd [] w w' ∧ Took w bs e := by
  obtain ⟨hu, (⟨he, rfl⟩ | ⟨he, l, n, hn, hln, rfl, hs⟩)⟩ := h
  · obtain ⟨h1, h2⟩ := take_fail he
    exact ⟨hu, none, 0, 0, by rw [h2]; rfl, by rw [h1]; exact ⟨rfl, by simp, fun _ => ⟨rfl, rfl⟩, by simp⟩⟩
  · exact ⟨hu, _, _, _, by rw [he], hs⟩
theorem took_two {w w' : World} {xo : Option Addr} {c : Nat} {bs : List UInt8} {e : Ending} (h : Ref.TakeSays w xo c bs e w') : Upd [] w w' ∧ Took w bs e := by
  obtain ⟨hu, (⟨he, rfl⟩ | ⟨he, l, n, hn, hln, rfl, hs, -⟩)⟩ := h
  · obtain ⟨h1, h2⟩ := take_fail he
    exact ⟨hu, none, 0, 0, by rw [h2]; rfl, by rw [h1]; exact ⟨rfl, by simp, fun _ => ⟨rfl, rfl⟩, by simp⟩⟩
  · exact ⟨hu, _, _, _, by rw [he], hs⟩

set_option maxRecDepth 100000 in
set_option maxHeartbeats 8000000 in
theorem tells_any {xo yo : Option Addr} {m c n d : Nat} {xs ys : List UInt8} (w : World) (hst : TabAt w) (hx : SrcAt w xo m c (xs.map u8v) 1) (hy : SrcAt w yo n d (ys.map u8v) 1) (hmc : m ≤ c) (hc : c ≤ maxLen) (hm : m ≤ 2000) (hn : n ≤ 2000) :
    Calls Tryd.prog 4 #[.slice xo m c, .slice yo n d] w fun e w' => e = .returned (.bool true) ∧ Upd [] w w' := by
  have HST := hide hst; have HX := hide hx; have HY := hide hy
  have hxl : xs.length = m := by have := hx.len; simpa using this
  have hyl : ys.length = n := by have := hy.len; simpa using this
  have HXL := hide hxl; have HYL := hide hyl
  have q0 : decide ((2000 : Int) < m) = false := by simp; omega
  have q1 : decide ((2000 : Int) < n) = false := by simp; omega
  obtain ⟨i0, hi, hz0, hz1, hz2⟩ := info_parts infoB
  have hg0 := hst.lt
  have hylt : ∀ a, yo = some a → 0 < n → a.block < w.heap.size := fun a e h0 => by
    obtain ⟨b, off, e2, h2⟩ := src_at (j := 0) hy h0
    rw [e] at e2
    cases e2
    exact World.block_lt_of_cell? w ⟨b, off + 0, none⟩ h2
  have HYLT := hide hylt
  clear hst hx hy hxl hyl hylt
  go_enter Tryd.func4, Tryd.ntmps4
  go_wp2_with (at_builtin; go_must (refine wpList_append_src _ rfl _ _ 22 rfl w.heap.size 5 i0 (.int .u8 0) 1 1 Tryd.underlying22 hi hz0 hz1 hz2 rfl (by decide) (.slice none 0 0) 0 [] rfl ⟨rfl, .inl ⟨rfl, rfl⟩⟩ xo m c _ rfl HX.out (by unfold maxLen; omega) (by omega) (Nat.le_refl _) ?_))
  intro ao1 cap1 w1 hown1 hU1 hn1
  try simp only [Nat.zero_add, List.nil_append] at hown1
  have U1 := hide (show Upd [] w w1 from hU1)
  have O1 := hide hown1
  clear hown1 hU1 hn1
  -- behind Put: x reads as said, and e
  go_wp2_with fail
  have hcase : n = 0 ∨ 0 < n := by omega
  rcases hcase with h0 | h0
  case' inl =>
    refine (put_long _ (.inl h0)).mono ?_
    rintro e w2 ⟨rfl, rfl⟩
    have q2 : ((n : Int) == 0) = true := by simp; omega
    have hs1 := run_str (src_upd_nil HX.out U1.out)
    have hs2 := run_str (src_ownB O1.out)
    have hq := strOf_eq xs xs
    rw [decide_eq_true rfl] at hq
    clear h0
    go_upto_region 9 with fail
    have U2 := hide U1.out
    clear hs1 hs2 hq q2
    obtain ⟨w2, hw2⟩ : ∃ w2, w2 = w1 := ⟨_, rfl⟩
    rw [← hw2] at U2 ⊢
    clear hw2
  case' inr =>
    have q2 : ((n : Int) == 0) = false := by simp; omega
    refine (put_any (base := w.heap.size) (bs := xs) (ins := ys) (n := n) _ (HST.out.upd U1.out (by simp)) (by rw [HXL.out]; exact O1.out) U1.out.size (by rw [HXL.out]; omega) (src_upd_nil HY.out U1.out) h0 (by omega) (fun a e h => by
      have h1 := HYLT.out a e h0
      have h2 := (owns_lt O1.out _ h).1
      omega)).mono ?_
    rintro e w3 ⟨v3, rfl, hg⟩
    have ho3 := hg.own
    obtain ⟨zs, hzs⟩ : ∃ zs, xs ++ fr ys = zs := ⟨_, rfl⟩
    obtain ⟨q3, hq3⟩ : ∃ q, zs.length = q := ⟨_, rfl⟩
    rw [hzs, hq3] at ho3
    have HZS := hide hzs
    obtain ⟨ao3, cap3, rfl, hc31, hc32, -⟩ := owns_slice ho3
    have O3 := hide ho3
    have U3 := hide (U1.out.trans_new hg.upd (fun k hk => by
      simp only [Option.mem_toList] at hk
      exact .inr (owns_lt O1.out k hk).1))
    clear hg ho3 hzs hq3
    go_upto_region 7 with fail
    have hs1 := run_str (src_upd_nil HX.out (U3.out.drewN 1))
    have hs2 := run_str (src_ownB (owns_upd O3.out ((Upd.refl [] w3).drewN 1) (by simp)))
    have hy3 := src_upd_nil HY.out (U3.out.drewN 1)
    refine wp_region_z (fun w' => (convert 22 9 (.slice xo m c)).run Tryd.prog w' = .ok (.string (strOf xs)) w' ∧ (convert 22 9 (.slice ao3 q3 cap3)).run Tryd.prog w' = .ok (.string (strOf zs)) w') 99 (by kernel_rfl) ?_
    refine wpAnyZ_takeE 0 rfl (by kernel_rfl) (by kernel_rfl) (by kernel_rfl) (by kernel_rfl) (fun _ _ _ _ h => h) rfl (by exact ⟨hs1, hs2⟩) ?_
    apply Exists.intro
    refine ⟨fun wx hS => ?_, ?_⟩
    · obtain ⟨s0, s1⟩ := hS; go_simp; rfl
    simp only [Act.put, List.setIfInBounds_toArray, List.set_cons_succ, List.set_cons_zero, List.getElem_toArray, List.getElem_cons_zero]
    refine wpAnyZ_takeE 1 rfl (by kernel_rfl) (by kernel_rfl) (by kernel_rfl) (by kernel_rfl) (fun _ _ _ _ h => h) rfl (by exact ⟨hs1, hs2⟩) ?_
    apply Exists.intro
    refine ⟨fun wx hS => ?_, ?_⟩
    · obtain ⟨s0, s1⟩ := hS; go_simp; rfl
    simp only [Act.put, List.setIfInBounds_toArray, List.set_cons_succ, List.set_cons_zero, List.getElem_toArray, List.getElem_cons_succ, List.getElem_cons_zero]
    refine wpAnyZ_takeE 2 rfl (by kernel_rfl) (by kernel_rfl) (by kernel_rfl) (by kernel_rfl) (fun _ _ _ _ h => h) rfl (by exact ⟨hs1, hs2⟩) ?_
    apply Exists.intro
    refine ⟨fun wx hS => ?_, ?_⟩
    · obtain ⟨s0, s1⟩ := hS; go_simp; rfl
    simp only [Act.put, List.setIfInBounds_toArray, List.set_cons_succ, List.set_cons_zero, List.getElem_toArray, List.getElem_cons_succ, List.getElem_cons_zero]
    refine wpAnyZ_takeE 3 rfl (by kernel_rfl) (by kernel_rfl) (by kernel_rfl) (by kernel_rfl) (fun _ _ _ _ h => h) rfl (by exact ⟨hs1, hs2⟩) ?_
    apply Exists.intro
    refine ⟨fun wx hS => ?_, ?_⟩
    · obtain ⟨s0, s1⟩ := hS; go_simp; rfl
    simp only [Act.put, List.setIfInBounds_toArray, List.set_cons_succ, List.set_cons_zero, List.getElem_toArray, List.getElem_cons_succ, List.getElem_cons_zero]
    refine wpAnyZ_takeE 4 rfl (by kernel_rfl) (by kernel_rfl) (by kernel_rfl) (by kernel_rfl) (fun _ _ _ _ h => h) rfl (by exact ⟨hs1, hs2⟩) ?_
    apply Exists.intro
    refine ⟨fun wx hS => ?_, ?_⟩
    · obtain ⟨s0, s1⟩ := hS; go_simp; rfl
    simp only [Act.put, List.setIfInBounds_toArray, List.set_cons_succ, List.set_cons_zero, List.getElem_toArray, List.getElem_cons_succ, List.getElem_cons_zero]
    refine wpAnyZ_takeE 5 rfl (by kernel_rfl) (by kernel_rfl) (by kernel_rfl) (by kernel_rfl) (fun _ _ _ _ h => h) rfl (by exact ⟨hs1, hs2⟩) ?_
    apply Exists.intro
    refine ⟨fun wx hS => ?_, ?_⟩
    · obtain ⟨s0, s1⟩ := hS; go_simp; rfl
    simp only [Act.put, List.setIfInBounds_toArray, List.set_cons_succ, List.set_cons_zero, List.getElem_toArray, List.getElem_cons_succ, List.getElem_cons_zero]
    refine wpAnyZ_takeE 6 rfl (by kernel_rfl) (by kernel_rfl) (by kernel_rfl) (by kernel_rfl) (fun _ _ _ _ h => h) rfl (by exact ⟨hs1, hs2⟩) ?_
    apply Exists.intro
    refine ⟨fun wx hS => ?_, ?_⟩
    · obtain ⟨s0, s1⟩ := hS; go_simp; rfl
    simp only [Act.put, List.setIfInBounds_toArray, List.set_cons_succ, List.set_cons_zero, List.getElem_toArray, List.getElem_cons_succ, List.getElem_cons_zero]
    refine wpAnyZ_takeE 7 rfl (by kernel_rfl) (by kernel_rfl) (by kernel_rfl) (by kernel_rfl) (fun _ _ _ _ h => h) rfl (by exact ⟨hs1, hs2⟩) ?_
    apply Exists.intro
    refine ⟨fun wx hS => ?_, ?_⟩
    · obtain ⟨s0, s1⟩ := hS; go_simp; rfl
    simp only [Act.put, List.setIfInBounds_toArray, List.set_cons_succ, List.set_cons_zero, List.getElem_toArray, List.getElem_cons_succ, List.getElem_cons_zero]
    refine wpAnyZ_one 8 (by kernel_rfl) rfl rfl (fun K hK => ?_)
    try simp only [List.getElem_toArray, List.getElem_cons_succ, List.getElem_cons_zero]
    go_simp
    refine (Ref.frame_any _ hy3 (by omega)).mono ?_
    rintro e w2 ⟨v2, ao2, cap2, rfl, rfl, ho2, hu2⟩
    have U2 := hide ((U3.out.drewN 1).trans hu2)
    have hs1' := run_str (src_upd_nil HX.out U2.out)
    have hs2' := run_str (src_ownB (owns_upd O3.out (((Upd.refl [] w3).drewN 1).trans hu2) (by simp)))
    have hs3' := run_str (src_ownB ho2)
    clear hs1 hs2 hy3 ho2 hu2
    refine hK _ _ (.inr ⟨hs1', hs2'⟩) ?_
    clear hK K
    try simp only [Act.put, List.setIfInBounds_toArray, List.set_cons_succ, List.set_cons_zero]
    refine wpAnyZ_strong (S' := fun w' => (convert 22 9 (.slice ao2 (fr ys).length cap2)).run Tryd.prog w' = .ok (.string (strOf (fr ys))) w' ∧ (convert 22 9 (.slice xo m c)).run Tryd.prog w' = .ok (.string (strOf xs)) w' ∧ (convert 22 9 (.slice ao3 q3 cap3)).run Tryd.prog w' = .ok (.string (strOf zs)) w') (fun _ h => h.2) _ _ _ _ ?_
    refine wpAnyZ_takeE 9 rfl (by kernel_rfl) (by kernel_rfl) (by kernel_rfl) (by kernel_rfl) (fun _ _ _ _ h => h) rfl (by exact ⟨hs3', hs1', hs2'⟩) ?_
    apply Exists.intro
    refine ⟨fun wx hS => ?_, ?_⟩
    · obtain ⟨s0, s1, s2⟩ := hS; go_simp; rfl
    simp only [Act.put, List.setIfInBounds_toArray, List.set_cons_succ, List.set_cons_zero, List.getElem_toArray, List.getElem_cons_succ, List.getElem_cons_zero]
    refine wpAnyZ_one 10 (by kernel_rfl) rfl rfl (fun K hK => ?_)
    try simp only [List.getElem_toArray, List.getElem_cons_succ, List.getElem_cons_zero]
    go_simp
    have hszf : ¬ 9223372036854775807 < (strOf xs).size + (strOf (fr ys)).size := by
      have h1 := uv_len10 (n := ys.length) (by rw [HYL.out]; omega)
      rw [strOf_size, strOf_size, fr_len, HXL.out]
      have := HYL.out
      omega
    rw [if_neg hszf, strOf_append, HZS.out]
    go_simp
    refine hK _ _ (.inr ⟨hs3', hs1', hs2'⟩) ?_
    clear hK K hszf
    try simp only [Act.put, List.setIfInBounds_toArray, List.set_cons_succ, List.set_cons_zero]
    have hq := strOf_eq zs zs
    rw [decide_eq_true rfl] at hq
    refine wpAnyZ_one 11 (by kernel_rfl) rfl rfl (fun K hK => ?_)
    try simp only [List.getElem_toArray, List.getElem_cons_succ, List.getElem_cons_zero]
    go_simp
    refine hK _ _ (.inr ⟨hs3', hs1', hs2'⟩) ?_
    clear hK K
    try simp only [Act.put, List.setIfInBounds_toArray, List.set_cons_succ, List.set_cons_zero]
    refine wpAnyZ_one 12 (by kernel_rfl) rfl rfl (fun K hK => ?_)
    try simp only [List.getElem_toArray, List.getElem_cons_succ, List.getElem_cons_zero]
    go_simp
    refine hK _ _ (.inr ⟨hs3', hs1', hs2'⟩) ?_
    clear hK K
    try simp only [Act.put, List.setIfInBounds_toArray, List.set_cons_succ, List.set_cons_zero]
    refine wpAnyZ_done (by kernel_rfl) ?_ _
    clear hs1' hs2' hs3' hq q2 hc31 hc32
    go_upto_region 9 with fail
  all_goals
    go_wp2_with fail
    refine (Fr.take_any _ (HST.out.upd U2.out (by simp)) (src_upd_nil HX.out U2.out) hmc hc).mono ?_
    rintro e w4 htk
    obtain ⟨hu4, yo4, n4, c4, rfl, hs4⟩ := took_one htk
    obtain ⟨tn, htn⟩ : ∃ t, (take xs).2.1 = t := ⟨_, rfl⟩
    obtain ⟨te, hte⟩ : ∃ t, (take xs).2.2 = t := ⟨_, rfl⟩
    obtain ⟨tb, htb⟩ : ∃ t, (take xs).1 = t := ⟨_, rfl⟩
    rw [htb] at hs4
    rw [htn, hte]
    have U4 := hide (U2.out.trans hu4); have S4 := hide (src_upd_nil hs4 hu4); have HTN := hide htn; have HTE := hide hte; have HTB := hide htb
    clear htk hu4 hs4 htn hte htb
    go_wp2_with fail
    refine (Ref.take3_any _ (src_upd_nil HX.out U4.out) hmc hc).mono ?_
    rintro e w5 htk
    obtain ⟨hu5, yo5, n5, c5, rfl, hs5⟩ := took_two htk
    rw [HTB.out] at hs5
    rw [HTN.out, HTE.out]
    have U5 := hide (U4.out.trans hu5)
    have hc4 := run_str (src_upd_nil S4.out hu5)
    have hc5 := run_str (src_upd_nil hs5 hu5)
    have hq := strOf_eq tb tb
    rw [decide_eq_true rfl] at hq
    clear htk hu5 hs5
    go_wp2_with fail
    clear hc4 hc5 hq
    refine (Fr.all_any _ (HST.out.upd U5.out (by simp)) (src_upd_nil HX.out U5.out) hmc hc (by omega)).mono ?_
    rintro e w6 ⟨v6, vs6, rfl, ho6, hu6⟩
    have hr6 := ho6.reads
    obtain ⟨an, han⟩ : ∃ t, (all xs).2.1 = t := ⟨_, rfl⟩
    obtain ⟨ae, hae⟩ : ∃ t, (all xs).2.2 = t := ⟨_, rfl⟩
    obtain ⟨ab, hab⟩ : ∃ t, (all xs).1 = t := ⟨_, rfl⟩
    rw [hab] at hr6
    rw [han, hae]
    have U6 := hide (U5.out.trans hu6); have R6 := hide hr6; have HAN := hide han; have HAE := hide hae; have HAB := hide hab
    clear hu6 hr6 ho6 han hae hab
    go_wp2_with fail
    refine (Ref.all_any _ (src_upd_nil HX.out U6.out) hmc hc (by omega)).mono ?_
    rintro e w7 ⟨v7, vs7, rfl, ho7, he7, hu7⟩
    rw [HAB.out] at ho7 he7
    rw [HAN.out, HAE.out]
    have hr7 := he7.reads ho7 hu7
    have hr6' := R6.out.upd hu7
    obtain ⟨ao6, cp6, rfl, hl6, hm6, hx6⟩ := hr6'
    obtain ⟨ao7, cp7, rfl, hl7, hm7, hx7⟩ := hr7
    have U7 := hide (U6.out.trans hu7); have X6 := hide hx6; have X7 := hide hx7
    clear hu7 ho7 he7 hx6 hx7
    obtain ⟨L, hL⟩ : ∃ L, ab.length = L := ⟨_, rfl⟩
    rw [hL] at hl6 hl7 ⊢
    have HLL := hide hL
    simp only [maxLen] at hm6 hm7
    clear hL
    go_wp2_with fail
    go_loopw [19] (fun i wr => ∃ k : Nat, k ≤ L ∧ i = .int .i64 k ∧ Upd [] w7 wr) (fun i _ => L - (intOf i).toNat)
    case atStart => exact ⟨0, by omega, rfl, Upd.refl _ _⟩
    case round =>
      obtain ⟨k, hk, rfl, hu⟩ := hrel
      have HU := hide hu
      clear hu
      by_cases hlt : k < L
      · have d1 : decide ((k : Int) < L) = true := by simp; omega
        have d1' : decide (k < L) = true := by simpa using hlt
        obtain ⟨l, hl⟩ : ∃ l, ab[k]? = some l := ⟨_, List.getElem?_eq_getElem (by rw [HLL.out]; exact hlt)⟩
        obtain ⟨b6, of6, xo6, n6, c6, e6, hcl6, hsr6, -⟩ := X6.out k l hl
        obtain ⟨b7, of7, xo7, n7, c7, e7, hcl7, hsr7, -⟩ := X7.out k l hl
        subst e6; subst e7
        have hcl6' := (HU.out.of_cell hcl6)
        have hcl7' := (HU.out.of_cell hcl7)
        have hcv6 := fun nq => run_str (src_upd_nil hsr6 (HU.out.drewN nq))
        have hcv7 := fun nq => run_str (src_upd_nil hsr7 (HU.out.drewN nq))
        have hq := strOf_eq l l
        rw [decide_eq_true rfl] at hq
        clear hsr6 hsr7 hcl6 hcl7 hl
        go_wp2_with fail
        go_quiet (fail)
        go_wp2_with fail
        go_roundw
        case rel => exact ⟨k + 1, by omega, by go_num, HU.out.drewN _⟩
        case measure => simp [intOf]; omega
      · have d1 : decide ((k : Int) < L) = false := by simp; omega
        have d1' : decide (k < L) = false := by simpa using hlt
        go_wp2_with fail
        refine (wakes_any _ (HST.out.upd (U7.out.trans HU.out) (by simp))).mono ?_
        rintro e w8 ⟨rfl, hu8⟩
        have U8 := hide ((U7.out.trans HU.out).trans hu8)
        clear hu8
        go_wp2_with fail
        go_ret
        exact ⟨rfl, U8.out⟩
end Go.Proofs.YtmgdhloehkdffaaDoor.FrL
