/- SgY, SgZ in one text. -/
import Derived.Test.YtanjnhohfcgapaaGreatDoorSgW
import Derived.Test.YtanjnhohfcgapaaGreatDoorSgN
set_option linter.unusedSimpArgs false
set_option linter.unusedVariables false
set_option linter.unnecessarySimpa false
namespace Go.Proofs.YtanjnhohfcgapaaGreatDoor.Sg
open Go.RowKit Go.Proofs.YtanjnhohfcgapaaGreatDoor.Crc Go.Proofs.YtanjnhohfcgapaaGreatDoor.Cm Go.Proofs.YtanjnhohfcgapaaGreatDoor.Tr Go.Proofs.YtanjnhohfcgapaaGreatDoor.Kv Go.Proofs.YtanjnhohfcgapaaGreatDoor.Au
set_option linter.unusedSimpArgs false
set_option linter.unusedVariables false
/-- What a step from rest stands on. -/
structure Hi (w : World) (T M : Nat → Prop) (p L : Nat) (x : Sg) (G : Gh) : Prop where
  at' : XIdle w T M p x G
  env : EnvM w M
  ok : SgOk L x
theorem Hi.hp {w wx : World} {T M : Nat → Prop} {p L : Nat} {x : Sg} {G : Gh} (h : Hi w T M p L x G) {z : Nat} (hX : XAt wx T M z p x Ou.zero G.bare) (hE : Ext w T M wx T M) (hz : z ≤ wx.heap.size) : Hp wx T M z p L x Ou.zero G.bare :=
  ⟨hX, hE.envM h.env, h.ok, hz, by simp [Ou.zero], by simp [Ou.zero], by simp [Ou.zero]⟩
theorem Stepped.of_ext {w w1 w' : World} {T M : Nat → Prop} {p : Nat} {s : SO} {v : Value} (h : Stepped w1 T M p s v w') (hu : Upd [] w w1) : Stepped w T M p s v w' := by
  obtain ⟨T', M', G', sv, av, dv, e, h1, h2, h3⟩ := h
  exact ⟨T', M', G', sv, av, dv, e, h1, (Ext.of_nil hu T M).trans h2, h3⟩
theorem Stepped.none {w w' : World} {T M : Nat → Prop} {p : Nat} {x : Sg} {G : Gh} (h : XIdle w T M p x G) (hu : Upd [] w w') : Stepped w T M p (x, Ou.zero) (.agg #[.slice none 0 0, .slice none 0 0, .slice none 0 0]) w' :=
  ⟨T, M, G, _, _, _, rfl, h.upd_nil hu, Ext.of_nil hu T M, Kind.row_nil _ _ _, Kind.row_nil _ _ _, Kind.row_nil _ _ _⟩
theorem Stepped.slices {w w' : World} {T M : Nat → Prop} {p : Nat} {s : SO} {v : Value} (h : Stepped w T M p s v w') : ∃ x1 n1 c1 x2 n2 c2 x3 n3 c3, v = .agg #[.slice x1 n1 c1, .slice x2 n2 c2, .slice x3 n3 c3] := by
  obtain ⟨T', M', G', sv, av, dv, e, h1, h2, h3, h4, h5⟩ := h
  obtain ⟨xo, c, rfl⟩ := row_slice h3
  obtain ⟨xo2, c2, rfl⟩ := row_slice h4
  obtain ⟨xo3, c3, rfl⟩ := row_slice h5
  exact ⟨_, _, _, _, _, _, _, _, _, e⟩
/-- A new block of the caller's turns. -/
theorem Stepped.own {w w' w2 : World} {T M : Nat → Prop} {p B : Nat} {s : SO} {v : Value} (h : Stepped w T M p s v w') (hB : B < w.heap.size) (hn : ¬ M B ∧ ¬ T B) (hu : Upd [B] w' w2) : ∃ T' M' G' sv av dv, v = .agg #[sv, av, dv] ∧ XIdle w2 T' M' p s.1 G' ∧ (∀ (S : List Nat) (a : World), Ext a T M w T M → B ∈ S ∨ a.heap.size ≤ B → Ext a T M w2 T' M' ∨ B ∈ S) ∧ seK.row w2 T' sv s.2.send ∧ anK.row w2 T' av s.2.ans ∧ Tr.cmK.row w2 T' dv s.2.done ∧ Ext w T M w' T' M' ∧ (¬ M' B ∧ ¬ T' B) := by
  obtain ⟨T', M', G', sv, av, dv, e, h1, h2, h3, h4, h5⟩ := h
  have nB := h2.not hB hn
  have nT : ∀ k ∈ [B], ¬ T' k := fun k hk => by simp at hk; subst hk; exact nB.2
  have pB : p ≠ B := fun e => nB.1 (e ▸ h1.2.pM)
  refine ⟨T', M', G', sv, av, dv, e, ⟨hu.get h1.1 (by simp; exact pB), h1.2.shift hu fun k hk => .inr ⟨fun hm => ?_, nT k hk⟩⟩, fun S a ha hS => ?_, seK.row_upd h3 hu nT, anK.row_upd h4 hu nT, Tr.cmK.row_upd h5 hu nT, h2, nB⟩
  · simp at hk; subst hk; exact nB.1 hm
  · rcases hS with hS | hS
    · exact .inr hS
    · exact .inl ((ha.trans h2).on hu fun k hk => by simp at hk; subst hk; exact .inr hS)
/-- .. as told from the world ahead of it. -/
theorem Stepped.ret {a w w' w2 : World} {T M : Nat → Prop} {p B : Nat} {s : SO} {v : Value} (h : Stepped w T M p s v w') (ha : Upd [] a w) (hB : B < w.heap.size) (hBa : a.heap.size ≤ B) (hn : ¬ M B ∧ ¬ T B) (hu : Upd [B] w' w2) : Stepped a T M p s v w2 := by
  obtain ⟨T', M', G', sv, av, dv, e, h1, h2, h3, h4, h5, -⟩ := h.own hB hn hu
  exact ⟨T', M', G', sv, av, dv, e, h1, (h2 [] a (Ext.of_nil ha T M) (.inr hBa)).resolve_right (by simp), h3, h4, h5⟩
set_option maxRecDepth 100000 in
set_option maxHeartbeats 2000000 in
theorem ask1_any {T M : Nat → Prop} {z p L k Bx Bk : Nat} {x : Sg} {G : Gh} {c : Cm} {t1 t2 : TypeId} (w : World) (h : Hp w T M z p L x Ou.zero G) (hL : L ≤ 10000) (hk : x.waits[k]? = some c) (hx : w.heap[Bx]? = some (.cells #[.pointer (some ⟨p, 0, none⟩)] t1 (0, 0))) (hkb : w.heap[Bk]? = some (.cells #[.int .i64 (k : Int)] t2 (0, 0))) :
    Calls Tryz.prog 58 #[.pointer (some ⟨Bx, 0, none⟩), .pointer (some ⟨Bk, 0, none⟩)] w fun e w' => e = .returned (.tuple #[]) ∧ Aft z p w T M (askM c (x, Ou.zero)) w' := by
  have HH := hide h; have HX := hide hx; have HK := hide hkb
  obtain ⟨css, ao, cap, hv, he, hb, hown, hc1, hc2⟩ := h.at'.waits_open
  have c18 : w.heap[p]? = some (.cells (sgc x G) TSg (0, 0)) := h.at'.1
  have hrow : Kv.cmK.row w (fun j => T j ∨ (Value.slice ao x.waits.length cap).ownBlock = some j) (.slice ao x.waits.length cap) x.waits :=
    Row.mono (Own.row (⟨css, he, hb, hown⟩ : Own w 0 Cm.TCmd 7 (Tr.cmK.holds w T) (.slice ao x.waits.length cap) x.waits)) (fun j hj => .inr hj) fun y cs _ hy => Tr.cmK.mono hy fun j hj => .inl hj
  obtain ⟨xo, cp, e1, h1, h2, hget⟩ := Kv.cm_get hrow
  obtain ⟨rfl, rfl⟩ : ao = xo ∧ cap = cp := by simpa using e1
  obtain ⟨b, off, ka, kc, rfl, hbl, -, fit, hks, hc7⟩ := hget k c hk
  have hkl : k < x.waits.length := (List.getElem?_eq_some_iff.1 hk).1
  have hwm := h.ok.waits
  have C7 := hide hc7; have HV := hide hv; have FIT := hide fit; have KS := hide hks; have HBL := hide hbl
  have SM : Hid (Sm c) := hide (h.ok.wait c (List.mem_of_getElem? hk))
  simp only [maxLen] at hc2
  clear h hx hkb hv he hb hown hrow hget e1 fit hks hc7 hk h1 h2 c18 hbl
  have di0 : (0 : Int) ≤ (k : Int) := by omega
  have di1 : (k : Int) < (x.waits.length : Int) := by omega
  have di2 : decide (k < x.waits.length) = true := by simpa using hkl
  go_enter Tryz.func58, Tryz.ntmps58
  go_upto_region 0 with fail
  have s0 : Upd [] w (w.drewN 1) := (Upd.refl [] w).drewN 1
  refine wp_region_z (fun wx => Upd [] w wx) 9 (by kernel_rfl) ?_
  refine zT 0 rfl (by kernel_rfl) (fun _ _ _ _ h => h) rfl (by exact s0) ?_
  apply Exists.intro
  refine ⟨fun wx hS => ?_, ?_⟩
  · have q : wx.cell? ⟨Bx, 0, none⟩ = some (.pointer (some ⟨p, 0, none⟩)) := blk_cell (hS.get HX.out (by simp)) rfl; go_simp; rfl
  simp only [Act.put, List.setIfInBounds_toArray, List.set_cons_succ, List.set_cons_zero, List.getElem_toArray, List.getElem_cons_zero]
  refine zT 1 rfl (by kernel_rfl) (fun _ _ _ _ h => h) rfl (by exact s0) ?_
  apply Exists.intro
  refine ⟨fun wx hS => ?_, ?_⟩
  · have q : wx.cell? ⟨Bx, 0, none⟩ = some (.pointer (some ⟨p, 0, none⟩)) := blk_cell (hS.get HX.out (by simp)) rfl; go_simp; rfl
  simp only [Act.put, zz1, zz2, zz3, zz4, zz5, zz6]
  refine zT 2 rfl (by kernel_rfl) (fun _ _ _ _ h => h) rfl (by exact s0) ?_
  apply Exists.intro
  refine ⟨fun wx hS => ?_, ?_⟩
  · go_simp; rfl
  simp only [Act.put, zz1, zz2, zz3, zz4, zz5, zz6]
  refine zT 3 rfl (by kernel_rfl) (fun _ _ _ _ h => h) rfl (by exact s0) ?_
  apply Exists.intro
  refine ⟨fun wx hS => ?_, ?_⟩
  · go_simp; rfl
  simp only [Act.put, zz1, zz2, zz3, zz4, zz5, zz6]
  refine zT 4 rfl (by kernel_rfl) (fun _ _ _ _ h => h) rfl (by exact s0) ?_
  apply Exists.intro
  refine ⟨fun wx hS => ?_, ?_⟩
  · have q : wx.cell? ⟨p, 18, none⟩ = some (.slice (some ⟨b, off, none⟩) x.waits.length cap) := (by rw [← HV.out] ; exact blk_cell (hS.get HH.out.at'.1 (by simp)) rfl); go_simp; rfl
  simp only [Act.put, zz1, zz2, zz3, zz4, zz5, zz6]
  refine zT 5 rfl (by kernel_rfl) (fun _ _ _ _ h => h) rfl (by exact s0) ?_
  apply Exists.intro
  refine ⟨fun wx hS => ?_, ?_⟩
  · have q : wx.cell? ⟨Bk, 0, none⟩ = some (.int .i64 (k : Int)) := blk_cell (hS.get HK.out (by simp)) rfl; go_simp; rfl
  simp only [Act.put, zz1, zz2, zz3, zz4, zz5, zz6]
  refine zT 6 rfl (by kernel_rfl) (fun _ _ _ _ h => h) rfl (by exact s0) ?_
  apply Exists.intro
  refine ⟨fun wx hS => ?_, ?_⟩
  · go_simp; rfl
  simp only [Act.put, zz1, zz2, zz3, zz4, zz5, zz6]
  refine zT 7 rfl (by kernel_rfl) (fun _ _ _ _ h => h) rfl (by exact s0) ?_
  apply Exists.intro
  refine ⟨fun wx hS => ?_, ?_⟩
  · obtain ⟨x0, x1, x2, x3, x4, x5, x6⟩ := C7.out.upd hS HBL.out (by simp); go_simp; rfl
  simp only [Act.put, zz1, zz2, zz3, zz4, zz5, zz6]
  refine wpAnyZ_one 8 (by kernel_rfl) rfl rfl (fun K hK => ?_)
  try simp only [List.getElem_toArray, List.getElem_cons_succ, List.getElem_cons_zero]
  go_simp
  refine (copied_any (c := c) (T := fun j => T j ∨ (Value.slice (some ⟨b, off, none⟩) x.waits.length cap).ownBlock = some j) (v := cmv c (.slice ka c.keys.length kc)) (w.drewN 1) (Ky.at ⟨FIT.out, KS.out.upd s0 (by simp)⟩) (by have := SM.out.2; omega)).mono ?_
  rintro e w2 ⟨⟨ks', rfl, hk'⟩, hu⟩
  have s2 := s0.trans hu
  obtain ⟨xl, cl, rfl⟩ := hk'.slice
  have X2 := hide (show XAt w2 (Sg.fresh w w2 T) M z p x Ou.zero G from ⟨s2.get HH.out.at'.1 (by simp), HH.out.at'.2.fresh s2⟩)
  have E2 := hide (Ext.fresh s2 T M); have K2 := hide (hk'.mono (U := Sg.fresh w w2 T) fun k hk => .inr hk)
  generalize Sg.fresh w w2 T = T2 at *
  clear hk' hu s0
  unfold cmv
  simp only [strV]
  refine hK _ _ (.inr s2) ?_
  clear hK K
  try simp only [Act.put, zz1, zz2, zz3]
  refine wpAnyZ_one 9 (by kernel_rfl) rfl rfl (fun K hK => ?_)
  try simp only [List.getElem_toArray, List.getElem_cons_succ, List.getElem_cons_zero]
  go_simp
  refine (ask_any (z := z) (L := L) (c := c) (ks := .slice xl c.keys.length cl) w2 ⟨X2.out, E2.out.envM HH.out.env, HH.out.ok, by have := HH.out.z; have := s2.size; omega, HH.out.send, HH.out.done, HH.out.ans⟩ hL K2.out SM.out (by simp [Ou.zero])).mono ?_
  rintro e w3 ⟨rfl, h3⟩
  have H3 := hide (Aft.ext E2.out h3)
  clear h3 s2
  refine hK _ _ (.inl rfl) ?_
  clear hK K
  try simp only [Act.put, zz1, zz2, zz3]
  refine wpAnyZ_done (by kernel_rfl) ?_ _
  go_wp2_with fail
  go_end0
  exact ⟨rfl, H3.out⟩
set_option maxRecDepth 100000 in
set_option maxHeartbeats 2000000 in
theorem ask_step {T M : Nat → Prop} {p L : Nat} {x : Sg} {G : Gh} {k : Int} (w : World) (h : Hi w T M p L x G) (hL : L ≤ 10000) :
    Calls Tryz.prog 29 #[.pointer (some ⟨p, 0, none⟩), .int .i64 k] w fun e w' => ∃ v, e = .returned (.tuple #[v, .int .i64 (((askAtM k x).2 : Nat) : Int)]) ∧ Stepped w T M p (askAtM k x).1 v w' := by
  obtain ⟨r, hr⟩ : ∃ r, askAtM k x = r := ⟨_, rfl⟩
  rw [hr]
  have HR := hide hr
  have HH := hide h
  have hpl := blk_lt h.at'.1
  obtain ⟨xw, cw, hv, -, -⟩ := Row.slice (Own.row h.at'.2.waits)
  have HV := hide (show G.wv = .slice xw x.waits.length cw from hv)
  clear h hr hv
  go_enter Tryz.func29, Tryz.ntmps29
  go_upto_region 3 with fail
  have h0 := blk_alloc (blk_alloc (blk_new w (.cells #[.pointer (some ⟨p, 0, none⟩)] 53)) (.cells #[.int .i64 k] 3)) (.cells #[.slice none 0 0, .slice none 0 0, .slice none 0 0] TOu)
  have h1 := blk_alloc (blk_new (w.alloc (.cells #[.pointer (some ⟨p, 0, none⟩)] 53)) (.cells #[.int .i64 k] 3)) (.cells #[.slice none 0 0, .slice none 0 0, .slice none 0 0] TOu)
  have h2 := blk_new ((w.alloc (.cells #[.pointer (some ⟨p, 0, none⟩)] 53)).alloc (.cells #[.int .i64 k] 3)) (.cells #[.slice none 0 0, .slice none 0 0, .slice none 0 0] TOu)
  have hal := (((Upd.refl [] w).alloc (.cells #[.pointer (some ⟨p, 0, none⟩)] 53)).alloc (.cells #[.int .i64 k] 3)).alloc (.cells #[.slice none 0 0, .slice none 0 0, .slice none 0 0] TOu)
  simp only [World.size_alloc] at h1 h2
  generalize ((w.alloc (.cells #[.pointer (some ⟨p, 0, none⟩)] 53)).alloc (.cells #[.int .i64 k] 3)).alloc (.cells #[.slice none 0 0, .slice none 0 0, .slice none 0 0] TOu) = w1 at *
  have nn : ∀ j, w.heap.size ≤ j → ¬ M j ∧ ¬ T j := fun j hj => HH.out.at'.2.apt.new hj
  have NN := hide nn
  obtain ⟨B, hBn⟩ : ∃ B, w.heap.size = B := ⟨_, rfl⟩
  have HBN := hide hBn
  rw [hBn] at h0 h1 h2 hpl ⊢
  have A0 := hide h0; have A1 := hide h1; have A2 := hide h2; have AL := hide hal
  have HI1 := hide (HH.out.at'.upd_nil hal)
  have EN1 := hide (HH.out.env.upd_nil hal)
  clear h0 h1 h2 hal hBn nn
  have b0 : ∀ n, (w1.drewN n).cell? ⟨B + 1 + 1, 0, none⟩ = some (.slice none 0 0) := fun n => blk_cell (w := w1.drewN n) A2.out rfl
  have b1 : ∀ n, (w1.drewN n).cell? ⟨B + 1 + 1, 1, none⟩ = some (.slice none 0 0) := fun n => blk_cell (w := w1.drewN n) A2.out rfl
  have b2 : ∀ n, (w1.drewN n).cell? ⟨B + 1 + 1, 2, none⟩ = some (.slice none 0 0) := fun n => blk_cell (w := w1.drewN n) A2.out rfl
  have c18 : ∀ n, (w1.drewN n).cell? ⟨p, 18, none⟩ = some (.slice xw x.waits.length cw) := fun n => by rw [← HV.out]; exact blk_cell (w := w1.drewN n) HI1.out.1 rfl
  have k0 : ∀ n, (w1.drewN n).cell? ⟨B + 1, 0, none⟩ = some (.int .i64 k) := fun n => blk_cell (w := w1.drewN n) A1.out rfl
  have p0 : ∀ n, (w1.drewN n).cell? ⟨B, 0, none⟩ = some (.pointer (some ⟨p, 0, none⟩)) := fun n => blk_cell (w := w1.drewN n) A0.out rfl
  have bf : ∀ n i, (w1.drewN n).frozen? ⟨B + 1 + 1, i, none⟩ = false := fun n i => blk_free (w := w1.drewN n) A2.out
  by_cases hk0 : k < 0
  · have d1 : decide (k < 0) = true := by simpa using hk0
    have e : r = ((x, Ou.zero), 1) := by rw [← HR.out]; unfold askAtM; rw [if_pos hk0]
    subst e
    clear hk0
    go_quiet (fail)
    go_wp2_with fail
    have us := upd3 (w1.drewN nq) (B + 1 + 1) (.slice none 0 0) (.slice none 0 0) (.slice none 0 0)
    exact ret_ou2 (set3 (w := w1.drewN nq) A2.out) rfl rfl rfl rfl ⟨_, rfl, Stepped.none HH.out.at' ((AL.out.drewN nq).trans_new us fun j hj => .inr (by simp at hj; have := HBN.out; omega))⟩
  · have d1 : decide (k < 0) = false := by simp; omega
    by_cases hk1 : (x.waits.length : Int) ≤ k
    · have d2 : decide ((x.waits.length : Int) ≤ k) = true := by simpa using hk1
      have e : r = ((x, Ou.zero), 1) := by
        rw [← HR.out]; unfold askAtM
        rw [if_neg hk0, List.getElem?_eq_none (by omega)]
      subst e
      clear hk0 hk1
      go_quiet (fail)
      go_wp2_with fail
      have us := upd3 (w1.drewN nq) (B + 1 + 1) (.slice none 0 0) (.slice none 0 0) (.slice none 0 0)
      exact ret_ou2 (set3 (w := w1.drewN nq) A2.out) rfl rfl rfl rfl ⟨_, rfl, Stepped.none HH.out.at' ((AL.out.drewN nq).trans_new us fun j hj => .inr (by simp at hj; have := HBN.out; omega))⟩
    · have d2 : decide ((x.waits.length : Int) ≤ k) = false := by simp; omega
      obtain ⟨q, rfl⟩ : ∃ q : Nat, k = q := ⟨k.toNat, by omega⟩
      obtain ⟨c, hc⟩ : ∃ c, x.waits[q]? = some c := ⟨_, List.getElem?_eq_getElem (by omega)⟩
      have e : r = (askM c (x, Ou.zero), 0) := by
        rw [← HR.out]; unfold askAtM
        rw [if_neg hk0, show ((q : Int)).toNat = q by omega, hc]
      subst e
      have HQ := hide hc
      have d2' : decide (x.waits.length ≤ q) = false := by simp; omega
      clear hk0 hk1 hc
      go_quiet (fail)
      go_upto_region 5 with fail
      clear b0 b1 b2 c18 k0 bf
      have hud : Upd [] w1 (w1.drewN nq) := (Upd.refl [] w1).drewN nq
      have UD := hide hud
      clear hud
      go_wp2_with fail
      refine (step_any (g := 58) (cap := #[.pointer (some ⟨B, 0, none⟩), .pointer (some ⟨B + 1, 0, none⟩)]) (s := askM c (x, Ou.zero)) (w1.drewN nq) (HI1.out.upd_nil UD.out) (fun _ _ => rfl) (fun wx hu hX hE => ?_)).mono ?_
      · exact ask1_any wx (Hi.hp ⟨HI1.out.upd_nil UD.out, EN1.out.upd_nil UD.out, HH.out.ok⟩ hX hE hu.size) hL HQ.out (hu.get A0.out (by simp; omega)) (hu.get A1.out (by simp; omega))
      · rintro e w2 ⟨v, rfl, hst⟩
        obtain ⟨x1, n1, c1, x2, n2, c2, x3, n3, c3, rfl⟩ := hst.slices
        have ST := hide hst
        have hB2 : w2.heap[B + 1 + 1]? = some (.cells #[.slice none 0 0, .slice none 0 0, .slice none 0 0] TOu (0, 0)) := by
          obtain ⟨T', M', G', sv, av, dv, -, -, hE, -⟩ := hst
          exact hE.get A2.out (NN.out _ (by have := HBN.out; omega)).1
        have b0 : w2.cell? ⟨B + 1 + 1, 0, none⟩ = some (.slice none 0 0) := blk_cell hB2 rfl
        have b1 : w2.cell? ⟨B + 1 + 1, 1, none⟩ = some (.slice none 0 0) := blk_cell hB2 rfl
        have b2 : w2.cell? ⟨B + 1 + 1, 2, none⟩ = some (.slice none 0 0) := blk_cell hB2 rfl
        have bf : ∀ i, w2.frozen? ⟨B + 1 + 1, i, none⟩ = false := fun i => blk_free hB2
        have HB2 := hide hB2
        have hlt := blk_lt A2.out
        clear hst hB2
        go_wp2_with fail
        have us := upd3 w2 (B + 1 + 1) (.slice x1 n1 c1) (.slice x2 n2 c2) (.slice x3 n3 c3)
        exact ret_ou2 (set3 HB2.out) rfl rfl rfl rfl ⟨_, rfl, ST.out.ret (AL.out.trans UD.out) hlt (by have := HBN.out; omega) (NN.out _ (by have := HBN.out; omega)) us⟩
end Go.Proofs.YtanjnhohfcgapaaGreatDoor.Sg
namespace Go.Proofs.YtanjnhohfcgapaaGreatDoor.Sg
open Go.RowKit Go.Proofs.YtanjnhohfcgapaaGreatDoor.Crc Go.Proofs.YtanjnhohfcgapaaGreatDoor.Cm Go.Proofs.YtanjnhohfcgapaaGreatDoor.Tr Go.Proofs.YtanjnhohfcgapaaGreatDoor.Kv Go.Proofs.YtanjnhohfcgapaaGreatDoor.Au
set_option linter.unusedSimpArgs false
set_option linter.unusedVariables false
set_option maxRecDepth 100000 in
set_option maxHeartbeats 4000000 in
theorem tick1_any {T M : Nat → Prop} {z p L Bx : Nat} {x : Sg} {G : Gh} {t1 : TypeId} (w : World) (h : Hp w T M z p L x Ou.zero G) (hL : L ≤ 10000) (hx : w.heap[Bx]? = some (.cells #[.pointer (some ⟨p, 0, none⟩)] t1 (0, 0))) :
    Calls Tryz.prog 61 #[.pointer (some ⟨Bx, 0, none⟩)] w fun e w' => e = .returned (.tuple #[]) ∧ Aft z p w T M (x, (match x.asks with | none => Ou.zero | some a => othersM x.self x.n a.heard (if a.votes then mgc 4 x.slot a.b a.c else mg 1 x.slot a.b) Ou.zero)) w' := by
  have HH := hide h; have HX := hide hx
  have q0 : w.cell? ⟨Bx, 0, none⟩ = some (.pointer (some ⟨p, 0, none⟩)) := blk_cell hx rfl
  clear h hx
  cases hasks : x.asks with
  | none =>
    have hA := HH.out.at'.2.asks
    rw [hasks] at hA
    have HAS := hide hasks
    have c19 : w.cell? ⟨p, 19, none⟩ = some (.pointer none) := by rw [← hA.1]; exact blk_cell HH.out.at'.1 rfl
    clear hA hasks
    go_enter Tryz.func61, Tryz.ntmps61
    go_wp2_with fail
    go_end0
    exact ⟨rfl, T, M, G, HH.out.at', Ext.refl _ _ _⟩
  | some a =>
    have HAS := hide hasks
    obtain ⟨ab, g, xq, cq, h1, h2, h3, h4, h5, h6, -⟩ := HH.out.at'.ask_open hasks
    have H1 := hide h1; have A1 := hide h4; have K1 := hide h6
    have c19 : w.cell? ⟨p, 19, none⟩ = some (.pointer (some ⟨ab, 0, none⟩)) := by rw [← h1]; exact blk_cell HH.out.at'.1 rfl
    have a2 := (akc_cells h4).2.2.1
    have C19 := hide c19
    have AOK := hide (HH.out.ok.asks a hasks)
    clear hasks h1 h2 h3 h4 h5 h6
    go_enter Tryz.func61, Tryz.ntmps61
    cases hv : a.votes with
    | true =>
      rw [hv] at a2
      have HV := hide hv
      clear hv
      go_upto_region 3 with fail
      clear q0 c19 a2
      have s0 : Upd [] w (w.drewN 1) := (Upd.refl [] w).drewN 1
      refine wp_region_z (fun wx => Upd [] w wx) 16 (by kernel_rfl) ?_
      refine zT 0 rfl (by kernel_rfl) (fun _ _ _ _ h => h) rfl (by exact s0) ?_
      apply Exists.intro
      refine ⟨fun wx hS => ?_, ?_⟩
      · have q : wx.cell? ⟨Bx, 0, none⟩ = some (.pointer (some ⟨p, 0, none⟩)) := blk_cell (hS.get HX.out (by simp)) rfl; go_simp; rfl
      simp only [Act.put, List.setIfInBounds_toArray, List.set_cons_succ, List.set_cons_zero, List.getElem_toArray, List.getElem_cons_zero]
      refine zT 1 rfl (by kernel_rfl) (fun _ _ _ _ h => h) rfl (by exact s0) ?_
      apply Exists.intro
      refine ⟨fun wx hS => ?_, ?_⟩
      · have q : wx.cell? ⟨Bx, 0, none⟩ = some (.pointer (some ⟨p, 0, none⟩)) := blk_cell (hS.get HX.out (by simp)) rfl; go_simp; rfl
      simp only [Act.put, zz1, zz2, zz3, zz4, zz5, zz6]
      refine zT 2 rfl (by kernel_rfl) (fun _ _ _ _ h => h) rfl (by exact s0) ?_
      apply Exists.intro
      refine ⟨fun wx hS => ?_, ?_⟩
      · go_simp; rfl
      simp only [Act.put, zz1, zz2, zz3, zz4, zz5, zz6]
      refine zT 3 rfl (by kernel_rfl) (fun _ _ _ _ h => h) rfl (by exact s0) ?_
      apply Exists.intro
      refine ⟨fun wx hS => ?_, ?_⟩
      · go_simp; rfl
      simp only [Act.put, zz1, zz2, zz3, zz4, zz5, zz6]
      refine zT 4 rfl (by kernel_rfl) (fun _ _ _ _ h => h) rfl (by exact s0) ?_
      apply Exists.intro
      refine ⟨fun wx hS => ?_, ?_⟩
      · have q := cell_upd C19.out hS (by simp); go_simp; rfl
      simp only [Act.put, zz1, zz2, zz3, zz4, zz5, zz6]
      refine zT 5 rfl (by kernel_rfl) (fun _ _ _ _ h => h) rfl (by exact s0) ?_
      apply Exists.intro
      refine ⟨fun wx hS => ?_, ?_⟩
      · go_simp; rfl
      simp only [Act.put, zz1, zz2, zz3, zz4, zz5, zz6]
      refine zT 6 rfl (by kernel_rfl) (fun _ _ _ _ h => h) rfl (by exact s0) ?_
      apply Exists.intro
      refine ⟨fun wx hS => ?_, ?_⟩
      · go_simp; rfl
      simp only [Act.put, zz1, zz2, zz3, zz4, zz5, zz6]
      refine zT 7 rfl (by kernel_rfl) (fun _ _ _ _ h => h) rfl (by exact s0) ?_
      apply Exists.intro
      refine ⟨fun wx hS => ?_, ?_⟩
      · obtain ⟨a0, a1, a2, a3, a4, a5, a6, a7, a8, a9, a10⟩ := akc_cells (hS.get A1.out (by simp)); go_simp; rfl
      simp only [Act.put, zz1, zz2, zz3, zz4, zz5, zz6]
      refine zT 8 rfl (by kernel_rfl) (fun _ _ _ _ h => h) rfl (by exact s0) ?_
      apply Exists.intro
      refine ⟨fun wx hS => ?_, ?_⟩
      · have q : wx.cell? ⟨Bx, 0, none⟩ = some (.pointer (some ⟨p, 0, none⟩)) := blk_cell (hS.get HX.out (by simp)) rfl; go_simp; rfl
      simp only [Act.put, zz1, zz2, zz3, zz4, zz5, zz6]
      refine zT 9 rfl (by kernel_rfl) (fun _ _ _ _ h => h) rfl (by exact s0) ?_
      apply Exists.intro
      refine ⟨fun wx hS => ?_, ?_⟩
      · go_simp; rfl
      simp only [Act.put, zz1, zz2, zz3, zz4, zz5, zz6]
      refine zT 10 rfl (by kernel_rfl) (fun _ _ _ _ h => h) rfl (by exact s0) ?_
      apply Exists.intro
      refine ⟨fun wx hS => ?_, ?_⟩
      · go_simp; rfl
      simp only [Act.put, zz1, zz2, zz3, zz4, zz5, zz6]
      refine zT 11 rfl (by kernel_rfl) (fun _ _ _ _ h => h) rfl (by exact s0) ?_
      apply Exists.intro
      refine ⟨fun wx hS => ?_, ?_⟩
      · have q := cell_upd C19.out hS (by simp); go_simp; rfl
      simp only [Act.put, zz1, zz2, zz3, zz4, zz5, zz6]
      refine zT 12 rfl (by kernel_rfl) (fun _ _ _ _ h => h) rfl (by exact s0) ?_
      apply Exists.intro
      refine ⟨fun wx hS => ?_, ?_⟩
      · go_simp; rfl
      simp only [Act.put, zz1, zz2, zz3, zz4, zz5, zz6]
      refine zT 13 rfl (by kernel_rfl) (fun _ _ _ _ h => h) rfl (by exact s0) ?_
      apply Exists.intro
      refine ⟨fun wx hS => ?_, ?_⟩
      · go_simp; rfl
      simp only [Act.put, zz1, zz2, zz3, zz4, zz5, zz6]
      refine zT 14 rfl (by kernel_rfl) (fun _ _ _ _ h => h) rfl (by exact s0) ?_
      apply Exists.intro
      refine ⟨fun wx hS => ?_, ?_⟩
      · obtain ⟨a0, a1, a2, a3, a4, a5, a6, a7, a8, a9, a10⟩ := akc_cells (hS.get A1.out (by simp)); go_simp; rfl
      simp only [Act.put, zz1, zz2, zz3, zz4, zz5, zz6]
      refine zT 15 rfl (by kernel_rfl) (fun _ _ _ _ h => h) rfl (by exact s0) ?_
      apply Exists.intro
      refine ⟨fun wx hS => ?_, ?_⟩
      · go_simp; rfl
      simp only [Act.put, zz1, zz2, zz3, zz4, zz5, zz6]
      refine wpAnyZ_one 16 (by kernel_rfl) rfl rfl (fun K hK => ?_)
      try simp only [List.getElem_toArray, List.getElem_cons_succ, List.getElem_cons_zero]
      go_simp
      refine (others_any (z := z) (a := a) (m := mgc 4 0 a.b a.c) (ks := .slice xq a.c.keys.length cq) (w.drewN 1) (HH.out.at'.upd_nil s0) HAS.out ⟨by simp [mgc], by simp [mgc], by simp only [mgc]; exact AOK.out.1, by simp [mgc, Bal.zero], AOK.out.2.1.2⟩ (K1.out.upd s0 (by simp)) HH.out.z (by have := HH.out.ok.len; omega) HH.out.ok.n HH.out.ok.self (by simp [Ou.zero])).mono ?_
      rintro e w2 ⟨rfl, h2⟩
      have H2 := hide (Aft.ext (Ext.of_nil s0 T M) h2)
      clear h2 s0
      refine hK _ _ (.inl rfl) ?_
      clear hK K
      try simp only [Act.put, zz1, zz2, zz3]
      refine wpAnyZ_done (by kernel_rfl) ?_ _
      go_wp2_with fail
      go_end0
      refine ⟨rfl, ?_⟩
      exact H2.out
    | false =>
      rw [hv] at a2
      have HV := hide hv
      clear hv
      go_upto_region 0 with fail
      clear q0 c19 a2
      have s0 : Upd [] w (w.drewN 1) := (Upd.refl [] w).drewN 1
      refine wp_region_z (fun wx => Upd [] w wx) 9 (by kernel_rfl) ?_
      refine zT 0 rfl (by kernel_rfl) (fun _ _ _ _ h => h) rfl (by exact s0) ?_
      apply Exists.intro
      refine ⟨fun wx hS => ?_, ?_⟩
      · have q : wx.cell? ⟨Bx, 0, none⟩ = some (.pointer (some ⟨p, 0, none⟩)) := blk_cell (hS.get HX.out (by simp)) rfl; go_simp; rfl
      simp only [Act.put, List.setIfInBounds_toArray, List.set_cons_succ, List.set_cons_zero, List.getElem_toArray, List.getElem_cons_zero]
      refine zT 1 rfl (by kernel_rfl) (fun _ _ _ _ h => h) rfl (by exact s0) ?_
      apply Exists.intro
      refine ⟨fun wx hS => ?_, ?_⟩
      · have q : wx.cell? ⟨Bx, 0, none⟩ = some (.pointer (some ⟨p, 0, none⟩)) := blk_cell (hS.get HX.out (by simp)) rfl; go_simp; rfl
      simp only [Act.put, zz1, zz2, zz3, zz4, zz5, zz6]
      refine zT 2 rfl (by kernel_rfl) (fun _ _ _ _ h => h) rfl (by exact s0) ?_
      apply Exists.intro
      refine ⟨fun wx hS => ?_, ?_⟩
      · go_simp; rfl
      simp only [Act.put, zz1, zz2, zz3, zz4, zz5, zz6]
      refine zT 3 rfl (by kernel_rfl) (fun _ _ _ _ h => h) rfl (by exact s0) ?_
      apply Exists.intro
      refine ⟨fun wx hS => ?_, ?_⟩
      · go_simp; rfl
      simp only [Act.put, zz1, zz2, zz3, zz4, zz5, zz6]
      refine zT 4 rfl (by kernel_rfl) (fun _ _ _ _ h => h) rfl (by exact s0) ?_
      apply Exists.intro
      refine ⟨fun wx hS => ?_, ?_⟩
      · have q := cell_upd C19.out hS (by simp); go_simp; rfl
      simp only [Act.put, zz1, zz2, zz3, zz4, zz5, zz6]
      refine zT 5 rfl (by kernel_rfl) (fun _ _ _ _ h => h) rfl (by exact s0) ?_
      apply Exists.intro
      refine ⟨fun wx hS => ?_, ?_⟩
      · go_simp; rfl
      simp only [Act.put, zz1, zz2, zz3, zz4, zz5, zz6]
      refine zT 6 rfl (by kernel_rfl) (fun _ _ _ _ h => h) rfl (by exact s0) ?_
      apply Exists.intro
      refine ⟨fun wx hS => ?_, ?_⟩
      · go_simp; rfl
      simp only [Act.put, zz1, zz2, zz3, zz4, zz5, zz6]
      refine zT 7 rfl (by kernel_rfl) (fun _ _ _ _ h => h) rfl (by exact s0) ?_
      apply Exists.intro
      refine ⟨fun wx hS => ?_, ?_⟩
      · obtain ⟨a0, a1, a2, a3, a4, a5, a6, a7, a8, a9, a10⟩ := akc_cells (hS.get A1.out (by simp)); go_simp; rfl
      simp only [Act.put, zz1, zz2, zz3, zz4, zz5, zz6]
      refine zT 8 rfl (by kernel_rfl) (fun _ _ _ _ h => h) rfl (by exact s0) ?_
      apply Exists.intro
      refine ⟨fun wx hS => ?_, ?_⟩
      · go_simp; rfl
      simp only [Act.put, zz1, zz2, zz3, zz4, zz5, zz6]
      refine wpAnyZ_one 9 (by kernel_rfl) rfl rfl (fun K hK => ?_)
      try simp only [List.getElem_toArray, List.getElem_cons_succ, List.getElem_cons_zero]
      go_simp
      refine (others_any (z := z) (a := a) (m := mg 1 0 a.b) (ks := .slice none 0 0) (w.drewN 1) (HH.out.at'.upd_nil s0) HAS.out ⟨by simp [mg], by simp [mg], by simp only [mg]; exact AOK.out.1, by simp [mg, Bal.zero], by simp [mg, Cm.zero]⟩ (Ky.zero _ _) HH.out.z (by have := HH.out.ok.len; omega) HH.out.ok.n HH.out.ok.self (by simp [Ou.zero])).mono ?_
      rintro e w2 ⟨rfl, h2⟩
      have H2 := hide (Aft.ext (Ext.of_nil s0 T M) h2)
      clear h2 s0
      refine hK _ _ (.inl rfl) ?_
      clear hK K
      try simp only [Act.put, zz1, zz2, zz3]
      refine wpAnyZ_done (by kernel_rfl) ?_ _
      go_wp2_with fail
      go_end0
      refine ⟨rfl, ?_⟩
      exact H2.out
theorem tick_eq (x : Sg) : (x, (match x.asks with | none => Ou.zero | some a => othersM x.self x.n a.heard (if a.votes then mgc 4 x.slot a.b a.c else mg 1 x.slot a.b) Ou.zero)) = tickM x := by
  unfold tickM
  cases x.asks <;> rfl
set_option maxRecDepth 100000 in
set_option maxHeartbeats 2000000 in
theorem tick_step {T M : Nat → Prop} {p L : Nat} {x : Sg} {G : Gh} (w : World) (h : Hi w T M p L x G) (hL : L ≤ 10000) :
    Calls Tryz.prog 31 #[.pointer (some ⟨p, 0, none⟩)] w fun e w' => ∃ v, e = .returned v ∧ Stepped w T M p (tickM x) v w' := by
  have HH := hide h
  have hpl := blk_lt h.at'.1
  clear h
  go_enter Tryz.func31, Tryz.ntmps31
  go_upto_region 1 with fail
  have h0 := blk_alloc (blk_new w (.cells #[.pointer (some ⟨p, 0, none⟩)] 53)) (.cells #[.slice none 0 0, .slice none 0 0, .slice none 0 0] TOu)
  have h2 := blk_new (w.alloc (.cells #[.pointer (some ⟨p, 0, none⟩)] 53)) (.cells #[.slice none 0 0, .slice none 0 0, .slice none 0 0] TOu)
  have hal := ((Upd.refl [] w).alloc (.cells #[.pointer (some ⟨p, 0, none⟩)] 53)).alloc (.cells #[.slice none 0 0, .slice none 0 0, .slice none 0 0] TOu)
  simp only [World.size_alloc] at h2
  generalize (w.alloc (.cells #[.pointer (some ⟨p, 0, none⟩)] 53)).alloc (.cells #[.slice none 0 0, .slice none 0 0, .slice none 0 0] TOu) = w1 at *
  have nn : ∀ j, w.heap.size ≤ j → ¬ M j ∧ ¬ T j := fun j hj => HH.out.at'.2.apt.new hj
  have NN := hide nn
  obtain ⟨B, hBn⟩ : ∃ B, w.heap.size = B := ⟨_, rfl⟩
  have HBN := hide hBn
  rw [hBn] at h0 h2 hpl ⊢
  have A0 := hide h0; have A2 := hide h2; have AL := hide hal
  have HI1 := hide (HH.out.at'.upd_nil hal)
  have EN1 := hide (HH.out.env.upd_nil hal)
  have p0 : w1.cell? ⟨B, 0, none⟩ = some (.pointer (some ⟨p, 0, none⟩)) := blk_cell h0 rfl
  clear h0 h2 hal hBn nn
  go_wp2_with fail
  refine (step_any (g := 61) (cap := #[.pointer (some ⟨B, 0, none⟩)]) (s := tickM x) w1 HI1.out (fun _ _ => rfl) (fun wx hu hX hE => ?_)).mono ?_
  · have := tick1_any wx (Hi.hp ⟨HI1.out, EN1.out, HH.out.ok⟩ hX hE hu.size) hL (hu.get A0.out (by simp; omega))
    rw [tick_eq] at this
    exact this
  · rintro e w2 ⟨v, rfl, hst⟩
    obtain ⟨x1, n1, c1, x2, n2, c2, x3, n3, c3, rfl⟩ := hst.slices
    have ST := hide hst
    have hB2 : w2.heap[B + 1]? = some (.cells #[.slice none 0 0, .slice none 0 0, .slice none 0 0] TOu (0, 0)) := by
      obtain ⟨T', M', G', sv, av, dv, -, -, hE, -⟩ := hst
      exact hE.get A2.out (NN.out _ (by have := HBN.out; omega)).1
    have b0 : w2.cell? ⟨B + 1, 0, none⟩ = some (.slice none 0 0) := blk_cell hB2 rfl
    have b1 : w2.cell? ⟨B + 1, 1, none⟩ = some (.slice none 0 0) := blk_cell hB2 rfl
    have b2 : w2.cell? ⟨B + 1, 2, none⟩ = some (.slice none 0 0) := blk_cell hB2 rfl
    have bf : ∀ i, w2.frozen? ⟨B + 1, i, none⟩ = false := fun i => blk_free hB2
    have HB2 := hide hB2
    have hlt := blk_lt A2.out
    clear hst hB2
    go_wp2_with fail
    have us := upd3 w2 (B + 1) (.slice x1 n1 c1) (.slice x2 n2 c2) (.slice x3 n3 c3)
    exact ret_ou (set3 HB2.out) rfl rfl rfl ⟨_, rfl, ST.out.ret AL.out hlt (by have := HBN.out; omega) (NN.out _ (by have := HBN.out; omega)) us⟩
end Go.Proofs.YtanjnhohfcgapaaGreatDoor.Sg
