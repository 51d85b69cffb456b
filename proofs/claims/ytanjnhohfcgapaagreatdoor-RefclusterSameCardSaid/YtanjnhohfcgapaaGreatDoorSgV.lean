/- single.may. (Its cases printed by sgv.py.) -/
import Derived.Test.YtanjnhohfcgapaaGreatDoorSgVJ
import Derived.Test.YtanjnhohfcgapaaGreatDoorPureAll
set_option linter.unusedSimpArgs false
set_option linter.unusedVariables false
set_option linter.unnecessarySimpa false
namespace Go.Proofs.YtanjnhohfcgapaaGreatDoor.Sg
open Go.RowKit Go.Proofs.YtanjnhohfcgapaaGreatDoor.Crc Go.Proofs.YtanjnhohfcgapaaGreatDoor.Cm Go.Proofs.YtanjnhohfcgapaaGreatDoor.Tr Go.Proofs.YtanjnhohfcgapaaGreatDoor.Kv Go.Proofs.YtanjnhohfcgapaaGreatDoor.Au
set_option linter.unusedSimpArgs false
set_option linter.unusedVariables false
def Says (m : Mg) : Prop := m.kind = 4 ∨ m.kind = 6 ∨ m.kind = 2 ∧ m.has = true
instance (m : Mg) : Decidable (Says m) := by unfold Says; infer_instance
set_option maxRecDepth 100000 in
set_option maxHeartbeats 8000000 in
theorem may_any {T M : Nat → Prop} {z p L : Nat} {x : Sg} {o : Ou} {G : Gh} {m : Mg} {ks : Value} {f : Int} (w : World) (h : Hp w T M z p L x o G) (hm : MgOk m) (hk : Ky w T ks m.cmd) :
    Calls Tryz.prog 65 #[.pointer (some ⟨p, 0, none⟩), .int .i64 f, mgv m ks] w fun e w' => e = .returned (.bool (decide (mayT x f m))) ∧ Upd [] w w' := by
  obtain ⟨r, hr⟩ : ∃ r, decide (mayT x f m) = r := ⟨_, rfl⟩
  rw [hr]
  have HR := hide hr
  clear hr
  obtain ⟨xk, ck, rfl⟩ := hk.slice
  have HH := hide h; have K0 := hide hk; have HMO := hide hm
  have hpl := blk_lt h.at'.1
  clear h hk hm
  unfold mgv
  simp only [strV]
  go_enter Tryz.func65, Tryz.ntmps65
  go_upto_region 1 with fail
  have UA := hide ((Upd.refl [] w).alloc (.cells (mgA m (.slice xk m.cmd.keys.length ck)) TMg))
  have hB := blk_new w (.cells (mgA m (.slice xk m.cmd.keys.length ck)) TMg)
  change Code.wp _ _ _ _ (w.alloc (.cells (mgA m (.slice xk m.cmd.keys.length ck)) TMg))
  generalize w.alloc (.cells (mgA m (.slice xk m.cmd.keys.length ck)) TMg) = w1 at *
  obtain ⟨B, hBn⟩ : ∃ B, w.heap.size = B := ⟨_, rfl⟩
  rw [hBn] at hB hpl ⊢
  have X1 := hide (HH.out.at'.upd_nil UA.out); have K1 := hide (K0.out.upd UA.out (by simp)); have B1 := hide hB; have ENV := hide (HH.out.env.upd_nil UA.out)
  clear hB hBn K0
  have mx := fun n => mg_cells (((Upd.refl [] w1).drewN n).get B1.out (by simp))
  have m0 := fun n => (mx n).1
  have m3 := fun n => (mx n).2.2.2.1
  have M0' := hide m0; have M3' := hide m3
  have px0 : ∀ n, (w1.drewN n).cell? ⟨p, 0, none⟩ = some (.int .i64 (x.self : Int)) := fun n => blk_cell (((Upd.refl [] w1).drewN n).get X1.out.1 (by simp)) rfl
  have px1 : ∀ n, (w1.drewN n).cell? ⟨p, 1, none⟩ = some (.int .i64 (x.n : Int)) := fun n => blk_cell (((Upd.refl [] w1).drewN n).get X1.out.1 (by simp)) rfl
  have P0 := hide px0; have P1 := hide px1
  clear mx m0 m3 px0 px1
  obtain ⟨S, hS⟩ : ∃ S, decide (Says m) = S := ⟨_, rfl⟩
  have HS := hide hS
  clear hS
  go_cut [7] (fun s7 wx => s7 = .bool S ∧ w1 = wx)
  case first =>
    as_aux_lemma =>
    obtain ⟨y0, y1, y2, y3, y4, y5, y6, y7, y8, y9, y10, y11, y12, y13⟩ := mg_cells B1.out
    by_cases h4 : m.kind = 4
    · have e1 : ((m.kind : Int) == 4) = true := by rw [h4]; rfl
      have e : S = true := by rw [← HS.out]; simp [Says, h4]
      subst e
      clear h4
      go_wp2_with fail
      go_meet
      exact ⟨rfl, rfl⟩
    · have e1 : ((m.kind : Int) == 4) = false := by simp; omega
      by_cases h6 : m.kind = 6
      · have e2 : ((m.kind : Int) == 6) = true := by rw [h6]; rfl
        have e : S = true := by rw [← HS.out]; simp [Says, h6]
        subst e
        clear h4 h6
        go_wp2_with fail
        go_meet
        exact ⟨rfl, rfl⟩
      · have e2 : ((m.kind : Int) == 6) = false := by simp; omega
        by_cases h2 : m.kind = 2
        · have e3 : ((m.kind : Int) == 2) = true := by rw [h2]; rfl
          have e : S = m.has := by rw [← HS.out]; simp [Says, h2]
          subst e
          clear h4 h6 h2
          go_wp2_with fail
          go_meet
          exact ⟨rfl, rfl⟩
        · have e3 : ((m.kind : Int) == 2) = false := by simp; omega
          have e : S = false := by rw [← HS.out]; simp [Says, h2, h4, h6]
          subst e
          clear h4 h6 h2
          go_wp2_with fail
          go_meet
          exact ⟨rfl, rfl⟩
  case rest =>
  obtain ⟨rfl, hw⟩ := hcut
  subst hw
  go_upto_region 2 with fail
  by_cases c0 : ¬ (0 ≤ f)
  · have d0 : decide ((0 : Int) ≤ f) = false := by simp; omega
    have C0 := hide c0
    clear c0
    have m0 := M0'.out; have m3 := M3'.out; have px0 := P0.out; have px1 := P1.out
    go_quiet (fail)
    go_wp2_with fail
    go_ret
    have : r = false := by rw [← HR.out]; exact decide_eq_false fun h => by have hc := C0.out; have := h; unfold mayT at this; omega
    subst this
    exact ⟨rfl, UA.out.drewN _⟩
  replace c0 := Classical.not_not.1 c0
  have d0 : decide ((0 : Int) ≤ f) = true := by simp; omega
  have C0 := hide c0
  clear c0
  by_cases c1 : ¬ (f < x.n)
  · have d1 : decide (f < (x.n : Int)) = false := by simp; omega
    have C1 := hide c1
    clear c1
    have m0 := M0'.out; have m3 := M3'.out; have px0 := P0.out; have px1 := P1.out
    go_quiet (fail)
    go_wp2_with fail
    go_ret
    have : r = false := by rw [← HR.out]; exact decide_eq_false fun h => by have hc := C1.out; have := h; unfold mayT at this; omega
    subst this
    exact ⟨rfl, UA.out.drewN _⟩
  replace c1 := Classical.not_not.1 c1
  have d1 : decide (f < (x.n : Int)) = true := by simp; omega
  have C1 := hide c1
  clear c1
  by_cases c2 : ¬ (f ≠ x.self)
  · have d2 : (f != (x.self : Int)) = false := by simp; omega
    have C2 := hide c2
    clear c2
    have m0 := M0'.out; have m3 := M3'.out; have px0 := P0.out; have px1 := P1.out
    go_quiet (fail)
    go_wp2_with fail
    go_ret
    have : r = false := by rw [← HR.out]; exact decide_eq_false fun h => by have hc := C2.out; have := h; unfold mayT at this; omega
    subst this
    exact ⟨rfl, UA.out.drewN _⟩
  replace c2 := Classical.not_not.1 c2
  have d2 : (f != (x.self : Int)) = true := by simp; omega
  have C2 := hide c2
  clear c2
  by_cases c3 : ¬ (1 ≤ m.kind)
  · have d3 : decide ((1 : Int) ≤ (m.kind : Int)) = false := by simp; omega
    have C3 := hide c3
    clear c3
    have m0 := M0'.out; have m3 := M3'.out; have px0 := P0.out; have px1 := P1.out
    go_quiet (fail)
    go_wp2_with fail
    go_ret
    have : r = false := by rw [← HR.out]; exact decide_eq_false fun h => by have hc := C3.out; have := h; unfold mayT at this; omega
    subst this
    exact ⟨rfl, UA.out.drewN _⟩
  replace c3 := Classical.not_not.1 c3
  have d3 : decide ((1 : Int) ≤ (m.kind : Int)) = true := by simp; omega
  have C3 := hide c3
  clear c3
  by_cases c4 : ¬ (m.kind ≤ 7)
  · have d4 : decide ((m.kind : Int) ≤ 7) = false := by simp; omega
    have C4 := hide c4
    clear c4
    have m0 := M0'.out; have m3 := M3'.out; have px0 := P0.out; have px1 := P1.out
    go_quiet (fail)
    go_wp2_with fail
    go_ret
    have : r = false := by rw [← HR.out]; exact decide_eq_false fun h => by have hc := C4.out; have := h; unfold mayT at this; omega
    subst this
    exact ⟨rfl, UA.out.drewN _⟩
  replace c4 := Classical.not_not.1 c4
  have d4 : decide ((m.kind : Int) ≤ 7) = true := by simp; omega
  have C4 := hide c4
  clear c4
  by_cases c5 : ¬ (0 ≤ m.b.r)
  · have d5 : decide ((0 : Int) ≤ m.b.r) = false := by simp; omega
    have C5 := hide c5
    clear c5
    have m0 := M0'.out; have m3 := M3'.out; have px0 := P0.out; have px1 := P1.out
    go_quiet (fail)
    go_wp2_with fail
    go_ret
    have : r = false := by rw [← HR.out]; exact decide_eq_false fun h => by have hc := C5.out; have := h; unfold mayT at this; omega
    subst this
    exact ⟨rfl, UA.out.drewN _⟩
  replace c5 := Classical.not_not.1 c5
  have d5 : decide ((0 : Int) ≤ m.b.r) = true := by simp; omega
  have C5 := hide c5
  clear c5
  by_cases c6 : ¬ (m.b.r < x.n)
  · have d6 : decide (m.b.r < (x.n : Int)) = false := by simp; omega
    have C6 := hide c6
    clear c6
    have m0 := M0'.out; have m3 := M3'.out; have px0 := P0.out; have px1 := P1.out
    go_quiet (fail)
    go_wp2_with fail
    go_ret
    have : r = false := by rw [← HR.out]; exact decide_eq_false fun h => by have hc := C6.out; have := h; unfold mayT at this; omega
    subst this
    exact ⟨rfl, UA.out.drewN _⟩
  replace c6 := Classical.not_not.1 c6
  have d6 : decide (m.b.r < (x.n : Int)) = true := by simp; omega
  have C6 := hide c6
  clear c6
  cases S with
  | false =>
    have m0 := M0'.out; have m3 := M3'.out; have px0 := P0.out; have px1 := P1.out
    go_quiet (fail)
    go_wp2_with fail
    go_ret
    have : r = true := by rw [← HR.out]; exact decide_eq_true ⟨C0.out, C1.out, C2.out, C3.out, C4.out, C5.out, C6.out, fun h => absurd (show Says m from h) (by simpa using HS.out)⟩
    subst this
    exact ⟨rfl, UA.out.drewN _⟩
  | true =>
    have s0 : (w1.drewN 1).heap[p]? = some (.cells (sgc x G) TSg (0, 0)) ∧ (w1.drewN 1).heap[B]? = some (.cells (mgA m (.slice xk m.cmd.keys.length ck)) TMg (0, 0)) := ⟨X1.out.1, B1.out⟩
    have v0 : Upd [] w1 (w1.drewN 1) := (Upd.refl [] w1).drewN 1
    refine wp_region_z (fun wx => wx.heap[p]? = some (.cells (sgc x G) TSg (0, 0)) ∧ wx.heap[B]? = some (.cells (mgA m (.slice xk m.cmd.keys.length ck)) TMg (0, 0))) 54 (by kernel_rfl) ?_
    refine zE 0 rfl (by kernel_rfl) (fun _ _ _ _ h => h) rfl (by exact s0) ?_
    apply Exists.intro
    refine ⟨fun wx hS => ?_, ?_⟩
    · go_simp; rfl
    simp only [Act.put, List.setIfInBounds_toArray, List.set_cons_succ, List.set_cons_zero, List.getElem_toArray, List.getElem_cons_zero]
    refine zE 1 rfl (by kernel_rfl) (fun _ _ _ _ h => h) rfl (by exact s0) ?_
    apply Exists.intro
    refine ⟨fun wx hS => ?_, ?_⟩
    · go_simp; rfl
    simp only [Act.put, zz1, zz2, zz3, zz4, zz5, zz6]
    refine zE 2 rfl (by kernel_rfl) (fun _ _ _ _ h => h) rfl (by exact s0) ?_
    apply Exists.intro
    refine ⟨fun wx hS => ?_, ?_⟩
    · go_simp; rfl
    simp only [Act.put, zz1, zz2, zz3, zz4, zz5, zz6]
    refine zE 3 rfl (by kernel_rfl) (fun _ _ _ _ h => h) rfl (by exact s0) ?_
    apply Exists.intro
    refine ⟨fun wx hS => ?_, ?_⟩
    · go_simp; rfl
    simp only [Act.put, zz1, zz2, zz3, zz4, zz5, zz6]
    refine zE 4 rfl (by kernel_rfl) (fun _ _ _ _ h => h) rfl (by exact s0) ?_
    apply Exists.intro
    refine ⟨fun wx hS => ?_, ?_⟩
    · go_simp; rfl
    simp only [Act.put, zz1, zz2, zz3, zz4, zz5, zz6]
    refine zE 5 rfl (by kernel_rfl) (fun _ _ _ _ h => h) rfl (by exact s0) ?_
    apply Exists.intro
    refine ⟨fun wx hS => ?_, ?_⟩
    · go_simp; rfl
    simp only [Act.put, zz1, zz2, zz3, zz4, zz5, zz6]
    refine zE 6 rfl (by kernel_rfl) (fun _ _ _ _ h => h) rfl (by exact s0) ?_
    apply Exists.intro
    refine ⟨fun wx hS => ?_, ?_⟩
    · go_simp; rfl
    simp only [Act.put, zz1, zz2, zz3, zz4, zz5, zz6]
    refine zE 7 rfl (by kernel_rfl) (fun _ _ _ _ h => h) rfl (by exact s0) ?_
    apply Exists.intro
    refine ⟨fun wx hS => ?_, ?_⟩
    · have q1 : wx.cell? ⟨p, 1, none⟩ = some (.int .i64 (x.n : Int)) := blk_cell hS.1 rfl; go_simp; rfl
    simp only [Act.put, zz1, zz2, zz3, zz4, zz5, zz6]
    refine zE 8 rfl (by kernel_rfl) (fun _ _ _ _ h => h) rfl (by exact s0) ?_
    apply Exists.intro
    refine ⟨fun wx hS => ?_, ?_⟩
    · go_simp; rfl
    simp only [Act.put, zz1, zz2, zz3, zz4, zz5, zz6]
    refine zE 9 rfl (by kernel_rfl) (fun _ _ _ _ h => h) rfl (by exact s0) ?_
    apply Exists.intro
    refine ⟨fun wx hS => ?_, ?_⟩
    · go_simp; rfl
    simp only [Act.put, zz1, zz2, zz3, zz4, zz5, zz6]
    refine zE 10 rfl (by kernel_rfl) (fun _ _ _ _ h => h) rfl (by exact s0) ?_
    apply Exists.intro
    refine ⟨fun wx hS => ?_, ?_⟩
    · go_simp; rfl
    simp only [Act.put, zz1, zz2, zz3, zz4, zz5, zz6]
    refine zE 11 rfl (by kernel_rfl) (fun _ _ _ _ h => h) rfl (by exact s0) ?_
    apply Exists.intro
    refine ⟨fun wx hS => ?_, ?_⟩
    · go_simp; rfl
    simp only [Act.put, zz1, zz2, zz3, zz4, zz5, zz6]
    refine zE 12 rfl (by kernel_rfl) (fun _ _ _ _ h => h) rfl (by exact s0) ?_
    apply Exists.intro
    refine ⟨fun wx hS => ?_, ?_⟩
    · go_simp; rfl
    simp only [Act.put, zz1, zz2, zz3, zz4, zz5, zz6]
    refine zE 13 rfl (by kernel_rfl) (fun _ _ _ _ h => h) rfl (by exact s0) ?_
    apply Exists.intro
    refine ⟨fun wx hS => ?_, ?_⟩
    · go_simp; rfl
    simp only [Act.put, zz1, zz2, zz3, zz4, zz5, zz6]
    refine zE 14 rfl (by kernel_rfl) (fun _ _ _ _ h => h) rfl (by exact s0) ?_
    apply Exists.intro
    refine ⟨fun wx hS => ?_, ?_⟩
    · go_simp; rfl
    simp only [Act.put, zz1, zz2, zz3, zz4, zz5, zz6]
    refine zE 15 rfl (by kernel_rfl) (fun _ _ _ _ h => h) rfl (by exact s0) ?_
    apply Exists.intro
    refine ⟨fun wx hS => ?_, ?_⟩
    · have q1 : wx.cell? ⟨p, 0, none⟩ = some (.int .i64 (x.self : Int)) := blk_cell hS.1 rfl; go_simp; rfl
    simp only [Act.put, zz1, zz2, zz3, zz4, zz5, zz6]
    refine zE 16 rfl (by kernel_rfl) (fun _ _ _ _ h => h) rfl (by exact s0) ?_
    apply Exists.intro
    refine ⟨fun wx hS => ?_, ?_⟩
    · go_simp; rfl
    simp only [Act.put, zz1, zz2, zz3, zz4, zz5, zz6]
    refine zE 17 rfl (by kernel_rfl) (fun _ _ _ _ h => h) rfl (by exact s0) ?_
    apply Exists.intro
    refine ⟨fun wx hS => ?_, ?_⟩
    · go_simp; rfl
    simp only [Act.put, zz1, zz2, zz3, zz4, zz5, zz6]
    refine zE 18 rfl (by kernel_rfl) (fun _ _ _ _ h => h) rfl (by exact s0) ?_
    apply Exists.intro
    refine ⟨fun wx hS => ?_, ?_⟩
    · go_simp; rfl
    simp only [Act.put, zz1, zz2, zz3, zz4, zz5, zz6]
    refine zE 19 rfl (by kernel_rfl) (fun _ _ _ _ h => h) rfl (by exact s0) ?_
    apply Exists.intro
    refine ⟨fun wx hS => ?_, ?_⟩
    · go_simp; rfl
    simp only [Act.put, zz1, zz2, zz3, zz4, zz5, zz6]
    refine zE 20 rfl (by kernel_rfl) (fun _ _ _ _ h => h) rfl (by exact s0) ?_
    apply Exists.intro
    refine ⟨fun wx hS => ?_, ?_⟩
    · obtain ⟨y0, y1, y2, y3, y4, y5, y6, y7, y8, y9, y10, y11, y12, y13⟩ := mg_cells hS.2; go_simp; rfl
    simp only [Act.put, zz1, zz2, zz3, zz4, zz5, zz6]
    refine zE 21 rfl (by kernel_rfl) (fun _ _ _ _ h => h) rfl (by exact s0) ?_
    apply Exists.intro
    refine ⟨fun wx hS => ?_, ?_⟩
    · go_simp; rfl
    simp only [Act.put, zz1, zz2, zz3, zz4, zz5, zz6]
    refine zE 22 rfl (by kernel_rfl) (fun _ _ _ _ h => h) rfl (by exact s0) ?_
    apply Exists.intro
    refine ⟨fun wx hS => ?_, ?_⟩
    · go_simp; rfl
    simp only [Act.put, zz1, zz2, zz3, zz4, zz5, zz6]
    refine zE 23 rfl (by kernel_rfl) (fun _ _ _ _ h => h) rfl (by exact s0) ?_
    apply Exists.intro
    refine ⟨fun wx hS => ?_, ?_⟩
    · go_simp; rfl
    simp only [Act.put, zz1, zz2, zz3, zz4, zz5, zz6]
    refine zE 24 rfl (by kernel_rfl) (fun _ _ _ _ h => h) rfl (by exact s0) ?_
    apply Exists.intro
    refine ⟨fun wx hS => ?_, ?_⟩
    · go_simp; rfl
    simp only [Act.put, zz1, zz2, zz3, zz4, zz5, zz6]
    refine zE 25 rfl (by kernel_rfl) (fun _ _ _ _ h => h) rfl (by exact s0) ?_
    apply Exists.intro
    refine ⟨fun wx hS => ?_, ?_⟩
    · obtain ⟨y0, y1, y2, y3, y4, y5, y6, y7, y8, y9, y10, y11, y12, y13⟩ := mg_cells hS.2; go_simp; rfl
    simp only [Act.put, zz1, zz2, zz3, zz4, zz5, zz6]
    refine zE 26 rfl (by kernel_rfl) (fun _ _ _ _ h => h) rfl (by exact s0) ?_
    apply Exists.intro
    refine ⟨fun wx hS => ?_, ?_⟩
    · go_simp; rfl
    simp only [Act.put, zz1, zz2, zz3, zz4, zz5, zz6]
    refine zE 27 rfl (by kernel_rfl) (fun _ _ _ _ h => h) rfl (by exact s0) ?_
    apply Exists.intro
    refine ⟨fun wx hS => ?_, ?_⟩
    · go_simp; rfl
    simp only [Act.put, zz1, zz2, zz3, zz4, zz5, zz6]
    refine zE 28 rfl (by kernel_rfl) (fun _ _ _ _ h => h) rfl (by exact s0) ?_
    apply Exists.intro
    refine ⟨fun wx hS => ?_, ?_⟩
    · go_simp; rfl
    simp only [Act.put, zz1, zz2, zz3, zz4, zz5, zz6]
    refine zE 29 rfl (by kernel_rfl) (fun _ _ _ _ h => h) rfl (by exact s0) ?_
    apply Exists.intro
    refine ⟨fun wx hS => ?_, ?_⟩
    · go_simp; rfl
    simp only [Act.put, zz1, zz2, zz3, zz4, zz5, zz6]
    refine zE 30 rfl (by kernel_rfl) (fun _ _ _ _ h => h) rfl (by exact s0) ?_
    apply Exists.intro
    refine ⟨fun wx hS => ?_, ?_⟩
    · go_simp; rfl
    simp only [Act.put, zz1, zz2, zz3, zz4, zz5, zz6]
    refine zE 31 rfl (by kernel_rfl) (fun _ _ _ _ h => h) rfl (by exact s0) ?_
    apply Exists.intro
    refine ⟨fun wx hS => ?_, ?_⟩
    · obtain ⟨y0, y1, y2, y3, y4, y5, y6, y7, y8, y9, y10, y11, y12, y13⟩ := mg_cells hS.2; go_simp; rfl
    simp only [Act.put, zz1, zz2, zz3, zz4, zz5, zz6]
    refine zE 32 rfl (by kernel_rfl) (fun _ _ _ _ h => h) rfl (by exact s0) ?_
    apply Exists.intro
    refine ⟨fun wx hS => ?_, ?_⟩
    · go_simp; rfl
    simp only [Act.put, zz1, zz2, zz3, zz4, zz5, zz6]
    refine zE 33 rfl (by kernel_rfl) (fun _ _ _ _ h => h) rfl (by exact s0) ?_
    apply Exists.intro
    refine ⟨fun wx hS => ?_, ?_⟩
    · go_simp; rfl
    simp only [Act.put, zz1, zz2, zz3, zz4, zz5, zz6]
    refine zE 34 rfl (by kernel_rfl) (fun _ _ _ _ h => h) rfl (by exact s0) ?_
    apply Exists.intro
    refine ⟨fun wx hS => ?_, ?_⟩
    · go_simp; rfl
    simp only [Act.put, zz1, zz2, zz3, zz4, zz5, zz6]
    refine zE 35 rfl (by kernel_rfl) (fun _ _ _ _ h => h) rfl (by exact s0) ?_
    apply Exists.intro
    refine ⟨fun wx hS => ?_, ?_⟩
    · go_simp; rfl
    simp only [Act.put, zz1, zz2, zz3, zz4, zz5, zz6]
    refine zE 36 rfl (by kernel_rfl) (fun _ _ _ _ h => h) rfl (by exact s0) ?_
    apply Exists.intro
    refine ⟨fun wx hS => ?_, ?_⟩
    · go_simp; rfl
    simp only [Act.put, zz1, zz2, zz3, zz4, zz5, zz6]
    refine zE 37 rfl (by kernel_rfl) (fun _ _ _ _ h => h) rfl (by exact s0) ?_
    apply Exists.intro
    refine ⟨fun wx hS => ?_, ?_⟩
    · obtain ⟨y0, y1, y2, y3, y4, y5, y6, y7, y8, y9, y10, y11, y12, y13⟩ := mg_cells hS.2; go_simp; rfl
    simp only [Act.put, zz1, zz2, zz3, zz4, zz5, zz6]
    refine zE 38 rfl (by kernel_rfl) (fun _ _ _ _ h => h) rfl (by exact s0) ?_
    apply Exists.intro
    refine ⟨fun wx hS => ?_, ?_⟩
    · go_simp; rfl
    simp only [Act.put, zz1, zz2, zz3, zz4, zz5, zz6]
    refine zE 39 rfl (by kernel_rfl) (fun _ _ _ _ h => h) rfl (by exact s0) ?_
    apply Exists.intro
    refine ⟨fun wx hS => ?_, ?_⟩
    · go_simp; rfl
    simp only [Act.put, zz1, zz2, zz3, zz4, zz5, zz6]
    refine zE 40 rfl (by kernel_rfl) (fun _ _ _ _ h => h) rfl (by exact s0) ?_
    apply Exists.intro
    refine ⟨fun wx hS => ?_, ?_⟩
    · go_simp; rfl
    simp only [Act.put, zz1, zz2, zz3, zz4, zz5, zz6]
    refine zE 41 rfl (by kernel_rfl) (fun _ _ _ _ h => h) rfl (by exact s0) ?_
    apply Exists.intro
    refine ⟨fun wx hS => ?_, ?_⟩
    · have q1 : wx.cell? ⟨p, 1, none⟩ = some (.int .i64 (x.n : Int)) := blk_cell hS.1 rfl; go_simp; rfl
    simp only [Act.put, zz1, zz2, zz3, zz4, zz5, zz6]
    refine zE 42 rfl (by kernel_rfl) (fun _ _ _ _ h => h) rfl (by exact s0) ?_
    apply Exists.intro
    refine ⟨fun wx hS => ?_, ?_⟩
    · go_simp; rfl
    simp only [Act.put, zz1, zz2, zz3, zz4, zz5, zz6]
    refine zE 43 rfl (by kernel_rfl) (fun _ _ _ _ h => h) rfl (by exact s0) ?_
    apply Exists.intro
    refine ⟨fun wx hS => ?_, ?_⟩
    · go_simp; rfl
    simp only [Act.put, zz1, zz2, zz3, zz4, zz5, zz6]
    refine zE 44 rfl (by kernel_rfl) (fun _ _ _ _ h => h) rfl (by exact s0) ?_
    apply Exists.intro
    refine ⟨fun wx hS => ?_, ?_⟩
    · go_simp; rfl
    simp only [Act.put, zz1, zz2, zz3, zz4, zz5, zz6]
    refine zE 45 rfl (by kernel_rfl) (fun _ _ _ _ h => h) rfl (by exact s0) ?_
    apply Exists.intro
    refine ⟨fun wx hS => ?_, ?_⟩
    · go_simp; rfl
    simp only [Act.put, zz1, zz2, zz3, zz4, zz5, zz6]
    refine zE 46 rfl (by kernel_rfl) (fun _ _ _ _ h => h) rfl (by exact s0) ?_
    apply Exists.intro
    refine ⟨fun wx hS => ?_, ?_⟩
    · go_simp; rfl
    simp only [Act.put, zz1, zz2, zz3, zz4, zz5, zz6]
    refine zE 47 rfl (by kernel_rfl) (fun _ _ _ _ h => h) rfl (by exact s0) ?_
    apply Exists.intro
    refine ⟨fun wx hS => ?_, ?_⟩
    · go_simp; rfl
    simp only [Act.put, zz1, zz2, zz3, zz4, zz5, zz6]
    refine zE 48 rfl (by kernel_rfl) (fun _ _ _ _ h => h) rfl (by exact s0) ?_
    apply Exists.intro
    refine ⟨fun wx hS => ?_, ?_⟩
    · go_simp; rfl
    simp only [Act.put, zz1, zz2, zz3, zz4, zz5, zz6]
    refine zE 49 rfl (by kernel_rfl) (fun _ _ _ _ h => h) rfl (by exact s0) ?_
    apply Exists.intro
    refine ⟨fun wx hS => ?_, ?_⟩
    · obtain ⟨y0, y1, y2, y3, y4, y5, y6, y7, y8, y9, y10, y11, y12, y13⟩ := mg_cells hS.2; go_simp; rfl
    simp only [Act.put, zz1, zz2, zz3, zz4, zz5, zz6]
    refine wpAnyZ_one 50 (by kernel_rfl) rfl rfl (fun K hK => ?_)
    try simp only [List.getElem_toArray, List.getElem_cons_succ, List.getElem_cons_zero]
    go_simp
    obtain ⟨cv, hcv⟩ : ∃ cv, checkM m.cmd = cv := ⟨_, rfl⟩
    have hch := check_any (c := m.cmd) (v := cmv m.cmd (.slice xk m.cmd.keys.length ck)) (T := T) (w1.drewN 1) (ENV.out.upd_nil v0).1.cnt (K1.out.upd v0 (by simp)).at
    rw [hcv] at hch
    refine hch.mono ?_
    rintro e w2 ⟨hu2, rfl⟩
    have s2 : w2.heap[p]? = some (.cells (sgc x G) TSg (0, 0)) ∧ w2.heap[B]? = some (.cells (mgA m (.slice xk m.cmd.keys.length ck)) TMg (0, 0)) := ⟨hu2.get s0.1 (by simp), hu2.get s0.2 (by simp)⟩
    have U2 := hide ((UA.out.trans v0).trans hu2); have HCV := hide hcv
    clear hch hu2 v0 s0 hcv
    refine hK _ _ (.inr s2) ?_
    clear hK K
    try simp only [Act.put, zz1, zz2, zz3]
    refine zE 51 rfl (by kernel_rfl) (fun _ _ _ _ h => h) rfl (by exact s2) ?_
    apply Exists.intro
    refine ⟨fun wx hS => ?_, ?_⟩
    · go_simp; rfl
    simp only [Act.put, zz1, zz2, zz3, zz4, zz5, zz6]
    refine zE 52 rfl (by kernel_rfl) (fun _ _ _ _ h => h) rfl (by exact s2) ?_
    apply Exists.intro
    refine ⟨fun wx hS => ?_, ?_⟩
    · go_simp; rfl
    simp only [Act.put, zz1, zz2, zz3, zz4, zz5, zz6]
    refine zE 53 rfl (by kernel_rfl) (fun _ _ _ _ h => h) rfl (by exact s2) ?_
    apply Exists.intro
    refine ⟨fun wx hS => ?_, ?_⟩
    · go_simp; rfl
    simp only [Act.put, zz1, zz2, zz3, zz4, zz5, zz6]
    refine wpAnyZ_one 54 (by kernel_rfl) rfl rfl (fun K hK => ?_)
    try simp only [List.getElem_toArray, List.getElem_cons_succ, List.getElem_cons_zero]
    go_simp
    refine hK _ _ (.inl rfl) ?_
    clear hK K
    try simp only [Act.put, zz1, zz2, zz3]
    refine wpAnyZ_done (by kernel_rfl) ?_ _
    go_wp2_with fail
    go_ret
    have e : (cv == 0) = r := by
      rw [← HR.out, ← HCV.out]
      unfold checkM
      by_cases hg : Cm.Good m.cmd
      · rw [if_pos hg, decide_eq_true (show mayT x f m from ⟨C0.out, C1.out, C2.out, C3.out, C4.out, C5.out, C6.out, fun _ => hg⟩)]; rfl
      · rw [if_neg hg, decide_eq_false (fun h : mayT x f m => hg (h.2.2.2.2.2.2.2 (show Says m by simpa using HS.out)))]; rfl
    subst e
    exact ⟨rfl, U2.out⟩
end Go.Proofs.YtanjnhohfcgapaaGreatDoor.Sg
