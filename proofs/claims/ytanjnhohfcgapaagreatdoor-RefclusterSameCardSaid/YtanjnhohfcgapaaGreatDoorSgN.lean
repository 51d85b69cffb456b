/- single.ask. (Its region's orders printed by sga.py.) -/
import Derived.Test.YtanjnhohfcgapaaGreatDoorSgVJ
set_option linter.unusedSimpArgs false
set_option linter.unusedVariables false
set_option linter.unnecessarySimpa false
namespace Go.Proofs.YtanjnhohfcgapaaGreatDoor.Sg
open Go.RowKit Go.Proofs.YtanjnhohfcgapaaGreatDoor.Crc Go.Proofs.YtanjnhohfcgapaaGreatDoor.Cm Go.Proofs.YtanjnhohfcgapaaGreatDoor.Tr Go.Proofs.YtanjnhohfcgapaaGreatDoor.Kv Go.Proofs.YtanjnhohfcgapaaGreatDoor.Au
set_option linter.unusedSimpArgs false
set_option linter.unusedVariables false
section
variable {P : Program} {ops : Array Oper} {Q : Exit → Act → World → Prop} {md : Region.Mode} {S : World → Prop} {z : Nat}
/-- Two may come up. -/
theorem wpAnyZ_two (i j : Nat) {oi oj : Oper} {fuel : Nat} {listed : Array Bool} {a : Act} {w : World} (hr : Region.ready md ops listed = [i, j]) (hi : ops[i]? = some oi) (hj : ops[j]? = some oj)
    (hwi : Region.wanted oi (yielded ops a.tmps) = true) (hwj : Region.wanted oj (yielded ops a.tmps) = true)
    (h1 : ∀ K : Act → World → Prop, (∀ a' w', (i = z ∨ S w') → wpAnyZ P md ops Q S z fuel (listed.setIfInBounds i true) a' w' → K a' w') → oi.wp P a w K Q)
    (h2 : ∀ K : Act → World → Prop, (∀ a' w', (j = z ∨ S w') → wpAnyZ P md ops Q S z fuel (listed.setIfInBounds j true) a' w' → K a' w') → oj.wp P a w K Q) : wpAnyZ P md ops Q S z (fuel + 1) listed a w := by
  refine ⟨fun h0 => (by rw [hr] at h0; cases h0), ?_⟩
  rw [hr]
  intro k hk
  have hk' : k = i ∨ k = j := by simpa using hk
  rcases hk' with rfl | rfl
  · unfold wpOp
    rw [hi]
    simp only [hwi, if_true]
    exact .inl (h1 _ (fun a' w' h1 h2 => ⟨h1, h2⟩))
  · unfold wpOp
    rw [hj]
    simp only [hwj, if_true]
    exact .inl (h2 _ (fun a' w' h1 h2 => ⟨h1, h2⟩))
end
theorem nextE_open (o : Option Bal) : ∃ rb re, nextE o = .tuple #[balV rb, .int .i64 re] ∧ ((o = none ∧ re = 30) ∨ (o = some rb ∧ re = 0)) := by
  cases o with
  | none => exact ⟨Bal.zero, 30, rfl, .inl ⟨rfl, rfl⟩⟩
  | some b => exact ⟨b, 0, rfl, .inr ⟨rfl, rfl⟩⟩
set_option maxRecDepth 100000 in
set_option maxHeartbeats 8000000 in
theorem ask_any {T0 M0 : Nat → Prop} {z p L : Nat} {x0 : Sg} {o : Ou} {G0 : Gh} {c : Cm} {ks : Value} (w0 : World) (h : Hp w0 T0 M0 z p L x0 o G0) (hL : L ≤ 10000) (hk : Ky w0 T0 ks c) (hc : Sm c) (ho : o.send.length ≤ 30000) :
    Calls Tryz.prog 59 #[.pointer (some ⟨p, 0, none⟩), cmv c ks] w0 fun e w' => e = .returned (.tuple #[]) ∧ Aft z p w0 T0 M0 (askM c (x0, o)) w' := by
  obtain ⟨xk, ck, rfl⟩ := hk.slice
  have HH := hide h; have K0 := hide hk; have HC := hide hc
  have hpl := blk_lt h.at'.1
  clear h hk hc
  unfold cmv
  simp only [strV]
  go_enter Tryz.func59, Tryz.ntmps59
  go_upto_region 1 with fail
  have hB := blk_new w0 (.cells (cmc c (.slice xk c.keys.length ck)).toArray Cm.TCmd)
  have hal := (Upd.refl [] w0).alloc (.cells (cmc c (.slice xk c.keys.length ck)).toArray Cm.TCmd)
  change Code.wp _ _ _ _ (w0.alloc (.cells (cmc c (.slice xk c.keys.length ck)).toArray Cm.TCmd))
  generalize w0.alloc (.cells (cmc c (.slice xk c.keys.length ck)).toArray Cm.TCmd) = w1 at *
  have N1 : Hid (¬ M0 w0.heap.size ∧ ¬ T0 w0.heap.size) := hide (HH.out.at'.2.apt.new (Nat.le_refl _))
  obtain ⟨B, hBn⟩ : ∃ B, w0.heap.size = B := ⟨_, rfl⟩
  have HBN := hide hBn
  rw [hBn] at hB hpl N1 ⊢
  have X1 := hide (HH.out.at'.upd_nil hal); have E1 := hide (Ext.of_nil hal T0 M0); have K1 := hide (K0.out.upd hal (by simp)); have B1 := hide hB
  clear hB hal hBn K0
  obtain ⟨T2, M2, G2, hX2, hE2⟩ := X1.out.noAsk
  have v2 : Upd [p] w1 (w1.setCell ⟨p, 19, none⟩ (.pointer none)) := (Upd.refl [p] w1).setCell (p := ⟨p, 19, none⟩) (.inl (by simp)) _
  have k19 : w1.cell? ⟨p, 19, none⟩ = some G0.akv := blk_cell X1.out.1 rfl
  have kf : w1.frozen? ⟨p, 19, none⟩ = false := blk_free X1.out.1
  go_upto_region 2 with fail
  clear k19 kf
  obtain ⟨w2, hw2⟩ : ∃ w2, w1.setCell ⟨p, 19, none⟩ (.pointer none) = w2 := ⟨_, rfl⟩
  rw [hw2] at hX2 hE2 v2 ⊢
  obtain ⟨x, hx⟩ : ∃ x : Sg, { x0 with asks := none } = x := ⟨_, rfl⟩
  simp only [hx] at hX2
  have HX := hide hx
  have ok0 := HH.out.ok
  have OK2 : Hid (SgOk L x) := hide (by rw [← hx]; exact ⟨ok0.self, ok0.n, ok0.len, ok0.app, ok0.waits, ok0.pn, ok0.sn, ok0.vote, fun d hd => (by cases hd), ok0.log, ok0.wait⟩)
  have X2 := hide hX2; have E2 := hide (E1.out.trans hE2); have B2 := hide (v2.get B1.out (by simp; omega)); have N2 := hide (hE2.not (blk_lt B1.out) N1.out); have K2 := hide (hE2.ky X1.out.2.apt.apart K1.out)
  clear hw2 hX2 hE2 v2 hx X1 E1 B1 N1 K1 ok0
  have HMX := hide (maxB_n OK2.out.pn OK2.out.sn)
  have hself := OK2.out.self
  have hn7 := OK2.out.n
  obtain ⟨rb, re, hne, hcase⟩ := nextE_open (nextB (maxB x.promise x.seen) x.self)
  have HNE := hide hne; have HCA := hide hcase
  clear hne hcase
  go_cut [4, 5] (fun s4 s5 wx => ∃ R, s4 = .pointer (some ⟨R, 0, none⟩) ∧ s5 = .int .i64 re ∧ wx.heap[R]? = some (.cells #[.int .u64 (rb.n : Int), .int .i64 rb.r] TBa (0, 0)) ∧ w2.heap.size ≤ R ∧ Upd [] w2 wx)
  case first =>
    as_aux_lemma =>
    have s_of : ∀ wx, Upd [] w2 wx → wx.heap[p]? = some (.cells (sgc x G2) TSg (0, 0)) := fun wx hu => hu.get X2.out.1 (by simp)
    have s0 : (w2.drewN 1).heap[p]? = some (.cells (sgc x G2) TSg (0, 0)) := X2.out.1
    refine wp_region_z (fun wx => wx.heap[p]? = some (.cells (sgc x G2) TSg (0, 0))) 20 (by kernel_rfl) ?_
    refine zE 0 rfl (by kernel_rfl) (fun _ _ _ _ h => h) rfl (by exact s0) ?_
    apply Exists.intro
    refine ⟨fun wx hS => ?_, ?_⟩
    · go_simp; rfl
    simp only [Act.put, List.setIfInBounds_toArray, List.set_cons_succ, List.set_cons_zero, List.getElem_toArray, List.getElem_cons_zero]
    refine zE 1 rfl (by kernel_rfl) (fun _ _ _ _ h => h) rfl (by exact s0) ?_
    apply Exists.intro
    refine ⟨fun wx hS => ?_, ?_⟩
    · go_simp; rfl
    simp only [Act.put, zz1, zz2, zz3, zz4, zz5, zz6]
    refine zE 2 rfl (by kernel_rfl) (fun _ _ _ _ h => h) rfl (by exact s0) ?_
    apply Exists.intro
    refine ⟨fun wx hS => ?_, ?_⟩
    · go_simp; rfl
    simp only [Act.put, zz1, zz2, zz3, zz4, zz5, zz6]
    refine zE 3 rfl (by kernel_rfl) (fun _ _ _ _ h => h) rfl (by exact s0) ?_
    apply Exists.intro
    refine ⟨fun wx hS => ?_, ?_⟩
    · obtain ⟨k4, k5, k6, k7, k8, k9, k10, k11, k12, k13, k14, k15, k16, k17, k19, kf⟩ := XAt.cells hS; go_simp; rfl
    simp only [Act.put, zz1, zz2, zz3, zz4, zz5, zz6]
    refine zE 4 rfl (by kernel_rfl) (fun _ _ _ _ h => h) rfl (by exact s0) ?_
    apply Exists.intro
    refine ⟨fun wx hS => ?_, ?_⟩
    · go_simp; rfl
    simp only [Act.put, zz1, zz2, zz3, zz4, zz5, zz6]
    refine zE 5 rfl (by kernel_rfl) (fun _ _ _ _ h => h) rfl (by exact s0) ?_
    apply Exists.intro
    refine ⟨fun wx hS => ?_, ?_⟩
    · go_simp; rfl
    simp only [Act.put, zz1, zz2, zz3, zz4, zz5, zz6]
    refine zE 6 rfl (by kernel_rfl) (fun _ _ _ _ h => h) rfl (by exact s0) ?_
    apply Exists.intro
    refine ⟨fun wx hS => ?_, ?_⟩
    · go_simp; rfl
    simp only [Act.put, zz1, zz2, zz3, zz4, zz5, zz6]
    refine zE 7 rfl (by kernel_rfl) (fun _ _ _ _ h => h) rfl (by exact s0) ?_
    apply Exists.intro
    refine ⟨fun wx hS => ?_, ?_⟩
    · obtain ⟨k4, k5, k6, k7, k8, k9, k10, k11, k12, k13, k14, k15, k16, k17, k19, kf⟩ := XAt.cells hS; go_simp; rfl
    simp only [Act.put, zz1, zz2, zz3, zz4, zz5, zz6]
    refine zE 10 rfl (by kernel_rfl) (fun _ _ _ _ h => h) rfl (by exact s0) ?_
    apply Exists.intro
    refine ⟨fun wx hS => ?_, ?_⟩
    · go_simp; rfl
    simp only [Act.put, zz1, zz2, zz3, zz4, zz5, zz6]
    refine zE 11 rfl (by kernel_rfl) (fun _ _ _ _ h => h) rfl (by exact s0) ?_
    apply Exists.intro
    refine ⟨fun wx hS => ?_, ?_⟩
    · go_simp; rfl
    simp only [Act.put, zz1, zz2, zz3, zz4, zz5, zz6]
    refine zE 12 rfl (by kernel_rfl) (fun _ _ _ _ h => h) rfl (by exact s0) ?_
    apply Exists.intro
    refine ⟨fun wx hS => ?_, ?_⟩
    · go_simp; rfl
    simp only [Act.put, zz1, zz2, zz3, zz4, zz5, zz6]
    refine zE 13 rfl (by kernel_rfl) (fun _ _ _ _ h => h) rfl (by exact s0) ?_
    apply Exists.intro
    refine ⟨fun wx hS => ?_, ?_⟩
    · have c0 : wx.cell? ⟨p, 0, none⟩ = some (.int .i64 (x.self : Int)) := blk_cell hS rfl; go_simp; rfl
    simp only [Act.put, zz1, zz2, zz3, zz4, zz5, zz6]
    have U20 : Hid (Upd [] w2 (w2.drewN 1)) := hide ((Upd.refl [] w2).drewN 1)
    obtain ⟨w20, hw20⟩ : ∃ w', w2.drewN 1 = w' := ⟨_, rfl⟩
    rw [hw20] at U20 s0 ⊢
    have s20 := s0
    clear hw20 s0
    refine wpAnyZ_two 8 18 (by kernel_rfl) rfl rfl rfl rfl (fun K hK => ?_) (fun K hK => ?_)
    · try simp only [List.getElem_toArray, List.getElem_cons_succ, List.getElem_cons_zero]
      go_simp
      have hS21 := blk_new w20 (.cells #[.int .u64 (x.promise.n : Int), .int .i64 x.promise.r, .int .u64 (x.seen.n : Int), .int .i64 x.seen.r] TBa)
      have al21 := (Upd.refl [] w20).alloc (.cells #[.int .u64 (x.promise.n : Int), .int .i64 x.promise.r, .int .u64 (x.seen.n : Int), .int .i64 x.seen.r] TBa)
      obtain ⟨w21, hw21⟩ : ∃ w', w20.alloc (.cells #[.int .u64 (x.promise.n : Int), .int .i64 x.promise.r, .int .u64 (x.seen.n : Int), .int .i64 x.seen.r] TBa) = w' := ⟨_, rfl⟩
      rw [hw21] at hS21 al21 ⊢
      obtain ⟨SL, hSL⟩ : ∃ SL, w20.heap.size = SL := ⟨_, rfl⟩
      rw [hSL] at hS21 ⊢
      have U21 := hide (U20.out.trans al21); have SS21 := hide hS21
      have s21 := s_of w21 U21.out
      clear hw21 hSL hS21 al21 U20
      refine hK _ _ (.inr s21) ?_
      clear hK K
      try simp only [Act.put, zz1, zz2, zz3]
      refine wpAnyZ_two 9 18 (by kernel_rfl) rfl rfl rfl rfl (fun K hK => ?_) (fun K hK => ?_)
      · try simp only [List.getElem_toArray, List.getElem_cons_succ, List.getElem_cons_zero]
        go_simp
        refine (max_any (x := x.promise) (y := x.seen) w21 SS21.out).mono ?_
        rintro e w22 ⟨rfl, hu22⟩
        have U22 := hide (U21.out.trans hu22)
        have s22 := s_of w22 U22.out
        clear hu22 U21 SS21
        unfold balV
        refine hK _ _ (.inr s22) ?_
        clear hK K
        try simp only [Act.put, zz1, zz2, zz3]
        refine wpAnyZ_two 14 18 (by kernel_rfl) rfl rfl rfl rfl (fun K hK => ?_) (fun K hK => ?_)
        · try simp only [List.getElem_toArray, List.getElem_cons_succ, List.getElem_cons_zero]
          go_simp
          have hnx := next_ok (maxB x.promise x.seen) x.self w22 HMX.out (by omega) (by omega)
          rw [HNE.out] at hnx
          refine hnx.mono ?_
          clear hnx
          rintro e w23 ⟨rfl, hu23⟩
          have U23 := hide (U22.out.trans hu23)
          have s23 := s_of w23 U23.out
          clear hu23 U22
          unfold balV
          refine hK _ _ (.inr s23) ?_
          clear hK K
          try simp only [Act.put, zz1, zz2, zz3]
          refine zE 15 rfl (by kernel_rfl) (fun _ _ _ _ h => h) rfl (by exact s23) ?_
          apply Exists.intro
          refine ⟨fun wx hS => ?_, ?_⟩
          · go_simp; rfl
          simp only [Act.put, zz1, zz2, zz3, zz4, zz5, zz6]
          refine zE 16 rfl (by kernel_rfl) (fun _ _ _ _ h => h) rfl (by exact s23) ?_
          apply Exists.intro
          refine ⟨fun wx hS => ?_, ?_⟩
          · go_simp; rfl
          simp only [Act.put, zz1, zz2, zz3, zz4, zz5, zz6]
          refine zE 17 rfl (by kernel_rfl) (fun _ _ _ _ h => h) rfl (by exact s23) ?_
          apply Exists.intro
          refine ⟨fun wx hS => ?_, ?_⟩
          · go_simp; rfl
          simp only [Act.put, zz1, zz2, zz3, zz4, zz5, zz6]
          refine wpAnyZ_one 18 (by kernel_rfl) rfl rfl (fun K hK => ?_)
          try simp only [List.getElem_toArray, List.getElem_cons_succ, List.getElem_cons_zero]
          go_simp
          have hR24 := blk_new w23 (.cells #[.int .u64 0, .int .i64 0] TBa)
          have al24 := (Upd.refl [] w23).alloc (.cells #[.int .u64 0, .int .i64 0] TBa)
          obtain ⟨w24, hw24⟩ : ∃ w', w23.alloc (.cells #[.int .u64 0, .int .i64 0] TBa) = w' := ⟨_, rfl⟩
          rw [hw24] at hR24 al24 ⊢
          have hge : w2.heap.size ≤ w23.heap.size := U23.out.size
          obtain ⟨R, hR⟩ : ∃ R, w23.heap.size = R := ⟨_, rfl⟩
          rw [hR] at hR24 hge ⊢
          have HGE := hide hge
          have U24 := hide (U23.out.trans al24); have RF24 := hide hR24
          have s24 := s_of w24 U24.out
          clear hw24 hR hR24 al24 U23 hge
          refine hK _ _ (.inr s24) ?_
          clear hK K
          try simp only [Act.put, zz1, zz2, zz3]
          have hrf := RF24.out
          have r0 : w24.cell? ⟨R, 0, none⟩ = some (.int .u64 0) := blk_cell hrf rfl
          have r1 : w24.cell? ⟨R, 1, none⟩ = some (.int .i64 0) := blk_cell hrf rfl
          have rf : ∀ i, w24.frozen? ⟨R, i, none⟩ = false := fun i => blk_free hrf
          clear hrf
          refine wpAnyZ_one 19 (by kernel_rfl) rfl rfl (fun K hK => ?_)
          try simp only [List.getElem_toArray, List.getElem_cons_succ, List.getElem_cons_zero]
          go_simp
          have us : Upd [R] w24 ((w24.setCell ⟨R, 0, none⟩ (.int .u64 (rb.n : Int))).setCell ⟨R, 1, none⟩ (.int .i64 rb.r)) := ((Upd.refl [R] w24).setCell (p := ⟨R, 0, none⟩) (.inl (by simp)) _).setCell (p := ⟨R, 1, none⟩) (.inl (by simp)) _
          have hRR := hide (set2 RF24.out (v0 := .int .u64 (rb.n : Int)) (v1 := .int .i64 rb.r))
          have UF := hide (U24.out.trans_new us fun k hk => by simp at hk; subst hk; exact .inr HGE.out)
          have sF := s_of _ UF.out
          clear us r0 r1 rf
          refine hK _ _ (.inr sF) ?_
          clear hK K
          try simp only [Act.put, zz1, zz2, zz3]
          refine wpAnyZ_one 20 (by kernel_rfl) rfl rfl (fun K hK => ?_)
          try simp only [List.getElem_toArray, List.getElem_cons_succ, List.getElem_cons_zero]
          go_simp
          refine hK _ _ (.inl rfl) ?_
          clear hK K
          try simp only [Act.put, zz1, zz2, zz3]
          refine wpAnyZ_done (by kernel_rfl) ?_ _
          go_wp2_with fail
          go_meet
          exact ⟨R, rfl, rfl, hRR.out, HGE.out, UF.out⟩
        · try simp only [List.getElem_toArray, List.getElem_cons_succ, List.getElem_cons_zero]
          go_simp
          have hR23 := blk_new w22 (.cells #[.int .u64 0, .int .i64 0] TBa)
          have al23 := (Upd.refl [] w22).alloc (.cells #[.int .u64 0, .int .i64 0] TBa)
          obtain ⟨w23, hw23⟩ : ∃ w', w22.alloc (.cells #[.int .u64 0, .int .i64 0] TBa) = w' := ⟨_, rfl⟩
          rw [hw23] at hR23 al23 ⊢
          have hge : w2.heap.size ≤ w22.heap.size := U22.out.size
          obtain ⟨R, hR⟩ : ∃ R, w22.heap.size = R := ⟨_, rfl⟩
          rw [hR] at hR23 hge ⊢
          have HGE := hide hge
          have U23 := hide (U22.out.trans al23); have RF23 := hide hR23
          have s23 := s_of w23 U23.out
          clear hw23 hR hR23 al23 U22 hge
          refine hK _ _ (.inr s23) ?_
          clear hK K
          try simp only [Act.put, zz1, zz2, zz3]
          refine wpAnyZ_one 14 (by kernel_rfl) rfl rfl (fun K hK => ?_)
          try simp only [List.getElem_toArray, List.getElem_cons_succ, List.getElem_cons_zero]
          go_simp
          have hnx := next_ok (maxB x.promise x.seen) x.self w23 HMX.out (by omega) (by omega)
          rw [HNE.out] at hnx
          refine hnx.mono ?_
          clear hnx
          rintro e w24 ⟨rfl, hu24⟩
          have U24 := hide (U23.out.trans hu24)
          have RF24 := hide (hu24.get RF23.out (by simp))
          clear RF23
          have s24 := s_of w24 U24.out
          clear hu24 U23
          unfold balV
          refine hK _ _ (.inr s24) ?_
          clear hK K
          try simp only [Act.put, zz1, zz2, zz3]
          refine zE 15 rfl (by kernel_rfl) (fun _ _ _ _ h => h) rfl (by exact s24) ?_
          apply Exists.intro
          refine ⟨fun wx hS => ?_, ?_⟩
          · go_simp; rfl
          simp only [Act.put, zz1, zz2, zz3, zz4, zz5, zz6]
          refine zE 16 rfl (by kernel_rfl) (fun _ _ _ _ h => h) rfl (by exact s24) ?_
          apply Exists.intro
          refine ⟨fun wx hS => ?_, ?_⟩
          · go_simp; rfl
          simp only [Act.put, zz1, zz2, zz3, zz4, zz5, zz6]
          refine zE 17 rfl (by kernel_rfl) (fun _ _ _ _ h => h) rfl (by exact s24) ?_
          apply Exists.intro
          refine ⟨fun wx hS => ?_, ?_⟩
          · go_simp; rfl
          simp only [Act.put, zz1, zz2, zz3, zz4, zz5, zz6]
          have hrf := RF24.out
          have r0 : w24.cell? ⟨R, 0, none⟩ = some (.int .u64 0) := blk_cell hrf rfl
          have r1 : w24.cell? ⟨R, 1, none⟩ = some (.int .i64 0) := blk_cell hrf rfl
          have rf : ∀ i, w24.frozen? ⟨R, i, none⟩ = false := fun i => blk_free hrf
          clear hrf
          refine wpAnyZ_one 19 (by kernel_rfl) rfl rfl (fun K hK => ?_)
          try simp only [List.getElem_toArray, List.getElem_cons_succ, List.getElem_cons_zero]
          go_simp
          have us : Upd [R] w24 ((w24.setCell ⟨R, 0, none⟩ (.int .u64 (rb.n : Int))).setCell ⟨R, 1, none⟩ (.int .i64 rb.r)) := ((Upd.refl [R] w24).setCell (p := ⟨R, 0, none⟩) (.inl (by simp)) _).setCell (p := ⟨R, 1, none⟩) (.inl (by simp)) _
          have hRR := hide (set2 RF24.out (v0 := .int .u64 (rb.n : Int)) (v1 := .int .i64 rb.r))
          have UF := hide (U24.out.trans_new us fun k hk => by simp at hk; subst hk; exact .inr HGE.out)
          have sF := s_of _ UF.out
          clear us r0 r1 rf
          refine hK _ _ (.inr sF) ?_
          clear hK K
          try simp only [Act.put, zz1, zz2, zz3]
          refine wpAnyZ_one 20 (by kernel_rfl) rfl rfl (fun K hK => ?_)
          try simp only [List.getElem_toArray, List.getElem_cons_succ, List.getElem_cons_zero]
          go_simp
          refine hK _ _ (.inl rfl) ?_
          clear hK K
          try simp only [Act.put, zz1, zz2, zz3]
          refine wpAnyZ_done (by kernel_rfl) ?_ _
          go_wp2_with fail
          go_meet
          exact ⟨R, rfl, rfl, hRR.out, HGE.out, UF.out⟩
      · try simp only [List.getElem_toArray, List.getElem_cons_succ, List.getElem_cons_zero]
        go_simp
        have hR22 := blk_new w21 (.cells #[.int .u64 0, .int .i64 0] TBa)
        have al22 := (Upd.refl [] w21).alloc (.cells #[.int .u64 0, .int .i64 0] TBa)
        obtain ⟨w22, hw22⟩ : ∃ w', w21.alloc (.cells #[.int .u64 0, .int .i64 0] TBa) = w' := ⟨_, rfl⟩
        rw [hw22] at hR22 al22 ⊢
        have hge : w2.heap.size ≤ w21.heap.size := U21.out.size
        obtain ⟨R, hR⟩ : ∃ R, w21.heap.size = R := ⟨_, rfl⟩
        rw [hR] at hR22 hge ⊢
        have HGE := hide hge
        have U22 := hide (U21.out.trans al22); have RF22 := hide hR22
        have s22 := s_of w22 U22.out
        have SS22 := hide (al22.get SS21.out (by simp))
        clear SS21
        clear hw22 hR hR22 al22 U21 hge
        refine hK _ _ (.inr s22) ?_
        clear hK K
        try simp only [Act.put, zz1, zz2, zz3]
        refine wpAnyZ_one 9 (by kernel_rfl) rfl rfl (fun K hK => ?_)
        try simp only [List.getElem_toArray, List.getElem_cons_succ, List.getElem_cons_zero]
        go_simp
        refine (max_any (x := x.promise) (y := x.seen) w22 SS22.out).mono ?_
        rintro e w23 ⟨rfl, hu23⟩
        have U23 := hide (U22.out.trans hu23)
        have RF23 := hide (hu23.get RF22.out (by simp))
        clear RF22
        have s23 := s_of w23 U23.out
        clear hu23 U22 SS22
        unfold balV
        refine hK _ _ (.inr s23) ?_
        clear hK K
        try simp only [Act.put, zz1, zz2, zz3]
        refine wpAnyZ_one 14 (by kernel_rfl) rfl rfl (fun K hK => ?_)
        try simp only [List.getElem_toArray, List.getElem_cons_succ, List.getElem_cons_zero]
        go_simp
        have hnx := next_ok (maxB x.promise x.seen) x.self w23 HMX.out (by omega) (by omega)
        rw [HNE.out] at hnx
        refine hnx.mono ?_
        clear hnx
        rintro e w24 ⟨rfl, hu24⟩
        have U24 := hide (U23.out.trans hu24)
        have RF24 := hide (hu24.get RF23.out (by simp))
        clear RF23
        have s24 := s_of w24 U24.out
        clear hu24 U23
        unfold balV
        refine hK _ _ (.inr s24) ?_
        clear hK K
        try simp only [Act.put, zz1, zz2, zz3]
        refine zE 15 rfl (by kernel_rfl) (fun _ _ _ _ h => h) rfl (by exact s24) ?_
        apply Exists.intro
        refine ⟨fun wx hS => ?_, ?_⟩
        · go_simp; rfl
        simp only [Act.put, zz1, zz2, zz3, zz4, zz5, zz6]
        refine zE 16 rfl (by kernel_rfl) (fun _ _ _ _ h => h) rfl (by exact s24) ?_
        apply Exists.intro
        refine ⟨fun wx hS => ?_, ?_⟩
        · go_simp; rfl
        simp only [Act.put, zz1, zz2, zz3, zz4, zz5, zz6]
        refine zE 17 rfl (by kernel_rfl) (fun _ _ _ _ h => h) rfl (by exact s24) ?_
        apply Exists.intro
        refine ⟨fun wx hS => ?_, ?_⟩
        · go_simp; rfl
        simp only [Act.put, zz1, zz2, zz3, zz4, zz5, zz6]
        have hrf := RF24.out
        have r0 : w24.cell? ⟨R, 0, none⟩ = some (.int .u64 0) := blk_cell hrf rfl
        have r1 : w24.cell? ⟨R, 1, none⟩ = some (.int .i64 0) := blk_cell hrf rfl
        have rf : ∀ i, w24.frozen? ⟨R, i, none⟩ = false := fun i => blk_free hrf
        clear hrf
        refine wpAnyZ_one 19 (by kernel_rfl) rfl rfl (fun K hK => ?_)
        try simp only [List.getElem_toArray, List.getElem_cons_succ, List.getElem_cons_zero]
        go_simp
        have us : Upd [R] w24 ((w24.setCell ⟨R, 0, none⟩ (.int .u64 (rb.n : Int))).setCell ⟨R, 1, none⟩ (.int .i64 rb.r)) := ((Upd.refl [R] w24).setCell (p := ⟨R, 0, none⟩) (.inl (by simp)) _).setCell (p := ⟨R, 1, none⟩) (.inl (by simp)) _
        have hRR := hide (set2 RF24.out (v0 := .int .u64 (rb.n : Int)) (v1 := .int .i64 rb.r))
        have UF := hide (U24.out.trans_new us fun k hk => by simp at hk; subst hk; exact .inr HGE.out)
        have sF := s_of _ UF.out
        clear us r0 r1 rf
        refine hK _ _ (.inr sF) ?_
        clear hK K
        try simp only [Act.put, zz1, zz2, zz3]
        refine wpAnyZ_one 20 (by kernel_rfl) rfl rfl (fun K hK => ?_)
        try simp only [List.getElem_toArray, List.getElem_cons_succ, List.getElem_cons_zero]
        go_simp
        refine hK _ _ (.inl rfl) ?_
        clear hK K
        try simp only [Act.put, zz1, zz2, zz3]
        refine wpAnyZ_done (by kernel_rfl) ?_ _
        go_wp2_with fail
        go_meet
        exact ⟨R, rfl, rfl, hRR.out, HGE.out, UF.out⟩
    · try simp only [List.getElem_toArray, List.getElem_cons_succ, List.getElem_cons_zero]
      go_simp
      have hR21 := blk_new w20 (.cells #[.int .u64 0, .int .i64 0] TBa)
      have al21 := (Upd.refl [] w20).alloc (.cells #[.int .u64 0, .int .i64 0] TBa)
      obtain ⟨w21, hw21⟩ : ∃ w', w20.alloc (.cells #[.int .u64 0, .int .i64 0] TBa) = w' := ⟨_, rfl⟩
      rw [hw21] at hR21 al21 ⊢
      have hge : w2.heap.size ≤ w20.heap.size := U20.out.size
      obtain ⟨R, hR⟩ : ∃ R, w20.heap.size = R := ⟨_, rfl⟩
      rw [hR] at hR21 hge ⊢
      have HGE := hide hge
      have U21 := hide (U20.out.trans al21); have RF21 := hide hR21
      have s21 := s_of w21 U21.out
      clear hw21 hR hR21 al21 U20 hge
      refine hK _ _ (.inr s21) ?_
      clear hK K
      try simp only [Act.put, zz1, zz2, zz3]
      refine wpAnyZ_one 8 (by kernel_rfl) rfl rfl (fun K hK => ?_)
      try simp only [List.getElem_toArray, List.getElem_cons_succ, List.getElem_cons_zero]
      go_simp
      have hS22 := blk_new w21 (.cells #[.int .u64 (x.promise.n : Int), .int .i64 x.promise.r, .int .u64 (x.seen.n : Int), .int .i64 x.seen.r] TBa)
      have al22 := (Upd.refl [] w21).alloc (.cells #[.int .u64 (x.promise.n : Int), .int .i64 x.promise.r, .int .u64 (x.seen.n : Int), .int .i64 x.seen.r] TBa)
      obtain ⟨w22, hw22⟩ : ∃ w', w21.alloc (.cells #[.int .u64 (x.promise.n : Int), .int .i64 x.promise.r, .int .u64 (x.seen.n : Int), .int .i64 x.seen.r] TBa) = w' := ⟨_, rfl⟩
      rw [hw22] at hS22 al22 ⊢
      obtain ⟨SL, hSL⟩ : ∃ SL, w21.heap.size = SL := ⟨_, rfl⟩
      rw [hSL] at hS22 ⊢
      have U22 := hide (U21.out.trans al22); have SS22 := hide hS22
      have RF22 := hide (al22.get RF21.out (by simp))
      clear RF21
      have s22 := s_of w22 U22.out
      clear hw22 hSL hS22 al22 U21
      refine hK _ _ (.inr s22) ?_
      clear hK K
      try simp only [Act.put, zz1, zz2, zz3]
      refine wpAnyZ_one 9 (by kernel_rfl) rfl rfl (fun K hK => ?_)
      try simp only [List.getElem_toArray, List.getElem_cons_succ, List.getElem_cons_zero]
      go_simp
      refine (max_any (x := x.promise) (y := x.seen) w22 SS22.out).mono ?_
      rintro e w23 ⟨rfl, hu23⟩
      have U23 := hide (U22.out.trans hu23)
      have RF23 := hide (hu23.get RF22.out (by simp))
      clear RF22
      have s23 := s_of w23 U23.out
      clear hu23 U22 SS22
      unfold balV
      refine hK _ _ (.inr s23) ?_
      clear hK K
      try simp only [Act.put, zz1, zz2, zz3]
      refine wpAnyZ_one 14 (by kernel_rfl) rfl rfl (fun K hK => ?_)
      try simp only [List.getElem_toArray, List.getElem_cons_succ, List.getElem_cons_zero]
      go_simp
      have hnx := next_ok (maxB x.promise x.seen) x.self w23 HMX.out (by omega) (by omega)
      rw [HNE.out] at hnx
      refine hnx.mono ?_
      clear hnx
      rintro e w24 ⟨rfl, hu24⟩
      have U24 := hide (U23.out.trans hu24)
      have RF24 := hide (hu24.get RF23.out (by simp))
      clear RF23
      have s24 := s_of w24 U24.out
      clear hu24 U23
      unfold balV
      refine hK _ _ (.inr s24) ?_
      clear hK K
      try simp only [Act.put, zz1, zz2, zz3]
      refine zE 15 rfl (by kernel_rfl) (fun _ _ _ _ h => h) rfl (by exact s24) ?_
      apply Exists.intro
      refine ⟨fun wx hS => ?_, ?_⟩
      · go_simp; rfl
      simp only [Act.put, zz1, zz2, zz3, zz4, zz5, zz6]
      refine zE 16 rfl (by kernel_rfl) (fun _ _ _ _ h => h) rfl (by exact s24) ?_
      apply Exists.intro
      refine ⟨fun wx hS => ?_, ?_⟩
      · go_simp; rfl
      simp only [Act.put, zz1, zz2, zz3, zz4, zz5, zz6]
      refine zE 17 rfl (by kernel_rfl) (fun _ _ _ _ h => h) rfl (by exact s24) ?_
      apply Exists.intro
      refine ⟨fun wx hS => ?_, ?_⟩
      · go_simp; rfl
      simp only [Act.put, zz1, zz2, zz3, zz4, zz5, zz6]
      have hrf := RF24.out
      have r0 : w24.cell? ⟨R, 0, none⟩ = some (.int .u64 0) := blk_cell hrf rfl
      have r1 : w24.cell? ⟨R, 1, none⟩ = some (.int .i64 0) := blk_cell hrf rfl
      have rf : ∀ i, w24.frozen? ⟨R, i, none⟩ = false := fun i => blk_free hrf
      clear hrf
      refine wpAnyZ_one 19 (by kernel_rfl) rfl rfl (fun K hK => ?_)
      try simp only [List.getElem_toArray, List.getElem_cons_succ, List.getElem_cons_zero]
      go_simp
      have us : Upd [R] w24 ((w24.setCell ⟨R, 0, none⟩ (.int .u64 (rb.n : Int))).setCell ⟨R, 1, none⟩ (.int .i64 rb.r)) := ((Upd.refl [R] w24).setCell (p := ⟨R, 0, none⟩) (.inl (by simp)) _).setCell (p := ⟨R, 1, none⟩) (.inl (by simp)) _
      have hRR := hide (set2 RF24.out (v0 := .int .u64 (rb.n : Int)) (v1 := .int .i64 rb.r))
      have UF := hide (U24.out.trans_new us fun k hk => by simp at hk; subst hk; exact .inr HGE.out)
      have sF := s_of _ UF.out
      clear us r0 r1 rf
      refine hK _ _ (.inr sF) ?_
      clear hK K
      try simp only [Act.put, zz1, zz2, zz3]
      refine wpAnyZ_one 20 (by kernel_rfl) rfl rfl (fun K hK => ?_)
      try simp only [List.getElem_toArray, List.getElem_cons_succ, List.getElem_cons_zero]
      go_simp
      refine hK _ _ (.inl rfl) ?_
      clear hK K
      try simp only [Act.put, zz1, zz2, zz3]
      refine wpAnyZ_done (by kernel_rfl) ?_ _
      go_wp2_with fail
      go_meet
      exact ⟨R, rfl, rfl, hRR.out, HGE.out, UF.out⟩

  case rest =>
  rename World => w3
  obtain ⟨R, rfl, rfl, hR, hge, hu⟩ := hcut
  have X3 := hide (X2.out.upd_nil hu); have E3 := hide (E2.out.on hu (by simp)); have B3 := hide (hu.get B2.out (by simp)); have N3 := N2; have K3 := hide (K2.out.upd hu (by simp)); have R3 := hide hR
  have pR : p ≠ R := fun e => by have := blk_lt X2.out.1; omega
  have BR : B ≠ R := fun e => by have := blk_lt B2.out; omega
  have HS3 := hide (show w0.heap.size ≤ w3.heap.size from E3.out.size)
  clear hu hge X2 E2 B2 N2 K2 hR
  rcases HCA.out with ⟨hnb, rfl⟩ | ⟨hnb, rfl⟩
  · have HNB := hide hnb
    clear hnb
    go_wp2_with fail
    refine bodyPost_ret (results_none rfl _ _ _) rfl ?_
    refine ⟨rfl, T2, M2, G2, ?_, E3.out⟩
    unfold askM
    have e1 : nextB (maxB x0.promise x0.seen) x0.self = none := by rw [← HNB.out, ← HX.out]
    simp only [e1, HX.out]
    exact X3.out
  · have HNB := hide hnb
    clear hnb
    have hbn := nextB_n HMX.out HNB.out
    have HBN2 := hide hbn
    have r0 : w3.cell? ⟨R, 0, none⟩ = some (.int .u64 (rb.n : Int)) := blk_cell R3.out rfl
    have r1 : w3.cell? ⟨R, 1, none⟩ = some (.int .i64 rb.r) := blk_cell R3.out rfl
    obtain ⟨k4, k5, k6, k7, k8, k9, k10, k11, k12, k13, k14, k15, k16, k17, k19, kf⟩ := XAt.cells X3.out.1
    clear hbn
    go_upto_region 5 with fail
    clear r0 r1 k4 k5 k6 k7 k8 k9 k10 k11 k12 k13 k14 k15 k16 k17 k19 kf
    obtain ⟨hX4, v4⟩ := X3.out.setPromise rb
    generalize (w3.setCell ⟨p, 4, none⟩ (.int .u64 (rb.n : Int))).setCell ⟨p, 5, none⟩ (.int .i64 rb.r) = w4 at *
    have X4 := hide hX4; have E4 := hide (E3.out.trans (X3.out.ext_p v4)); have B4 := hide (v4.get B3.out (by simp; omega)); have R4 := hide (v4.get R3.out (by simp; exact fun e => pR e.symm)); have K4 := hide (K3.out.upd v4 fun k hk ht => by simp at hk; subst hk; exact X3.out.2.apt.apart _ ht X3.out.2.pM)
    clear hX4 v4 X3 E3 B3 R3 K3 HS3
    obtain ⟨x4, hx4⟩ : ∃ x4 : Sg, { x with promise := rb } = x4 := ⟨_, rfl⟩
    rw [hx4] at X4
    have HX4 := hide hx4
    clear hx4
    obtain ⟨a2, ha2⟩ : ∃ a2 : Ak, (⟨rb, false, c, noneH⟩ : Ak) = a2 := ⟨_, rfl⟩
    have HA2 := hide ha2
    clear ha2
    have hp4 := blk_lt X4.out.1
    have hB4 := blk_lt B4.out
    have hR4 := blk_lt R4.out
    have r0 : w4.cell? ⟨R, 0, none⟩ = some (.int .u64 (rb.n : Int)) := blk_cell R4.out rfl
    have r1 : w4.cell? ⟨R, 1, none⟩ = some (.int .i64 rb.r) := blk_cell R4.out rfl
    obtain ⟨y0, y1, y2, y3, y4, y5, y6⟩ := cmc_cells B4.out
    have v8 := ((Upd.refl [] w4).alloc (.map #[] 0)).alloc (.cells (akc a2 w4.heap.size (.slice xk c.keys.length ck)) TAk)
    have e8 : Obj.cells (akc a2 w4.heap.size (.slice xk c.keys.length ck)) TAk = .cells #[.int .u64 (rb.n : Int), .int .i64 rb.r, .bool false, .int .u32 (c.client : Int), .int .u32 (c.seq : Int), .int .u8 (c.kind : Int), .slice xk c.keys.length ck, .string (strOf c.old), .string (strOf c.new), .int .i64 c.n, .map (some w4.heap.size)] TAk := by rw [← HA2.out]; rfl
    have k19 : ((w4.alloc (.map #[] 0)).alloc (.cells #[.int .u64 (rb.n : Int), .int .i64 rb.r, .bool false, .int .u32 (c.client : Int), .int .u32 (c.seq : Int), .int .u8 (c.kind : Int), .slice xk c.keys.length ck, .string (strOf c.old), .string (strOf c.new), .int .i64 c.n, .map (some w4.heap.size)] TAk)).cell? ⟨p, 19, none⟩ = some G2.akv := by rw [← e8]; exact blk_cell (v8.get X4.out.1 (by simp)) rfl
    have kf : ((w4.alloc (.map #[] 0)).alloc (.cells #[.int .u64 (rb.n : Int), .int .i64 rb.r, .bool false, .int .u32 (c.client : Int), .int .u32 (c.seq : Int), .int .u8 (c.kind : Int), .slice xk c.keys.length ck, .string (strOf c.old), .string (strOf c.new), .int .i64 c.n, .map (some w4.heap.size)] TAk)).frozen? ⟨p, 19, none⟩ = false := by rw [← e8]; exact blk_free (v8.get X4.out.1 (by simp))
    have E8' := hide e8
    clear e8
    have hmm := @run_makeMap Tryz.prog
    go_upto_region 6 with fail
    try rw [← E8'.out]
    have ecomm : ((w4.setCell ⟨p, 19, none⟩ (.pointer (some ⟨w4.heap.size + 1, 0, none⟩))).alloc (.map #[] 0)).alloc (.cells (akc a2 w4.heap.size (.slice xk c.keys.length ck)) TAk) = ((w4.alloc (.map #[] 0)).alloc (.cells (akc a2 w4.heap.size (.slice xk c.keys.length ck)) TAk)).setCell ⟨p, 19, none⟩ (.pointer (some ⟨w4.heap.size + 1, 0, none⟩)) := by
      rw [World.setCell_alloc_past (w := w4.alloc (.map #[] 0)) (hn := by simp; omega), World.setCell_alloc_past (w := w4) (hn := hp4)]
    rw [ecomm]
    clear ecomm
    clear k19 kf y0 y1 y2 y3 y4 y5 y6 r0 r1 E8' hmm
    obtain ⟨w8, hw8⟩ : ∃ w8, ((w4.alloc (.map #[] 0)).alloc (.cells (akc a2 w4.heap.size (.slice xk c.keys.length ck)) TAk)).setCell ⟨p, 19, none⟩ (.pointer (some ⟨w4.heap.size + 1, 0, none⟩)) = w8 := ⟨_, rfl⟩
    obtain ⟨M8, G8, hX8, hE8⟩ := X4.out.asked (a := a2) (ks := .slice xk c.keys.length ck) (by rw [← HA2.out]; exact K4.out) (by rw [← HA2.out]) hw8.symm
    have us : Upd [p] ((w4.alloc (.map #[] 0)).alloc (.cells (akc a2 w4.heap.size (.slice xk c.keys.length ck)) TAk)) w8 := by rw [← hw8]; exact (Upd.refl [p] _).setCell (p := ⟨p, 19, none⟩) (.inl (by simp)) _
    have hr8 := (us.get (v8.get R4.out (by simp)) (by simp; exact fun e => pR e.symm))
    obtain ⟨x8, hx8⟩ : ∃ x8 : Sg, { x4 with asks := some a2 } = x8 := ⟨_, rfl⟩
    rw [hx8] at hX8
    rw [hw8]
    have HX8 := hide hx8
    have X8 := hide hX8; have E8 := hide (E4.out.trans hE8); have R8 := hide hr8
    clear hw8 hX8 hE8 us v8 X4 E4 B4 R4 K4 hr8 hx8
    have f1 : x8.self = x.self := by rw [← HX8.out, ← HX4.out]
    have f2 : x8.n = x.n := by rw [← HX8.out, ← HX4.out]
    have f3 : x8.log = x.log := by rw [← HX8.out, ← HX4.out]
    have f4 : x8.asks = some a2 := by rw [← HX8.out]
    have f5 : x8.vote = x.vote := by rw [← HX8.out, ← HX4.out]
    have FF := hide (show x8.self = x.self ∧ x8.n = x.n ∧ x8.log = x.log ∧ x8.asks = some a2 ∧ x8.vote = x.vote from ⟨f1, f2, f3, f4, f5⟩)
    have OK8 : Hid (SgOk L x8) := hide (by
      have ok := OK2.out
      rw [← HX8.out, ← HX4.out]
      exact ⟨ok.self, ok.n, ok.len, ok.app, ok.waits, HBN2.out, ok.sn, ok.vote, fun d hd => by cases hd; rw [← HA2.out]; exact ⟨HBN2.out, HC.out, HOk.none _⟩, ok.log, ok.wait⟩)
    clear f1 f2 f3 f4 f5
    have r0 : w8.cell? ⟨R, 0, none⟩ = some (.int .u64 (rb.n : Int)) := blk_cell R8.out rfl
    have r1 : w8.cell? ⟨R, 1, none⟩ = some (.int .i64 rb.r) := blk_cell R8.out rfl
    go_wp2_with fail
    refine (others_any (z := z) (a := a2) (m := mg 1 0 rb) (ks := .slice none 0 0) w8 X8.out FF.out.2.2.2.1 ⟨by simp [mg], by simp [mg], by simp only [mg]; exact HBN2.out, by simp [mg, Bal.zero], by simp [mg, Cm.zero]⟩ (Ky.zero _ _) (by have := HH.out.z; have := E8.out.size; omega) (by have := OK8.out.len; omega) OK8.out.n OK8.out.self (by omega)).mono ?_
    rintro e w9 ⟨rfl, T9, M9, G9, hX9, hE9⟩
    have hOL := others_len x8.self x8.n a2.heard ((mg 1 0 rb).at x8.slot) o
    obtain ⟨o9, ho9⟩ : ∃ o9, othersM x8.self x8.n a2.heard ((mg 1 0 rb).at x8.slot) o = o9 := ⟨_, rfl⟩
    have hd9 : o9.done = o.done ∧ o9.ans = o.ans := by rw [← ho9]; exact ⟨rfl, rfl⟩
    rw [ho9] at hX9 hOL
    have HO9 := hide ho9
    have X9 := hide hX9; have E9 := hide (E8.out.trans hE9)
    have HD9 := hide hd9
    rw [FF.out.2.1] at hOL
    have HOL := hide hOL
    clear hX9 hE9 ho9 X8 E8 hd9 hOL r0 r1
    go_upto_region 7 with fail
    have ud9 : Upd [] w9 (w9.drewN 1) := (Upd.refl [] w9).drewN 1
    have s0 : (w9.drewN 1).heap[p]? = some (.cells (sgc x8 G9) TSg (0, 0)) := X9.out.1
    have hkv := X9.out.2.vote
    rw [FF.out.2.2.2.2] at hkv
    obtain ⟨xl, cl, hks⟩ := hkv.slice
    rw [hks] at hkv
    have KV9 := hide hkv
    have HKS := hide hks
    clear hks hkv
    refine wp_region_z (fun wx => wx.heap[p]? = some (.cells (sgc x8 G9) TSg (0, 0))) 9 (by kernel_rfl) ?_
    refine zT 0 rfl (by kernel_rfl) (fun _ _ _ _ h => h) rfl (by exact s0) ?_
    apply Exists.intro
    refine ⟨fun wx hS => ?_, ?_⟩
    · go_simp; rfl
    simp only [Act.put, List.setIfInBounds_toArray, List.set_cons_succ, List.set_cons_zero, List.getElem_toArray, List.getElem_cons_zero]
    refine zT 1 rfl (by kernel_rfl) (fun _ _ _ _ h => h) rfl (by exact s0) ?_
    apply Exists.intro
    refine ⟨fun wx hS => ?_, ?_⟩
    · go_simp; rfl
    simp only [Act.put, zz1, zz2, zz3, zz4, zz5, zz6]
    refine zT 2 rfl (by kernel_rfl) (fun _ _ _ _ h => h) rfl (by exact s0) ?_
    apply Exists.intro
    refine ⟨fun wx hS => ?_, ?_⟩
    · go_simp; rfl
    simp only [Act.put, zz1, zz2, zz3, zz4, zz5, zz6]
    refine zT 3 rfl (by kernel_rfl) (fun _ _ _ _ h => h) rfl (by exact s0) ?_
    apply Exists.intro
    refine ⟨fun wx hS => ?_, ?_⟩
    · go_simp; rfl
    simp only [Act.put, zz1, zz2, zz3, zz4, zz5, zz6]
    refine zT 4 rfl (by kernel_rfl) (fun _ _ _ _ h => h) rfl (by exact s0) ?_
    apply Exists.intro
    refine ⟨fun wx hS => ?_, ?_⟩
    · have c0 : wx.cell? ⟨p, 0, none⟩ = some (.int .i64 (x.self : Int)) := (by rw [← FF.out.1] ; exact blk_cell hS rfl); go_simp; rfl
    simp only [Act.put, zz1, zz2, zz3, zz4, zz5, zz6]
    refine zT 5 rfl (by kernel_rfl) (fun _ _ _ _ h => h) rfl (by exact s0) ?_
    apply Exists.intro
    refine ⟨fun wx hS => ?_, ?_⟩
    · go_simp; rfl
    simp only [Act.put, zz1, zz2, zz3, zz4, zz5, zz6]
    refine zT 6 rfl (by kernel_rfl) (fun _ _ _ _ h => h) rfl (by exact s0) ?_
    apply Exists.intro
    refine ⟨fun wx hS => ?_, ?_⟩
    · go_simp; rfl
    simp only [Act.put, zz1, zz2, zz3, zz4, zz5, zz6]
    refine zT 7 rfl (by kernel_rfl) (fun _ _ _ _ h => h) rfl (by exact s0) ?_
    apply Exists.intro
    refine ⟨fun wx hS => ?_, ?_⟩
    · go_simp; rfl
    simp only [Act.put, zz1, zz2, zz3, zz4, zz5, zz6]
    refine zT 8 rfl (by kernel_rfl) (fun _ _ _ _ h => h) rfl (by exact s0) ?_
    apply Exists.intro
    refine ⟨fun wx hS => ?_, ?_⟩
    · obtain ⟨k4, k5, k6, k7, k8, k9, k10, k11, k12, k13, k14, k15, k16, k17, k19, kf⟩ := XAt.cells hS ; rw [FF.out.2.2.2.2] at k8 k9 k10 k11 k12 k13 k15 k16 k17 ; rw [HKS.out] at k14; go_simp; rfl
    simp only [Act.put, zz1, zz2, zz3, zz4, zz5, zz6]
    refine wpAnyZ_one 9 (by kernel_rfl) rfl rfl (fun K hK => ?_)
    try simp only [List.getElem_toArray, List.getElem_cons_succ, List.getElem_cons_zero]
    go_simp
    refine (hears1_any (z := z) (L := L) (k := x.self) (x := x8) (o := o9) (a := a2) (v := x.vote) (ks := .slice xl x.vote.c.keys.length cl) (w9.drewN 1) ⟨X9.out.upd_nil ud9, (E9.out.envM HH.out.env).upd_nil ud9, OK8.out, by have := HH.out.z; have := E9.out.size; show z ≤ w9.heap.size; omega, by have := HOL.out; omega, by rw [HD9.out.1]; exact HH.out.done, by rw [HD9.out.2]; exact HH.out.ans⟩ hL FF.out.2.2.2.1 (by rw [← HA2.out]) (by rw [FF.out.2.1]; exact hself) OK2.out.vote (KV9.out.upd ud9 (by simp)) (by have := HOL.out; omega)).mono ?_
    rintro e w10 ⟨rfl, h10⟩
    have H10 := hide (Aft.ext (E9.out.on ud9 (by simp)) h10)
    clear h10 s0 ud9 X9 E9
    refine hK _ _ (.inl rfl) ?_
    clear hK K
    try simp only [Act.put, zz1, zz2, zz3]
    refine wpAnyZ_done (by kernel_rfl) ?_ _
    go_wp2_with fail
    go_end0
    refine ⟨rfl, ?_⟩
    have h11 := H10.out
    have e1 : nextB (maxB x0.promise x0.seen) x0.self = some rb := by rw [← HNB.out, ← HX.out]
    unfold askM
    simp only [e1]
    rw [← HO9.out, FF.out.1, FF.out.2.1, ← HX8.out, ← HX4.out, ← HA2.out, ← HX.out] at h11
    exact h11
end Go.Proofs.YtanjnhohfcgapaaGreatDoor.Sg
