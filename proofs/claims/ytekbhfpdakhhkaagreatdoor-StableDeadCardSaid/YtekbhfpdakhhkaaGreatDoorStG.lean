/- stable.Store: Promise, Base, Snap; may. -/
import Derived.Test.YtekbhfpdakhhkaaGreatDoorStHB
import Derived.Test.YtekbhfpdakhhkaaGreatDoorGenAll
import Derived.Test.YtekbhfpdakhhkaaGreatDoorRecAll
namespace Go.Proofs.YtekbhfpdakhhkaaGreatDoor.St
set_option linter.unusedSimpArgs false
set_option linter.unusedVariables false
set_option linter.unnecessarySimpa false
open Go.RowKit Go.Lib Go.Proofs.YtekbhfpdakhhkaaGreatDoor.DiskW

section
variable {E : List Nat} {S L D g base : Nat} {so : Option Addr} {sn sc : Nat} {bv : Value} {d : DS} {s : Sto}
theorem StoAt.cells {w : World} (h : StoAt E w S L D g base so sn sc bv d s) : w.cell? ⟨S, 0, none⟩ = some (.pointer (some ⟨L, 0, none⟩)) ∧ w.cell? ⟨S, 1, none⟩ = some (.int .u64 (s.prom.n : Int)) ∧ w.cell? ⟨S, 2, none⟩ = some (.int .i64 s.prom.r) ∧ w.cell? ⟨S, 3, none⟩ = some (.int .u64 (s.base : Int)) ∧ w.cell? ⟨S, 4, none⟩ = some (.slice so sn sc) ∧ w.cell? ⟨S, 5, none⟩ = some (.map (some g)) :=
  ⟨blk_cell h.blk rfl, blk_cell h.blk rfl, blk_cell h.blk rfl, blk_cell h.blk rfl, blk_cell h.blk rfl, blk_cell h.blk rfl⟩
set_option maxRecDepth 100000 in
set_option maxHeartbeats 1000000 in
theorem promise_any (w : World) (h : StoAt E w S L D g base so sn sc bv d s) : Calls Tryz.prog 19 #[.pointer (some ⟨S, 0, none⟩)] w fun e w' => e = .returned (balV s.prom) ∧ Upd [] w w' := by
  have hp : (w.alloc (.cells #[.int .u64 0, .int .i64 0] 25)).heap[S]? = _ := blk_alloc h.blk _
  have c1 : (w.alloc (.cells #[.int .u64 0, .int .i64 0] 25)).cell? ⟨S, 1, none⟩ = some (.int .u64 (s.prom.n : Int)) := blk_cell hp rfl
  have c2 : (w.alloc (.cells #[.int .u64 0, .int .i64 0] 25)).cell? ⟨S, 2, none⟩ = some (.int .i64 s.prom.r) := blk_cell hp rfl
  have hB := blk_new w (.cells #[.int .u64 (s.prom.n : Int), .int .i64 s.prom.r] 25)
  have hu := (Upd.refl [] w).alloc (.cells #[.int .u64 (s.prom.n : Int), .int .i64 s.prom.r] 25)
  clear h hp
  go_enter Tryz.func19, Tryz.ntmps19
  go_wp2_with fail
  generalize w.alloc (.cells #[.int .u64 (s.prom.n : Int), .int .i64 s.prom.r] 25) = W at *
  have z0 : W.cell? ⟨w.heap.size, 0, none⟩ = some (.int .u64 (s.prom.n : Int)) := blk_cell hB rfl
  have z1 : W.cell? ⟨w.heap.size, 1, none⟩ = some (.int .i64 s.prom.r) := blk_cell hB rfl
  refine bodyPost_ret (v := balV s.prom) ?_ rfl ⟨rfl, hu⟩
  rw [results_cell1 (p := 2) rfl]
  go_simp
set_option maxHeartbeats 1000000 in
theorem base_q (w : World) (h : StoAt E w S L D g base so sn sc bv d s) : Calls Tryz.prog 20 #[.pointer (some ⟨S, 0, none⟩)] w fun e w' => e = .returned (.int .u64 (s.base : Int)) ∧ w = w' := by
  obtain ⟨c0, c1, c2, c3, c4, c5⟩ := h.cells
  clear h
  go_enter Tryz.func20, Tryz.ntmps20
  go_wp2_with fail
  go_ret
  exact ⟨rfl, rfl⟩
theorem base_any (w : World) (h : StoAt E w S L D g base so sn sc bv d s) : Calls Tryz.prog 20 #[.pointer (some ⟨S, 0, none⟩)] w fun e w' => e = .returned (.int .u64 (s.base : Int)) ∧ Upd [] w w' :=
  (base_q w h).mono fun _ _ ⟨h1, h2⟩ => ⟨h1, h2 ▸ Upd.refl _ _⟩
set_option maxHeartbeats 1000000 in
theorem snap_any (w : World) (h : StoAt E w S L D g base so sn sc bv d s) (hn : sn ≤ 1000000000) : Calls Tryz.prog 21 #[.pointer (some ⟨S, 0, none⟩)] w fun e w' => (∃ ao cap, e = .returned (.slice ao sn cap) ∧ w'.ownsRow w.heap.size 5 1 (.slice ao sn cap) sn (s.snap.map u8v)) ∧ Upd [] w w' := by
  obtain ⟨c0, c1, c2, c3, c4, c5⟩ := h.cells
  have SN := hide h.snp.src
  clear h
  go_enter Tryz.func21, Tryz.ntmps21
  go_wp2_with fail
  refine (clone_any w SN.out hn).mono ?_
  rintro e w1 ⟨⟨ao, cap, rfl, ho⟩, hu⟩
  have OW := hide ho; have UW := hide hu
  clear ho hu c0 c1 c2 c3 c4 c5
  go_wp2_with fail
  go_ret
  exact ⟨⟨ao, cap, rfl, OW.out⟩, UW.out⟩
/-- A set as a value. -/
abbrev setV (x : SetM) (v : Value) : Value := .agg #[.int .u64 (x.kind : Int), .int .u64 (x.slot : Int), .int .u64 (x.b.n : Int), .int .i64 x.b.r, v]
abbrev setC (k slot n : Nat) (r : Int) (v : Value) : Obj := .cells #[.int .u64 (k : Int), .int .u64 (slot : Int), .int .u64 (n : Int), .int .i64 r, v] 81
noncomputable def mayOps1 : Array Oper := findOps 1 ((Tryz.f35.body).getD .skip)
noncomputable def mayOps3 : Array Oper := findOps 3 ((Tryz.f35.body).getD .skip)
set_option maxRecDepth 100000 in
set_option maxHeartbeats 4000000 in
theorem may_any (w : World) (h : StoAt E w S L D g base so sn sc bv d s) (x : SetM) (xo : Option Addr) (xn xc : Nat) :
    Calls Tryz.prog 35 #[.pointer (some ⟨S, 0, none⟩), setV x (.slice xo xn xc)] w fun e w' => e = .returned (.int .i64 (mayM s x : Int)) ∧ Upd [] w w' := by
  have HS := hide h.blk
  clear h
  obtain ⟨k, slot, ⟨n, r⟩, bytes⟩ := x
  obtain ⟨m, hm⟩ : ∃ m, mayM s ⟨k, slot, ⟨n, r⟩, bytes⟩ = m := ⟨_, rfl⟩
  rw [hm]
  unfold mayM at hm
  simp only at hm ⊢
  have HC : (slot ≤ s.base ∧ decide ((slot : Int) ≤ (s.base : Int)) = true ∧ decide (slot ≤ s.base) = true) ∨ (¬ slot ≤ s.base ∧ decide ((slot : Int) ≤ (s.base : Int)) = false ∧ decide (slot ≤ s.base) = false) := by
    by_cases h : slot ≤ s.base
    · exact .inl ⟨h, by simpa using h, by simpa using h⟩
    · exact .inr ⟨h, by simp; omega, by simpa using h⟩
  by_cases hk3 : k = 3
  · have q3 : ((k : Int) != 3) = false := by simp; omega
    have q1 : ((k : Int) != 1) = true := by simp; omega
    rw [if_neg (fun hh => hh.1 hk3)] at hm
    rcases HC with ⟨b1, b2, b3⟩ | ⟨b1, b2, b3⟩
    · rw [if_pos ⟨by omega, b1⟩] at hm
      subst hm
      have M := hide b1
      clear b1 hk3
      go_enter Tryz.func35, Tryz.ntmps35
      have hX := blk_new w (setC k slot n r (.slice xo xn xc))
      have hP := blk_alloc HS.out (setC k slot n r (.slice xo xn xc))
      have hu := (Upd.refl [] w).alloc (setC k slot n r (.slice xo xn xc))
      go_upto_region 1 with fail
      generalize w.alloc (setC k slot n r (.slice xo xn xc)) = w2 at *
      obtain ⟨B, hBn⟩ : ∃ B, w.heap.size = B := ⟨_, rfl⟩
      rw [hBn] at hX ⊢
      have x0 : w2.cell? ⟨B, 0, none⟩ = some (.int .u64 (k : Int)) := blk_cell hX rfl
      have x1 : w2.cell? ⟨B, 1, none⟩ = some (.int .u64 (slot : Int)) := blk_cell hX rfl
      have x2 : w2.cell? ⟨B, 2, none⟩ = some (.int .u64 (n : Int)) := blk_cell hX rfl
      have x3 : w2.cell? ⟨B, 3, none⟩ = some (.int .i64 r) := blk_cell hX rfl
      have y1 : w2.cell? ⟨S, 1, none⟩ = some (.int .u64 (s.prom.n : Int)) := blk_cell hP rfl
      have y2 : w2.cell? ⟨S, 2, none⟩ = some (.int .i64 s.prom.r) := blk_cell hP rfl
      have y3 : w2.cell? ⟨S, 3, none⟩ = some (.int .u64 (s.base : Int)) := blk_cell hP rfl
      have X0 := hide x0; have X1 := hide x1; have X2 := hide x2; have X3 := hide x3; have Y1 := hide y1; have Y2 := hide y2; have Y3 := hide y3; have U2 := hide hu
      clear hX hP hu hBn x0 x1 x2 x3 y1 y2 y3
      have s0 : Upd [] w2 (w2.drewN 1) := (Upd.refl [] w2).drewN 1
      refine wp_region_seqG mayOps1 (by kernel_rfl) [21] (fun wx => Upd [] w2 wx) (by kernel_rfl) (by kernel_rfl) (fun _ _ d _ _ h => by cases d <;> exact h) s0 ?_
      refine wpSeqG_take (by kernel_rfl) (by kernel_rfl) ?_
      apply Exists.intro
      refine ⟨fun wx hS => ?_, fun a' ha => ?_⟩
      · go_simp; rfl
      simp only [Act.put, List.setIfInBounds_toArray, List.set_cons_succ, List.set_cons_zero] at ha
      subst ha
      refine wpSeqG_take (by kernel_rfl) (by kernel_rfl) ?_
      apply Exists.intro
      refine ⟨fun wx hS => ?_, fun a' ha => ?_⟩
      · have c0 := Rec.cell_keep hS X0.out (by simp); go_simp; rfl
      simp only [Act.put, List.setIfInBounds_toArray, List.set_cons_succ, List.set_cons_zero] at ha
      subst ha
      refine wpSeqG_take (by kernel_rfl) (by kernel_rfl) ?_
      apply Exists.intro
      refine ⟨fun wx hS => ?_, fun a' ha => ?_⟩
      · go_simp; rfl
      simp only [Act.put, List.setIfInBounds_toArray, List.set_cons_succ, List.set_cons_zero] at ha
      subst ha
      refine wpSeqG_take (by kernel_rfl) (by kernel_rfl) ?_
      apply Exists.intro
      refine ⟨fun wx hS => ?_, fun a' ha => ?_⟩
      · go_simp; rfl
      simp only [Act.put, List.setIfInBounds_toArray, List.set_cons_succ, List.set_cons_zero] at ha
      subst ha
      refine wpSeqG_skip (by kernel_rfl) (fun a' ha => ?_)
      simp only [Act.put, List.setIfInBounds_toArray, List.set_cons_succ, List.set_cons_zero] at ha
      subst ha
      refine wpSeqG_skip (by kernel_rfl) (fun a' ha => ?_)
      simp only [Act.put, List.setIfInBounds_toArray, List.set_cons_succ, List.set_cons_zero] at ha
      subst ha
      refine wpSeqG_skip (by kernel_rfl) (fun a' ha => ?_)
      simp only [Act.put, List.setIfInBounds_toArray, List.set_cons_succ, List.set_cons_zero] at ha
      subst ha
      refine wpSeqG_skip (by kernel_rfl) (fun a' ha => ?_)
      simp only [Act.put, List.setIfInBounds_toArray, List.set_cons_succ, List.set_cons_zero] at ha
      subst ha
      refine wpSeqG_skip (by kernel_rfl) (fun a' ha => ?_)
      simp only [Act.put, List.setIfInBounds_toArray, List.set_cons_succ, List.set_cons_zero] at ha
      subst ha
      refine wpSeqG_skip (by kernel_rfl) (fun a' ha => ?_)
      simp only [Act.put, List.setIfInBounds_toArray, List.set_cons_succ, List.set_cons_zero] at ha
      subst ha
      refine wpSeqG_skip (by kernel_rfl) (fun a' ha => ?_)
      simp only [Act.put, List.setIfInBounds_toArray, List.set_cons_succ, List.set_cons_zero] at ha
      subst ha
      refine wpSeqG_skip (by kernel_rfl) (fun a' ha => ?_)
      simp only [Act.put, List.setIfInBounds_toArray, List.set_cons_succ, List.set_cons_zero] at ha
      subst ha
      refine wpSeqG_skip (by kernel_rfl) (fun a' ha => ?_)
      simp only [Act.put, List.setIfInBounds_toArray, List.set_cons_succ, List.set_cons_zero] at ha
      subst ha
      refine wpSeqG_skip (by kernel_rfl) (fun a' ha => ?_)
      simp only [Act.put, List.setIfInBounds_toArray, List.set_cons_succ, List.set_cons_zero] at ha
      subst ha
      refine wpSeqG_skip (by kernel_rfl) (fun a' ha => ?_)
      simp only [Act.put, List.setIfInBounds_toArray, List.set_cons_succ, List.set_cons_zero] at ha
      subst ha
      refine wpSeqG_skip (by kernel_rfl) (fun a' ha => ?_)
      simp only [Act.put, List.setIfInBounds_toArray, List.set_cons_succ, List.set_cons_zero] at ha
      subst ha
      refine wpSeqG_skip (by kernel_rfl) (fun a' ha => ?_)
      simp only [Act.put, List.setIfInBounds_toArray, List.set_cons_succ, List.set_cons_zero] at ha
      subst ha
      refine wpSeqG_skip (by kernel_rfl) (fun a' ha => ?_)
      simp only [Act.put, List.setIfInBounds_toArray, List.set_cons_succ, List.set_cons_zero] at ha
      subst ha
      refine wpSeqG_skip (by kernel_rfl) (fun a' ha => ?_)
      simp only [Act.put, List.setIfInBounds_toArray, List.set_cons_succ, List.set_cons_zero] at ha
      subst ha
      refine wpSeqG_skip (by kernel_rfl) (fun a' ha => ?_)
      simp only [Act.put, List.setIfInBounds_toArray, List.set_cons_succ, List.set_cons_zero] at ha
      subst ha
      refine wpSeqG_skip (by kernel_rfl) (fun a' ha => ?_)
      simp only [Act.put, List.setIfInBounds_toArray, List.set_cons_succ, List.set_cons_zero] at ha
      subst ha
      refine wpSeqG_skip (by kernel_rfl) (fun a' ha => ?_)
      simp only [Act.put, List.setIfInBounds_toArray, List.set_cons_succ, List.set_cons_zero] at ha
      subst ha
      refine wpSeqG_skip (by kernel_rfl) (fun a' ha => ?_)
      simp only [Act.put, List.setIfInBounds_toArray, List.set_cons_succ, List.set_cons_zero] at ha
      subst ha
      refine wpSeqG_take (by kernel_rfl) (by kernel_rfl) ?_
      apply Exists.intro
      refine ⟨fun wx hS => ?_, fun a' ha => ?_⟩
      · go_simp; rfl
      simp only [Act.put, List.setIfInBounds_toArray, List.set_cons_succ, List.set_cons_zero] at ha
      subst ha
      refine wpSeqG_take (by kernel_rfl) (by kernel_rfl) ?_
      apply Exists.intro
      refine ⟨fun wx hS => ?_, fun a' ha => ?_⟩
      · go_simp; rfl
      simp only [Act.put, List.setIfInBounds_toArray, List.set_cons_succ, List.set_cons_zero] at ha
      subst ha
      unfold wpSeqG
      generalize w2.drewN 1 = w3 at *
      have U3 := hide s0
      go_upto_region 3 with fail
      have s1 : Upd [] w2 (w3.drewN 1) := s0.drewN 1
      clear s0
      refine wp_region_seqG mayOps3 (by kernel_rfl) [] (fun wx => Upd [] w2 wx) (by kernel_rfl) (by kernel_rfl) (fun _ _ d _ _ h => by cases d <;> exact h) s1 ?_
      refine wpSeqG_take (by kernel_rfl) (by kernel_rfl) ?_
      apply Exists.intro
      refine ⟨fun wx hS => ?_, fun a' ha => ?_⟩
      · go_simp; rfl
      simp only [Act.put, List.setIfInBounds_toArray, List.set_cons_succ, List.set_cons_zero] at ha
      subst ha
      refine wpSeqG_take (by kernel_rfl) (by kernel_rfl) ?_
      apply Exists.intro
      refine ⟨fun wx hS => ?_, fun a' ha => ?_⟩
      · have c0 := Rec.cell_keep hS X0.out (by simp); go_simp; rfl
      simp only [Act.put, List.setIfInBounds_toArray, List.set_cons_succ, List.set_cons_zero] at ha
      subst ha
      refine wpSeqG_take (by kernel_rfl) (by kernel_rfl) ?_
      apply Exists.intro
      refine ⟨fun wx hS => ?_, fun a' ha => ?_⟩
      · go_simp; rfl
      simp only [Act.put, List.setIfInBounds_toArray, List.set_cons_succ, List.set_cons_zero] at ha
      subst ha
      refine wpSeqG_take (by kernel_rfl) (by kernel_rfl) ?_
      apply Exists.intro
      refine ⟨fun wx hS => ?_, fun a' ha => ?_⟩
      · go_simp; rfl
      simp only [Act.put, List.setIfInBounds_toArray, List.set_cons_succ, List.set_cons_zero] at ha
      subst ha
      refine wpSeqG_take (by kernel_rfl) (by kernel_rfl) ?_
      apply Exists.intro
      refine ⟨fun wx hS => ?_, fun a' ha => ?_⟩
      · go_simp; rfl
      simp only [Act.put, List.setIfInBounds_toArray, List.set_cons_succ, List.set_cons_zero] at ha
      subst ha
      refine wpSeqG_take (by kernel_rfl) (by kernel_rfl) ?_
      apply Exists.intro
      refine ⟨fun wx hS => ?_, fun a' ha => ?_⟩
      · have c0 := Rec.cell_keep hS X1.out (by simp); go_simp; rfl
      simp only [Act.put, List.setIfInBounds_toArray, List.set_cons_succ, List.set_cons_zero] at ha
      subst ha
      refine wpSeqG_take (by kernel_rfl) (by kernel_rfl) ?_
      apply Exists.intro
      refine ⟨fun wx hS => ?_, fun a' ha => ?_⟩
      · go_simp; rfl
      simp only [Act.put, List.setIfInBounds_toArray, List.set_cons_succ, List.set_cons_zero] at ha
      subst ha
      refine wpSeqG_take (by kernel_rfl) (by kernel_rfl) ?_
      apply Exists.intro
      refine ⟨fun wx hS => ?_, fun a' ha => ?_⟩
      · go_simp; rfl
      simp only [Act.put, List.setIfInBounds_toArray, List.set_cons_succ, List.set_cons_zero] at ha
      subst ha
      refine wpSeqG_take (by kernel_rfl) (by kernel_rfl) ?_
      apply Exists.intro
      refine ⟨fun wx hS => ?_, fun a' ha => ?_⟩
      · go_simp; rfl
      simp only [Act.put, List.setIfInBounds_toArray, List.set_cons_succ, List.set_cons_zero] at ha
      subst ha
      refine wpSeqG_take (by kernel_rfl) (by kernel_rfl) ?_
      apply Exists.intro
      refine ⟨fun wx hS => ?_, fun a' ha => ?_⟩
      · have c0 := Rec.cell_keep hS Y3.out (by simp); go_simp; rfl
      simp only [Act.put, List.setIfInBounds_toArray, List.set_cons_succ, List.set_cons_zero] at ha
      subst ha
      refine wpSeqG_take (by kernel_rfl) (by kernel_rfl) ?_
      apply Exists.intro
      refine ⟨fun wx hS => ?_, fun a' ha => ?_⟩
      · go_simp; rfl
      simp only [Act.put, List.setIfInBounds_toArray, List.set_cons_succ, List.set_cons_zero] at ha
      subst ha
      refine wpSeqG_take (by kernel_rfl) (by kernel_rfl) ?_
      apply Exists.intro
      refine ⟨fun wx hS => ?_, fun a' ha => ?_⟩
      · go_simp; rfl
      simp only [Act.put, List.setIfInBounds_toArray, List.set_cons_succ, List.set_cons_zero] at ha
      subst ha
      refine wpSeqG_take (by kernel_rfl) (by kernel_rfl) ?_
      apply Exists.intro
      refine ⟨fun wx hS => ?_, fun a' ha => ?_⟩
      · go_simp; rfl
      simp only [Act.put, List.setIfInBounds_toArray, List.set_cons_succ, List.set_cons_zero] at ha
      subst ha
      unfold wpSeqG
      have s0 := s1
      clear s1
      have UF := hide (U2.out.trans s0)
      clear s0
      go_wp2_with fail
      go_ret
      exact ⟨rfl, UF.out⟩
    · rw [if_neg (fun hh => b1 hh.2)] at hm
      subst hm
      clear b1 hk3
      go_enter Tryz.func35, Tryz.ntmps35
      have hX := blk_new w (setC k slot n r (.slice xo xn xc))
      have hP := blk_alloc HS.out (setC k slot n r (.slice xo xn xc))
      have hu := (Upd.refl [] w).alloc (setC k slot n r (.slice xo xn xc))
      go_upto_region 1 with fail
      generalize w.alloc (setC k slot n r (.slice xo xn xc)) = w2 at *
      obtain ⟨B, hBn⟩ : ∃ B, w.heap.size = B := ⟨_, rfl⟩
      rw [hBn] at hX ⊢
      have x0 : w2.cell? ⟨B, 0, none⟩ = some (.int .u64 (k : Int)) := blk_cell hX rfl
      have x1 : w2.cell? ⟨B, 1, none⟩ = some (.int .u64 (slot : Int)) := blk_cell hX rfl
      have x2 : w2.cell? ⟨B, 2, none⟩ = some (.int .u64 (n : Int)) := blk_cell hX rfl
      have x3 : w2.cell? ⟨B, 3, none⟩ = some (.int .i64 r) := blk_cell hX rfl
      have y1 : w2.cell? ⟨S, 1, none⟩ = some (.int .u64 (s.prom.n : Int)) := blk_cell hP rfl
      have y2 : w2.cell? ⟨S, 2, none⟩ = some (.int .i64 s.prom.r) := blk_cell hP rfl
      have y3 : w2.cell? ⟨S, 3, none⟩ = some (.int .u64 (s.base : Int)) := blk_cell hP rfl
      have X0 := hide x0; have X1 := hide x1; have X2 := hide x2; have X3 := hide x3; have Y1 := hide y1; have Y2 := hide y2; have Y3 := hide y3; have U2 := hide hu
      clear hX hP hu hBn x0 x1 x2 x3 y1 y2 y3
      have s0 : Upd [] w2 (w2.drewN 1) := (Upd.refl [] w2).drewN 1
      refine wp_region_seqG mayOps1 (by kernel_rfl) [21] (fun wx => Upd [] w2 wx) (by kernel_rfl) (by kernel_rfl) (fun _ _ d _ _ h => by cases d <;> exact h) s0 ?_
      refine wpSeqG_take (by kernel_rfl) (by kernel_rfl) ?_
      apply Exists.intro
      refine ⟨fun wx hS => ?_, fun a' ha => ?_⟩
      · go_simp; rfl
      simp only [Act.put, List.setIfInBounds_toArray, List.set_cons_succ, List.set_cons_zero] at ha
      subst ha
      refine wpSeqG_take (by kernel_rfl) (by kernel_rfl) ?_
      apply Exists.intro
      refine ⟨fun wx hS => ?_, fun a' ha => ?_⟩
      · have c0 := Rec.cell_keep hS X0.out (by simp); go_simp; rfl
      simp only [Act.put, List.setIfInBounds_toArray, List.set_cons_succ, List.set_cons_zero] at ha
      subst ha
      refine wpSeqG_take (by kernel_rfl) (by kernel_rfl) ?_
      apply Exists.intro
      refine ⟨fun wx hS => ?_, fun a' ha => ?_⟩
      · go_simp; rfl
      simp only [Act.put, List.setIfInBounds_toArray, List.set_cons_succ, List.set_cons_zero] at ha
      subst ha
      refine wpSeqG_take (by kernel_rfl) (by kernel_rfl) ?_
      apply Exists.intro
      refine ⟨fun wx hS => ?_, fun a' ha => ?_⟩
      · go_simp; rfl
      simp only [Act.put, List.setIfInBounds_toArray, List.set_cons_succ, List.set_cons_zero] at ha
      subst ha
      refine wpSeqG_skip (by kernel_rfl) (fun a' ha => ?_)
      simp only [Act.put, List.setIfInBounds_toArray, List.set_cons_succ, List.set_cons_zero] at ha
      subst ha
      refine wpSeqG_skip (by kernel_rfl) (fun a' ha => ?_)
      simp only [Act.put, List.setIfInBounds_toArray, List.set_cons_succ, List.set_cons_zero] at ha
      subst ha
      refine wpSeqG_skip (by kernel_rfl) (fun a' ha => ?_)
      simp only [Act.put, List.setIfInBounds_toArray, List.set_cons_succ, List.set_cons_zero] at ha
      subst ha
      refine wpSeqG_skip (by kernel_rfl) (fun a' ha => ?_)
      simp only [Act.put, List.setIfInBounds_toArray, List.set_cons_succ, List.set_cons_zero] at ha
      subst ha
      refine wpSeqG_skip (by kernel_rfl) (fun a' ha => ?_)
      simp only [Act.put, List.setIfInBounds_toArray, List.set_cons_succ, List.set_cons_zero] at ha
      subst ha
      refine wpSeqG_skip (by kernel_rfl) (fun a' ha => ?_)
      simp only [Act.put, List.setIfInBounds_toArray, List.set_cons_succ, List.set_cons_zero] at ha
      subst ha
      refine wpSeqG_skip (by kernel_rfl) (fun a' ha => ?_)
      simp only [Act.put, List.setIfInBounds_toArray, List.set_cons_succ, List.set_cons_zero] at ha
      subst ha
      refine wpSeqG_skip (by kernel_rfl) (fun a' ha => ?_)
      simp only [Act.put, List.setIfInBounds_toArray, List.set_cons_succ, List.set_cons_zero] at ha
      subst ha
      refine wpSeqG_skip (by kernel_rfl) (fun a' ha => ?_)
      simp only [Act.put, List.setIfInBounds_toArray, List.set_cons_succ, List.set_cons_zero] at ha
      subst ha
      refine wpSeqG_skip (by kernel_rfl) (fun a' ha => ?_)
      simp only [Act.put, List.setIfInBounds_toArray, List.set_cons_succ, List.set_cons_zero] at ha
      subst ha
      refine wpSeqG_skip (by kernel_rfl) (fun a' ha => ?_)
      simp only [Act.put, List.setIfInBounds_toArray, List.set_cons_succ, List.set_cons_zero] at ha
      subst ha
      refine wpSeqG_skip (by kernel_rfl) (fun a' ha => ?_)
      simp only [Act.put, List.setIfInBounds_toArray, List.set_cons_succ, List.set_cons_zero] at ha
      subst ha
      refine wpSeqG_skip (by kernel_rfl) (fun a' ha => ?_)
      simp only [Act.put, List.setIfInBounds_toArray, List.set_cons_succ, List.set_cons_zero] at ha
      subst ha
      refine wpSeqG_skip (by kernel_rfl) (fun a' ha => ?_)
      simp only [Act.put, List.setIfInBounds_toArray, List.set_cons_succ, List.set_cons_zero] at ha
      subst ha
      refine wpSeqG_skip (by kernel_rfl) (fun a' ha => ?_)
      simp only [Act.put, List.setIfInBounds_toArray, List.set_cons_succ, List.set_cons_zero] at ha
      subst ha
      refine wpSeqG_skip (by kernel_rfl) (fun a' ha => ?_)
      simp only [Act.put, List.setIfInBounds_toArray, List.set_cons_succ, List.set_cons_zero] at ha
      subst ha
      refine wpSeqG_skip (by kernel_rfl) (fun a' ha => ?_)
      simp only [Act.put, List.setIfInBounds_toArray, List.set_cons_succ, List.set_cons_zero] at ha
      subst ha
      refine wpSeqG_skip (by kernel_rfl) (fun a' ha => ?_)
      simp only [Act.put, List.setIfInBounds_toArray, List.set_cons_succ, List.set_cons_zero] at ha
      subst ha
      refine wpSeqG_skip (by kernel_rfl) (fun a' ha => ?_)
      simp only [Act.put, List.setIfInBounds_toArray, List.set_cons_succ, List.set_cons_zero] at ha
      subst ha
      refine wpSeqG_take (by kernel_rfl) (by kernel_rfl) ?_
      apply Exists.intro
      refine ⟨fun wx hS => ?_, fun a' ha => ?_⟩
      · go_simp; rfl
      simp only [Act.put, List.setIfInBounds_toArray, List.set_cons_succ, List.set_cons_zero] at ha
      subst ha
      refine wpSeqG_take (by kernel_rfl) (by kernel_rfl) ?_
      apply Exists.intro
      refine ⟨fun wx hS => ?_, fun a' ha => ?_⟩
      · go_simp; rfl
      simp only [Act.put, List.setIfInBounds_toArray, List.set_cons_succ, List.set_cons_zero] at ha
      subst ha
      unfold wpSeqG
      generalize w2.drewN 1 = w3 at *
      have U3 := hide s0
      go_upto_region 3 with fail
      have s1 : Upd [] w2 (w3.drewN 1) := s0.drewN 1
      clear s0
      refine wp_region_seqG mayOps3 (by kernel_rfl) [] (fun wx => Upd [] w2 wx) (by kernel_rfl) (by kernel_rfl) (fun _ _ d _ _ h => by cases d <;> exact h) s1 ?_
      refine wpSeqG_take (by kernel_rfl) (by kernel_rfl) ?_
      apply Exists.intro
      refine ⟨fun wx hS => ?_, fun a' ha => ?_⟩
      · go_simp; rfl
      simp only [Act.put, List.setIfInBounds_toArray, List.set_cons_succ, List.set_cons_zero] at ha
      subst ha
      refine wpSeqG_take (by kernel_rfl) (by kernel_rfl) ?_
      apply Exists.intro
      refine ⟨fun wx hS => ?_, fun a' ha => ?_⟩
      · have c0 := Rec.cell_keep hS X0.out (by simp); go_simp; rfl
      simp only [Act.put, List.setIfInBounds_toArray, List.set_cons_succ, List.set_cons_zero] at ha
      subst ha
      refine wpSeqG_take (by kernel_rfl) (by kernel_rfl) ?_
      apply Exists.intro
      refine ⟨fun wx hS => ?_, fun a' ha => ?_⟩
      · go_simp; rfl
      simp only [Act.put, List.setIfInBounds_toArray, List.set_cons_succ, List.set_cons_zero] at ha
      subst ha
      refine wpSeqG_take (by kernel_rfl) (by kernel_rfl) ?_
      apply Exists.intro
      refine ⟨fun wx hS => ?_, fun a' ha => ?_⟩
      · go_simp; rfl
      simp only [Act.put, List.setIfInBounds_toArray, List.set_cons_succ, List.set_cons_zero] at ha
      subst ha
      refine wpSeqG_take (by kernel_rfl) (by kernel_rfl) ?_
      apply Exists.intro
      refine ⟨fun wx hS => ?_, fun a' ha => ?_⟩
      · go_simp; rfl
      simp only [Act.put, List.setIfInBounds_toArray, List.set_cons_succ, List.set_cons_zero] at ha
      subst ha
      refine wpSeqG_take (by kernel_rfl) (by kernel_rfl) ?_
      apply Exists.intro
      refine ⟨fun wx hS => ?_, fun a' ha => ?_⟩
      · have c0 := Rec.cell_keep hS X1.out (by simp); go_simp; rfl
      simp only [Act.put, List.setIfInBounds_toArray, List.set_cons_succ, List.set_cons_zero] at ha
      subst ha
      refine wpSeqG_take (by kernel_rfl) (by kernel_rfl) ?_
      apply Exists.intro
      refine ⟨fun wx hS => ?_, fun a' ha => ?_⟩
      · go_simp; rfl
      simp only [Act.put, List.setIfInBounds_toArray, List.set_cons_succ, List.set_cons_zero] at ha
      subst ha
      refine wpSeqG_take (by kernel_rfl) (by kernel_rfl) ?_
      apply Exists.intro
      refine ⟨fun wx hS => ?_, fun a' ha => ?_⟩
      · go_simp; rfl
      simp only [Act.put, List.setIfInBounds_toArray, List.set_cons_succ, List.set_cons_zero] at ha
      subst ha
      refine wpSeqG_take (by kernel_rfl) (by kernel_rfl) ?_
      apply Exists.intro
      refine ⟨fun wx hS => ?_, fun a' ha => ?_⟩
      · go_simp; rfl
      simp only [Act.put, List.setIfInBounds_toArray, List.set_cons_succ, List.set_cons_zero] at ha
      subst ha
      refine wpSeqG_take (by kernel_rfl) (by kernel_rfl) ?_
      apply Exists.intro
      refine ⟨fun wx hS => ?_, fun a' ha => ?_⟩
      · have c0 := Rec.cell_keep hS Y3.out (by simp); go_simp; rfl
      simp only [Act.put, List.setIfInBounds_toArray, List.set_cons_succ, List.set_cons_zero] at ha
      subst ha
      refine wpSeqG_take (by kernel_rfl) (by kernel_rfl) ?_
      apply Exists.intro
      refine ⟨fun wx hS => ?_, fun a' ha => ?_⟩
      · go_simp; rfl
      simp only [Act.put, List.setIfInBounds_toArray, List.set_cons_succ, List.set_cons_zero] at ha
      subst ha
      refine wpSeqG_take (by kernel_rfl) (by kernel_rfl) ?_
      apply Exists.intro
      refine ⟨fun wx hS => ?_, fun a' ha => ?_⟩
      · go_simp; rfl
      simp only [Act.put, List.setIfInBounds_toArray, List.set_cons_succ, List.set_cons_zero] at ha
      subst ha
      refine wpSeqG_take (by kernel_rfl) (by kernel_rfl) ?_
      apply Exists.intro
      refine ⟨fun wx hS => ?_, fun a' ha => ?_⟩
      · go_simp; rfl
      simp only [Act.put, List.setIfInBounds_toArray, List.set_cons_succ, List.set_cons_zero] at ha
      subst ha
      unfold wpSeqG
      have s0 := s1
      clear s1
      have UF := hide (U2.out.trans s0)
      clear s0
      go_wp2_with fail
      go_ret
      exact ⟨rfl, UF.out⟩
  · have q3 : ((k : Int) != 3) = true := by simp; omega
    by_cases hr : r < 0
    · have r1 : decide (r < 0) = true := by simpa using hr
      rw [if_pos ⟨hk3, .inl hr⟩] at hm
      subst hm
      clear hk3 hr HC
      go_enter Tryz.func35, Tryz.ntmps35
      have hX := blk_new w (setC k slot n r (.slice xo xn xc))
      have hP := blk_alloc HS.out (setC k slot n r (.slice xo xn xc))
      have hu := (Upd.refl [] w).alloc (setC k slot n r (.slice xo xn xc))
      go_upto_region 1 with fail
      generalize w.alloc (setC k slot n r (.slice xo xn xc)) = w2 at *
      obtain ⟨B, hBn⟩ : ∃ B, w.heap.size = B := ⟨_, rfl⟩
      rw [hBn] at hX ⊢
      have x0 : w2.cell? ⟨B, 0, none⟩ = some (.int .u64 (k : Int)) := blk_cell hX rfl
      have x1 : w2.cell? ⟨B, 1, none⟩ = some (.int .u64 (slot : Int)) := blk_cell hX rfl
      have x2 : w2.cell? ⟨B, 2, none⟩ = some (.int .u64 (n : Int)) := blk_cell hX rfl
      have x3 : w2.cell? ⟨B, 3, none⟩ = some (.int .i64 r) := blk_cell hX rfl
      have y1 : w2.cell? ⟨S, 1, none⟩ = some (.int .u64 (s.prom.n : Int)) := blk_cell hP rfl
      have y2 : w2.cell? ⟨S, 2, none⟩ = some (.int .i64 s.prom.r) := blk_cell hP rfl
      have y3 : w2.cell? ⟨S, 3, none⟩ = some (.int .u64 (s.base : Int)) := blk_cell hP rfl
      have X0 := hide x0; have X1 := hide x1; have X2 := hide x2; have X3 := hide x3; have Y1 := hide y1; have Y2 := hide y2; have Y3 := hide y3; have U2 := hide hu
      clear hX hP hu hBn x0 x1 x2 x3 y1 y2 y3
      have s0 : Upd [] w2 (w2.drewN 1) := (Upd.refl [] w2).drewN 1
      refine wp_region_seqG mayOps1 (by kernel_rfl) [21] (fun wx => Upd [] w2 wx) (by kernel_rfl) (by kernel_rfl) (fun _ _ d _ _ h => by cases d <;> exact h) s0 ?_
      refine wpSeqG_take (by kernel_rfl) (by kernel_rfl) ?_
      apply Exists.intro
      refine ⟨fun wx hS => ?_, fun a' ha => ?_⟩
      · go_simp; rfl
      simp only [Act.put, List.setIfInBounds_toArray, List.set_cons_succ, List.set_cons_zero] at ha
      subst ha
      refine wpSeqG_take (by kernel_rfl) (by kernel_rfl) ?_
      apply Exists.intro
      refine ⟨fun wx hS => ?_, fun a' ha => ?_⟩
      · have c0 := Rec.cell_keep hS X0.out (by simp); go_simp; rfl
      simp only [Act.put, List.setIfInBounds_toArray, List.set_cons_succ, List.set_cons_zero] at ha
      subst ha
      refine wpSeqG_take (by kernel_rfl) (by kernel_rfl) ?_
      apply Exists.intro
      refine ⟨fun wx hS => ?_, fun a' ha => ?_⟩
      · go_simp; rfl
      simp only [Act.put, List.setIfInBounds_toArray, List.set_cons_succ, List.set_cons_zero] at ha
      subst ha
      refine wpSeqG_take (by kernel_rfl) (by kernel_rfl) ?_
      apply Exists.intro
      refine ⟨fun wx hS => ?_, fun a' ha => ?_⟩
      · go_simp; rfl
      simp only [Act.put, List.setIfInBounds_toArray, List.set_cons_succ, List.set_cons_zero] at ha
      subst ha
      refine wpSeqG_take (by kernel_rfl) (by kernel_rfl) ?_
      apply Exists.intro
      refine ⟨fun wx hS => ?_, fun a' ha => ?_⟩
      · go_simp; rfl
      simp only [Act.put, List.setIfInBounds_toArray, List.set_cons_succ, List.set_cons_zero] at ha
      subst ha
      refine wpSeqG_take (by kernel_rfl) (by kernel_rfl) ?_
      apply Exists.intro
      refine ⟨fun wx hS => ?_, fun a' ha => ?_⟩
      · go_simp; rfl
      simp only [Act.put, List.setIfInBounds_toArray, List.set_cons_succ, List.set_cons_zero] at ha
      subst ha
      refine wpSeqG_take (by kernel_rfl) (by kernel_rfl) ?_
      apply Exists.intro
      refine ⟨fun wx hS => ?_, fun a' ha => ?_⟩
      · have c0 := Rec.cell_keep hS X3.out (by simp); go_simp; rfl
      simp only [Act.put, List.setIfInBounds_toArray, List.set_cons_succ, List.set_cons_zero] at ha
      subst ha
      refine wpSeqG_take (by kernel_rfl) (by kernel_rfl) ?_
      apply Exists.intro
      refine ⟨fun wx hS => ?_, fun a' ha => ?_⟩
      · go_simp; rfl
      simp only [Act.put, List.setIfInBounds_toArray, List.set_cons_succ, List.set_cons_zero] at ha
      subst ha
      refine wpSeqG_take (by kernel_rfl) (by kernel_rfl) ?_
      apply Exists.intro
      refine ⟨fun wx hS => ?_, fun a' ha => ?_⟩
      · go_simp; rfl
      simp only [Act.put, List.setIfInBounds_toArray, List.set_cons_succ, List.set_cons_zero] at ha
      subst ha
      refine wpSeqG_skip (by kernel_rfl) (fun a' ha => ?_)
      simp only [Act.put, List.setIfInBounds_toArray, List.set_cons_succ, List.set_cons_zero] at ha
      subst ha
      refine wpSeqG_skip (by kernel_rfl) (fun a' ha => ?_)
      simp only [Act.put, List.setIfInBounds_toArray, List.set_cons_succ, List.set_cons_zero] at ha
      subst ha
      refine wpSeqG_skip (by kernel_rfl) (fun a' ha => ?_)
      simp only [Act.put, List.setIfInBounds_toArray, List.set_cons_succ, List.set_cons_zero] at ha
      subst ha
      refine wpSeqG_skip (by kernel_rfl) (fun a' ha => ?_)
      simp only [Act.put, List.setIfInBounds_toArray, List.set_cons_succ, List.set_cons_zero] at ha
      subst ha
      refine wpSeqG_take (by kernel_rfl) (by kernel_rfl) ?_
      apply Exists.intro
      refine ⟨fun wx hS => ?_, fun a' ha => ?_⟩
      · go_simp; rfl
      simp only [Act.put, List.setIfInBounds_toArray, List.set_cons_succ, List.set_cons_zero] at ha
      subst ha
      refine wpSeqG_take (by kernel_rfl) (by kernel_rfl) ?_
      apply Exists.intro
      refine ⟨fun wx hS => ?_, fun a' ha => ?_⟩
      · go_simp; rfl
      simp only [Act.put, List.setIfInBounds_toArray, List.set_cons_succ, List.set_cons_zero] at ha
      subst ha
      refine wpSeqG_skip (by kernel_rfl) (fun a' ha => ?_)
      simp only [Act.put, List.setIfInBounds_toArray, List.set_cons_succ, List.set_cons_zero] at ha
      subst ha
      refine wpSeqG_skip (by kernel_rfl) (fun a' ha => ?_)
      simp only [Act.put, List.setIfInBounds_toArray, List.set_cons_succ, List.set_cons_zero] at ha
      subst ha
      refine wpSeqG_skip (by kernel_rfl) (fun a' ha => ?_)
      simp only [Act.put, List.setIfInBounds_toArray, List.set_cons_succ, List.set_cons_zero] at ha
      subst ha
      refine wpSeqG_skip (by kernel_rfl) (fun a' ha => ?_)
      simp only [Act.put, List.setIfInBounds_toArray, List.set_cons_succ, List.set_cons_zero] at ha
      subst ha
      refine wpSeqG_skip (by kernel_rfl) (fun a' ha => ?_)
      simp only [Act.put, List.setIfInBounds_toArray, List.set_cons_succ, List.set_cons_zero] at ha
      subst ha
      refine wpSeqG_skip (by kernel_rfl) (fun a' ha => ?_)
      simp only [Act.put, List.setIfInBounds_toArray, List.set_cons_succ, List.set_cons_zero] at ha
      subst ha
      refine wpSeqG_skip (by kernel_rfl) (fun a' ha => ?_)
      simp only [Act.put, List.setIfInBounds_toArray, List.set_cons_succ, List.set_cons_zero] at ha
      subst ha
      refine wpSeqG_take (by kernel_rfl) (by kernel_rfl) ?_
      apply Exists.intro
      refine ⟨fun wx hS => ?_, fun a' ha => ?_⟩
      · go_simp; rfl
      simp only [Act.put, List.setIfInBounds_toArray, List.set_cons_succ, List.set_cons_zero] at ha
      subst ha
      refine wpSeqG_take (by kernel_rfl) (by kernel_rfl) ?_
      apply Exists.intro
      refine ⟨fun wx hS => ?_, fun a' ha => ?_⟩
      · go_simp; rfl
      simp only [Act.put, List.setIfInBounds_toArray, List.set_cons_succ, List.set_cons_zero] at ha
      subst ha
      refine wpSeqG_take (by kernel_rfl) (by kernel_rfl) ?_
      apply Exists.intro
      refine ⟨fun wx hS => ?_, fun a' ha => ?_⟩
      · go_simp; rfl
      simp only [Act.put, List.setIfInBounds_toArray, List.set_cons_succ, List.set_cons_zero] at ha
      subst ha
      unfold wpSeqG
      have UF := hide (U2.out.trans s0)
      clear s0
      go_wp2_with fail
      go_ret
      exact ⟨rfl, UF.out⟩
    · have r1 : decide (r < 0) = false := by simpa using hr
      by_cases hb : 7 ≤ r
      · have r2 : decide (r ≥ 7) = true := by simpa using hb
        have r3 : decide (7 ≤ r) = true := by simpa using hb
        rw [if_pos ⟨hk3, .inr (.inl hb)⟩] at hm
        subst hm
        clear hk3 hr hb HC
        go_enter Tryz.func35, Tryz.ntmps35
        have hX := blk_new w (setC k slot n r (.slice xo xn xc))
        have hP := blk_alloc HS.out (setC k slot n r (.slice xo xn xc))
        have hu := (Upd.refl [] w).alloc (setC k slot n r (.slice xo xn xc))
        go_upto_region 1 with fail
        generalize w.alloc (setC k slot n r (.slice xo xn xc)) = w2 at *
        obtain ⟨B, hBn⟩ : ∃ B, w.heap.size = B := ⟨_, rfl⟩
        rw [hBn] at hX ⊢
        have x0 : w2.cell? ⟨B, 0, none⟩ = some (.int .u64 (k : Int)) := blk_cell hX rfl
        have x1 : w2.cell? ⟨B, 1, none⟩ = some (.int .u64 (slot : Int)) := blk_cell hX rfl
        have x2 : w2.cell? ⟨B, 2, none⟩ = some (.int .u64 (n : Int)) := blk_cell hX rfl
        have x3 : w2.cell? ⟨B, 3, none⟩ = some (.int .i64 r) := blk_cell hX rfl
        have y1 : w2.cell? ⟨S, 1, none⟩ = some (.int .u64 (s.prom.n : Int)) := blk_cell hP rfl
        have y2 : w2.cell? ⟨S, 2, none⟩ = some (.int .i64 s.prom.r) := blk_cell hP rfl
        have y3 : w2.cell? ⟨S, 3, none⟩ = some (.int .u64 (s.base : Int)) := blk_cell hP rfl
        have X0 := hide x0; have X1 := hide x1; have X2 := hide x2; have X3 := hide x3; have Y1 := hide y1; have Y2 := hide y2; have Y3 := hide y3; have U2 := hide hu
        clear hX hP hu hBn x0 x1 x2 x3 y1 y2 y3
        have s0 : Upd [] w2 (w2.drewN 1) := (Upd.refl [] w2).drewN 1
        refine wp_region_seqG mayOps1 (by kernel_rfl) [21] (fun wx => Upd [] w2 wx) (by kernel_rfl) (by kernel_rfl) (fun _ _ d _ _ h => by cases d <;> exact h) s0 ?_
        refine wpSeqG_take (by kernel_rfl) (by kernel_rfl) ?_
        apply Exists.intro
        refine ⟨fun wx hS => ?_, fun a' ha => ?_⟩
        · go_simp; rfl
        simp only [Act.put, List.setIfInBounds_toArray, List.set_cons_succ, List.set_cons_zero] at ha
        subst ha
        refine wpSeqG_take (by kernel_rfl) (by kernel_rfl) ?_
        apply Exists.intro
        refine ⟨fun wx hS => ?_, fun a' ha => ?_⟩
        · have c0 := Rec.cell_keep hS X0.out (by simp); go_simp; rfl
        simp only [Act.put, List.setIfInBounds_toArray, List.set_cons_succ, List.set_cons_zero] at ha
        subst ha
        refine wpSeqG_take (by kernel_rfl) (by kernel_rfl) ?_
        apply Exists.intro
        refine ⟨fun wx hS => ?_, fun a' ha => ?_⟩
        · go_simp; rfl
        simp only [Act.put, List.setIfInBounds_toArray, List.set_cons_succ, List.set_cons_zero] at ha
        subst ha
        refine wpSeqG_take (by kernel_rfl) (by kernel_rfl) ?_
        apply Exists.intro
        refine ⟨fun wx hS => ?_, fun a' ha => ?_⟩
        · go_simp; rfl
        simp only [Act.put, List.setIfInBounds_toArray, List.set_cons_succ, List.set_cons_zero] at ha
        subst ha
        refine wpSeqG_take (by kernel_rfl) (by kernel_rfl) ?_
        apply Exists.intro
        refine ⟨fun wx hS => ?_, fun a' ha => ?_⟩
        · go_simp; rfl
        simp only [Act.put, List.setIfInBounds_toArray, List.set_cons_succ, List.set_cons_zero] at ha
        subst ha
        refine wpSeqG_take (by kernel_rfl) (by kernel_rfl) ?_
        apply Exists.intro
        refine ⟨fun wx hS => ?_, fun a' ha => ?_⟩
        · go_simp; rfl
        simp only [Act.put, List.setIfInBounds_toArray, List.set_cons_succ, List.set_cons_zero] at ha
        subst ha
        refine wpSeqG_take (by kernel_rfl) (by kernel_rfl) ?_
        apply Exists.intro
        refine ⟨fun wx hS => ?_, fun a' ha => ?_⟩
        · have c0 := Rec.cell_keep hS X3.out (by simp); go_simp; rfl
        simp only [Act.put, List.setIfInBounds_toArray, List.set_cons_succ, List.set_cons_zero] at ha
        subst ha
        refine wpSeqG_take (by kernel_rfl) (by kernel_rfl) ?_
        apply Exists.intro
        refine ⟨fun wx hS => ?_, fun a' ha => ?_⟩
        · go_simp; rfl
        simp only [Act.put, List.setIfInBounds_toArray, List.set_cons_succ, List.set_cons_zero] at ha
        subst ha
        refine wpSeqG_take (by kernel_rfl) (by kernel_rfl) ?_
        apply Exists.intro
        refine ⟨fun wx hS => ?_, fun a' ha => ?_⟩
        · go_simp; rfl
        simp only [Act.put, List.setIfInBounds_toArray, List.set_cons_succ, List.set_cons_zero] at ha
        subst ha
        refine wpSeqG_take (by kernel_rfl) (by kernel_rfl) ?_
        apply Exists.intro
        refine ⟨fun wx hS => ?_, fun a' ha => ?_⟩
        · go_simp; rfl
        simp only [Act.put, List.setIfInBounds_toArray, List.set_cons_succ, List.set_cons_zero] at ha
        subst ha
        refine wpSeqG_take (by kernel_rfl) (by kernel_rfl) ?_
        apply Exists.intro
        refine ⟨fun wx hS => ?_, fun a' ha => ?_⟩
        · go_simp; rfl
        simp only [Act.put, List.setIfInBounds_toArray, List.set_cons_succ, List.set_cons_zero] at ha
        subst ha
        refine wpSeqG_take (by kernel_rfl) (by kernel_rfl) ?_
        apply Exists.intro
        refine ⟨fun wx hS => ?_, fun a' ha => ?_⟩
        · have c0 := Rec.cell_keep hS X3.out (by simp); go_simp; rfl
        simp only [Act.put, List.setIfInBounds_toArray, List.set_cons_succ, List.set_cons_zero] at ha
        subst ha
        refine wpSeqG_take (by kernel_rfl) (by kernel_rfl) ?_
        apply Exists.intro
        refine ⟨fun wx hS => ?_, fun a' ha => ?_⟩
        · go_simp; rfl
        simp only [Act.put, List.setIfInBounds_toArray, List.set_cons_succ, List.set_cons_zero] at ha
        subst ha
        refine wpSeqG_take (by kernel_rfl) (by kernel_rfl) ?_
        apply Exists.intro
        refine ⟨fun wx hS => ?_, fun a' ha => ?_⟩
        · go_simp; rfl
        simp only [Act.put, List.setIfInBounds_toArray, List.set_cons_succ, List.set_cons_zero] at ha
        subst ha
        refine wpSeqG_take (by kernel_rfl) (by kernel_rfl) ?_
        apply Exists.intro
        refine ⟨fun wx hS => ?_, fun a' ha => ?_⟩
        · go_simp; rfl
        simp only [Act.put, List.setIfInBounds_toArray, List.set_cons_succ, List.set_cons_zero] at ha
        subst ha
        refine wpSeqG_skip (by kernel_rfl) (fun a' ha => ?_)
        simp only [Act.put, List.setIfInBounds_toArray, List.set_cons_succ, List.set_cons_zero] at ha
        subst ha
        refine wpSeqG_skip (by kernel_rfl) (fun a' ha => ?_)
        simp only [Act.put, List.setIfInBounds_toArray, List.set_cons_succ, List.set_cons_zero] at ha
        subst ha
        refine wpSeqG_skip (by kernel_rfl) (fun a' ha => ?_)
        simp only [Act.put, List.setIfInBounds_toArray, List.set_cons_succ, List.set_cons_zero] at ha
        subst ha
        refine wpSeqG_skip (by kernel_rfl) (fun a' ha => ?_)
        simp only [Act.put, List.setIfInBounds_toArray, List.set_cons_succ, List.set_cons_zero] at ha
        subst ha
        refine wpSeqG_skip (by kernel_rfl) (fun a' ha => ?_)
        simp only [Act.put, List.setIfInBounds_toArray, List.set_cons_succ, List.set_cons_zero] at ha
        subst ha
        refine wpSeqG_skip (by kernel_rfl) (fun a' ha => ?_)
        simp only [Act.put, List.setIfInBounds_toArray, List.set_cons_succ, List.set_cons_zero] at ha
        subst ha
        refine wpSeqG_skip (by kernel_rfl) (fun a' ha => ?_)
        simp only [Act.put, List.setIfInBounds_toArray, List.set_cons_succ, List.set_cons_zero] at ha
        subst ha
        refine wpSeqG_take (by kernel_rfl) (by kernel_rfl) ?_
        apply Exists.intro
        refine ⟨fun wx hS => ?_, fun a' ha => ?_⟩
        · go_simp; rfl
        simp only [Act.put, List.setIfInBounds_toArray, List.set_cons_succ, List.set_cons_zero] at ha
        subst ha
        refine wpSeqG_take (by kernel_rfl) (by kernel_rfl) ?_
        apply Exists.intro
        refine ⟨fun wx hS => ?_, fun a' ha => ?_⟩
        · go_simp; rfl
        simp only [Act.put, List.setIfInBounds_toArray, List.set_cons_succ, List.set_cons_zero] at ha
        subst ha
        refine wpSeqG_take (by kernel_rfl) (by kernel_rfl) ?_
        apply Exists.intro
        refine ⟨fun wx hS => ?_, fun a' ha => ?_⟩
        · go_simp; rfl
        simp only [Act.put, List.setIfInBounds_toArray, List.set_cons_succ, List.set_cons_zero] at ha
        subst ha
        unfold wpSeqG
        have UF := hide (U2.out.trans s0)
        clear s0
        go_wp2_with fail
        go_ret
        exact ⟨rfl, UF.out⟩
      · have r2 : decide (r ≥ 7) = false := by simpa using hb
        have r3 : decide (7 ≤ r) = false := by simpa using hb
        by_cases hl : bLess ⟨n, r⟩ s.prom
        · have LE := hide (decide_eq_true hl)
          rw [if_pos ⟨hk3, .inr (.inr hl)⟩] at hm
          subst hm
          clear hk3 hr hb HC hl
          go_enter Tryz.func35, Tryz.ntmps35
          have hX := blk_new w (setC k slot n r (.slice xo xn xc))
          have hP := blk_alloc HS.out (setC k slot n r (.slice xo xn xc))
          have hu := (Upd.refl [] w).alloc (setC k slot n r (.slice xo xn xc))
          go_upto_region 1 with fail
          generalize w.alloc (setC k slot n r (.slice xo xn xc)) = w2 at *
          obtain ⟨B, hBn⟩ : ∃ B, w.heap.size = B := ⟨_, rfl⟩
          rw [hBn] at hX ⊢
          have x0 : w2.cell? ⟨B, 0, none⟩ = some (.int .u64 (k : Int)) := blk_cell hX rfl
          have x1 : w2.cell? ⟨B, 1, none⟩ = some (.int .u64 (slot : Int)) := blk_cell hX rfl
          have x2 : w2.cell? ⟨B, 2, none⟩ = some (.int .u64 (n : Int)) := blk_cell hX rfl
          have x3 : w2.cell? ⟨B, 3, none⟩ = some (.int .i64 r) := blk_cell hX rfl
          have y1 : w2.cell? ⟨S, 1, none⟩ = some (.int .u64 (s.prom.n : Int)) := blk_cell hP rfl
          have y2 : w2.cell? ⟨S, 2, none⟩ = some (.int .i64 s.prom.r) := blk_cell hP rfl
          have y3 : w2.cell? ⟨S, 3, none⟩ = some (.int .u64 (s.base : Int)) := blk_cell hP rfl
          have X0 := hide x0; have X1 := hide x1; have X2 := hide x2; have X3 := hide x3; have Y1 := hide y1; have Y2 := hide y2; have Y3 := hide y3; have U2 := hide hu
          clear hX hP hu hBn x0 x1 x2 x3 y1 y2 y3
          have s0 : Upd [] w2 (w2.drewN 1) := (Upd.refl [] w2).drewN 1
          refine wp_region_seqG mayOps1 (by kernel_rfl) [21] (fun wx => Upd [] w2 wx) (by kernel_rfl) (by kernel_rfl) (fun _ _ d _ _ h => by cases d <;> exact h) s0 ?_
          refine wpSeqG_take (by kernel_rfl) (by kernel_rfl) ?_
          apply Exists.intro
          refine ⟨fun wx hS => ?_, fun a' ha => ?_⟩
          · go_simp; rfl
          simp only [Act.put, List.setIfInBounds_toArray, List.set_cons_succ, List.set_cons_zero] at ha
          subst ha
          refine wpSeqG_take (by kernel_rfl) (by kernel_rfl) ?_
          apply Exists.intro
          refine ⟨fun wx hS => ?_, fun a' ha => ?_⟩
          · have c0 := Rec.cell_keep hS X0.out (by simp); go_simp; rfl
          simp only [Act.put, List.setIfInBounds_toArray, List.set_cons_succ, List.set_cons_zero] at ha
          subst ha
          refine wpSeqG_take (by kernel_rfl) (by kernel_rfl) ?_
          apply Exists.intro
          refine ⟨fun wx hS => ?_, fun a' ha => ?_⟩
          · go_simp; rfl
          simp only [Act.put, List.setIfInBounds_toArray, List.set_cons_succ, List.set_cons_zero] at ha
          subst ha
          refine wpSeqG_take (by kernel_rfl) (by kernel_rfl) ?_
          apply Exists.intro
          refine ⟨fun wx hS => ?_, fun a' ha => ?_⟩
          · go_simp; rfl
          simp only [Act.put, List.setIfInBounds_toArray, List.set_cons_succ, List.set_cons_zero] at ha
          subst ha
          refine wpSeqG_take (by kernel_rfl) (by kernel_rfl) ?_
          apply Exists.intro
          refine ⟨fun wx hS => ?_, fun a' ha => ?_⟩
          · go_simp; rfl
          simp only [Act.put, List.setIfInBounds_toArray, List.set_cons_succ, List.set_cons_zero] at ha
          subst ha
          refine wpSeqG_take (by kernel_rfl) (by kernel_rfl) ?_
          apply Exists.intro
          refine ⟨fun wx hS => ?_, fun a' ha => ?_⟩
          · go_simp; rfl
          simp only [Act.put, List.setIfInBounds_toArray, List.set_cons_succ, List.set_cons_zero] at ha
          subst ha
          refine wpSeqG_take (by kernel_rfl) (by kernel_rfl) ?_
          apply Exists.intro
          refine ⟨fun wx hS => ?_, fun a' ha => ?_⟩
          · have c0 := Rec.cell_keep hS X3.out (by simp); go_simp; rfl
          simp only [Act.put, List.setIfInBounds_toArray, List.set_cons_succ, List.set_cons_zero] at ha
          subst ha
          refine wpSeqG_take (by kernel_rfl) (by kernel_rfl) ?_
          apply Exists.intro
          refine ⟨fun wx hS => ?_, fun a' ha => ?_⟩
          · go_simp; rfl
          simp only [Act.put, List.setIfInBounds_toArray, List.set_cons_succ, List.set_cons_zero] at ha
          subst ha
          refine wpSeqG_take (by kernel_rfl) (by kernel_rfl) ?_
          apply Exists.intro
          refine ⟨fun wx hS => ?_, fun a' ha => ?_⟩
          · go_simp; rfl
          simp only [Act.put, List.setIfInBounds_toArray, List.set_cons_succ, List.set_cons_zero] at ha
          subst ha
          refine wpSeqG_take (by kernel_rfl) (by kernel_rfl) ?_
          apply Exists.intro
          refine ⟨fun wx hS => ?_, fun a' ha => ?_⟩
          · go_simp; rfl
          simp only [Act.put, List.setIfInBounds_toArray, List.set_cons_succ, List.set_cons_zero] at ha
          subst ha
          refine wpSeqG_take (by kernel_rfl) (by kernel_rfl) ?_
          apply Exists.intro
          refine ⟨fun wx hS => ?_, fun a' ha => ?_⟩
          · go_simp; rfl
          simp only [Act.put, List.setIfInBounds_toArray, List.set_cons_succ, List.set_cons_zero] at ha
          subst ha
          refine wpSeqG_take (by kernel_rfl) (by kernel_rfl) ?_
          apply Exists.intro
          refine ⟨fun wx hS => ?_, fun a' ha => ?_⟩
          · have c0 := Rec.cell_keep hS X3.out (by simp); go_simp; rfl
          simp only [Act.put, List.setIfInBounds_toArray, List.set_cons_succ, List.set_cons_zero] at ha
          subst ha
          refine wpSeqG_take (by kernel_rfl) (by kernel_rfl) ?_
          apply Exists.intro
          refine ⟨fun wx hS => ?_, fun a' ha => ?_⟩
          · go_simp; rfl
          simp only [Act.put, List.setIfInBounds_toArray, List.set_cons_succ, List.set_cons_zero] at ha
          subst ha
          refine wpSeqG_take (by kernel_rfl) (by kernel_rfl) ?_
          apply Exists.intro
          refine ⟨fun wx hS => ?_, fun a' ha => ?_⟩
          · go_simp; rfl
          simp only [Act.put, List.setIfInBounds_toArray, List.set_cons_succ, List.set_cons_zero] at ha
          subst ha
          refine wpSeqG_take (by kernel_rfl) (by kernel_rfl) ?_
          apply Exists.intro
          refine ⟨fun wx hS => ?_, fun a' ha => ?_⟩
          · go_simp; rfl
          simp only [Act.put, List.setIfInBounds_toArray, List.set_cons_succ, List.set_cons_zero] at ha
          subst ha
          refine wpSeqG_take (by kernel_rfl) (by kernel_rfl) ?_
          apply Exists.intro
          refine ⟨fun wx hS => ?_, fun a' ha => ?_⟩
          · go_simp; rfl
          simp only [Act.put, List.setIfInBounds_toArray, List.set_cons_succ, List.set_cons_zero] at ha
          subst ha
          refine wpSeqG_take (by kernel_rfl) (by kernel_rfl) ?_
          apply Exists.intro
          refine ⟨fun wx hS => ?_, fun a' ha => ?_⟩
          · have c0 := Rec.cell_keep hS X2.out (by simp);have c1 := Rec.cell_keep hS X3.out (by simp); go_simp; rfl
          simp only [Act.put, List.setIfInBounds_toArray, List.set_cons_succ, List.set_cons_zero] at ha
          subst ha
          refine wpSeqG_take (by kernel_rfl) (by kernel_rfl) ?_
          apply Exists.intro
          refine ⟨fun wx hS => ?_, fun a' ha => ?_⟩
          · go_simp; rfl
          simp only [Act.put, List.setIfInBounds_toArray, List.set_cons_succ, List.set_cons_zero] at ha
          subst ha
          refine wpSeqG_take (by kernel_rfl) (by kernel_rfl) ?_
          apply Exists.intro
          refine ⟨fun wx hS => ?_, fun a' ha => ?_⟩
          · go_simp; rfl
          simp only [Act.put, List.setIfInBounds_toArray, List.set_cons_succ, List.set_cons_zero] at ha
          subst ha
          refine wpSeqG_take (by kernel_rfl) (by kernel_rfl) ?_
          apply Exists.intro
          refine ⟨fun wx hS => ?_, fun a' ha => ?_⟩
          · go_simp; rfl
          simp only [Act.put, List.setIfInBounds_toArray, List.set_cons_succ, List.set_cons_zero] at ha
          subst ha
          refine wpSeqG_take (by kernel_rfl) (by kernel_rfl) ?_
          apply Exists.intro
          refine ⟨fun wx hS => ?_, fun a' ha => ?_⟩
          · have c0 := Rec.cell_keep hS Y1.out (by simp);have c1 := Rec.cell_keep hS Y2.out (by simp); go_simp; rfl
          simp only [Act.put, List.setIfInBounds_toArray, List.set_cons_succ, List.set_cons_zero] at ha
          subst ha
          refine wpSeqG_one (by kernel_rfl) (by kernel_rfl) (fun K hK => ?_)
          go_simp
          have hless := less_any ⟨n, r⟩ s.prom (w2.drewN 1)
          rw [LE.out] at hless
          refine hless.mono ?_
          rintro e w4 ⟨rfl, hu4⟩
          have s1 := s0.trans hu4
          clear hu4 hless s0
          refine hK _ _ (s1) ?_
          clear hK K
          try simp only [Act.put, List.setIfInBounds_toArray, List.set_cons_succ, List.set_cons_zero]
          refine wpSeqG_take (by kernel_rfl) (by kernel_rfl) ?_
          apply Exists.intro
          refine ⟨fun wx hS => ?_, fun a' ha => ?_⟩
          · go_simp; rfl
          simp only [Act.put, List.setIfInBounds_toArray, List.set_cons_succ, List.set_cons_zero] at ha
          subst ha
          refine wpSeqG_take (by kernel_rfl) (by kernel_rfl) ?_
          apply Exists.intro
          refine ⟨fun wx hS => ?_, fun a' ha => ?_⟩
          · go_simp; rfl
          simp only [Act.put, List.setIfInBounds_toArray, List.set_cons_succ, List.set_cons_zero] at ha
          subst ha
          refine wpSeqG_take (by kernel_rfl) (by kernel_rfl) ?_
          apply Exists.intro
          refine ⟨fun wx hS => ?_, fun a' ha => ?_⟩
          · go_simp; rfl
          simp only [Act.put, List.setIfInBounds_toArray, List.set_cons_succ, List.set_cons_zero] at ha
          subst ha
          unfold wpSeqG
          have s0 := s1
          clear s1
          have UF := hide (U2.out.trans s0)
          clear s0
          go_wp2_with fail
          go_ret
          exact ⟨rfl, UF.out⟩
        · have LE := hide (decide_eq_false hl)
          rw [if_neg (fun hh => by rcases hh.2 with h1 | h1 | h1 <;> contradiction)] at hm
          by_cases hk1 : k = 1
          · have q1 : ((k : Int) != 1) = false := by simp; omega
            rw [if_neg (fun hh => hh.1 hk1)] at hm
            subst hm
            clear hk3 hr hb HC hl hk1
            go_enter Tryz.func35, Tryz.ntmps35
            have hX := blk_new w (setC k slot n r (.slice xo xn xc))
            have hP := blk_alloc HS.out (setC k slot n r (.slice xo xn xc))
            have hu := (Upd.refl [] w).alloc (setC k slot n r (.slice xo xn xc))
            go_upto_region 1 with fail
            generalize w.alloc (setC k slot n r (.slice xo xn xc)) = w2 at *
            obtain ⟨B, hBn⟩ : ∃ B, w.heap.size = B := ⟨_, rfl⟩
            rw [hBn] at hX ⊢
            have x0 : w2.cell? ⟨B, 0, none⟩ = some (.int .u64 (k : Int)) := blk_cell hX rfl
            have x1 : w2.cell? ⟨B, 1, none⟩ = some (.int .u64 (slot : Int)) := blk_cell hX rfl
            have x2 : w2.cell? ⟨B, 2, none⟩ = some (.int .u64 (n : Int)) := blk_cell hX rfl
            have x3 : w2.cell? ⟨B, 3, none⟩ = some (.int .i64 r) := blk_cell hX rfl
            have y1 : w2.cell? ⟨S, 1, none⟩ = some (.int .u64 (s.prom.n : Int)) := blk_cell hP rfl
            have y2 : w2.cell? ⟨S, 2, none⟩ = some (.int .i64 s.prom.r) := blk_cell hP rfl
            have y3 : w2.cell? ⟨S, 3, none⟩ = some (.int .u64 (s.base : Int)) := blk_cell hP rfl
            have X0 := hide x0; have X1 := hide x1; have X2 := hide x2; have X3 := hide x3; have Y1 := hide y1; have Y2 := hide y2; have Y3 := hide y3; have U2 := hide hu
            clear hX hP hu hBn x0 x1 x2 x3 y1 y2 y3
            have s0 : Upd [] w2 (w2.drewN 1) := (Upd.refl [] w2).drewN 1
            refine wp_region_seqG mayOps1 (by kernel_rfl) [21] (fun wx => Upd [] w2 wx) (by kernel_rfl) (by kernel_rfl) (fun _ _ d _ _ h => by cases d <;> exact h) s0 ?_
            refine wpSeqG_take (by kernel_rfl) (by kernel_rfl) ?_
            apply Exists.intro
            refine ⟨fun wx hS => ?_, fun a' ha => ?_⟩
            · go_simp; rfl
            simp only [Act.put, List.setIfInBounds_toArray, List.set_cons_succ, List.set_cons_zero] at ha
            subst ha
            refine wpSeqG_take (by kernel_rfl) (by kernel_rfl) ?_
            apply Exists.intro
            refine ⟨fun wx hS => ?_, fun a' ha => ?_⟩
            · have c0 := Rec.cell_keep hS X0.out (by simp); go_simp; rfl
            simp only [Act.put, List.setIfInBounds_toArray, List.set_cons_succ, List.set_cons_zero] at ha
            subst ha
            refine wpSeqG_take (by kernel_rfl) (by kernel_rfl) ?_
            apply Exists.intro
            refine ⟨fun wx hS => ?_, fun a' ha => ?_⟩
            · go_simp; rfl
            simp only [Act.put, List.setIfInBounds_toArray, List.set_cons_succ, List.set_cons_zero] at ha
            subst ha
            refine wpSeqG_take (by kernel_rfl) (by kernel_rfl) ?_
            apply Exists.intro
            refine ⟨fun wx hS => ?_, fun a' ha => ?_⟩
            · go_simp; rfl
            simp only [Act.put, List.setIfInBounds_toArray, List.set_cons_succ, List.set_cons_zero] at ha
            subst ha
            refine wpSeqG_take (by kernel_rfl) (by kernel_rfl) ?_
            apply Exists.intro
            refine ⟨fun wx hS => ?_, fun a' ha => ?_⟩
            · go_simp; rfl
            simp only [Act.put, List.setIfInBounds_toArray, List.set_cons_succ, List.set_cons_zero] at ha
            subst ha
            refine wpSeqG_take (by kernel_rfl) (by kernel_rfl) ?_
            apply Exists.intro
            refine ⟨fun wx hS => ?_, fun a' ha => ?_⟩
            · go_simp; rfl
            simp only [Act.put, List.setIfInBounds_toArray, List.set_cons_succ, List.set_cons_zero] at ha
            subst ha
            refine wpSeqG_take (by kernel_rfl) (by kernel_rfl) ?_
            apply Exists.intro
            refine ⟨fun wx hS => ?_, fun a' ha => ?_⟩
            · have c0 := Rec.cell_keep hS X3.out (by simp); go_simp; rfl
            simp only [Act.put, List.setIfInBounds_toArray, List.set_cons_succ, List.set_cons_zero] at ha
            subst ha
            refine wpSeqG_take (by kernel_rfl) (by kernel_rfl) ?_
            apply Exists.intro
            refine ⟨fun wx hS => ?_, fun a' ha => ?_⟩
            · go_simp; rfl
            simp only [Act.put, List.setIfInBounds_toArray, List.set_cons_succ, List.set_cons_zero] at ha
            subst ha
            refine wpSeqG_take (by kernel_rfl) (by kernel_rfl) ?_
            apply Exists.intro
            refine ⟨fun wx hS => ?_, fun a' ha => ?_⟩
            · go_simp; rfl
            simp only [Act.put, List.setIfInBounds_toArray, List.set_cons_succ, List.set_cons_zero] at ha
            subst ha
            refine wpSeqG_take (by kernel_rfl) (by kernel_rfl) ?_
            apply Exists.intro
            refine ⟨fun wx hS => ?_, fun a' ha => ?_⟩
            · go_simp; rfl
            simp only [Act.put, List.setIfInBounds_toArray, List.set_cons_succ, List.set_cons_zero] at ha
            subst ha
            refine wpSeqG_take (by kernel_rfl) (by kernel_rfl) ?_
            apply Exists.intro
            refine ⟨fun wx hS => ?_, fun a' ha => ?_⟩
            · go_simp; rfl
            simp only [Act.put, List.setIfInBounds_toArray, List.set_cons_succ, List.set_cons_zero] at ha
            subst ha
            refine wpSeqG_take (by kernel_rfl) (by kernel_rfl) ?_
            apply Exists.intro
            refine ⟨fun wx hS => ?_, fun a' ha => ?_⟩
            · have c0 := Rec.cell_keep hS X3.out (by simp); go_simp; rfl
            simp only [Act.put, List.setIfInBounds_toArray, List.set_cons_succ, List.set_cons_zero] at ha
            subst ha
            refine wpSeqG_take (by kernel_rfl) (by kernel_rfl) ?_
            apply Exists.intro
            refine ⟨fun wx hS => ?_, fun a' ha => ?_⟩
            · go_simp; rfl
            simp only [Act.put, List.setIfInBounds_toArray, List.set_cons_succ, List.set_cons_zero] at ha
            subst ha
            refine wpSeqG_take (by kernel_rfl) (by kernel_rfl) ?_
            apply Exists.intro
            refine ⟨fun wx hS => ?_, fun a' ha => ?_⟩
            · go_simp; rfl
            simp only [Act.put, List.setIfInBounds_toArray, List.set_cons_succ, List.set_cons_zero] at ha
            subst ha
            refine wpSeqG_take (by kernel_rfl) (by kernel_rfl) ?_
            apply Exists.intro
            refine ⟨fun wx hS => ?_, fun a' ha => ?_⟩
            · go_simp; rfl
            simp only [Act.put, List.setIfInBounds_toArray, List.set_cons_succ, List.set_cons_zero] at ha
            subst ha
            refine wpSeqG_take (by kernel_rfl) (by kernel_rfl) ?_
            apply Exists.intro
            refine ⟨fun wx hS => ?_, fun a' ha => ?_⟩
            · go_simp; rfl
            simp only [Act.put, List.setIfInBounds_toArray, List.set_cons_succ, List.set_cons_zero] at ha
            subst ha
            refine wpSeqG_take (by kernel_rfl) (by kernel_rfl) ?_
            apply Exists.intro
            refine ⟨fun wx hS => ?_, fun a' ha => ?_⟩
            · have c0 := Rec.cell_keep hS X2.out (by simp);have c1 := Rec.cell_keep hS X3.out (by simp); go_simp; rfl
            simp only [Act.put, List.setIfInBounds_toArray, List.set_cons_succ, List.set_cons_zero] at ha
            subst ha
            refine wpSeqG_take (by kernel_rfl) (by kernel_rfl) ?_
            apply Exists.intro
            refine ⟨fun wx hS => ?_, fun a' ha => ?_⟩
            · go_simp; rfl
            simp only [Act.put, List.setIfInBounds_toArray, List.set_cons_succ, List.set_cons_zero] at ha
            subst ha
            refine wpSeqG_take (by kernel_rfl) (by kernel_rfl) ?_
            apply Exists.intro
            refine ⟨fun wx hS => ?_, fun a' ha => ?_⟩
            · go_simp; rfl
            simp only [Act.put, List.setIfInBounds_toArray, List.set_cons_succ, List.set_cons_zero] at ha
            subst ha
            refine wpSeqG_take (by kernel_rfl) (by kernel_rfl) ?_
            apply Exists.intro
            refine ⟨fun wx hS => ?_, fun a' ha => ?_⟩
            · go_simp; rfl
            simp only [Act.put, List.setIfInBounds_toArray, List.set_cons_succ, List.set_cons_zero] at ha
            subst ha
            refine wpSeqG_take (by kernel_rfl) (by kernel_rfl) ?_
            apply Exists.intro
            refine ⟨fun wx hS => ?_, fun a' ha => ?_⟩
            · have c0 := Rec.cell_keep hS Y1.out (by simp);have c1 := Rec.cell_keep hS Y2.out (by simp); go_simp; rfl
            simp only [Act.put, List.setIfInBounds_toArray, List.set_cons_succ, List.set_cons_zero] at ha
            subst ha
            refine wpSeqG_one (by kernel_rfl) (by kernel_rfl) (fun K hK => ?_)
            go_simp
            have hless := less_any ⟨n, r⟩ s.prom (w2.drewN 1)
            rw [LE.out] at hless
            refine hless.mono ?_
            rintro e w4 ⟨rfl, hu4⟩
            have s1 := s0.trans hu4
            clear hu4 hless s0
            refine hK _ _ (s1) ?_
            clear hK K
            try simp only [Act.put, List.setIfInBounds_toArray, List.set_cons_succ, List.set_cons_zero]
            refine wpSeqG_take (by kernel_rfl) (by kernel_rfl) ?_
            apply Exists.intro
            refine ⟨fun wx hS => ?_, fun a' ha => ?_⟩
            · go_simp; rfl
            simp only [Act.put, List.setIfInBounds_toArray, List.set_cons_succ, List.set_cons_zero] at ha
            subst ha
            refine wpSeqG_take (by kernel_rfl) (by kernel_rfl) ?_
            apply Exists.intro
            refine ⟨fun wx hS => ?_, fun a' ha => ?_⟩
            · go_simp; rfl
            simp only [Act.put, List.setIfInBounds_toArray, List.set_cons_succ, List.set_cons_zero] at ha
            subst ha
            refine wpSeqG_take (by kernel_rfl) (by kernel_rfl) ?_
            apply Exists.intro
            refine ⟨fun wx hS => ?_, fun a' ha => ?_⟩
            · go_simp; rfl
            simp only [Act.put, List.setIfInBounds_toArray, List.set_cons_succ, List.set_cons_zero] at ha
            subst ha
            unfold wpSeqG
            have s0 := s1
            clear s1
            have U3 := hide s0
            go_upto_region 3 with fail
            have s1 : Upd [] w2 (w4.drewN 1) := s0.drewN 1
            clear s0
            refine wp_region_seqG mayOps3 (by kernel_rfl) [] (fun wx => Upd [] w2 wx) (by kernel_rfl) (by kernel_rfl) (fun _ _ d _ _ h => by cases d <;> exact h) s1 ?_
            refine wpSeqG_take (by kernel_rfl) (by kernel_rfl) ?_
            apply Exists.intro
            refine ⟨fun wx hS => ?_, fun a' ha => ?_⟩
            · go_simp; rfl
            simp only [Act.put, List.setIfInBounds_toArray, List.set_cons_succ, List.set_cons_zero] at ha
            subst ha
            refine wpSeqG_take (by kernel_rfl) (by kernel_rfl) ?_
            apply Exists.intro
            refine ⟨fun wx hS => ?_, fun a' ha => ?_⟩
            · have c0 := Rec.cell_keep hS X0.out (by simp); go_simp; rfl
            simp only [Act.put, List.setIfInBounds_toArray, List.set_cons_succ, List.set_cons_zero] at ha
            subst ha
            refine wpSeqG_take (by kernel_rfl) (by kernel_rfl) ?_
            apply Exists.intro
            refine ⟨fun wx hS => ?_, fun a' ha => ?_⟩
            · go_simp; rfl
            simp only [Act.put, List.setIfInBounds_toArray, List.set_cons_succ, List.set_cons_zero] at ha
            subst ha
            refine wpSeqG_take (by kernel_rfl) (by kernel_rfl) ?_
            apply Exists.intro
            refine ⟨fun wx hS => ?_, fun a' ha => ?_⟩
            · go_simp; rfl
            simp only [Act.put, List.setIfInBounds_toArray, List.set_cons_succ, List.set_cons_zero] at ha
            subst ha
            refine wpSeqG_skip (by kernel_rfl) (fun a' ha => ?_)
            simp only [Act.put, List.setIfInBounds_toArray, List.set_cons_succ, List.set_cons_zero] at ha
            subst ha
            refine wpSeqG_skip (by kernel_rfl) (fun a' ha => ?_)
            simp only [Act.put, List.setIfInBounds_toArray, List.set_cons_succ, List.set_cons_zero] at ha
            subst ha
            refine wpSeqG_skip (by kernel_rfl) (fun a' ha => ?_)
            simp only [Act.put, List.setIfInBounds_toArray, List.set_cons_succ, List.set_cons_zero] at ha
            subst ha
            refine wpSeqG_skip (by kernel_rfl) (fun a' ha => ?_)
            simp only [Act.put, List.setIfInBounds_toArray, List.set_cons_succ, List.set_cons_zero] at ha
            subst ha
            refine wpSeqG_skip (by kernel_rfl) (fun a' ha => ?_)
            simp only [Act.put, List.setIfInBounds_toArray, List.set_cons_succ, List.set_cons_zero] at ha
            subst ha
            refine wpSeqG_skip (by kernel_rfl) (fun a' ha => ?_)
            simp only [Act.put, List.setIfInBounds_toArray, List.set_cons_succ, List.set_cons_zero] at ha
            subst ha
            refine wpSeqG_skip (by kernel_rfl) (fun a' ha => ?_)
            simp only [Act.put, List.setIfInBounds_toArray, List.set_cons_succ, List.set_cons_zero] at ha
            subst ha
            refine wpSeqG_take (by kernel_rfl) (by kernel_rfl) ?_
            apply Exists.intro
            refine ⟨fun wx hS => ?_, fun a' ha => ?_⟩
            · go_simp; rfl
            simp only [Act.put, List.setIfInBounds_toArray, List.set_cons_succ, List.set_cons_zero] at ha
            subst ha
            refine wpSeqG_take (by kernel_rfl) (by kernel_rfl) ?_
            apply Exists.intro
            refine ⟨fun wx hS => ?_, fun a' ha => ?_⟩
            · go_simp; rfl
            simp only [Act.put, List.setIfInBounds_toArray, List.set_cons_succ, List.set_cons_zero] at ha
            subst ha
            unfold wpSeqG
            have s0 := s1
            clear s1
            have UF := hide (U2.out.trans s0)
            clear s0
            go_wp2_with fail
            go_ret
            exact ⟨rfl, UF.out⟩
          · have q1 : ((k : Int) != 1) = true := by simp; omega
            rcases HC with ⟨b1, b2, b3⟩ | ⟨b1, b2, b3⟩
            · rw [if_pos ⟨hk1, b1⟩] at hm
              subst hm
              clear hk3 hr hb hl hk1 b1
              go_enter Tryz.func35, Tryz.ntmps35
              have hX := blk_new w (setC k slot n r (.slice xo xn xc))
              have hP := blk_alloc HS.out (setC k slot n r (.slice xo xn xc))
              have hu := (Upd.refl [] w).alloc (setC k slot n r (.slice xo xn xc))
              go_upto_region 1 with fail
              generalize w.alloc (setC k slot n r (.slice xo xn xc)) = w2 at *
              obtain ⟨B, hBn⟩ : ∃ B, w.heap.size = B := ⟨_, rfl⟩
              rw [hBn] at hX ⊢
              have x0 : w2.cell? ⟨B, 0, none⟩ = some (.int .u64 (k : Int)) := blk_cell hX rfl
              have x1 : w2.cell? ⟨B, 1, none⟩ = some (.int .u64 (slot : Int)) := blk_cell hX rfl
              have x2 : w2.cell? ⟨B, 2, none⟩ = some (.int .u64 (n : Int)) := blk_cell hX rfl
              have x3 : w2.cell? ⟨B, 3, none⟩ = some (.int .i64 r) := blk_cell hX rfl
              have y1 : w2.cell? ⟨S, 1, none⟩ = some (.int .u64 (s.prom.n : Int)) := blk_cell hP rfl
              have y2 : w2.cell? ⟨S, 2, none⟩ = some (.int .i64 s.prom.r) := blk_cell hP rfl
              have y3 : w2.cell? ⟨S, 3, none⟩ = some (.int .u64 (s.base : Int)) := blk_cell hP rfl
              have X0 := hide x0; have X1 := hide x1; have X2 := hide x2; have X3 := hide x3; have Y1 := hide y1; have Y2 := hide y2; have Y3 := hide y3; have U2 := hide hu
              clear hX hP hu hBn x0 x1 x2 x3 y1 y2 y3
              have s0 : Upd [] w2 (w2.drewN 1) := (Upd.refl [] w2).drewN 1
              refine wp_region_seqG mayOps1 (by kernel_rfl) [21] (fun wx => Upd [] w2 wx) (by kernel_rfl) (by kernel_rfl) (fun _ _ d _ _ h => by cases d <;> exact h) s0 ?_
              refine wpSeqG_take (by kernel_rfl) (by kernel_rfl) ?_
              apply Exists.intro
              refine ⟨fun wx hS => ?_, fun a' ha => ?_⟩
              · go_simp; rfl
              simp only [Act.put, List.setIfInBounds_toArray, List.set_cons_succ, List.set_cons_zero] at ha
              subst ha
              refine wpSeqG_take (by kernel_rfl) (by kernel_rfl) ?_
              apply Exists.intro
              refine ⟨fun wx hS => ?_, fun a' ha => ?_⟩
              · have c0 := Rec.cell_keep hS X0.out (by simp); go_simp; rfl
              simp only [Act.put, List.setIfInBounds_toArray, List.set_cons_succ, List.set_cons_zero] at ha
              subst ha
              refine wpSeqG_take (by kernel_rfl) (by kernel_rfl) ?_
              apply Exists.intro
              refine ⟨fun wx hS => ?_, fun a' ha => ?_⟩
              · go_simp; rfl
              simp only [Act.put, List.setIfInBounds_toArray, List.set_cons_succ, List.set_cons_zero] at ha
              subst ha
              refine wpSeqG_take (by kernel_rfl) (by kernel_rfl) ?_
              apply Exists.intro
              refine ⟨fun wx hS => ?_, fun a' ha => ?_⟩
              · go_simp; rfl
              simp only [Act.put, List.setIfInBounds_toArray, List.set_cons_succ, List.set_cons_zero] at ha
              subst ha
              refine wpSeqG_take (by kernel_rfl) (by kernel_rfl) ?_
              apply Exists.intro
              refine ⟨fun wx hS => ?_, fun a' ha => ?_⟩
              · go_simp; rfl
              simp only [Act.put, List.setIfInBounds_toArray, List.set_cons_succ, List.set_cons_zero] at ha
              subst ha
              refine wpSeqG_take (by kernel_rfl) (by kernel_rfl) ?_
              apply Exists.intro
              refine ⟨fun wx hS => ?_, fun a' ha => ?_⟩
              · go_simp; rfl
              simp only [Act.put, List.setIfInBounds_toArray, List.set_cons_succ, List.set_cons_zero] at ha
              subst ha
              refine wpSeqG_take (by kernel_rfl) (by kernel_rfl) ?_
              apply Exists.intro
              refine ⟨fun wx hS => ?_, fun a' ha => ?_⟩
              · have c0 := Rec.cell_keep hS X3.out (by simp); go_simp; rfl
              simp only [Act.put, List.setIfInBounds_toArray, List.set_cons_succ, List.set_cons_zero] at ha
              subst ha
              refine wpSeqG_take (by kernel_rfl) (by kernel_rfl) ?_
              apply Exists.intro
              refine ⟨fun wx hS => ?_, fun a' ha => ?_⟩
              · go_simp; rfl
              simp only [Act.put, List.setIfInBounds_toArray, List.set_cons_succ, List.set_cons_zero] at ha
              subst ha
              refine wpSeqG_take (by kernel_rfl) (by kernel_rfl) ?_
              apply Exists.intro
              refine ⟨fun wx hS => ?_, fun a' ha => ?_⟩
              · go_simp; rfl
              simp only [Act.put, List.setIfInBounds_toArray, List.set_cons_succ, List.set_cons_zero] at ha
              subst ha
              refine wpSeqG_take (by kernel_rfl) (by kernel_rfl) ?_
              apply Exists.intro
              refine ⟨fun wx hS => ?_, fun a' ha => ?_⟩
              · go_simp; rfl
              simp only [Act.put, List.setIfInBounds_toArray, List.set_cons_succ, List.set_cons_zero] at ha
              subst ha
              refine wpSeqG_take (by kernel_rfl) (by kernel_rfl) ?_
              apply Exists.intro
              refine ⟨fun wx hS => ?_, fun a' ha => ?_⟩
              · go_simp; rfl
              simp only [Act.put, List.setIfInBounds_toArray, List.set_cons_succ, List.set_cons_zero] at ha
              subst ha
              refine wpSeqG_take (by kernel_rfl) (by kernel_rfl) ?_
              apply Exists.intro
              refine ⟨fun wx hS => ?_, fun a' ha => ?_⟩
              · have c0 := Rec.cell_keep hS X3.out (by simp); go_simp; rfl
              simp only [Act.put, List.setIfInBounds_toArray, List.set_cons_succ, List.set_cons_zero] at ha
              subst ha
              refine wpSeqG_take (by kernel_rfl) (by kernel_rfl) ?_
              apply Exists.intro
              refine ⟨fun wx hS => ?_, fun a' ha => ?_⟩
              · go_simp; rfl
              simp only [Act.put, List.setIfInBounds_toArray, List.set_cons_succ, List.set_cons_zero] at ha
              subst ha
              refine wpSeqG_take (by kernel_rfl) (by kernel_rfl) ?_
              apply Exists.intro
              refine ⟨fun wx hS => ?_, fun a' ha => ?_⟩
              · go_simp; rfl
              simp only [Act.put, List.setIfInBounds_toArray, List.set_cons_succ, List.set_cons_zero] at ha
              subst ha
              refine wpSeqG_take (by kernel_rfl) (by kernel_rfl) ?_
              apply Exists.intro
              refine ⟨fun wx hS => ?_, fun a' ha => ?_⟩
              · go_simp; rfl
              simp only [Act.put, List.setIfInBounds_toArray, List.set_cons_succ, List.set_cons_zero] at ha
              subst ha
              refine wpSeqG_take (by kernel_rfl) (by kernel_rfl) ?_
              apply Exists.intro
              refine ⟨fun wx hS => ?_, fun a' ha => ?_⟩
              · go_simp; rfl
              simp only [Act.put, List.setIfInBounds_toArray, List.set_cons_succ, List.set_cons_zero] at ha
              subst ha
              refine wpSeqG_take (by kernel_rfl) (by kernel_rfl) ?_
              apply Exists.intro
              refine ⟨fun wx hS => ?_, fun a' ha => ?_⟩
              · have c0 := Rec.cell_keep hS X2.out (by simp);have c1 := Rec.cell_keep hS X3.out (by simp); go_simp; rfl
              simp only [Act.put, List.setIfInBounds_toArray, List.set_cons_succ, List.set_cons_zero] at ha
              subst ha
              refine wpSeqG_take (by kernel_rfl) (by kernel_rfl) ?_
              apply Exists.intro
              refine ⟨fun wx hS => ?_, fun a' ha => ?_⟩
              · go_simp; rfl
              simp only [Act.put, List.setIfInBounds_toArray, List.set_cons_succ, List.set_cons_zero] at ha
              subst ha
              refine wpSeqG_take (by kernel_rfl) (by kernel_rfl) ?_
              apply Exists.intro
              refine ⟨fun wx hS => ?_, fun a' ha => ?_⟩
              · go_simp; rfl
              simp only [Act.put, List.setIfInBounds_toArray, List.set_cons_succ, List.set_cons_zero] at ha
              subst ha
              refine wpSeqG_take (by kernel_rfl) (by kernel_rfl) ?_
              apply Exists.intro
              refine ⟨fun wx hS => ?_, fun a' ha => ?_⟩
              · go_simp; rfl
              simp only [Act.put, List.setIfInBounds_toArray, List.set_cons_succ, List.set_cons_zero] at ha
              subst ha
              refine wpSeqG_take (by kernel_rfl) (by kernel_rfl) ?_
              apply Exists.intro
              refine ⟨fun wx hS => ?_, fun a' ha => ?_⟩
              · have c0 := Rec.cell_keep hS Y1.out (by simp);have c1 := Rec.cell_keep hS Y2.out (by simp); go_simp; rfl
              simp only [Act.put, List.setIfInBounds_toArray, List.set_cons_succ, List.set_cons_zero] at ha
              subst ha
              refine wpSeqG_one (by kernel_rfl) (by kernel_rfl) (fun K hK => ?_)
              go_simp
              have hless := less_any ⟨n, r⟩ s.prom (w2.drewN 1)
              rw [LE.out] at hless
              refine hless.mono ?_
              rintro e w4 ⟨rfl, hu4⟩
              have s1 := s0.trans hu4
              clear hu4 hless s0
              refine hK _ _ (s1) ?_
              clear hK K
              try simp only [Act.put, List.setIfInBounds_toArray, List.set_cons_succ, List.set_cons_zero]
              refine wpSeqG_take (by kernel_rfl) (by kernel_rfl) ?_
              apply Exists.intro
              refine ⟨fun wx hS => ?_, fun a' ha => ?_⟩
              · go_simp; rfl
              simp only [Act.put, List.setIfInBounds_toArray, List.set_cons_succ, List.set_cons_zero] at ha
              subst ha
              refine wpSeqG_take (by kernel_rfl) (by kernel_rfl) ?_
              apply Exists.intro
              refine ⟨fun wx hS => ?_, fun a' ha => ?_⟩
              · go_simp; rfl
              simp only [Act.put, List.setIfInBounds_toArray, List.set_cons_succ, List.set_cons_zero] at ha
              subst ha
              refine wpSeqG_take (by kernel_rfl) (by kernel_rfl) ?_
              apply Exists.intro
              refine ⟨fun wx hS => ?_, fun a' ha => ?_⟩
              · go_simp; rfl
              simp only [Act.put, List.setIfInBounds_toArray, List.set_cons_succ, List.set_cons_zero] at ha
              subst ha
              unfold wpSeqG
              have s0 := s1
              clear s1
              have U3 := hide s0
              go_upto_region 3 with fail
              have s1 : Upd [] w2 (w4.drewN 1) := s0.drewN 1
              clear s0
              refine wp_region_seqG mayOps3 (by kernel_rfl) [] (fun wx => Upd [] w2 wx) (by kernel_rfl) (by kernel_rfl) (fun _ _ d _ _ h => by cases d <;> exact h) s1 ?_
              refine wpSeqG_take (by kernel_rfl) (by kernel_rfl) ?_
              apply Exists.intro
              refine ⟨fun wx hS => ?_, fun a' ha => ?_⟩
              · go_simp; rfl
              simp only [Act.put, List.setIfInBounds_toArray, List.set_cons_succ, List.set_cons_zero] at ha
              subst ha
              refine wpSeqG_take (by kernel_rfl) (by kernel_rfl) ?_
              apply Exists.intro
              refine ⟨fun wx hS => ?_, fun a' ha => ?_⟩
              · have c0 := Rec.cell_keep hS X0.out (by simp); go_simp; rfl
              simp only [Act.put, List.setIfInBounds_toArray, List.set_cons_succ, List.set_cons_zero] at ha
              subst ha
              refine wpSeqG_take (by kernel_rfl) (by kernel_rfl) ?_
              apply Exists.intro
              refine ⟨fun wx hS => ?_, fun a' ha => ?_⟩
              · go_simp; rfl
              simp only [Act.put, List.setIfInBounds_toArray, List.set_cons_succ, List.set_cons_zero] at ha
              subst ha
              refine wpSeqG_take (by kernel_rfl) (by kernel_rfl) ?_
              apply Exists.intro
              refine ⟨fun wx hS => ?_, fun a' ha => ?_⟩
              · go_simp; rfl
              simp only [Act.put, List.setIfInBounds_toArray, List.set_cons_succ, List.set_cons_zero] at ha
              subst ha
              refine wpSeqG_take (by kernel_rfl) (by kernel_rfl) ?_
              apply Exists.intro
              refine ⟨fun wx hS => ?_, fun a' ha => ?_⟩
              · go_simp; rfl
              simp only [Act.put, List.setIfInBounds_toArray, List.set_cons_succ, List.set_cons_zero] at ha
              subst ha
              refine wpSeqG_take (by kernel_rfl) (by kernel_rfl) ?_
              apply Exists.intro
              refine ⟨fun wx hS => ?_, fun a' ha => ?_⟩
              · have c0 := Rec.cell_keep hS X1.out (by simp); go_simp; rfl
              simp only [Act.put, List.setIfInBounds_toArray, List.set_cons_succ, List.set_cons_zero] at ha
              subst ha
              refine wpSeqG_take (by kernel_rfl) (by kernel_rfl) ?_
              apply Exists.intro
              refine ⟨fun wx hS => ?_, fun a' ha => ?_⟩
              · go_simp; rfl
              simp only [Act.put, List.setIfInBounds_toArray, List.set_cons_succ, List.set_cons_zero] at ha
              subst ha
              refine wpSeqG_take (by kernel_rfl) (by kernel_rfl) ?_
              apply Exists.intro
              refine ⟨fun wx hS => ?_, fun a' ha => ?_⟩
              · go_simp; rfl
              simp only [Act.put, List.setIfInBounds_toArray, List.set_cons_succ, List.set_cons_zero] at ha
              subst ha
              refine wpSeqG_take (by kernel_rfl) (by kernel_rfl) ?_
              apply Exists.intro
              refine ⟨fun wx hS => ?_, fun a' ha => ?_⟩
              · go_simp; rfl
              simp only [Act.put, List.setIfInBounds_toArray, List.set_cons_succ, List.set_cons_zero] at ha
              subst ha
              refine wpSeqG_take (by kernel_rfl) (by kernel_rfl) ?_
              apply Exists.intro
              refine ⟨fun wx hS => ?_, fun a' ha => ?_⟩
              · have c0 := Rec.cell_keep hS Y3.out (by simp); go_simp; rfl
              simp only [Act.put, List.setIfInBounds_toArray, List.set_cons_succ, List.set_cons_zero] at ha
              subst ha
              refine wpSeqG_take (by kernel_rfl) (by kernel_rfl) ?_
              apply Exists.intro
              refine ⟨fun wx hS => ?_, fun a' ha => ?_⟩
              · go_simp; rfl
              simp only [Act.put, List.setIfInBounds_toArray, List.set_cons_succ, List.set_cons_zero] at ha
              subst ha
              refine wpSeqG_take (by kernel_rfl) (by kernel_rfl) ?_
              apply Exists.intro
              refine ⟨fun wx hS => ?_, fun a' ha => ?_⟩
              · go_simp; rfl
              simp only [Act.put, List.setIfInBounds_toArray, List.set_cons_succ, List.set_cons_zero] at ha
              subst ha
              refine wpSeqG_take (by kernel_rfl) (by kernel_rfl) ?_
              apply Exists.intro
              refine ⟨fun wx hS => ?_, fun a' ha => ?_⟩
              · go_simp; rfl
              simp only [Act.put, List.setIfInBounds_toArray, List.set_cons_succ, List.set_cons_zero] at ha
              subst ha
              unfold wpSeqG
              have s0 := s1
              clear s1
              have UF := hide (U2.out.trans s0)
              clear s0
              go_wp2_with fail
              go_ret
              exact ⟨rfl, UF.out⟩
            · rw [if_neg (fun hh => b1 hh.2)] at hm
              subst hm
              clear hk3 hr hb hl hk1 b1
              go_enter Tryz.func35, Tryz.ntmps35
              have hX := blk_new w (setC k slot n r (.slice xo xn xc))
              have hP := blk_alloc HS.out (setC k slot n r (.slice xo xn xc))
              have hu := (Upd.refl [] w).alloc (setC k slot n r (.slice xo xn xc))
              go_upto_region 1 with fail
              generalize w.alloc (setC k slot n r (.slice xo xn xc)) = w2 at *
              obtain ⟨B, hBn⟩ : ∃ B, w.heap.size = B := ⟨_, rfl⟩
              rw [hBn] at hX ⊢
              have x0 : w2.cell? ⟨B, 0, none⟩ = some (.int .u64 (k : Int)) := blk_cell hX rfl
              have x1 : w2.cell? ⟨B, 1, none⟩ = some (.int .u64 (slot : Int)) := blk_cell hX rfl
              have x2 : w2.cell? ⟨B, 2, none⟩ = some (.int .u64 (n : Int)) := blk_cell hX rfl
              have x3 : w2.cell? ⟨B, 3, none⟩ = some (.int .i64 r) := blk_cell hX rfl
              have y1 : w2.cell? ⟨S, 1, none⟩ = some (.int .u64 (s.prom.n : Int)) := blk_cell hP rfl
              have y2 : w2.cell? ⟨S, 2, none⟩ = some (.int .i64 s.prom.r) := blk_cell hP rfl
              have y3 : w2.cell? ⟨S, 3, none⟩ = some (.int .u64 (s.base : Int)) := blk_cell hP rfl
              have X0 := hide x0; have X1 := hide x1; have X2 := hide x2; have X3 := hide x3; have Y1 := hide y1; have Y2 := hide y2; have Y3 := hide y3; have U2 := hide hu
              clear hX hP hu hBn x0 x1 x2 x3 y1 y2 y3
              have s0 : Upd [] w2 (w2.drewN 1) := (Upd.refl [] w2).drewN 1
              refine wp_region_seqG mayOps1 (by kernel_rfl) [21] (fun wx => Upd [] w2 wx) (by kernel_rfl) (by kernel_rfl) (fun _ _ d _ _ h => by cases d <;> exact h) s0 ?_
              refine wpSeqG_take (by kernel_rfl) (by kernel_rfl) ?_
              apply Exists.intro
              refine ⟨fun wx hS => ?_, fun a' ha => ?_⟩
              · go_simp; rfl
              simp only [Act.put, List.setIfInBounds_toArray, List.set_cons_succ, List.set_cons_zero] at ha
              subst ha
              refine wpSeqG_take (by kernel_rfl) (by kernel_rfl) ?_
              apply Exists.intro
              refine ⟨fun wx hS => ?_, fun a' ha => ?_⟩
              · have c0 := Rec.cell_keep hS X0.out (by simp); go_simp; rfl
              simp only [Act.put, List.setIfInBounds_toArray, List.set_cons_succ, List.set_cons_zero] at ha
              subst ha
              refine wpSeqG_take (by kernel_rfl) (by kernel_rfl) ?_
              apply Exists.intro
              refine ⟨fun wx hS => ?_, fun a' ha => ?_⟩
              · go_simp; rfl
              simp only [Act.put, List.setIfInBounds_toArray, List.set_cons_succ, List.set_cons_zero] at ha
              subst ha
              refine wpSeqG_take (by kernel_rfl) (by kernel_rfl) ?_
              apply Exists.intro
              refine ⟨fun wx hS => ?_, fun a' ha => ?_⟩
              · go_simp; rfl
              simp only [Act.put, List.setIfInBounds_toArray, List.set_cons_succ, List.set_cons_zero] at ha
              subst ha
              refine wpSeqG_take (by kernel_rfl) (by kernel_rfl) ?_
              apply Exists.intro
              refine ⟨fun wx hS => ?_, fun a' ha => ?_⟩
              · go_simp; rfl
              simp only [Act.put, List.setIfInBounds_toArray, List.set_cons_succ, List.set_cons_zero] at ha
              subst ha
              refine wpSeqG_take (by kernel_rfl) (by kernel_rfl) ?_
              apply Exists.intro
              refine ⟨fun wx hS => ?_, fun a' ha => ?_⟩
              · go_simp; rfl
              simp only [Act.put, List.setIfInBounds_toArray, List.set_cons_succ, List.set_cons_zero] at ha
              subst ha
              refine wpSeqG_take (by kernel_rfl) (by kernel_rfl) ?_
              apply Exists.intro
              refine ⟨fun wx hS => ?_, fun a' ha => ?_⟩
              · have c0 := Rec.cell_keep hS X3.out (by simp); go_simp; rfl
              simp only [Act.put, List.setIfInBounds_toArray, List.set_cons_succ, List.set_cons_zero] at ha
              subst ha
              refine wpSeqG_take (by kernel_rfl) (by kernel_rfl) ?_
              apply Exists.intro
              refine ⟨fun wx hS => ?_, fun a' ha => ?_⟩
              · go_simp; rfl
              simp only [Act.put, List.setIfInBounds_toArray, List.set_cons_succ, List.set_cons_zero] at ha
              subst ha
              refine wpSeqG_take (by kernel_rfl) (by kernel_rfl) ?_
              apply Exists.intro
              refine ⟨fun wx hS => ?_, fun a' ha => ?_⟩
              · go_simp; rfl
              simp only [Act.put, List.setIfInBounds_toArray, List.set_cons_succ, List.set_cons_zero] at ha
              subst ha
              refine wpSeqG_take (by kernel_rfl) (by kernel_rfl) ?_
              apply Exists.intro
              refine ⟨fun wx hS => ?_, fun a' ha => ?_⟩
              · go_simp; rfl
              simp only [Act.put, List.setIfInBounds_toArray, List.set_cons_succ, List.set_cons_zero] at ha
              subst ha
              refine wpSeqG_take (by kernel_rfl) (by kernel_rfl) ?_
              apply Exists.intro
              refine ⟨fun wx hS => ?_, fun a' ha => ?_⟩
              · go_simp; rfl
              simp only [Act.put, List.setIfInBounds_toArray, List.set_cons_succ, List.set_cons_zero] at ha
              subst ha
              refine wpSeqG_take (by kernel_rfl) (by kernel_rfl) ?_
              apply Exists.intro
              refine ⟨fun wx hS => ?_, fun a' ha => ?_⟩
              · have c0 := Rec.cell_keep hS X3.out (by simp); go_simp; rfl
              simp only [Act.put, List.setIfInBounds_toArray, List.set_cons_succ, List.set_cons_zero] at ha
              subst ha
              refine wpSeqG_take (by kernel_rfl) (by kernel_rfl) ?_
              apply Exists.intro
              refine ⟨fun wx hS => ?_, fun a' ha => ?_⟩
              · go_simp; rfl
              simp only [Act.put, List.setIfInBounds_toArray, List.set_cons_succ, List.set_cons_zero] at ha
              subst ha
              refine wpSeqG_take (by kernel_rfl) (by kernel_rfl) ?_
              apply Exists.intro
              refine ⟨fun wx hS => ?_, fun a' ha => ?_⟩
              · go_simp; rfl
              simp only [Act.put, List.setIfInBounds_toArray, List.set_cons_succ, List.set_cons_zero] at ha
              subst ha
              refine wpSeqG_take (by kernel_rfl) (by kernel_rfl) ?_
              apply Exists.intro
              refine ⟨fun wx hS => ?_, fun a' ha => ?_⟩
              · go_simp; rfl
              simp only [Act.put, List.setIfInBounds_toArray, List.set_cons_succ, List.set_cons_zero] at ha
              subst ha
              refine wpSeqG_take (by kernel_rfl) (by kernel_rfl) ?_
              apply Exists.intro
              refine ⟨fun wx hS => ?_, fun a' ha => ?_⟩
              · go_simp; rfl
              simp only [Act.put, List.setIfInBounds_toArray, List.set_cons_succ, List.set_cons_zero] at ha
              subst ha
              refine wpSeqG_take (by kernel_rfl) (by kernel_rfl) ?_
              apply Exists.intro
              refine ⟨fun wx hS => ?_, fun a' ha => ?_⟩
              · have c0 := Rec.cell_keep hS X2.out (by simp);have c1 := Rec.cell_keep hS X3.out (by simp); go_simp; rfl
              simp only [Act.put, List.setIfInBounds_toArray, List.set_cons_succ, List.set_cons_zero] at ha
              subst ha
              refine wpSeqG_take (by kernel_rfl) (by kernel_rfl) ?_
              apply Exists.intro
              refine ⟨fun wx hS => ?_, fun a' ha => ?_⟩
              · go_simp; rfl
              simp only [Act.put, List.setIfInBounds_toArray, List.set_cons_succ, List.set_cons_zero] at ha
              subst ha
              refine wpSeqG_take (by kernel_rfl) (by kernel_rfl) ?_
              apply Exists.intro
              refine ⟨fun wx hS => ?_, fun a' ha => ?_⟩
              · go_simp; rfl
              simp only [Act.put, List.setIfInBounds_toArray, List.set_cons_succ, List.set_cons_zero] at ha
              subst ha
              refine wpSeqG_take (by kernel_rfl) (by kernel_rfl) ?_
              apply Exists.intro
              refine ⟨fun wx hS => ?_, fun a' ha => ?_⟩
              · go_simp; rfl
              simp only [Act.put, List.setIfInBounds_toArray, List.set_cons_succ, List.set_cons_zero] at ha
              subst ha
              refine wpSeqG_take (by kernel_rfl) (by kernel_rfl) ?_
              apply Exists.intro
              refine ⟨fun wx hS => ?_, fun a' ha => ?_⟩
              · have c0 := Rec.cell_keep hS Y1.out (by simp);have c1 := Rec.cell_keep hS Y2.out (by simp); go_simp; rfl
              simp only [Act.put, List.setIfInBounds_toArray, List.set_cons_succ, List.set_cons_zero] at ha
              subst ha
              refine wpSeqG_one (by kernel_rfl) (by kernel_rfl) (fun K hK => ?_)
              go_simp
              have hless := less_any ⟨n, r⟩ s.prom (w2.drewN 1)
              rw [LE.out] at hless
              refine hless.mono ?_
              rintro e w4 ⟨rfl, hu4⟩
              have s1 := s0.trans hu4
              clear hu4 hless s0
              refine hK _ _ (s1) ?_
              clear hK K
              try simp only [Act.put, List.setIfInBounds_toArray, List.set_cons_succ, List.set_cons_zero]
              refine wpSeqG_take (by kernel_rfl) (by kernel_rfl) ?_
              apply Exists.intro
              refine ⟨fun wx hS => ?_, fun a' ha => ?_⟩
              · go_simp; rfl
              simp only [Act.put, List.setIfInBounds_toArray, List.set_cons_succ, List.set_cons_zero] at ha
              subst ha
              refine wpSeqG_take (by kernel_rfl) (by kernel_rfl) ?_
              apply Exists.intro
              refine ⟨fun wx hS => ?_, fun a' ha => ?_⟩
              · go_simp; rfl
              simp only [Act.put, List.setIfInBounds_toArray, List.set_cons_succ, List.set_cons_zero] at ha
              subst ha
              refine wpSeqG_take (by kernel_rfl) (by kernel_rfl) ?_
              apply Exists.intro
              refine ⟨fun wx hS => ?_, fun a' ha => ?_⟩
              · go_simp; rfl
              simp only [Act.put, List.setIfInBounds_toArray, List.set_cons_succ, List.set_cons_zero] at ha
              subst ha
              unfold wpSeqG
              have s0 := s1
              clear s1
              have U3 := hide s0
              go_upto_region 3 with fail
              have s1 : Upd [] w2 (w4.drewN 1) := s0.drewN 1
              clear s0
              refine wp_region_seqG mayOps3 (by kernel_rfl) [] (fun wx => Upd [] w2 wx) (by kernel_rfl) (by kernel_rfl) (fun _ _ d _ _ h => by cases d <;> exact h) s1 ?_
              refine wpSeqG_take (by kernel_rfl) (by kernel_rfl) ?_
              apply Exists.intro
              refine ⟨fun wx hS => ?_, fun a' ha => ?_⟩
              · go_simp; rfl
              simp only [Act.put, List.setIfInBounds_toArray, List.set_cons_succ, List.set_cons_zero] at ha
              subst ha
              refine wpSeqG_take (by kernel_rfl) (by kernel_rfl) ?_
              apply Exists.intro
              refine ⟨fun wx hS => ?_, fun a' ha => ?_⟩
              · have c0 := Rec.cell_keep hS X0.out (by simp); go_simp; rfl
              simp only [Act.put, List.setIfInBounds_toArray, List.set_cons_succ, List.set_cons_zero] at ha
              subst ha
              refine wpSeqG_take (by kernel_rfl) (by kernel_rfl) ?_
              apply Exists.intro
              refine ⟨fun wx hS => ?_, fun a' ha => ?_⟩
              · go_simp; rfl
              simp only [Act.put, List.setIfInBounds_toArray, List.set_cons_succ, List.set_cons_zero] at ha
              subst ha
              refine wpSeqG_take (by kernel_rfl) (by kernel_rfl) ?_
              apply Exists.intro
              refine ⟨fun wx hS => ?_, fun a' ha => ?_⟩
              · go_simp; rfl
              simp only [Act.put, List.setIfInBounds_toArray, List.set_cons_succ, List.set_cons_zero] at ha
              subst ha
              refine wpSeqG_take (by kernel_rfl) (by kernel_rfl) ?_
              apply Exists.intro
              refine ⟨fun wx hS => ?_, fun a' ha => ?_⟩
              · go_simp; rfl
              simp only [Act.put, List.setIfInBounds_toArray, List.set_cons_succ, List.set_cons_zero] at ha
              subst ha
              refine wpSeqG_take (by kernel_rfl) (by kernel_rfl) ?_
              apply Exists.intro
              refine ⟨fun wx hS => ?_, fun a' ha => ?_⟩
              · have c0 := Rec.cell_keep hS X1.out (by simp); go_simp; rfl
              simp only [Act.put, List.setIfInBounds_toArray, List.set_cons_succ, List.set_cons_zero] at ha
              subst ha
              refine wpSeqG_take (by kernel_rfl) (by kernel_rfl) ?_
              apply Exists.intro
              refine ⟨fun wx hS => ?_, fun a' ha => ?_⟩
              · go_simp; rfl
              simp only [Act.put, List.setIfInBounds_toArray, List.set_cons_succ, List.set_cons_zero] at ha
              subst ha
              refine wpSeqG_take (by kernel_rfl) (by kernel_rfl) ?_
              apply Exists.intro
              refine ⟨fun wx hS => ?_, fun a' ha => ?_⟩
              · go_simp; rfl
              simp only [Act.put, List.setIfInBounds_toArray, List.set_cons_succ, List.set_cons_zero] at ha
              subst ha
              refine wpSeqG_take (by kernel_rfl) (by kernel_rfl) ?_
              apply Exists.intro
              refine ⟨fun wx hS => ?_, fun a' ha => ?_⟩
              · go_simp; rfl
              simp only [Act.put, List.setIfInBounds_toArray, List.set_cons_succ, List.set_cons_zero] at ha
              subst ha
              refine wpSeqG_take (by kernel_rfl) (by kernel_rfl) ?_
              apply Exists.intro
              refine ⟨fun wx hS => ?_, fun a' ha => ?_⟩
              · have c0 := Rec.cell_keep hS Y3.out (by simp); go_simp; rfl
              simp only [Act.put, List.setIfInBounds_toArray, List.set_cons_succ, List.set_cons_zero] at ha
              subst ha
              refine wpSeqG_take (by kernel_rfl) (by kernel_rfl) ?_
              apply Exists.intro
              refine ⟨fun wx hS => ?_, fun a' ha => ?_⟩
              · go_simp; rfl
              simp only [Act.put, List.setIfInBounds_toArray, List.set_cons_succ, List.set_cons_zero] at ha
              subst ha
              refine wpSeqG_take (by kernel_rfl) (by kernel_rfl) ?_
              apply Exists.intro
              refine ⟨fun wx hS => ?_, fun a' ha => ?_⟩
              · go_simp; rfl
              simp only [Act.put, List.setIfInBounds_toArray, List.set_cons_succ, List.set_cons_zero] at ha
              subst ha
              refine wpSeqG_take (by kernel_rfl) (by kernel_rfl) ?_
              apply Exists.intro
              refine ⟨fun wx hS => ?_, fun a' ha => ?_⟩
              · go_simp; rfl
              simp only [Act.put, List.setIfInBounds_toArray, List.set_cons_succ, List.set_cons_zero] at ha
              subst ha
              unfold wpSeqG
              have s0 := s1
              clear s1
              have UF := hide (U2.out.trans s0)
              clear s0
              go_wp2_with fail
              go_ret
              exact ⟨rfl, UF.out⟩
end
end Go.Proofs.YtekbhfpdakhhkaaGreatDoor.St
