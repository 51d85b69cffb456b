/- VotMj, SgJ in one text. -/
import Derived.Test.YtanjnhohfcgapaaGreatDoorPureAll
import Derived.Test.YtanjnhohfcgapaaGreatDoorBase
import Derived.Test.YtanjnhohfcgapaaGreatDoorSgEHI
import Derived.Test.YtanjnhohfcgapaaGreatDoorSgG
import Derived.Test.YtanjnhohfcgapaaGreatDoorGenAll
import Derived.IntWalk
set_option linter.unusedSimpArgs false
set_option linter.unusedVariables false
set_option linter.unnecessarySimpa false
namespace Go.Proofs.YtanjnhohfcgapaaGreatDoor.Sg
open Go.RowKit

theorem majority_any (n : Nat) (w : World) (hn : n ≤ 7) : Calls Tryz.prog 125 #[.int .i64 (n : Int)] w fun e w' => e = .returned (.int .i64 (maj n : Nat)) ∧ w = w' := by
  obtain ⟨h, hh⟩ : ∃ h, h = n / 2 := ⟨_, rfl⟩
  have q1 : (n : Int) / 2 = (h : Int) := by omega
  have w1 : IntKind.i64.wrap ((h : Int) + 1) = ((maj n : Nat) : Int) := by
    rw [IntWalk.i64_in _ (by omega)]; unfold maj; omega
  clear hh
  go_enter Tryz.func125, Tryz.ntmps125
  go_wp2_with fail
  go_ret
  exact ⟨rfl, rfl⟩
end Go.Proofs.YtanjnhohfcgapaaGreatDoor.Sg
namespace Go.Proofs.YtanjnhohfcgapaaGreatDoor.Sg
open Go.RowKit Go.Proofs.YtanjnhohfcgapaaGreatDoor.Crc Go.Proofs.YtanjnhohfcgapaaGreatDoor.Cm Go.Proofs.YtanjnhohfcgapaaGreatDoor.Tr Go.Proofs.YtanjnhohfcgapaaGreatDoor.Kv Go.Proofs.YtanjnhohfcgapaaGreatDoor.Au
set_option linter.unusedSimpArgs false
set_option linter.unusedVariables false

/-- What a step of hearing stands on. -/
structure Hp (w : World) (T M : Nat → Prop) (z p L : Nat) (x : Sg) (o : Ou) (G : Gh) : Prop where
  at' : XAt w T M z p x o G
  env : EnvM w M
  ok : SgOk L x
  z : z ≤ w.heap.size
  send : o.send.length ≤ 50000
  done : o.done.length ≤ 50000
  ans : o.ans.length ≤ 50000
set_option maxRecDepth 100000 in
set_option maxHeartbeats 8000000 in
theorem hears2_any {T M : Nat → Prop} {z p L k : Nat} {x : Sg} {o : Ou} {G : Gh} {a : Ak} {v : Vt} {ks : Value} (w : World) (h : Hp w T M z p L x o G) (hL : L ≤ 10000) (ha : x.asks = some a) (hv : a.votes = true) (hkn : k < x.n) (hvo : v.Ok) (hk : Ky w T ks v.c) :
    Calls Tryz.prog 101 #[.pointer (some ⟨p, 0, none⟩), .int .i64 (k : Int), vtv v ks] w fun e w' => e = .returned (.tuple #[]) ∧ Aft z p w T M (hears2M a k v (x, o)) w' := by
  obtain ⟨xv, cv, rfl⟩ := hk.slice
  have HH := hide h; have HA := hide ha; have K0 := hide hk; have HV := hide hv; have HVO := hide hvo
  have hn := h.ok.n
  have hself := h.ok.self
  have hpl := blk_lt h.at'.1
  clear h ha hk hv hvo
  unfold vtv
  simp only [strV]
  go_enter Tryz.func101, Tryz.ntmps101
  go_upto_region 1 with fail
  have hB := blk_new w (.cells (vtc v (.slice xv v.c.keys.length cv)).toArray TVt)
  have hal := (Upd.refl [] w).alloc (.cells (vtc v (.slice xv v.c.keys.length cv)).toArray TVt)
  change Code.wp _ _ _ _ (w.alloc (.cells (vtc v (.slice xv v.c.keys.length cv)).toArray TVt))
  generalize w.alloc (.cells (vtc v (.slice xv v.c.keys.length cv)).toArray TVt) = w1 at *
  obtain ⟨B, hBn⟩ : ∃ B, w.heap.size = B := ⟨_, rfl⟩
  have N1 : Hid (¬ M B ∧ ¬ T B) := hide (by rw [← hBn]; exact HH.out.at'.2.apt.new (Nat.le_refl _))
  have HBN := hide hBn
  rw [hBn] at hB hpl ⊢
  have X1 := hide (HH.out.at'.upd_nil hal); have E1 := hide (Ext.of_nil hal T M); have K1 := hide (K0.out.upd hal (by simp)); have B1 := hide hB
  clear hB hal hBn K0
  obtain ⟨ab, g, xk, ck, h1, h2, h3, h4, h5, h6, hMb, hMg, hbg, hbp, hgp, hTg, hTb⟩ := X1.out.ask_open HA.out
  have H1 := hide h1; have H2 := hide h2; have H3 := hide h3; have A4 := hide h4; have HM := hide h5; have KQ := hide h6; have NE := hide (show ab ≠ g ∧ ab ≠ p ∧ g ≠ p from ⟨hbg, hbp, hgp⟩); have NT := hide (show ¬ T g ∧ ¬ T ab ∧ M ab from ⟨hTg, hTb, hMb⟩)
  have c19 : w1.cell? ⟨p, 19, none⟩ = some (.pointer (some ⟨ab, 0, none⟩)) := by rw [← h1]; exact blk_cell X1.out.1 rfl
  clear h1 h2 h3 h4 h5 h6 hMb hMg hbg hbp hgp hTg hTb
  go_upto_region 2 with fail
  clear c19
  have s0 : (w1.drewN 1).heap[ab]? = some (.cells (akc a g (.slice xk a.c.keys.length ck)) TAk (0, 0)) ∧ (w1.drewN 1).heap[B]? = some (.cells (vtc v (.slice xv v.c.keys.length cv)).toArray TVt (0, 0)) := ⟨A4.out, B1.out⟩
  have ud : Upd [] w1 (w1.drewN 1) := (Upd.refl [] w1).drewN 1
  refine wp_region_z (fun wx => wx.heap[ab]? = some (.cells (akc a g (.slice xk a.c.keys.length ck)) TAk (0, 0)) ∧ wx.heap[B]? = some (.cells (vtc v (.slice xv v.c.keys.length cv)).toArray TVt (0, 0))) 6 (by kernel_rfl) ?_
  refine zE 0 rfl (by kernel_rfl) (fun _ _ _ _ h => h) rfl (by exact s0) ?_
  apply Exists.intro
  refine ⟨fun wx hS => ?_, ?_⟩
  · go_simp; rfl
  simp only [Act.put, List.setIfInBounds_toArray, List.set_cons_succ, List.set_cons_zero, List.getElem_toArray, List.getElem_cons_zero]
  refine zE 1 rfl (by kernel_rfl) (fun _ _ _ _ h => h) rfl (by exact s0) ?_
  apply Exists.intro
  refine ⟨fun wx hS => ?_, ?_⟩
  · go_simp; rfl
  simp only [Act.put, zz1, zz2, zz3, zz4, zz5, zz6]
  refine zE 2 rfl (by kernel_rfl) (fun _ _ _ _ h => h) rfl (by exact s0) ?_
  apply Exists.intro
  refine ⟨fun wx hS => ?_, ?_⟩
  · go_simp; rfl
  simp only [Act.put, zz1, zz2, zz3, zz4, zz5, zz6]
  refine zE 3 rfl (by kernel_rfl) (fun _ _ _ _ h => h) rfl (by exact s0) ?_
  apply Exists.intro
  refine ⟨fun wx hS => ?_, ?_⟩
  · obtain ⟨a0, a1, a2, a3, a4, a5, a6, a7, a8, a9, a10⟩ := akc_cells hS.1; go_simp; rfl
  simp only [Act.put, zz1, zz2, zz3, zz4, zz5, zz6]
  refine zE 4 rfl (by kernel_rfl) (fun _ _ _ _ h => h) rfl (by exact s0) ?_
  apply Exists.intro
  refine ⟨fun wx hS => ?_, ?_⟩
  · go_simp; rfl
  simp only [Act.put, zz1, zz2, zz3, zz4, zz5, zz6]
  refine zE 5 rfl (by kernel_rfl) (fun _ _ _ _ h => h) rfl (by exact s0) ?_
  apply Exists.intro
  refine ⟨fun wx hS => ?_, ?_⟩
  · obtain ⟨x0, x1, x2, x3, x4, x5, x6, x7, x8, x9, xf⟩ := vtc_cells hS.2; go_simp; rfl
  simp only [Act.put, zz1, zz2, zz3, zz4, zz5, zz6]
  refine wpAnyZ_one 6 (by kernel_rfl) rfl rfl (fun K hK => ?_)
  try simp only [List.getElem_toArray, List.getElem_cons_succ, List.getElem_cons_zero]
  obtain ⟨w2, hst, hM2, hu2⟩ := heard_store (HM.out.upd ud (by simp) (by simp)) v (K1.out.upd ud (by simp)) NT.out.1 k
  go_simp
  clear hst
  have X2' := (X1.out.upd_nil ud).reheard HA.out H1.out H2.out H3.out (ud.get A4.out (by simp)) (KQ.out.upd ud (by simp)) hM2 hu2
  have X2 := hide X2'.1; have E2 := hide ((E1.out.on ud (by simp)).trans X2'.2)
  have nT : ∀ j ∈ [g], ¬ T j := fun j hj => by simp at hj; subst hj; exact NT.out.1
  have A5 := hide (hu2.get A4.out (by simp; exact NE.out.1)); have HM2 := hide hM2; have KQ2 := hide ((KQ.out.upd ud (by simp)).upd hu2 nT)
  clear hM2 hu2 X2' nT s0 ud X1 E1 K1 A4 HM KQ
  refine hK _ _ (.inl rfl) ?_
  clear hK K
  try simp only [Act.put, zz1, zz2, zz3]
  refine wpAnyZ_done (by kernel_rfl) ?_ _
  have HO2 : HOk x.n (putH a.heard k v) := ((HH.out.ok.asks a HA.out).2.2).put hkn HVO.out
  have HO := hide HO2
  clear HO2
  obtain ⟨C, hC⟩ : ∃ C, cntH x.n (putH a.heard k v) = C := ⟨_, rfl⟩
  have HC := hide hC
  have ll := fun n => heard_len (w := w2.drewN n) (HM2.out.upd ((Upd.refl [] w2).drewN n) (by simp) (by simp)) x.n HO.out
  simp only [hC] at ll
  have a10 : ∀ n, (w2.drewN n).cell? ⟨ab, 10, none⟩ = some (.map (some g)) := fun n => (akc_cells (((Upd.refl [] w2).drewN n).get A5.out (by simp))).2.2.2.2.2.2.2.2.2.2
  have c1 : ∀ n, (w2.drewN n).cell? ⟨p, 1, none⟩ = some (.int .i64 (x.n : Int)) := fun n => blk_cell (((Upd.refl [] w2).drewN n).get X2.out.1 (by simp)) rfl
  clear hC
  by_cases hlt : C < maj x.n
  · have d1 : decide ((C : Int) < (maj x.n : Nat)) = true := by simp; omega
    have d2 : decide (C < maj x.n) = true := by simpa using hlt
    have HLT := hide hlt
    clear hlt
    go_upto_region 3 with fail
    go_quiet ((go_at_call 125; exact quiet_left (majority_any x.n _ hn)))
    go_wp2_with fail
    refine bodyPost_ret (results_none rfl _ _ _) rfl ?_
    refine ⟨rfl, T, _, G, ?_, E2.out.drewN _⟩
    unfold hears2M
    rw [if_pos (by rw [HC.out]; exact HLT.out)]
    exact X2.out.upd_nil ((Upd.refl [] w2).drewN _)
  · have d1 : decide ((C : Int) < (maj x.n : Nat)) = false := by simp; omega
    have d2 : decide (C < maj x.n) = false := by simpa using hlt
    have HLT := hide hlt
    clear hlt
    have a2 : ∀ n, (w2.drewN n).cell? ⟨ab, 2, none⟩ = some (.bool true) := fun n => by rw [← HV.out]; exact (akc_cells (((Upd.refl [] w2).drewN n).get A5.out (by simp))).2.2.1
    go_upto_region 3 with fail
    go_quiet ((go_at_call 125; exact quiet_left (majority_any x.n _ hn)))
    go_upto_region 5 with fail
    clear a2 a10 c1 ll
    obtain ⟨w3, hw3⟩ : ∃ w3, w2.drewN nq = w3 := ⟨_, rfl⟩
    have u3 : Upd [] w2 w3 := by rw [← hw3]; exact (Upd.refl [] w2).drewN nq
    have X3 := hide (X2.out.upd_nil u3); have E3 := hide (E2.out.on u3 (by simp)); have A3 := hide (u3.get A5.out (by simp)); have HM3 := hide (HM2.out.upd u3 (by simp) (by simp)); have KQ3 := hide (KQ2.out.upd u3 (by simp))
    rw [hw3]
    clear hw3 u3 X2 E2 A5 HM2 KQ2
    generalize plus (plus M G.ab) G.gb = M3 at *
    have hab3 := blk_lt A3.out
    have hpl3 := blk_lt X3.out.1
    have hg3 : g < w3.heap.size := by obtain ⟨F, hF, -⟩ := HM3.out; exact hF.lt
    obtain ⟨a0, a1, a2, a3, a4, a5, a6, a7, a8, a9, a10⟩ := akc_cells A3.out
    have hC := blk_new w3 (.cells (cmc a.c (.slice xk a.c.keys.length ck)).toArray Cm.TCmd)
    have halc := (Upd.refl [] w3).alloc (.cells (cmc a.c (.slice xk a.c.keys.length ck)).toArray Cm.TCmd)
    go_upto_region 6 with fail
    change Code.wp _ _ _ _ (w3.alloc (.cells (cmc a.c (.slice xk a.c.keys.length ck)).toArray Cm.TCmd))
    generalize w3.alloc (.cells (cmc a.c (.slice xk a.c.keys.length ck)).toArray Cm.TCmd) = w4 at *
    clear a0 a1 a2 a3 a4 a5 a6 a7 a8 a9 a10
    have NC : Hid (¬ M3 w3.heap.size ∧ ¬ T w3.heap.size) := hide (X3.out.2.apt.new (Nat.le_refl _))
    obtain ⟨D, hD⟩ : ∃ D, w3.heap.size = D := ⟨_, rfl⟩
    rw [hD] at hC NC hab3 hpl3 hg3 ⊢
    have HDs := hide (show w.heap.size ≤ D by rw [← hD]; exact E3.out.size)
    have X4 := hide (X3.out.upd_nil halc); have E4 := hide (E3.out.on halc (by simp)); have A4 := hide (halc.get A3.out (by simp)); have HM4 := hide (HM3.out.upd halc (by simp) (by simp)); have KQ4 := hide (KQ3.out.upd halc (by simp)); have C4 := hide hC
    clear hC halc hD X3 E3 A3 HM3 KQ3
    obtain ⟨w5, hcl, hM5, hu5⟩ := heard_clear HM4.out 0
    have a10 : w4.cell? ⟨ab, 10, none⟩ = some (.map (some g)) := (akc_cells A4.out).2.2.2.2.2.2.2.2.2.2
    go_upto_region 7 with fail
    clear a10 hcl
    have X5' := X4.out.reheard (a := { a with heard := putH a.heard k v }) rfl H1.out H2.out H3.out A4.out KQ4.out hM5 hu5
    have nT : ∀ j ∈ [g], ¬ T j := fun j hj => by simp at hj; subst hj; exact NT.out.1
    have X5 := hide X5'.1; have E5 := hide (E4.out.trans X5'.2); have C5 := hide (hu5.get C4.out (by simp; omega)); have KQ5 := hide (KQ4.out.upd hu5 nT)
    have N5 := hide (X5'.2.not (blk_lt C4.out) NC.out)
    clear X5' nT hM5 hu5 X4 E4 A4 HM4 KQ4 C4 NC
    generalize plus (plus M3 G.ab) G.gb = M5 at *
    obtain ⟨y0, y1, y2, y3, y4, y5, y6⟩ := cmc_cells C5.out
    have hD5 := blk_lt C5.out
    have hok := HH.out.ok.asks a HA.out
    have HOKC := hide hok.2.1
    have hself := HH.out.ok.self
    clear hok
    go_wp2_with fail
    refine (others_any (z := z) (m := mgc 6 0 Bal.zero a.c) (ks := .slice xk a.c.keys.length ck) w5 X5.out rfl ⟨by simp [mgc], by simp [mgc], by simp [mgc, Bal.zero], by simp [mgc, Bal.zero], HOKC.out.2⟩ KQ5.out (by have := HH.out.z; have := E5.out.size; omega) (by have := HH.out.ok.len; show x.log.length ≤ _; omega) hn hself (by have := HH.out.send; omega)).mono ?_
    rintro e w6 ⟨rfl, T6, M6, G6, hX6, hE6⟩
    have X6 := hide hX6; have E6 := hide (E5.out.trans hE6); have C6 := hide (hE6.get C5.out N5.out.1); have N6 := hide (hE6.not hD5 N5.out); have KQ6 := hide (hE6.ky X5.out.2.apt.apart KQ5.out)
    clear hX6 hE6 X5 E5 C5 N5 KQ5 y0 y1 y2 y3 y4 y5 y6
    obtain ⟨y0, y1, y2, y3, y4, y5, y6⟩ := cmc_cells C6.out
    go_wp2_with fail
    refine (know_any (z := z) (L := L) (c := a.c) (ks := .slice xk a.c.keys.length ck) w6 X6.out (E6.out.envM HH.out.env) KQ6.out ?_ hL HOKC.out (by have := HH.out.z; have := E6.out.size; omega) (by have := HH.out.done; exact Nat.le_trans this (by omega)) (by have := HH.out.ans; exact Nat.le_trans this (by omega))).mono ?_
    · have ok := HH.out.ok
      exact ⟨ok.self, ok.n, ok.len, ok.app, ok.waits, ok.pn, ok.sn, ok.vote, fun d hd => by cases hd; exact ⟨(ok.asks a HA.out).1, HOKC.out, HOk.none _⟩, ok.log, ok.wait⟩
    rintro e w7 ⟨rfl, h7⟩
    have H7 := hide (Aft.ext E6.out h7)
    clear h7 y0 y1 y2 y3 y4 y5 y6
    go_wp2_with fail
    refine bodyPost_ret (results_none rfl _ _ _) rfl ?_
    refine ⟨rfl, ?_⟩
    unfold hears2M
    rw [if_neg (by rw [HC.out]; exact HLT.out)]
    exact H7.out
set_option maxRecDepth 100000 in
set_option maxHeartbeats 8000000 in
theorem hears1_any {T M : Nat → Prop} {z p L k : Nat} {x : Sg} {o : Ou} {G : Gh} {a : Ak} {v : Vt} {ks : Value} (w : World) (h : Hp w T M z p L x o G) (hL : L ≤ 10000) (ha : x.asks = some a) (hv : a.votes = false) (hkn : k < x.n) (hvo : v.Ok) (hk : Ky w T ks v.c) (hs7 : o.send.length ≤ 40000) :
    Calls Tryz.prog 101 #[.pointer (some ⟨p, 0, none⟩), .int .i64 (k : Int), vtv v ks] w fun e w' => e = .returned (.tuple #[]) ∧ Aft z p w T M (hears1M a k v (x, o)) w' := by
  obtain ⟨xv, cv, rfl⟩ := hk.slice
  have HH := hide h; have HA := hide ha; have K0 := hide hk; have HV := hide hv; have HVO := hide hvo
  have hn := h.ok.n
  have hself := h.ok.self
  have hpl := blk_lt h.at'.1
  clear h ha hk hv hvo
  unfold vtv
  simp only [strV]
  go_enter Tryz.func101, Tryz.ntmps101
  go_upto_region 1 with fail
  have hB := blk_new w (.cells (vtc v (.slice xv v.c.keys.length cv)).toArray TVt)
  have hal := (Upd.refl [] w).alloc (.cells (vtc v (.slice xv v.c.keys.length cv)).toArray TVt)
  change Code.wp _ _ _ _ (w.alloc (.cells (vtc v (.slice xv v.c.keys.length cv)).toArray TVt))
  generalize w.alloc (.cells (vtc v (.slice xv v.c.keys.length cv)).toArray TVt) = w1 at *
  obtain ⟨B, hBn⟩ : ∃ B, w.heap.size = B := ⟨_, rfl⟩
  have N1 : Hid (¬ M B ∧ ¬ T B) := hide (by rw [← hBn]; exact HH.out.at'.2.apt.new (Nat.le_refl _))
  have HBN := hide hBn
  rw [hBn] at hB hpl ⊢
  have X1 := hide (HH.out.at'.upd_nil hal); have E1 := hide (Ext.of_nil hal T M); have K1 := hide (K0.out.upd hal (by simp)); have B1 := hide hB
  clear hB hal hBn K0
  obtain ⟨ab, g, xk, ck, h1, h2, h3, h4, h5, h6, hMb, hMg, hbg, hbp, hgp, hTg, hTb⟩ := X1.out.ask_open HA.out
  have H1 := hide h1; have H2 := hide h2; have H3 := hide h3; have A4 := hide h4; have HM := hide h5; have KQ := hide h6; have NE := hide (show ab ≠ g ∧ ab ≠ p ∧ g ≠ p from ⟨hbg, hbp, hgp⟩); have NT := hide (show ¬ T g ∧ ¬ T ab ∧ M ab from ⟨hTg, hTb, hMb⟩)
  have c19 : w1.cell? ⟨p, 19, none⟩ = some (.pointer (some ⟨ab, 0, none⟩)) := by rw [← h1]; exact blk_cell X1.out.1 rfl
  clear h1 h2 h3 h4 h5 h6 hMb hMg hbg hbp hgp hTg hTb
  go_upto_region 2 with fail
  clear c19
  have s0 : (w1.drewN 1).heap[ab]? = some (.cells (akc a g (.slice xk a.c.keys.length ck)) TAk (0, 0)) ∧ (w1.drewN 1).heap[B]? = some (.cells (vtc v (.slice xv v.c.keys.length cv)).toArray TVt (0, 0)) := ⟨A4.out, B1.out⟩
  have ud : Upd [] w1 (w1.drewN 1) := (Upd.refl [] w1).drewN 1
  refine wp_region_z (fun wx => wx.heap[ab]? = some (.cells (akc a g (.slice xk a.c.keys.length ck)) TAk (0, 0)) ∧ wx.heap[B]? = some (.cells (vtc v (.slice xv v.c.keys.length cv)).toArray TVt (0, 0))) 6 (by kernel_rfl) ?_
  refine zE 0 rfl (by kernel_rfl) (fun _ _ _ _ h => h) rfl (by exact s0) ?_
  apply Exists.intro
  refine ⟨fun wx hS => ?_, ?_⟩
  · go_simp; rfl
  simp only [Act.put, List.setIfInBounds_toArray, List.set_cons_succ, List.set_cons_zero, List.getElem_toArray, List.getElem_cons_zero]
  refine zE 1 rfl (by kernel_rfl) (fun _ _ _ _ h => h) rfl (by exact s0) ?_
  apply Exists.intro
  refine ⟨fun wx hS => ?_, ?_⟩
  · go_simp; rfl
  simp only [Act.put, zz1, zz2, zz3, zz4, zz5, zz6]
  refine zE 2 rfl (by kernel_rfl) (fun _ _ _ _ h => h) rfl (by exact s0) ?_
  apply Exists.intro
  refine ⟨fun wx hS => ?_, ?_⟩
  · go_simp; rfl
  simp only [Act.put, zz1, zz2, zz3, zz4, zz5, zz6]
  refine zE 3 rfl (by kernel_rfl) (fun _ _ _ _ h => h) rfl (by exact s0) ?_
  apply Exists.intro
  refine ⟨fun wx hS => ?_, ?_⟩
  · obtain ⟨a0, a1, a2, a3, a4, a5, a6, a7, a8, a9, a10⟩ := akc_cells hS.1; go_simp; rfl
  simp only [Act.put, zz1, zz2, zz3, zz4, zz5, zz6]
  refine zE 4 rfl (by kernel_rfl) (fun _ _ _ _ h => h) rfl (by exact s0) ?_
  apply Exists.intro
  refine ⟨fun wx hS => ?_, ?_⟩
  · go_simp; rfl
  simp only [Act.put, zz1, zz2, zz3, zz4, zz5, zz6]
  refine zE 5 rfl (by kernel_rfl) (fun _ _ _ _ h => h) rfl (by exact s0) ?_
  apply Exists.intro
  refine ⟨fun wx hS => ?_, ?_⟩
  · obtain ⟨x0, x1, x2, x3, x4, x5, x6, x7, x8, x9, xf⟩ := vtc_cells hS.2; go_simp; rfl
  simp only [Act.put, zz1, zz2, zz3, zz4, zz5, zz6]
  refine wpAnyZ_one 6 (by kernel_rfl) rfl rfl (fun K hK => ?_)
  try simp only [List.getElem_toArray, List.getElem_cons_succ, List.getElem_cons_zero]
  obtain ⟨w2, hst, hM2, hu2⟩ := heard_store (HM.out.upd ud (by simp) (by simp)) v (K1.out.upd ud (by simp)) NT.out.1 k
  go_simp
  clear hst
  have X2' := (X1.out.upd_nil ud).reheard HA.out H1.out H2.out H3.out (ud.get A4.out (by simp)) (KQ.out.upd ud (by simp)) hM2 hu2
  have X2 := hide X2'.1; have E2 := hide ((E1.out.on ud (by simp)).trans X2'.2)
  have nT : ∀ j ∈ [g], ¬ T j := fun j hj => by simp at hj; subst hj; exact NT.out.1
  have A5 := hide (hu2.get A4.out (by simp; exact NE.out.1)); have HM2 := hide hM2; have KQ2 := hide ((KQ.out.upd ud (by simp)).upd hu2 nT)
  clear hM2 hu2 X2' nT s0 ud X1 E1 K1 A4 HM KQ
  refine hK _ _ (.inl rfl) ?_
  clear hK K
  try simp only [Act.put, zz1, zz2, zz3]
  refine wpAnyZ_done (by kernel_rfl) ?_ _
  have HO2 : HOk x.n (putH a.heard k v) := ((HH.out.ok.asks a HA.out).2.2).put hkn HVO.out
  have HO := hide HO2
  clear HO2
  obtain ⟨C, hC⟩ : ∃ C, cntH x.n (putH a.heard k v) = C := ⟨_, rfl⟩
  have HC := hide hC
  have ll := fun n => heard_len (w := w2.drewN n) (HM2.out.upd ((Upd.refl [] w2).drewN n) (by simp) (by simp)) x.n HO.out
  simp only [hC] at ll
  have a10 : ∀ n, (w2.drewN n).cell? ⟨ab, 10, none⟩ = some (.map (some g)) := fun n => (akc_cells (((Upd.refl [] w2).drewN n).get A5.out (by simp))).2.2.2.2.2.2.2.2.2.2
  have c1 : ∀ n, (w2.drewN n).cell? ⟨p, 1, none⟩ = some (.int .i64 (x.n : Int)) := fun n => blk_cell (((Upd.refl [] w2).drewN n).get X2.out.1 (by simp)) rfl
  clear hC
  by_cases hlt : C < maj x.n
  · have d1 : decide ((C : Int) < (maj x.n : Nat)) = true := by simp; omega
    have d2 : decide (C < maj x.n) = true := by simpa using hlt
    have HLT := hide hlt
    clear hlt
    go_upto_region 3 with fail
    go_quiet ((go_at_call 125; exact quiet_left (majority_any x.n _ hn)))
    go_wp2_with fail
    refine bodyPost_ret (results_none rfl _ _ _) rfl ?_
    refine ⟨rfl, T, _, G, ?_, E2.out.drewN _⟩
    unfold hears1M
    rw [if_pos (by rw [HC.out]; exact HLT.out)]
    exact X2.out.upd_nil ((Upd.refl [] w2).drewN _)
  · have d1 : decide ((C : Int) < (maj x.n : Nat)) = false := by simp; omega
    have d2 : decide (C < maj x.n) = false := by simpa using hlt
    have HLT := hide hlt
    clear hlt
    have a2 : ∀ n, (w2.drewN n).cell? ⟨ab, 2, none⟩ = some (.bool false) := fun n => by rw [← HV.out]; exact (akc_cells (((Upd.refl [] w2).drewN n).get A5.out (by simp))).2.2.1
    go_upto_region 3 with fail
    go_quiet ((go_at_call 125; exact quiet_left (majority_any x.n _ hn)))
    go_upto_region 9 with fail
    clear a2 a10 c1 ll
    obtain ⟨w3, hw3⟩ : ∃ w3, w2.drewN nq = w3 := ⟨_, rfl⟩
    have u3 : Upd [] w2 w3 := by rw [← hw3]; exact (Upd.refl [] w2).drewN nq
    have X3 := hide (X2.out.upd_nil u3); have E3 := hide (E2.out.on u3 (by simp)); have A3 := hide (u3.get A5.out (by simp))
    rw [hw3]
    clear hw3 u3 X2 E2 A5 HM2 KQ2
    generalize plus (plus M G.ab) G.gb = M3 at *
    obtain ⟨a', ha'⟩ : ∃ a' : Ak, { a with heard := putH a.heard k v } = a' := ⟨_, rfl⟩
    rw [ha'] at X3
    have HA' := hide ha'
    clear ha'
    obtain ⟨c, hc⟩ : ∃ c, bestM x.n a' = c := ⟨_, rfl⟩
    have hb := best_any w3 X3.out rfl hn
    rw [hc] at hb
    have HCB := hide hc
    have HB := hide hb
    clear hb hc
    go_wp2_with fail
    refine HB.out.mono ?_
    rintro e w4 ⟨kb, rfl, hkb, hub⟩
    obtain ⟨xk', ck', rfl⟩ := hkb.slice
    have X4 := hide (X3.out.upd_nil hub); have E4 := hide (E3.out.on hub (by simp)); have A4 := hide (hub.get A3.out (by simp)); have KB4 := hide hkb
    clear hkb hub X3 E3 A3 HB
    unfold cmv
    simp only [strV]
    have hC := blk_new w4 (.cells (cmc c (.slice xk' c.keys.length ck')).toArray Cm.TCmd)
    have halc := (Upd.refl [] w4).alloc (.cells (cmc c (.slice xk' c.keys.length ck')).toArray Cm.TCmd)
    have hab4 := blk_lt A4.out
    have hpl4 := blk_lt X4.out.1
    go_upto_region 10 with fail
    change Code.wp _ _ _ _ (w4.alloc (.cells (cmc c (.slice xk' c.keys.length ck')).toArray Cm.TCmd))
    generalize w4.alloc (.cells (cmc c (.slice xk' c.keys.length ck')).toArray Cm.TCmd) = w5 at *
    have NC : Hid (¬ M3 w4.heap.size ∧ ¬ T w4.heap.size) := hide (X4.out.2.apt.new (Nat.le_refl _))
    obtain ⟨D, hD⟩ : ∃ D, w4.heap.size = D := ⟨_, rfl⟩
    rw [hD] at hC NC hab4 hpl4 ⊢
    have X5 := hide (X4.out.upd_nil halc); have E5 := hide (E4.out.on halc (by simp)); have A5 := hide (halc.get A4.out (by simp)); have KB5 := hide (KB4.out.upd halc (by simp)); have C5 := hide hC
    clear hC halc hD X4 E4 A4 KB4
    have hSO : SgOk L { x with asks := some a' } := ⟨HH.out.ok.self, HH.out.ok.n, HH.out.ok.len, HH.out.ok.app, HH.out.ok.waits, HH.out.ok.pn, HH.out.ok.sn, HH.out.ok.vote, fun d hd => by
      cases hd
      rw [← HA'.out]
      exact ⟨(HH.out.ok.asks a HA.out).1, (HH.out.ok.asks a HA.out).2.1, HO.out⟩, HH.out.ok.log, HH.out.ok.wait⟩
    have HCO : Hid (Sm c) := hide (by
      rw [← HCB.out]
      exact bestM_ok (hSO.asks a' rfl))
    have HBO := hide (HH.out.ok.asks a HA.out).1
    clear hSO
    obtain ⟨x3, hx3⟩ : ∃ x3 : Sg, { x with asks := some a' } = x3 := ⟨_, rfl⟩
    rw [hx3] at X5
    have HX3 := hide hx3
    clear hx3
    have s0 : (w5.drewN 1).heap[p]? = some (.cells (sgc x3 G) TSg (0, 0)) ∧ (w5.drewN 1).heap[ab]? = some (.cells (akc a g (.slice xk a.c.keys.length ck)) TAk (0, 0)) ∧ (w5.drewN 1).heap[D]? = some (.cells (cmc c (.slice xk' c.keys.length ck')).toArray Cm.TCmd (0, 0)) := ⟨X5.out.1, A5.out, C5.out⟩
    refine wp_region_z (fun wx => wx.heap[p]? = some (.cells (sgc x3 G) TSg (0, 0)) ∧ wx.heap[ab]? = some (.cells (akc a g (.slice xk a.c.keys.length ck)) TAk (0, 0)) ∧ wx.heap[D]? = some (.cells (cmc c (.slice xk' c.keys.length ck')).toArray Cm.TCmd (0, 0))) 9 (by kernel_rfl) ?_
    refine zE 0 rfl (by kernel_rfl) (fun _ _ _ _ h => h) rfl (by exact s0) ?_
    apply Exists.intro
    refine ⟨fun wx hS => ?_, ?_⟩
    · go_simp; rfl
    simp only [Act.put, List.setIfInBounds_toArray, List.set_cons_succ, List.set_cons_zero, List.getElem_toArray, List.getElem_cons_zero]
    refine zE 1 rfl (by kernel_rfl) (fun _ _ _ _ h => h) rfl (by exact s0) ?_
    apply Exists.intro
    refine ⟨fun wx hS => ?_, ?_⟩
    · go_simp; rfl
    simp only [Act.put, zz1, zz2, zz3, zz4, zz5, zz6]
    refine zE 2 rfl (by kernel_rfl) (fun _ _ _ _ h => h) rfl (by exact s0) ?_
    apply Exists.intro
    refine ⟨fun wx hS => ?_, ?_⟩
    · go_simp; rfl
    simp only [Act.put, zz1, zz2, zz3, zz4, zz5, zz6]
    refine zE 3 rfl (by kernel_rfl) (fun _ _ _ _ h => h) rfl (by exact s0) ?_
    apply Exists.intro
    refine ⟨fun wx hS => ?_, ?_⟩
    · go_simp; rfl
    simp only [Act.put, zz1, zz2, zz3, zz4, zz5, zz6]
    refine zE 4 rfl (by kernel_rfl) (fun _ _ _ _ h => h) rfl (by exact s0) ?_
    apply Exists.intro
    refine ⟨fun wx hS => ?_, ?_⟩
    · obtain ⟨a0, a1, a2, a3, a4, a5, a6, a7, a8, a9, a10⟩ := akc_cells hS.2.1; go_simp; rfl
    simp only [Act.put, zz1, zz2, zz3, zz4, zz5, zz6]
    refine zE 5 rfl (by kernel_rfl) (fun _ _ _ _ h => h) rfl (by exact s0) ?_
    apply Exists.intro
    refine ⟨fun wx hS => ?_, ?_⟩
    · obtain ⟨y0, y1, y2, y3, y4, y5, y6⟩ := cmc_cells hS.2.2; go_simp; rfl
    simp only [Act.put, zz1, zz2, zz3, zz4, zz5, zz6]
    refine zE 6 rfl (by kernel_rfl) (fun _ _ _ _ h => h) rfl (by exact s0) ?_
    apply Exists.intro
    refine ⟨fun wx hS => ?_, ?_⟩
    · go_simp; rfl
    simp only [Act.put, zz1, zz2, zz3, zz4, zz5, zz6]
    refine wpAnyZ_one 7 (by kernel_rfl) rfl rfl (fun K hK => ?_)
    try simp only [List.getElem_toArray, List.getElem_cons_succ, List.getElem_cons_zero]
    go_simp
    refine hK _ _ (.inr s0) ?_
    clear hK K
    try simp only [Act.put, zz1, zz2, zz3]
    refine wpAnyZ_one 8 (by kernel_rfl) rfl rfl (fun K hK => ?_)
    try simp only [List.getElem_toArray, List.getElem_cons_succ, List.getElem_cons_zero]
    go_simp
    refine hK _ _ (.inr s0) ?_
    clear hK K
    try simp only [Act.put, zz1, zz2, zz3]
    obtain ⟨k4, k5, k6, k7, k8, k9, k10, k11, k12, k13, k14, k15, k16, k17, k19, kf⟩ := XAt.cells (w := w5.drewN 1) s0.1
    refine wpAnyZ_one 9 (by kernel_rfl) rfl rfl (fun K hK => ?_)
    try simp only [List.getElem_toArray, List.getElem_cons_succ, List.getElem_cons_zero]
    go_simp
    clear k4 k5 k6 k7 k8 k9 k10 k11 k12 k13 k14 k15 k16 k17 k19 kf
    change K _ (voteW (w5.drewN 1) p ⟨true, a.b, c⟩ (.slice xk' c.keys.length ck'))
    have ud5 : Upd [] w5 (w5.drewN 1) := (Upd.refl [] w5).drewN 1
    have hv6 := (X5.out.upd_nil ud5).setVote (v := ⟨true, a.b, c⟩) (KB5.out.upd ud5 (by simp))
    generalize voteW (w5.drewN 1) p ⟨true, a.b, c⟩ (.slice xk' c.keys.length ck') = w6 at *
    have nTp : ∀ j ∈ [p], ¬ T j := fun j hj ht => by simp at hj; subst hj; exact X5.out.2.apt.apart _ ht X5.out.2.pM
    have u56 : Upd [p] w5 w6 := (ud5.mono (by simp)).trans hv6.2
    have pD : p ≠ D := by omega
    have X6 := hide hv6.1; have E6 := hide (E5.out.trans (X5.out.ext_p u56)); have A6 := hide (u56.get A5.out (by simp; exact NE.out.2.1)); have C6 := hide (u56.get C5.out (by simp; omega)); have KB6 := hide (KB5.out.upd u56 nTp)
    clear hv6 nTp u56 X5 E5 A5 C5 KB5 s0 ud5
    refine hK _ _ (.inl rfl) ?_
    clear hK K
    try simp only [Act.put, zz1, zz2, zz3]
    refine wpAnyZ_done (by kernel_rfl) ?_ _
    go_upto_region 11 with fail
    obtain ⟨a2, ha2⟩ : ∃ a2 : Ak, (⟨a.b, true, c, noneH⟩ : Ak) = a2 := ⟨_, rfl⟩
    have HA2 := hide ha2
    clear ha2
    have s0 : (w6.drewN 1).heap[p]? = some (.cells (sgc { x3 with vote := ⟨true, a.b, c⟩ } { G with ks := .slice xk' c.keys.length ck' }) TSg (0, 0)) ∧ (w6.drewN 1).heap[ab]? = some (.cells (akc a g (.slice xk a.c.keys.length ck)) TAk (0, 0)) ∧ (w6.drewN 1).heap[D]? = some (.cells (cmc c (.slice xk' c.keys.length ck')).toArray Cm.TCmd (0, 0)) := ⟨X6.out.1, A6.out, C6.out⟩
    refine wp_region_z (fun wx => wx.heap[p]? = some (.cells (sgc { x3 with vote := ⟨true, a.b, c⟩ } { G with ks := .slice xk' c.keys.length ck' }) TSg (0, 0)) ∧ wx.heap[ab]? = some (.cells (akc a g (.slice xk a.c.keys.length ck)) TAk (0, 0)) ∧ wx.heap[D]? = some (.cells (cmc c (.slice xk' c.keys.length ck')).toArray Cm.TCmd (0, 0))) 11 (by kernel_rfl) ?_
    refine zE 0 rfl (by kernel_rfl) (fun _ _ _ _ h => h) rfl (by exact s0) ?_
    apply Exists.intro
    refine ⟨fun wx hS => ?_, ?_⟩
    · go_simp; rfl
    simp only [Act.put, List.setIfInBounds_toArray, List.set_cons_succ, List.set_cons_zero, List.getElem_toArray, List.getElem_cons_zero]
    refine zE 1 rfl (by kernel_rfl) (fun _ _ _ _ h => h) rfl (by exact s0) ?_
    apply Exists.intro
    refine ⟨fun wx hS => ?_, ?_⟩
    · go_simp; rfl
    simp only [Act.put, zz1, zz2, zz3, zz4, zz5, zz6]
    refine zE 2 rfl (by kernel_rfl) (fun _ _ _ _ h => h) rfl (by exact s0) ?_
    apply Exists.intro
    refine ⟨fun wx hS => ?_, ?_⟩
    · go_simp; rfl
    simp only [Act.put, zz1, zz2, zz3, zz4, zz5, zz6]
    refine zE 3 rfl (by kernel_rfl) (fun _ _ _ _ h => h) rfl (by exact s0) ?_
    apply Exists.intro
    refine ⟨fun wx hS => ?_, ?_⟩
    · go_simp; rfl
    simp only [Act.put, zz1, zz2, zz3, zz4, zz5, zz6]
    refine zE 4 rfl (by kernel_rfl) (fun _ _ _ _ h => h) rfl (by exact s0) ?_
    apply Exists.intro
    refine ⟨fun wx hS => ?_, ?_⟩
    · obtain ⟨a0, a1, a2, a3, a4, a5, a6, a7, a8, a9, a10⟩ := akc_cells hS.2.1; go_simp; rfl
    simp only [Act.put, zz1, zz2, zz3, zz4, zz5, zz6]
    refine zE 5 rfl (by kernel_rfl) (fun _ _ _ _ h => h) rfl (by exact s0) ?_
    apply Exists.intro
    refine ⟨fun wx hS => ?_, ?_⟩
    · obtain ⟨y0, y1, y2, y3, y4, y5, y6⟩ := cmc_cells hS.2.2; go_simp; rfl
    simp only [Act.put, zz1, zz2, zz3, zz4, zz5, zz6]
    have ud6 : Upd [] w6 (w6.drewN 1) := (Upd.refl [] w6).drewN 1
    have X6' := hide (X6.out.upd_nil ud6); have E6' := hide (E6.out.on ud6 (by simp)); have A6' := hide (ud6.get A6.out (by simp)); have C6' := hide (ud6.get C6.out (by simp)); have KB6' := hide (KB6.out.upd ud6 (by simp))
    have hp6 := blk_lt X6.out.1
    have hD6 := blk_lt C6.out
    have hab6 := blk_lt A6.out
    obtain ⟨w7, hw7⟩ : ∃ w7, w6.drewN 1 = w7 := ⟨_, rfl⟩
    have hsz7 : w6.heap.size = w7.heap.size := by rw [← hw7]; rfl
    rw [hw7] at X6' E6' A6' C6' KB6' s0 ⊢
    clear hw7 X6 E6 A6 C6 KB6 ud6
    refine wpAnyZ_one 6 (by kernel_rfl) rfl rfl (fun K hK => ?_)
    try simp only [List.getElem_toArray, List.getElem_cons_succ, List.getElem_cons_zero]
    go_simp
    have u7 := (Upd.refl [] w7).alloc (.map #[] 0)
    have s7 := (show _ ∧ _ ∧ _ from ⟨u7.get s0.1 (by simp), u7.get s0.2.1 (by simp), u7.get s0.2.2 (by simp)⟩)
    refine hK _ _ (.inr s7) ?_
    clear hK K
    try simp only [Act.put, zz1, zz2, zz3]
    refine zE 7 rfl (by kernel_rfl) (fun _ _ _ _ h => h) rfl (by exact s7) ?_
    apply Exists.intro
    refine ⟨fun wx hS => ?_, ?_⟩
    · go_simp; rfl
    simp only [Act.put, zz1, zz2, zz3, zz4, zz5, zz6]
    refine wpAnyZ_one 8 (by kernel_rfl) rfl rfl (fun K hK => ?_)
    try simp only [List.getElem_toArray, List.getElem_cons_succ, List.getElem_cons_zero]
    go_simp
    have u8 := u7.alloc (.cells (akc a2 w7.heap.size (.slice xk' c.keys.length ck')) TAk)
    have s8 := (show _ ∧ _ ∧ _ from ⟨u8.get s0.1 (by simp), u8.get s0.2.1 (by simp), u8.get s0.2.2 (by simp)⟩)
    have e8 : Obj.cells (akc a2 w7.heap.size (.slice xk' c.keys.length ck')) TAk = .cells #[.int .u64 (a.b.n : Int), .int .i64 a.b.r, .bool true, .int .u32 (c.client : Int), .int .u32 (c.seq : Int), .int .u8 (c.kind : Int), .slice xk' c.keys.length ck', .string (strOf c.old), .string (strOf c.new), .int .i64 c.n, .map (some w7.heap.size)] TAk := by rw [← HA2.out]; rfl
    rw [← e8]
    clear e8
    refine hK _ _ (.inr s8) ?_
    clear hK K
    try simp only [Act.put, zz1, zz2, zz3]
    refine wpAnyZ_one 9 (by kernel_rfl) rfl rfl (fun K hK => ?_)
    try simp only [List.getElem_toArray, List.getElem_cons_succ, List.getElem_cons_zero]
    go_simp
    refine hK _ _ (.inr s8) ?_
    clear hK K
    try simp only [Act.put, zz1, zz2, zz3]
    refine wpAnyZ_one 10 (by kernel_rfl) rfl rfl (fun K hK => ?_)
    try simp only [List.getElem_toArray, List.getElem_cons_succ, List.getElem_cons_zero]
    go_simp
    refine hK _ _ (.inr s8) ?_
    clear hK K
    try simp only [Act.put, zz1, zz2, zz3]
    have k19 : ((w7.alloc (.map #[] 0)).alloc (.cells (akc a2 w7.heap.size (.slice xk' c.keys.length ck')) TAk)).cell? ⟨p, 19, none⟩ = some G.akv := blk_cell s8.1 rfl
    have kf : ((w7.alloc (.map #[] 0)).alloc (.cells (akc a2 w7.heap.size (.slice xk' c.keys.length ck')) TAk)).frozen? ⟨p, 19, none⟩ = false := blk_free s8.1
    refine wpAnyZ_one 11 (by kernel_rfl) rfl rfl (fun K hK => ?_)
    try simp only [List.getElem_toArray, List.getElem_cons_succ, List.getElem_cons_zero]
    go_simp
    clear k19 kf
    obtain ⟨w8, hw8⟩ : ∃ w8, ((w7.alloc (.map #[] 0)).alloc (.cells (akc a2 w7.heap.size (.slice xk' c.keys.length ck')) TAk)).setCell ⟨p, 19, none⟩ (.pointer (some ⟨w7.heap.size + 1, 0, none⟩)) = w8 := ⟨_, rfl⟩
    obtain ⟨M8, G8, hX8, hE8⟩ := X6'.out.asked (a := a2) (ks := .slice xk' c.keys.length ck') (by rw [← HA2.out]; exact KB6'.out) (by rw [← HA2.out]) hw8.symm
    have us : Upd [p] ((w7.alloc (.map #[] 0)).alloc (.cells (akc a2 w7.heap.size (.slice xk' c.keys.length ck')) TAk)) w8 := by rw [← hw8]; exact (Upd.refl [p] _).setCell (p := ⟨p, 19, none⟩) (.inl (by simp)) _
    rw [hw8]
    have X8 := hide hX8; have E8 := hide (E6'.out.trans hE8); have A8 := hide (us.get s8.2.1 (by simp; exact NE.out.2.1)); have C8 := hide (us.get s8.2.2 (by simp; omega))
    have N8 := hide (hE8.not (by omega) NC.out); have KB8 := hide (hE8.ky X6'.out.2.apt.apart KB6'.out)
    clear hw8 hX8 hE8 us s8 s7 u7 u8 s0 X6' E6' A6' C6' KB6'
    refine hK _ _ (.inl rfl) ?_
    clear hK K
    try simp only [Act.put, zz1, zz2, zz3]
    refine wpAnyZ_done (by kernel_rfl) ?_ _
    go_upto_region 12 with fail
    have ud8 : Upd [] w8 (w8.drewN 1) := (Upd.refl [] w8).drewN 1
    have s0 : (w8.drewN 1).heap[ab]? = some (.cells (akc a g (.slice xk a.c.keys.length ck)) TAk (0, 0)) ∧ (w8.drewN 1).heap[D]? = some (.cells (cmc c (.slice xk' c.keys.length ck')).toArray Cm.TCmd (0, 0)) := ⟨A8.out, C8.out⟩
    refine wp_region_z (fun wx => wx.heap[ab]? = some (.cells (akc a g (.slice xk a.c.keys.length ck)) TAk (0, 0)) ∧ wx.heap[D]? = some (.cells (cmc c (.slice xk' c.keys.length ck')).toArray Cm.TCmd (0, 0))) 7 (by kernel_rfl) ?_
    refine zT 0 rfl (by kernel_rfl) (fun _ _ _ _ h => h) rfl (by exact s0) ?_
    apply Exists.intro
    refine ⟨fun wx hS => ?_, ?_⟩
    · go_simp; rfl
    simp only [Act.put, List.setIfInBounds_toArray, List.set_cons_succ, List.set_cons_zero, List.getElem_toArray, List.getElem_cons_zero]
    refine zT 1 rfl (by kernel_rfl) (fun _ _ _ _ h => h) rfl (by exact s0) ?_
    apply Exists.intro
    refine ⟨fun wx hS => ?_, ?_⟩
    · go_simp; rfl
    simp only [Act.put, zz1, zz2, zz3, zz4, zz5, zz6]
    refine zT 2 rfl (by kernel_rfl) (fun _ _ _ _ h => h) rfl (by exact s0) ?_
    apply Exists.intro
    refine ⟨fun wx hS => ?_, ?_⟩
    · go_simp; rfl
    simp only [Act.put, zz1, zz2, zz3, zz4, zz5, zz6]
    refine zT 3 rfl (by kernel_rfl) (fun _ _ _ _ h => h) rfl (by exact s0) ?_
    apply Exists.intro
    refine ⟨fun wx hS => ?_, ?_⟩
    · go_simp; rfl
    simp only [Act.put, zz1, zz2, zz3, zz4, zz5, zz6]
    refine zT 4 rfl (by kernel_rfl) (fun _ _ _ _ h => h) rfl (by exact s0) ?_
    apply Exists.intro
    refine ⟨fun wx hS => ?_, ?_⟩
    · obtain ⟨a0, a1, a2, a3, a4, a5, a6, a7, a8, a9, a10⟩ := akc_cells hS.1; go_simp; rfl
    simp only [Act.put, zz1, zz2, zz3, zz4, zz5, zz6]
    refine zT 5 rfl (by kernel_rfl) (fun _ _ _ _ h => h) rfl (by exact s0) ?_
    apply Exists.intro
    refine ⟨fun wx hS => ?_, ?_⟩
    · obtain ⟨y0, y1, y2, y3, y4, y5, y6⟩ := cmc_cells hS.2; go_simp; rfl
    simp only [Act.put, zz1, zz2, zz3, zz4, zz5, zz6]
    refine zT 6 rfl (by kernel_rfl) (fun _ _ _ _ h => h) rfl (by exact s0) ?_
    apply Exists.intro
    refine ⟨fun wx hS => ?_, ?_⟩
    · go_simp; rfl
    simp only [Act.put, zz1, zz2, zz3, zz4, zz5, zz6]
    refine wpAnyZ_one 7 (by kernel_rfl) rfl rfl (fun K hK => ?_)
    try simp only [List.getElem_toArray, List.getElem_cons_succ, List.getElem_cons_zero]
    go_simp
    obtain ⟨x8, hx8⟩ : ∃ x8 : Sg, { { x3 with vote := ⟨true, a.b, c⟩ } with asks := some a2 } = x8 := ⟨_, rfl⟩
    have HX8 := hide hx8
    rw [hx8] at X8
    have f1 : x8.self = x.self := by rw [← HX8.out, ← HX3.out]
    have f2 : x8.n = x.n := by rw [← HX8.out, ← HX3.out]
    have f3 : x8.log = x.log := by rw [← HX8.out, ← HX3.out]
    have f4 : x8.asks = some a2 := by rw [← HX8.out]
    have f5 : x8.vote = ⟨true, a.b, c⟩ := by rw [← HX8.out]
    have FF := hide (show x8.self = x.self ∧ x8.n = x.n ∧ x8.log = x.log ∧ x8.asks = some a2 ∧ x8.vote = ⟨true, a.b, c⟩ from ⟨f1, f2, f3, f4, f5⟩)
    clear hx8 f1 f2 f3 f4 f5
    refine (others_any (z := z) (a := a2) (m := mgc 4 0 a.b c) (ks := .slice xk' c.keys.length ck') (w8.drewN 1) (X8.out.upd_nil ud8) FF.out.2.2.2.1 ⟨by simp [mgc], by simp [mgc], by simp only [mgc]; exact HBO.out, by simp [mgc, Bal.zero], HCO.out.2⟩ (KB8.out.upd ud8 (by simp)) (by have := HH.out.z; have := E8.out.size; show z ≤ w8.heap.size; omega) (by rw [FF.out.2.2.1]; have := HH.out.ok.len; omega) (by rw [FF.out.2.1]; exact hn) (by rw [FF.out.1, FF.out.2.1]; exact HH.out.ok.self) (by omega)).mono ?_
    rintro e w9 ⟨rfl, T9, M9, G9, hX9, hE9⟩
    have hOL := others_len x8.self x8.n a2.heard ((mgc 4 0 a.b c).at x8.slot) o
    obtain ⟨o9, ho9⟩ : ∃ o9, othersM x8.self x8.n a2.heard ((mgc 4 0 a.b c).at x8.slot) o = o9 := ⟨_, rfl⟩
    have hd9 : o9.done = o.done ∧ o9.ans = o.ans := by rw [← ho9]; exact ⟨rfl, rfl⟩
    rw [ho9] at hX9 hOL
    have HO9 := hide ho9
    have X9 := hide hX9; have E9 := hide ((E8.out.on ud8 (by simp)).trans hE9)
    have HD9 := hide hd9
    rw [FF.out.2.1] at hOL
    have HOL := hide hOL
    clear hX9 hE9 ho9 s0 ud8 X8 E8 A8 C8 N8 KB8 hd9 hOL
    refine hK _ _ (.inl rfl) ?_
    clear hK K
    try simp only [Act.put, zz1, zz2, zz3]
    refine wpAnyZ_done (by kernel_rfl) ?_ _
    go_upto_region 13 with fail
    have ud9 : Upd [] w9 (w9.drewN 1) := (Upd.refl [] w9).drewN 1
    have s0 : (w9.drewN 1).heap[p]? = some (.cells (sgc x8 G9) TSg (0, 0)) := X9.out.1
    have hkv := X9.out.2.vote
    rw [FF.out.2.2.2.2] at hkv
    obtain ⟨xl, cl, hks⟩ := hkv.slice
    rw [hks] at hkv
    have KV9 := hide hkv
    have HKS := hide hks
    clear hks hkv
    refine wp_region_z (fun wx => wx.heap[p]? = some (.cells (sgc x8 G9) TSg (0, 0))) 9 (by kernel_rfl) ?_
    refine zT 0 rfl (by kernel_rfl) (fun _ _ _ _ h => h) rfl (by exact s0) ?_
    apply Exists.intro
    refine ⟨fun wx hS => ?_, ?_⟩
    · go_simp; rfl
    simp only [Act.put, List.setIfInBounds_toArray, List.set_cons_succ, List.set_cons_zero, List.getElem_toArray, List.getElem_cons_zero]
    refine zT 1 rfl (by kernel_rfl) (fun _ _ _ _ h => h) rfl (by exact s0) ?_
    apply Exists.intro
    refine ⟨fun wx hS => ?_, ?_⟩
    · go_simp; rfl
    simp only [Act.put, zz1, zz2, zz3, zz4, zz5, zz6]
    refine zT 2 rfl (by kernel_rfl) (fun _ _ _ _ h => h) rfl (by exact s0) ?_
    apply Exists.intro
    refine ⟨fun wx hS => ?_, ?_⟩
    · go_simp; rfl
    simp only [Act.put, zz1, zz2, zz3, zz4, zz5, zz6]
    refine zT 3 rfl (by kernel_rfl) (fun _ _ _ _ h => h) rfl (by exact s0) ?_
    apply Exists.intro
    refine ⟨fun wx hS => ?_, ?_⟩
    · go_simp; rfl
    simp only [Act.put, zz1, zz2, zz3, zz4, zz5, zz6]
    refine zT 4 rfl (by kernel_rfl) (fun _ _ _ _ h => h) rfl (by exact s0) ?_
    apply Exists.intro
    refine ⟨fun wx hS => ?_, ?_⟩
    · have c0 : wx.cell? ⟨p, 0, none⟩ = some (.int .i64 (x.self : Int)) := (by rw [← FF.out.1] ; exact blk_cell hS rfl); go_simp; rfl
    simp only [Act.put, zz1, zz2, zz3, zz4, zz5, zz6]
    refine zT 5 rfl (by kernel_rfl) (fun _ _ _ _ h => h) rfl (by exact s0) ?_
    apply Exists.intro
    refine ⟨fun wx hS => ?_, ?_⟩
    · go_simp; rfl
    simp only [Act.put, zz1, zz2, zz3, zz4, zz5, zz6]
    refine zT 6 rfl (by kernel_rfl) (fun _ _ _ _ h => h) rfl (by exact s0) ?_
    apply Exists.intro
    refine ⟨fun wx hS => ?_, ?_⟩
    · go_simp; rfl
    simp only [Act.put, zz1, zz2, zz3, zz4, zz5, zz6]
    refine zT 7 rfl (by kernel_rfl) (fun _ _ _ _ h => h) rfl (by exact s0) ?_
    apply Exists.intro
    refine ⟨fun wx hS => ?_, ?_⟩
    · go_simp; rfl
    simp only [Act.put, zz1, zz2, zz3, zz4, zz5, zz6]
    refine zT 8 rfl (by kernel_rfl) (fun _ _ _ _ h => h) rfl (by exact s0) ?_
    apply Exists.intro
    refine ⟨fun wx hS => ?_, ?_⟩
    · obtain ⟨k4, k5, k6, k7, k8, k9, k10, k11, k12, k13, k14, k15, k16, k17, k19, kf⟩ := XAt.cells hS ; rw [FF.out.2.2.2.2] at k8 k9 k10 k11 k12 k13 k15 k16 k17 ; rw [HKS.out] at k14; go_simp; rfl
    simp only [Act.put, zz1, zz2, zz3, zz4, zz5, zz6]
    refine wpAnyZ_one 9 (by kernel_rfl) rfl rfl (fun K hK => ?_)
    try simp only [List.getElem_toArray, List.getElem_cons_succ, List.getElem_cons_zero]
    go_simp
    refine (hears2_any (z := z) (L := L) (k := x.self) (x := x8) (o := o9) (a := a2) (v := ⟨true, a.b, c⟩) (ks := .slice xl c.keys.length cl) (w9.drewN 1) ⟨X9.out.upd_nil ud9, (E9.out.envM HH.out.env).upd_nil ud9, ?_, by have := HH.out.z; have := E9.out.size; show z ≤ w9.heap.size; omega, by have := HOL.out; omega, by rw [HD9.out.1]; exact HH.out.done, by rw [HD9.out.2]; exact HH.out.ans⟩ hL FF.out.2.2.2.1 (by rw [← HA2.out]) (by rw [FF.out.2.1]; exact HH.out.ok.self) ⟨HBO.out, HCO.out⟩ (KV9.out.upd ud9 (by simp))).mono ?_
    · have ok := HH.out.ok
      rw [← HX8.out, ← HX3.out]
      exact ⟨ok.self, ok.n, ok.len, ok.app, ok.waits, ok.pn, ok.sn, ⟨HBO.out, HCO.out⟩, fun d hd => by cases hd; rw [← HA2.out]; exact ⟨HBO.out, HCO.out, HOk.none _⟩, ok.log, ok.wait⟩
    rintro e w10 ⟨rfl, h10⟩
    have H10 := hide (Aft.ext (E9.out.on ud9 (by simp)) h10)
    clear h10 s0 ud9 X9 E9
    refine hK _ _ (.inl rfl) ?_
    clear hK K
    try simp only [Act.put, zz1, zz2, zz3]
    refine wpAnyZ_done (by kernel_rfl) ?_ _
    go_wp2_with fail
    go_end0
    refine ⟨rfl, ?_⟩
    have h11 := H10.out
    unfold hears1M
    rw [if_neg (by rw [HC.out]; exact HLT.out)]
    simp only
    have e1 : bestM x.n { a with heard := putH a.heard k v } = c := by rw [HA'.out]; exact HCB.out
    rw [e1, HA2.out]
    rw [← HO9.out, FF.out.1, FF.out.2.1, ← HX8.out, ← HX3.out, ← HA2.out] at h11
    rw [← HA2.out]
    exact h11
end Go.Proofs.YtanjnhohfcgapaaGreatDoor.Sg
