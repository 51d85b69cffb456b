/- A ballot is read: ballot.Take. -/
import Derived.Test.YtekbhfpdakhhkaaGreatDoorStHB
import Derived.Test.YtekbhfpdakhhkaaGreatDoorVarAll
import Derived.Test.YtekbhfpdakhhkaaGreatDoorRecAll
namespace Go.Proofs.YtekbhfpdakhhkaaGreatDoor.St
set_option linter.unusedSimpArgs false
set_option linter.unusedVariables false
set_option linter.unnecessarySimpa false
open Go.RowKit Go.Lib Go.Proofs.YtekbhfpdakhhkaaGreatDoor.Crc Go.Proofs.YtekbhfpdakhhkaaGreatDoor.Var Go.Proofs.YtekbhfpdakhhkaaGreatDoor.DiskW

theorem RdS.lt {w : World} {T : Nat → Prop} {R : Nat} {lim : Int} {s : Int × List UInt8} (h : RdS w T R lim s) : R < w.heap.size := by
  obtain ⟨xo, m, c, h1, -⟩ := h
  exact blk_lt h1.hR
theorem set2_blk {w : World} {B : Nat} {x y u v : Value} {t : TypeId} (h : w.heap[B]? = some (.cells #[x, y] t (0, 0))) : ((w.setCell ⟨B, 0, none⟩ u).setCell ⟨B, 1, none⟩ v).heap[B]? = some (.cells #[u, v] t (0, 0)) := blk_set (blk_set h u) v
theorem rds_mono {w : World} {T T' : Nat → Prop} {R : Nat} {lim : Int} {s : Int × List UInt8} (h : RdS w T R lim s) (hT : ∀ k, T k → k < w.heap.size → T' k) : RdS w T' R lim s := by
  obtain ⟨xo, m, c, h1, h2⟩ := h
  refine ⟨xo, m, c, h1, fun e => ⟨(h2 e).1, (h2 e).2.1, fun a ha hm => ?_⟩⟩
  refine hT _ ((h2 e).2.2 a ha hm) ?_
  obtain ⟨b, off, e1, h3⟩ := src_at (h2 e).1 (j := 0) (by omega)
  rw [ha] at e1
  cases e1
  exact World.block_lt_of_cell? w _ h3
theorem tk_ends {fn : Func} {w w4 W : World} {T : Nat → Prop} {B R : Nat} {lim x : Int} {b : Bal} {s2 : Int × List UInt8} {p u : Tmp} {a : Act} (hfn : fn.results = #[.cell p 25, .tmp u]) (hp : a.tmps.getD p undef = .pointer (some ⟨B, 0, none⟩)) (hv : a.tmps.getD u undef = .int .i64 x) (hd : a.defers = [])
    (hB : W.heap[B]? = some (.cells #[.int .u64 (b.n : Int), .int .i64 b.r] 25 (0, 0))) (hu : Upd [B] w4 W) (h4 : RdS w4 (fun k => T k ∧ k < B) R lim s2) (hR : R < B) (hw : Upd [R] w w4) (hBw : w.heap.size ≤ B) :
    bodyPost Tryz.prog fn (fun e w' => e = .returned (.tuple #[balV b, .int .i64 x]) ∧ RdS w' T R lim s2 ∧ Upd [R] w w') .ret a W := by
  have z0 : W.cell? ⟨B, 0, none⟩ = some (.int .u64 (b.n : Int)) := blk_cell hB rfl
  have z1 : W.cell? ⟨B, 1, none⟩ = some (.int .i64 b.r) := blk_cell hB rfl
  refine bodyPost_ret (v := .tuple #[balV b, .int .i64 x]) ?_ hd ⟨rfl, rds_mono (h4.updS hu (by simp; omega) (fun k hk => by simp at hk; omega)) fun k h1 _ => h1.1, hw.trans_new hu (fun k hk => .inr (by simp at hk; omega))⟩
  rw [results_cell_tmp hfn, hp, hv]
  go_simp
set_option maxRecDepth 100000 in
set_option maxHeartbeats 4000000 in
theorem take_any {T : Nat → Prop} {R : Nat} {lim : Int} {s : Int × List UInt8} (w : World) (h : RdS w T R lim s) :
    Calls Tryz.prog 64 #[.pointer (some ⟨R, 0, none⟩)] w fun e w' => e = .returned (.tuple #[balV (takeB s).1.1, .int .i64 (takeB s).1.2]) ∧ RdS w' T R lim (takeB s).2 ∧ Upd [R] w w' := by
  have hRl := RdS.lt h
  obtain ⟨n, s1, e1⟩ : ∃ n s1, uintM s = (n, s1) := ⟨_, _, rfl⟩
  obtain ⟨m, s2, e2⟩ : ∃ m s2, uintM s1 = (m, s2) := ⟨_, _, rfl⟩
  obtain ⟨bb, ee, ss, ht0⟩ : ∃ bb ee ss, takeB s = ((bb, ee), ss) := ⟨_, _, _, rfl⟩
  rw [ht0]
  have HT := hide ht0
  clear ht0
  simp only
  have hm := uintM_lt s1
  rw [e2] at hm
  simp only at hm
  have hB := blk_new w (.cells #[.int .u64 0, .int .i64 0] 25)
  have hu := (Upd.refl [R] w).alloc (.cells #[.int .u64 0, .int .i64 0] 25)
  have h2 := (rds_mono h (T' := fun k => T k ∧ k < w.heap.size) fun k h1 h2 => ⟨h1, h2⟩).upd ((Upd.refl [] w).alloc (.cells #[.int .u64 0, .int .i64 0] 25))
  go_enter Tryz.func64, Tryz.ntmps64
  go_wp2_with fail
  generalize w.alloc (.cells #[.int .u64 0, .int .i64 0] 25) = w2 at *
  obtain ⟨B, hBn⟩ : ∃ B, w.heap.size = B := ⟨_, rfl⟩
  rw [hBn] at hB hRl ⊢
  have hne : B ∉ [R] := by simp; omega
  have E1 := hide e1; have E2 := hide e2; have BB := hide hB; have UU := hide hu; have NE := hide hne
  clear e1 e2 h hB hu hne
  refine (uint_s w2 h2).mono ?_
  rw [E1.out]
  rintro e w3 ⟨rfl, h3, hu3⟩
  have B3 := hide (hu3.get BB.out NE.out); have U3 := hide (UU.out.trans hu3)
  clear h2 hu3
  go_wp2_with fail
  refine (uint_s w3 h3).mono ?_
  rw [E2.out]
  rintro e w4 ⟨rfl, h4, hu4⟩
  have B4 := hide (hu4.get B3.out NE.out); have U4 := hide (U3.out.trans hu4)
  clear h3 hu4
  go_wp2_with fail
  refine (err_s w4 h4).mono ?_
  rintro e w5 ⟨rfl, rfl⟩
  have H4 := hide h4
  clear h4
  by_cases he : s2.1 = 0
  · have q1 : (s2.1 != 0) = false := by simpa using he
    by_cases h7 : 7 ≤ m
    · have q2 : decide ((m : Int) ≥ 7) = true := by simp; omega
      have q3 : decide (7 ≤ m) = true := by simpa using h7
      have ht : takeB s = ((Bal.zero, 11), s2) := by
        unfold takeB; rw [E1.out, E2.out]; simp only; rw [if_neg (by omega), if_pos h7]
      rw [HT.out] at ht
      cases ht
      clear he h7
      have z0 := blk_cell (i := 0) B4.out rfl
      have z1 := blk_cell (i := 1) B4.out rfl
      have f0 := blk_free (i := 0) B4.out
      have f1 := blk_free (i := 1) B4.out
      go_wp2_with fail
      exact tk_ends rfl rfl rfl rfl (set2_blk B4.out) (((Upd.refl [B] w4).setCell (.inl (by simp)) _).setCell (.inl (by simp)) _) (rds_mono H4.out fun k h1 _ => ⟨h1.1, by omega⟩) hRl U4.out (by omega)
    · have q2 : decide ((m : Int) ≥ 7) = false := by simp; omega
      have q3 : decide (7 ≤ m) = false := by simpa using h7
      have ht : takeB s = ((⟨n, (m : Int)⟩, 0), s2) := by
        unfold takeB; rw [E1.out, E2.out]; simp only; rw [if_neg (by omega), if_neg h7]
      rw [HT.out] at ht
      cases ht
      have z0 := blk_cell (i := 0) B4.out rfl
      have z1 := blk_cell (i := 1) B4.out rfl
      have f0 := blk_free (i := 0) B4.out
      have f1 := blk_free (i := 1) B4.out
      have hwr : IntKind.i64.wrap (m : Int) = (m : Int) := IntWalk.i64_in _ (by omega)
      clear he h7 hm
      go_wp2_with fail
      exact tk_ends rfl rfl rfl rfl (set2_blk B4.out) (((Upd.refl [B] w4).setCell (.inl (by simp)) _).setCell (.inl (by simp)) _) (rds_mono H4.out fun k h1 _ => ⟨h1.1, by omega⟩) hRl U4.out (by omega)
  · have q1 : (s2.1 != 0) = true := by simpa using he
    have ht : takeB s = ((Bal.zero, s2.1), s2) := by
      unfold takeB; rw [E1.out, E2.out]; simp only; rw [if_pos he]
    rw [HT.out] at ht
    cases ht
    clear he
    have z0 := blk_cell (i := 0) B4.out rfl
    have z1 := blk_cell (i := 1) B4.out rfl
    have f0 := blk_free (i := 0) B4.out
    have f1 := blk_free (i := 1) B4.out
    go_wp2_with fail
    exact tk_ends rfl rfl rfl rfl (set2_blk B4.out) (((Upd.refl [B] w4).setCell (.inl (by simp)) _).setCell (.inl (by simp)) _) (rds_mono H4.out fun k h1 _ => ⟨h1.1, by omega⟩) hRl U4.out (by omega)
end Go.Proofs.YtekbhfpdakhhkaaGreatDoor.St
