/- quoratelaw13: add, wakes. -/
import Derived.Test.YthpnnffogbjhpaaGreatDoorWvRR
set_option linter.unusedSimpArgs false
set_option linter.unusedVariables false
set_option linter.unnecessarySimpa false
namespace Go.Proofs.YthpnnffogbjhpaaGreatDoor.Kv
set_option linter.unusedSimpArgs false
set_option linter.unusedVariables false
set_option linter.unnecessarySimpa false
open Go.RowKit Go.Lib Go.Proofs.YthpnnffogbjhpaaGreatDoor.Crc Go.Proofs.YthpnnffogbjhpaaGreatDoor.Cm

/-! ### the waves of commands whose keys are in order -/
def ftWk (f : Ft) (c : Cm) : Nat := if decide (4 < c.keys.length) then f.top else wvMax f.ks c.keys (max f.lone (at0 f.cs c.client))
def ftNextK (f : Ft) (c : Cm) : Ft :=
  ⟨wvPut f.ks c.keys (ftWk f c + 1), mput cliK f.cs c.client (ftWk f c + 1), if decide (4 < c.keys.length) then ftWk f c + 1 else f.lone, max f.top (ftWk f c + 1)⟩
def wavesK : Ft → List Cm → List Nat
  | _, [] => []
  | f, c :: l => ftWk f c :: wavesK (ftNextK f c) l
theorem wavesF_K : ∀ (l : List Cm) (f : Ft), (∀ c ∈ l, sortM c.keys = c.keys) → wavesF f l = wavesK f l
  | [], _, _ => rfl
  | c :: l, f, h => by
    have h1 := h c (by simp)
    have h2 : ftW f c = ftWk f c := by unfold ftW ftWk loneM; rw [h1]
    have h3 : ftNext f c = ftNextK f c := by unfold ftNext ftNextK loneM; rw [h1, h2]
    simp only [wavesF, wavesK]
    rw [h2, h3, wavesF_K l _ fun d hd => h d (by simp [hd])]
theorem sortM_one (k : List UInt8) : sortM [k] = [k] := by
  unfold sortM
  rw [List.mergeSort_singleton]
  rfl
def addC (client : Nat) (key : List UInt8) : Cm := ⟨client, 1, 4, [key], [], [], 1⟩
def wl3 : List Cm := [addC 1 [97], addC 2 [98], addC 3 [97]]
theorem wl3_waves : wavesM wl3 = [0, 0, 1] := by
  unfold wavesM
  rw [wavesF_K _ _ (by intro c hc; simp only [wl3, List.mem_cons, List.not_mem_nil, or_false] at hc; rcases hc with rfl | rfl | rfl <;> exact sortM_one _)]
  kernel_rfl
theorem wl3_order : orderM wl3 [1] = [(1, 0), (0, 0), (2, 1)] := by
  unfold orderM
  rw [wl3_waves]
  kernel_rfl
def wd3 : List Dn := [⟨⟨0, [49]⟩, true, 0, 1⟩, ⟨⟨0, [49]⟩, true, 0, 0⟩, ⟨⟨0, [50]⟩, true, 1, 2⟩]
theorem wl3_run : (runD wl3 ap0 (orderM wl3 [1]) 0 (List.replicate wl3.length dn0)).2 = wd3 := by
  rw [wl3_order]
  kernel_rfl
theorem wl3_small : Small wl3 := by
  refine ⟨by decide, fun c hc => ?_⟩
  simp only [wl3, List.mem_cons, List.not_mem_nil, or_false] at hc
  rcases hc with rfl | rfl | rfl <;> exact ⟨by decide, by decide, by decide, by intro k hk; simp [addC] at hk; subst hk; decide⟩
theorem eqlD1 (w : World) : (binOp .eql 72 (.agg #[.int .u8 0, .string ⟨#[49]⟩, .bool true, .int .i64 0, .int .i64 1]) (.agg #[.int .u8 0, .string ⟨#[49]⟩, .bool true, .int .i64 0, .int .i64 1])).run Tryz.prog w = .ok (.bool true) w := by kernel_rfl
theorem eqlD2 (w : World) : (binOp .eql 72 (.agg #[.int .u8 0, .string ⟨#[49]⟩, .bool true, .int .i64 0, .int .i64 0]) (.agg #[.int .u8 0, .string ⟨#[49]⟩, .bool true, .int .i64 0, .int .i64 0])).run Tryz.prog w = .ok (.bool true) w := by kernel_rfl
theorem eqlD3 (w : World) : (binOp .eql 72 (.agg #[.int .u8 0, .string ⟨#[50]⟩, .bool true, .int .i64 1, .int .i64 2]) (.agg #[.int .u8 0, .string ⟨#[50]⟩, .bool true, .int .i64 1, .int .i64 2])).run Tryz.prog w = .ok (.bool true) w := by kernel_rfl
set_option maxRecDepth 100000 in
set_option maxHeartbeats 2000000 in
theorem add13_any {n : Nat} {s : ByteArray} (w : World) :
    Calls Tryz.prog 56 #[.int .u32 (n : Int), .string s] w fun e w' => ∃ b, e = .returned (.agg #[.int .u32 (n : Int), .int .u32 1, .int .u8 4, .slice (some ⟨b, 0, none⟩) 1 1, .string ⟨#[]⟩, .string ⟨#[]⟩, .int .i64 1]) ∧
      w'.heap[b]? = some (.cells #[.string s] 9 (0, 0)) ∧ w.heap.size ≤ b ∧ Upd [] w w' := by
  go_enter Tryz.func56, Tryz.ntmps56
  go_wp2_with fail
  have hB0 := blk_alloc (blk_new w (.cells #[.int .u32 (n : Int), .int .u32 1, .int .u8 4, .slice (some ⟨w.heap.size + 1, 0, none⟩) 1 1, .string ⟨#[]⟩, .string ⟨#[]⟩, .int .i64 1] TCmd)) (.cells #[.string s] 9)
  have hB1 := blk_new (w.alloc (.cells #[.int .u32 (n : Int), .int .u32 1, .int .u8 4, .slice (some ⟨w.heap.size + 1, 0, none⟩) 1 1, .string ⟨#[]⟩, .string ⟨#[]⟩, .int .i64 1] TCmd)) (.cells #[.string s] 9)
  simp only [World.size_alloc] at hB1
  have hu := ((Upd.refl [] w).alloc (.cells #[.int .u32 (n : Int), .int .u32 1, .int .u8 4, .slice (some ⟨w.heap.size + 1, 0, none⟩) 1 1, .string ⟨#[]⟩, .string ⟨#[]⟩, .int .i64 1] TCmd)).alloc (.cells #[.string s] 9)
  generalize (w.alloc (.cells #[.int .u32 (n : Int), .int .u32 1, .int .u8 4, .slice (some ⟨w.heap.size + 1, 0, none⟩) 1 1, .string ⟨#[]⟩, .string ⟨#[]⟩, .int .i64 1] TCmd)).alloc (.cells #[.string s] 9) = W at *
  have z0 : W.cell? ⟨w.heap.size, 0, none⟩ = some (.int .u32 (n : Int)) := blk_cell hB0 rfl
  have z1 : W.cell? ⟨w.heap.size, 1, none⟩ = some (.int .u32 1) := blk_cell hB0 rfl
  have z2 : W.cell? ⟨w.heap.size, 2, none⟩ = some (.int .u8 4) := blk_cell hB0 rfl
  have z3 : W.cell? ⟨w.heap.size, 3, none⟩ = some (.slice (some ⟨w.heap.size + 1, 0, none⟩) 1 1) := blk_cell hB0 rfl
  have z4 : W.cell? ⟨w.heap.size, 4, none⟩ = some (.string ⟨#[]⟩) := blk_cell hB0 rfl
  have z5 : W.cell? ⟨w.heap.size, 5, none⟩ = some (.string ⟨#[]⟩) := blk_cell hB0 rfl
  have z6 : W.cell? ⟨w.heap.size, 6, none⟩ = some (.int .i64 1) := blk_cell hB0 rfl
  refine bodyPost_ret (v := .agg #[.int .u32 (n : Int), .int .u32 1, .int .u8 4, .slice (some ⟨w.heap.size + 1, 0, none⟩) 1 1, .string ⟨#[]⟩, .string ⟨#[]⟩, .int .i64 1]) ?_ rfl ⟨w.heap.size + 1, rfl, hB1, by omega, hu⟩
  rw [results_cell1 (p := 4) rfl]
  go_simp
/-- A command that adds, its key at b. -/
abbrev ac7 (n b : Nat) : List Value := [.int .u32 (n : Int), .int .u32 1, .int .u8 4, .slice (some ⟨b, 0, none⟩) 1 1, .string ⟨#[]⟩, .string ⟨#[]⟩, .int .i64 1]
theorem strs_at {w : World} {b : Nat} {s : List UInt8} {t : TypeId} {T : Nat → Prop} (h : w.heap[b]? = some (.cells #[.string (strOf s)] t (0, 0))) (hT : T b) : Strs w T (.slice (some ⟨b, 0, none⟩) 1 1) [s] :=
  ⟨_, _, rfl, srcD_blk (cs := [.string (strOf s)]) h rfl (by simp [Value.oneCell']), Nat.le_refl _, by simp [maxLen], fun a e _ => by cases e; exact hT⟩
theorem ac_holds {w : World} {n b : Nat} {k : List UInt8} {T : Nat → Prop} {t : TypeId} (hn : n < 1000) (hk : k.length < 1000) (h : w.heap[b]? = some (.cells #[.string (strOf k)] t (0, 0))) (hT : T b) : cmK.holds w T (addC n k) (ac7 n b) := by
  refine ⟨⟨by simp [addC]; omega, by simp [addC], by simp [addC], by simp [addC], by simp [addC], by simp [addC], by simp [addC], by simp [addC], fun j hj => ?_⟩, _, rfl, strs_at h hT⟩
  simp [addC] at hj
  subst hj
  omega
set_option maxRecDepth 100000 in
set_option maxHeartbeats 4000000 in
theorem wakes13_any (w : World) (he : EnvAt w) : Calls Tryz.prog 24 #[] w fun e w' => e = .returned (.bool true) ∧ Upd [] w w' := by
  have ENV := hide he
  have hgl := hide (show ∀ k ∈ [0, 1, 2, 3], k < w.heap.size by have := he.size; simp; omega)
  clear he
  go_enter Tryz.func24, Tryz.ntmps24
  go_wp2_with fail
  refine (anew_any w).mono ?_
  rintro e w1 ⟨⟨p, rfl, ha1⟩, hu1⟩
  have hs1 := hu1.size
  have A1 := hide ha1; have U1 := hide hu1
  clear ha1 hu1
  go_wp2_with fail
  refine (add13_any (n := 1) (s := ⟨#[97]⟩) w1).mono ?_
  rintro e w2 ⟨k1, rfl, hk1, hn1, hu2⟩
  have hs2 := hu2.size
  have A2 := hide (A1.out.upd_nil hu2); have U2 := hide (U1.out.trans hu2); have K1 := hide hk1
  clear hk1 hu2 A1 U1
  go_wp2_with fail
  refine (add13_any (n := 2) (s := ⟨#[98]⟩) w2).mono ?_
  rintro e w3 ⟨k2, rfl, hk2, hn2, hu3⟩
  have hs3 := hu3.size
  have A3 := hide (A2.out.upd_nil hu3); have U3 := hide (U2.out.trans hu3); have K1' := hide (hu3.get K1.out (by simp)); have K2 := hide hk2
  clear hk2 hu3 A2 U2 K1
  go_wp2_with fail
  refine (add13_any (n := 3) (s := ⟨#[97]⟩) w3).mono ?_
  rintro e w4 ⟨k3, rfl, hk3, hn3, hu4⟩
  have hs4 := hu4.size
  have A4 := hide (A3.out.upd_nil hu4); have U4 := hide (U3.out.trans hu4); have K1 := hide (hu4.get K1'.out (by simp)); have K2' := hide (hu4.get K2.out (by simp)); have K3 := hide hk3
  clear hk3 hu4 A3 U3 K1' K2
  go_wp2_with fail
  have hL := blk_alloc (blk_new w4 (.cells (ac7 1 k1 ++ ac7 2 k2 ++ ac7 3 k3).toArray TCmd)) (.cells #[.int .i64 1] 3)
  have hP := blk_new (w4.alloc (.cells (ac7 1 k1 ++ ac7 2 k2 ++ ac7 3 k3).toArray TCmd)) (.cells #[.int .i64 1] 3)
  have hu := ((Upd.refl [] w4).alloc (.cells (ac7 1 k1 ++ ac7 2 k2 ++ ac7 3 k3).toArray TCmd)).alloc (.cells #[.int .i64 1] 3)
  have hz5 : ((w4.alloc (.cells (ac7 1 k1 ++ ac7 2 k2 ++ ac7 3 k3).toArray TCmd)).alloc (.cells #[.int .i64 1] 3)).heap.size = w4.heap.size + 2 := by simp
  simp only [World.size_alloc] at hP
  change Calls _ _ _ ((w4.alloc (.cells (ac7 1 k1 ++ ac7 2 k2 ++ ac7 3 k3).toArray TCmd)).alloc (.cells #[.int .i64 1] 3)) _
  generalize (w4.alloc (.cells (ac7 1 k1 ++ ac7 2 k2 ++ ac7 3 k3).toArray TCmd)).alloc (.cells #[.int .i64 1] 3) = w5 at *
  have U5 := U4.out.trans hu
  have hrow : cmK.row w5 (fun k => w1.heap.size ≤ k) (.slice (some ⟨w4.heap.size, 0, none⟩) 3 3) wl3 :=
    ⟨some ⟨w4.heap.size, 0, none⟩, 3, [ac7 1 k1, ac7 2 k2, ac7 3 k3], rfl,
      .cons (ac_holds (n := 1) (k := [97]) (by omega) (by decide) (hu.get K1.out (by simp)) (by omega)) (.cons (ac_holds (n := 2) (k := [98]) (by omega) (by decide) (hu.get K2'.out (by simp)) (by omega)) (.cons (ac_holds (n := 3) (k := [97]) (by omega) (by decide) (hu.get K3.out (by simp)) (by omega)) .nil)),
      by simp [ac7]; decide, srcD_blk (cs := ac7 1 k1 ++ ac7 2 k2 ++ ac7 3 k3) hL rfl (by simp [Value.oneCell']), Nat.le_refl _, by simp [maxLen, wl3], fun a e _ => by cases e; show w1.heap.size ≤ w4.heap.size; omega⟩
  have hpk : SrcAt w5 (some ⟨w4.heap.size + 1, 0, none⟩) 1 1 (([1] : List Int).map pV) 1 := srcD_blk (cs := [pV 1]) hP rfl (by simp [pV, Value.oneCell'])
  refine (run_any (T := fun k => w1.heap.size ≤ k) (lo := w.heap.size) (hi := w1.heap.size) (k := 0) w5 (Around.far (ENV.out.upd_nil U5) hgl.out hrow (fun k hk => .inr hk)) wl3_small (PickAt.far hpk (fun a e => by cases e; show w1.heap.size ≤ w4.heap.size + 1; omega)) (by decide) (by omega) (A4.out.upd_nil hu) ApOk.zero (by decide)).mono ?_
  rw [wl3_run]
  rintro e w6 ⟨⟨g, rfl, hg, hblk⟩, -, ht6⟩
  have U6 := hide (ht6.upd_new U5 (Nat.le_refl _)); have HB := hide hblk
  have c0 : w6.cell? ⟨g, 0, none⟩ = some (.int .u8 0) := blk_cell hblk rfl
  have c1 : w6.cell? ⟨g, 1, none⟩ = some (.string ⟨#[49]⟩) := blk_cell hblk rfl
  have c2 : w6.cell? ⟨g, 2, none⟩ = some (.bool true) := blk_cell hblk rfl
  have c3 : w6.cell? ⟨g, 3, none⟩ = some (.int .i64 0) := blk_cell hblk rfl
  have c4 : w6.cell? ⟨g, 4, none⟩ = some (.int .i64 1) := blk_cell hblk rfl
  have c5 : w6.cell? ⟨g, 5, none⟩ = some (.int .u8 0) := blk_cell hblk rfl
  have c6 : w6.cell? ⟨g, 6, none⟩ = some (.string ⟨#[49]⟩) := blk_cell hblk rfl
  have c7 : w6.cell? ⟨g, 7, none⟩ = some (.bool true) := blk_cell hblk rfl
  have c8 : w6.cell? ⟨g, 8, none⟩ = some (.int .i64 0) := blk_cell hblk rfl
  have c9 : w6.cell? ⟨g, 9, none⟩ = some (.int .i64 0) := blk_cell hblk rfl
  have c10 : w6.cell? ⟨g, 10, none⟩ = some (.int .u8 0) := blk_cell hblk rfl
  have c11 : w6.cell? ⟨g, 11, none⟩ = some (.string ⟨#[50]⟩) := blk_cell hblk rfl
  have c12 : w6.cell? ⟨g, 12, none⟩ = some (.bool true) := blk_cell hblk rfl
  have c13 : w6.cell? ⟨g, 13, none⟩ = some (.int .i64 1) := blk_cell hblk rfl
  have c14 : w6.cell? ⟨g, 14, none⟩ = some (.int .i64 2) := blk_cell hblk rfl
  have q1 := eqlD1 w6
  have q2 := eqlD2 w6
  have q3 := eqlD3 w6
  clear hL hP hu hz5 U5 hrow hpk hblk ht6 K1 K2' K3 A4 U4
  rw [show wl3.length = 3 from rfl]
  go_wp2_with fail
  go_ret
  exact ⟨rfl, U6.out⟩
end Go.Proofs.YthpnnffogbjhpaaGreatDoor.Kv
