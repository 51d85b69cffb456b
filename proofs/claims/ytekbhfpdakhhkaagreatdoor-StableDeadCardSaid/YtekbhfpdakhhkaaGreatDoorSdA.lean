/- The document's ballots and sets: Less, Bytes, May. -/
import Derived.Test.YtekbhfpdakhhkaaGreatDoorStW
import Derived.Test.YtekbhfpdakhhkaaGreatDoorRefAll
import Derived.Test.YtekbhfpdakhhkaaGreatDoorGenAll
namespace Go.Proofs.YtekbhfpdakhhkaaGreatDoor.St
set_option linter.unusedSimpArgs false
set_option linter.unusedVariables false
set_option linter.unnecessarySimpa false
open Go.RowKit Go.Lib Go.Proofs.YtekbhfpdakhhkaaGreatDoor.Crc Go.Proofs.YtekbhfpdakhhkaaGreatDoor.Var Go.Proofs.YtekbhfpdakhhkaaGreatDoor.DiskW

abbrev balO (n : Nat) (r : Int) : Obj := .cells #[.int .u64 (n : Int), .int .i64 r] 25
theorem wp_append_eq {P : Program} {o : Oper} {a : Act} {w w' : World} {K : Act → World → Prop} {Q : Exit → Act → World → Prop} (s x : Operand) (t : TypeId) {u v y : Value}
    (ho : o.op = .call { callee := .builtin .append, args := #[s, x], argTypes := #[t, t] }) (hs : a.eval s = u) (hx : a.eval x = v)
    (hr : (Builtin.append_ #[t, t] o.type #[u, v]).run P w = .ok y w') (h : K (a.put o.dst y) w') : Oper.wp P o a w K Q := by
  unfold Oper.wp execOp
  simp only [ho, resolve, invoke, builtin, Sem.run_bind, Sem.run_pure, Result.andThen_ok, List.map_toArray, List.map_cons, List.map_nil, hs, hx, hr]
  exact h
set_option maxHeartbeats 2000000 in
theorem rless_nr (n m : Nat) (r q : Int) (w : World) : Calls Tryz.prog 39 #[.agg #[.int .u64 (n : Int), .int .i64 r], .agg #[.int .u64 (m : Int), .int .i64 q]] w fun e w' => e = .returned (.bool (decide (bLess ⟨n, r⟩ ⟨m, q⟩))) ∧ Upd [] w w' := by
  have h1 := blk_alloc (blk_new w (balO n r)) (balO m q)
  have h2 := blk_new (w.alloc (balO n r)) (balO m q)
  have hu := ((Upd.refl [] w).alloc (balO n r)).alloc (balO m q)
  simp only [World.size_alloc] at h2
  obtain ⟨bb, hbb⟩ : ∃ bb, decide (bLess ⟨n, r⟩ ⟨m, q⟩) = bb := ⟨_, rfl⟩
  rw [hbb]
  go_enter Tryz.func39, Tryz.ntmps39
  go_upto_region 1 with fail
  generalize (w.alloc (balO n r)).alloc (balO m q) = w2 at *
  have x0 : w2.cell? ⟨w.heap.size, 0, none⟩ = some (.int .u64 (n : Int)) := blk_cell h1 rfl
  have x1 : w2.cell? ⟨w.heap.size, 1, none⟩ = some (.int .i64 r) := blk_cell h1 rfl
  have y0 : w2.cell? ⟨w.heap.size + 1, 0, none⟩ = some (.int .u64 (m : Int)) := blk_cell h2 rfl
  have y1 : w2.cell? ⟨w.heap.size + 1, 1, none⟩ = some (.int .i64 q) := blk_cell h2 rfl
  have U := hide hu
  clear h1 h2 hu
  have hlI : bLess ⟨n, r⟩ ⟨m, q⟩ ↔ (n < m ∨ n = m ∧ r < q) := Iff.rfl
  by_cases h3 : n < m
  · have q1 : decide ((n : Int) < (m : Int)) = true := by simp; omega
    have q2 : decide (n < m) = true := by simpa using h3
    obtain rfl : bb = true := by rw [← hbb]; exact decide_eq_true (hlI.2 (by omega))
    clear hlI hbb h3
    go_wp2_with fail
    go_ret
    exact ⟨rfl, U.out⟩
  · have q1 : decide ((n : Int) < (m : Int)) = false := by simp; omega
    have q2 : decide (n < m) = false := by simpa using h3
    by_cases h4 : n = m
    · have q3 : ((n : Int) == (m : Int)) = true := by simp; omega
      by_cases h5 : r < q
      · have q4 : decide (r < q) = true := by simpa using h5
        obtain rfl : bb = true := by rw [← hbb]; exact decide_eq_true (hlI.2 (by omega))
        clear hlI hbb h3 h4 h5
        go_wp2_with fail
        go_ret
        exact ⟨rfl, U.out⟩
      · have q4 : decide (r < q) = false := by simpa using h5
        obtain rfl : bb = false := by rw [← hbb]; exact decide_eq_false (fun h => by have := hlI.1 h; omega)
        clear hlI hbb h3 h4 h5
        go_wp2_with fail
        go_ret
        exact ⟨rfl, U.out⟩
    · have q3 : ((n : Int) == (m : Int)) = false := by simp; omega
      obtain rfl : bb = false := by rw [← hbb]; exact decide_eq_false (fun h => by have := hlI.1 h; omega)
      clear hlI hbb h3 h4
      go_wp2_with fail
      go_ret
      exact ⟨rfl, U.out⟩
theorem rless_any (a b : Bal) (w : World) : Calls Tryz.prog 39 #[balV a, balV b] w fun e w' => e = .returned (.bool (decide (bLess a b))) ∧ Upd [] w w' := rless_nr a.n b.n a.r b.r w
set_option maxRecDepth 100000 in
set_option maxHeartbeats 2000000 in
theorem rball_nr {n : Nat} {r : Int} (w : World) (hn : n < 18446744073709551616) (hr : 0 ≤ r ∧ r < 7) :
    Calls Tryz.prog 101 #[.agg #[.int .u64 (n : Int), .int .i64 r]] w fun e w' => ∃ v, e = .returned v ∧ Made w (ballB ⟨n, r⟩) v w' := by
  have hw := u64_wrap_int hr.1 hr.2
  have hrb : r.toNat < 18446744073709551616 := by omega
  obtain ⟨rn, hrn⟩ : ∃ rn, r.toNat = rn := ⟨_, rfl⟩
  rw [hrn] at hw hrb
  have hbb : ballB ⟨n, r⟩ = uv n ++ uv rn := by simp only [ballB, hrn]
  rw [hbb]
  have hl10 := uv_len10 hn
  have hlr := uv_len10 hrb
  obtain ⟨i0, hi, hz0, hz1, hz2⟩ := info_parts DiskW.infoB
  clear hbb hrn hr
  have hX := blk_new w (balO n r)
  have hu := (Upd.refl [] w).alloc (balO n r)
  have hsz : (w.alloc (balO n r)).heap.size = w.heap.size + 1 := by simp
  go_enter Tryz.func101, Tryz.ntmps101
  go_upto_region 1 with fail
  generalize w.alloc (balO n r) = w2 at *
  obtain ⟨B, hBn⟩ : ∃ B, w.heap.size = B := ⟨_, rfl⟩
  rw [hBn] at hX ⊢
  have x0 : w2.cell? ⟨B, 0, none⟩ = some (.int .u64 (n : Int)) := blk_cell hX rfl
  have x1 : w2.cell? ⟨B, 1, none⟩ = some (.int .i64 r) := blk_cell hX rfl
  have X0 := hide x0; have X1 := hide x1; have U2 := hide hu
  clear x0 x1 hu hX
  have d0 : Upd [] w2 (w2.drewN 1) := (Upd.refl _ w2).drewN 1
  refine wp_region_seqP (findOps 1 ((Tryz.f101.body).getD .skip)) (by kernel_rfl) [2, 6, 7] [0, 1, 3, 4, 5, 2, 6, 7, 8] (fun wx => Upd [] w2 wx) (by kernel_rfl) (by kernel_rfl) (fun _ _ d _ _ h => by cases d <;> exact h) d0 ?_
  simp only [pickO, List.filterMap_cons, List.filterMap_nil, List.getElem?_cons_succ, List.getElem?_cons_zero]
  refine wpSeqP_take (by kernel_rfl) (by kernel_rfl) ?_
  apply Exists.intro
  refine ⟨fun wx hS => ?_, fun a' ha => ?_⟩
  · go_simp; rfl
  simp only [Act.put, List.setIfInBounds_toArray, List.set_cons_succ, List.set_cons_zero] at ha
  subst ha
  refine wpSeqP_take (by kernel_rfl) (by kernel_rfl) ?_
  apply Exists.intro
  refine ⟨fun wx hS => ?_, fun a' ha => ?_⟩
  · have c0 := Rec.cell_keep hS X0.out (by simp); go_simp; rfl
  simp only [Act.put, List.setIfInBounds_toArray, List.set_cons_succ, List.set_cons_zero] at ha
  subst ha
  refine wpSeqP_take (by kernel_rfl) (by kernel_rfl) ?_
  apply Exists.intro
  refine ⟨fun wx hS => ?_, fun a' ha => ?_⟩
  · go_simp; rfl
  simp only [Act.put, List.setIfInBounds_toArray, List.set_cons_succ, List.set_cons_zero] at ha
  subst ha
  refine wpSeqP_take (by kernel_rfl) (by kernel_rfl) ?_
  apply Exists.intro
  refine ⟨fun wx hS => ?_, fun a' ha => ?_⟩
  · have c0 := Rec.cell_keep hS X1.out (by simp); go_simp; rfl
  simp only [Act.put, List.setIfInBounds_toArray, List.set_cons_succ, List.set_cons_zero] at ha
  subst ha
  refine wpSeqP_take (by kernel_rfl) (by kernel_rfl) ?_
  apply Exists.intro
  refine ⟨fun wx hS => ?_, fun a' ha => ?_⟩
  · go_simp; rfl
  simp only [Act.put, List.setIfInBounds_toArray, List.set_cons_succ, List.set_cons_zero] at ha
  subst ha
  refine wpSeqP_one (by kernel_rfl) (by kernel_rfl) (fun K hK => ?_)
  go_simp
  refine (Ref.uint_any n hn (w2.drewN 1)).mono ?_
  rintro e w3 ⟨v, ao, cap, rfl, rfl, ho3, hu3⟩
  have d3 := d0.trans hu3
  refine hK _ _ (d3) ?_
  clear hK K
  try simp only [Act.put, List.setIfInBounds_toArray, List.set_cons_succ, List.set_cons_zero]
  refine wpSeqP_one (by kernel_rfl) (by kernel_rfl) (fun K hK => ?_)
  go_simp
  refine (Ref.uint_any rn hrb w3).mono ?_
  rintro e w4 ⟨v, bo, bcap, rfl, rfl, ho4, hu4⟩
  have d4 := d3.trans hu4
  have ho5 := owns_upd ho3 hu4 (by simp)
  have hz4 := d4.size
  have hz5 : w2.heap.size ≤ (w2.drewN 1).heap.size := d0.size
  obtain ⟨ao5, cap5, w5, hr5, h2, h3, h4, -⟩ := run_append_src (P := Tryz.prog) w4 (w2.drewN 1).heap.size 39 39 5 i0 (.int .u8 0) 1 1 Tryz.underlying39 hi hz0 hz1 hz2 rfl (by decide) _ _ _ ho5 bo (uv rn).length bcap ((uv rn).map u8v) (src_ownB ho4) (by unfold maxLen; omega) (by omega) (by have := (hu3.trans hu4).size; omega)
  refine hK _ _ (d4) ?_
  clear hK K
  try simp only [Act.put, List.setIfInBounds_toArray, List.set_cons_succ, List.set_cons_zero]
  refine wpSeqP_one (by kernel_rfl) (by kernel_rfl) (fun K hK => ?_)
  have hz6 := (hu3.trans hu4).size
  have d5 : Upd [] w2 w5 := d4.trans_new h3 (fun g hm => .inr (by have := (owns_lt ho5 g (by simpa using hm)).1; omega))
  have hfin : Made w (uv n ++ uv rn) (.slice ao5 ((uv n).length + (uv rn).length) cap5) w5 := by
    refine ⟨?_, U2.out.trans d5⟩
    have h9 : w5.ownsRow (w2.drewN 1).heap.size 5 1 (.slice ao5 ((uv n).length + (uv rn).length) cap5) (uv n ++ uv rn).length ((uv n ++ uv rn).map u8v) := by
      rw [List.length_append, List.map_append]
      exact h2
    exact Rec.owns_mono h9 (by omega)
  have FIN := hide hfin
  refine wp_append_eq _ _ _ rfl rfl rfl hr5 ?_
  refine hK _ _ (d5) ?_
  clear hK K
  try simp only [Act.put, List.setIfInBounds_toArray, List.set_cons_succ, List.set_cons_zero]
  refine wpSeqP_take (by kernel_rfl) (by kernel_rfl) ?_
  apply Exists.intro
  refine ⟨fun wx hS => ?_, fun a' ha => ?_⟩
  · go_simp; rfl
  simp only [Act.put, List.setIfInBounds_toArray, List.set_cons_succ, List.set_cons_zero] at ha
  subst ha
  unfold wpSeqP
  clear d0 d3 d4 d5 hr5 h2 h3 h4 ho3 ho4 ho5 hu3 hu4 hfin
  go_wp2_with fail
  go_ret
  exact ⟨_, rfl, FIN.out⟩
theorem rball_any {b : Bal} (w : World) (hn : b.n < 18446744073709551616) (hr : 0 ≤ b.r ∧ b.r < 7) :
    Calls Tryz.prog 101 #[balV b] w fun e w' => ∃ v, e = .returned v ∧ Made w (ballB b) v w' := rball_nr w hn hr
/-- The document's set and state, as values. -/
abbrev rsetV (k slot n : Nat) (r : Int) (s : ByteArray) : Value := .agg #[.int .i64 (k : Int), .int .u64 (slot : Int), .int .u64 (n : Int), .int .i64 r, .string s]
abbrev rstV (n : Nat) (r : Int) (b : Nat) (s : ByteArray) (v : Value) : Value := .agg #[.int .u64 (n : Int), .int .i64 r, .int .u64 (b : Int), .string s, v]
abbrev rsetO (k slot n : Nat) (r : Int) (s : ByteArray) : Obj := .cells #[.int .i64 (k : Int), .int .u64 (slot : Int), .int .u64 (n : Int), .int .i64 r, .string s] 51
abbrev rstO (n : Nat) (r : Int) (b : Nat) (s : ByteArray) (v : Value) : Obj := .cells #[.int .u64 (n : Int), .int .i64 r, .int .u64 (b : Int), .string s, v] 36
set_option maxRecDepth 100000 in
set_option maxHeartbeats 4000000 in
theorem rmay_any (s : Sto) (v : Value) (k slot n : Nat) (r : Int) (bytes : List UInt8) (st tx : ByteArray) (w : World) :
    Calls Tryz.prog 13 #[rstV s.prom.n s.prom.r s.base st v, rsetV k slot n r tx] w fun e w' => e = .returned (.int .i64 (mayM s ⟨k, slot, ⟨n, r⟩, bytes⟩ : Int)) ∧ Upd [] w w' := by
  have h1 := blk_alloc (blk_new w (rstO s.prom.n s.prom.r s.base st v)) (rsetO k slot n r tx)
  have h2 := blk_new (w.alloc (rstO s.prom.n s.prom.r s.base st v)) (rsetO k slot n r tx)
  have hu := ((Upd.refl [] w).alloc (rstO s.prom.n s.prom.r s.base st v)).alloc (rsetO k slot n r tx)
  simp only [World.size_alloc] at h2
  obtain ⟨m, hm⟩ : ∃ m, mayM s ⟨k, slot, ⟨n, r⟩, bytes⟩ = m := ⟨_, rfl⟩
  rw [hm]
  unfold mayM at hm
  simp only at hm
  go_enter Tryz.func13, Tryz.ntmps13
  go_upto_region 1 with fail
  generalize (w.alloc (rstO s.prom.n s.prom.r s.base st v)).alloc (rsetO k slot n r tx) = w2 at *
  have x0 : w2.cell? ⟨w.heap.size, 0, none⟩ = some (.int .u64 (s.prom.n : Int)) := blk_cell h1 rfl
  have x1 : w2.cell? ⟨w.heap.size, 1, none⟩ = some (.int .i64 s.prom.r) := blk_cell h1 rfl
  have x2 : w2.cell? ⟨w.heap.size, 2, none⟩ = some (.int .u64 (s.base : Int)) := blk_cell h1 rfl
  have y0 : w2.cell? ⟨w.heap.size + 1, 0, none⟩ = some (.int .i64 (k : Int)) := blk_cell h2 rfl
  have y1 : w2.cell? ⟨w.heap.size + 1, 1, none⟩ = some (.int .u64 (slot : Int)) := blk_cell h2 rfl
  have y2 : w2.cell? ⟨w.heap.size + 1, 2, none⟩ = some (.int .u64 (n : Int)) := blk_cell h2 rfl
  have y3 : w2.cell? ⟨w.heap.size + 1, 3, none⟩ = some (.int .i64 r) := blk_cell h2 rfl
  have U := hide hu
  have X2 := hide x2; have Y0 := hide y0; have Y1 := hide y1
  clear h1 h2 hu
  have HC : (slot ≤ s.base ∧ decide ((slot : Int) ≤ (s.base : Int)) = true ∧ decide (slot ≤ s.base) = true) ∨ (¬ slot ≤ s.base ∧ decide ((slot : Int) ≤ (s.base : Int)) = false ∧ decide (slot ≤ s.base) = false) := by
    by_cases h : slot ≤ s.base
    · exact .inl ⟨h, by simpa using h, by simpa using h⟩
    · exact .inr ⟨h, by simp; omega, by simpa using h⟩
  by_cases hk3 : k = 3
  · have q3 : ((k : Int) != 3) = false := by simp; omega
    have q1 : ((k : Int) != 1) = true := by simp; omega
    rw [if_neg (fun hh => hh.1 hk3)] at hm
    rcases HC with ⟨b1, b2, b3⟩ | ⟨b1, b2, b3⟩
    · rw [if_pos ⟨by omega, b1⟩] at hm
      subst hm
      clear b1 hk3
      go_wp2_with fail
      go_ret
      exact ⟨rfl, U.out⟩
    · rw [if_neg (fun hh => b1 hh.2)] at hm
      subst hm
      clear b1 hk3
      go_wp2_with fail
      go_ret
      exact ⟨rfl, U.out⟩
  · have q3 : ((k : Int) != 3) = true := by simp; omega
    by_cases hr : r < 0
    · have r1 : decide (r < 0) = true := by simpa using hr
      rw [if_pos ⟨hk3, .inl hr⟩] at hm
      subst hm
      clear hk3 hr HC
      go_wp2_with fail
      go_ret
      exact ⟨rfl, U.out⟩
    · have r1 : decide (r < 0) = false := by simpa using hr
      by_cases hb : 7 ≤ r
      · have r2 : decide (r > 6) = true := by simp; omega
        have r3 : decide (6 < r) = true := by simp; omega
        rw [if_pos ⟨hk3, .inr (.inl hb)⟩] at hm
        subst hm
        clear hk3 hr hb HC
        go_wp2_with fail
        go_ret
        exact ⟨rfl, U.out⟩
      · have r2 : decide (r > 6) = false := by simp; omega
        have r3 : decide (6 < r) = false := by simp; omega
        have hlr := rless_nr n s.prom.n r s.prom.r w2
        have HLR := hide hlr
        clear hlr
        by_cases hl : bLess ⟨n, r⟩ s.prom
        · have LE := hide (show decide (bLess ⟨n, r⟩ ⟨s.prom.n, s.prom.r⟩) = true from decide_eq_true hl)
          rw [if_pos ⟨hk3, .inr (.inr hl)⟩] at hm
          subst hm
          clear hk3 hr hb HC hl
          go_wp2_with fail
          refine HLR.out.mono ?_
          rintro e w3 ⟨rfl, hu3⟩
          rw [LE.out]
          have U := hide (U.out.trans hu3)
          clear hu3 HLR
          go_wp2_with fail
          go_ret
          exact ⟨rfl, U.out⟩
        · have LE := hide (show decide (bLess ⟨n, r⟩ ⟨s.prom.n, s.prom.r⟩) = false from decide_eq_false hl)
          rw [if_neg (fun hh => by rcases hh.2 with h1 | h1 | h1 <;> contradiction)] at hm
          have HM := hide hm
          clear hm hr hb hl
          go_wp2_with fail
          refine HLR.out.mono ?_
          rintro e w3 ⟨rfl, hu3⟩
          rw [LE.out]
          have U := hide (U.out.trans hu3)
          have x2 := Rec.cell_keep hu3 X2.out (by simp)
          have y0 := Rec.cell_keep hu3 Y0.out (by simp)
          have y1 := Rec.cell_keep hu3 Y1.out (by simp)
          clear hu3 HLR
          by_cases hk1 : k = 1
          · have q1 : ((k : Int) != 1) = false := by simp; omega
            have hm := HM.out
            rw [if_neg (fun hh => hh.1 hk1)] at hm
            subst hm
            clear hk1 hk3 HC
            go_wp2_with fail
            go_ret
            exact ⟨rfl, U.out⟩
          · have q1 : ((k : Int) != 1) = true := by simp; omega
            have hm := HM.out
            rcases HC with ⟨b1, b2, b3⟩ | ⟨b1, b2, b3⟩
            · rw [if_pos ⟨hk1, b1⟩] at hm
              subst hm
              clear hk1 hk3 b1
              go_wp2_with fail
              go_ret
              exact ⟨rfl, U.out⟩
            · rw [if_neg (fun hh => b1 hh.2)] at hm
              subst hm
              clear hk1 hk3 b1
              go_wp2_with fail
              go_ret
              exact ⟨rfl, U.out⟩
end Go.Proofs.YtekbhfpdakhhkaaGreatDoor.St
