/- slices.Repeat of an entry. -/
import Derived.Test.YtloaceaomljeiaaDoorTrJ
import Derived.Test.YtloaceaomljeiaaDoorTrY
import Derived.Laws.CopyRow
namespace Go.Proofs.YtloaceaomljeiaaDoor.Tr
open Go.RowKit Go.Lib Go.Proofs.YtloaceaomljeiaaDoor.Crc Go.Proofs.YtloaceaomljeiaaDoor.Cm Go.Proofs.YtloaceaomljeiaaDoor.Var

theorem run_copy_rowz {P : Program} (w : World) (z : Nat) (dT sT ty elem : TypeId) (g o dLen dCap : Nat) (a : Addr) (sLen sCap : Nat) (cur : Array Value) (t : TypeId) (cs : List Value) (m : Nat) (hm : Nat.min sLen dLen = m)
    (hu : P.underlying dT = some (.slice elem)) (hs : (P.info? elem).map (·.size) = some z)
    (hg : w.heap[g]? = some (.cells cur t (0, 0))) (hn : cs.length = m * z)
    (hsrc : ∀ j v, cs[j]? = some v → w.cell? (a.add j) = some v) (hfit : o + cs.length ≤ cur.size) (h1 : ∀ v ∈ cs, v.oneCell' = true) :
    (Builtin.copy_ #[dT, sT] ty #[.slice (some ⟨g, o, none⟩) dLen dCap, .slice (some a) sLen sCap]).run P w =
      .ok (goInt m) (w.setRow g (cur.toList.take o ++ cs ++ cur.toList.drop (o + cs.length)).toArray) := by
  have hl := run_loadCells_list (P := P) w a cs hsrc
  have hst := run_storeCells_at P g o t cs 0 cur w hg (by simpa using hfit) h1
  cases hq : P.info? elem with
  | none => simp [hq] at hs
  | some i =>
    have hi : i.size = z := by simpa [hq] using hs
    simp [Builtin.copy_, run_underlying hu, Builtin.lenOf, Builtin.firstCells, sizeOf, typeInfo, hq, hi, hm, ← hn, hl, hst]
set_option maxRecDepth 100000 in
set_option maxHeartbeats 2000000 in
theorem mul64_any (c : Nat) (hc : c ≤ 30) (w : World) : Calls Tryd.prog 55 #[.int .u64 1, .int .u64 (c : Int)] w fun e w' => e = .returned (.tuple #[.int .u64 0, .int .u64 (c : Int)]) ∧ w = w' := by
  have f1 : Go.bits .and .u64 1 4294967295 = 1 := by decide
  have f2 : Go.bits .and .u64 (c : Int) 4294967295 = (c : Int) := (by decide : ∀ c : Nat, c ≤ 30 → Go.bits .and .u64 (c : Int) 4294967295 = (c : Int)) c hc
  have f3 : Go.bits .and .u64 0 4294967295 = 0 := by decide
  have f4 : (c : Int) / 4294967296 = 0 := by omega
  have f5 : (1 : Int) / 4294967296 = 0 := by decide
  go_enter Tryd.func55, Tryd.ntmps55
  go_wp2_with fail
  go_ret2
  exact ⟨rfl, rfl⟩
set_option maxRecDepth 100000 in
set_option maxHeartbeats 2000000 in
theorem mul_any (c : Nat) (hc : c ≤ 30) (w : World) : Calls Tryd.prog 44 #[.int .u64 1, .int .u64 (c : Int)] w fun e w' => e = .returned (.tuple #[.int .u64 0, .int .u64 (c : Int)]) ∧ w = w' := by
  go_enter Tryd.func44, Tryd.ntmps44
  go_wp2_with fail
  refine (mul64_any c hc _).mono ?_
  rintro e w' ⟨rfl, rfl⟩
  go_wp2_with fail
  go_ret2
  exact ⟨rfl, rfl⟩
def tk : List Value := enc takeE 0 0 (.slice none 0 0)
def zk : List Value := enc ⟨0, 0, 0, Cm.zero⟩ 0 0 (.slice none 0 0)
theorem infoE : (Tryd.prog.info? 45).map (fun i => (i.zero, i.size, i.bytes)) = some (some (.agg zk.toArray), 12, 120) := by kernel_rfl
theorem sizeE : ∀ w, (sizeOf 45).run Tryd.prog w = .ok 12 w := fun w => by kernel_rfl
theorem rep_len {X : Type} (x : List X) (n : Nat) : (List.replicate n x).flatten.length = n * x.length := by
  induction n with
  | zero => simp
  | succ n ih => rw [List.replicate_succ, List.flatten_cons, List.length_append, ih, Nat.add_mul]; omega
theorem zk_len' : zk.length = 12 := rfl
theorem rep_add {X : Type} (x : List X) (a b : Nat) : (List.replicate (a + b) x).flatten = (List.replicate a x).flatten ++ (List.replicate b x).flatten := by
  rw [← List.flatten_append, List.replicate_append_replicate]
theorem tk_one : ∀ (n : Nat), ∀ u ∈ (List.replicate n tk).flatten, u.oneCell' = true := by
  intro n u hu
  obtain ⟨l, hl, hu'⟩ := List.mem_flatten.1 hu
  rw [List.eq_of_mem_replicate hl] at hu'
  simp only [tk, enc, strV, List.mem_cons, List.not_mem_nil, or_false] at hu'
  rcases hu' with rfl | rfl | rfl | rfl | rfl | rfl | rfl | rfl | rfl | rfl | rfl | rfl <;> rfl
theorem zk_at (n i : Nat) (h : i < n * 12) : (List.replicate n zk).flatten[i]? = zk[i % 12]? := by
  have hr : i % 12 < 12 := Nat.mod_lt _ (by decide)
  have hq : i / 12 < n := Nat.div_lt_of_lt_mul (by rwa [Nat.mul_comm] at h)
  have hc : (List.replicate n zk)[i / 12]? = some zk := by rw [List.getElem?_replicate, if_pos hq]
  have hj : zk[i % 12]? = some (zk[i % 12]'(by rw [zk_len']; exact hr)) := List.getElem?_eq_getElem _
  have e := flat_get (z := 12) (fun cs hcs => by rw [List.eq_of_mem_replicate hcs]; rfl) hc hj
  rw [show i / 12 * 12 + i % 12 = i by rw [Nat.mul_comm]; exact Nat.div_add_mod i 12] at e
  rw [e, hj]
theorem made_zk (n : Nat) : (madeCells zk.toArray (n * 12)).toList = (List.replicate n zk).flatten := by
  apply List.ext_getElem? fun i => ?_
  by_cases h : i < n * 12
  · rw [zk_at n i h]
    have hr : i % 12 < 12 := Nat.mod_lt _ (by decide)
    have hz : zk.toArray.size = 12 := rfl
    simp only [madeCells, hz, Array.toList_map, Array.toList_range, List.getElem?_map, List.getElem?_range, h, Option.map_some]
    rw [List.getElem?_eq_getElem (by rw [zk_len']; exact hr)]
    congr 1
    rw [getElem!_pos zk.toArray (i % 12) (by rw [hz]; exact hr)]
    rfl
  · rw [List.getElem?_eq_none (by rw [Array.length_toList, size_madeCells]; omega), List.getElem?_eq_none (by rw [rep_len, zk_len']; omega)]
theorem tk_len : tk.length = 12 := rfl
/-- So many entries stand, the others are zero. -/
def Half (w : World) (G c n : Nat) : Prop := n ≤ c ∧ ∃ cur : Array Value, w.heap[G]? = some (.cells cur 45 (0, 0)) ∧ cur.toList = (List.replicate n tk).flatten ++ (List.replicate (c - n) zk).flatten
theorem half_more {w : World} {G c n m : Nat} {cur : Array Value} (hg : w.heap[G]? = some (.cells cur 45 (0, 0))) (hc : cur.toList = (List.replicate n tk).flatten ++ (List.replicate (c - n) zk).flatten) (hnm : n + m ≤ c) :
    Half (w.setRow G (cur.toList.take (n * 12) ++ (List.replicate m tk).flatten ++ cur.toList.drop (n * 12 + (List.replicate m tk).flatten.length)).toArray) G c (n + m) := by
  refine ⟨hnm, _, setRow_heap w G cur _ _ _ hg, ?_⟩
  have h1 : (List.replicate n tk).flatten.length = n * 12 := by rw [rep_len, tk_len]
  have h2 : (List.replicate m tk).flatten.length = m * 12 := by rw [rep_len, tk_len]
  rw [h2, hc, List.take_left' h1, rep_add]
  congr 1
  rw [← Nat.add_mul, List.drop_append, h1, List.drop_eq_nil_of_le (by rw [h1]; exact Nat.mul_le_mul_right _ (by omega)), List.nil_append]
  rw [show (n + m) * 12 - n * 12 = m * 12 by rw [← Nat.sub_mul]; congr 1; omega, show c - n = m + (c - (n + m)) by omega, rep_add, List.drop_left' (by rw [rep_len, zk_len'])]
theorem add_plain (b q : Nat) : (⟨b, 0, none⟩ : Addr).add q = ⟨b, q, none⟩ := by unfold Addr.add; split <;> simp_all
theorem upd_setRow (w : World) (G : Nat) (cs : Array Value) : Upd [G] w (w.setRow G cs) := ⟨rfl, rfl, rfl, by simp [World.setRow], fun k hk hS => setRow_other w G k cs (by simpa using hS)⟩
set_option maxRecDepth 100000 in
set_option maxHeartbeats 4000000 in
theorem repeat_any {c X : Nat} (w : World) (hc : c ≤ 30) (hX : w.heap[X]? = some (.cells tk.toArray 45 (0, 0))) :
    Calls Tryd.prog 26 #[.slice (some ⟨X, 0, none⟩) 1 1, .int .i64 (c : Int)] w fun e w' => e = .returned (.slice (some ⟨w.heap.size, 0, none⟩) c c) ∧ Half w' w.heap.size c c ∧ Upd [] w w' := by
  have HX := hide hX
  have hXl := blk_lt hX
  obtain ⟨i1, hi1, iz0, iz1, iz2⟩ := info_parts infoE
  have d0 : decide ((c : Int) < 0) = false := by simp
  have v1 : IntKind.u64.wrap (c : Int) = (c : Int) := IntWalk.u64_in _ (by omega)
  have v2 : IntKind.i64.wrap (c : Int) = (c : Int) := IntWalk.i64_in _ (by omega)
  have d1 : decide ((9223372036854775807 : Int) < (c : Int)) = false := by simp; omega
  have hmk := run_make_rowN (P := Tryd.prog) 38 45 i1 _ Tryd.underlying38 hi1 iz0 .i64 .i64 c c (Nat.le_refl _) (by rw [iz2]; omega) (by omega)
  rw [iz1] at hmk
  have hmk1 : (Instr.makeSlice 38 (.int .i64 (c : Int)) (.int .i64 (c : Int))).run Tryd.prog w = .ok (.slice (some ⟨w.heap.size, 0, none⟩) c c) (w.alloc (.cells (madeCells zk.toArray (c * 12)) 45)) := hmk w
  clear hX hmk
  go_enter Tryd.func26, Tryd.ntmps26
  go_wp2_with fail
  refine (mul_any c hc _).mono ?_
  rintro e w9 ⟨rfl, rfl⟩
  have hW := blk_new w (.cells (madeCells zk.toArray (c * 12)) 45)
  have hU := (Upd.refl [] w).alloc (.cells (madeCells zk.toArray (c * 12)) 45)
  have hX1 := hU.get HX.out (by simp)
  generalize w.alloc (.cells (madeCells zk.toArray (c * 12)) 45) = w1 at *
  have hs12 : (Tryd.prog.info? 45).map (·.size) = some 12 := by rw [hi1]; simp [iz1]
  obtain ⟨m, hm⟩ : ∃ m, Nat.min 1 c = m := ⟨_, rfl⟩
  have hm1 : m ≤ 1 := by rw [← hm]; exact Nat.min_le_left _ _
  have hmc : m ≤ c := by rw [← hm]; exact Nat.min_le_right _ _
  have hcp := run_copy_rowz (P := Tryd.prog) w1 12 38 38 3 45 w.heap.size 0 c c ⟨X, 0, none⟩ 1 1 _ 45 (List.replicate m tk).flatten m hm Tryd.underlying38 hs12 hW (by rw [rep_len, tk_len])
    (fun j v hj => by
      have hplain : (⟨X, 0, none⟩ : Addr).add j = ⟨X, j, none⟩ := by unfold Addr.add; split <;> simp_all
      rw [hplain]
      have : m = 0 ∨ m = 1 := by omega
      rcases this with rfl | rfl
      · simp at hj
      · simp only [List.replicate_one, List.flatten_cons, List.flatten_nil, List.append_nil] at hj
        simp only [World.cell?, hX1]
        simpa using hj) (by rw [rep_len, tk_len, size_madeCells]; have := Nat.mul_le_mul_right 12 hmc; omega) (tk_one m)
  have hh := half_more (c := c) (n := 0) (m := m) hW (by rw [made_zk]; simp) (by omega)
  simp only [Nat.zero_mul, Nat.zero_add] at hh
  have hu2 := upd_setRow w1 w.heap.size (((madeCells zk.toArray (c * 12)).toList.take 0 ++ (List.replicate m tk).flatten ++ (madeCells zk.toArray (c * 12)).toList.drop (0 + (List.replicate m tk).flatten.length)).toArray)
  rw [Nat.zero_add] at hcp hu2
  generalize w1.setRow w.heap.size ((madeCells zk.toArray (c * 12)).toList.take 0 ++ (List.replicate m tk).flatten ++ (madeCells zk.toArray (c * 12)).toList.drop (List.replicate m tk).flatten.length).toArray = w2 at *
  have U2 := hide (hU.trans_new hu2 (fun k hk => .inr (by simp at hk; omega))); have H2 := hide hh
  clear hW hU hX1 hh hu2
  have HM := hide hm
  clear hm
  have hG1 : w.heap.size < w2.heap.size := by obtain ⟨-, cur, h, -⟩ := H2.out; exact blk_lt h
  go_wp2_with fail
  go_loopw [8] (fun sn wr => ∃ n : Nat, sn = .int .i64 n ∧ Half wr w.heap.size c n ∧ (c = 0 ∨ 1 ≤ n) ∧ Upd [] w wr) (fun sn _ => c - (intOf sn).toNat)
  case atStart => exact ⟨m, rfl, H2.out, by have := HM.out; simp only [Nat.min_def] at this; split at this <;> omega, U2.out⟩
  case round =>
    obtain ⟨n, rfl, hh, hpos, hu⟩ := hrel
    have HU := hide hu; have HH := hide hh
    have hnc := hh.1
    clear hu
    by_cases hlt : n < c
    · have d5 : decide ((n : Int) < (c : Int)) = true := by simp; omega
      have d5' : decide (n < c) = true := by simpa using hlt
      have hcz : cutZ 12 (some ⟨w.heap.size, 0, none⟩) n c = some ⟨w.heap.size, n * 12, none⟩ := by
        unfold cutZ
        rw [if_neg (by omega)]
        exact congrArg some (add_plain _ _)
      have hsl := run_cutz_l (P := Tryd.prog) 38 45 12 Tryd.underlying38 sizeE (some ⟨w.heap.size, 0, none⟩) c c n n rfl (by omega)
      rw [hcz] at hsl
      have hsl2 := run_cutz_h (P := Tryd.prog) 38 45 12 Tryd.underlying38 sizeE (some ⟨w.heap.size, 0, none⟩) c c n n rfl (by omega)
      obtain ⟨m2, hm2⟩ : ∃ m2, Nat.min n (c - n) = m2 := ⟨_, rfl⟩
      have hm2n : m2 ≤ n := by rw [← hm2]; exact Nat.min_le_left _ _
      have hm2c : m2 ≤ c - n := by rw [← hm2]; exact Nat.min_le_right _ _
      have hm2p : 1 ≤ m2 := by rw [← hm2]; simp only [Nat.min_def]; split <;> omega
      have hw0 : IntKind.i64.wrap ((n : Int) + (m2 : Int)) = (n : Int) + (m2 : Int) := IntWalk.i64_in _ (by omega)
      obtain ⟨-, cur, hcur, hcl⟩ := (show Half (wr.drewN 1) w.heap.size c n from hh)
      have hcsz : cur.size = c * 12 := by
        have := congrArg List.length hcl
        rw [Array.length_toList, List.length_append, rep_len, rep_len, tk_len, zk_len', ← Nat.add_mul] at this
        rw [this]; congr 1; omega
      have hs12 : (Tryd.prog.info? 45).map (·.size) = some 12 := by rw [hi1]; simp [iz1]
      have hcp2 := run_copy_rowz (P := Tryd.prog) (wr.drewN 1) 12 38 38 3 45 w.heap.size (n * 12) (c - n) (c - n) ⟨w.heap.size, 0, none⟩ n c cur 45 (List.replicate m2 tk).flatten m2 hm2 Tryd.underlying38 hs12 hcur (by rw [rep_len, tk_len])
        (fun j v hj => by
          have hplain : (⟨w.heap.size, 0, none⟩ : Addr).add j = ⟨w.heap.size, j, none⟩ := by unfold Addr.add; split <;> simp_all
          rw [hplain]
          have hjl : j < (List.replicate m2 tk).flatten.length := (List.getElem?_eq_some_iff.1 hj).1
          have hx : cur.toList[j]? = some v := by
            rw [hcl, show n = m2 + (n - m2) by omega, rep_add, List.append_assoc, List.getElem?_append_left hjl]
            exact hj
          simp only [World.cell?, hcur]
          simpa using hx) (by rw [rep_len, tk_len, hcsz, ← Nat.add_mul]; exact Nat.mul_le_mul_right _ (by omega)) (tk_one m2)
      have hh2 := half_more (c := c) (n := n) (m := m2) hcur hcl (by omega)
      have hu2 := upd_setRow (wr.drewN 1) w.heap.size (cur.toList.take (n * 12) ++ (List.replicate m2 tk).flatten ++ cur.toList.drop (n * 12 + (List.replicate m2 tk).flatten.length)).toArray
      generalize (wr.drewN 1).setRow w.heap.size (cur.toList.take (n * 12) ++ (List.replicate m2 tk).flatten ++ cur.toList.drop (n * 12 + (List.replicate m2 tk).flatten.length)).toArray = w5 at *
      have H5 := hide hh2; have U5 := hide ((HU.out.drewN 1).trans_new hu2 (fun k hk => .inr (by simp at hk; omega)))
      clear hcur hcl hh2 hu2 hh hcz hm2
      go_wp2_with fail
      refine wp_region_z (fun _ => True) 99 (by kernel_rfl) ?_
      refine wpAnyZ_takeE 0 rfl (by kernel_rfl) (by kernel_rfl) (by kernel_rfl) (by kernel_rfl) (fun _ _ _ _ h => h) rfl (by exact trivial) ?_
      apply Exists.intro
      refine ⟨fun wx hS => ?_, ?_⟩
      · have s0 := hS; go_simp; rfl
      simp only [Act.put, List.setIfInBounds_toArray, List.set_cons_succ, List.set_cons_zero, List.getElem_toArray, List.getElem_cons_zero]
      refine wpAnyZ_takeE 1 rfl (by kernel_rfl) (by kernel_rfl) (by kernel_rfl) (by kernel_rfl) (fun _ _ _ _ h => h) rfl (by exact trivial) ?_
      apply Exists.intro
      refine ⟨fun wx hS => ?_, ?_⟩
      · have s0 := hS; go_simp; rfl
      simp only [Act.put, List.setIfInBounds_toArray, List.set_cons_succ, List.set_cons_zero, List.getElem_toArray, List.getElem_cons_succ, List.getElem_cons_zero]
      refine wpAnyZ_takeE 2 rfl (by kernel_rfl) (by kernel_rfl) (by kernel_rfl) (by kernel_rfl) (fun _ _ _ _ h => h) rfl (by exact trivial) ?_
      apply Exists.intro
      refine ⟨fun wx hS => ?_, ?_⟩
      · have s0 := hS; go_simp; rfl
      simp only [Act.put, List.setIfInBounds_toArray, List.set_cons_succ, List.set_cons_zero, List.getElem_toArray, List.getElem_cons_succ, List.getElem_cons_zero]
      refine wpAnyZ_takeE 3 rfl (by kernel_rfl) (by kernel_rfl) (by kernel_rfl) (by kernel_rfl) (fun _ _ _ _ h => h) rfl (by exact trivial) ?_
      apply Exists.intro
      refine ⟨fun wx hS => ?_, ?_⟩
      · have s0 := hS; go_simp; rfl
      simp only [Act.put, List.setIfInBounds_toArray, List.set_cons_succ, List.set_cons_zero, List.getElem_toArray, List.getElem_cons_succ, List.getElem_cons_zero]
      refine wpAnyZ_takeE 4 rfl (by kernel_rfl) (by kernel_rfl) (by kernel_rfl) (by kernel_rfl) (fun _ _ _ _ h => h) rfl (by exact trivial) ?_
      apply Exists.intro
      refine ⟨fun wx hS => ?_, ?_⟩
      · have s0 := hS; go_simp; rfl
      simp only [Act.put, List.setIfInBounds_toArray, List.set_cons_succ, List.set_cons_zero, List.getElem_toArray, List.getElem_cons_succ, List.getElem_cons_zero]
      refine wpAnyZ_takeE 5 rfl (by kernel_rfl) (by kernel_rfl) (by kernel_rfl) (by kernel_rfl) (fun _ _ _ _ h => h) rfl (by exact trivial) ?_
      apply Exists.intro
      refine ⟨fun wx hS => ?_, ?_⟩
      · have s0 := hS; go_simp; rfl
      simp only [Act.put, List.setIfInBounds_toArray, List.set_cons_succ, List.set_cons_zero, List.getElem_toArray, List.getElem_cons_succ, List.getElem_cons_zero]
      refine wpAnyZ_takeE 6 rfl (by kernel_rfl) (by kernel_rfl) (by kernel_rfl) (by kernel_rfl) (fun _ _ _ _ h => h) rfl (by exact trivial) ?_
      apply Exists.intro
      refine ⟨fun wx hS => ?_, ?_⟩
      · have s0 := hS; go_simp; rfl
      simp only [Act.put, List.setIfInBounds_toArray, List.set_cons_succ, List.set_cons_zero, List.getElem_toArray, List.getElem_cons_succ, List.getElem_cons_zero]
      refine wpAnyZ_one 7 (by kernel_rfl) rfl rfl (fun K hK => ?_)
      try simp only [List.getElem_toArray, List.getElem_cons_succ, List.getElem_cons_zero]
      go_simp
      refine hK _ _ (.inr trivial) ?_
      clear hK K
      try simp only [Act.put, List.setIfInBounds_toArray, List.set_cons_succ, List.set_cons_zero]
      refine wpAnyZ_one 8 (by kernel_rfl) rfl rfl (fun K hK => ?_)
      try simp only [List.getElem_toArray, List.getElem_cons_succ, List.getElem_cons_zero]
      go_simp
      refine hK _ _ (.inr trivial) ?_
      clear hK K
      try simp only [Act.put, List.setIfInBounds_toArray, List.set_cons_succ, List.set_cons_zero]
      refine wpAnyZ_one 9 (by kernel_rfl) rfl rfl (fun K hK => ?_)
      try simp only [List.getElem_toArray, List.getElem_cons_succ, List.getElem_cons_zero]
      go_simp
      refine hK _ _ (.inr trivial) ?_
      clear hK K
      try simp only [Act.put, List.setIfInBounds_toArray, List.set_cons_succ, List.set_cons_zero]
      refine wpAnyZ_done (by kernel_rfl) ?_ _
      go_wp2_with fail
      go_roundw
      case rel => exact ⟨n + m2, by go_num, H5.out, by omega, U5.out⟩
      case measure => simp [intOf]; omega
    · have hnn : n = c := by omega
      subst hnn
      have d5 : decide ((n : Int) < (n : Int)) = false := by simp
      have d5' : decide (n < n) = false := by simp
      clear hh
      go_wp2_with fail
      go_ret
      exact ⟨rfl, HH.out, HU.out⟩
end Go.Proofs.YtloaceaomljeiaaDoor.Tr
