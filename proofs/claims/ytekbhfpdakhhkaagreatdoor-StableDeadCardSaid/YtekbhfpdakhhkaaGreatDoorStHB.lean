/- StH, StB, StC in one text. -/
import Derived.Test.YtekbhfpdakhhkaaGreatDoorGenAll
import Derived.Test.YtekbhfpdakhhkaaGreatDoorStX
import Derived.Test.YtekbhfpdakhhkaaGreatDoorStK
import Derived.Laws.ResultCell
import Derived.Laws.StructEq
import Derived.Lib.RowBridge
namespace Go.Proofs.YtekbhfpdakhhkaaGreatDoor.St
open Go.RowKit
/-- The region of a number in a function's code. -/
def findOps (n : Nat) : Code → Array Oper
  | .region id ops _ => if id = n then ops else #[]
  | .seq a b => if (findOps n a).isEmpty then findOps n b else findOps n a
  | .cond _ a b => if (findOps n a).isEmpty then findOps n b else findOps n a
  | .block _ a => findOps n a
  | .loop a => findOps n a
  | _ => #[]
theorem results_cell1 {fn : Func} {p : Tmp} {ty : TypeId} (h : fn.results = #[.cell p ty]) (tmps : Array Value) (P : Program) (w : World) :
    (results fn tmps).run P w = ((asAddr (tmps.getD p undef)).run P w).andThen fun a w₁ => (loadVar ty a).run P w₁ := by
  simp only [results, h]
  simp [Sem.run_bind, Result.andThen]
end Go.Proofs.YtekbhfpdakhhkaaGreatDoor.St
namespace Go.Proofs.YtekbhfpdakhhkaaGreatDoor.St
set_option linter.unusedSimpArgs false
set_option linter.unusedVariables false
set_option linter.unnecessarySimpa false
open Go.RowKit Go.Lib Go.Proofs.YtekbhfpdakhhkaaGreatDoor.Crc Go.Proofs.YtekbhfpdakhhkaaGreatDoor.Var Go.Proofs.YtekbhfpdakhhkaaGreatDoor.DiskW

theorem part_of {t : TypeId} {xs : Array Value} {o : Nat} {v : Value} {w : World} (h : (isAgg t).run Tryz.prog w = .ok false w) (hv : xs[o]? = some v) : (part t xs o).run Tryz.prog w = .ok v w := by
  simp [part, Sem.run_bind, h, hv]
theorem agg_int (t : TypeId) {k : IntKind} (h : Tryz.prog.underlying t = some (.int k)) (w : World) : (isAgg t).run Tryz.prog w = .ok false w := by
  unfold isAgg
  rw [Sem.run_bind, run_underlying h w]
  rfl
theorem flds_ba : (Tryz.prog.fieldsOf 25).toList.map (fun f => (f.name == "_", f.type, f.offset)) = [(false, 23, 0), (false, 3, 1)] := by kernel_rfl
theorem eqF_nil (d : Nat) (xs ys : Array Value) (w : World) : (Op.eqFields d xs ys []).run Tryz.prog w = .ok true w := rfl
theorem eqF_cons {d : Nat} {xs ys : Array Value} {f : Field} {fs : List Field} {w : World} {a b : Value} {r : Bool} (hn : (f.name == "_") = false) (ha : (part f.type xs f.offset).run Tryz.prog w = .ok a w) (hb : (part f.type ys f.offset).run Tryz.prog w = .ok b w) (he : (Op.equalIn d f.type a b).run Tryz.prog w = .ok r w) :
    (Op.eqFields d xs ys (f :: fs)).run Tryz.prog w = if r then (Op.eqFields d xs ys fs).run Tryz.prog w else .ok false w := by
  have hn' : f.name ≠ "_" := by simpa using hn
  conv => lhs; unfold Op.eqFields
  rw [if_pos hn']
  simp only [Sem.run_bind, ha, hb, he, Result.andThen_ok]
  cases r <;> rfl
theorem map2 {X Y : Type} {f : X → Y} {l : List X} {a b : Y} (h : l.map f = [a, b]) : ∃ x y, l = [x, y] ∧ f x = a ∧ f y = b := by
  obtain ⟨x, l1, rfl, h1, h2⟩ := List.map_eq_cons_iff.1 h
  obtain ⟨y, l2, rfl, h3, h4⟩ := List.map_eq_cons_iff.1 h2
  obtain rfl := List.map_eq_nil_iff.1 h4
  exact ⟨x, y, rfl, h1, h3⟩
abbrev balV (b : Bal) : Value := .agg #[.int .u64 (b.n : Int), .int .i64 b.r]
theorem eq_bal (a b : Bal) (w : World) : (Op.equalIn 10000 25 (balV a) (balV b)).run Tryz.prog w = .ok (decide (a = b)) w := by
  unfold balV
  rw [run_equalIn_struct w 9999 25 _ _ (by kernel_rfl) (by kernel_rfl)]
  have hf := flds_ba
  generalize (Tryz.prog.fieldsOf 25).toList = fs at hf ⊢
  obtain ⟨f, g, rfl, hf1, hg1⟩ := map2 hf
  simp only [Prod.mk.injEq] at hf1 hg1
  obtain ⟨f1, f2, f3⟩ := hf1
  obtain ⟨g1, g2, g3⟩ := hg1
  rw [eqF_cons f1 (by rw [f2, f3]; exact part_of (agg_int _ Tryz.underlying23 w) rfl) (by rw [f2, f3]; exact part_of (agg_int _ Tryz.underlying23 w) rfl) (by rw [f2]; exact run_equalIn_int w 9998 23 .u64 .u64 (a.n : Int) (b.n : Int) Tryz.underlying23)]
  rw [eqF_cons g1 (by rw [g2, g3]; exact part_of (agg_int _ Tryz.underlying3 w) rfl) (by rw [g2, g3]; exact part_of (agg_int _ Tryz.underlying3 w) rfl) (by rw [g2]; exact run_equalIn_int w 9998 3 .i64 .i64 a.r b.r Tryz.underlying3), eqF_nil]
  obtain ⟨n1, r1⟩ := a
  obtain ⟨n2, r2⟩ := b
  simp only [Bal.mk.injEq]
  by_cases h1 : n1 = n2 <;> by_cases h2 : r1 = r2 <;> simp [h1, h2] <;> omega
theorem neq_bal (a b : Bal) (w : World) : (binOp .neq 25 (balV a) (balV b)).run Tryz.prog w = .ok (.bool (!decide (a = b))) w := by
  rw [run_neq_struct, eq_bal]
  rfl
theorem eql_bal (a b : Bal) (w : World) : (binOp .eql 25 (balV a) (balV b)).run Tryz.prog w = .ok (.bool (decide (a = b))) w := by
  rw [run_eql_struct, eq_bal]
  rfl
def cmpI (a b : Int) : Int := if a < b then -1 else if b < a then 1 else 0
set_option maxHeartbeats 1000000 in
theorem cmpU_any (a b : Nat) (w : World) : Calls Tryz.prog 43 #[.int .u64 (a : Int), .int .u64 (b : Int)] w fun e w' => e = .returned (.int .i64 (cmpI a b)) ∧ Upd [] w w' := by
  have q2 : ((a : Int) != (a : Int)) = false := by simp
  have q3 : ((b : Int) != (b : Int)) = false := by simp
  unfold cmpI
  by_cases h1 : a < b
  · have q1 : decide ((a : Int) < (b : Int)) = true := by simp; omega
    have q1' : decide (a < b) = true := by simpa using h1
    rw [if_pos (by omega)]
    go_enter Tryz.func43, Tryz.ntmps43
    go_wp2
    go_ret
    exact ⟨rfl, Upd.refl _ _⟩
  · have q1 : decide ((a : Int) < (b : Int)) = false := by simp; omega
    have q1' : decide (a < b) = false := by simpa using h1
    rw [if_neg (by omega)]
    by_cases h2 : b < a
    · have q4 : decide ((b : Int) < (a : Int)) = true := by simp; omega
      have q4' : decide (b < a) = true := by simpa using h2
      have q5 : decide ((a : Int) > (b : Int)) = true := by simp; omega
      rw [if_pos (by omega)]
      go_enter Tryz.func43, Tryz.ntmps43
      go_wp2
      go_ret
      exact ⟨rfl, Upd.refl _ _⟩
    · have q4 : decide ((b : Int) < (a : Int)) = false := by simp; omega
      have q4' : decide (b < a) = false := by simpa using h2
      have q5 : decide ((a : Int) > (b : Int)) = false := by simp; omega
      rw [if_neg (by omega)]
      go_enter Tryz.func43, Tryz.ntmps43
      go_wp2
      go_ret
      exact ⟨rfl, Upd.refl _ _⟩
set_option maxHeartbeats 1000000 in
theorem cmpS_any (a b : Int) (w : World) : Calls Tryz.prog 107 #[.int .i64 a, .int .i64 b] w fun e w' => e = .returned (.int .i64 (cmpI a b)) ∧ Upd [] w w' := by
  have q2 : (a != a) = false := by simp
  have q3 : (b != b) = false := by simp
  unfold cmpI
  by_cases h1 : a < b
  · have q1 : decide (a < b) = true := by simpa using h1
    rw [if_pos h1]
    go_enter Tryz.func107, Tryz.ntmps107
    go_wp2
    go_ret
    exact ⟨rfl, Upd.refl _ _⟩
  · have q1 : decide (a < b) = false := by simpa using h1
    rw [if_neg h1]
    by_cases h2 : b < a
    · have q4 : decide (b < a) = true := by simpa using h2
      have q5 : decide (a > b) = true := by simpa using h2
      rw [if_pos h2]
      go_enter Tryz.func107, Tryz.ntmps107
      go_wp2
      go_ret
      exact ⟨rfl, Upd.refl _ _⟩
    · have q4 : decide (b < a) = false := by simpa using h2
      have q5 : decide (a > b) = false := by simpa using h2
      rw [if_neg h2]
      go_enter Tryz.func107, Tryz.ntmps107
      go_wp2
      go_ret
      exact ⟨rfl, Upd.refl _ _⟩
set_option maxHeartbeats 2000000 in
/-- cmp.Or of two numbers. -/
theorem or_any {b : Nat} {x y : Int} (w : World) (h : w.heap[b]? = some (.cells #[.int .i64 x, .int .i64 y] 3 (0, 0))) :
    Calls Tryz.prog 106 #[.slice (some ⟨b, 0, none⟩) 2 2] w fun e w' => e = .returned (.int .i64 (if x ≠ 0 then x else y)) ∧ Upd [] w w' := by
  have c0 : w.cell? ⟨b, 0, none⟩ = some (.int .i64 x) := blk_cell h rfl
  have c1 : w.cell? ⟨b, 1, none⟩ = some (.int .i64 y) := blk_cell h rfl
  clear h
  go_enter Tryz.func106, Tryz.ntmps106
  go_wp2_with fail
  go_loop [8] (fun si => ∃ i : Nat, i ≤ 2 ∧ si = .int .i64 i ∧ (1 ≤ i → x = 0) ∧ (2 ≤ i → y = 0)) (fun si => 2 - (RowKit.intOf si).toNat)
  case atStart => exact ⟨0, by omega, rfl, by omega, by omega⟩
  case round =>
    obtain ⟨i, hi, rfl, h1, h2⟩ := hrel
    have hi3 : i = 0 ∨ i = 1 ∨ i = 2 := by omega
    rcases hi3 with rfl | rfl | rfl
    · by_cases hx : x = 0
      · subst hx
        have q : ((0 : Int) != 0) = false := rfl
        go_wp2_with fail
        go_round
        case rel => exact ⟨1, by omega, rfl, by simp, by omega⟩
        case measure => simp [RowKit.intOf]
      · have q : (x != 0) = true := by simpa using hx
        go_wp2_with fail
        go_ret
        first | exact ⟨rfl, Upd.refl _ _⟩ | exact ⟨by rw [if_pos hx], Upd.refl _ _⟩
    · have hx := h1 (by omega)
      subst hx
      by_cases hy : y = 0
      · subst hy
        have q : ((0 : Int) != 0) = false := rfl
        go_wp2_with fail
        go_round
        case rel => exact ⟨2, by omega, rfl, by simp, by simp⟩
        case measure => simp [RowKit.intOf]
      · have q : (y != 0) = true := by simpa using hy
        go_wp2_with fail
        go_ret
        first | exact ⟨rfl, Upd.refl _ _⟩ | exact ⟨by simp, Upd.refl _ _⟩
    · have hx := h1 (by omega)
      have hy := h2 (by omega)
      subst hx; subst hy
      go_wp2_with fail
      go_ret
      exact ⟨rfl, Upd.refl _ _⟩
noncomputable def orOps1 : Array Oper := findOps 1 ((Tryz.f86.body).getD .skip)
set_option maxRecDepth 100000 in
set_option maxHeartbeats 2000000 in
theorem order_any (a b : Bal) (w : World) : Calls Tryz.prog 86 #[balV a, balV b] w fun e w' => e = .returned (.int .i64 (if cmpI a.n b.n ≠ 0 then cmpI a.n b.n else cmpI a.r b.r)) ∧ Upd [] w w' := by
  obtain ⟨r, hr⟩ : ∃ r, (if cmpI a.n b.n ≠ 0 then cmpI a.n b.n else cmpI a.r b.r) = r := ⟨_, rfl⟩
  rw [hr]
  have HR := hide hr
  clear hr
  go_enter Tryz.func86, Tryz.ntmps86
  have hA := blk_alloc (blk_new w (.cells #[.int .u64 (a.n : Int), .int .i64 a.r] 25)) (.cells #[.int .u64 (b.n : Int), .int .i64 b.r] 25)
  have hB := blk_new (w.alloc (.cells #[.int .u64 (a.n : Int), .int .i64 a.r] 25)) (.cells #[.int .u64 (b.n : Int), .int .i64 b.r] 25)
  have hu := ((Upd.refl [] w).alloc (.cells #[.int .u64 (a.n : Int), .int .i64 a.r] 25)).alloc (.cells #[.int .u64 (b.n : Int), .int .i64 b.r] 25)
  simp only [World.size_alloc] at hB
  go_upto_region 1 with fail
  generalize (w.alloc (.cells #[.int .u64 (a.n : Int), .int .i64 a.r] 25)).alloc (.cells #[.int .u64 (b.n : Int), .int .i64 b.r] 25) = w2 at *
  obtain ⟨B, hBn⟩ : ∃ B, w.heap.size = B := ⟨_, rfl⟩
  rw [hBn] at hA hB ⊢
  have XA := hide hA; have XB := hide hB; have U2 := hide hu
  clear hA hB hu hBn
  have s0 : Upd [] w2 (w2.drewN 1) := (Upd.refl [] w2).drewN 1
  refine wp_region_z (fun wx => Upd [] w2 wx) 99 (by kernel_rfl) ?_
  refine wpAnyZ_takeE 0 rfl (by kernel_rfl) (by kernel_rfl) (by kernel_rfl) (by kernel_rfl) (fun _ _ _ _ h => h) rfl (by exact s0) ?_
  apply Exists.intro
  refine ⟨fun wx hS => ?_, ?_⟩
  · go_simp; rfl
  simp only [Act.put, List.setIfInBounds_toArray, List.set_cons_succ, List.set_cons_zero, List.getElem_toArray, List.getElem_cons_zero]
  refine wpAnyZ_takeE 1 rfl (by kernel_rfl) (by kernel_rfl) (by kernel_rfl) (by kernel_rfl) (fun _ _ _ _ h => h) rfl (by exact s0) ?_
  apply Exists.intro
  refine ⟨fun wx hS => ?_, ?_⟩
  · have c0 : wx.cell? ⟨B, 0, none⟩ = some (.int .u64 (a.n : Int)) := blk_cell (hS.get XA.out (by simp)) rfl; go_simp; rfl
  simp only [Act.put, List.setIfInBounds_toArray, List.set_cons_succ, List.set_cons_zero, List.getElem_toArray, List.getElem_cons_succ, List.getElem_cons_zero]
  refine wpAnyZ_takeE 2 rfl (by kernel_rfl) (by kernel_rfl) (by kernel_rfl) (by kernel_rfl) (fun _ _ _ _ h => h) rfl (by exact s0) ?_
  apply Exists.intro
  refine ⟨fun wx hS => ?_, ?_⟩
  · go_simp; rfl
  simp only [Act.put, List.setIfInBounds_toArray, List.set_cons_succ, List.set_cons_zero, List.getElem_toArray, List.getElem_cons_succ, List.getElem_cons_zero]
  refine wpAnyZ_takeE 3 rfl (by kernel_rfl) (by kernel_rfl) (by kernel_rfl) (by kernel_rfl) (fun _ _ _ _ h => h) rfl (by exact s0) ?_
  apply Exists.intro
  refine ⟨fun wx hS => ?_, ?_⟩
  · have c0 : wx.cell? ⟨B + 1, 0, none⟩ = some (.int .u64 (b.n : Int)) := blk_cell (hS.get XB.out (by simp)) rfl; go_simp; rfl
  simp only [Act.put, List.setIfInBounds_toArray, List.set_cons_succ, List.set_cons_zero, List.getElem_toArray, List.getElem_cons_succ, List.getElem_cons_zero]
  refine wpAnyZ_takeE 5 rfl (by kernel_rfl) (by kernel_rfl) (by kernel_rfl) (by kernel_rfl) (fun _ _ _ _ h => h) rfl (by exact s0) ?_
  apply Exists.intro
  refine ⟨fun wx hS => ?_, ?_⟩
  · go_simp; rfl
  simp only [Act.put, List.setIfInBounds_toArray, List.set_cons_succ, List.set_cons_zero, List.getElem_toArray, List.getElem_cons_succ, List.getElem_cons_zero]
  refine wpAnyZ_takeE 6 rfl (by kernel_rfl) (by kernel_rfl) (by kernel_rfl) (by kernel_rfl) (fun _ _ _ _ h => h) rfl (by exact s0) ?_
  apply Exists.intro
  refine ⟨fun wx hS => ?_, ?_⟩
  · have c0 : wx.cell? ⟨B, 1, none⟩ = some (.int .i64 a.r) := blk_cell (hS.get XA.out (by simp)) rfl; go_simp; rfl
  simp only [Act.put, List.setIfInBounds_toArray, List.set_cons_succ, List.set_cons_zero, List.getElem_toArray, List.getElem_cons_succ, List.getElem_cons_zero]
  refine wpAnyZ_takeE 7 rfl (by kernel_rfl) (by kernel_rfl) (by kernel_rfl) (by kernel_rfl) (fun _ _ _ _ h => h) rfl (by exact s0) ?_
  apply Exists.intro
  refine ⟨fun wx hS => ?_, ?_⟩
  · go_simp; rfl
  simp only [Act.put, List.setIfInBounds_toArray, List.set_cons_succ, List.set_cons_zero, List.getElem_toArray, List.getElem_cons_succ, List.getElem_cons_zero]
  refine wpAnyZ_takeE 8 rfl (by kernel_rfl) (by kernel_rfl) (by kernel_rfl) (by kernel_rfl) (fun _ _ _ _ h => h) rfl (by exact s0) ?_
  apply Exists.intro
  refine ⟨fun wx hS => ?_, ?_⟩
  · have c0 : wx.cell? ⟨B + 1, 1, none⟩ = some (.int .i64 b.r) := blk_cell (hS.get XB.out (by simp)) rfl; go_simp; rfl
  simp only [Act.put, List.setIfInBounds_toArray, List.set_cons_succ, List.set_cons_zero, List.getElem_toArray, List.getElem_cons_succ, List.getElem_cons_zero]
  refine wpAnyZ_one 4 (by kernel_rfl) rfl rfl (fun K hK => ?_)
  try simp only [List.getElem_toArray, List.getElem_cons_succ, List.getElem_cons_zero]
  go_simp
  refine (cmpU_any a.n b.n _).mono ?_
  rintro e w3 ⟨rfl, hu3⟩
  have s3 := s0.trans hu3
  clear hu3 s0
  refine hK _ _ (.inr s3) ?_
  clear hK K
  try simp only [Act.put, List.setIfInBounds_toArray, List.set_cons_succ, List.set_cons_zero]
  refine wpAnyZ_one 9 (by kernel_rfl) rfl rfl (fun K hK => ?_)
  try simp only [List.getElem_toArray, List.getElem_cons_succ, List.getElem_cons_zero]
  go_simp
  refine (cmpS_any a.r b.r _).mono ?_
  rintro e w4 ⟨rfl, hu4⟩
  have s4 := s3.trans hu4
  clear hu4 s3
  refine hK _ _ (.inr s4) ?_
  clear hK K
  try simp only [Act.put, List.setIfInBounds_toArray, List.set_cons_succ, List.set_cons_zero]
  refine wpAnyZ_one 10 (by kernel_rfl) rfl rfl (fun K hK => ?_)
  try simp only [List.getElem_toArray, List.getElem_cons_succ, List.getElem_cons_zero]
  go_simp
  have hN := blk_new w4 (.cells #[.int .i64 (cmpI a.n b.n), .int .i64 (cmpI a.r b.r)] 3)
  have hal := (Upd.refl [] w4).alloc (.cells #[.int .i64 (cmpI a.n b.n), .int .i64 (cmpI a.r b.r)] 3)
  generalize w4.alloc (.cells #[.int .i64 (cmpI a.n b.n), .int .i64 (cmpI a.r b.r)] 3) = w5 at *
  have s5 := s4.trans hal
  have XN := hide hN
  clear hal s4 hN
  refine hK _ _ (.inr s5) ?_
  clear hK K
  try simp only [Act.put, List.setIfInBounds_toArray, List.set_cons_succ, List.set_cons_zero]
  refine wpAnyZ_one 11 (by kernel_rfl) rfl rfl (fun K hK => ?_)
  try simp only [List.getElem_toArray, List.getElem_cons_succ, List.getElem_cons_zero]
  go_simp
  have ho := or_any w5 XN.out
  rw [HR.out] at ho
  refine ho.mono ?_
  rintro e w6 ⟨rfl, hu6⟩
  have s6 := s5.trans hu6
  clear hu6 s5
  refine hK _ _ (.inr s6) ?_
  clear hK K
  try simp only [Act.put, List.setIfInBounds_toArray, List.set_cons_succ, List.set_cons_zero]
  refine wpAnyZ_takeE 12 rfl (by kernel_rfl) (by kernel_rfl) (by kernel_rfl) (by kernel_rfl) (fun _ _ _ _ h => h) rfl (by exact s6) ?_
  apply Exists.intro
  refine ⟨fun wx hS => ?_, ?_⟩
  · go_simp; rfl
  simp only [Act.put, List.setIfInBounds_toArray, List.set_cons_succ, List.set_cons_zero, List.getElem_toArray, List.getElem_cons_succ, List.getElem_cons_zero]
  refine wpAnyZ_done (by kernel_rfl) ?_ _
  have UF := hide (U2.out.trans s6)
  clear s6
  go_wp2_with fail
  go_ret
  exact ⟨rfl, UF.out⟩
theorem order_neg (a b : Bal) : decide ((if cmpI a.n b.n ≠ 0 then cmpI a.n b.n else cmpI a.r b.r) < 0) = decide (bLess a b) := by
  unfold cmpI bLess
  by_cases h1 : a.n < b.n
  · have e1 : (a.n : Int) < b.n := by omega
    simp [h1, e1]
  · by_cases h2 : b.n < a.n
    · have e1 : ¬ (a.n : Int) < b.n := by omega
      have e2 : (b.n : Int) < a.n := by omega
      have e3 : ¬ a.n = b.n := by omega
      simp [h1, e1, e2, e3]
    · have e3 : a.n = b.n := by omega
      by_cases h3 : a.r < b.r
      · simp [e3, h3]
      · by_cases h4 : b.r < a.r
        · simp [e3, h3, h4]
        · simp [e3, h3, h4]

set_option maxRecDepth 100000 in
set_option maxHeartbeats 2000000 in
theorem less_nr (n1 n2 : Nat) (r1 r2 : Int) (w : World) : Calls Tryz.prog 67 #[.agg #[.int .u64 (n1 : Int), .int .i64 r1], .agg #[.int .u64 (n2 : Int), .int .i64 r2]] w fun e w' => e = .returned (.bool (decide (bLess ⟨n1, r1⟩ ⟨n2, r2⟩))) ∧ Upd [] w w' := by
  obtain ⟨L, hL⟩ : ∃ L, decide (bLess ⟨n1, r1⟩ ⟨n2, r2⟩) = L := ⟨_, rfl⟩
  rw [hL]
  go_enter Tryz.func67, Tryz.ntmps67
  have hA := blk_alloc (blk_new w (.cells #[.int .u64 (n1 : Int), .int .i64 r1] 25)) (.cells #[.int .u64 (n2 : Int), .int .i64 r2] 25)
  have hB := blk_new (w.alloc (.cells #[.int .u64 (n1 : Int), .int .i64 r1] 25)) (.cells #[.int .u64 (n2 : Int), .int .i64 r2] 25)
  have hu := ((Upd.refl [] w).alloc (.cells #[.int .u64 (n1 : Int), .int .i64 r1] 25)).alloc (.cells #[.int .u64 (n2 : Int), .int .i64 r2] 25)
  simp only [World.size_alloc] at hB
  go_upto_region 1 with fail
  generalize (w.alloc (.cells #[.int .u64 (n1 : Int), .int .i64 r1] 25)).alloc (.cells #[.int .u64 (n2 : Int), .int .i64 r2] 25) = w2 at *
  obtain ⟨B, hBn⟩ : ∃ B, w.heap.size = B := ⟨_, rfl⟩
  rw [hBn] at hA hB ⊢
  have U2 := hide hu
  have c0 : w2.cell? ⟨B, 0, none⟩ = some (.int .u64 (n1 : Int)) := blk_cell hA rfl
  have c1 : w2.cell? ⟨B, 1, none⟩ = some (.int .i64 r1) := blk_cell hA rfl
  have c2 : w2.cell? ⟨B + 1, 0, none⟩ = some (.int .u64 (n2 : Int)) := blk_cell hB rfl
  have c3 : w2.cell? ⟨B + 1, 1, none⟩ = some (.int .i64 r2) := blk_cell hB rfl
  clear hA hB hu hBn
  by_cases h1 : n1 = n2
  · subst h1
    by_cases h2 : r1 = r2
    · subst h2
      have hl : L = false := by rw [← hL]; exact decide_eq_false (bLess_irrefl _)
      subst hl
      clear hL
      go_wp2_with fail
      go_ret
      exact ⟨rfl, U2.out⟩
    · skip
      obtain ⟨r, hr⟩ : ∃ r, (if cmpI n1 n1 ≠ 0 then cmpI n1 n1 else cmpI r1 r2) = r := ⟨_, rfl⟩
      have hn := order_neg ⟨n1, r1⟩ ⟨n1, r2⟩
      have ho := order_any ⟨n1, r1⟩ ⟨n1, r2⟩ w2
      simp only at hn ho
      rw [hr, hL] at hn
      rw [hr] at ho
      have HO := hide ho
      clear hr ho hL
      go_wp2_with fail
      refine HO.out.mono ?_
      rintro e w3 ⟨rfl, hu3⟩
      have U3 := hide (U2.out.trans hu3)
      clear hu3
      go_wp2_with fail
      go_ret
      exact ⟨rfl, U3.out⟩
  · have h1' : ¬ (n1 : Int) = n2 := by omega
    obtain ⟨r, hr⟩ : ∃ r, (if cmpI n1 n2 ≠ 0 then cmpI n1 n2 else cmpI r1 r2) = r := ⟨_, rfl⟩
    have hn := order_neg ⟨n1, r1⟩ ⟨n2, r2⟩
    have ho := order_any ⟨n1, r1⟩ ⟨n2, r2⟩ w2
    simp only at hn ho
    rw [hr, hL] at hn
    rw [hr] at ho
    have HO := hide ho
    clear hr ho hL
    go_wp2_with fail
    refine HO.out.mono ?_
    rintro e w3 ⟨rfl, hu3⟩
    have U3 := hide (U2.out.trans hu3)
    clear hu3
    go_wp2_with fail
    go_ret
    exact ⟨rfl, U3.out⟩
theorem less_any (a b : Bal) (w : World) : Calls Tryz.prog 67 #[balV a, balV b] w fun e w' => e = .returned (.bool (decide (bLess a b))) ∧ Upd [] w w' := less_nr a.n b.n a.r b.r w
end Go.Proofs.YtekbhfpdakhhkaaGreatDoor.St
namespace Go.Proofs.YtekbhfpdakhhkaaGreatDoor.St
set_option linter.unusedSimpArgs false
set_option linter.unusedVariables false
set_option linter.unnecessarySimpa false
open Go.RowKit Go.Lib Go.Proofs.YtekbhfpdakhhkaaGreatDoor.DiskW

theorem owns_block {w : World} {base b n : Nat} {cs : Array Value} {e : TypeId} {xs : List Value} {z : Nat} (h : w.heap[b]? = some (.cells cs e (0, 0))) (hb : base ≤ b) (hc : cs.toList = xs) (hn : xs.length = n * z) (hm : n ≤ maxLen) :
    w.ownsRow base e z (.slice (some ⟨b, 0, none⟩) n n) n xs := by
  refine ⟨hn, .inr ⟨b, n, cs, rfl, hb, h, Nat.le_refl _, hm, ?_, ?_⟩⟩
  · rw [← hn, ← hc]; simp
  · rw [hc, List.take_of_length_le (by omega)]
theorem eq_nil (t e : TypeId) (h : Tryz.prog.underlying t = some (.slice e)) (xo : Option Addr) (l c : Nat) (w : World) : (binOp .eql t (.slice xo l c) (.slice none 0 0)).run Tryz.prog w = .ok (.bool xo.isNone) w := by
  have := run_equal_slice_nil (P := Tryz.prog) w t e xo l c h
  unfold binOp
  simp only [Sem.run_bind, this, Result.andThen_ok, Sem.run_pure]
theorem partsB {p : Option TypeInfo} {z : Value} {a b : Nat} (h : p.map (fun i => (i.zero, i.size, i.bytes)) = some (some z, a, b)) : ∃ i, p = some i ∧ i.zero = some z ∧ i.size = a ∧ i.bytes = b := by
  cases p with
  | none => cases h
  | some i =>
    simp only [Option.map_some, Option.some.injEq, Prod.mk.injEq] at h
    exact ⟨i, rfl, h.1, h.2.1, h.2.2⟩
theorem srcB_upd {w w' : World} {xo : Option Addr} {m c : Nat} {xs : List Value} (h : SrcAt w xo m c xs 1) (hu : Upd [] w w') : SrcAt w' xo m c xs 1 :=
  ⟨h.len, h.one, h.nil, fun a e j u hj => by
    have h1 := h.cells a e j u hj
    have h2 := World.block_lt_of_cell? w _ h1
    rw [← h1]
    simp only [World.cell?, hu.block _ h2 (by simp)]⟩
set_option maxRecDepth 100000 in
set_option maxHeartbeats 1000000 in
theorem clone_any {xo : Option Addr} {n c : Nat} {bs : List UInt8} (w : World) (hs : SrcAt w xo n c (bs.map u8v) 1) (hn : n ≤ 1000000000) :
    Calls Tryz.prog 44 #[.slice xo n c] w fun e w' => (∃ ao cap, e = .returned (.slice ao n cap) ∧ w'.ownsRow w.heap.size 5 1 (.slice ao n cap) n (bs.map u8v)) ∧ Upd [] w w' := by
  have hq := eq_nil 39 _ Tryz.underlying39
  cases xo with
  | none =>
    obtain ⟨h0, rfl⟩ := hs.nil rfl
    have hb : bs = [] := List.eq_nil_of_length_eq_zero (by have := hs.len; simpa [h0] using this)
    subst hb
    subst h0
    clear hs
    go_enter Tryz.func44, Tryz.ntmps44
    go_wp2_with fail
    go_ret
    exact ⟨⟨_, _, rfl, World.ownsRow_nil _ _ _ _⟩, Upd.refl _ _⟩
  | some a =>
    have HS := hide hs
    obtain ⟨i1, hi1, hz0, hz1, hz2⟩ := partsB infoB
    clear hs
    go_enter Tryz.func44, Tryz.ntmps44
    go_wp2_with (at_builtin; go_must (refine wpList_append_src _ rfl _ _ 39 rfl w.heap.size 5 i1 (.int .u8 0) 1 1 Tryz.underlying39 hi1 hz0 hz1 hz2 rfl (by decide) (.slice (some ⟨w.heap.size, 0, none⟩) 0 0) 0 [] rfl (owns_block (blk_new _ _) (Nat.le_refl _) rfl rfl (by decide)) (some a) n c (bs.map u8v) rfl (srcB_upd HS.out ((Upd.refl [] w).alloc _)) (by unfold maxLen; omega) (by omega) (by simp) ?_))
    intro ao1 cap1 w1 hown1 hU1 hn1
    have hu := ((Upd.refl [] w).alloc (.cells #[] 5)).trans_new hU1 (fun k hk => .inr (by simp [Value.ownBlock] at hk; omega))
    have HU := hide hu; have HS1 := hide hown1
    clear hu hown1 hU1 hn1
    go_wp2_with fail
    go_ret
    exact ⟨⟨_, _, rfl, by simpa using HS1.out⟩, HU.out⟩
/-- A new row of bytes lies in a safe block. -/
theorem lies_new {w w' : World} {D base n cap : Nat} {X : List Nat} {bv : Value} {d : DS} {ao : Option Addr} {bs : List UInt8} (hd : DiskAt w D base bv d) (hu : Upd [] w w') (h : w'.ownsRow w.heap.size 5 1 (.slice ao n cap) n (bs.map u8v)) (hX : ∀ k ∈ X, k < w.heap.size) : Lies w' D X ao n cap bs := by
  obtain ⟨ao', cap', e, h1, h2, h3⟩ := owns_slice h
  cases e
  refine ⟨src_own h (by simp [u8v, Value.oneCell']), h1, h2, fun a e h0 => ?_⟩
  rcases h.2 with ⟨e1, e2⟩ | ⟨g, c, cur, e1, h4, h5, _⟩
  · omega
  · cases e1
    cases e
    refine ⟨SafeB.fresh hd hu (by simp) h4 (blk_lt h5), fun hm => ?_⟩
    have := hX _ hm
    simp only at this
    omega
end Go.Proofs.YtekbhfpdakhhkaaGreatDoor.St
