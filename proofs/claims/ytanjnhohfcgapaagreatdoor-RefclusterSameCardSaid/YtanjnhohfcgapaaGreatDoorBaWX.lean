/- BaW, BaX in one text. -/
import Derived.Test.YtanjnhohfcgapaaGreatDoorPureAll
import Derived.Test.YtanjnhohfcgapaaGreatDoorGenAll
import Derived.Test.YtanjnhohfcgapaaGreatDoorKvW
import Derived.IntWalk
import Derived.Laws.StructEq
set_option linter.unusedSimpArgs false
set_option linter.unusedVariables false
set_option linter.unnecessarySimpa false
namespace Go.Proofs.YtanjnhohfcgapaaGreatDoor.Sg
set_option linter.unusedSimpArgs false
set_option linter.unusedVariables false
set_option linter.unnecessarySimpa false
open Go.RowKit Go.Lib Go.Proofs.YtanjnhohfcgapaaGreatDoor.Kv

theorem part_of {t : TypeId} {xs : Array Value} {o : Nat} {v : Value} {w : World} (h : (isAgg t).run Tryz.prog w = .ok false w) (hv : xs[o]? = some v) : (part t xs o).run Tryz.prog w = .ok v w := by
  simp [part, Sem.run_bind, h, hv]
theorem agg_int (t : TypeId) {k : IntKind} (h : Tryz.prog.underlying t = some (.int k)) (w : World) : (isAgg t).run Tryz.prog w = .ok false w := by
  unfold isAgg
  rw [Sem.run_bind, run_underlying h w]
  rfl
theorem flds_ba : (Tryz.prog.fieldsOf 65).toList.map (fun f => (f.name == "_", f.type, f.offset)) = [(false, 63, 0), (false, 3, 1)] := by kernel_rfl
theorem eqF_nil (d : Nat) (xs ys : Array Value) (w : World) : (Op.eqFields d xs ys []).run Tryz.prog w = .ok true w := rfl
theorem eqF_cons {d : Nat} {xs ys : Array Value} {f : Field} {fs : List Field} {w : World} {a b : Value} {r : Bool} (hn : (f.name == "_") = false) (ha : (part f.type xs f.offset).run Tryz.prog w = .ok a w) (hb : (part f.type ys f.offset).run Tryz.prog w = .ok b w) (he : (Op.equalIn d f.type a b).run Tryz.prog w = .ok r w) :
    (Op.eqFields d xs ys (f :: fs)).run Tryz.prog w = if r then (Op.eqFields d xs ys fs).run Tryz.prog w else .ok false w := by
  have hn' : f.name ≠ "_" := by simpa using hn
  conv => lhs; unfold Op.eqFields
  rw [if_pos hn']
  simp only [Sem.run_bind, ha, hb, he, Result.andThen_ok]
  cases r <;> rfl
theorem map2 {X Y : Type} {f : X → Y} {l : List X} {a b : Y} (h : l.map f = [a, b]) : ∃ x y, l = [x, y] ∧ f x = a ∧ f y = b := by
  obtain ⟨x, l1, rfl, h1, h2⟩ := List.map_eq_cons_iff.1 h
  obtain ⟨y, l2, rfl, h3, h4⟩ := List.map_eq_cons_iff.1 h2
  obtain rfl := List.map_eq_nil_iff.1 h4
  exact ⟨x, y, rfl, h1, h3⟩
abbrev balV (b : Bal) : Value := .agg #[.int .u64 (b.n : Int), .int .i64 b.r]
theorem eq_bal (a b : Bal) (w : World) : (Op.equalIn 10000 65 (balV a) (balV b)).run Tryz.prog w = .ok (decide (a = b)) w := by
  unfold balV
  rw [run_equalIn_struct w 9999 65 _ _ (by kernel_rfl) (by kernel_rfl)]
  have hf := flds_ba
  generalize (Tryz.prog.fieldsOf 65).toList = fs at hf ⊢
  obtain ⟨f, g, rfl, hf1, hg1⟩ := map2 hf
  simp only [Prod.mk.injEq] at hf1 hg1
  obtain ⟨f1, f2, f3⟩ := hf1
  obtain ⟨g1, g2, g3⟩ := hg1
  rw [eqF_cons f1 (by rw [f2, f3]; exact part_of (agg_int _ Tryz.underlying63 w) rfl) (by rw [f2, f3]; exact part_of (agg_int _ Tryz.underlying63 w) rfl) (by rw [f2]; exact run_equalIn_int w 9998 63 .u64 .u64 (a.n : Int) (b.n : Int) Tryz.underlying63)]
  rw [eqF_cons g1 (by rw [g2, g3]; exact part_of (agg_int _ Tryz.underlying3 w) rfl) (by rw [g2, g3]; exact part_of (agg_int _ Tryz.underlying3 w) rfl) (by rw [g2]; exact run_equalIn_int w 9998 3 .i64 .i64 a.r b.r Tryz.underlying3), eqF_nil]
  obtain ⟨n1, r1⟩ := a
  obtain ⟨n2, r2⟩ := b
  simp only [Bal.mk.injEq]
  by_cases h1 : n1 = n2 <;> by_cases h2 : r1 = r2 <;> simp [h1, h2] <;> omega
theorem neq_bal (a b : Bal) (w : World) : (binOp .neq 65 (balV a) (balV b)).run Tryz.prog w = .ok (.bool (!decide (a = b))) w := by
  rw [run_neq_struct, eq_bal]
  rfl
theorem eql_bal (a b : Bal) (w : World) : (binOp .eql 65 (balV a) (balV b)).run Tryz.prog w = .ok (.bool (decide (a = b))) w := by
  rw [run_eql_struct, eq_bal]
  rfl
def cmpI (a b : Int) : Int := if a < b then -1 else if b < a then 1 else 0
set_option maxHeartbeats 1000000 in
theorem cmpU_any (a b : Nat) (w : World) : Calls Tryz.prog 151 #[.int .u64 (a : Int), .int .u64 (b : Int)] w fun e w' => e = .returned (.int .i64 (cmpI a b)) ∧ Upd [] w w' := by
  have q2 : ((a : Int) != (a : Int)) = false := by simp
  have q3 : ((b : Int) != (b : Int)) = false := by simp
  unfold cmpI
  by_cases h1 : a < b
  · have q1 : decide ((a : Int) < (b : Int)) = true := by simp; omega
    have q1' : decide (a < b) = true := by simpa using h1
    rw [if_pos (by omega)]
    go_enter Tryz.func151, Tryz.ntmps151
    go_wp2
    go_ret
    exact ⟨rfl, Upd.refl _ _⟩
  · have q1 : decide ((a : Int) < (b : Int)) = false := by simp; omega
    have q1' : decide (a < b) = false := by simpa using h1
    rw [if_neg (by omega)]
    by_cases h2 : b < a
    · have q4 : decide ((b : Int) < (a : Int)) = true := by simp; omega
      have q4' : decide (b < a) = true := by simpa using h2
      have q5 : decide ((a : Int) > (b : Int)) = true := by simp; omega
      rw [if_pos (by omega)]
      go_enter Tryz.func151, Tryz.ntmps151
      go_wp2
      go_ret
      exact ⟨rfl, Upd.refl _ _⟩
    · have q4 : decide ((b : Int) < (a : Int)) = false := by simp; omega
      have q4' : decide (b < a) = false := by simpa using h2
      have q5 : decide ((a : Int) > (b : Int)) = false := by simp; omega
      rw [if_neg (by omega)]
      go_enter Tryz.func151, Tryz.ntmps151
      go_wp2
      go_ret
      exact ⟨rfl, Upd.refl _ _⟩
set_option maxHeartbeats 1000000 in
theorem cmpS_any (a b : Int) (w : World) : Calls Tryz.prog 152 #[.int .i64 a, .int .i64 b] w fun e w' => e = .returned (.int .i64 (cmpI a b)) ∧ Upd [] w w' := by
  have q2 : (a != a) = false := by simp
  have q3 : (b != b) = false := by simp
  unfold cmpI
  by_cases h1 : a < b
  · have q1 : decide (a < b) = true := by simpa using h1
    rw [if_pos h1]
    go_enter Tryz.func152, Tryz.ntmps152
    go_wp2
    go_ret
    exact ⟨rfl, Upd.refl _ _⟩
  · have q1 : decide (a < b) = false := by simpa using h1
    rw [if_neg h1]
    by_cases h2 : b < a
    · have q4 : decide (b < a) = true := by simpa using h2
      have q5 : decide (a > b) = true := by simpa using h2
      rw [if_pos h2]
      go_enter Tryz.func152, Tryz.ntmps152
      go_wp2
      go_ret
      exact ⟨rfl, Upd.refl _ _⟩
    · have q4 : decide (b < a) = false := by simpa using h2
      have q5 : decide (a > b) = false := by simpa using h2
      rw [if_neg h2]
      go_enter Tryz.func152, Tryz.ntmps152
      go_wp2
      go_ret
      exact ⟨rfl, Upd.refl _ _⟩
set_option maxHeartbeats 2000000 in
/-- cmp.Or of two numbers. -/
theorem or_any {b : Nat} {x y : Int} (w : World) (h : w.heap[b]? = some (.cells #[.int .i64 x, .int .i64 y] 3 (0, 0))) :
    Calls Tryz.prog 150 #[.slice (some ⟨b, 0, none⟩) 2 2] w fun e w' => e = .returned (.int .i64 (if x ≠ 0 then x else y)) ∧ Upd [] w w' := by
  have c0 : w.cell? ⟨b, 0, none⟩ = some (.int .i64 x) := blk_cell h rfl
  have c1 : w.cell? ⟨b, 1, none⟩ = some (.int .i64 y) := blk_cell h rfl
  clear h
  go_enter Tryz.func150, Tryz.ntmps150
  go_wp2_with fail
  go_loop [8] (fun si => ∃ i : Nat, i ≤ 2 ∧ si = .int .i64 i ∧ (1 ≤ i → x = 0) ∧ (2 ≤ i → y = 0)) (fun si => 2 - (RowKit.intOf si).toNat)
  case atStart => exact ⟨0, by omega, rfl, by omega, by omega⟩
  case round =>
    obtain ⟨i, hi, rfl, h1, h2⟩ := hrel
    have hi3 : i = 0 ∨ i = 1 ∨ i = 2 := by omega
    rcases hi3 with rfl | rfl | rfl
    · by_cases hx : x = 0
      · subst hx
        have q : ((0 : Int) != 0) = false := rfl
        go_wp2_with fail
        go_round
        case rel => exact ⟨1, by omega, rfl, by simp, by omega⟩
        case measure => simp [RowKit.intOf]
      · have q : (x != 0) = true := by simpa using hx
        go_wp2_with fail
        go_ret
        first | exact ⟨rfl, Upd.refl _ _⟩ | exact ⟨by rw [if_pos hx], Upd.refl _ _⟩
    · have hx := h1 (by omega)
      subst hx
      by_cases hy : y = 0
      · subst hy
        have q : ((0 : Int) != 0) = false := rfl
        go_wp2_with fail
        go_round
        case rel => exact ⟨2, by omega, rfl, by simp, by simp⟩
        case measure => simp [RowKit.intOf]
      · have q : (y != 0) = true := by simpa using hy
        go_wp2_with fail
        go_ret
        first | exact ⟨rfl, Upd.refl _ _⟩ | exact ⟨by simp, Upd.refl _ _⟩
    · have hx := h1 (by omega)
      have hy := h2 (by omega)
      subst hx; subst hy
      go_wp2_with fail
      go_ret
      exact ⟨rfl, Upd.refl _ _⟩
noncomputable def orOps1 : Array Oper := findOps 1 ((Tryz.f127.body).getD .skip)
set_option maxRecDepth 100000 in
set_option maxHeartbeats 2000000 in
theorem order_any (a b : Bal) (w : World) : Calls Tryz.prog 127 #[balV a, balV b] w fun e w' => e = .returned (.int .i64 (if cmpI a.n b.n ≠ 0 then cmpI a.n b.n else cmpI a.r b.r)) ∧ Upd [] w w' := by
  obtain ⟨r, hr⟩ : ∃ r, (if cmpI a.n b.n ≠ 0 then cmpI a.n b.n else cmpI a.r b.r) = r := ⟨_, rfl⟩
  rw [hr]
  have HR := hide hr
  clear hr
  go_enter Tryz.func127, Tryz.ntmps127
  have hA := blk_alloc (blk_new w (.cells #[.int .u64 (a.n : Int), .int .i64 a.r] 65)) (.cells #[.int .u64 (b.n : Int), .int .i64 b.r] 65)
  have hB := blk_new (w.alloc (.cells #[.int .u64 (a.n : Int), .int .i64 a.r] 65)) (.cells #[.int .u64 (b.n : Int), .int .i64 b.r] 65)
  have hu := ((Upd.refl [] w).alloc (.cells #[.int .u64 (a.n : Int), .int .i64 a.r] 65)).alloc (.cells #[.int .u64 (b.n : Int), .int .i64 b.r] 65)
  simp only [World.size_alloc] at hB
  go_upto_region 1 with fail
  generalize (w.alloc (.cells #[.int .u64 (a.n : Int), .int .i64 a.r] 65)).alloc (.cells #[.int .u64 (b.n : Int), .int .i64 b.r] 65) = w2 at *
  obtain ⟨B, hBn⟩ : ∃ B, w.heap.size = B := ⟨_, rfl⟩
  rw [hBn] at hA hB ⊢
  have XA := hide hA; have XB := hide hB; have U2 := hide hu
  clear hA hB hu hBn
  have s0 : Upd [] w2 (w2.drewN 1) := (Upd.refl [] w2).drewN 1
  refine wp_region_z (fun wx => Upd [] w2 wx) 99 (by kernel_rfl) ?_
  refine zE 0 rfl (by kernel_rfl) (fun _ _ _ _ h => h) rfl (by exact s0) ?_
  apply Exists.intro
  refine ⟨fun wx hS => ?_, ?_⟩
  · go_simp; rfl
  simp only [Act.put, List.setIfInBounds_toArray, List.set_cons_succ, List.set_cons_zero, List.getElem_toArray, List.getElem_cons_zero]
  refine zE 1 rfl (by kernel_rfl) (fun _ _ _ _ h => h) rfl (by exact s0) ?_
  apply Exists.intro
  refine ⟨fun wx hS => ?_, ?_⟩
  · have c0 : wx.cell? ⟨B, 0, none⟩ = some (.int .u64 (a.n : Int)) := blk_cell (hS.get XA.out (by simp)) rfl; go_simp; rfl
  simp only [Act.put, zz1, zz2, zz3, zz4, zz5, zz6]
  refine zE 2 rfl (by kernel_rfl) (fun _ _ _ _ h => h) rfl (by exact s0) ?_
  apply Exists.intro
  refine ⟨fun wx hS => ?_, ?_⟩
  · go_simp; rfl
  simp only [Act.put, zz1, zz2, zz3, zz4, zz5, zz6]
  refine zE 3 rfl (by kernel_rfl) (fun _ _ _ _ h => h) rfl (by exact s0) ?_
  apply Exists.intro
  refine ⟨fun wx hS => ?_, ?_⟩
  · have c0 : wx.cell? ⟨B + 1, 0, none⟩ = some (.int .u64 (b.n : Int)) := blk_cell (hS.get XB.out (by simp)) rfl; go_simp; rfl
  simp only [Act.put, zz1, zz2, zz3, zz4, zz5, zz6]
  refine zE 5 rfl (by kernel_rfl) (fun _ _ _ _ h => h) rfl (by exact s0) ?_
  apply Exists.intro
  refine ⟨fun wx hS => ?_, ?_⟩
  · go_simp; rfl
  simp only [Act.put, zz1, zz2, zz3, zz4, zz5, zz6]
  refine zE 6 rfl (by kernel_rfl) (fun _ _ _ _ h => h) rfl (by exact s0) ?_
  apply Exists.intro
  refine ⟨fun wx hS => ?_, ?_⟩
  · have c0 : wx.cell? ⟨B, 1, none⟩ = some (.int .i64 a.r) := blk_cell (hS.get XA.out (by simp)) rfl; go_simp; rfl
  simp only [Act.put, zz1, zz2, zz3, zz4, zz5, zz6]
  refine zE 7 rfl (by kernel_rfl) (fun _ _ _ _ h => h) rfl (by exact s0) ?_
  apply Exists.intro
  refine ⟨fun wx hS => ?_, ?_⟩
  · go_simp; rfl
  simp only [Act.put, zz1, zz2, zz3, zz4, zz5, zz6]
  refine zE 8 rfl (by kernel_rfl) (fun _ _ _ _ h => h) rfl (by exact s0) ?_
  apply Exists.intro
  refine ⟨fun wx hS => ?_, ?_⟩
  · have c0 : wx.cell? ⟨B + 1, 1, none⟩ = some (.int .i64 b.r) := blk_cell (hS.get XB.out (by simp)) rfl; go_simp; rfl
  simp only [Act.put, zz1, zz2, zz3, zz4, zz5, zz6]
  refine wpAnyZ_one 4 (by kernel_rfl) rfl rfl (fun K hK => ?_)
  try simp only [List.getElem_toArray, List.getElem_cons_succ, List.getElem_cons_zero]
  go_simp
  refine (cmpU_any a.n b.n _).mono ?_
  rintro e w3 ⟨rfl, hu3⟩
  have s3 := s0.trans hu3
  clear hu3 s0
  refine hK _ _ (.inr s3) ?_
  clear hK K
  try simp only [Act.put, zz1, zz2, zz3]
  refine wpAnyZ_one 9 (by kernel_rfl) rfl rfl (fun K hK => ?_)
  try simp only [List.getElem_toArray, List.getElem_cons_succ, List.getElem_cons_zero]
  go_simp
  refine (cmpS_any a.r b.r _).mono ?_
  rintro e w4 ⟨rfl, hu4⟩
  have s4 := s3.trans hu4
  clear hu4 s3
  refine hK _ _ (.inr s4) ?_
  clear hK K
  try simp only [Act.put, zz1, zz2, zz3]
  refine wpAnyZ_one 10 (by kernel_rfl) rfl rfl (fun K hK => ?_)
  try simp only [List.getElem_toArray, List.getElem_cons_succ, List.getElem_cons_zero]
  go_simp
  have hN := blk_new w4 (.cells #[.int .i64 (cmpI a.n b.n), .int .i64 (cmpI a.r b.r)] 3)
  have hal := (Upd.refl [] w4).alloc (.cells #[.int .i64 (cmpI a.n b.n), .int .i64 (cmpI a.r b.r)] 3)
  generalize w4.alloc (.cells #[.int .i64 (cmpI a.n b.n), .int .i64 (cmpI a.r b.r)] 3) = w5 at *
  have s5 := s4.trans hal
  have XN := hide hN
  clear hal s4 hN
  refine hK _ _ (.inr s5) ?_
  clear hK K
  try simp only [Act.put, zz1, zz2, zz3]
  refine wpAnyZ_one 11 (by kernel_rfl) rfl rfl (fun K hK => ?_)
  try simp only [List.getElem_toArray, List.getElem_cons_succ, List.getElem_cons_zero]
  go_simp
  have ho := or_any w5 XN.out
  rw [HR.out] at ho
  refine ho.mono ?_
  rintro e w6 ⟨rfl, hu6⟩
  have s6 := s5.trans hu6
  clear hu6 s5
  refine hK _ _ (.inr s6) ?_
  clear hK K
  try simp only [Act.put, zz1, zz2, zz3]
  refine zE 12 rfl (by kernel_rfl) (fun _ _ _ _ h => h) rfl (by exact s6) ?_
  apply Exists.intro
  refine ⟨fun wx hS => ?_, ?_⟩
  · go_simp; rfl
  simp only [Act.put, zz1, zz2, zz3, zz4, zz5, zz6]
  refine wpAnyZ_done (by kernel_rfl) ?_ _
  have UF := hide (U2.out.trans s6)
  clear s6
  go_wp2_with fail
  go_ret
  exact ⟨rfl, UF.out⟩
theorem order_neg (a b : Bal) : decide ((if cmpI a.n b.n ≠ 0 then cmpI a.n b.n else cmpI a.r b.r) < 0) = decide (bLess a b) := by
  unfold cmpI bLess
  by_cases h1 : a.n < b.n
  · have e1 : (a.n : Int) < b.n := by omega
    simp [h1, e1]
  · by_cases h2 : b.n < a.n
    · have e1 : ¬ (a.n : Int) < b.n := by omega
      have e2 : (b.n : Int) < a.n := by omega
      have e3 : ¬ a.n = b.n := by omega
      simp [h1, e1, e2, e3]
    · have e3 : a.n = b.n := by omega
      by_cases h3 : a.r < b.r
      · simp [e3, h3]
      · by_cases h4 : b.r < a.r
        · simp [e3, h3, h4]
        · simp [e3, h3, h4]

set_option maxRecDepth 100000 in
set_option maxHeartbeats 2000000 in
theorem less_nr (n1 n2 : Nat) (r1 r2 : Int) (w : World) : Calls Tryz.prog 103 #[.agg #[.int .u64 (n1 : Int), .int .i64 r1], .agg #[.int .u64 (n2 : Int), .int .i64 r2]] w fun e w' => e = .returned (.bool (decide (bLess ⟨n1, r1⟩ ⟨n2, r2⟩))) ∧ Upd [] w w' := by
  obtain ⟨L, hL⟩ : ∃ L, decide (bLess ⟨n1, r1⟩ ⟨n2, r2⟩) = L := ⟨_, rfl⟩
  rw [hL]
  go_enter Tryz.func103, Tryz.ntmps103
  have hA := blk_alloc (blk_new w (.cells #[.int .u64 (n1 : Int), .int .i64 r1] 65)) (.cells #[.int .u64 (n2 : Int), .int .i64 r2] 65)
  have hB := blk_new (w.alloc (.cells #[.int .u64 (n1 : Int), .int .i64 r1] 65)) (.cells #[.int .u64 (n2 : Int), .int .i64 r2] 65)
  have hu := ((Upd.refl [] w).alloc (.cells #[.int .u64 (n1 : Int), .int .i64 r1] 65)).alloc (.cells #[.int .u64 (n2 : Int), .int .i64 r2] 65)
  simp only [World.size_alloc] at hB
  go_upto_region 1 with fail
  generalize (w.alloc (.cells #[.int .u64 (n1 : Int), .int .i64 r1] 65)).alloc (.cells #[.int .u64 (n2 : Int), .int .i64 r2] 65) = w2 at *
  obtain ⟨B, hBn⟩ : ∃ B, w.heap.size = B := ⟨_, rfl⟩
  rw [hBn] at hA hB ⊢
  have U2 := hide hu
  have c0 : w2.cell? ⟨B, 0, none⟩ = some (.int .u64 (n1 : Int)) := blk_cell hA rfl
  have c1 : w2.cell? ⟨B, 1, none⟩ = some (.int .i64 r1) := blk_cell hA rfl
  have c2 : w2.cell? ⟨B + 1, 0, none⟩ = some (.int .u64 (n2 : Int)) := blk_cell hB rfl
  have c3 : w2.cell? ⟨B + 1, 1, none⟩ = some (.int .i64 r2) := blk_cell hB rfl
  clear hA hB hu hBn
  by_cases h1 : n1 = n2
  · subst h1
    by_cases h2 : r1 = r2
    · subst h2
      have hl : L = false := by rw [← hL]; exact decide_eq_false (bLess_irrefl _)
      subst hl
      clear hL
      go_wp2_with fail
      go_ret
      exact ⟨rfl, U2.out⟩
    · skip
      obtain ⟨r, hr⟩ : ∃ r, (if cmpI n1 n1 ≠ 0 then cmpI n1 n1 else cmpI r1 r2) = r := ⟨_, rfl⟩
      have hn := order_neg ⟨n1, r1⟩ ⟨n1, r2⟩
      have ho := order_any ⟨n1, r1⟩ ⟨n1, r2⟩ w2
      simp only at hn ho
      rw [hr, hL] at hn
      rw [hr] at ho
      have HO := hide ho
      clear hr ho hL
      go_wp2_with fail
      refine HO.out.mono ?_
      rintro e w3 ⟨rfl, hu3⟩
      have U3 := hide (U2.out.trans hu3)
      clear hu3
      go_wp2_with fail
      go_ret
      exact ⟨rfl, U3.out⟩
  · have h1' : ¬ (n1 : Int) = n2 := by omega
    obtain ⟨r, hr⟩ : ∃ r, (if cmpI n1 n2 ≠ 0 then cmpI n1 n2 else cmpI r1 r2) = r := ⟨_, rfl⟩
    have hn := order_neg ⟨n1, r1⟩ ⟨n2, r2⟩
    have ho := order_any ⟨n1, r1⟩ ⟨n2, r2⟩ w2
    simp only at hn ho
    rw [hr, hL] at hn
    rw [hr] at ho
    have HO := hide ho
    clear hr ho hL
    go_wp2_with fail
    refine HO.out.mono ?_
    rintro e w3 ⟨rfl, hu3⟩
    have U3 := hide (U2.out.trans hu3)
    clear hu3
    go_wp2_with fail
    go_ret
    exact ⟨rfl, U3.out⟩
theorem less_any (a b : Bal) (w : World) : Calls Tryz.prog 103 #[balV a, balV b] w fun e w' => e = .returned (.bool (decide (bLess a b))) ∧ Upd [] w w' := less_nr a.n b.n a.r b.r w
end Go.Proofs.YtanjnhohfcgapaaGreatDoor.Sg
namespace Go.Proofs.YtanjnhohfcgapaaGreatDoor.Sg
set_option linter.unusedSimpArgs false
set_option linter.unusedVariables false
open Go.RowKit Go.Lib Go.Proofs.YtanjnhohfcgapaaGreatDoor.Kv

abbrev TBa : TypeId := 65
theorem ret_ba {fn : Func} {p : Tmp} {B : Nat} {v0 v1 : Value} {W : World} {act : Act} {post : Ending → World → Prop} (hW : W.heap[B]? = some (.cells #[v0, v1] TBa (0, 0)))
    (hfn : fn.results = #[.cell p TBa]) (hp : act.tmps.getD p undef = .pointer (some ⟨B, 0, none⟩)) (hd : act.defers = []) (h : post (.returned (.agg #[v0, v1])) W) : bodyPost Tryz.prog fn post Exit.ret act W := by
  have z0 : W.cell? ⟨B, 0, none⟩ = some v0 := blk_cell hW rfl
  have z1 : W.cell? ⟨B, 1, none⟩ = some v1 := blk_cell hW rfl
  refine bodyPost_ret (v := .agg #[v0, v1]) ?_ hd h
  rw [results_cell1 hfn, hp]
  go_simp
theorem ret_ba2 {fn : Func} {p u : Tmp} {B : Nat} {v0 v1 x : Value} {W : World} {act : Act} {post : Ending → World → Prop} (hW : W.heap[B]? = some (.cells #[v0, v1] TBa (0, 0)))
    (hfn : fn.results = #[.cell p TBa, .tmp u]) (hp : act.tmps.getD p undef = .pointer (some ⟨B, 0, none⟩)) (hv : act.tmps.getD u undef = x) (hd : act.defers = []) (h : post (.returned (.tuple #[.agg #[v0, v1], x])) W) : bodyPost Tryz.prog fn post Exit.ret act W := by
  have z0 : W.cell? ⟨B, 0, none⟩ = some v0 := blk_cell hW rfl
  have z1 : W.cell? ⟨B, 1, none⟩ = some v1 := blk_cell hW rfl
  refine bodyPost_ret (v := .tuple #[.agg #[v0, v1], x]) ?_ hd h
  rw [results_cell_tmp hfn, hp, hv]
  go_simp
theorem set2 {w : World} {B : Nat} {u0 u1 v0 v1 : Value} {t : TypeId} (h : w.heap[B]? = some (.cells #[u0, u1] t (0, 0))) : ((w.setCell ⟨B, 0, none⟩ v0).setCell ⟨B, 1, none⟩ v1).heap[B]? = some (.cells #[v0, v1] t (0, 0)) := by
  have h1 := blk_set (i := 0) h v0
  simp only [List.setIfInBounds_toArray, List.set_cons_zero] at h1
  have h2 := blk_set (i := 1) h1 v1
  simpa only [List.setIfInBounds_toArray, List.set_cons_succ, List.set_cons_zero] using h2
def mx (x y : Bal) (i : Nat) : Bal := if i = 0 then Bal.zero else if i = 1 then x else maxB x y
set_option maxRecDepth 100000 in
set_option maxHeartbeats 2000000 in
theorem max_any {b : Nat} {x y : Bal} (w : World) (h : w.heap[b]? = some (.cells #[.int .u64 (x.n : Int), .int .i64 x.r, .int .u64 (y.n : Int), .int .i64 y.r] TBa (0, 0))) :
    Calls Tryz.prog 100 #[.slice (some ⟨b, 0, none⟩) 2 2] w fun e w' => e = .returned (balV (maxB x y)) ∧ Upd [] w w' := by
  have H := hide h
  have hbl := blk_lt h
  clear h
  go_enter Tryz.func100, Tryz.ntmps100
  go_wp2_with fail
  have hR := blk_alloc (blk_new w (.cells #[.int .u64 0, .int .i64 0] TBa)) (.cells #[.int .u64 0, .int .i64 0] TBa)
  have hO := blk_new (w.alloc (.cells #[.int .u64 0, .int .i64 0] TBa)) (.cells #[.int .u64 0, .int .i64 0] TBa)
  have hu := ((Upd.refl [] w).alloc (.cells #[.int .u64 0, .int .i64 0] TBa)).alloc (.cells #[.int .u64 0, .int .i64 0] TBa)
  simp only [World.size_alloc] at hO
  generalize (w.alloc (.cells #[.int .u64 0, .int .i64 0] TBa)).alloc (.cells #[.int .u64 0, .int .i64 0] TBa) = w2 at *
  obtain ⟨B, hBn⟩ : ∃ B, w.heap.size = B := ⟨_, rfl⟩
  have HBn := hide hBn
  rw [hBn] at hR hO hbl ⊢
  have R2 := hide hR; have O2 := hide hO; have U2 := hide hu
  clear hR hO hu hBn
  go_loopw [8] (fun si wx => ∃ i : Nat, i ≤ 2 ∧ si = .int .i64 i ∧ wx.heap[B]? = some (.cells #[.int .u64 0, .int .i64 0] TBa (0, 0)) ∧ wx.heap[B + 1]? = some (.cells #[.int .u64 ((mx x y i).n : Int), .int .i64 (mx x y i).r] TBa (0, 0)) ∧ Upd [] w wx) (fun si wx => 2 - (RowKit.intOf si).toNat)
  case atStart => exact ⟨0, by omega, rfl, R2.out, O2.out, U2.out⟩
  case round =>
    obtain ⟨i, hi, rfl, hR, hO, hu⟩ := hrel
    have RR := hide hR; have OO := hide hO; have UU := hide hu
    have hzz := hu.size
    have HB := hu.get H.out (by simp)
    clear hR hO hu R2 O2 U2
    have hi3 : i = 0 ∨ i = 1 ∨ i = 2 := by omega
    rcases hi3 with rfl | rfl | rfl
    · have c0 : wr.cell? ⟨b, 0, none⟩ = some (.int .u64 (x.n : Int)) := blk_cell HB rfl
      have c1 : wr.cell? ⟨b, 1, none⟩ = some (.int .i64 x.r) := blk_cell HB rfl
      clear HB
      have hY := blk_new wr (.cells #[.int .u64 (x.n : Int), .int .i64 x.r] TBa)
      have hal := (Upd.refl [] wr).alloc (.cells #[.int .u64 (x.n : Int), .int .i64 x.r] TBa)
      go_upto_region 5 with fail
      generalize wr.alloc (.cells #[.int .u64 (x.n : Int), .int .i64 x.r] TBa) = w3 at *
      have hO3 := hal.get OO.out (by simp)
      have hR3 := hal.get RR.out (by simp)
      have e0 : w3.cell? ⟨wr.heap.size, 0, none⟩ = some (.int .u64 (x.n : Int)) := blk_cell hY rfl
      have e1 : w3.cell? ⟨wr.heap.size, 1, none⟩ = some (.int .i64 x.r) := blk_cell hY rfl
      have o0 : w3.cell? ⟨B + 1, 0, none⟩ = some (.int .u64 0) := blk_cell hO3 rfl
      have o1 : w3.cell? ⟨B + 1, 1, none⟩ = some (.int .i64 0) := blk_cell hO3 rfl
      have of : ∀ i, w3.frozen? ⟨B + 1, i, none⟩ = false := fun i => blk_free hO3
      obtain ⟨E, hE⟩ : ∃ E, wr.heap.size = E := ⟨_, rfl⟩
      rw [hE] at e0 e1 hY ⊢
      have HY := hide hY; have HAL := hide hal; have O3 := hide hO3; have R3 := hide hR3
      clear hY hal hO3 hR3
      go_wp2_with fail
      go_roundw
      case rel =>
        have us : Upd [B + 1] w3 _ := ((Upd.refl [B + 1] w3).setCell (p := ⟨B + 1, 0, none⟩) (.inl (by simp)) (.int .u64 (x.n : Int))).setCell (p := ⟨B + 1, 1, none⟩) (.inl (by simp)) (.int .i64 x.r)
        exact ⟨1, by omega, rfl, us.get R3.out (by simp), set2 O3.out, (UU.out.trans HAL.out).trans_new us (fun k hk => by simp at hk; have := HBn.out; exact .inr (by omega))⟩
      case measure => simp [RowKit.intOf]
    · have c0 : wr.cell? ⟨b, 2, none⟩ = some (.int .u64 (y.n : Int)) := blk_cell HB rfl
      have c1 : wr.cell? ⟨b, 3, none⟩ = some (.int .i64 y.r) := blk_cell HB rfl
      clear HB
      have hY := blk_new wr (.cells #[.int .u64 (y.n : Int), .int .i64 y.r] TBa)
      have hal := (Upd.refl [] wr).alloc (.cells #[.int .u64 (y.n : Int), .int .i64 y.r] TBa)
      go_upto_region 5 with fail
      generalize wr.alloc (.cells #[.int .u64 (y.n : Int), .int .i64 y.r] TBa) = w3 at *
      have hO3 := hal.get OO.out (by simp)
      have hR3 := hal.get RR.out (by simp)
      have e0 : w3.cell? ⟨wr.heap.size, 0, none⟩ = some (.int .u64 (y.n : Int)) := blk_cell hY rfl
      have e1 : w3.cell? ⟨wr.heap.size, 1, none⟩ = some (.int .i64 y.r) := blk_cell hY rfl
      have o0 : w3.cell? ⟨B + 1, 0, none⟩ = some (.int .u64 (x.n : Int)) := blk_cell hO3 rfl
      have o1 : w3.cell? ⟨B + 1, 1, none⟩ = some (.int .i64 x.r) := blk_cell hO3 rfl
      have HY := hide hY; have HAL := hide hal; have O3 := hide hO3; have R3 := hide hR3
      have hEl := blk_lt O3.out
      obtain ⟨E, hE⟩ : ∃ E, wr.heap.size = E := ⟨_, rfl⟩
      rw [hE] at e0 e1 HY ⊢
      clear hY hal hO3 hR3
      go_wp2_with fail
      obtain ⟨L, hL⟩ : ∃ L, decide (bLess x y) = L := ⟨_, rfl⟩
      have hl := less_nr x.n y.n x.r y.r w3
      rw [show decide (bLess ⟨x.n, x.r⟩ ⟨y.n, y.r⟩) = L from hL] at hl
      refine hl.mono ?_
      rintro e w4 ⟨rfl, hu4⟩
      have hY4 := hu4.get HY.out (by simp)
      have hO4 := hu4.get O3.out (by simp)
      have e0' : w4.cell? ⟨E, 0, none⟩ = some (.int .u64 (y.n : Int)) := blk_cell hY4 rfl
      have e1' : w4.cell? ⟨E, 1, none⟩ = some (.int .i64 y.r) := blk_cell hY4 rfl
      have o0' : w4.cell? ⟨B + 1, 0, none⟩ = some (.int .u64 (x.n : Int)) := blk_cell hO4 rfl
      have o1' : w4.cell? ⟨B + 1, 1, none⟩ = some (.int .i64 x.r) := blk_cell hO4 rfl
      have of : ∀ i, w4.frozen? ⟨B + 1, i, none⟩ = false := fun i => blk_free hO4
      have O4 := hide hO4; have R4 := hide (hu4.get R3.out (by simp)); have U4 := hide ((UU.out.trans HAL.out).trans hu4); have HL := hide hL
      clear hl hu4 hY4 hO4 hL e0 e1 o0 o1
      cases L with
      | true =>
        go_wp2_with fail
        go_roundw
        case rel =>
          have us : Upd [B + 1] w4 _ := ((Upd.refl [B + 1] w4).setCell (p := ⟨B + 1, 0, none⟩) (.inl (by simp)) (.int .u64 (y.n : Int))).setCell (p := ⟨B + 1, 1, none⟩) (.inl (by simp)) (.int .i64 y.r)
          have hm : mx x y 2 = y := by
            have := HL.out
            simp only [decide_eq_true_eq] at this
            simp [mx, maxB, this]
          exact ⟨2, by omega, rfl, us.get R4.out (by simp), by rw [hm]; exact set2 O4.out, U4.out.trans_new us (fun k hk => by simp at hk; have := HBn.out; exact .inr (by omega))⟩
        case measure => simp [RowKit.intOf]
      | false =>
        go_wp2_with fail
        go_roundw
        case rel =>
          have hm : mx x y 2 = x := by
            have := HL.out
            simp only [decide_eq_false_iff_not] at this
            simp [mx, maxB, this]
          exact ⟨2, by omega, rfl, R4.out, by rw [hm]; exact O4.out, U4.out⟩
        case measure => simp [RowKit.intOf]
    · have o0 : wr.cell? ⟨B + 1, 0, none⟩ = some (.int .u64 ((maxB x y).n : Int)) := blk_cell OO.out rfl
      have o1 : wr.cell? ⟨B + 1, 1, none⟩ = some (.int .i64 (maxB x y).r) := blk_cell OO.out rfl
      have of : ∀ i, wr.frozen? ⟨B, i, none⟩ = false := fun i => blk_free RR.out
      have r0 : wr.cell? ⟨B, 0, none⟩ = some (.int .u64 0) := blk_cell RR.out rfl
      have r1 : wr.cell? ⟨B, 1, none⟩ = some (.int .i64 0) := blk_cell RR.out rfl
      clear HB
      go_wp2_with fail
      have us : Upd [B] wr _ := ((Upd.refl [B] wr).setCell (p := ⟨B, 0, none⟩) (.inl (by simp)) (.int .u64 ((maxB x y).n : Int))).setCell (p := ⟨B, 1, none⟩) (.inl (by simp)) (.int .i64 (maxB x y).r)
      exact ret_ba (set2 RR.out) rfl rfl rfl ⟨rfl, UU.out.trans_new us (fun k hk => by simp at hk; have := HBn.out; exact .inr (by omega))⟩
def nextE (o : Option Bal) : Value := match o with
  | none => .tuple #[balV Bal.zero, .int .i64 30]
  | some b => .tuple #[balV b, .int .i64 0]
set_option maxRecDepth 100000 in
set_option maxHeartbeats 2000000 in
theorem next_ok (b : Bal) (r : Int) (w : World) (hb : b.n < 18446744073709551616) (h0 : 0 ≤ r) (h7 : r < 7) : Calls Tryz.prog 99 #[balV b, .int .i64 r] w fun e w' => e = .returned (nextE (nextB b r)) ∧ Upd [] w w' := by
  have d1 : decide (r < 0) = false := by simp; omega
  have d2 : decide ((7 : Int) ≤ r) = false := by simp; omega
  obtain ⟨N, hN⟩ : ∃ N, nextE (nextB b r) = N := ⟨_, rfl⟩
  rw [hN]
  have HN := hide hN; have HBB := hide hb; have H0 := hide h0; have H7 := hide h7
  clear hN hb h0 h7
  go_enter Tryz.func99, Tryz.ntmps99
  go_upto_region 4 with fail
  have hA := blk_alloc (blk_alloc (blk_new w (.cells #[.int .u64 (b.n : Int), .int .i64 b.r] TBa)) (.cells #[.int .u64 0, .int .i64 0] TBa)) (.cells #[.int .u64 (b.n : Int), .int .i64 r] TBa)
  have hR := blk_alloc (blk_new (w.alloc (.cells #[.int .u64 (b.n : Int), .int .i64 b.r] TBa)) (.cells #[.int .u64 0, .int .i64 0] TBa)) (.cells #[.int .u64 (b.n : Int), .int .i64 r] TBa)
  have hC := blk_new ((w.alloc (.cells #[.int .u64 (b.n : Int), .int .i64 b.r] TBa)).alloc (.cells #[.int .u64 0, .int .i64 0] TBa)) (.cells #[.int .u64 (b.n : Int), .int .i64 r] TBa)
  have hu := (((Upd.refl [] w).alloc (.cells #[.int .u64 (b.n : Int), .int .i64 b.r] TBa)).alloc (.cells #[.int .u64 0, .int .i64 0] TBa)).alloc (.cells #[.int .u64 (b.n : Int), .int .i64 r] TBa)
  simp only [World.size_alloc] at hR hC
  generalize ((w.alloc (.cells #[.int .u64 (b.n : Int), .int .i64 b.r] TBa)).alloc (.cells #[.int .u64 0, .int .i64 0] TBa)).alloc (.cells #[.int .u64 (b.n : Int), .int .i64 r] TBa) = w2 at *
  obtain ⟨B, hBn⟩ : ∃ B, w.heap.size = B := ⟨_, rfl⟩
  have HBn := hide hBn
  rw [hBn] at hA hR hC ⊢
  have A2 := hide hA; have R2 := hide hR; have C2 := hide hC; have U2 := hide hu
  clear hA hR hC hu hBn
  have fin : ∀ (act : Act) (W : World) (v0 v1 x : Value), Upd [] w W → W.heap[B + 1]? = some (.cells #[.int .u64 0, .int .i64 0] TBa (0, 0)) → act.tmps.getD 4 undef = .pointer (some ⟨B + 1, 0, none⟩) → act.tmps.getD 5 undef = x → act.defers = [] →
      N = .tuple #[.agg #[v0, v1], x] → bodyPost Tryz.prog Tryz.f99 (fun e w' => e = .returned N ∧ Upd [] w w') Exit.ret act ((W.setCell ⟨B + 1, 0, none⟩ v0).setCell ⟨B + 1, 1, none⟩ v1) := fun act W v0 v1 x hu hr h4 h5 hd hN => by
    have us : Upd [B + 1] W ((W.setCell ⟨B + 1, 0, none⟩ v0).setCell ⟨B + 1, 1, none⟩ v1) := ((Upd.refl [B + 1] W).setCell (p := ⟨B + 1, 0, none⟩) (.inl (by simp)) v0).setCell (p := ⟨B + 1, 1, none⟩) (.inl (by simp)) v1
    exact ret_ba2 (set2 hr) rfl h4 h5 hd ⟨by rw [hN], hu.trans_new us (fun k hk => by simp at hk; have := HBn.out; exact .inr (by omega))⟩
  have FIN := hide fin
  clear fin
  by_cases hz : 0 < b.n
  · have d3 : decide ((0 : Int) < (b.n : Int)) = true := by simp; omega
    have c0 : w2.cell? ⟨B, 0, none⟩ = some (.int .u64 (b.n : Int)) := blk_cell A2.out rfl
    have c1 : w2.cell? ⟨B, 1, none⟩ = some (.int .i64 b.r) := blk_cell A2.out rfl
    have c2 : w2.cell? ⟨B + 1 + 1, 0, none⟩ = some (.int .u64 (b.n : Int)) := blk_cell C2.out rfl
    have c3 : w2.cell? ⟨B + 1 + 1, 1, none⟩ = some (.int .i64 r) := blk_cell C2.out rfl
    go_wp2_with fail
    obtain ⟨L, hL⟩ : ∃ L, decide (bLess ⟨b.n, b.r⟩ ⟨b.n, r⟩) = L := ⟨_, rfl⟩
    have hl := less_nr b.n b.n b.r r w2
    rw [hL] at hl
    refine hl.mono ?_
    rintro e w4 ⟨rfl, hu4⟩
    have hA4 := hu4.get A2.out (by simp); have hC4 := hu4.get C2.out (by simp); have hR4 := hu4.get R2.out (by simp)
    have U4 := hide (U2.out.trans hu4); have R4 := hide hR4
    have e0 : w4.cell? ⟨B, 0, none⟩ = some (.int .u64 (b.n : Int)) := blk_cell hA4 rfl
    have e2 : w4.cell? ⟨B + 1 + 1, 0, none⟩ = some (.int .u64 (b.n : Int)) := blk_cell hC4 rfl
    have e3 : w4.cell? ⟨B + 1 + 1, 1, none⟩ = some (.int .i64 r) := blk_cell hC4 rfl
    have r0 : w4.cell? ⟨B + 1, 0, none⟩ = some (.int .u64 0) := blk_cell hR4 rfl
    have r1 : w4.cell? ⟨B + 1, 1, none⟩ = some (.int .i64 0) := blk_cell hR4 rfl
    have rf : ∀ i, w4.frozen? ⟨B + 1, i, none⟩ = false := fun i => blk_free hR4
    have HL := hide hL
    clear hl hu4 hA4 hC4 hR4 hL c0 c1 c2 c3
    cases L with
    | true =>
      go_wp2_with fail
      refine FIN.out _ _ _ _ _ U4.out R4.out rfl rfl rfl ?_
      rw [← HN.out]
      have hl : bLess ⟨b.n, b.r⟩ ⟨b.n, r⟩ := by simpa using HL.out
      have hl2 : b.r < r := by unfold bLess at hl; simp at hl; exact hl
      unfold nextB
      rw [if_pos ⟨hz, hl2⟩]
      rfl
    | false =>
      have hl : ¬ bLess ⟨b.n, b.r⟩ ⟨b.n, r⟩ := by simpa using HL.out
      have hl2 : ¬ b.r < r := by unfold bLess at hl; simp at hl; omega
      have HL2 := hide hl2
      clear hl hl2
      by_cases ht : b.n + 1 = 18446744073709551616
      · have q : IntKind.u64.wrap ((b.n : Int) + 1) = 0 := by rw [show (b.n : Int) + 1 = 18446744073709551616 by omega]; rfl
        go_wp2_with fail
        refine FIN.out _ _ _ _ _ U4.out R4.out rfl rfl rfl ?_
        rw [← HN.out]
        unfold nextB
        rw [if_neg (fun h => by have := HL2.out; have := h.2; omega), if_pos ht]
        rfl
      · have q : IntKind.u64.wrap ((b.n : Int) + 1) = (b.n : Int) + 1 := IntWalk.u64_in _ (by have := HBB.out; omega)
        have q2 : ((b.n : Int) + 1 == 0) = false := by simp; omega
        go_wp2_with fail
        refine FIN.out _ _ _ _ _ U4.out R4.out rfl rfl rfl ?_
        rw [← HN.out]
        unfold nextB
        rw [if_neg (fun h => by have := HL2.out; have := h.2; omega), if_neg ht]
        rfl
  · have hz0 : b.n = 0 := by omega
    have c0 : w2.cell? ⟨B, 0, none⟩ = some (.int .u64 0) := by rw [show (0 : Int) = (b.n : Int) by omega]; exact blk_cell A2.out rfl
    have r0 : w2.cell? ⟨B + 1, 0, none⟩ = some (.int .u64 0) := blk_cell R2.out rfl
    have r1 : w2.cell? ⟨B + 1, 1, none⟩ = some (.int .i64 0) := blk_cell R2.out rfl
    have rf : ∀ i, w2.frozen? ⟨B + 1, i, none⟩ = false := fun i => blk_free R2.out
    have HZ := hide hz0
    clear hz0 hz
    go_wp2_with fail
    refine FIN.out _ _ _ _ _ U2.out R2.out rfl rfl rfl ?_
    rw [← HN.out]
    unfold nextB
    rw [if_neg (fun h => by have := HZ.out; omega), if_neg (by have := HZ.out; omega), HZ.out]
    rfl
end Go.Proofs.YtanjnhohfcgapaaGreatDoor.Sg
