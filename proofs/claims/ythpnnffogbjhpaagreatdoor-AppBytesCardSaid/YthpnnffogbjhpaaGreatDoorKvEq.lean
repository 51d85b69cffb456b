/- Two replies, two clients' last numbers, held together. -/
import Derived.Test.YthpnnffogbjhpaaGreatDoorKvS
import Derived.Laws.StructEq
set_option linter.unusedSimpArgs false
set_option linter.unusedVariables false
set_option linter.unnecessarySimpa false
namespace Go.Proofs.YthpnnffogbjhpaaGreatDoor.Kv
open Go.RowKit Go.Lib Go.Proofs.YthpnnffogbjhpaaGreatDoor.Crc Go.Proofs.YthpnnffogbjhpaaGreatDoor.Cm

theorem part_of {t : TypeId} {xs : Array Value} {o : Nat} {v : Value} {w : World} (h : (isAgg t).run Tryz.prog w = .ok false w) (hv : xs[o]? = some v) : (part t xs o).run Tryz.prog w = .ok v w := by
  simp [part, Sem.run_bind, h, hv]
theorem agg_int (t : TypeId) {k : IntKind} (h : Tryz.prog.underlying t = some (.int k)) (w : World) : (isAgg t).run Tryz.prog w = .ok false w := by
  unfold isAgg
  rw [Sem.run_bind, run_underlying h w]
  rfl
theorem agg_str (t : TypeId) (h : Tryz.prog.underlying t = some .string) (w : World) : (isAgg t).run Tryz.prog w = .ok false w := by
  unfold isAgg
  rw [Sem.run_bind, run_underlying h w]
  rfl
theorem flds_re : (Tryz.prog.fieldsOf 39).toList.map (fun f => (f.name == "_", f.type, f.offset)) = [(false, 5, 0), (false, 9, 1)] := by kernel_rfl
theorem eqF_nil (d : Nat) (xs ys : Array Value) (w : World) : (Op.eqFields d xs ys []).run Tryz.prog w = .ok true w := rfl
theorem eqF_cons {d : Nat} {xs ys : Array Value} {f : Field} {fs : List Field} {w : World} {a b : Value} {r : Bool} (hn : (f.name == "_") = false) (ha : (part f.type xs f.offset).run Tryz.prog w = .ok a w) (hb : (part f.type ys f.offset).run Tryz.prog w = .ok b w) (he : (Op.equalIn d f.type a b).run Tryz.prog w = .ok r w) :
    (Op.eqFields d xs ys (f :: fs)).run Tryz.prog w = if r then (Op.eqFields d xs ys fs).run Tryz.prog w else .ok false w := by
  have hn' : f.name ≠ "_" := by simpa using hn
  conv => lhs; unfold Op.eqFields
  rw [if_pos hn']
  simp only [Sem.run_bind, ha, hb, he, Result.andThen_ok]
  cases r <;> rfl
theorem map2 {X Y : Type} {f : X → Y} {l : List X} {a b : Y} (h : l.map f = [a, b]) : ∃ x y, l = [x, y] ∧ f x = a ∧ f y = b := by
  obtain ⟨x, l1, rfl, h1, h2⟩ := List.map_eq_cons_iff.1 h
  obtain ⟨y, l2, rfl, h3, h4⟩ := List.map_eq_cons_iff.1 h2
  obtain rfl := List.map_eq_nil_iff.1 h4
  exact ⟨x, y, rfl, h1, h3⟩
theorem map3 {X Y : Type} {f : X → Y} {l : List X} {a b c : Y} (h : l.map f = [a, b, c]) : ∃ x y z, l = [x, y, z] ∧ f x = a ∧ f y = b ∧ f z = c := by
  obtain ⟨x, l1, rfl, h1, h2⟩ := List.map_eq_cons_iff.1 h
  obtain ⟨y, z, rfl, h3, h4⟩ := map2 h2
  exact ⟨x, y, z, rfl, h1, h3, h4⟩
theorem eq_re (d : Nat) (a b : Int) (s t : List UInt8) (w : World) : (Op.equalIn (d + 2) 39 (.agg #[.int .u8 a, .string (strOf s)]) (.agg #[.int .u8 b, .string (strOf t)])).run Tryz.prog w = .ok (a == b && decide (s = t)) w := by
  rw [run_equalIn_struct w (d + 1) 39 _ _ (by kernel_rfl) (by kernel_rfl)]
  have hf := flds_re
  generalize (Tryz.prog.fieldsOf 39).toList = fs at hf ⊢
  obtain ⟨f, g, rfl, hf1, hg1⟩ := map2 hf
  simp only [Prod.mk.injEq] at hf1 hg1
  obtain ⟨f1, f2, f3⟩ := hf1
  obtain ⟨g1, g2, g3⟩ := hg1
  rw [eqF_cons f1 (by rw [f2, f3]; exact part_of (agg_int _ Tryz.underlying5 w) rfl) (by rw [f2, f3]; exact part_of (agg_int _ Tryz.underlying5 w) rfl) (by rw [f2]; exact run_equalIn_int w d 5 .u8 .u8 a b Tryz.underlying5)]
  rw [eqF_cons g1 (by rw [g2, g3]; exact part_of (agg_str _ Tryz.underlying9 w) rfl) (by rw [g2, g3]; exact part_of (agg_str _ Tryz.underlying9 w) rfl) (by rw [g2]; exact run_equalIn_string w d 9 (strOf s) (strOf t) Tryz.underlying9), eqF_nil, strOf_eq]
  cases (a == b) <;> by_cases h : s = t <;> simp [h]
theorem part_re {xs : Array Value} {x y : Value} {w : World} (h : xs.extract 1 3 = #[x, y]) : (part 39 xs 1).run Tryz.prog w = .ok (.agg #[x, y]) w := by
  have h1 : (isAgg 39).run Tryz.prog w = .ok true w := by kernel_rfl
  simp [part, Sem.run_bind, h1, h]
theorem flds_la : (Tryz.prog.fieldsOf 104).toList.map (fun f => (f.name == "_", f.type, f.offset)) = [(false, 42, 0), (false, 39, 1)] := by kernel_rfl
theorem eq_la (a b : La) (w : World) : (Op.equalIn 10000 104 (lastV a) (lastV b)).run Tryz.prog w = .ok (decide (a = b)) w := by
  unfold lastV
  rw [run_equalIn_struct w 9999 104 _ _ (by kernel_rfl) (by kernel_rfl)]
  have hf := flds_la
  generalize (Tryz.prog.fieldsOf 104).toList = fs at hf ⊢
  obtain ⟨f, k, rfl, hf1, hk1⟩ := map2 hf
  simp only [Prod.mk.injEq] at hf1 hk1
  obtain ⟨f1, f2, f3⟩ := hf1
  obtain ⟨k1, k2, k3⟩ := hk1
  have e1 := run_equalIn_int (P := Tryz.prog) w 9998 42 .u32 .u32 (a.seq : Int) (b.seq : Int) Tryz.underlying42
  have e3 := eq_re 9997 (a.r.code : Int) (b.r.code : Int) a.r.text b.r.text w
  rw [eqF_cons f1 (by rw [f2, f3]; exact part_of (agg_int _ Tryz.underlying42 w) rfl) (by rw [f2, f3]; exact part_of (agg_int _ Tryz.underlying42 w) rfl) (by rw [f2]; exact e1)]
  rw [eqF_cons k1 (by rw [k2, k3]; exact part_re rfl) (by rw [k2, k3]; exact part_re rfl) (by rw [k2]; exact e3), eqF_nil]
  obtain ⟨s1, d1, t1⟩ := a
  obtain ⟨s2, d2, t2⟩ := b
  simp only [La.mk.injEq, Rp.mk.injEq]
  by_cases h2 : s1 = s2 <;> by_cases h3 : d1 = d2 <;> by_cases h4 : t1 = t2 <;> simp [h2, h3, h4] <;> omega
theorem neq_last (a b : La) (w : World) : (binOp .neq 104 (.agg #[.int .u32 (a.seq : Int), .int .u8 (a.r.code : Int), .string (strOf a.r.text)]) (.agg #[.int .u32 (b.seq : Int), .int .u8 (b.r.code : Int), .string (strOf b.r.text)])).run Tryz.prog w = .ok (.bool (!decide (a = b))) w := by
  rw [run_neq_struct]
  have := eq_la a b w
  unfold lastV at this
  rw [this]
  rfl
theorem eq_rp (a b : Rp) (w : World) : (Op.equalIn 10000 39 (.agg #[.int .u8 (a.code : Int), .string (strOf a.text)]) (.agg #[.int .u8 (b.code : Int), .string (strOf b.text)])).run Tryz.prog w = .ok (decide (a = b)) w := by
  have h := eq_re 9998 (a.code : Int) (b.code : Int) a.text b.text w
  rw [h]
  obtain ⟨c1, t1⟩ := a
  obtain ⟨c2, t2⟩ := b
  simp only [Rp.mk.injEq]
  by_cases h3 : c1 = c2 <;> by_cases h4 : t1 = t2 <;> simp [h3, h4] <;> omega
theorem neq_rp (a b : Rp) (w : World) : (binOp .neq 39 (.agg #[.int .u8 (a.code : Int), .string (strOf a.text)]) (.agg #[.int .u8 (b.code : Int), .string (strOf b.text)])).run Tryz.prog w = .ok (.bool (!decide (a = b))) w := by
  rw [run_neq_struct, eq_rp]
  rfl
end Go.Proofs.YthpnnffogbjhpaaGreatDoor.Kv
