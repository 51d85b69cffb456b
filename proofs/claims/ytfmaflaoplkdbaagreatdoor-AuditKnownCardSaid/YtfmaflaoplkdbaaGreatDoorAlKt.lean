/- What single operations do, whatever the slots (those of the law AuditKnown's histories). -/
import Derived.Test.YtfmaflaoplkdbaaGreatDoorAlMX
set_option linter.unusedSimpArgs false
set_option linter.unusedVariables false
set_option linter.unnecessarySimpa false
namespace Go.Proofs.YtfmaflaoplkdbaaGreatDoor.Au
open Go.RowKit Go.Proofs.YtfmaflaoplkdbaaGreatDoor.Crc Go.Proofs.YtfmaflaoplkdbaaGreatDoor.Cm Go.Proofs.YtfmaflaoplkdbaaGreatDoor.Tr
set_option linter.unusedSimpArgs false
set_option linter.unusedVariables false

theorem ret_dn {fn : Func} {p : Tmp} {B : Nat} {v0 v1 : Value} {W : World} {act : Act} {post : Ending → World → Prop} (hW : W.heap[B]? = some (.cells #[v0, v1] 34 (0, 0)))
    (hfn : fn.results = #[.cell p 34]) (hp : act.tmps.getD p undef = .pointer (some ⟨B, 0, none⟩)) (hd : act.defers = []) (h : post (.returned (.agg #[v0, v1])) W) :
    bodyPost Tryz.prog fn post Exit.ret act W := by
  have z0 : W.cell? ⟨B, 0, none⟩ = some v0 := blk_cell hW rfl
  have z1 : W.cell? ⟨B, 1, none⟩ = some v1 := blk_cell hW rfl
  refine bodyPost_ret (v := .agg #[v0, v1]) ?_ hd h
  rw [results_cell1 hfn, hp]
  go_simp
set_option maxRecDepth 100000 in
set_option maxHeartbeats 1000000 in
theorem known1_any (s : Int) (xo : Option Addr) (m c : Nat) (w : World) : Calls Tryz.prog 10 #[.int .u64 s, .slice xo m c] w fun e w' => e = .returned (.agg #[.int .u64 s, .slice xo m c]) ∧ Upd [] w w' := by
  go_enter Tryz.func10, Tryz.ntmps10
  go_wp2_with fail
  exact ret_dn (blk_new w _) rfl rfl rfl ⟨rfl, (Upd.refl [] w).alloc _⟩
/-- An answer's block. -/
def AnB (w : World) (b : Nat) (c code : Int) : Prop := w.heap[b]? = some (.cells #[.int .u32 c, .int .u32 1, .int .u8 code, .string ⟨#[]⟩] 39 (0, 0))
theorem AnB.upd_nil' {w w' : World} {b : Nat} {c code : Int} (h : AnB w b c code) (hu : Upd [] w w') : AnB w' b c code := hu.get h (by simp)
section
variable {o : Oper} {a : Act} {w : World} {K : Act → World → Prop} {Q : Exit → Act → World → Prop} {k j l p q : Nat} {s s' e e1 e2 e3 e4 e5 : Int} {x0 x1 x2 x3 x4 x5 x6 x7 x8 x9 : Option Addr} {m0 m1 m2 m3 m4 m5 m6 m7 m8 m9 c0 c1 c2 c3 c4 c5 c6 c7 c8 c9 : Nat} {v : Value}
theorem st_move (ho : o.op = .move (.tmp k)) (h1 : a.tmps[k]?.getD undef = v) (h : K (a.put o.dst v) w) : o.wp Tryz.prog a w K Q := by
  obtain ⟨d, op, ty, pos, af, g⟩ := o
  simp only at ho
  subst ho
  go_simp
  exact h
theorem st_assign (ho : o.op = .assign (.tmp k)) (h1 : a.tmps[k]?.getD undef = v) (h : K (a.put o.dst v) w) : o.wp Tryz.prog a w K Q := by
  obtain ⟨d, op, ty, pos, af, g⟩ := o
  simp only at ho
  subst ho
  go_simp
  exact h
theorem st_call (ho : o.op = .call { callee := .value (.tmp k), args := #[.const (.int .u64 s), .tmp j], argTypes := #[32, 27] }) (h1 : a.tmps[k]?.getD undef = .func (.func 10) #[] #[]) (h2 : a.tmps[j]?.getD undef = .slice x0 m0 c0)
    (h : ∀ w', Upd [] w w' → K (a.put o.dst (.agg #[.int .u64 s, .slice x0 m0 c0])) w') : o.wp Tryz.prog a w K Q := by
  obtain ⟨d, op, ty, pos, af, g⟩ := o
  simp only at ho
  subst ho
  go_simp
  refine (known1_any s x0 m0 c0 w).mono ?_
  rintro e w' ⟨rfl, hu⟩
  exact h w' hu
theorem st_load {b : Nat} (ho : o.op = .load 39 (.tmp k)) (h1 : a.tmps[k]?.getD undef = .pointer (some ⟨b, 0, none⟩)) (hb : AnB w b s e) (h : K (a.put o.dst (.agg #[.int .u32 s, .int .u32 1, .int .u8 e, .string ⟨#[]⟩])) w) : o.wp Tryz.prog a w K Q := by
  have z0 : w.cell? ⟨b, 0, none⟩ = some (.int .u32 s) := blk_cell hb rfl
  have z1 : w.cell? ⟨b, 1, none⟩ = some (.int .u32 1) := blk_cell hb rfl
  have z2 : w.cell? ⟨b, 2, none⟩ = some (.int .u8 e) := blk_cell hb rfl
  have z3 : w.cell? ⟨b, 3, none⟩ = some (.string ⟨#[]⟩) := blk_cell hb rfl
  obtain ⟨d, op, ty, pos, af, g⟩ := o
  simp only at ho
  subst ho
  go_simp
  exact h
theorem st_dn1 (ho : o.op = .buildSlice 47 1 #[(0, .tmp k)]) (h1 : a.tmps[k]?.getD undef = .agg #[.int .u64 s, .slice x0 m0 c0]) (h : K (a.put o.dst (.slice (some ⟨w.heap.size, 0, none⟩) 1 1)) (w.alloc (.cells #[.int .u64 s, .slice x0 m0 c0] 34))) : o.wp Tryz.prog a w K Q := by
  obtain ⟨d, op, ty, pos, af, g⟩ := o
  simp only at ho
  subst ho
  go_simp
  exact h
theorem st_dn2 (ho : o.op = .buildSlice 47 2 #[(0, .tmp k), (1, .tmp j)]) (h1 : a.tmps[k]?.getD undef = .agg #[.int .u64 s, .slice x0 m0 c0]) (h2 : a.tmps[j]?.getD undef = .agg #[.int .u64 s', .slice x1 m1 c1]) (h : K (a.put o.dst (.slice (some ⟨w.heap.size, 0, none⟩) 2 2)) (w.alloc (.cells #[.int .u64 s, .slice x0 m0 c0, .int .u64 s', .slice x1 m1 c1] 34))) : o.wp Tryz.prog a w K Q := by
  obtain ⟨d, op, ty, pos, af, g⟩ := o
  simp only at ho
  subst ho
  go_simp
  exact h
theorem st_an1 (ho : o.op = .buildSlice 46 1 #[(0, .tmp k)]) (h1 : a.tmps[k]?.getD undef = .agg #[.int .u32 s, .int .u32 1, .int .u8 e, .string ⟨#[]⟩]) (h : K (a.put o.dst (.slice (some ⟨w.heap.size, 0, none⟩) 1 1)) (w.alloc (.cells #[.int .u32 s, .int .u32 1, .int .u8 e, .string ⟨#[]⟩] 39))) : o.wp Tryz.prog a w K Q := by
  obtain ⟨d, op, ty, pos, af, g⟩ := o
  simp only at ho
  subst ho
  go_simp
  exact h
theorem st_an2 (ho : o.op = .buildSlice 46 2 #[(0, .tmp k), (1, .tmp j)]) (h1 : a.tmps[k]?.getD undef = .agg #[.int .u32 s, .int .u32 1, .int .u8 e, .string ⟨#[]⟩]) (h2 : a.tmps[j]?.getD undef = .agg #[.int .u32 s', .int .u32 1, .int .u8 e1, .string ⟨#[]⟩]) (h : K (a.put o.dst (.slice (some ⟨w.heap.size, 0, none⟩) 2 2)) (w.alloc (.cells #[.int .u32 s, .int .u32 1, .int .u8 e, .string ⟨#[]⟩, .int .u32 s', .int .u32 1, .int .u8 e1, .string ⟨#[]⟩] 39))) : o.wp Tryz.prog a w K Q := by
  obtain ⟨d, op, ty, pos, af, g⟩ := o
  simp only at ho
  subst ho
  go_simp
  exact h
theorem st_to0 (ho : o.op = .build 49 #[]) (h : K (a.put o.dst (.agg #[.int .i64 0, .int .i64 0, .int .i64 0, .slice none 0 0, .slice none 0 0])) w) : o.wp Tryz.prog a w K Q := by
  obtain ⟨d, op, ty, pos, af, g⟩ := o
  simp only at ho
  subst ho
  go_simp
  exact h
theorem st_toE (ho : o.op = .build 49 #[(1, .const (.int .i64 s))]) (h : K (a.put o.dst (.agg #[.int .i64 0, .int .i64 s, .int .i64 0, .slice none 0 0, .slice none 0 0])) w) : o.wp Tryz.prog a w K Q := by
  obtain ⟨d, op, ty, pos, af, g⟩ := o
  simp only at ho
  subst ho
  go_simp
  exact h
theorem st_to1 (ho : o.op = .build 49 #[(4, .tmp k)]) (h1 : a.tmps[k]?.getD undef = .slice x0 m0 c0) (h : K (a.put o.dst (.agg #[.int .i64 0, .int .i64 0, .int .i64 0, .slice none 0 0, .slice x0 m0 c0])) w) : o.wp Tryz.prog a w K Q := by
  obtain ⟨d, op, ty, pos, af, g⟩ := o
  simp only at ho
  subst ho
  go_simp
  exact h
theorem st_to2 (ho : o.op = .build 49 #[(4, .tmp k), (3, .tmp j)]) (h1 : a.tmps[k]?.getD undef = .slice x0 m0 c0) (h2 : a.tmps[j]?.getD undef = .slice x1 m1 c1) (h : K (a.put o.dst (.agg #[.int .i64 0, .int .i64 0, .int .i64 0, .slice x1 m1 c1, .slice x0 m0 c0])) w) : o.wp Tryz.prog a w K Q := by
  obtain ⟨d, op, ty, pos, af, g⟩ := o
  simp only at ho
  subst ho
  go_simp
  exact h
theorem st_tos2 (ho : o.op = .buildSlice 43 2 #[(0, .tmp k), (1, .tmp j)]) (h1 : a.tmps[k]?.getD undef = .agg #[.int .i64 0, .int .i64 e1, .int .i64 0, .slice x0 m0 c0, .slice x1 m1 c1]) (h2 : a.tmps[j]?.getD undef = .agg #[.int .i64 0, .int .i64 e2, .int .i64 0, .slice x2 m2 c2, .slice x3 m3 c3])
    (h : K (a.put o.dst (.slice (some ⟨w.heap.size, 0, none⟩) 2 2)) (w.alloc (.cells #[.int .i64 0, .int .i64 e1, .int .i64 0, .slice x0 m0 c0, .slice x1 m1 c1, .int .i64 0, .int .i64 e2, .int .i64 0, .slice x2 m2 c2, .slice x3 m3 c3] 49))) : o.wp Tryz.prog a w K Q := by
  obtain ⟨d, op, ty, pos, af, g⟩ := o
  simp only at ho
  subst ho
  go_simp
  exact h
theorem st_tos4 (ho : o.op = .buildSlice 43 4 #[(0, .tmp k), (1, .tmp j), (2, .tmp l), (3, .tmp p)]) (h1 : a.tmps[k]?.getD undef = .agg #[.int .i64 0, .int .i64 e1, .int .i64 0, .slice x0 m0 c0, .slice x1 m1 c1]) (h2 : a.tmps[j]?.getD undef = .agg #[.int .i64 0, .int .i64 e2, .int .i64 0, .slice x2 m2 c2, .slice x3 m3 c3])
    (h3 : a.tmps[l]?.getD undef = .agg #[.int .i64 0, .int .i64 e3, .int .i64 0, .slice x4 m4 c4, .slice x5 m5 c5]) (h4 : a.tmps[p]?.getD undef = .agg #[.int .i64 0, .int .i64 e4, .int .i64 0, .slice x6 m6 c6, .slice x7 m7 c7])
    (h : K (a.put o.dst (.slice (some ⟨w.heap.size, 0, none⟩) 4 4)) (w.alloc (.cells #[.int .i64 0, .int .i64 e1, .int .i64 0, .slice x0 m0 c0, .slice x1 m1 c1, .int .i64 0, .int .i64 e2, .int .i64 0, .slice x2 m2 c2, .slice x3 m3 c3, .int .i64 0, .int .i64 e3, .int .i64 0, .slice x4 m4 c4, .slice x5 m5 c5, .int .i64 0, .int .i64 e4, .int .i64 0, .slice x6 m6 c6, .slice x7 m7 c7] 49))) : o.wp Tryz.prog a w K Q := by
  obtain ⟨d, op, ty, pos, af, g⟩ := o
  simp only at ho
  subst ho
  go_simp
  exact h
theorem st_tos5 (ho : o.op = .buildSlice 43 5 #[(0, .tmp k), (1, .tmp j), (2, .tmp l), (3, .tmp p), (4, .tmp q)]) (h1 : a.tmps[k]?.getD undef = .agg #[.int .i64 0, .int .i64 e1, .int .i64 0, .slice x0 m0 c0, .slice x1 m1 c1]) (h2 : a.tmps[j]?.getD undef = .agg #[.int .i64 0, .int .i64 e2, .int .i64 0, .slice x2 m2 c2, .slice x3 m3 c3])
    (h3 : a.tmps[l]?.getD undef = .agg #[.int .i64 0, .int .i64 e3, .int .i64 0, .slice x4 m4 c4, .slice x5 m5 c5]) (h4 : a.tmps[p]?.getD undef = .agg #[.int .i64 0, .int .i64 e4, .int .i64 0, .slice x6 m6 c6, .slice x7 m7 c7]) (h5 : a.tmps[q]?.getD undef = .agg #[.int .i64 0, .int .i64 e5, .int .i64 0, .slice x8 m8 c8, .slice x9 m9 c9])
    (h : K (a.put o.dst (.slice (some ⟨w.heap.size, 0, none⟩) 5 5)) (w.alloc (.cells #[.int .i64 0, .int .i64 e1, .int .i64 0, .slice x0 m0 c0, .slice x1 m1 c1, .int .i64 0, .int .i64 e2, .int .i64 0, .slice x2 m2 c2, .slice x3 m3 c3, .int .i64 0, .int .i64 e3, .int .i64 0, .slice x4 m4 c4, .slice x5 m5 c5, .int .i64 0, .int .i64 e4, .int .i64 0, .slice x6 m6 c6, .slice x7 m7 c7, .int .i64 0, .int .i64 e5, .int .i64 0, .slice x8 m8 c8, .slice x9 m9 c9] 49))) : o.wp Tryz.prog a w K Q := by
  obtain ⟨d, op, ty, pos, af, g⟩ := o
  simp only at ho
  subst ho
  go_simp
  exact h
theorem st_fi (ho : o.op = .build 51 #[(0, .const (.int .i64 s)), (1, .const (.int .u8 e))]) (h : K (a.put o.dst (.agg #[.int .i64 s, .int .u8 e])) w) : o.wp Tryz.prog a w K Q := by
  obtain ⟨d, op, ty, pos, af, g⟩ := o
  simp only at ho
  subst ho
  go_simp
  exact h
theorem st_fis (ho : o.op = .buildSlice 44 1 #[(0, .tmp k)]) (h1 : a.tmps[k]?.getD undef = .agg #[.int .i64 s, .int .u8 e]) (h : K (a.put o.dst (.slice (some ⟨w.heap.size, 0, none⟩) 1 1)) (w.alloc (.cells #[.int .i64 s, .int .u8 e] 51))) : o.wp Tryz.prog a w K Q := by
  obtain ⟨d, op, ty, pos, af, g⟩ := o
  simp only at ho
  subst ho
  go_simp
  exact h
theorem st_rk0 (ho : o.op = .build 45 #[(0, .const (.slice none 0 0)), (1, .const (.slice none 0 0))]) (h : K (a.put o.dst (.agg #[.slice none 0 0, .slice none 0 0])) w) : o.wp Tryz.prog a w K Q := by
  obtain ⟨d, op, ty, pos, af, g⟩ := o
  simp only at ho
  subst ho
  go_simp
  exact h
theorem st_rk1 (ho : o.op = .build 45 #[(0, .tmp k), (1, .const (.slice none 0 0))]) (h1 : a.tmps[k]?.getD undef = .slice x0 m0 c0) (h : K (a.put o.dst (.agg #[.slice x0 m0 c0, .slice none 0 0])) w) : o.wp Tryz.prog a w K Q := by
  obtain ⟨d, op, ty, pos, af, g⟩ := o
  simp only at ho
  subst ho
  go_simp
  exact h
theorem st_rk2 (ho : o.op = .build 45 #[(0, .tmp k), (1, .tmp j)]) (h1 : a.tmps[k]?.getD undef = .slice x0 m0 c0) (h2 : a.tmps[j]?.getD undef = .slice x1 m1 c1) (h : K (a.put o.dst (.agg #[.slice x0 m0 c0, .slice x1 m1 c1])) w) : o.wp Tryz.prog a w K Q := by
  obtain ⟨d, op, ty, pos, af, g⟩ := o
  simp only at ho
  subst ho
  go_simp
  exact h
end
end Go.Proofs.YtfmaflaoplkdbaaGreatDoor.Au
