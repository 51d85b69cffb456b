/- The document's disk, with power and without a fuse: an append, a sync. -/
import Derived.Test.YtekbhfpdakhhkaaGreatDoorSdB
namespace Go.Proofs.YtekbhfpdakhhkaaGreatDoor.St
set_option linter.unusedSimpArgs false
set_option linter.unusedVariables false
set_option linter.unnecessarySimpa false
open Go.RowKit Go.Lib Go.Proofs.YtekbhfpdakhhkaaGreatDoor.Crc Go.Proofs.YtekbhfpdakhhkaaGreatDoor.Var Go.Proofs.YtekbhfpdakhhkaaGreatDoor.DiskW

abbrev dkV (A B : ByteArray) : Value := .agg #[.string A, .string B, .bool false, .int .i64 (-1)]
abbrev dkO (A B : ByteArray) : Obj := .cells #[.string A, .string B, .bool false, .int .i64 (-1)] 32
abbrev dk0 : Obj := .cells #[.string ⟨#[]⟩, .string ⟨#[]⟩, .bool false, .int .i64 0] 32
def DkSays (w : World) (m : Nat) (e : Ending) (w' : World) : Prop := ∃ A B : ByteArray, e = .returned (.tuple #[dkV A B, .int .i64 0]) ∧ A.size + B.size ≤ m ∧ Upd [] w w'
theorem dk_ends {fn : Func} {w W : World} {R0 m : Nat} {A B : ByteArray} {p u : Tmp} {a : Act} (hfn : fn.results = #[.cell p 32, .tmp u]) (hp : a.tmps.getD p undef = .pointer (some ⟨R0, 0, none⟩)) (hv : a.tmps.getD u undef = .int .i64 0) (hd : a.defers = [])
    (hB : W.heap[R0]? = some (dkO A B)) (hm : A.size + B.size ≤ m) (hu : Upd [] w W) : bodyPost Tryz.prog fn (DkSays w m) .ret a W := by
  have c0 : W.cell? ⟨R0, 0, none⟩ = some (.string A) := blk_cell hB rfl
  have c1 : W.cell? ⟨R0, 1, none⟩ = some (.string B) := blk_cell hB rfl
  have c2 : W.cell? ⟨R0, 2, none⟩ = some (.bool false) := blk_cell hB rfl
  have c3 : W.cell? ⟨R0, 3, none⟩ = some (.int .i64 (-1)) := blk_cell hB rfl
  refine bodyPost_ret (v := .tuple #[dkV A B, .int .i64 0]) ?_ hd ⟨A, B, rfl, hm, hu⟩
  rw [results_cell_tmp hfn, hp, hv]
  go_simp
set_option maxRecDepth 100000 in
set_option maxHeartbeats 4000000 in
theorem rdk0_any {A B b : ByteArray} (w : World) (hl : A.size + B.size + b.size ≤ 1000000000) : Calls Tryz.prog 48 #[dkV A B, .int .u8 0, .int .i64 0, .string b] w (DkSays w (A.size + B.size + b.size)) := by
  go_enter Tryz.func48, Tryz.ntmps48
  go_wp2_with fail
  have hB := blk_new (w.alloc (dkO A (B ++ b))) (dkO A (B ++ b))
  simp only [World.size_alloc] at hB
  exact dk_ends rfl rfl rfl rfl hB (by rw [ByteArray.size_append]; omega) (((Upd.refl [] w).alloc _).alloc _)
set_option maxRecDepth 100000 in
set_option maxHeartbeats 4000000 in
theorem rdk1_any {A B b : ByteArray} (w : World) (hl : A.size + B.size ≤ 1000000000) : Calls Tryz.prog 48 #[dkV A B, .int .u8 1, .int .i64 0, .string b] w (DkSays w (A.size + B.size)) := by
  go_enter Tryz.func48, Tryz.ntmps48
  go_wp2_with fail
  have hB := blk_new (w.alloc (dkO (A ++ B) ⟨#[]⟩)) (dkO (A ++ B) ⟨#[]⟩)
  simp only [World.size_alloc] at hB
  exact dk_ends rfl rfl rfl rfl hB (by rw [ByteArray.size_append]; show _ + 0 ≤ _; omega) (((Upd.refl [] w).alloc _).alloc _)
end Go.Proofs.YtekbhfpdakhhkaaGreatDoor.St
