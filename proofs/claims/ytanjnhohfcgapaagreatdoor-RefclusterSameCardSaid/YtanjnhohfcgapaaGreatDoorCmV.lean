/- A command's cells written; keys of one's own; a command as result. -/
import Derived.Test.YtanjnhohfcgapaaGreatDoorCmM
import Derived.Test.YtanjnhohfcgapaaGreatDoorGenAll
import Derived.Laws.ResultCell
set_option linter.unusedSimpArgs false
set_option linter.unusedVariables false
set_option linter.unnecessarySimpa false
namespace Go.Proofs.YtanjnhohfcgapaaGreatDoor.Cm
open Go.RowKit Go.Proofs.YtanjnhohfcgapaaGreatDoor.Crc

theorem infoS : (Tryz.prog.info? 9).map (fun i => (i.zero, i.size, i.bytes)) = some (some (.string ByteArray.empty), 1, 16) := by kernel_rfl
theorem info_parts {p : Option TypeInfo} {z : Value} {a b : Nat} (h : p.map (fun i => (i.zero, i.size, i.bytes)) = some (some z, a, b)) : ∃ i, p = some i ∧ i.zero = some z ∧ i.size = a ∧ i.bytes = b := by
  cases p with
  | none => cases h
  | some i =>
    simp only [Option.map_some, Option.some.injEq, Prod.mk.injEq] at h
    exact ⟨i, rfl, h.1, h.2.1, h.2.2⟩
abbrev ZA : Array Value := #[.int .u32 0, .int .u32 0, .int .u8 0, .slice none 0 0, .string ⟨#[]⟩, .string ⟨#[]⟩, .int .i64 0]
theorem strs_own {w : World} {base n : Nat} {e : TypeId} {v : Value} {l : List (List UInt8)} (h : w.ownsRow base e 1 v n (l.map strV)) (hn : n = l.length) : Strs w (fun k => v.ownBlock = some k) v l := by
  obtain ⟨ao, cap, rfl, h1, h2, h3⟩ := owns_slice h
  subst hn
  refine ⟨ao, cap, rfl, src_own h (by simp [strV, Value.oneCell']), h1, h2, fun a ha hm => ?_⟩
  rcases h.2 with ⟨e2, e3⟩ | ⟨g, c, cur, e2, -⟩
  · omega
  · cases e2; cases ha; rfl
theorem store7 {w : World} {b : Nat} {a0 a1 a2 a3 a4 a5 a6 : Value} {t : TypeId} (h0 : w.heap[b]? = some (.cells #[a0, a1, a2, a3, a4, a5, a6] t (0, 0))) (v0 v1 v2 v3 v4 v5 v6 : Value) :
    ∃ W, (((((((w.setCell ⟨b, 0, none⟩ v0).setCell ⟨b, 1, none⟩ v1).setCell ⟨b, 2, none⟩ v2).setCell ⟨b, 3, none⟩ v3).setCell ⟨b, 4, none⟩ v4).setCell ⟨b, 5, none⟩ v5).setCell ⟨b, 6, none⟩ v6) = W ∧
      W.heap[b]? = some (.cells #[v0, v1, v2, v3, v4, v5, v6] t (0, 0)) ∧ ∀ S a, Upd S a w → (b ∈ S ∨ a.heap.size ≤ b) → Upd S a W := by
  have h1 := blk_set (i := 0) h0 v0
  simp only [List.setIfInBounds_toArray, List.set_cons_zero] at h1
  have h2 := blk_set (i := 1) h1 v1
  simp only [List.setIfInBounds_toArray, List.set_cons_succ, List.set_cons_zero] at h2
  have h3 := blk_set (i := 2) h2 v2
  simp only [List.setIfInBounds_toArray, List.set_cons_succ, List.set_cons_zero] at h3
  have h4 := blk_set (i := 3) h3 v3
  simp only [List.setIfInBounds_toArray, List.set_cons_succ, List.set_cons_zero] at h4
  have h5 := blk_set (i := 4) h4 v4
  simp only [List.setIfInBounds_toArray, List.set_cons_succ, List.set_cons_zero] at h5
  have h6 := blk_set (i := 5) h5 v5
  simp only [List.setIfInBounds_toArray, List.set_cons_succ, List.set_cons_zero] at h6
  have h7 := blk_set (i := 6) h6 v6
  simp only [List.setIfInBounds_toArray, List.set_cons_succ, List.set_cons_zero] at h7
  exact ⟨_, rfl, h7, fun S a hu hb => ((((((hu.setCell hb _).setCell hb _).setCell hb _).setCell hb _).setCell hb _).setCell hb _).setCell hb _⟩
theorem store3 {w : World} {b : Nat} {a0 a1 a2 a3 a4 a5 a6 : Value} {t : TypeId} (h0 : w.heap[b]? = some (.cells #[a0, a1, a2, a3, a4, a5, a6] t (0, 0))) (v0 v1 v2 : Value) :
    ∃ W, (((w.setCell ⟨b, 0, none⟩ v0).setCell ⟨b, 1, none⟩ v1).setCell ⟨b, 2, none⟩ v2) = W ∧
      W.heap[b]? = some (.cells #[v0, v1, v2, a3, a4, a5, a6] t (0, 0)) ∧ ∀ S a, Upd S a w → (b ∈ S ∨ a.heap.size ≤ b) → Upd S a W := by
  have h1 := blk_set (i := 0) h0 v0
  simp only [List.setIfInBounds_toArray, List.set_cons_zero] at h1
  have h2 := blk_set (i := 1) h1 v1
  simp only [List.setIfInBounds_toArray, List.set_cons_succ, List.set_cons_zero] at h2
  have h3 := blk_set (i := 2) h2 v2
  simp only [List.setIfInBounds_toArray, List.set_cons_succ, List.set_cons_zero] at h3
  exact ⟨_, rfl, h3, fun S a hu hb => ((hu.setCell hb _).setCell hb _).setCell hb _⟩
theorem store456 {w : World} {b : Nat} {a0 a1 a2 a3 a4 a5 a6 : Value} {t : TypeId} (h0 : w.heap[b]? = some (.cells #[a0, a1, a2, a3, a4, a5, a6] t (0, 0))) (v4 v5 v6 : Value) :
    ∃ W, (((w.setCell ⟨b, 4, none⟩ v4).setCell ⟨b, 5, none⟩ v5).setCell ⟨b, 6, none⟩ v6) = W ∧
      W.heap[b]? = some (.cells #[a0, a1, a2, a3, v4, v5, v6] t (0, 0)) ∧ ∀ S a, Upd S a w → (b ∈ S ∨ a.heap.size ≤ b) → Upd S a W := by
  have h1 := blk_set (i := 4) h0 v4
  simp only [List.setIfInBounds_toArray, List.set_cons_succ, List.set_cons_zero] at h1
  have h2 := blk_set (i := 5) h1 v5
  simp only [List.setIfInBounds_toArray, List.set_cons_succ, List.set_cons_zero] at h2
  have h3 := blk_set (i := 6) h2 v6
  simp only [List.setIfInBounds_toArray, List.set_cons_succ, List.set_cons_zero] at h3
  exact ⟨_, rfl, h3, fun S a hu hb => ((hu.setCell hb _).setCell hb _).setCell hb _⟩
theorem ret_cm {fn : Func} {p u : Tmp} {B : Nat} {v0 v1 v2 v3 v4 v5 v6 x : Value} {W : World} {act : Act} {post : Ending → World → Prop} (hW : W.heap[B]? = some (.cells #[v0, v1, v2, v3, v4, v5, v6] TCmd (0, 0)))
    (hfn : fn.results = #[.cell p TCmd, .tmp u]) (hp : act.tmps.getD p undef = .pointer (some ⟨B, 0, none⟩)) (hv : act.tmps.getD u undef = x) (hd : act.defers = []) (h : post (.returned (.tuple #[.agg #[v0, v1, v2, v3, v4, v5, v6], x])) W) :
    bodyPost Tryz.prog fn post Exit.ret act W := by
  have z0 : W.cell? ⟨B, 0, none⟩ = some v0 := blk_cell hW rfl
  have z1 : W.cell? ⟨B, 1, none⟩ = some v1 := blk_cell hW rfl
  have z2 : W.cell? ⟨B, 2, none⟩ = some v2 := blk_cell hW rfl
  have z3 : W.cell? ⟨B, 3, none⟩ = some v3 := blk_cell hW rfl
  have z4 : W.cell? ⟨B, 4, none⟩ = some v4 := blk_cell hW rfl
  have z5 : W.cell? ⟨B, 5, none⟩ = some v5 := blk_cell hW rfl
  have z6 : W.cell? ⟨B, 6, none⟩ = some v6 := blk_cell hW rfl
  refine bodyPost_ret (v := .tuple #[.agg #[v0, v1, v2, v3, v4, v5, v6], x]) ?_ hd h
  rw [results_cell_tmp hfn, hp, hv]
  go_simp
theorem cmAt_zero (w : World) (T : Nat → Prop) : CmAt w T (.agg ZA) Cm.zero := ⟨zero_fits, .slice none 0 0, rfl, Strs.nil _ _⟩
end Go.Proofs.YtanjnhohfcgapaaGreatDoor.Cm
