/- Clones of keys; a command as result; slices cut. -/
import Derived.Test.YtanjnhohfcgapaaGreatDoorCmV
import Derived.Test.YtanjnhohfcgapaaGreatDoorLawAll
import Derived.Laws.Cover3
set_option linter.unusedSimpArgs false
set_option linter.unusedVariables false
set_option linter.unnecessarySimpa false
namespace Go.Proofs.YtanjnhohfcgapaaGreatDoor.Tr
open Go.RowKit Go.Proofs.YtanjnhohfcgapaaGreatDoor.Crc Go.Proofs.YtanjnhohfcgapaaGreatDoor.Cm

theorem infoC : (Tryz.prog.info? TCmd).map (fun i => (i.zero, i.size, i.bytes)) = some (some (.agg ZA), 7, 80) := by kernel_rfl
theorem cmAt_cells {w : World} {T : Nat → Prop} {c : Cm} {ks : Value} (h : CmAt w T (cmv c ks) c) : cmK.holds w T c (cmc c ks) := by
  obtain ⟨h1, ks', e, h2⟩ := h
  cases e
  exact ⟨h1, ks, rfl, h2⟩
theorem cmc_src {w : World} {b : Nat} {c : Cm} {ks : Value} {t : TypeId} (h : w.heap[b]? = some (.cells (cmc c ks).toArray t (0, 0))) (h1 : ks.oneCell' = true) : SrcAt w (some ⟨b, 0, none⟩) 1 1 (cmc c ks) 7 := by
  refine ⟨rfl, ?_, by simp, fun a e j u hj => ?_⟩
  · intro u hu
    simp only [cmc, strV, List.mem_cons, List.not_mem_nil, or_false] at hu
    rcases hu with rfl | rfl | rfl | rfl | rfl | rfl | rfl <;> first | rfl | exact h1
  · cases e
    have hplain : (⟨b, 0, none⟩ : Addr).add j = ⟨b, j, none⟩ := by unfold Addr.add; split <;> simp_all
    rw [hplain]
    simp only [World.cell?, h]
    simpa using hj
theorem owns_block {w : World} {base b n : Nat} {cs : Array Value} {e : TypeId} {xs : List Value} {z : Nat} (h : w.heap[b]? = some (.cells cs e (0, 0))) (hb : base ≤ b) (hc : cs.toList = xs) (hn : xs.length = n * z) (hm : n ≤ maxLen) :
    w.ownsRow base e z (.slice (some ⟨b, 0, none⟩) n n) n xs := by
  refine ⟨hn, .inr ⟨b, n, cs, rfl, hb, h, Nat.le_refl _, hm, ?_, ?_⟩⟩
  · rw [← hn, ← hc]; simp
  · rw [hc, List.take_of_length_le (by omega)]
theorem infoA : (Tryz.prog.info? 117).map (fun i => (i.zero, i.size, i.bytes)) = some (some (.agg #[.int .u32 0, .int .u32 0, .int .u8 0, .string ByteArray.empty]), 4, 32) := by kernel_rfl
theorem since_own {w0 w w' : World} {v v' : Value} (hg : ∀ g, v'.ownBlock = some g → v.ownBlock = some g ∨ w.heap.size ≤ g) (hv : ∀ g, v.ownBlock = some g → w0.heap.size ≤ g) (hs : w0.heap.size ≤ w.heap.size) (hl : ∀ g, v'.ownBlock = some g → g < w'.heap.size) : ∀ k, v'.ownBlock = some k → since w0.heap.size w' k := fun k hk => by
  refine ⟨?_, hl k hk⟩
  rcases hg k hk with h | h
  · exact hv k h
  · omega
theorem eq_nil (t e : TypeId) (h : Tryz.prog.underlying t = some (.slice e)) (xo : Option Addr) (l c : Nat) (w : World) : (binOp .eql t (.slice xo l c) (.slice none 0 0)).run Tryz.prog w = .ok (.bool xo.isNone) w := by
  have := run_equal_slice_nil (P := Tryz.prog) w t e xo l c h
  unfold binOp
  simp only [Sem.run_bind, this, Result.andThen_ok, Sem.run_pure]
set_option maxRecDepth 100000 in
set_option maxHeartbeats 1000000 in
theorem clones_any {T : Nat → Prop} {v : Value} {l : List (List UInt8)} (w : World) (h : Strs w T v l) (hl : l.length * 16 ≤ 140737488355328) :
    Calls Tryz.prog 96 #[v] w fun e w' => (∃ v', e = .returned v' ∧ Strs w' (since w.heap.size w') v' l) ∧ Upd [] w w' := by
  obtain ⟨xo, c, rfl, hs, hc, hcm, hT⟩ := h
  have hq := eq_nil 41 _ Tryz.underlying41
  cases xo with
  | none =>
    obtain ⟨h0, rfl⟩ := hs.nil rfl
    have : l = [] := List.eq_nil_of_length_eq_zero h0
    subst this
    clear hs hT
    go_enter Tryz.func96, Tryz.ntmps96
    go_wp2_with fail
    go_ret
    exact ⟨⟨_, rfl, Strs.nil _ _⟩, Upd.refl _ _⟩
  | some a =>
    have HS := hide hs
    obtain ⟨i1, hi1, hz0, hz1, hz2⟩ := info_parts infoS
    clear hs hT
    go_enter Tryz.func96, Tryz.ntmps96
    go_wp2_with (at_builtin; go_must (refine wpList_append_src _ rfl _ _ 41 rfl w.heap.size 9 i1 (.string ByteArray.empty) 1 16 Tryz.underlying41 hi1 hz0 hz1 hz2 rfl (by decide) (.slice (some ⟨w.heap.size, 0, none⟩) 0 0) 0 [] rfl (owns_block (blk_new _ _) (Nat.le_refl _) rfl rfl (by decide)) (some a) l.length c (l.map strV) rfl (srcS_upd HS.out ((Upd.refl [] w).alloc _) (by simp)) (by unfold maxLen; omega) (by omega) (by simp) ?_))
    intro ao1 cap1 w1 hown1 hU1 hn1
    have hu := ((Upd.refl [] w).alloc (.cells #[] 9)).trans_new hU1 (fun k hk => .inr (by simp [Value.ownBlock] at hk; omega))
    have hs1 := strs_own (l := l) hown1 rfl
    have HU := hide hu; have HS1 := hide (hs1.mono (fun g hg => owns_lt hown1 g hg))
    clear hu hs1 hown1 hU1 hn1
    go_wp2_with fail
    go_ret
    exact ⟨⟨_, rfl, HS1.out⟩, HU.out⟩
theorem results_cell1 {fn : Func} {p : Tmp} {ty : TypeId} (h : fn.results = #[.cell p ty]) (tmps : Array Value) (P : Program) (w : World) :
    (results fn tmps).run P w = ((asAddr (tmps.getD p undef)).run P w).andThen fun a w₁ => (loadVar ty a).run P w₁ := by
  simp only [results, h]
  simp [Sem.run_bind, Result.andThen]
theorem ret_cm1 {fn : Func} {p : Tmp} {B : Nat} {v0 v1 v2 v3 v4 v5 v6 : Value} {W : World} {act : Act} {post : Ending → World → Prop} (hW : W.heap[B]? = some (.cells #[v0, v1, v2, v3, v4, v5, v6] TCmd (0, 0)))
    (hfn : fn.results = #[.cell p TCmd]) (hp : act.tmps.getD p undef = .pointer (some ⟨B, 0, none⟩)) (hd : act.defers = []) (h : post (.returned (.agg #[v0, v1, v2, v3, v4, v5, v6])) W) :
    bodyPost Tryz.prog fn post Exit.ret act W := by
  have z0 : W.cell? ⟨B, 0, none⟩ = some v0 := blk_cell hW rfl
  have z1 : W.cell? ⟨B, 1, none⟩ = some v1 := blk_cell hW rfl
  have z2 : W.cell? ⟨B, 2, none⟩ = some v2 := blk_cell hW rfl
  have z3 : W.cell? ⟨B, 3, none⟩ = some v3 := blk_cell hW rfl
  have z4 : W.cell? ⟨B, 4, none⟩ = some v4 := blk_cell hW rfl
  have z5 : W.cell? ⟨B, 5, none⟩ = some v5 := blk_cell hW rfl
  have z6 : W.cell? ⟨B, 6, none⟩ = some v6 := blk_cell hW rfl
  refine bodyPost_ret (v := .agg #[v0, v1, v2, v3, v4, v5, v6]) ?_ hd h
  rw [results_cell1 hfn, hp]
  go_simp
theorem cutZ_zero (z : Nat) (xo : Option Addr) (c : Nat) : cutZ z xo 0 c = xo := by
  unfold cutZ
  split
  · rfl
  · cases xo with
    | none => rfl
    | some a => simp [Addr.add]
section
variable {P : Program} (t e : TypeId) (z : Nat) (ht : P.underlying t = some (.slice e)) (hz : ∀ w, (sizeOf e).run P w = .ok z w) (xo : Option Addr) (m c : Nat)
include ht hz
theorem run_cutz_l (l : Nat) (i : Int) (hi : i = l) (h : l ≤ m) (w : World) : (Instr.slice t (.slice xo m c) (some (.int .i64 i)) none none).run P w = .ok (.slice (cutZ z xo l c) (m - l) (c - l)) w := by
  subst hi
  have hel : P.elem t = e := by simp [Program.elem, ht]
  rw [run_slice_l (P := P) w t xo m c (by rw [hel]; exact ht) .i64 l (by omega) (by omega), hel, hz]
  simp [Result.andThen, sliced, cutZ]
theorem run_cutz_lh (l h : Nat) (i j : Int) (hi : i = l) (hj : j = h) (h1 : l ≤ h) (h2 : h ≤ c) (w : World) : (Instr.slice t (.slice xo m c) (some (.int .i64 i)) (some (.int .i64 j)) none).run P w = .ok (.slice (cutZ z xo l c) (h - l) (c - l)) w := by
  subst hi; subst hj
  have hel : P.elem t = e := by simp [Program.elem, ht]
  rw [run_slice_lh (P := P) w t xo m c (by rw [hel]; exact ht) .i64 .i64 l h (by omega) (by omega) (by omega), hel, hz]
  simp [Result.andThen, sliced, cutZ]
theorem run_cutz_h (h : Nat) (j : Int) (hj : j = h) (h2 : h ≤ c) (w : World) : (Instr.slice t (.slice xo m c) none (some (.int .i64 j)) none).run P w = .ok (.slice xo h c) w := by
  subst hj
  have hel : P.elem t = e := by simp [Program.elem, ht]
  rw [run_slice_h (P := P) w t xo m c (by rw [hel]; exact ht) .i64 h (by omega) (by omega), hel, hz]
  have := cutZ_zero z xo c
  simp only [cutZ] at this
  simp [Result.andThen, sliced]
  rw [← this]
  split <;> simp_all
end
theorem beside_le {base : Nat} {w w' : World} {v : Value} (h : w.heap.size ≤ w'.heap.size) : ∀ k, beside base w v k → beside base w' v k := fun k hk => ⟨hk.1, Nat.lt_of_lt_of_le hk.2.1 h, hk.2.2⟩
theorem add_plain (b q : Nat) : (⟨b, 0, none⟩ : Addr).add q = ⟨b, q, none⟩ := by unfold Addr.add; split <;> simp_all
theorem upd_setRow (w : World) (G : Nat) (cs : Array Value) : Upd [G] w (w.setRow G cs) := ⟨rfl, rfl, rfl, by simp [World.setRow], fun k hk hS => setRow_other w G k cs (by simpa using hS)⟩
end Go.Proofs.YtanjnhohfcgapaaGreatDoor.Tr
