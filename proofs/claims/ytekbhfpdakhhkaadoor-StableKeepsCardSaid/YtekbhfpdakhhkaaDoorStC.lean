/- slices.Clone of bytes; what lies new is safe. -/
import Derived.Test.YtekbhfpdakhhkaaDoorStK
import Derived.Lib.RowBridge
namespace Go.Proofs.YtekbhfpdakhhkaaDoor.St
set_option linter.unusedSimpArgs false
set_option linter.unusedVariables false
set_option linter.unnecessarySimpa false
open Go.RowKit Go.Lib Go.Proofs.YtekbhfpdakhhkaaDoor.DiskW

theorem owns_block {w : World} {base b n : Nat} {cs : Array Value} {e : TypeId} {xs : List Value} {z : Nat} (h : w.heap[b]? = some (.cells cs e (0, 0))) (hb : base ≤ b) (hc : cs.toList = xs) (hn : xs.length = n * z) (hm : n ≤ maxLen) :
    w.ownsRow base e z (.slice (some ⟨b, 0, none⟩) n n) n xs := by
  refine ⟨hn, .inr ⟨b, n, cs, rfl, hb, h, Nat.le_refl _, hm, ?_, ?_⟩⟩
  · rw [← hn, ← hc]; simp
  · rw [hc, List.take_of_length_le (by omega)]
theorem eq_nil (t e : TypeId) (h : Tryd.prog.underlying t = some (.slice e)) (xo : Option Addr) (l c : Nat) (w : World) : (binOp .eql t (.slice xo l c) (.slice none 0 0)).run Tryd.prog w = .ok (.bool xo.isNone) w := by
  have := run_equal_slice_nil (P := Tryd.prog) w t e xo l c h
  unfold binOp
  simp only [Sem.run_bind, this, Result.andThen_ok, Sem.run_pure]
theorem partsB {p : Option TypeInfo} {z : Value} {a b : Nat} (h : p.map (fun i => (i.zero, i.size, i.bytes)) = some (some z, a, b)) : ∃ i, p = some i ∧ i.zero = some z ∧ i.size = a ∧ i.bytes = b := by
  cases p with
  | none => cases h
  | some i =>
    simp only [Option.map_some, Option.some.injEq, Prod.mk.injEq] at h
    exact ⟨i, rfl, h.1, h.2.1, h.2.2⟩
theorem srcB_upd {w w' : World} {xo : Option Addr} {m c : Nat} {xs : List Value} (h : SrcAt w xo m c xs 1) (hu : Upd [] w w') : SrcAt w' xo m c xs 1 :=
  ⟨h.len, h.one, h.nil, fun a e j u hj => by
    have h1 := h.cells a e j u hj
    have h2 := World.block_lt_of_cell? w _ h1
    rw [← h1]
    simp only [World.cell?, hu.block _ h2 (by simp)]⟩
set_option maxRecDepth 100000 in
set_option maxHeartbeats 1000000 in
theorem clone_any {xo : Option Addr} {n c : Nat} {bs : List UInt8} (w : World) (hs : SrcAt w xo n c (bs.map u8v) 1) (hn : n ≤ 1000000000) :
    Calls Tryd.prog 37 #[.slice xo n c] w fun e w' => (∃ ao cap, e = .returned (.slice ao n cap) ∧ w'.ownsRow w.heap.size 5 1 (.slice ao n cap) n (bs.map u8v)) ∧ Upd [] w w' := by
  have hq := eq_nil 36 _ Tryd.underlying36
  cases xo with
  | none =>
    obtain ⟨h0, rfl⟩ := hs.nil rfl
    have hb : bs = [] := List.eq_nil_of_length_eq_zero (by have := hs.len; simpa [h0] using this)
    subst hb
    subst h0
    clear hs
    go_enter Tryd.func37, Tryd.ntmps37
    go_wp2_with fail
    go_ret
    exact ⟨⟨_, _, rfl, World.ownsRow_nil _ _ _ _⟩, Upd.refl _ _⟩
  | some a =>
    have HS := hide hs
    obtain ⟨i1, hi1, hz0, hz1, hz2⟩ := partsB infoB
    clear hs
    go_enter Tryd.func37, Tryd.ntmps37
    go_wp2_with (at_builtin; go_must (refine wpList_append_src _ rfl _ _ 36 rfl w.heap.size 5 i1 (.int .u8 0) 1 1 Tryd.underlying36 hi1 hz0 hz1 hz2 rfl (by decide) (.slice (some ⟨w.heap.size, 0, none⟩) 0 0) 0 [] rfl (owns_block (blk_new _ _) (Nat.le_refl _) rfl rfl (by decide)) (some a) n c (bs.map u8v) rfl (srcB_upd HS.out ((Upd.refl [] w).alloc _)) (by unfold maxLen; omega) (by omega) (by simp) ?_))
    intro ao1 cap1 w1 hown1 hU1 hn1
    have hu := ((Upd.refl [] w).alloc (.cells #[] 5)).trans_new hU1 (fun k hk => .inr (by simp [Value.ownBlock] at hk; omega))
    have HU := hide hu; have HS1 := hide hown1
    clear hu hown1 hU1 hn1
    go_wp2_with fail
    go_ret
    exact ⟨⟨_, _, rfl, by simpa using HS1.out⟩, HU.out⟩
/-- A new row of bytes lies in a safe block. -/
theorem lies_new {w w' : World} {D base n cap : Nat} {X : List Nat} {bv : Value} {d : DS} {ao : Option Addr} {bs : List UInt8} (hd : DiskAt w D base bv d) (hu : Upd [] w w') (h : w'.ownsRow w.heap.size 5 1 (.slice ao n cap) n (bs.map u8v)) (hX : ∀ k ∈ X, k < w.heap.size) : Lies w' D X ao n cap bs := by
  obtain ⟨ao', cap', e, h1, h2, h3⟩ := owns_slice h
  cases e
  refine ⟨src_own h (by simp [u8v, Value.oneCell']), h1, h2, fun a e h0 => ?_⟩
  rcases h.2 with ⟨e1, e2⟩ | ⟨g, c, cur, e1, h4, h5, _⟩
  · omega
  · cases e1
    cases e
    refine ⟨SafeB.fresh hd hu (by simp) h4 (blk_lt h5), fun hm => ?_⟩
    have := hX _ hm
    simp only at this
    omega
end Go.Proofs.YtekbhfpdakhhkaaDoor.St
