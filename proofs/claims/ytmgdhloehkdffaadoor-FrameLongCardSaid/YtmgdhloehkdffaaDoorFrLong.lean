/- quoratelaw03.FrameLong returns true, and turns nothing that was there. -/
import Derived.Test.YtmgdhloehkdffaaDoorFrK
import Derived.Laws.OwnMore
namespace Go.Proofs.YtmgdhloehkdffaaDoor.FrL
open Go.RowKit Go.Proofs.YtmgdhloehkdffaaDoor.Var Go.Proofs.YtmgdhloehkdffaaDoor.Crc Go.Proofs.YtmgdhloehkdffaaDoor.Fr

/-- 'make([]byte, n)', its bytes under a name. -/
theorem run_make_bytes (n : Nat) (hn : n ≤ 100000) (k : Int) (hk : k = n) : ∃ (zs : List UInt8) (C : Array Value), zs.length = n ∧ C.toList = zs.map u8v ∧
    ∀ W, (Instr.makeSlice 22 (.int .i64 k) (.int .i64 k)).run Tryd.prog W = .ok (.slice (some ⟨W.heap.size, 0, none⟩) n n) (W.alloc (.cells C 5)) := by
  obtain ⟨i0, hi, hz0, hz1, hz2⟩ := info_parts infoB
  subst hk
  refine ⟨List.replicate n 0, madeCells #[.int .u8 0] n, by simp, by rw [toList_madeCells_one]; simp [u8v], fun W => ?_⟩
  have := run_make_rowN (P := Tryd.prog) 22 5 i0 (.int .u8 0) Tryd.underlying22 hi hz0 .i64 .i64 n n (Nat.le_refl _) (by rw [hz2]; omega) (by omega) W
  rw [hz1, Nat.mul_one] at this
  exact this

set_option maxRecDepth 100000 in
set_option maxHeartbeats 4000000 in
theorem long_any (w : World) (hst : TabAt w) : Calls Tryd.prog 3 #[] w fun e w' => e = .returned (.bool true) ∧ Upd [] w w' := by
  have HST := hide hst
  obtain ⟨i0, hi, hz0, hz1, hz2⟩ := info_parts infoB
  obtain ⟨zs, C, hzs, hC, hmk⟩ := run_make_bytes 65537 (by decide) 65537 rfl
  have HZ := hide hzs; have HC := hide hC
  clear hst hzs hC
  go_enter Tryd.func3, Tryd.ntmps3
  have r1 := run_cut_h (P := Tryd.prog) 22 5 Tryd.underlying22 sizeB (some ⟨w.heap.size, 0, none⟩) 65537 65537 65536 65536 rfl (by omega)
  go_wp2_with fail
  have S0 := hide (src_block (n := 65537) (c := 65537) (blk_new w (.cells C 5)) HC.out HZ.out)
  have u0 := (Upd.refl [] w).alloc (.cells C 5)
  have hl : (zs.take 65536).length = 65536 := by rw [List.length_take, HZ.out]; omega
  refine (put_any (base := w.heap.size + 1) (bs := []) (ins := zs.take 65536) (n := 65536) _ (HST.out.upd u0 (by simp)) ⟨rfl, .inl ⟨rfl, rfl⟩⟩ (by simp) (by simp) (src_head S0.out (by omega) (by omega)) (by omega) (by omega) (fun a _ h => by cases h)).mono ?_
  rintro e w1 ⟨v1, rfl, hg⟩
  have ho1 := hg.own
  rw [List.nil_append] at ho1
  obtain ⟨q, hq⟩ : ∃ q, (fr (zs.take 65536)).length = q := ⟨_, rfl⟩
  rw [hq] at ho1
  obtain ⟨ao1, cap1, rfl, hc11, hc12, -⟩ := owns_slice ho1
  have O1 := hide ho1; have U1 := hide (u0.trans (show Upd [] _ _ from hg.upd)); have HQ := hide hq
  have hql : q ≤ 65550 := by
    have h1 := uv_len10 (n := (zs.take 65536).length) (by omega)
    rw [fr_len] at hq
    omega
  have HL := hide hl
  clear hg ho1 u0 hq hl
  go_wp2_with fail
  refine (put_long _ (.inr (by omega))).mono ?_
  rintro e w2 ⟨rfl, rfl⟩
  go_wp2_with fail
  have ht : take (fr (zs.take 65536)) = (zs.take 65536, q, 0) := by
    have := take_fr (bs := zs.take 65536) (fun h => by have := HL.out; rw [h] at this; simp at this) (by rw [HL.out]; omega) []
    rw [List.append_nil, HQ.out] at this
    exact this
  refine (take_any (bs := fr (zs.take 65536)) _ (HST.out.upd U1.out (by simp)) (src_own O1.out (by simp [u8v, Value.oneCell'])) hc11 hc12).mono ?_
  rintro e w4 htk
  unfold TakeSays at htk
  rw [ht] at htk
  obtain ⟨hu4, (⟨he, -⟩ | ⟨-, l, n, hn, hln, rfl, hsrc⟩)⟩ := htk
  · exact absurd rfl he
  have hn1 : n = 65536 := by rw [hn]; exact HL.out
  subst hn1
  have U4 := hide (U1.out.trans hu4)
  clear ht hu4 hsrc hn hln
  go_wp2_with fail
  refine (wakes_any _ (HST.out.upd U4.out (by simp))).mono ?_
  rintro e w5 ⟨rfl, hu5⟩
  have U5 := hide (U4.out.trans hu5)
  clear hu5
  go_wp2_with fail
  go_ret
  exact ⟨rfl, U5.out⟩
end Go.Proofs.YtmgdhloehkdffaaDoor.FrL
