/- quoratelaw03.wakes returns true, and turns nothing that was there. -/
import Derived.Test.YtmgdhloehkdffaaDoorRefA
import Derived.Lib.SlBytesConst
namespace Go.Proofs.YtmgdhloehkdffaaDoor.FrL
open Go.RowKit Go.Proofs.YtmgdhloehkdffaaDoor.Var Go.Proofs.YtmgdhloehkdffaaDoor.Crc Go.Proofs.YtmgdhloehkdffaaDoor.Fr

theorem fr_a : fr [97] = [1, 48, 67, 208, 193, 97] := by
  have h : Crc.sum [97] = 3251651376 := by decide +kernel
  unfold fr
  rw [h, show ([97] : List UInt8).length = 1 from rfl, uv_last (by decide)]
  decide
theorem take_zero : take [0] = ([], 0, 11) := by
  have h := rd_uv (n := 0) (by decide) []
  rw [uv_last (by decide)] at h
  unfold take
  rw [show ([0] : List UInt8) = [UInt8.ofNat 0] ++ [] from rfl, h]
  simp

set_option maxRecDepth 100000 in
set_option maxHeartbeats 4000000 in
theorem wakes_any (w : World) (hst : TabAt w) : Calls Tryd.prog 11 #[] w fun e w' => e = .returned (.bool true) ∧ Upd [] w w' := by
  have HST := hide hst
  obtain ⟨i0, hi, hz0, hz1, hz2⟩ := info_parts infoB
  have kc := fun (w : World) (C : Array Value) (n c : Nat) => Lib.run_convert_bytes_const (P := Tryd.prog) w 22 5 C n c Tryd.underlying22 Tryd.underlying5
  have hg0 := hst.lt
  clear hst
  go_enter Tryd.func11, Tryd.ntmps11
  go_wp2_with fail
  have u0 := (Upd.refl [] w).alloc (.cells #[.int .u8 97] 5 (1, 2))
  refine (put_any (base := w.heap.size) (bs := []) (ins := [97]) (n := 1) _ (HST.out.upd u0 (by simp)) ⟨rfl, .inl ⟨rfl, rfl⟩⟩ (by simp) (by simp) (src_block (blk_new w _) rfl rfl) (by decide) (by decide) (fun a _ h => by cases h)).mono ?_
  rintro e w1 ⟨v1, rfl, hg⟩
  have ho1 := hg.own
  rw [List.nil_append, fr_a] at ho1
  obtain ⟨ao1, cap1, rfl, -, -, -⟩ := owns_slice ho1
  have O1 := hide ho1; have U1 := hide (u0.trans (show Upd [] _ _ from hg.upd))
  clear hg ho1 u0
  simp only [List.length_cons, List.length_nil, Nat.zero_add, Nat.reduceAdd]
  have S1 := hide (src_own O1.out (by simp [u8v, Value.oneCell']))
  go_wp2_with (at_builtin; go_must (refine wpList_append_src _ rfl _ _ 22 rfl w.heap.size 5 i0 (.int .u8 0) 1 1 Tryd.underlying22 hi hz0 hz1 hz2 rfl (by decide) (.slice none 0 0) 0 [] rfl ⟨rfl, .inl ⟨rfl, rfl⟩⟩ ao1 6 cap1 _ rfl S1.out (by unfold maxLen; omega) (by omega) (U1.out.size) ?_))
  intro ao2 cap2 w2 hown2 hU2 hn2
  have U2 := hide (U1.out.trans (show Upd [] _ _ from hU2))
  have R2 := hide (show Upd [] w1 w2 from hU2)
  have O2 := hide hown2
  have N2 := hide (show ∀ g, (Value.slice ao2 6 cap2).ownBlock = some g → w1.heap.size ≤ g from fun g hg => by
    rcases hn2 g hg with h | h
    · cases h
    · exact h)
  clear hown2 hU2 hn2
  go_wp2_with (at_builtin; go_must (refine wpList_append_src _ rfl _ _ 22 rfl w.heap.size 5 i0 (.int .u8 0) 1 1 Tryd.underlying22 hi hz0 hz1 hz2 rfl (by decide) (.slice ao2 6 cap2) 6 _ rfl (O2.out.alloc _) (some ⟨w2.heap.size, 0, none⟩) 1 1 [.int .u8 7] rfl (src_one (cell_new1 rfl) rfl) (by unfold maxLen; omega) (by omega) (Nat.le_trans U2.out.size (by simp)) ?_))
  intro ao3 cap3 w3 hown3 hU3 hn3
  have U3 := hide ((U2.out.alloc _).trans_new hU3 (fun k hk => by
    simp only [Option.mem_toList] at hk
    exact .inr (owns_lt O2.out k hk).1))
  have O3 := hide hown3
  have R3 := hide ((R2.out.alloc _).trans_new hU3 (fun k hk => by
    simp only [Option.mem_toList] at hk
    exact .inr (N2.out k hk)))
  clear hown3 hU3 hn3
  go_wp2_with fail
  have ht : take [1, 48, 67, 208, 193, 97, 7] = ([97], 6, 0) := by
    have := take_fr (bs := [97]) (by simp) (by simp) [7]
    rw [fr_a] at this
    exact this
  have hcp := (owns_slice O3.out)
  obtain ⟨ao3', cap3', e3, hc31, hc32, -⟩ := hcp
  cases e3
  refine (take_any (bs := [1, 48, 67, 208, 193, 97, 7]) _ (HST.out.upd U3.out (by simp)) (src_own O3.out (by simp [u8v, Value.oneCell'])) hc31 hc32).mono ?_
  rintro e w4 htk
  unfold TakeSays at htk
  rw [ht] at htk
  obtain ⟨hu4, (⟨he, -⟩ | ⟨-, l, n, hn, hln, rfl, hsrc⟩)⟩ := htk
  · exact absurd rfl he
  have hn1 : n = 1 := hn
  have hl5 : l = 5 := by simp only [] at hln; omega
  subst hn1; subst hl5
  have U4 := hide (U3.out.trans hu4)
  have S4 := hide (src_upd_nil hsrc hu4)
  have R4 := hide (R3.out.trans hu4)
  clear ht hu4 hsrc hn hln hc31 hc32
  go_wp2_with fail
  have u5 := (Upd.refl [] w4).alloc (.cells #[.int .u8 0] 5)
  refine (take_any (bs := [0]) _ (HST.out.upd (U4.out.trans u5) (by simp)) (src_block (blk_new w4 _) rfl rfl) (by decide) (by simp [maxLen])).mono ?_
  rintro e w5 htk
  unfold TakeSays at htk
  rw [take_zero] at htk
  obtain ⟨hu5, (⟨-, rfl⟩ | ⟨he, -⟩)⟩ := htk
  · have U5 := hide ((U4.out.trans u5).trans hu5)
    have R5 := hide ((R4.out.trans u5).trans hu5)
    have hs1 := run_str (src_upd_nil S1.out R5.out)
    have hs4 := run_str (src_upd_nil S4.out (u5.trans hu5))
    have q1 : ((strOf [1, 48, 67, 208, 193, 97]).toList == [1, 48, 67, 208, 193, 97]) = true := by kernel_rfl
    have q2 : ((strOf [97]).toList == [97]) = true := by kernel_rfl
    simp only [List.length_cons, List.length_nil, Nat.zero_add, Nat.reduceAdd] at hs1
    clear u5 hu5
    go_wp2_with fail
    refine (put_long _ (.inl rfl)).mono ?_
    rintro e w6 ⟨rfl, rfl⟩
    go_wp2_with fail
    go_ret
    exact ⟨rfl, U5.out⟩
  · simp at he
end Go.Proofs.YtmgdhloehkdffaaDoor.FrL
