/- quoratelaw06.wakes returns true, and turns nothing that was there. -/
import Derived.Test.YtmgdhloehkdffaaDoorRecK
namespace Go.Proofs.YtmgdhloehkdffaaDoor.Rec
open Go.RowKit Go.Proofs.YtmgdhloehkdffaaDoor.Var Go.Proofs.YtmgdhloehkdffaaDoor.Crc Go.Proofs.YtmgdhloehkdffaaDoor.Fr Go.Proofs.YtmgdhloehkdffaaDoor.DiskW

set_option maxRecDepth 100000 in
set_option maxHeartbeats 4000000 in
theorem wakes_any (w : World) (hst : TabAt w) : Calls Tryd.prog 18 #[] w fun e w' => e = .returned (.bool true) ∧ Upd [] w w' := by
  have HST := hide hst
  have kc := fun (w : World) (C : Array Value) (n c : Nat) => Lib.run_convert_bytes_const (P := Tryd.prog) w 22 5 C n c Tryd.underlying22 Tryd.underlying5
  clear hst
  go_enter Tryd.func18, Tryd.ntmps18
  go_wp2_with fail
  refine (new_at w).mono ?_
  rintro e w1 ⟨rfl, h1⟩
  have H1 := hide h1
  clear h1
  go_wp2_with fail
  refine (open_at HST.out H1.out ⟨by simp, by simp, by simp, by simp⟩).mono ?_
  rintro e w2 ho
  obtain ⟨L, ao, cap, vs, rfl, hL, -, h2, -⟩ := ho.ok (l1 := []) (l2 := []) (n1 := 0) (n2 := 0) (e2 := 0) rfl rfl rfl
  have H2 := hide h2; have L2 := hide hL
  clear ho hL h2
  simp only [List.append_nil, List.length_nil]
  go_wp2_with fail
  have al := (Upd.refl [] w2).alloc (.cells #[.int .u8 97] 5 (1, 2))
  have h2a := H2.out.quiet al
  refine (lappend_at (bs := [97]) HST.out h2a.1 (L2.out.near h2a.2) (src_block (blk_new w2 _) rfl rfl) ⟨by simp, by simp, by simp, by simp⟩ (by decide)).mono ?_
  rintro e w3 ⟨rfl, h3, hn3⟩
  have e3 : DS.log { byt := List.take (0 + 0) [], syn := 0 + 0, dead := false, fuse := -1 } [97] = (⟨[1, 48, 67, 208, 193, 97], 0, false, -1⟩, 0) := by
    unfold DS.log DS.append
    rw [FrL.fr_a]
    rfl
  rw [e3] at h3
  rw [e3]
  have H3 := hide h3; have L3 := hide ((L2.out.near h2a.2).near hn3)
  clear al h2a h3 hn3 e3
  go_wp2_with fail
  refine (lsync_at H3.out L3.out).mono ?_
  rintro e w4 ⟨rfl, h4, hn4⟩
  have e4 : DS.sync ⟨[1, 48, 67, 208, 193, 97], 0, false, -1⟩ = (⟨[1, 48, 67, 208, 193, 97], 6, false, -1⟩, 0) := rfl
  rw [e4] at h4
  rw [e4]
  have H4 := hide h4
  clear h4 hn4 e4
  go_wp2_with fail
  have al := (Upd.refl [] w4).alloc (.cells #[.int .u8 5, .int .u8 1] 5 (0, 0))
  refine (append_at (bs := [5, 1]) (H4.out.quiet al).1 (src_block (blk_new w4 _) rfl rfl) (by decide) (by decide) ⟨by simp, by simp, by simp, by simp⟩).mono ?_
  rintro e w5 ⟨rfl, h5, -⟩
  have e5 : DS.append ⟨[1, 48, 67, 208, 193, 97], 6, false, -1⟩ [5, 1] = (⟨[1, 48, 67, 208, 193, 97, 5, 1], 6, false, -1⟩, 0) := rfl
  rw [e5] at h5
  have H5 := hide h5
  clear al h5 e5
  go_wp2_with fail
  refine (crash_at H5.out ⟨by simp, by simp, by simp, by simp⟩).mono ?_
  rintro e w6 ⟨rfl, h6, -⟩
  have e6 : DS.crash ⟨[1, 48, 67, 208, 193, 97, 5, 1], 6, false, -1⟩ (-1) = (⟨[1, 48, 67, 208, 193, 97, 5, 1], 6, true, -1⟩, 0) := rfl
  rw [e6] at h6
  have H6 := hide h6
  clear h6 e6
  go_wp2_with fail
  refine (open_at HST.out H6.out ⟨by simp, by simp, by simp, by simp⟩).mono ?_
  rintro e w7 ho
  obtain ⟨rfl, h7, -⟩ := ho.dead rfl
  have H7 := hide h7
  clear ho h7
  go_wp2_with fail
  refine (restart_at H7.out).mono ?_
  rintro e w8 ⟨rfl, h8, -⟩
  have e8 : DS.restart ⟨[1, 48, 67, 208, 193, 97, 5, 1], 6, true, -1⟩ = (⟨[1, 48, 67, 208, 193, 97, 5, 1], 6, false, -1⟩, 0) := rfl
  rw [e8] at h8
  have H8 := hide h8
  clear h8 e8
  go_wp2_with fail
  refine (open_at HST.out H8.out ⟨by simp, by simp, by simp, by simp⟩).mono ?_
  rintro e w9 ho
  obtain ⟨L', mo, mc, ms, rfl, -, hlie, h9, -⟩ := ho.ok (l1 := [[97]]) (l2 := []) (n1 := 6) (n2 := 0) (e2 := 10) rfl all_a all_51
  have h9' : At w w.heap.size ⟨[1, 48, 67, 208, 193, 97], 6, false, -1⟩ w9 := h9
  have H9 := hide h9'; have M9 := hide hlie
  clear ho h9 h9' hlie
  simp only [List.append_nil, List.length_cons, List.length_nil, Nat.zero_add]
  go_wp2_with fail
  refine (crash_at H9.out ⟨by simp, by simp, by simp, by simp⟩).mono ?_
  rintro e w10 ⟨rfl, h10, hn10⟩
  have e10 : DS.crash ⟨[1, 48, 67, 208, 193, 97], 6, false, -1⟩ 0 = (⟨[1, 48, 67, 208, 193, 97], 6, true, -1⟩, 0) := rfl
  rw [e10] at h10
  have H10 := hide h10; have M10 := hide (M9.out.near hn10)
  clear h10 e10 hn10
  go_wp2_with fail
  refine (turn_at H10.out (by decide) (by decide) (by decide)).mono ?_
  rintro e w11 ⟨rfl, h11, hn11⟩
  have e11 : DS.turn ⟨[1, 48, 67, 208, 193, 97], 6, true, -1⟩ 41 = (⟨[1, 48, 67, 208, 193, 99], 6, true, -1⟩, 0) := by
    unfold DS.turn
    rw [if_neg (by decide)]
    rfl
  rw [e11] at h11
  have H11 := hide h11; have M11 := hide (M10.out.near hn11)
  clear h11 e11 hn11
  go_wp2_with fail
  refine (restart_at H11.out).mono ?_
  rintro e w12 ⟨rfl, h12, hn12⟩
  have e12 : DS.restart ⟨[1, 48, 67, 208, 193, 99], 6, true, -1⟩ = (⟨[1, 48, 67, 208, 193, 99], 6, false, -1⟩, 0) := rfl
  rw [e12] at h12
  have H12 := hide h12; have M12 := hide (M11.out.near hn12)
  clear h12 e12 hn12
  go_wp2_with fail
  refine (open_at HST.out H12.out ⟨by simp, by simp, by simp, by simp⟩).mono ?_
  rintro e w13 ho
  obtain ⟨rfl, h13, hn13⟩ := ho.bad rfl all_bad
  have M13 := (M12.out.near hn13).rows.reads
  obtain ⟨mo', mc', e13, hm1, hm2, hm3⟩ := M13
  cases e13
  obtain ⟨b, off, xo, n, c, rfl, hcell, hsrc, hn1, hn2⟩ := hm3 0 [97] rfl
  have hlen : n = 1 := by have := hsrc.len; simpa using this.symm
  subst hlen
  have hstr := run_str hsrc
  have q2 : ((strOf [97]).toList == [97]) = true := by kernel_rfl
  have hsy : ∃ bv, DiskAt w13 w.heap.size w.heap.size bv ⟨[1, 48, 67, 208, 193, 99], 6, false, -1⟩ := h13.2.2
  obtain ⟨bv13, hd13⟩ := hsy
  have U13 := hide h13.2.1; have D13 := hide hd13
  simp only [Nat.add_zero] at hcell
  clear ho h13 hn13 hsrc hd13 hm3
  go_wp2_with fail
  refine (synced_any _ D13.out).mono ?_
  rintro e w14 ⟨rfl, rfl⟩
  go_wp2_with fail
  go_ret
  exact ⟨rfl, U13.out⟩
end Go.Proofs.YtmgdhloehkdffaaDoor.Rec
