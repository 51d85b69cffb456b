/- varint: groups and Uint: what each call answers and what it leaves in memory. -/
import Derived.Test.YtcjflnnjieolfaaDoorVarM
import Derived.Test.YtcjflnnjieolfaaDoorGen
namespace Go.Proofs.YtcjflnnjieolfaaDoor.Var
open Go.RowKit Go.Proofs.YtcjflnnjieolfaaDoor.Crc

set_option maxHeartbeats 400000 in
theorem groups_any (n : Nat) (w : World) :
    Calls Tryd.prog 65 #[.int .u64 (n : Int)] w fun e w' => e = .returned (.func (.func 88) #[] #[.pointer (some ⟨w.heap.size, 0, none⟩)]) ∧
      w'.heap[w.heap.size]? = some (.cells #[.int .u64 (n : Int)] 37 (0, 0)) ∧ Upd [] w w' := by
  go_enter Tryd.func65, Tryd.ntmps65
  go_wp2_with fail
  go_ret
  exact ⟨rfl, blk_new _ _, (Upd.refl _ _).alloc _⟩

theorem and127 {n : Nat} (h : n < 18446744073709551616) : Go.bits .and .u64 (n : Int) 127 = ((n % 128 : Nat) : Int) := by
  rw [show (127 : Int) = ((127 : Nat) : Int) from rfl, u64_and_nat _ _ h (by decide), nat_mask7]

set_option maxHeartbeats 1000000 in
/-- groups' function, as an iterator. -/
theorem groups_iter {p n : Nat} (hn : n < 18446744073709551616) :
    Iter Tryd.prog 88 #[] #[.pointer (some ⟨p, 0, none⟩)] (fun x : Nat × Bool => #[.int .u8 (x.1 : Int), .bool x.2]) (groups n) [p] [p] (fun W => W.heap[p]? = some (.cells #[.int .u64 (n : Int)] 37 (0, 0))) := by
  intro nn l J Jx W hR hY hJ hJx hJ0
  refine callsIn_wide.2 ?_
  go_enter Tryd.func88, Tryd.ntmps88
  have HR := hide hR
  have HY := hide hY
  have HJ := hide hJ
  have HJx := hide hJx
  have HJ0 := hide hJ0
  clear hR hY hJ hJx hJ0
  go_wp2_with fail
  go_loopw [3] (fun _ wr => ∃ (k : Nat) (pre : List (Nat × Bool)), k < 18446744073709551616 ∧ groups n = pre ++ groups k ∧ wr.heap[p]? = some (.cells #[.int .u64 (k : Int)] 37 (0, 0)) ∧ J pre wr) (fun _ wr => match wr.cell? ⟨p, 0, none⟩ with | some v => (intOf v).toNat | none => 0)
  case atStart => exact ⟨n, [], hn, rfl, HR.out, HJ0.out⟩
  case round =>
    obtain ⟨k, pre, hk, hpre, hp, hj⟩ := hrel
    have hc := blk_cell (i := 0) hp rfl
    have hf := blk_free (i := 0) hp
    simp only [List.getElem_toArray, List.getElem_cons_zero] at hc
    have HP := hide hp; have HPRE := hide hpre; have HJ2 := hide hj
    clear hp hpre hj HR HJ0
    by_cases hg : 128 ≤ k
    · have hd : decide (128 ≤ (k : Int)) = true := by simp; omega
      have e1 := and127 hk
      have hl := Nat.mod_lt k (show 0 < 128 by decide)
      have HG := hide (groups_more hg)
      obtain ⟨z, hz⟩ : ∃ z, k % 128 = z := ⟨_, rfl⟩
      rw [hz] at e1 hl
      have HZ := hide hz
      clear hz
      go_upto_block 1 with fail
      obtain ⟨fn, tmps, assign, body, hy, hR⟩ := HY.out pre (z, false) wr HJ2.out (by rw [HPRE.out, HG.out, HZ.out]; simp)
      replace hy : (Instr.yield l #[.int .u8 (z : Int), .bool false]).run Tryd.prog wr = .ok (.round l fn tmps assign body) wr := hy
      have HRR := hide hR
      clear hR
      refine (wpIn_wide (n := nn + 1)).1 ?_
      gi_wp2
      refine HRR.out.mono ?_
      rintro e W' (⟨rfl, hj3, hk3⟩ | ⟨rfl, hjx3⟩)
      · have hp3 := hk3.get HP.out (by simp)
        have hc3 := blk_cell (i := 0) hp3 rfl
        have hf3 := blk_free (i := 0) hp3
        simp only [List.getElem_toArray, List.getElem_cons_zero] at hc3
        have HP3 := hide hp3; have HJ3 := hide hj3
        obtain ⟨q, hq⟩ : ∃ q, k / 128 = q := ⟨_, rfl⟩
        have e2 : (k : Int) / 128 = (q : Int) := by omega
        have hqk : q < k := by omega
        have HQ := hide hq
        have HC := hide hc
        clear hp3 hy HY hc hf hj3 hk3 hq
        gi_wp2
        go_wp2_with fail
        have hp4 := blk_set (i := 0) HP3.out (.int .u64 (q : Int))
        have hc4 := blk_cell (i := 0) hp4 rfl
        simp only [List.getElem_toArray, List.setIfInBounds_toArray, List.set_cons_zero, List.getElem_cons_zero] at hc4
        refine ⟨⟨q, pre ++ [(z, false)], by omega, by rw [HPRE.out, HG.out, HZ.out, HQ.out]; simp, hp4, HJ.out _ _ _ HJ3.out ((Upd.refl _ _).setCell (.inl (by simp)) _)⟩, ?_⟩
        rw [hc4, HC.out]
        simp [intOf]
        omega
      · clear hy HY
        gi_wp2
        go_wp2_with fail
        refine bodyPost_ret (results_none rfl _ _ _) rfl ?_
        exact ⟨⟨_, rfl⟩, .inr ⟨_, by rw [HPRE.out, HG.out, HZ.out]; simp, hjx3⟩⟩
    · have hd : decide (128 ≤ (k : Int)) = false := by simp; omega
      have hl : k < 128 := by omega
      have HG := hide (groups_last hl)
      clear hg
      go_upto_region 3 with fail
      obtain ⟨fn, tmps, assign, body, hy, hR⟩ := HY.out pre (k, true) wr HJ2.out (by rw [HPRE.out, HG.out]; exact List.prefix_refl _)
      replace hy : (Instr.yield l #[.int .u8 (k : Int), .bool true]).run Tryd.prog wr = .ok (.round l fn tmps assign body) wr := hy
      have HRR := hide hR
      clear hR
      refine (wpIn_wide (n := nn + 1)).1 ?_
      gi_wp2
      refine HRR.out.mono ?_
      rintro e W' (⟨rfl, hj3, hk3⟩ | ⟨rfl, hjx3⟩)
      · have HE := hide (show J (groups n) W' by rw [HPRE.out, HG.out]; exact hj3)
        clear hy HY hj3
        gi_wp2
        go_wp2_with fail
        go_end0
        exact ⟨⟨_, rfl⟩, .inl HE.out⟩
      · have HE := hide (show Jx (groups n) W' by rw [HPRE.out, HG.out]; exact hjx3)
        clear hy HY hjx3
        gi_wp2
        go_wp2_with fail
        go_end0
        exact ⟨⟨_, rfl⟩, .inr ⟨_, List.prefix_refl _, HE.out⟩⟩
end Go.Proofs.YtcjflnnjieolfaaDoor.Var
