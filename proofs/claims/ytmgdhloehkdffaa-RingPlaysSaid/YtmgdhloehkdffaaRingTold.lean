/- quoratelaw07.told and its closure: the slots and the values that a ring tells, as far as asked. -/
import Derived.Test.YtmgdhloehkdffaaRingWS
import Derived.RangeFuncBox
namespace Go.Proofs.Ytmgdhloehkdffaa.RingTold
open Go.RowKit
open RingS (TR TC zero)
theorem infoU : (Try.prog.info? 29).map (fun i => (i.zero, i.size, i.bytes)) = some (some (.int .u64 0), 1, 8) := by kernel_rfl
theorem infoS : (Try.prog.info? 9).map (fun i => (i.zero, i.size, i.bytes)) = some (some (.string ByteArray.empty), 1, 16) := by kernel_rfl

/-- What the closure keeps: its three boxes, and two rows. -/
structure Tl (w : World) (most : Int) (pre : List (Nat × Value)) (W : World) : Prop where
  upd : Upd [] w W
  b0 : W.heap[w.heap.size]? = some (.cells #[.int .i64 most] 3 (0, 0))
  rows : ∃ lv mv, W.heap[w.heap.size + 1]? = some (.cells #[lv] 64 (0, 0)) ∧ W.heap[w.heap.size + 2]? = some (.cells #[mv] 65 (0, 0)) ∧
    W.ownsRow (w.heap.size + 3) 29 1 lv pre.length (pre.map fun x => .int .u64 x.1) ∧ W.ownsRow (w.heap.size + 3) 9 1 mv pre.length (pre.map (·.2)) ∧
    (∀ k, lv.ownBlock = some k → mv.ownBlock ≠ some k)

set_option maxHeartbeats 1000000 in
theorem told1_any {w : World} {most : Int} {pre : List (Nat × Value)} {W : World} (h : Tl w most pre W) (hlen : pre.length < 5000) (s : Nat) (str : ByteArray) :
    Calls Try.prog 41 #[.int .u64 s, .string str, .pointer (some ⟨w.heap.size + 1, 0, none⟩), .pointer (some ⟨w.heap.size + 2, 0, none⟩), .pointer (some ⟨w.heap.size, 0, none⟩)] W fun e W' =>
      e = .returned (.bool (decide ((pre.length : Int) + 1 < most))) ∧ Tl w most (pre ++ [(s, .string str)]) W' ∧ W.heap.size ≤ W'.heap.size := by
  obtain ⟨hu, hb0, lv, mv, hb1, hb2, ho1, ho2, hne⟩ := h
  have hc0 := blk_cell (i := 0) hb0 rfl
  have hc1 := blk_cell (i := 0) hb1 rfl
  have hf1 := blk_free (i := 0) hb1
  have hc2 := blk_cell (i := 0) hb2 rfl
  have hf2 := blk_free (i := 0) hb2
  simp only [List.getElem_toArray, List.getElem_cons_zero] at hc0 hc1 hc2
  obtain ⟨i0, hi, hz0, hz1, hz2⟩ := info_parts infoU
  obtain ⟨i1, hi', hz0', hz1', hz2'⟩ := info_parts infoS
  have hsz := hu.size
  have hlt2 := blk_lt hb2
  obtain ⟨ao, cap, rfl, -, -, -⟩ := owns_slice ho1
  obtain ⟨ao2, cap2, rfl, -, -, -⟩ := owns_slice ho2
  have l1 := owns_lt ho1
  have l2 := owns_lt ho2
  have L1 := hide l1; have L2 := hide l2; have NE := hide hne
  have HB0 := hide hb0; have HB1 := hide hb1; have HB2 := hide hb2; have U := hide hu; have O2 := hide ho2
  clear l1 l2 hne hb0 hb1 hb2 hu ho2
  go_enter Try.func41, Try.ntmps41
  go_wp2_with (at_builtin; go_must (refine wpList_append_mine _ rfl _ _ 64 rfl (w.heap.size + 3) 29 i0 (.int .u64 0) 1 8 Try.underlying64 hi hz0 hz1 hz2 rfl (by decide) _ _ _ rfl (ho1.alloc _) ⟨W.heap.size, 0, none⟩ 1 1 [.int .u64 s] rfl rfl (cell_at0 (by simp)) (by simp [Value.oneCell']) (by unfold maxLen; omega) (by omega) (by simp; omega) ?_))
  intro ao1 cap1 w1 hown1 hU1' hb1'
  have hU1 := grown_upd hU1'
  have hB1 := hU1.get HB1.out (not_own (b := w.heap.size + 1) L1.out (by omega))
  have hc1' := blk_cell (i := 0) hB1 rfl
  have hf1' := blk_free (i := 0) hB1
  have hB2 := hU1.get HB2.out (not_own (b := w.heap.size + 2) L1.out (by omega))
  have hc2' := blk_cell (i := 0) hB2 rfl
  have hf2' := blk_free (i := 0) hB2
  have hB0 := hU1.get HB0.out (not_own (b := w.heap.size) L1.out (by omega))
  have hc0' := blk_cell (i := 0) hB0 rfl
  simp only [List.getElem_toArray, List.getElem_cons_zero] at hc0' hc1' hc2'
  have hs1 := hU1.size
  have O2' := hide (owns_upd O2.out hU1 (fun k hk => disj_own NE.out hk))
  have U1 := hide hU1; have HB0' := hide hB0; have HB1' := hide hB1; have HB2' := hide hB2; have HO1 := hide hown1; have HN1 := hide hb1'
  clear hU1 hB1 hB2 hB0 hU1' hown1 hb1' ho1 hc0 hc1 hc2 hf1 hf2
  go_wp2_with (at_builtin; go_must (refine wpList_append_mine _ rfl _ _ 65 rfl (w.heap.size + 3) 9 i1 (.string ByteArray.empty) 1 16 Try.underlying65 hi' hz0' hz1' hz2' rfl (by decide) _ pre.length (pre.map (·.2)) rfl ?o2 ⟨w1.heap.size, 0, none⟩ 1 1 [.string str] rfl rfl (cell_at0 ?c1) (by simp [Value.oneCell']) (by unfold maxLen; omega) (by omega) ?c2 ?_))
  case o2 => exact (ownsRow_setCell_below O2'.out (by simp) _).alloc _
  case c1 => exact cell_new1 (by simp)
  case c2 => simp; omega
  intro ao3 cap3 w2 hown2 hU2' hb2'
  have hU2 := grown_upd hU2'
  have hS2 : (w1.setCell ⟨w.heap.size + 1, 0, none⟩ (Value.slice ao1 (pre.length + 1) cap1)).heap.size = w1.heap.size := size_setCell _ _ _
  have HH1 := hide hs1
  have hz2 := hU2.size
  rw [hS2] at hz2
  have hB1 := hU2.get (blk_set (i := 0) HB1'.out (Value.slice ao1 (pre.length + 1) cap1)) (not_own (b := w.heap.size + 1) L2.out (by omega))
  have hB2 := hU2.get (blk_set_other (i := 0) HB2'.out (c := w.heap.size + 1) (by omega) (Value.slice ao1 (pre.length + 1) cap1)) (not_own (b := w.heap.size + 2) L2.out (by omega))
  have hB0 := hU2.get (blk_set_other (i := 0) HB0'.out (c := w.heap.size + 1) (by omega) (Value.slice ao1 (pre.length + 1) cap1)) (not_own (b := w.heap.size) L2.out (by omega))
  have hc2' := blk_cell (i := 0) hB2 rfl
  have hf2' := blk_free (i := 0) hB2
  have hc1' := blk_cell (i := 0) hB1 rfl
  have hc0' := blk_cell (i := 0) hB0 rfl
  simp only [List.getElem_toArray, List.getElem_cons_zero, List.setIfInBounds_toArray, List.set_cons_zero] at hc0' hc2' hc1'
  clear hz2 hS2
  have U2 := hide hU2; have HB0'' := hide hB0; have HB1'' := hide hB1; have HB2'' := hide hB2; have HO2 := hide hown2; have HN2 := hide hb2'
  clear hU2 hB1 hB2 hB0 hU2' hown2 hb2'
  go_wp2_with fail
  go_ret
  have l1 := L1.out; have l2 := L2.out
  have n1 := HN1.out; have n2 := HN2.out
  have lt1 := HO1.out.lt
  have lt2 := HO2.out.lt
  have dis : ∀ k, (Value.slice ao1 (pre.length + 1) cap1).ownBlock = some k → (Value.slice ao2 pre.length cap2).ownBlock ≠ some k := by
    intro k h1 h2
    rcases n1 k h1 with h3 | h3
    · exact NE.out k h3 h2
    · have := (l2 k h2).2; omega
  refine ⟨rfl, ⟨?_, ?_, _, _, blk_set_other (by exact HB1''.out) (by omega) _, blk_set (by exact HB2''.out) _, ?_, ?_, ?_⟩, ?_⟩
  · refine Upd.setCell ?_ (.inr (by simp)) _
    refine Upd.trans_new ?_ U2.out (fun k hk => ?_)
    · refine Upd.setCell ?_ (.inr (by simp)) _
      refine U.out.trans_new U1.out (fun k hk => ?_)
      simp only [Option.mem_toList] at hk
      exact .inr (by have := (l1 k hk).1; omega)
    · simp only [Option.mem_toList] at hk
      exact .inr (by have := (l2 k hk).1; omega)
  · exact blk_set_other (by exact HB0''.out) (by omega) _
  · rw [List.map_append, List.length_append]
    exact ownsRow_setCell_below (owns_upd (ownsRow_setCell_below HO1.out (by simp) _) U2.out (fun k hk hm => by
      simp only [Option.mem_toList] at hm
      exact dis k hk hm)) (by simp) _
  · rw [List.map_append, List.length_append]
    exact ownsRow_setCell_below HO2.out (by simp) _
  · intro k h1 h2
    rcases n2 k h2 with h3 | h3
    · exact dis k h1 h3
    · have := (lt1 k h1).2; omega
  · have h1 := U2.out.size
    rw [size_setCell] at h1 ⊢
    omega

set_option maxHeartbeats 1000000 in
/-- All, handed the closure. -/
theorem all_told {B C n base : Nat} {f : Nat → Value × Bool} (hb : base < 2305843009213693952) {p q r : Option Addr} (J Jx : List (Nat × Value) → World → Prop) (W : World) (hR : Ring TR TC W B C n base f)
    (hY : ∀ pre x W1, J pre W1 → pre ++ [x] <+: rlist n base f → Calls Try.prog 41 #[.int .u64 x.1, x.2, .pointer p, .pointer q, .pointer r] W1 fun e W' =>
      (e = .returned (.bool true) ∧ J (pre ++ [x]) W' ∧ Keeps [B, C] W1 W') ∨ (e = .returned (.bool false) ∧ Jx (pre ++ [x]) W'))
    (hJ : ∀ pre W1 W2, J pre W1 → Upd [] W1 W2 → J pre W2) (hJ0 : J [] W) :
    Calls Try.prog 28 #[.pointer (some ⟨B, 0, none⟩), .func (.func 41) #[] #[.pointer p, .pointer q, .pointer r]] W fun e W' => e = .returned (.tuple #[]) ∧
      (J (rlist n base f) W' ∨ ∃ pre, pre <+: rlist n base f ∧ Jx pre W') := by
  have hn1 := hR.lo
  have hn := hR.hi
  go_enter Try.func28, Try.ntmps28
  have HR := hide hR
  have HY := hide hY
  have HJ := hide hJ
  have HJ0 := hide hJ0
  clear hR hY hJ hJ0
  go_wp2_with fail
  go_loopw [4] (fun i wr => ∃ k : Nat, k ≤ n ∧ i = .int .u64 (k + 1) ∧ Ring TR TC wr B C n base f ∧ ∃ pre, rlist n base f = pre ++ rlistFrom n base f (k + 1) (n - k) ∧ J pre wr) (fun i _ => n + 1 - (intOf i).toNat)
  case atStart => exact ⟨0, by omega, rfl, HR.out, [], rfl, HJ0.out⟩
  case round =>
    obtain ⟨k, hk, rfl, hr, pre, hpre, hj⟩ := hrel
    have hc0 := hr.c0
    have hc1 := hr.c1
    by_cases hg : k + 1 ≤ n
    · have hd1 : decide ((k : Int) + 1 ≤ n) = true := by simp; omega
      have hd2 : decide ((base : Int) < base + (k + 1)) = true := by simp; omega
      obtain ⟨v, b, hfv⟩ : ∃ v b, f ((base + (k + 1)) % n) = (v, b) := ⟨_, _, rfl⟩
      have HG : ∀ W', Ring TR TC W' B C n base f → Calls Try.prog 7 #[.pointer (some ⟨B, 0, none⟩), .int .u64 ((base + (k + 1) : Nat) : Int)] W' fun e w' => e = .returned (.tuple #[v, .bool b]) ∧ ∃ k, w' = W'.drewN k := by
        intro W' h'
        have := RingS.get_any (slot := base + (k + 1)) W' h' hb (by omega)
        rw [rget_in (by omega) (by omega), hfv] at this
        exact this
      have HFV := hide hfv
      clear hfv
      have HPRE := hide hpre
      have HR2 := hide hr
      have HJ2 := hide hj
      clear hpre hr hj
      go_wp2_with fail
      go_quiet ((go_at_call 26; exact quiet_left (RingS.room_any _ hc1 hn)))
      go_wp2_with fail
      cases b with
      | false =>
        go_wp2_with (go_at_call 7; refine (HG _ (HR2.out.drewN nq)).mono ?_; rintro e w' ⟨rfl, k', rfl⟩)
        have e1 : rlistFrom n base f (k + 1) (n - k) = rlistFrom n base f (k + 1 + 1) (n - (k + 1)) := by
          obtain ⟨m, hm⟩ : ∃ m, n - k = m + 1 := ⟨n - k - 1, by omega⟩
          rw [hm, show n - (k + 1) = m from by omega, rlistFrom, HFV.out]
          simp
        refine ⟨⟨k + 1, hg, by go_num, HR2.out.drewN _, pre, by rw [HPRE.out, e1], HJ.out _ _ _ HJ2.out ((Upd.refl _ _).drewN _)⟩, by simp [intOf]; omega⟩
      | true =>
        have e1 : rlistFrom n base f (k + 1) (n - k) = (base + (k + 1), v) :: rlistFrom n base f (k + 1 + 1) (n - (k + 1)) := by
          obtain ⟨m, hm⟩ : ∃ m, n - k = m + 1 := ⟨n - k - 1, by omega⟩
          rw [hm, show n - (k + 1) = m from by omega, rlistFrom, HFV.out]
          simp
        have E1 := hide e1
        clear e1
        go_upto_region 5 with (go_at_call 7; refine (HG _ (HR2.out.drewN nq)).mono ?_; rintro e w' ⟨rfl, k', rfl⟩)
        have hY2 := HY.out pre (base + (k + 1), v) (wr.drewN (nq + k')) (HJ.out _ _ _ HJ2.out ((Upd.refl _ _).drewN _)) (by rw [HPRE.out, E1.out]; simp)
        have HRR := hide hY2
        clear hY2
        go_wp2_with fail
        refine HRR.out.mono ?_
        rintro e W' (⟨rfl, hj3, hk3⟩ | ⟨rfl, hjx3⟩)
        · have hR3 : Ring TR TC W' B C n base f := ⟨hk3.get HR2.out.hB (by simp), hk3.get HR2.out.hC (by simp), HR2.out.ne, hn1, hn⟩
          have HR3 := hide hR3
          clear hR3 HY
          go_wp2_with fail
          refine ⟨⟨k + 1, hg, by go_num, HR3.out, pre ++ [(base + (k + 1), v)], by rw [HPRE.out, E1.out]; simp, hj3⟩, by simp [intOf]; omega⟩
        · clear HY
          go_wp2_with fail
          refine bodyPost_ret (results_none rfl _ _ _) rfl ?_
          exact ⟨rfl, .inr ⟨_, by rw [HPRE.out, E1.out]; simp, hjx3⟩⟩
    · have hd1 : decide ((k : Int) + 1 ≤ n) = false := by simp; omega
      have hkn : k = n := by omega
      have HF : rlist n base f = pre := by rw [hpre, hkn]; simp [rlistFrom]
      have HFF := hide HF
      have HJ2 := hide hj
      clear hpre hr hj HF hkn hg
      go_wp2_with fail
      go_quiet ((go_at_call 26; exact quiet_left (RingS.room_any _ hc1 hn)))
      go_wp2_with fail
      go_end0
      exact ⟨rfl, .inl (by rw [HFF.out]; exact HJ.out _ _ _ HJ2.out ((Upd.refl _ _).drewN _))⟩


theorem pre_take {α : Type} {pre xs : List α} (h : pre <+: xs) : pre = xs.take pre.length := by
  obtain ⟨t, rfl⟩ := h; simp

set_option maxHeartbeats 1000000 in
theorem told_any {B C n base : Nat} {f : Nat → Value × Bool} (w : World) (hb : base < 2305843009213693952) (hR : Ring TR TC w B C n base f) (hstr : ∀ x ∈ rlist n base f, ∃ s, x.2 = .string s) (most : Nat) (hm : 1 ≤ most) (hm2 : most ≤ 1000) :
    Calls Try.prog 29 #[.pointer (some ⟨B, 0, none⟩), .int .i64 most] w fun e w' => ∃ lv mv, e = .returned (.tuple #[lv, mv]) ∧ Upd [] w w' ∧
      w'.ownsRow (w.heap.size + 3) 29 1 lv ((rlist n base f).take most).length (((rlist n base f).take most).map fun x => .int .u64 x.1) ∧
      w'.ownsRow (w.heap.size + 3) 9 1 mv ((rlist n base f).take most).length (((rlist n base f).take most).map (·.2)) := by
  have hlB := hR.ltB
  have hlC := hR.ltC
  have HS := hide hstr
  have HR := hide hR
  clear hstr hR
  go_enter Try.func29, Try.ntmps29
  go_wp2_with fail
  refine (all_told (n := n) (base := base) (f := f) (C := C) hb (fun pre W => Tl w most pre W ∧ pre.length < most ∧ pre <+: rlist n base f) (fun pre W => Tl w most pre W ∧ pre.length = most) _ ?hr ?hy ?hj ?h0).mono ?_
  case hr => exact HR.out.upd ((((Upd.refl [] w).alloc _).alloc _).alloc _) (by simp) (by simp)
  case hj =>
    rintro pre W1 W2 ⟨h1, h2⟩ hu
    obtain ⟨lv, mv, b1, b2, o1, o2, ne⟩ := h1.rows
    exact ⟨⟨h1.upd.trans hu, hu.get h1.b0 (by simp), lv, mv, hu.get b1 (by simp), hu.get b2 (by simp), owns_upd o1 hu (by simp), owns_upd o2 hu (by simp), ne⟩, h2⟩
  case h0 =>
    refine ⟨⟨(((Upd.refl [] w).alloc _).alloc _).alloc _, blk_alloc (blk_alloc (blk_new _ _) _) _, .slice none 0 0, .slice none 0 0, ?_, ?_, World.ownsRow_nil _ _ _ _, World.ownsRow_nil _ _ _ _, by simp [Value.ownBlock]⟩, by simp; omega, by simp⟩
    · have := blk_new (w.alloc (.cells #[.int .i64 most] 3)) (.cells #[.slice none 0 0] 64)
      rw [World.size_alloc] at this
      exact blk_alloc this _
    · have := blk_new ((w.alloc (.cells #[.int .i64 most] 3)).alloc (.cells #[.slice none 0 0] 64)) (.cells #[.slice none 0 0] 65)
      rw [World.size_alloc, World.size_alloc] at this
      exact this
  case hy =>
    rintro pre ⟨s, v⟩ W1 ⟨h1, h2, h3⟩ hx
    obtain ⟨str, hs⟩ := HS.out (s, v) (hx.subset (by simp))
    simp only at hs
    subst hs
    refine (told1_any h1 (by omega) s str).mono ?_
    rintro e W' ⟨rfl, h4, h5⟩
    have hk : Keeps [B, C] W1 W' := by
      refine ⟨h5, fun k hk => ?_⟩
      have hkl : k < w.heap.size := by simp at hk; omega
      rw [h4.upd.block k hkl (by simp), h1.upd.block k hkl (by simp)]
    by_cases hlt : (pre.length : Int) + 1 < most
    · exact .inl ⟨by simp [hlt], ⟨h4, by simp; omega, hx⟩, hk⟩
    · exact .inr ⟨by simp [hlt], h4, by simp; omega⟩
  rintro e W' ⟨rfl, hj⟩
  have hT : ∃ pre, pre = (rlist n base f).take most ∧ Tl w most pre W' := by
    rcases hj with ⟨h1, h2, -⟩ | ⟨pre, h1, h2, h3⟩
    · exact ⟨_, (List.take_of_length_le (by omega)).symm, h1⟩
    · exact ⟨pre, by rw [← h3]; exact pre_take h1, h2⟩
  clear hj
  obtain ⟨pre, hpre, hT⟩ := hT
  obtain ⟨hu, hb0, lv, mv, hb1, hb2, ho1, ho2, hne⟩ := hT
  obtain ⟨ao1, cap1, rfl, -, -, -⟩ := owns_slice ho1
  obtain ⟨ao2, cap2, rfl, -, -, -⟩ := owns_slice ho2
  have hc1 := blk_cell (i := 0) hb1 rfl
  have hc2 := blk_cell (i := 0) hb2 rfl
  simp only [List.getElem_toArray, List.getElem_cons_zero] at hc1 hc2
  have HP := hide hpre; have U := hide hu; have O1 := hide ho1; have O2 := hide ho2
  clear hpre hu hb0 hb1 hb2 ho1 ho2 hne
  go_wp2_with fail
  go_quiet (fail)
  go_wp2_with fail
  go_ret2
  refine ⟨_, _, rfl, U.out.drewN _, ?_, ?_⟩
  · rw [← HP.out]; exact O1.out
  · rw [← HP.out]; exact O2.out
end Go.Proofs.Ytmgdhloehkdffaa.RingTold
