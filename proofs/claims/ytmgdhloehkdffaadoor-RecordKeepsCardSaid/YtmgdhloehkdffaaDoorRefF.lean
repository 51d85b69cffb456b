/- The document's frames: what each call answers and what it leaves in memory. -/
import Derived.Test.YtmgdhloehkdffaaDoorRefV
import Derived.Test.YtmgdhloehkdffaaDoorCrcR
import Derived.Test.YtmgdhloehkdffaaDoorFrA
namespace Go.Proofs.YtmgdhloehkdffaaDoor.Ref
open Go.RowKit Go.Proofs.YtmgdhloehkdffaaDoor.Var Go.Proofs.YtmgdhloehkdffaaDoor.Crc Go.Proofs.YtmgdhloehkdffaaDoor.Fr

set_option maxHeartbeats 1000000 in
theorem frame_any {xo : Option Addr} {m c : Nat} {bs : List UInt8} (w : World) (hs : SrcAt w xo m c (bs.map u8v) 1) (hm : m ≤ 1000000000000) :
    Calls Tryd.prog 12 #[.slice xo m c] w fun e w' => ∃ v ao cap, e = .returned v ∧ v = .slice ao (fr bs).length cap ∧ w'.ownsRow w.heap.size 5 1 (.slice ao (fr bs).length cap) (fr bs).length ((fr bs).map u8v) ∧ Upd [] w w' := by
  have hlen : bs.length = m := by have := hs.len; simpa using this
  have HS := hide hs; have HL := hide hlen
  obtain ⟨i0, hi, hz0, hz1, hz2⟩ := info_parts infoB
  clear hs hlen
  go_enter Tryd.func12, Tryd.ntmps12
  go_wp2_with fail
  refine (ref_any _ HS.out (by unfold maxLen; omega)).mono ?_
  rintro e w1 ⟨rfl, rfl⟩
  go_wp2_with fail
  refine (uint_any m (by omega) _).mono ?_
  rintro e w2 ⟨v2, ao2, cap2, rfl, rfl, ho2, hu2⟩
  have O2 := hide ho2; have U2 := hide hu2
  clear ho2 hu2
  obtain ⟨z0, hz0'⟩ : ∃ z, Crc.sum bs % 256 = z := ⟨_, rfl⟩
  obtain ⟨z1, hz1'⟩ : ∃ z, Crc.sum bs / 256 % 256 = z := ⟨_, rfl⟩
  obtain ⟨z2, hz2'⟩ : ∃ z, Crc.sum bs / 65536 % 256 = z := ⟨_, rfl⟩
  obtain ⟨z3, hz3'⟩ : ∃ z, Crc.sum bs / 16777216 = z := ⟨_, rfl⟩
  have hsl := sum_lt bs
  obtain ⟨s, hss⟩ : ∃ s, Crc.sum bs = s := ⟨_, rfl⟩
  rw [hss] at hz0' hz1' hz2' hz3' hsl ⊢
  have HSS := hide hss
  have e0 : (s : Int) % 256 = (z0 : Int) := by omega
  have e1 : (s : Int) / 256 % 256 = (z1 : Int) := by omega
  have e2 : (s : Int) / 65536 % 256 = (z2 : Int) := by omega
  have e3 : (s : Int) / 16777216 = (z3 : Int) := by omega
  have l0 : z0 < 256 := by omega
  have l1 : z1 < 256 := by omega
  have l2 : z2 < 256 := by omega
  have l3 : z3 < 256 := by omega
  have HZS := hide (And.intro hz0' (And.intro hz1' (And.intro hz2' hz3')))
  have hul : (uv m).length ≤ 10 := uv_len10 (by omega)
  clear hz0' hz1' hz2' hz3' hss
  go_wp2_with (at_builtin; go_must (refine wpList_append_src _ rfl _ _ 22 rfl w.heap.size 5 i0 (.int .u8 0) 1 1 Tryd.underlying22 hi hz0 hz1 hz2 rfl (by decide) (.slice ao2 (uv m).length cap2) (uv m).length ((uv m).map u8v) rfl (O2.out.alloc _) (some ⟨w2.heap.size, 0, none⟩) 4 4 ([UInt8.ofNat z0, UInt8.ofNat z1, UInt8.ofNat z2, UInt8.ofNat z3].map u8v) rfl (src_block (blk_new w2 _) (by simp [u8v]; omega) rfl) (by unfold maxLen; omega) (by omega) (Nat.le_trans U2.out.size (by simp)) ?_))
  intro ao3 cap3 w3 hown3 hU3 hn3
  have hU3' : Upd [] w w3 := (U2.out.alloc _).trans_new hU3 (fun k hk => by
    simp only [Option.mem_toList] at hk
    exact .inr (owns_lt O2.out k hk).1)
  have O3 := hide hown3; have U3 := hide hU3'
  clear hown3 hU3 hn3 hU3'
  have S3 := hide (src_upd_nil HS.out U3.out)
  go_wp2_with (at_builtin; go_must (refine wpList_append_src _ rfl _ _ 22 rfl w.heap.size 5 i0 (.int .u8 0) 1 1 Tryd.underlying22 hi hz0 hz1 hz2 rfl (by decide) (.slice ao3 ((uv m).length + 4) cap3) ((uv m).length + 4) _ rfl O3.out xo m c (bs.map u8v) rfl S3.out (by unfold maxLen; omega) (by omega) (U3.out.size) ?_))
  intro ao4 cap4 w4 hown4 hU4 hn4
  have hU4' : Upd [] w w4 := U3.out.trans_new hU4 (fun k hk => by
    simp only [Option.mem_toList] at hk
    exact .inr (owns_lt O3.out k hk).1)
  have O4 := hide hown4; have U4 := hide hU4'
  clear hown4 hU4 hn4 hU4'
  go_wp2_with fail
  go_ret
  have e5 : (fr bs).length = (uv m).length + 4 + m := by rw [fr_len, HL.out]
  have e6 : fr bs = uv m ++ [UInt8.ofNat z0, UInt8.ofNat z1, UInt8.ofNat z2, UInt8.ofNat z3] ++ bs := by
    obtain ⟨k0, k1, k2, k3⟩ := HZS.out
    unfold fr
    rw [HL.out, HSS.out]
    simp only [le4, k0, k1, k2]
    rw [Nat.mod_eq_of_lt (by omega), k3]
  refine ⟨_, ao4, cap4, rfl, by rw [e5]; rfl, ?_, U4.out⟩
  rw [e5, e6]
  have := O4.out
  simpa using this

/-- What the document's Take answers, of bytes that lie at a slice. -/
def TakeSays (w : World) (xo : Option Addr) (c : Nat) (bs : List UInt8) (e : Ending) (w' : World) : Prop :=
  Upd [] w w' ∧ (((take bs).2.2 ≠ 0 ∧ e = .returned (.tuple #[.slice none 0 0, .int .i64 0, .int .i64 (take bs).2.2])) ∨
    ((take bs).2.2 = 0 ∧ ∃ l n : Nat, n = (take bs).1.length ∧ l + n = (take bs).2.1 ∧ e = .returned (.tuple #[.slice (cutAt xo l c) n (c - l), .int .i64 ((take bs).2.1 : Nat), .int .i64 0]) ∧ SrcAt w (cutAt xo l c) n (c - l) ((take bs).1.map u8v) 1 ∧ n ≤ c - l))
set_option maxRecDepth 100000 in
set_option maxHeartbeats 4000000 in
theorem take3_any {xo : Option Addr} {m c : Nat} {bs : List UInt8} (w : World) (hs : SrcAt w xo m c (bs.map u8v) 1) (hmc : m ≤ c) (hc : c ≤ maxLen) :
    Calls Tryd.prog 13 #[.slice xo m c] w fun e w' => TakeSays w xo c bs e w' := by
  have hlen : bs.length = m := by have := hs.len; simpa using this
  have HS := hide hs; have HL := hide hlen
  have H := hide (take_any w hs hmc hc)
  unfold maxLen at hc
  clear hs hlen
  obtain ⟨n, k, er, hrd⟩ : ∃ n k er, rd bs = (n, k, er) := ⟨_, _, _, rfl⟩
  rw [hrd] at H
  have RD := hide hrd
  clear hrd
  go_enter Tryd.func13, Tryd.ntmps13
  go_wp2_with fail
  refine H.out.mono ?_
  rintro e w1 ⟨rfl, hu1⟩
  have U1 := hide hu1
  clear hu1 H
  by_cases her : er = 0
  · subst her
    obtain ⟨hk0, hk10, hkl, huv, hn64⟩ := rd_ok RD.out rfl
    have HUV := hide huv
    rw [HL.out] at hkl
    clear huv
    by_cases hn0 : n = 0 ∨ 65536 < n
    · have HT : Hid (take bs = ([], 0, 11)) := by
        show take bs = ([], 0, 11)
        unfold take
        rw [RD.out, if_neg (by simp), if_pos hn0]
      have q0 : decide ((n : Int) < 1) = true ∨ decide ((n : Int) < 1) = false ∧ decide ((65536 : Int) < n) = true := by
        rcases hn0 with h | h
        · exact .inl (by simp; omega)
        · exact .inr ⟨by simp; omega, by simp; omega⟩
      clear hn0
      rcases q0 with q0 | ⟨q0, q1⟩
      all_goals
        go_wp2_with fail
        go_ret3
        exact ⟨U1.out, .inl ⟨by rw [HT.out]; simp, by rw [HT.out]; rfl⟩⟩
    · have q0 : decide ((n : Int) < 1) = false := by simp; omega
      have q1 : decide ((65536 : Int) < n) = false := by simp; omega
      have hnb : n ≤ 65536 := by omega
      have hnp : 0 < n := by omega
      by_cases hsh : m < k + 4 + n
      · have HT : Hid (take bs = ([], 0, 10)) := by
          show take bs = ([], 0, 10)
          unfold take
          rw [RD.out, if_neg (by simp), if_neg hn0, if_pos (by rw [HL.out]; exact hsh)]
        have q2 : decide ((m : Int) < k + 4 + n) = true := by simp; omega
        clear hn0
        go_wp2_with fail
        go_ret3
        exact ⟨U1.out, .inl ⟨by rw [HT.out]; simp, by rw [HT.out]; rfl⟩⟩
      · have q2 : decide ((m : Int) < k + 4 + n) = false := by simp; omega
        have HT0 : Hid (¬ (n = 0 ∨ 65536 < n)) := hide hn0
        clear hn0
        have r1 := run_cut_lh (P := Tryd.prog) 22 5 Tryd.underlying22 sizeB xo m c (k + 4) (k + 4 + n) ((k : Int) + 4) ((k : Int) + 4 + n) (by omega) (by omega) (by omega) (by omega)
        rw [show k + 4 + n - (k + 4) = n from by omega] at r1
        have r2 := run_cut_h (P := Tryd.prog) 22 5 Tryd.underlying22 sizeB xo m c (k + 4 + n) ((k : Int) + 4 + n) (by omega) (by omega)
        go_upto_region 10 with fail
        have hin := src_cut (l := k + 4) (h := k + 4 + n) (q := c) HS.out (by omega) (by omega) (by omega) (Nat.le_refl _)
        rw [show k + 4 + n - (k + 4) = n by omega] at hin
        have hhd := src_head (h := k + 4 + n) HS.out (by omega) hmc
        obtain ⟨ins, hins⟩ : ∃ ins, (bs.drop (k + 4)).take n = ins := ⟨_, rfl⟩
        rw [hins] at hin
        have HIN := hide hin; have HHD := hide hhd; have HINS := hide hins
        have hst := run_str (src_upd_nil hhd (U1.out.drewN 1))
        have hin2 := src_upd_nil hin (U1.out.drewN 1)
        clear hin hhd hins r1
        refine wp_region_z (fun w' => (convert 22 9 (.slice xo (k + 4 + n) c)).run Tryd.prog w' = .ok (.string (strOf (bs.take (k + 4 + n)))) w') 99 (by kernel_rfl) ?_
        refine wpAnyZ_takeE 0 rfl (by kernel_rfl) (by kernel_rfl) (by kernel_rfl) (by kernel_rfl) (fun _ _ _ _ h => h) rfl (by exact hst) ?_
        apply Exists.intro
        refine ⟨fun wx hS => ?_, ?_⟩
        · have s0 := hS; go_simp; rfl
        simp only [Act.put, List.setIfInBounds_toArray, List.set_cons_succ, List.set_cons_zero, List.getElem_toArray, List.getElem_cons_zero]
        refine wpAnyZ_takeE 3 rfl (by kernel_rfl) (by kernel_rfl) (by kernel_rfl) (by kernel_rfl) (fun _ _ _ _ h => h) rfl (by exact hst) ?_
        apply Exists.intro
        refine ⟨fun wx hS => ?_, ?_⟩
        · have s0 := hS; go_simp; rfl
        simp only [Act.put, List.setIfInBounds_toArray, List.set_cons_succ, List.set_cons_zero, List.getElem_toArray, List.getElem_cons_succ, List.getElem_cons_zero]
        refine wpAnyZ_takeE 4 rfl (by kernel_rfl) (by kernel_rfl) (by kernel_rfl) (by kernel_rfl) (fun _ _ _ _ h => h) rfl (by exact hst) ?_
        apply Exists.intro
        refine ⟨fun wx hS => ?_, ?_⟩
        · have s0 := hS; go_simp; rfl
        simp only [Act.put, List.setIfInBounds_toArray, List.set_cons_succ, List.set_cons_zero, List.getElem_toArray, List.getElem_cons_succ, List.getElem_cons_zero]
        refine wpAnyZ_takeE 5 rfl (by kernel_rfl) (by kernel_rfl) (by kernel_rfl) (by kernel_rfl) (fun _ _ _ _ h => h) rfl (by exact hst) ?_
        apply Exists.intro
        refine ⟨fun wx hS => ?_, ?_⟩
        · have s0 := hS; go_simp; rfl
        simp only [Act.put, List.setIfInBounds_toArray, List.set_cons_succ, List.set_cons_zero, List.getElem_toArray, List.getElem_cons_succ, List.getElem_cons_zero]
        refine wpAnyZ_takeE 6 rfl (by kernel_rfl) (by kernel_rfl) (by kernel_rfl) (by kernel_rfl) (fun _ _ _ _ h => h) rfl (by exact hst) ?_
        apply Exists.intro
        refine ⟨fun wx hS => ?_, ?_⟩
        · have s0 := hS; go_simp; rfl
        simp only [Act.put, List.setIfInBounds_toArray, List.set_cons_succ, List.set_cons_zero, List.getElem_toArray, List.getElem_cons_succ, List.getElem_cons_zero]
        refine wpAnyZ_one 1 (by kernel_rfl) rfl rfl (fun K hK => ?_)
        try simp only [List.getElem_toArray, List.getElem_cons_succ, List.getElem_cons_zero]
        go_simp
        refine (frame_any _ hin2 (by omega)).mono ?_
        rintro e w2 ⟨v2, ao2, cap2, rfl, rfl, ho2, hu2⟩
        have U2 := hide ((U1.out.drewN 1).trans hu2)
        have hst2 := run_str (src_upd_nil HHD.out U2.out)
        have hst3 := run_str (src_own ho2 (by simp [u8v, Value.oneCell']))
        clear ho2 hu2 hst hin2
        refine hK _ _ (.inr hst2) ?_
        clear hK K
        try simp only [Act.put, List.setIfInBounds_toArray, List.set_cons_succ, List.set_cons_zero]
        have hfl : (fr ins = bs.take (k + 4 + n)) ↔ le4 (Crc.sum ins) = (bs.drop k).take 4 := by
          have hbl := HL.out
          have hil : ins.length = n := by have := HIN.out.len; simpa using this
          have e1 : bs.take (k + 4 + n) = bs.take k ++ (bs.drop k).take 4 ++ ins := by
            rw [Nat.add_assoc, List.take_add, List.take_add, List.drop_drop, HINS.out, List.append_assoc]
          unfold fr
          rw [e1, hil, HUV.out]
          constructor
          · intro h
            exact List.append_cancel_left (List.append_cancel_right h)
          · intro h; rw [h]
        obtain ⟨bb, hbb, hq⟩ : ∃ bb, decide (fr ins = bs.take (k + 4 + n)) = bb ∧ ((strOf (fr ins)).toList == (strOf (bs.take (k + 4 + n))).toList) = bb := ⟨_, rfl, strOf_eq _ _⟩
        have HBB := hide hbb; have HFL := hide hfl
        clear hbb hfl
        have HT1 : Hid (¬ bs.length < k + 4 + n) := by show ¬ bs.length < k + 4 + n; rw [HL.out]; exact hsh
        refine wpAnyZ_strong (S' := fun w' => (convert 22 9 (.slice ao2 (fr ins).length cap2)).run Tryd.prog w' = .ok (.string (strOf (fr ins))) w' ∧ (convert 22 9 (.slice xo (k + 4 + n) c)).run Tryd.prog w' = .ok (.string (strOf (bs.take (k + 4 + n)))) w') (fun _ h => h.2) _ _ _ _ ?_
        refine wpAnyZ_takeE 2 rfl (by kernel_rfl) (by kernel_rfl) (by kernel_rfl) (by kernel_rfl) (fun _ _ _ _ h => h) rfl (by exact ⟨hst3, hst2⟩) ?_
        apply Exists.intro
        refine ⟨fun wx hS => ?_, ?_⟩
        · obtain ⟨s0, s1⟩ := hS; go_simp; rfl
        simp only [Act.put, List.setIfInBounds_toArray, List.set_cons_succ, List.set_cons_zero, List.getElem_toArray, List.getElem_cons_succ, List.getElem_cons_zero]
        refine wpAnyZ_one 7 (by kernel_rfl) rfl rfl (fun K hK => ?_)
        try simp only [List.getElem_toArray, List.getElem_cons_succ, List.getElem_cons_zero]
        go_simp
        refine hK _ _ (.inr ⟨hst3, hst2⟩) ?_
        clear hK K
        try simp only [Act.put, List.setIfInBounds_toArray, List.set_cons_succ, List.set_cons_zero]
        refine wpAnyZ_done (by kernel_rfl) ?_ _
        clear hst2 hst3 hq
        cases bb with
        | true =>
          have HT : Hid (take bs = (ins, k + 4 + n, 0)) := by
            show take bs = (ins, k + 4 + n, 0)
            unfold take
            simp only [RD.out, HINS.out]
            rw [if_neg (by simp), if_neg HT0.out, if_neg HT1.out, if_neg (by simpa using HFL.out.1 (of_decide_eq_true HBB.out))]
          go_wp2_with fail
          go_ret3
          refine ⟨U2.out, .inr ⟨by rw [HT.out], k + 4, n, ?_, by rw [HT.out], by rw [HT.out]; rfl, ?_, by omega⟩⟩
          · rw [HT.out]; have := HIN.out.len; simpa using this.symm
          · rw [HT.out]; exact HIN.out
        | false =>
          have HT : Hid (take bs = ([], 0, 12)) := by
            show take bs = ([], 0, 12)
            unfold take
            simp only [RD.out, HINS.out]
            rw [if_neg (by simp), if_neg HT0.out, if_neg HT1.out, if_pos (fun h => of_decide_eq_false HBB.out (HFL.out.2 h))]
          go_wp2_with fail
          go_ret3
          exact ⟨U2.out, .inl ⟨by rw [HT.out]; simp, by rw [HT.out]; rfl⟩⟩
  · have q1 : (er == 0) = false := by simpa using her
    have HER := hide her
    clear her
    go_wp2_with fail
    go_ret3
    have HT : take bs = ([], 0, er) := by
      unfold take
      rw [RD.out, if_pos HER.out]
    exact ⟨U1.out, .inl ⟨by rw [HT]; exact HER.out, by rw [HT]; rfl⟩⟩
end Go.Proofs.YtmgdhloehkdffaaDoor.Ref
