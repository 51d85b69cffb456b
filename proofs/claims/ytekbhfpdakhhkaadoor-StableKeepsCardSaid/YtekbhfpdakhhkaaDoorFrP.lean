/- frame.Put: a frame behind a row that the caller owns. -/
import Derived.Test.YtekbhfpdakhhkaaDoorFrW
namespace Go.Proofs.YtekbhfpdakhhkaaDoor.Fr
open Go.RowKit Go.Proofs.YtekbhfpdakhhkaaDoor.Var Go.Proofs.YtekbhfpdakhhkaaDoor.Crc

set_option maxHeartbeats 400000 in
theorem put_long {v : Value} {yo : Option Addr} {n d : Nat} (w : World) (h : n = 0 ∨ 65536 < n) :
    Calls Tryd.prog 77 #[v, .slice yo n d] w fun e w' => e = .returned (.tuple #[v, .int .i64 3]) ∧ w = w' := by
  have q0 : ((n : Int) == 0) = true ∨ ((n : Int) == 0) = false ∧ decide ((65536 : Int) < n) = true := by
    rcases h with h | h
    · exact .inl (by simp; omega)
    · exact .inr ⟨by simp; omega, by simp; omega⟩
  clear h
  rcases q0 with q0 | ⟨q0, q1⟩
  all_goals
    go_enter Tryd.func77, Tryd.ntmps77
    go_wp2_with fail
    go_ret2
    exact ⟨rfl, rfl⟩
theorem own_len (ao : Option Addr) (m n c : Nat) : (Value.slice ao m c).ownBlock = (Value.slice ao n c).ownBlock := by
  cases ao <;> rfl
set_option maxHeartbeats 4000000 in
theorem put_any {base n d : Nat} {v : Value} {yo : Option Addr} {bs ins : List UInt8} (w : World) (hst : TabAt w) (hv : w.ownsRow base 5 1 v bs.length (bs.map u8v)) (hb : base ≤ w.heap.size) (hl : bs.length ≤ 900000000000)
    (hs : SrcAt w yo n d (ins.map u8v) 1) (hn0 : 0 < n) (hn1 : n ≤ 65536) (hdis : ∀ a, yo = some a → v.ownBlock ≠ some a.block) :
    Calls Tryd.prog 77 #[v, .slice yo n d] w fun e w' => ∃ v', e = .returned (.tuple #[v', .int .i64 0]) ∧ Grew w base v (bs ++ fr ins) v' w' := by
  have q0 : ((n : Int) == 0) = false := by simp; omega
  have q1 : decide ((65536 : Int) < n) = false := by simp; omega
  have hlen : ins.length = n := by have := hs.len; simpa using this
  have hlv := owns_lt hv
  obtain ⟨ao, cap, rfl, -, -, -⟩ := owns_slice hv
  obtain ⟨i0, hi, hz0, hz1, hz2⟩ := info_parts infoB
  have hal : ∀ a, yo = some a → a.block < w.heap.size := fun a e => by
    obtain ⟨b, off, e2, h2⟩ := src_at (j := 0) hs hn0
    rw [e] at e2
    cases e2
    exact World.block_lt_of_cell? w ⟨b, off + 0, none⟩ h2
  have HAL := hide hal
  clear hal
  have HV := hide hv; have HLV := hide hlv; have HS := hide hs; have HST := hide hst; have HD := hide hdis; have HL := hide hlen
  clear hv hlv hs hst hdis hlen
  go_enter Tryd.func77, Tryd.ntmps77
  go_wp2_with fail
  refine (sum_any _ HST.out HS.out (by unfold maxLen; omega)).mono ?_
  rintro e w1 ⟨rfl, hu1⟩
  have hsv : ((le4 (Crc.sum ins)).map u8v).toArray = #[.int .u8 ((Crc.sum ins % 256 : Nat) : Int), .int .u8 ((Crc.sum ins / 256 % 256 : Nat) : Int), .int .u8 ((Crc.sum ins / 65536 % 256 : Nat) : Int), .int .u8 ((Crc.sum ins / 16777216 % 256 : Nat) : Int)] := by
    simp only [le4, List.map_cons, List.map_nil, u8v]
    rw [ofNat8 (Nat.mod_lt _ (by decide)), ofNat8 (Nat.mod_lt _ (by decide)), ofNat8 (Nat.mod_lt _ (by decide)), ofNat8 (Nat.mod_lt _ (by decide))]
  rw [hsv]
  obtain ⟨z0, hz0'⟩ : ∃ z, Crc.sum ins % 256 = z := ⟨_, rfl⟩
  obtain ⟨z1, hz1'⟩ : ∃ z, Crc.sum ins / 256 % 256 = z := ⟨_, rfl⟩
  obtain ⟨z2, hz2'⟩ : ∃ z, Crc.sum ins / 65536 % 256 = z := ⟨_, rfl⟩
  obtain ⟨z3, hz3'⟩ : ∃ z, Crc.sum ins / 16777216 % 256 = z := ⟨_, rfl⟩
  rw [hz0', hz1', hz2', hz3']
  have HZS := hide (And.intro hz0' (And.intro hz1' (And.intro hz2' hz3')))
  have U1 := hide hu1
  clear hu1 hsv hz0' hz1' hz2' hz3'
  go_upto_region 4 with fail
  have hA := blk_new w1 (.cells #[.int .u8 (z0 : Int), .int .u8 (z1 : Int), .int .u8 (z2 : Int), .int .u8 (z3 : Int)] 141)
  have hU2 : Upd [] w ((w1.alloc (.cells #[.int .u8 (z0 : Int), .int .u8 (z1 : Int), .int .u8 (z2 : Int), .int .u8 (z3 : Int)] 141)).drewN 1) := (U1.out.alloc _).drewN 1
  obtain ⟨A, hAe⟩ : ∃ A, w1.heap.size = A := ⟨_, rfl⟩
  rw [hAe] at hA ⊢
  have hAw : w.heap.size ≤ A := by rw [← hAe]; exact U1.out.size
  have hAl : A < (w1.alloc (.cells #[.int .u8 (z0 : Int), .int .u8 (z1 : Int), .int .u8 (z2 : Int), .int .u8 (z3 : Int)] 141)).heap.size := by simp; omega
  have HA := hide hA; have U2 := hide hU2
  have r1 : ∀ w', (Instr.sliceAt 141 (.pointer (some ⟨A, 0, none⟩)) none none none).run Tryd.prog w' = .ok (.slice (some ⟨A, 0, none⟩) 4 4) w' := fun w' => by kernel_rfl
  have hwn : IntKind.u64.wrap (n : Int) = (n : Int) := by rw [IntKind.wrap_u64]; omega
  clear hA hU2 hAe
  refine wp_region_z (fun _ => True) 99 (by kernel_rfl) ?_
  refine wpAnyZ_takeE 0 rfl (by kernel_rfl) (by kernel_rfl) (by kernel_rfl) (by kernel_rfl) (fun _ _ _ _ h => h) rfl (by exact trivial) ?_
  apply Exists.intro
  refine ⟨fun wx hS => ?_, ?_⟩
  · go_simp; rfl
  simp only [Act.put, List.setIfInBounds_toArray, List.set_cons_succ, List.set_cons_zero, List.getElem_toArray, List.getElem_cons_zero]
  refine wpAnyZ_takeE 1 rfl (by kernel_rfl) (by kernel_rfl) (by kernel_rfl) (by kernel_rfl) (fun _ _ _ _ h => h) rfl (by exact trivial) ?_
  apply Exists.intro
  refine ⟨fun wx hS => ?_, ?_⟩
  · go_simp; rfl
  simp only [Act.put, List.setIfInBounds_toArray, List.set_cons_succ, List.set_cons_zero, List.getElem_toArray, List.getElem_cons_succ, List.getElem_cons_zero]
  refine wpAnyZ_takeE 2 rfl (by kernel_rfl) (by kernel_rfl) (by kernel_rfl) (by kernel_rfl) (fun _ _ _ _ h => h) rfl (by exact trivial) ?_
  apply Exists.intro
  refine ⟨fun wx hS => ?_, ?_⟩
  · go_simp; rfl
  simp only [Act.put, List.setIfInBounds_toArray, List.set_cons_succ, List.set_cons_zero, List.getElem_toArray, List.getElem_cons_succ, List.getElem_cons_zero]
  refine wpAnyZ_takeE 3 rfl (by kernel_rfl) (by kernel_rfl) (by kernel_rfl) (by kernel_rfl) (fun _ _ _ _ h => h) rfl (by exact trivial) ?_
  apply Exists.intro
  refine ⟨fun wx hS => ?_, ?_⟩
  · go_simp; rfl
  simp only [Act.put, List.setIfInBounds_toArray, List.set_cons_succ, List.set_cons_zero, List.getElem_toArray, List.getElem_cons_succ, List.getElem_cons_zero]
  refine wpAnyZ_takeE 5 rfl (by kernel_rfl) (by kernel_rfl) (by kernel_rfl) (by kernel_rfl) (fun _ _ _ _ h => h) rfl (by exact trivial) ?_
  apply Exists.intro
  refine ⟨fun wx hS => ?_, ?_⟩
  · go_simp; rfl
  simp only [Act.put, List.setIfInBounds_toArray, List.set_cons_succ, List.set_cons_zero, List.getElem_toArray, List.getElem_cons_succ, List.getElem_cons_zero]
  refine wpAnyZ_takeE 7 rfl (by kernel_rfl) (by kernel_rfl) (by kernel_rfl) (by kernel_rfl) (fun _ _ _ _ h => h) rfl (by exact trivial) ?_
  apply Exists.intro
  refine ⟨fun wx hS => ?_, ?_⟩
  · go_simp; rfl
  simp only [Act.put, List.setIfInBounds_toArray, List.set_cons_succ, List.set_cons_zero, List.getElem_toArray, List.getElem_cons_succ, List.getElem_cons_zero]
  refine wpAnyZ_one 4 (by kernel_rfl) rfl rfl (fun K hK => ?_)
  try simp only [List.getElem_toArray, List.getElem_cons_succ, List.getElem_cons_zero]
  go_simp
  have hb2 : base ≤ ((w1.alloc (.cells #[.int .u8 (z0 : Int), .int .u8 (z1 : Int), .int .u8 (z2 : Int), .int .u8 (z3 : Int)] 141)).drewN 1).heap.size := Nat.le_trans hb U2.out.size
  refine (uint_any (base := base) (bs := bs) _ (owns_upd HV.out U2.out (by simp)) hb2 (by omega) (by omega)).mono ?_
  rintro e w3 ⟨v3, rfl, h3⟩
  have ho3 := h3.own
  have hu3 := h3.upd
  have hn3 := h3.new
  obtain ⟨ao3, cap3, rfl, -, -, -⟩ := owns_slice ho3
  have hA3 := hu3.get (b := A) HA.out (fun hm => by simp only [Option.mem_toList] at hm; have := (HLV.out _ hm).2; omega)
  have hs3 : SrcAt w3 yo n d (ins.map u8v) 1 := src_upd (src_upd_nil HS.out U2.out) hu3 (fun a e _ => by
    intro hm
    simp only [Option.mem_toList] at hm
    exact HD.out a e hm)
  have hsz3 := hu3.size
  have hul : (uv n).length ≤ 10 := uv_len10 (by omega)
  have hl3 : (bs ++ uv n).length = bs.length + (uv n).length := List.length_append
  rw [hl3] at ho3 ⊢
  have O3 := hide ho3; have U3 := hide hu3; have N3 := hide hn3; have A3 := hide hA3; have S3 := hide hs3; have L3 := hide hl3; have Z3 := hide hsz3
  obtain ⟨q3, hq3⟩ : ∃ q, bs.length + (uv n).length = q := ⟨_, rfl⟩
  rw [hq3]
  have hq3b : q3 ≤ 900000000010 := by omega
  have HQ3 := hide hq3
  have HOB := hide (own_len ao3 (bs ++ uv n).length q3 cap3)
  clear ho3 hu3 hn3 hA3 hs3 hl3 h3 hsz3 hq3 
  refine hK _ _ (.inr trivial) ?_
  clear hK K
  try simp only [Act.put, List.setIfInBounds_toArray, List.set_cons_succ, List.set_cons_zero]
  refine wpAnyZ_one 6 (by kernel_rfl) rfl rfl (fun K hK => ?_)
  try simp only [List.getElem_toArray, List.getElem_cons_succ, List.getElem_cons_zero]
  have hsrc4 : SrcAt w3 (some ⟨A, 0, none⟩) 4 4 ((le4 (Crc.sum ins)).map u8v) 1 := by
    refine src_block A3.out ?_ rfl
    obtain ⟨k0, k1, k2, k3⟩ := HZS.out
    simp only [le4, List.map_cons, List.map_nil, u8v]
    rw [ofNat8 (Nat.mod_lt _ (by decide)), ofNat8 (Nat.mod_lt _ (by decide)), ofNat8 (Nat.mod_lt _ (by decide)), ofNat8 (Nat.mod_lt _ (by decide)), k0, k1, k2, k3]
  refine wp_append_src _ _ _ 36 rfl base 5 i0 (.int .u8 0) 1 1 Tryd.underlying36 hi hz0 hz1 hz2 rfl (by decide) (.slice ao3 q3 cap3) q3 ((bs ++ uv ins.length).map u8v) rfl (by rw [← HQ3.out, HL.out]; exact O3.out) (some ⟨A, 0, none⟩) 4 4 ((le4 (Crc.sum ins)).map u8v) rfl hsrc4 (by unfold maxLen; omega) (by omega) (Nat.le_trans hb2 Z3.out) ?_
  intro ao4 cap4 w4 hown4 hU4 hn4
  have hnw : ∀ a, yo = some a → (Value.slice ao3 q3 cap3).ownBlock ≠ some a.block := fun a e h => by
    have h' : (Value.slice ao3 (bs ++ uv n).length cap3).ownBlock = some a.block := by rw [HOB.out]; exact h
    rcases N3.out _ h' with h5 | h5
    · exact HD.out a e h5
    · have := HAL.out a e
      have := U2.out.size
      omega
  have hs4 : SrcAt w4 yo n d (ins.map u8v) 1 := src_upd S3.out hU4 (fun a e _ => by
    intro hm
    simp only [Option.mem_toList] at hm
    exact hnw a e hm)
  have O4 := hide hown4; have U4 := hide hU4; have N4 := hide hn4; have S4 := hide hs4; have HNW := hide hnw
  have hz4 := hU4.size
  clear hown4 hU4 hn4 hs4 hsrc4 hnw
  refine hK _ _ (.inr trivial) ?_
  clear hK K
  try simp only [Act.put, List.setIfInBounds_toArray, List.set_cons_succ, List.set_cons_zero]
  refine wpAnyZ_one 8 (by kernel_rfl) rfl rfl (fun K hK => ?_)
  try simp only [List.getElem_toArray, List.getElem_cons_succ, List.getElem_cons_zero]
  refine wp_append_src _ _ _ 36 rfl base 5 i0 (.int .u8 0) 1 1 Tryd.underlying36 hi hz0 hz1 hz2 rfl (by decide) (.slice ao4 (q3 + 4) cap4) (q3 + 4) ((bs ++ uv ins.length).map u8v ++ (le4 (Crc.sum ins)).map u8v) rfl O4.out yo n d (ins.map u8v) rfl S4.out (by unfold maxLen; omega) (by omega) (Nat.le_trans hb2 (Nat.le_trans Z3.out hz4)) ?_
  intro ao5 cap5 w5 hown5 hU5 hn5
  have O5 := hide hown5; have U5 := hide hU5; have N5 := hide hn5
  clear hown5 hU5 hn5
  refine hK _ _ (.inr trivial) ?_
  clear hK K
  try simp only [Act.put, List.setIfInBounds_toArray, List.set_cons_succ, List.set_cons_zero]
  refine wpAnyZ_one 9 (by kernel_rfl) rfl rfl (fun K hK => ?_)
  try simp only [List.getElem_toArray, List.getElem_cons_succ, List.getElem_cons_zero]
  go_simp
  refine hK _ _ (.inr trivial) ?_
  clear hK K
  try simp only [Act.put, List.setIfInBounds_toArray, List.set_cons_succ, List.set_cons_zero]
  refine wpAnyZ_one 10 (by kernel_rfl) rfl rfl (fun K hK => ?_)
  try simp only [List.getElem_toArray, List.getElem_cons_succ, List.getElem_cons_zero]
  go_simp
  refine hK _ _ (.inr trivial) ?_
  clear hK K
  try simp only [Act.put, List.setIfInBounds_toArray, List.set_cons_succ, List.set_cons_zero]
  refine wpAnyZ_done (by kernel_rfl) ?_ _
  go_wp2_with fail
  go_ret2
  have n3 : ∀ k, (Value.slice ao3 q3 cap3).ownBlock = some k → (Value.slice ao bs.length cap).ownBlock = some k ∨ w.heap.size ≤ k := fun k hk => by
    have h' : (Value.slice ao3 (bs ++ uv n).length cap3).ownBlock = some k := by rw [HOB.out]; exact hk
    rcases N3.out k h' with h5 | h5
    · exact .inl h5
    · exact .inr (Nat.le_trans U2.out.size h5)
  have n4 : ∀ k, (Value.slice ao4 (q3 + 4) cap4).ownBlock = some k → (Value.slice ao bs.length cap).ownBlock = some k ∨ w.heap.size ≤ k := fun k hk => by
    rcases N4.out k hk with h5 | h5
    · exact n3 k h5
    · exact .inr (Nat.le_trans U2.out.size (Nat.le_trans Z3.out h5))
  refine ⟨_, rfl, ?_, ?_, ?_⟩
  · have e1 : (bs ++ fr ins).length = q3 + 4 + n := by
      rw [List.length_append, fr_len, HL.out, ← HQ3.out]; omega
    have e2 : (bs ++ fr ins).map u8v = (bs ++ uv ins.length).map u8v ++ (le4 (Crc.sum ins)).map u8v ++ ins.map u8v := by
      simp [fr]
    rw [e1, e2]
    exact O5.out
  · exact (((U2.out.mono (by simp)).trans U3.out).trans_new U4.out (fun k hk => by
      simp only [Option.mem_toList] at hk ⊢
      exact n3 k hk)).trans_new U5.out (fun k hk => by
      simp only [Option.mem_toList] at hk ⊢
      exact n4 k hk)
  · intro g hg
    rcases N5.out g hg with h5 | h5
    · exact n4 g h5
    · exact .inr (by have := U2.out.size; have := Z3.out; omega)
end Go.Proofs.YtekbhfpdakhhkaaDoor.Fr
