/- VarR, VarT, VarX, VarY, VarW, VarU, VarUf in one text. -/
import Derived.Test.YthpnnffogbjhpaaGreatDoorGenAll
import Derived.ArgAppend
import Derived.IntWalk
set_option linter.unusedSimpArgs false
set_option linter.unusedVariables false
set_option linter.unnecessarySimpa false
namespace Go.Proofs.YthpnnffogbjhpaaGreatDoor.Var
open Go.RowKit Go.Proofs.YthpnnffogbjhpaaGreatDoor.Crc

set_option maxHeartbeats 400000 in
theorem groups_any (n : Nat) (w : World) :
    Calls Tryz.prog 68 #[.int .u64 (n : Int)] w fun e w' => e = .returned (.func (.func 98) #[] #[.pointer (some ⟨w.heap.size, 0, none⟩)]) ∧
      w'.heap[w.heap.size]? = some (.cells #[.int .u64 (n : Int)] 35 (0, 0)) ∧ Upd [] w w' := by
  go_enter Tryz.func68, Tryz.ntmps68
  go_wp2_with fail
  go_ret
  exact ⟨rfl, blk_new _ _, (Upd.refl _ _).alloc _⟩

theorem and127 {n : Nat} (h : n < 18446744073709551616) : Go.bits .and .u64 (n : Int) 127 = ((n % 128 : Nat) : Int) := by
  rw [show (127 : Int) = ((127 : Nat) : Int) from rfl, u64_and_nat _ _ h (by decide), nat_mask7]

set_option maxHeartbeats 1000000 in
/-- groups' function, as an iterator. -/
theorem groups_iter {p n : Nat} (hn : n < 18446744073709551616) :
    Iter Tryz.prog 98 #[] #[.pointer (some ⟨p, 0, none⟩)] (fun x : Nat × Bool => #[.int .u8 (x.1 : Int), .bool x.2]) (groups n) [p] [p] (fun W => W.heap[p]? = some (.cells #[.int .u64 (n : Int)] 35 (0, 0))) := by
  intro nn l J Jx W hR hY hJ hJx hJ0
  refine callsIn_wide.2 ?_
  go_enter Tryz.func98, Tryz.ntmps98
  have HR := hide hR
  have HY := hide hY
  have HJ := hide hJ
  have HJx := hide hJx
  have HJ0 := hide hJ0
  clear hR hY hJ hJx hJ0
  go_wp2_with fail
  go_loopw [3] (fun _ wr => ∃ (k : Nat) (pre : List (Nat × Bool)), k < 18446744073709551616 ∧ groups n = pre ++ groups k ∧ wr.heap[p]? = some (.cells #[.int .u64 (k : Int)] 35 (0, 0)) ∧ J pre wr) (fun _ wr => match wr.cell? ⟨p, 0, none⟩ with | some v => (intOf v).toNat | none => 0)
  case atStart => exact ⟨n, [], hn, rfl, HR.out, HJ0.out⟩
  case round =>
    obtain ⟨k, pre, hk, hpre, hp, hj⟩ := hrel
    have hc := blk_cell (i := 0) hp rfl
    have hf := blk_free (i := 0) hp
    simp only [List.getElem_toArray, List.getElem_cons_zero] at hc
    have HP := hide hp; have HPRE := hide hpre; have HJ2 := hide hj
    clear hp hpre hj HR HJ0
    by_cases hg : 128 ≤ k
    · have hd : decide (128 ≤ (k : Int)) = true := by simp; omega
      have e1 := and127 hk
      have hl := Nat.mod_lt k (show 0 < 128 by decide)
      have HG := hide (groups_more hg)
      obtain ⟨z, hz⟩ : ∃ z, k % 128 = z := ⟨_, rfl⟩
      rw [hz] at e1 hl
      have HZ := hide hz
      clear hz
      go_upto_block 1 with fail
      obtain ⟨fn, tmps, assign, body, hy, hR⟩ := HY.out pre (z, false) wr HJ2.out (by rw [HPRE.out, HG.out, HZ.out]; simp)
      replace hy : (Instr.yield l #[.int .u8 (z : Int), .bool false]).run Tryz.prog wr = .ok (.round l fn tmps assign body) wr := hy
      have HRR := hide hR
      clear hR
      refine (wpIn_wide (n := nn + 1)).1 ?_
      gi_wp2
      refine HRR.out.mono ?_
      rintro e W' (⟨rfl, hj3, hk3⟩ | ⟨rfl, hjx3⟩)
      · have hp3 := hk3.get HP.out (by simp)
        have hc3 := blk_cell (i := 0) hp3 rfl
        have hf3 := blk_free (i := 0) hp3
        simp only [List.getElem_toArray, List.getElem_cons_zero] at hc3
        have HP3 := hide hp3; have HJ3 := hide hj3
        obtain ⟨q, hq⟩ : ∃ q, k / 128 = q := ⟨_, rfl⟩
        have e2 : (k : Int) / 128 = (q : Int) := by omega
        have hqk : q < k := by omega
        have HQ := hide hq
        have HC := hide hc
        clear hp3 hy HY hc hf hj3 hk3 hq
        gi_wp2
        go_wp2_with fail
        have hp4 := blk_set (i := 0) HP3.out (.int .u64 (q : Int))
        have hc4 := blk_cell (i := 0) hp4 rfl
        simp only [List.getElem_toArray, List.setIfInBounds_toArray, List.set_cons_zero, List.getElem_cons_zero] at hc4
        refine ⟨⟨q, pre ++ [(z, false)], by omega, by rw [HPRE.out, HG.out, HZ.out, HQ.out]; simp, hp4, HJ.out _ _ _ HJ3.out ((Upd.refl _ _).setCell (.inl (by simp)) _)⟩, ?_⟩
        rw [hc4, HC.out]
        simp [intOf]
        omega
      · clear hy HY
        gi_wp2
        go_wp2_with fail
        refine bodyPost_ret (results_none rfl _ _ _) rfl ?_
        exact ⟨⟨_, rfl⟩, .inr ⟨_, by rw [HPRE.out, HG.out, HZ.out]; simp, hjx3⟩⟩
    · have hd : decide (128 ≤ (k : Int)) = false := by simp; omega
      have hl : k < 128 := by omega
      have HG := hide (groups_last hl)
      clear hg
      go_upto_region 3 with fail
      obtain ⟨fn, tmps, assign, body, hy, hR⟩ := HY.out pre (k, true) wr HJ2.out (by rw [HPRE.out, HG.out]; exact List.prefix_refl _)
      replace hy : (Instr.yield l #[.int .u8 (k : Int), .bool true]).run Tryz.prog wr = .ok (.round l fn tmps assign body) wr := hy
      have HRR := hide hR
      clear hR
      refine (wpIn_wide (n := nn + 1)).1 ?_
      gi_wp2
      refine HRR.out.mono ?_
      rintro e W' (⟨rfl, hj3, hk3⟩ | ⟨rfl, hjx3⟩)
      · have HE := hide (show J (groups n) W' by rw [HPRE.out, HG.out]; exact hj3)
        clear hy HY hj3
        gi_wp2
        go_wp2_with fail
        go_end0
        exact ⟨⟨_, rfl⟩, .inl HE.out⟩
      · have HE := hide (show Jx (groups n) W' by rw [HPRE.out, HG.out]; exact hjx3)
        clear hy HY hjx3
        gi_wp2
        go_wp2_with fail
        go_end0
        exact ⟨⟨_, rfl⟩, .inr ⟨_, List.prefix_refl _, HE.out⟩⟩
end Go.Proofs.YthpnnffogbjhpaaGreatDoor.Var
namespace Go.Proofs.YthpnnffogbjhpaaGreatDoor.Var
open Go.RowKit Go.Proofs.YthpnnffogbjhpaaGreatDoor.Crc
attribute [local go_sem] Oper.semAt_some
theorem infoB : (Tryz.prog.info? 5).map (fun i => (i.zero, i.size, i.bytes)) = some (some (.int .u8 0), 1, 1) := by kernel_rfl

/-- What an append has made: v' reads as bs, and lies where v lay, or in a new block. -/
structure Grew (w : World) (base : Nat) (v : Value) (bs : List UInt8) (v' : Value) (w' : World) : Prop where
  own : w'.ownsRow base 5 1 v' bs.length (bs.map u8v)
  upd : Upd v.ownBlock.toList w w'
  new : ∀ g, v'.ownBlock = some g → v.ownBlock = some g ∨ w.heap.size ≤ g
theorem or128 {n : Nat} (h : n < 128) : Go.bits .or .u8 (n : Int) 128 = ((128 + n : Nat) : Int) := by
  rw [show (128 : Int) = ((128 : Nat) : Int) from rfl, u8_or_nat _ _ (by omega) (by decide), Nat.or_comm, nat_join 7 128 n (by decide) (by omega)]

/-- A round of Uint's range is done: one byte more. -/
theorem round_done {w w1 W2 W3 : World} {base cap cap1 cap3 y : Nat} {ao ao1 ao3 : Option Addr} {bs : List UInt8} {pre : List (Nat × Bool)} {x : Nat × Bool} (hsz2 : w1.heap.size + 2 ≤ W2.heap.size) (hN : w.heap.size + 1 < w1.heap.size)
    (HLV : ∀ k, (Value.slice ao bs.length cap).ownBlock = some k → base ≤ k ∧ k < w.heap.size) (H1 : Upd (Value.slice ao bs.length cap).ownBlock.toList w W2) (H2 : W2.heap[w.heap.size]? = some (.cells #[.slice ao1 (bs.length + pre.length) cap1] 22 (0, 0)))
    (_ : W2.ownsRow base 5 1 (.slice ao1 (bs.length + pre.length) cap1) (bs.length + pre.length) ((bs ++ pre.map gbyte).map u8v))
    (H4 : ∀ g, (Value.slice ao1 (bs.length + pre.length) cap1).ownBlock = some g → (Value.slice ao bs.length cap).ownBlock = some g ∨ w1.heap.size + 2 ≤ g)
    {o : Obj} (U3 : Upd (Value.slice ao1 (bs.length + pre.length) cap1).ownBlock.toList (W2.alloc o) W3) (B3 : W3.heap[w.heap.size]? = some (.cells #[.slice ao1 (bs.length + pre.length) cap1] 22 (0, 0)))
    (O3 : W3.ownsRow base 5 1 (.slice ao3 (bs.length + pre.length + 1) cap3) (bs.length + pre.length + 1) ((bs ++ pre.map gbyte).map u8v ++ [.int .u8 (y : Int)]))
    (N3 : ∀ g, (Value.slice ao3 (bs.length + pre.length + 1) cap3).ownBlock = some g → (Value.slice ao1 (bs.length + pre.length) cap1).ownBlock = some g ∨ W2.heap.size + 1 ≤ g)
    (hy : (gbyte x).toNat = y) :
    Keeps [w1.heap.size, w1.heap.size + 1, w.heap.size + 1] W2 (W3.setCell ⟨w.heap.size, 0, none⟩ (.slice ao3 (bs.length + pre.length + 1) cap3)) ∧
      Upd (Value.slice ao bs.length cap).ownBlock.toList w (W3.setCell ⟨w.heap.size, 0, none⟩ (.slice ao3 (bs.length + pre.length + 1) cap3)) ∧ ∃ ao1 cap1, (W3.setCell ⟨w.heap.size, 0, none⟩ (.slice ao3 (bs.length + pre.length + 1) cap3)).heap[w.heap.size]? = some (.cells #[.slice ao1 (bs.length + (pre ++ [x]).length) cap1] 22 (0, 0)) ∧
      (W3.setCell ⟨w.heap.size, 0, none⟩ (.slice ao3 (bs.length + pre.length + 1) cap3)).ownsRow base 5 1 (.slice ao1 (bs.length + (pre ++ [x]).length) cap1) (bs.length + (pre ++ [x]).length) ((bs ++ (pre ++ [x]).map gbyte).map u8v) ∧
      (∀ g, (Value.slice ao1 (bs.length + (pre ++ [x]).length) cap1).ownBlock = some g → (Value.slice ao bs.length cap).ownBlock = some g ∨ w1.heap.size + 2 ≤ g) := by
  have hU : Upd (w.heap.size :: (Value.slice ao1 (bs.length + pre.length) cap1).ownBlock.toList) W2 (W3.setCell ⟨w.heap.size, 0, none⟩ (.slice ao3 (bs.length + pre.length + 1) cap3)) :=
    ((((Upd.refl _ W2).alloc o).trans (U3.mono (fun k hk => by simp at hk ⊢; exact .inr hk)))).setCell (.inl (by simp)) _
  have hn : ∀ g, (Value.slice ao3 (bs.length + pre.length + 1) cap3).ownBlock = some g → (Value.slice ao bs.length cap).ownBlock = some g ∨ w1.heap.size + 2 ≤ g := fun g hg => by
    rcases N3 g hg with h | h
    · exact H4 g h
    · exact .inr (by omega)
  have hlt2 := blk_lt H2
  refine ⟨Keeps.of_upd hU (fun k hk => ⟨fun hm => ?_, ?_⟩), H1.trans_new hU (fun k hk => ?_), ao3, cap3, ?_, ?_, fun g hg => hn g (by simpa [Nat.add_assoc] using hg)⟩
  · simp only [List.mem_cons, Option.mem_toList, List.not_mem_nil, or_false] at hk hm
    rcases hm with h5 | h5
    · omega
    · rcases H4 k h5 with h6 | h6
      · have := (HLV k h6).2; omega
      · omega
  · simp only [List.mem_cons, List.not_mem_nil, or_false] at hk
    omega
  · simp only [List.mem_cons, Option.mem_toList] at hk ⊢
    rcases hk with h5 | h5
    · exact .inr (by omega)
    · rcases H4 k h5 with h6 | h6
      · exact .inl h6
      · exact .inr (by omega)
  · have := blk_set (i := 0) B3 (.slice ao3 (bs.length + pre.length + 1) cap3)
    simpa [Nat.add_assoc] using this
  · have h7 := ownsRow_setCell_other O3 (a := ⟨w.heap.size, 0, none⟩) (by
      intro h5
      have h5' : (Value.slice ao3 (bs.length + pre.length + 1) cap3).ownBlock = some w.heap.size := h5
      rcases hn _ h5' with h6 | h6
      · have := (HLV _ h6).2; omega
      · omega) (.slice ao3 (bs.length + pre.length + 1) cap3)
    have e1 : (bs ++ (pre ++ [x]).map gbyte).map u8v = (bs ++ pre.map gbyte).map u8v ++ [.int .u8 (y : Int)] := by
      simp [u8v, hy]
    rw [e1]
    simpa [Nat.add_assoc] using h7

set_option maxHeartbeats 4000000 in
theorem uint_any {base n : Nat} {v : Value} {bs : List UInt8} (w : World) (hv : w.ownsRow base 5 1 v bs.length (bs.map u8v)) (hb : base ≤ w.heap.size) (hl : bs.length ≤ 1000000000000) (hn : n < 18446744073709551616) :
    Calls Tryz.prog 39 #[v, .int .u64 (n : Int)] w fun e w' => ∃ v', e = .returned v' ∧ Grew w base v (bs ++ uv n) v' w' := by
  have hlv := owns_lt hv
  obtain ⟨ao, cap, rfl, -, -, -⟩ := owns_slice hv
  obtain ⟨i0, hi, hz0, hz1, hz2⟩ := info_parts infoB
  have HV := hide hv; have HLV := hide hlv
  clear hv hlv
  refine calls_of_wp_marks Tryz.func39 rfl ?_
  simp only [Tryz.ntmps39, List.size_toArray, List.length_cons, List.length_nil, Nat.reduceAdd, Nat.reduceSub, Array.replicate_succ, Array.replicate_zero, List.push_toArray, List.append_toArray, List.nil_append, List.cons_append]
  go_wp2_with fail
  refine (groups_any n _).mono ?_
  rintro e w1 ⟨rfl, hp1, hu1⟩
  have hz : (w.alloc (.cells #[.slice ao bs.length cap] 22)).heap.size = w.heap.size + 1 := by simp
  rw [hz] at hp1 ⊢
  have hbx := hu1.get (blk_new w (.cells #[.slice ao bs.length cap] 22)) (by simp)
  have hs1 := (blk_lt hp1)
  have HU1 := hide (((Upd.refl [] w).alloc (.cells #[.slice ao bs.length cap] 22)).trans hu1); have HP1 := hide hp1; have HBX := hide hbx; have HS1 := hide hs1
  clear hu1 hp1 hbx hz
  go_wp2_with fail
  have hN := HS1.out
  have hgl : (groups n).length ≤ 10 := by have := congrArg List.length (groups_uv n); rw [List.length_map] at this; rw [this]; exact uv_len10 hn
  refine wp_range (gf := 98) rfl (enters_of Tryz.func98 (by kernel_rfl) rfl) (groups_iter (p := w.heap.size + 1) hn) (fun _ => rfl) (by simp; omega) (by simp; omega)
    (fun W hu => hu.get HP1.out (by simp))
    (fun pre W => Upd (Value.slice ao bs.length cap).ownBlock.toList w W ∧ ∃ ao1 cap1, W.heap[w.heap.size]? = some (.cells #[.slice ao1 (bs.length + pre.length) cap1] 22 (0, 0)) ∧
      W.ownsRow base 5 1 (.slice ao1 (bs.length + pre.length) cap1) (bs.length + pre.length) ((bs ++ pre.map gbyte).map u8v) ∧
      (∀ g, (Value.slice ao1 (bs.length + pre.length) cap1).ownBlock = some g → (Value.slice ao bs.length cap).ownBlock = some g ∨ w1.heap.size + 2 ≤ g)) (fun _ _ _ => False) ?hI (fun _ _ _ _ h _ => h) ?h0 ?hround ?hdone (fun _ _ _ _ h _ => h.elim)
  case hI =>
    rintro pre W1 W2 ⟨h1, ao1, cap1, h2, h3, h4⟩ hu
    refine ⟨h1.trans_new hu (by simp; omega), ao1, cap1, hu.get h2 (by simp; omega), owns_upd h3 hu (fun k hk hm => ?_), h4⟩
    simp at hm
    rcases h4 k hk with h5 | h5
    · have := (HLV.out k h5).2; omega
    · omega
  case h0 =>
    intro W hu hsz
    have hu2 := HU1.out.trans hu
    exact ⟨hu2.mono (by simp), ao, cap, hu.get HBX.out (by simp), by simpa using owns_upd HV.out hu2 (by simp), fun g hg => .inl hg⟩
  case hround =>
    rintro pre ⟨g, last⟩ W hpre hi hsz
    have hpl : pre.length + 1 ≤ (groups n).length := by have := hpre.length_le; simpa using this
    have hg : g < 128 := groups_lt n (g, last) (hpre.subset (by simp))
    have HPRE := hide hpre
    clear hpre
    gi_wp2
    refine ⟨Keeps.refl _ _, fun W2 hu hi2 => ?_⟩
    obtain ⟨h1, ao1, cap1, h2, h3, h4⟩ := hi2 hi
    have hsz2 : w1.heap.size + 2 ≤ W2.heap.size := Nat.le_trans hsz hu.size
    have hwz : w.heap.size ≤ W2.heap.size := h1.size
    obtain ⟨cur, hcur⟩ : ∃ cur, (bs ++ pre.map gbyte).map u8v = cur := ⟨_, rfl⟩
    rw [hcur] at h3
    have HCUR := hide hcur
    clear hcur
    have hc := blk_cell (i := 0) h2 rfl
    have hf := blk_free (i := 0) h2
    simp only [List.getElem_toArray, List.getElem_cons_zero] at hc
    have H1 := hide h1; have H2 := hide h2; have H3 := hide h3; have H4 := hide h4
    clear h1 h2 h3 h4 hi hi2 hu
    have e1 := or128 hg
    cases last with
    | false =>
      gi_wp2_with (gi_at_builtin; go_must (refine wpListIn_append_src _ rfl _ _ 22 rfl base 5 i0 (.int .u8 0) 1 1 Tryz.underlying22 hi hz0 hz1 hz2 rfl (by decide) (.slice ao1 (bs.length + pre.length) cap1) (bs.length + pre.length) cur rfl (H3.out.alloc _) (some ⟨W2.heap.size, 0, none⟩) 1 1 [.int .u8 ((128 + g : Nat) : Int)] rfl (src_one (cell_new1 rfl) rfl) (by unfold maxLen; omega) (by omega) (by simp; omega) ?_))
      intro ao3 cap3 W3 hown3 hU3 hn3
      have hN3 := hU3.get (b := w.heap.size) (blk_alloc H2.out _) (by
        simp only [Option.mem_toList]
        intro h5
        rcases H4.out _ h5 with h6 | h6
        · have := (HLV.out _ h6).2; omega
        · omega)
      have hc3 := blk_cell (i := 0) hN3 rfl
      have hf3 := blk_free (i := 0) hN3
      simp only [List.getElem_toArray, List.getElem_cons_zero] at hc3
      have U3 := hide hU3; have O3 := hide hown3; have B3 := hide hN3; have N3 := hide hn3
      have hb4 : gbyte (g, false) = UInt8.ofNat (128 + g) := rfl
      have HB4 := hide hb4
      clear hN3 hown3 hU3 hn3 hb4
      gi_wp2
      exact round_done hsz2 hN HLV.out H1.out H2.out (by rw [HCUR.out]; exact H3.out) H4.out U3.out B3.out (by rw [HCUR.out]; exact O3.out) N3.out (by rw [HB4.out, ofNat8 (by omega)])
    | true =>
      gi_wp2_with (gi_at_builtin; go_must (refine wpListIn_append_src _ rfl _ _ 22 rfl base 5 i0 (.int .u8 0) 1 1 Tryz.underlying22 hi hz0 hz1 hz2 rfl (by decide) (.slice ao1 (bs.length + pre.length) cap1) (bs.length + pre.length) cur rfl (H3.out.alloc _) (some ⟨W2.heap.size, 0, none⟩) 1 1 [.int .u8 (g : Int)] rfl (src_one (cell_new1 rfl) rfl) (by unfold maxLen; omega) (by omega) (by simp; omega) ?_))
      intro ao3 cap3 W3 hown3 hU3 hn3
      have hN3 := hU3.get (b := w.heap.size) (blk_alloc H2.out _) (by
        simp only [Option.mem_toList]
        intro h5
        rcases H4.out _ h5 with h6 | h6
        · have := (HLV.out _ h6).2; omega
        · omega)
      have hc3 := blk_cell (i := 0) hN3 rfl
      have hf3 := blk_free (i := 0) hN3
      simp only [List.getElem_toArray, List.getElem_cons_zero] at hc3
      have U3 := hide hU3; have O3 := hide hown3; have B3 := hide hN3; have N3 := hide hn3
      have hb4 : gbyte (g, true) = UInt8.ofNat g := rfl
      have HB4 := hide hb4
      clear hN3 hown3 hU3 hn3 hb4
      gi_wp2
      exact round_done hsz2 hN HLV.out H1.out H2.out (by rw [HCUR.out]; exact H3.out) H4.out U3.out B3.out (by rw [HCUR.out]; exact O3.out) N3.out (by rw [HB4.out, ofNat8 (by omega)])
  case hdone =>
    rintro W ⟨h1, ao1, cap1, h2, h3, h4⟩ hd
    have hc := blk_cell (i := 0) h2 rfl
    simp only [List.getElem_toArray, List.getElem_cons_zero] at hc
    go_wp2
    refine leaves_one hd (results_tmp rfl _ _ _) ⟨_, rfl, ?_, h1.putObj (l := w1.heap.size) (.inr (by omega)) _, fun g hg => ?_⟩
    · have := owns_upd h3 ((Upd.refl [w1.heap.size] W).putObj (l := w1.heap.size) (.inl (by simp)) (.deferred none)) (fun k hk hm => by
        simp at hm
        rcases h4 k hk with h5 | h5
        · have := (HLV.out k h5).2; omega
        · omega)
      have e2 : (bs ++ uv n).length = bs.length + (groups n).length := by rw [List.length_append, ← groups_uv, List.length_map]
      rw [e2, ← groups_uv]
      exact this
    · rcases h4 g hg with h5 | h5
      · exact .inl h5
      · exact .inr (by omega)
end Go.Proofs.YthpnnffogbjhpaaGreatDoor.Var
namespace Go.Proofs.YthpnnffogbjhpaaGreatDoor.Var
open Go.RowKit Go.Proofs.YthpnnffogbjhpaaGreatDoor.Crc
set_option linter.unusedSimpArgs false
set_option linter.unusedVariables false
set_option linter.unnecessarySimpa false
attribute [local go_sem] Oper.semAt_some

theorem wpListIn_append_full {P : Program} {w : World} {F : Fence} {nf : Nat} {ops : Array Oper} {rest : List Oper} {o : Oper} {a : Act} {Q : Exit → Act → World → Prop} (hgd : o.guard = none) (s x : Operand) (t : TypeId)
    (ho : o.op = .call { callee := .builtin .append, args := #[s, x], argTypes := #[t, t] })
    (e : TypeId) (i : TypeInfo) (z : Value) (size bytes : Nat) (ht : P.underlying t = some (.slice e)) (hi : P.info? e = some i) (hz : i.zero = some z)
    (hsize : i.size = size) (hby : i.bytes = bytes) (hzs : z.cells.size = size) (hsz : 0 < size)
    (b : Addr) (n : Nat) (olds : List Value) (hs : a.eval s = .slice (some b) n n) (hlo : olds.length = n * size) (holds : ∀ j u, olds[j]? = some u → w.cell? (b.add j) = some u)
    (xa : Addr) (m c : Nat) (news : List Value) (hx : a.eval x = .slice (some xa) m c) (hl : news.length = m * size) (hnews : ∀ j u, news[j]? = some u → w.cell? (xa.add j) = some u) (hm : 0 < m)
    (h63 : n + m ≤ maxLen) (hbytes : (n + m) * bytes ≤ 140737488355328)
    (h : ∀ ao' cap' w', w'.ownsRow w.heap.size e size (.slice ao' (n + m) cap') (n + m) (olds ++ news) → Upd [] w w' →
      wpListIn F nf P ops Q rest (a.put o.dst (.slice ao' (n + m) cap')) w') : wpListIn F nf P ops Q (o :: rest) a w := by
  refine wpListIn_plain hgd fun K hK' => ?_
  obtain ⟨v', w', hr, h2, h3⟩ := run_append_arg_grows (P := P) w t o.type e i z size bytes ht hi hz hsize hby hzs hsz b n n olds hlo holds xa m c news hl hnews (by omega) h63 hbytes
  obtain ⟨ao, cap, rfl, -, -, -⟩ := owns_slice h2
  unfold Oper.wpIn
  refine ⟨?_, ?_⟩
  · simp [Oper.about, ho, resolve, Target.leads, Sem.run_pure]
  · rw [Oper.semAt_plain F _ _ (by rw [ho]; intro c hc'; cases hc')]
    unfold execOp
    simp only [ho, resolve, invoke, builtin, Sem.run_bind, Sem.run_pure, Result.andThen_ok, List.map_toArray, List.map_cons, List.map_nil, hs, hx, hr]
    exact hK' _ _ (h ao cap w' h2 (Upd.of_grownBy h3 (fun k e => by cases e)))
theorem owns_le {w : World} {base base' size n : Nat} {e : TypeId} {v : Value} {xs : List Value} (h : w.ownsRow base e size v n xs) (hb : base' ≤ base) : w.ownsRow base' e size v n xs := by
  refine ⟨h.1, ?_⟩
  rcases h.2 with h1 | ⟨g, cap, cur, hv, hg, r⟩
  · exact .inl h1
  · exact .inr ⟨g, cap, cur, hv, by omega, r⟩
theorem round_doneF {w w1 W2 W3 : World} {cap3 y : Nat} {ao3 : Option Addr} {bs : List UInt8} {pre : List (Nat × Bool)} {x : Nat × Bool} {u : Value} {S : List Nat} (hsz2 : w1.heap.size + 2 ≤ W2.heap.size) (hN : w.heap.size + 1 < w1.heap.size)
    (H1 : Upd [] w W2) (hS : ∀ k ∈ S, w1.heap.size + 2 ≤ k) {o : Obj} (U3 : Upd S (W2.alloc o) W3) (B3 : W3.heap[w.heap.size]? = some (.cells #[u] 22 (0, 0)))
    (O3 : W3.ownsRow w.heap.size 5 1 (.slice ao3 (bs.length + pre.length + 1) cap3) (bs.length + pre.length + 1) ((bs ++ pre.map gbyte).map u8v ++ [.int .u8 (y : Int)]))
    (N3 : ∀ g, (Value.slice ao3 (bs.length + pre.length + 1) cap3).ownBlock = some g → w1.heap.size + 2 ≤ g)
    (hy : (gbyte x).toNat = y) :
    Keeps [w1.heap.size, w1.heap.size + 1, w.heap.size + 1] W2 (W3.setCell ⟨w.heap.size, 0, none⟩ (.slice ao3 (bs.length + pre.length + 1) cap3)) ∧
      Upd [] w (W3.setCell ⟨w.heap.size, 0, none⟩ (.slice ao3 (bs.length + pre.length + 1) cap3)) ∧ ∃ ao1 cap1, (W3.setCell ⟨w.heap.size, 0, none⟩ (.slice ao3 (bs.length + pre.length + 1) cap3)).heap[w.heap.size]? = some (.cells #[.slice ao1 (bs.length + (pre ++ [x]).length) cap1] 22 (0, 0)) ∧
      ((W3.setCell ⟨w.heap.size, 0, none⟩ (.slice ao3 (bs.length + pre.length + 1) cap3)).ownsRow w.heap.size 5 1 (.slice ao1 (bs.length + (pre ++ [x]).length) cap1) (bs.length + (pre ++ [x]).length) ((bs ++ (pre ++ [x]).map gbyte).map u8v) ∧
      (∀ g, (Value.slice ao1 (bs.length + (pre ++ [x]).length) cap1).ownBlock = some g → w1.heap.size + 2 ≤ g)) := by
  have hz1 := H1.size
  have hU : Upd (w.heap.size :: S) W2 (W3.setCell ⟨w.heap.size, 0, none⟩ (.slice ao3 (bs.length + pre.length + 1) cap3)) :=
    ((((Upd.refl _ W2).alloc o).trans (U3.mono (fun k hk => by simp at hk ⊢; exact .inr hk)))).setCell (.inl (by simp)) _
  refine ⟨Keeps.of_upd hU (fun k hk => ⟨fun hm => ?_, ?_⟩), H1.trans_new hU (fun k hk => ?_), ao3, cap3, ?_, ?_, fun g hg => N3 g (by simpa [Nat.add_assoc] using hg)⟩
  · simp only [List.mem_cons, List.not_mem_nil, or_false] at hk hm
    rcases hm with h5 | h5
    · omega
    · have := hS k h5; omega
  · simp only [List.mem_cons, List.not_mem_nil, or_false] at hk
    omega
  · simp only [List.mem_cons] at hk
    rcases hk with h5 | h5
    · exact .inr (by omega)
    · exact .inr (by have := hS k h5; omega)
  · have := blk_set (i := 0) B3 (.slice ao3 (bs.length + pre.length + 1) cap3)
    simpa [Nat.add_assoc] using this
  · have h7 := ownsRow_setCell_other O3 (a := ⟨w.heap.size, 0, none⟩) (by
      intro h5
      have := N3 w.heap.size h5
      omega) (.slice ao3 (bs.length + pre.length + 1) cap3)
    have e1 : (bs ++ (pre ++ [x]).map gbyte).map u8v = (bs ++ pre.map gbyte).map u8v ++ [.int .u8 (y : Int)] := by
      simp [u8v, hy]
    rw [e1]
    simpa [Nat.add_assoc] using h7
set_option maxHeartbeats 4000000 in
theorem uint_full {n : Nat} {b0 : Addr} {bs : List UInt8} (w : World) (hs : SrcAt w (some b0) bs.length bs.length (bs.map u8v) 1) (hl : bs.length ≤ 1000000000) (hn : n < 18446744073709551616) :
    Calls Tryz.prog 39 #[.slice (some b0) bs.length bs.length, .int .u64 (n : Int)] w fun e w' => ∃ v', e = .returned v' ∧ w'.ownsRow w.heap.size 5 1 v' (bs ++ uv n).length ((bs ++ uv n).map u8v) ∧ Upd [] w w' := by
  obtain ⟨i0, hi, hz0, hz1, hz2⟩ := info_parts infoB
  have SRC := hide hs
  clear hs
  refine calls_of_wp_marks Tryz.func39 rfl ?_
  simp only [Tryz.ntmps39, List.size_toArray, List.length_cons, List.length_nil, Nat.reduceAdd, Nat.reduceSub, Array.replicate_succ, Array.replicate_zero, List.push_toArray, List.append_toArray, List.nil_append, List.cons_append]
  go_wp2_with fail
  refine (groups_any n _).mono ?_
  rintro e w1 ⟨rfl, hp1, hu1⟩
  have hz : (w.alloc (.cells #[.slice (some b0) bs.length bs.length] 22)).heap.size = w.heap.size + 1 := by simp
  rw [hz] at hp1 ⊢
  have hbx := hu1.get (blk_new w (.cells #[.slice (some b0) bs.length bs.length] 22)) (by simp)
  have hs1 := (blk_lt hp1)
  have HU1 := hide (((Upd.refl [] w).alloc (.cells #[.slice (some b0) bs.length bs.length] 22)).trans hu1); have HP1 := hide hp1; have HBX := hide hbx; have HS1 := hide hs1
  clear hu1 hp1 hbx hz
  go_wp2_with fail
  have hN := HS1.out
  have hgl : (groups n).length ≤ 10 := by have := congrArg List.length (groups_uv n); rw [List.length_map] at this; rw [this]; exact uv_len10 hn
  have hgp : groups n ≠ [] := fun e => by have := congrArg List.length (groups_uv n); rw [e] at this; have := uv_len_pos n; simp at *; omega
  refine wp_range (gf := 98) rfl (enters_of Tryz.func98 (by kernel_rfl) rfl) (groups_iter (p := w.heap.size + 1) hn) (fun _ => rfl) (by simp; omega) (by simp; omega)
    (fun W hu => hu.get HP1.out (by simp))
    (fun pre W => Upd [] w W ∧ ∃ ao1 cap1, W.heap[w.heap.size]? = some (.cells #[.slice ao1 (bs.length + pre.length) cap1] 22 (0, 0)) ∧
      ((pre = [] ∧ ao1 = some b0 ∧ cap1 = bs.length) ∨ (W.ownsRow w.heap.size 5 1 (.slice ao1 (bs.length + pre.length) cap1) (bs.length + pre.length) ((bs ++ pre.map gbyte).map u8v) ∧
      (∀ g, (Value.slice ao1 (bs.length + pre.length) cap1).ownBlock = some g → w1.heap.size + 2 ≤ g)))) (fun _ _ _ => False) ?hI (fun _ _ _ _ h _ => h) ?h0 ?hround ?hdone (fun _ _ _ _ h _ => h.elim)
  case hI =>
    rintro pre W1 W2 ⟨h1, ao1, cap1, h2, h3⟩ hu
    refine ⟨h1.trans_new hu (by simp; omega), ao1, cap1, hu.get h2 (by simp; omega), ?_⟩
    rcases h3 with h3 | ⟨h3, h4⟩
    · exact .inl h3
    · refine .inr ⟨owns_upd h3 hu (fun k hk hm => ?_), h4⟩
      simp at hm
      have := h4 k hk
      omega
  case h0 =>
    intro W hu hsz
    have hu2 := HU1.out.trans hu
    exact ⟨hu2, some b0, bs.length, hu.get HBX.out (by simp), .inl ⟨rfl, rfl, rfl⟩⟩
  case hround =>
    rintro pre ⟨g, last⟩ W hpre hi hsz
    have hpl : pre.length + 1 ≤ (groups n).length := by have := hpre.length_le; simpa using this
    have hg : g < 128 := groups_lt n (g, last) (hpre.subset (by simp))
    have HPRE := hide hpre
    clear hpre
    gi_wp2
    refine ⟨Keeps.refl _ _, fun W2 hu hi2 => ?_⟩
    obtain ⟨h1, ao1, cap1, h2, h3⟩ := hi2 hi
    have hsz2 : w1.heap.size + 2 ≤ W2.heap.size := Nat.le_trans hsz hu.size
    have hwz : w.heap.size ≤ W2.heap.size := h1.size
    obtain ⟨cur, hcur⟩ : ∃ cur, (bs ++ pre.map gbyte).map u8v = cur := ⟨_, rfl⟩
    rw [hcur] at h3
    have HCUR := hide hcur
    have hc := blk_cell (i := 0) h2 rfl
    have hf := blk_free (i := 0) h2
    simp only [List.getElem_toArray, List.getElem_cons_zero] at hc
    have H1 := hide h1; have H2 := hide h2
    have e1 := or128 hg
    clear h1 h2 hi hi2 hu hcur
    rcases h3 with ⟨rfl, rfl, rfl⟩ | ⟨h3, h4⟩
    · have hc0 : cur = bs.map u8v := by rw [← HCUR.out]; simp
      have SR := hide (src_upd SRC.out (H1.out.alloc (.cells #[.int .u8 0] 5)) (by simp))
      have hlo : cur.length = bs.length * 1 := by rw [hc0]; simp
      have HLO := hide hlo
      have HH := hide (show ∀ o : Obj, ∀ j u, cur[j]? = some u → (W2.alloc o).cell? (b0.add j) = some u from fun o j u hj => (src_upd SRC.out (H1.out.alloc o) (by simp)).cells b0 rfl j u (hc0 ▸ hj))
      clear hlo hc0 SR
      simp only [List.length_nil, Nat.add_zero] at hc H2 ⊢
      cases last with
      | false =>
        gi_wp2_with (gi_at_builtin; go_must (refine wpListIn_append_full rfl _ _ 22 rfl 5 i0 (.int .u8 0) 1 1 Tryz.underlying22 hi hz0 hz1 hz2 rfl (by decide) b0 bs.length cur rfl HLO.out (HH.out _) ⟨W2.heap.size, 0, none⟩ 1 1 [.int .u8 (((128 + g : Nat) : Int))] rfl rfl (src_one (cp := 1) (cell_new1 rfl) rfl |>.cells _ rfl) (by decide) (by unfold maxLen; omega) (by omega) ?_))
        intro ao3 cap3 W3 hown3 hU3
        have hN3 := hU3.get (b := w.heap.size) (blk_alloc H2.out _) (by simp)
        have hlt3 := owns_lt hown3
        have hc3 := blk_cell (i := 0) hN3 rfl
        have hf3 := blk_free (i := 0) hN3
        simp only [List.getElem_toArray, List.getElem_cons_zero] at hc3
        have U3 := hide hU3; have B3 := hide hN3; have N3 := hide hlt3
        have O3 := hide (owns_le (base' := w.heap.size) hown3 (by omega))
        have hb4 : gbyte (g, false) = UInt8.ofNat (128 + g) := rfl
        have HB4 := hide hb4
        clear hN3 hown3 hU3 hb4 hlt3
        gi_wp2
        have hd := round_doneF (bs := bs) (pre := []) (x := (g, false)) (y := 128 + g) (ao3 := ao3) (cap3 := cap3) hsz2 hN H1.out (S := []) (by simp) U3.out B3.out (by rw [HCUR.out]; exact O3.out) (fun q hq => by have := (N3.out q hq).1; omega) (by rw [HB4.out, ofNat8 (by omega)])
        obtain ⟨d1, d2, ao9, cap9, d3, d4⟩ := hd
        exact ⟨d1, d2, ao9, cap9, d3, .inr d4⟩
      | true =>
        gi_wp2_with (gi_at_builtin; go_must (refine wpListIn_append_full rfl _ _ 22 rfl 5 i0 (.int .u8 0) 1 1 Tryz.underlying22 hi hz0 hz1 hz2 rfl (by decide) b0 bs.length cur rfl HLO.out (HH.out _) ⟨W2.heap.size, 0, none⟩ 1 1 [.int .u8 ((g : Int))] rfl rfl (src_one (cp := 1) (cell_new1 rfl) rfl |>.cells _ rfl) (by decide) (by unfold maxLen; omega) (by omega) ?_))
        intro ao3 cap3 W3 hown3 hU3
        have hN3 := hU3.get (b := w.heap.size) (blk_alloc H2.out _) (by simp)
        have hlt3 := owns_lt hown3
        have hc3 := blk_cell (i := 0) hN3 rfl
        have hf3 := blk_free (i := 0) hN3
        simp only [List.getElem_toArray, List.getElem_cons_zero] at hc3
        have U3 := hide hU3; have B3 := hide hN3; have N3 := hide hlt3
        have O3 := hide (owns_le (base' := w.heap.size) hown3 (by omega))
        have hb4 : gbyte (g, true) = UInt8.ofNat (g) := rfl
        have HB4 := hide hb4
        clear hN3 hown3 hU3 hb4 hlt3
        gi_wp2
        have hd := round_doneF (bs := bs) (pre := []) (x := (g, true)) (y := g) (ao3 := ao3) (cap3 := cap3) hsz2 hN H1.out (S := []) (by simp) U3.out B3.out (by rw [HCUR.out]; exact O3.out) (fun q hq => by have := (N3.out q hq).1; omega) (by rw [HB4.out, ofNat8 (by omega)])
        obtain ⟨d1, d2, ao9, cap9, d3, d4⟩ := hd
        exact ⟨d1, d2, ao9, cap9, d3, .inr d4⟩
    · have H3 := hide h3; have H4 := hide h4
      clear h3 h4
      cases last with
      | false =>
        gi_wp2_with (gi_at_builtin; go_must (refine wpListIn_append_src _ rfl _ _ 22 rfl w.heap.size 5 i0 (.int .u8 0) 1 1 Tryz.underlying22 hi hz0 hz1 hz2 rfl (by decide) (.slice ao1 (bs.length + pre.length) cap1) (bs.length + pre.length) cur rfl (H3.out.alloc _) (some ⟨W2.heap.size, 0, none⟩) 1 1 [.int .u8 (((128 + g : Nat) : Int))] rfl (src_one (cell_new1 rfl) rfl) (by unfold maxLen; omega) (by omega) (by simp; omega) ?_))
        intro ao3 cap3 W3 hown3 hU3 hn3
        have hN3 := hU3.get (b := w.heap.size) (blk_alloc H2.out _) (by
          simp only [Option.mem_toList]
          intro h5
          have := H4.out _ h5; omega)
        have hc3 := blk_cell (i := 0) hN3 rfl
        have hf3 := blk_free (i := 0) hN3
        simp only [List.getElem_toArray, List.getElem_cons_zero] at hc3
        have U3 := hide hU3; have O3 := hide hown3; have B3 := hide hN3; have N3 := hide hn3
        have hb4 : gbyte (g, false) = UInt8.ofNat (128 + g) := rfl
        have HB4 := hide hb4
        clear hN3 hown3 hU3 hn3 hb4
        gi_wp2
        have hd := round_doneF (bs := bs) (pre := pre) (x := (g, false)) (y := 128 + g) (ao3 := ao3) (cap3 := cap3) hsz2 hN H1.out (S := (Value.slice ao1 (bs.length + pre.length) cap1).ownBlock.toList) (fun k hk => H4.out k (by simpa using hk)) U3.out B3.out (by rw [HCUR.out]; exact O3.out) (fun q hq => by
          rcases N3.out q hq with h | h
          · exact H4.out q h
          · omega) (by rw [HB4.out, ofNat8 (by omega)])
        obtain ⟨d1, d2, ao9, cap9, d3, d4⟩ := hd
        exact ⟨d1, d2, ao9, cap9, d3, .inr d4⟩
      | true =>
        gi_wp2_with (gi_at_builtin; go_must (refine wpListIn_append_src _ rfl _ _ 22 rfl w.heap.size 5 i0 (.int .u8 0) 1 1 Tryz.underlying22 hi hz0 hz1 hz2 rfl (by decide) (.slice ao1 (bs.length + pre.length) cap1) (bs.length + pre.length) cur rfl (H3.out.alloc _) (some ⟨W2.heap.size, 0, none⟩) 1 1 [.int .u8 ((g : Int))] rfl (src_one (cell_new1 rfl) rfl) (by unfold maxLen; omega) (by omega) (by simp; omega) ?_))
        intro ao3 cap3 W3 hown3 hU3 hn3
        have hN3 := hU3.get (b := w.heap.size) (blk_alloc H2.out _) (by
          simp only [Option.mem_toList]
          intro h5
          have := H4.out _ h5; omega)
        have hc3 := blk_cell (i := 0) hN3 rfl
        have hf3 := blk_free (i := 0) hN3
        simp only [List.getElem_toArray, List.getElem_cons_zero] at hc3
        have U3 := hide hU3; have O3 := hide hown3; have B3 := hide hN3; have N3 := hide hn3
        have hb4 : gbyte (g, true) = UInt8.ofNat (g) := rfl
        have HB4 := hide hb4
        clear hN3 hown3 hU3 hn3 hb4
        gi_wp2
        have hd := round_doneF (bs := bs) (pre := pre) (x := (g, true)) (y := g) (ao3 := ao3) (cap3 := cap3) hsz2 hN H1.out (S := (Value.slice ao1 (bs.length + pre.length) cap1).ownBlock.toList) (fun k hk => H4.out k (by simpa using hk)) U3.out B3.out (by rw [HCUR.out]; exact O3.out) (fun q hq => by
          rcases N3.out q hq with h | h
          · exact H4.out q h
          · omega) (by rw [HB4.out, ofNat8 (by omega)])
        obtain ⟨d1, d2, ao9, cap9, d3, d4⟩ := hd
        exact ⟨d1, d2, ao9, cap9, d3, .inr d4⟩
  case hdone =>
    rintro W ⟨h1, ao1, cap1, h2, h3⟩ hd
    have hc := blk_cell (i := 0) h2 rfl
    simp only [List.getElem_toArray, List.getElem_cons_zero] at hc
    rcases h3 with ⟨h3, -, -⟩ | ⟨h3, h4⟩
    · exact absurd h3 hgp
    go_wp2
    refine leaves_one hd (results_tmp rfl _ _ _) ⟨_, rfl, ?_, h1.putObj (l := w1.heap.size) (.inr (by omega)) _⟩
    have := owns_upd h3 ((Upd.refl [w1.heap.size] W).putObj (l := w1.heap.size) (.inl (by simp)) (.deferred none)) (fun k hk hm => by
      simp at hm
      have := h4 k hk; omega)
    have e2 : (bs ++ uv n).length = bs.length + (groups n).length := by rw [List.length_append, ← groups_uv, List.length_map]
    rw [e2, ← groups_uv]
    exact this
end Go.Proofs.YthpnnffogbjhpaaGreatDoor.Var
namespace Go.Proofs.YthpnnffogbjhpaaGreatDoor.Var
open Go.RowKit Go.Proofs.YthpnnffogbjhpaaGreatDoor.Crc
abbrev TR : TypeId := 127

/-- A reader in memory: its error, and what is left to read. -/
structure RdAt (w : World) (R : Nat) (e : Int) (xo : Option Addr) (m c : Nat) (lim : Int) : Prop where
  hR : w.heap[R]? = some (.cells #[.int .i64 e, .slice xo m c, .int .i64 lim] TR (0, 0))
namespace RdAt
variable {w w' : World} {R m c : Nat} {e lim : Int} {xo : Option Addr}
theorem c0 (h : RdAt w R e xo m c lim) : w.cell? ⟨R, 0, none⟩ = some (.int .i64 e) := blk_cell h.hR rfl
theorem c1 (h : RdAt w R e xo m c lim) : w.cell? ⟨R, 1, none⟩ = some (.slice xo m c) := blk_cell h.hR rfl
theorem c2 (h : RdAt w R e xo m c lim) : w.cell? ⟨R, 2, none⟩ = some (.int .i64 lim) := blk_cell h.hR rfl
theorem fr (h : RdAt w R e xo m c lim) (i : Nat) : w.frozen? ⟨R, i, none⟩ = false := blk_free h.hR
theorem upd {S : List Nat} (h : RdAt w R e xo m c lim) (hu : Upd S w w') (h1 : R ∉ S) : RdAt w' R e xo m c lim := ⟨hu.get h.hR h1⟩
theorem setE (h : RdAt w R e xo m c lim) (x : Int) : RdAt (w.setCell ⟨R, 0, none⟩ (.int .i64 x)) R x xo m c lim := ⟨blk_set h.hR _⟩
theorem setB (h : RdAt w R e xo m c lim) (yo : Option Addr) (n d : Nat) : RdAt (w.setCell ⟨R, 1, none⟩ (.slice yo n d)) R e yo n d lim := ⟨blk_set h.hR _⟩
end RdAt

set_option maxHeartbeats 400000 in
theorem new_any {xo : Option Addr} {m c : Nat} {lim : Int} (w : World) :
    Calls Tryz.prog 32 #[.slice xo m c, .int .i64 lim] w fun e w' => ∃ v, e = .returned v ∧ v = .pointer (some ⟨w.heap.size, 0, none⟩) ∧ RdAt w' w.heap.size 0 xo m c lim ∧ Upd [] w w' := by
  go_enter Tryz.func32, Tryz.ntmps32
  go_wp2_with fail
  go_ret
  exact ⟨_, rfl, rfl, ⟨blk_new _ _⟩, (Upd.refl _ _).alloc _⟩
set_option maxHeartbeats 400000 in
theorem err_any {R m c : Nat} {e lim : Int} {xo : Option Addr} (w : World) (h : RdAt w R e xo m c lim) :
    Calls Tryz.prog 61 #[.pointer (some ⟨R, 0, none⟩)] w fun en w' => en = .returned (.int .i64 e) ∧ w = w' := by
  have hc := h.c0
  clear h
  go_enter Tryz.func61, Tryz.ntmps61
  go_wp2_with fail
  go_ret
  exact ⟨rfl, rfl⟩
set_option maxHeartbeats 400000 in
theorem fail_any {R m c : Nat} {lim x : Int} {xo : Option Addr} (w : World) (h : RdAt w R 0 xo m c lim) :
    Calls Tryz.prog 62 #[.pointer (some ⟨R, 0, none⟩), .int .i64 x] w fun en w' => en = .returned (.tuple #[]) ∧ RdAt w' R x xo m c lim ∧ Upd [R] w w' := by
  have hc := h.c0
  have hf := h.fr 0
  have H := hide h
  clear h
  go_enter Tryz.func62, Tryz.ntmps62
  go_wp2_with fail
  go_end0
  exact ⟨rfl, H.out.setE x, (Upd.refl _ _).setCell (.inl (by simp)) _⟩
set_option maxHeartbeats 400000 in
theorem byte_short {R c : Nat} {lim : Int} {xo : Option Addr} (w : World) (h : RdAt w R 0 xo 0 c lim) :
    Calls Tryz.prog 60 #[.pointer (some ⟨R, 0, none⟩)] w fun en w' => en = .returned (.int .u8 0) ∧ RdAt w' R 10 xo 0 c lim ∧ Upd [R] w w' := by
  have hc0 := h.c0
  have hc1 := h.c1
  have H := hide h
  clear h
  go_enter Tryz.func60, Tryz.ntmps60
  go_wp2_with fail
  refine (fail_any _ H.out).mono ?_
  rintro e w1 ⟨rfl, h1, hu1⟩
  have H1 := hide h1; have U1 := hide hu1
  clear h1 hu1
  go_wp2_with fail
  go_ret
  exact ⟨rfl, H1.out, U1.out⟩
set_option maxHeartbeats 400000 in
theorem byte_any {R m c : Nat} {lim : Int} {xo : Option Addr} {bs : List UInt8} (w : World) (h : RdAt w R 0 xo m c lim) (hs : SrcAt w xo m c (bs.map u8v) 1) (hm : 0 < m) :
    Calls Tryz.prog 60 #[.pointer (some ⟨R, 0, none⟩)] w fun en w' => en = .returned (.int .u8 ((bs.getD 0 0).toNat : Nat)) ∧ RdAt w' R 0 (cutAt xo 1 c) (m - 1) (c - 1) lim ∧ Upd [R] w w' := by
  have hc0 := h.c0
  have hc1 := h.c1
  have hf1 := h.fr 1
  have H := hide h
  obtain ⟨b, off, hxo, hcell⟩ := src_at hs hm
  have hsl := run_cut_l (P := Tryz.prog) 22 5 Tryz.underlying22 sizeB xo m c 1 1 rfl hm
  have hd : decide ((m : Int) = 0) = false := by simp; omega
  have hd2 : ((m : Int) == 0) = false := by simp; omega
  simp only [Nat.add_zero] at hcell
  subst hxo
  clear h hs
  go_enter Tryz.func60, Tryz.ntmps60
  go_wp2_with fail
  go_ret
  exact ⟨rfl, H.out.setB _ _ _, (Upd.refl _ _).setCell (.inl (by simp)) _⟩

/-- A cut lies in the block of what is cut. -/
theorem cut_block {Q : Nat → Prop} {yo : Option Addr} {l d : Nat} (h : ∀ a, yo = some a → Q a.block) : ∀ a, cutAt yo l d = some a → Q a.block := by
  intro a ha
  unfold cutAt at ha
  split at ha
  · exact h a ha
  · cases yo with
    | none => cases ha
    | some a0 =>
      cases ha
      have := h a0 rfl
      unfold Addr.add
      split <;> simpa using this
/-- How a number is read: what is answered, and how the reader stands. -/
structure Read (w : World) (R : Nat) (T : Nat → Prop) (bs : List UInt8) (lim : Int) (en : Ending) (w' : World) : Prop where
  ans : en = .returned (.int .u64 ((rd bs).1 : Nat))
  upd : Upd [R] w w'
  rdr : ∃ xo m c, RdAt w' R (rd bs).2.2 xo m c lim ∧ ((rd bs).2.2 = 0 → SrcAt w' xo m c ((bs.drop (rd bs).2.1).map u8v) 1 ∧ m ≤ c ∧ ∀ a, xo = some a → m ≠ 0 → T a.block)
set_option maxRecDepth 100000 in
set_option maxHeartbeats 4000000 in
theorem uint_read {R m c : Nat} {T : Nat → Prop} {lim : Int} {xo : Option Addr} {bs : List UInt8} (w : World) (h : RdAt w R 0 xo m c lim) (hs : SrcAt w xo m c (bs.map u8v) 1) (hmc : m ≤ c) (hR : ∀ a, xo = some a → m ≠ 0 → a.block ≠ R ∧ T a.block) :
    Calls Tryz.prog 33 #[.pointer (some ⟨R, 0, none⟩)] w fun en w' => Read w R T bs lim en w' := by
  have H := hide h; have HS := hide hs; have HRR := hide hR
  have hlen : bs.length = m := by have := hs.len; simpa using this
  have HL := hide hlen
  clear h hs hlen hR
  go_enter Tryz.func33, Tryz.ntmps33
  go_wp2_with fail
  go_loopw [3, 4] (fun sn si wr => ∃ (k n : Nat) (yo : Option Addr) (d : Nat), k ≤ m ∧ k ≤ 9 ∧ si = .int .i64 k ∧ sn = .int .u64 n ∧ n = val (bs.take k) ∧ (∀ i, i < k → 128 ≤ (bs.getD i 0).toNat) ∧ Upd [R] w wr ∧ RdAt wr R 0 yo (m - k) d lim ∧ SrcAt wr yo (m - k) d ((bs.drop k).map u8v) 1 ∧ m - k ≤ d ∧ (∀ a, yo = some a → m - k ≠ 0 → a.block ≠ R ∧ T a.block)) (fun _ si _ => 10 - (intOf si).toNat)
  case atStart => exact ⟨0, 0, xo, c, by omega, by omega, rfl, rfl, by simp [val], by omega, Upd.refl _ _, H.out, HS.out, by omega, HRR.out⟩
  case round =>
    obtain ⟨k, n, yo, d, hk, hk9, rfl, rfl, hn, hhi, hu, hr, hs, hd, hyR⟩ := hrel
    have hnl : n < 128 ^ k := by
      rw [hn]
      have := val_lt (bs.take k)
      rwa [List.length_take, Nat.min_eq_left (by rw [HL.out]; exact hk)] at this
    have HN := hide hn; have HHI := hide hhi; have HU := hide hu; have HR := hide hr; have HS2 := hide hs; have HY := hide hyR
    clear hn hhi hu hr hs hyR H HS HRR
    have hd0 : decide ((k : Int) < 10) = true := by simp; omega
    by_cases hkm : k = m
    · have HR' : Hid (RdAt wr R 0 yo 0 d lim) := by
        have := HR.out
        rw [show m - k = 0 by omega] at this
        exact this
      have hle : lead bs = k := lead_eq HHI.out (by rw [HL.out]; exact hk) (fun h => by rw [HL.out] at h; omega)
      have hrd : rd bs = (0, 0, 10) := by
        unfold rd
        rw [if_neg (by have := HL.out; rw [hle]; omega), if_pos (by rw [hle, HL.out]; exact hkm)]
      have RD := hide hrd
      clear hle hrd hkm
      go_wp2_with fail
      refine (byte_short _ HR'.out).mono ?_
      rintro e w1 ⟨rfl, h1, hu1⟩
      have H1 := hide h1; have U1 := hide (HU.out.trans hu1)
      clear h1 hu1
      go_wp2_with fail
      refine (err_any _ H1.out).mono ?_
      rintro e w2 ⟨rfl, rfl⟩
      go_wp2_with fail
      go_ret
      exact ⟨by rw [RD.out]; rfl, U1.out, _, _, _, by rw [RD.out]; exact H1.out, by rw [RD.out]; intro h; simp at h⟩
    · have hlt : k < m := by omega
      obtain ⟨x, hx⟩ : ∃ x, (bs.getD k 0).toNat = x := ⟨_, rfl⟩
      have hx2 : ((bs.drop k).getD 0 0).toNat = x := by simpa [List.getD_eq_getElem?_getD, List.getElem?_drop] using hx
      have hxl : x < 256 := by rw [← hx]; exact UInt8.toNat_lt _
      have HX := hide hx; have HX2 := hide hx2
      clear hx hx2
      go_wp2_with fail
      refine (byte_any _ HR.out HS2.out (by omega)).mono ?_
      rw [HX2.out]
      rintro e w1 ⟨rfl, h1, hu1⟩
      have hs1 := src_upd HS2.out hu1 (fun a e h0 => by simpa using (HY.out a e h0).1)
      have hs2 := src_cut (l := 1) (h := m - k) (q := d) hs1 (by omega) (Nat.le_refl _) hd (Nat.le_refl _)
      have H1 := hide h1; have U1 := hide (HU.out.trans hu1); have S1 := hide hs2
      clear h1 hu1 hs1 hs2 HR HS2 HU
      go_wp2_with fail
      refine (err_any _ H1.out).mono ?_
      rintro e w2 ⟨rfl, rfl⟩
      have e1 : Go.bits .and .u8 (x : Int) 127 = ((x % 128 : Nat) : Int) := by
        rw [show (127 : Int) = ((127 : Nat) : Int) from rfl, u8_and_nat _ _ hxl (by decide), nat_mask7]
      obtain ⟨y, hy⟩ : ∃ y, x % 128 = y := ⟨_, rfl⟩
      rw [hy] at e1
      have hyl : y < 128 := by omega
      have HYY := hide hy
      clear hy
      obtain ⟨v, hv, hv2⟩ : ∃ v : Nat, Go.bits .or .u64 (n : Int) (IntKind.u64.wrap ((y : Int) * 2 ^ (7 * k))) = (v : Int) ∧ (k < 9 ∨ x ≤ 1 → v = val (bs.take (k + 1))) := by
        have hb : n < 2 ^ (7 * k) := by rw [Nat.pow_mul]; exact hnl
        have hkp : (2 : Nat) ^ (7 * k) ≤ 2 ^ 63 := Nat.pow_le_pow_right (by decide) (by omega)
        refine ⟨n ||| (y * 2 ^ (7 * k)) % 18446744073709551616, ?_, fun h => ?_⟩
        · rw [IntKind.wrap_u64, show ((y : Int) * 2 ^ (7 * k)) % 18446744073709551616 = (((y * 2 ^ (7 * k)) % 18446744073709551616 : Nat) : Int) by rw [Int.natCast_emod, Int.natCast_mul, Int.natCast_pow]; rfl]
          exact u64_or_nat _ _ (by omega) (Nat.mod_lt _ (by decide))
        · have hsm : y * 2 ^ (7 * k) < 18446744073709551616 := by
            rcases h with h | h
            · have h1 : y * 2 ^ (7 * k) ≤ 127 * 2 ^ (7 * k) := Nat.mul_le_mul_right _ (by omega)
              have h2 : (2 : Nat) ^ (7 * k) ≤ 2 ^ 56 := Nat.pow_le_pow_right (by decide) (by omega)
              omega
            · have h1 : y * 2 ^ (7 * k) ≤ 1 * 2 ^ (7 * k) := Nat.mul_le_mul_right _ (by have := HYY.out; omega)
              omega
          rw [Nat.mod_eq_of_lt hsm, Nat.or_comm, nat_join (7 * k) _ _ (Nat.mul_mod_left _ _) hb]
          have hbl : k < bs.length := by rw [HL.out]; exact hlt
          rw [take_snoc8 _ _ hbl, val_snoc, ← HN.out, HX.out, HYY.out, List.length_take, Nat.min_eq_left (by omega), show (2 : Nat) ^ (7 * k) = 128 ^ k from by rw [Nat.pow_mul]]
          omega
      have HV2 := hide hv2
      clear hv2
      by_cases c1 : k = 9 ∧ 1 < x
      · obtain ⟨h9, h1x⟩ := c1
        have q1 : ((k : Int) == 9) = true := by simp; omega
        have q2 : decide ((1 : Int) < x) = true := by simp; omega
        have hrd : rd bs = (0, 0, 11) := by
          unfold rd
          have := HX.out
          subst h9
          have hg := lead_ge HHI.out (by rw [HL.out]; exact hk)
          rw [if_pos]
          rcases Nat.lt_or_ge (lead bs) 10 with h | h
          · exact .inr ⟨by omega, by have := HL.out; omega, by omega⟩
          · exact .inl h
        have RD := hide hrd
        clear hrd h9
        go_wp2_with fail
        refine (fail_any _ H1.out).mono ?_
        rintro e w2 ⟨rfl, h2, hu2⟩
        have H2 := hide h2; have U2 := hide (U1.out.trans hu2)
        clear h2 hu2
        go_wp2_with fail
        go_ret
        exact ⟨by rw [RD.out]; rfl, U2.out, _, _, _, by rw [RD.out]; exact H2.out, by rw [RD.out]; intro h; simp at h⟩
      · by_cases c2 : 0 < k ∧ x = 0
        · obtain ⟨h0k, h0x⟩ := c2
          have q2 : decide ((1 : Int) < x) = false := by simp; omega
          have q3 : decide ((0 : Int) < k) = true := by simp; omega
          have q4 : ((x : Int) == 0) = true := by simp; omega
          have hrd : rd bs = (0, 0, 11) := by
            unfold rd
            have hx := HX.out
            have hbl := HL.out
            have hle : lead bs = k := lead_eq HHI.out (by omega) (fun _ => by omega)
            rw [hle, if_neg (by rintro (h | ⟨h, -, h'⟩); omega; subst h; omega), if_neg (by omega), if_pos ⟨h0k, by omega⟩]
          have RD := hide hrd
          clear hrd c1
          rcases Bool.eq_false_or_eq_true ((k : Int) == 9) with qk | qk
          all_goals
            go_wp2_with fail
            refine (fail_any _ H1.out).mono ?_
            rintro e w2 ⟨rfl, h2, hu2⟩
            have H2 := hide h2; have U2 := hide (U1.out.trans hu2)
            clear h2 hu2
            go_wp2_with fail
            go_ret
            exact ⟨by rw [RD.out]; rfl, U2.out, _, _, _, by rw [RD.out]; exact H2.out, by rw [RD.out]; intro h; simp at h⟩
        · have q1 : ((k : Int) == 9) = false ∨ ((k : Int) == 9) = true ∧ decide ((1 : Int) < x) = false := by
            by_cases h : k = 9
            · exact .inr ⟨by simp; omega, by simp; omega⟩
            · exact .inl (by simp; omega)
          have q3 : decide (0 < k) = false ∨ decide (0 < k) = true ∧ ((x : Int) == 0) = false := by
            by_cases h : 0 < k
            · exact .inr ⟨by simp; omega, by simp; omega⟩
            · exact .inl (by simp; omega)
          by_cases c3 : x < 128
          · have q5 : decide ((x : Int) < 128) = true := by simp; omega
            have hrd : rd bs = (v, k + 1, 0) := by
              have hx := HX.out
              have hbl := HL.out
              have hle : lead bs = k := lead_eq HHI.out (by omega) (fun _ => by omega)
              unfold rd
              rw [hle, if_neg (by rintro (h | ⟨h, -, h'⟩); omega; subst h; omega), if_neg (by omega), if_neg (by omega), HV2.out (by omega)]
            have RD := hide hrd
            have C1 := hide c1
            have C2 := hide c2
            clear hrd c1 c2
            rcases q1 with q1 | ⟨q1, q2⟩ <;> rcases q3 with q3 | ⟨q3, q4⟩
            all_goals
              go_wp2_with fail
              go_ret
              refine ⟨by rw [RD.out]; rfl, U1.out, _, _, _, by rw [RD.out]; exact H1.out, fun _ => ⟨?_, by omega, ?_⟩⟩
              · rw [RD.out]
                have := S1.out
                rw [List.take_of_length_le (by simp; have := HL.out; omega), List.drop_drop] at this
                exact this
              · exact fun a ha h0 => (cut_block (Q := fun b => b ≠ R ∧ T b) (fun a h => HY.out a h (by omega)) a ha).2
          · have q5 : decide ((x : Int) < 128) = false := by simp; omega
            have C1 := hide c1
            have C2 := hide c2
            have C3 := hide c3
            clear c1 c2 c3
            rcases q1 with q1 | ⟨q1, q2⟩ <;> rcases q3 with q3 | ⟨q3, q4⟩
            all_goals
              go_wp2_with fail
              go_roundw
              case rel =>
                have hbl := HL.out
                have h1 := C1.out
                have h3 := C3.out
                have hS := S1.out
                rw [List.take_of_length_le (by simp; omega), List.drop_drop] at hS
                refine ⟨k + 1, v, cutAt yo 1 d, d - 1, by omega, by omega, by go_num, rfl, HV2.out (by omega), fun i hi => ?_, U1.out, ?_, ?_, by omega, ?_⟩
                · by_cases hik : i = k
                  · subst hik; have := HX.out; omega
                  · exact HHI.out i (by omega)
                · have := H1.out
                  rw [show m - k - 1 = m - (k + 1) by omega] at this
                  exact this
                · rw [show m - (k + 1) = m - k - 1 by omega]
                  exact hS
                · exact fun a ha h0 => cut_block (Q := fun b => b ≠ R ∧ T b) (fun a h => HY.out a h (by omega)) a ha
              case measure => simp [intOf]; omega
end Go.Proofs.YthpnnffogbjhpaaGreatDoor.Var
namespace Go.Proofs.YthpnnffogbjhpaaGreatDoor.Var
open Go.RowKit Go.Proofs.YthpnnffogbjhpaaGreatDoor.Crc

/-- A reader's state: its error, and the bytes that are left. -/
def RdS (w : World) (T : Nat → Prop) (R : Nat) (lim : Int) (s : Int × List UInt8) : Prop :=
  ∃ xo m c, RdAt w R s.1 xo m c lim ∧ (s.1 = 0 → SrcAt w xo m c (s.2.map u8v) 1 ∧ m ≤ c ∧ ∀ a, xo = some a → m ≠ 0 → T a.block)
/-- What is read lies beside the reader. -/
theorem rd_apart {w : World} {R m c : Nat} {e lim : Int} {xo : Option Addr} {bs : List UInt8} (h : RdAt w R e xo m c lim) (hs : SrcAt w xo m c (bs.map u8v) 1) : ∀ a, xo = some a → m ≠ 0 → a.block ≠ R := by
  intro a ha hm hb
  obtain ⟨b, off, e1, h1⟩ := src_at hs (j := 0) (by omega)
  rw [ha] at e1
  cases e1
  simp only at hb
  subst hb
  rw [Nat.add_zero] at h1
  have hR := h.hR
  unfold World.cell? at h1
  simp only [hR] at h1
  match off with
  | 0 => simp at h1
  | 1 => simp at h1
  | 2 => simp at h1
  | k + 3 => simp at h1
theorem RdS.updS {w w' : World} {T : Nat → Prop} {S : List Nat} {R : Nat} {lim : Int} {s : Int × List UInt8} (h : RdS w T R lim s) (hu : Upd S w w') (hR : R ∉ S) (hT : ∀ k ∈ S, ¬ T k) : RdS w' T R lim s := by
  obtain ⟨xo, m, c, h1, h2⟩ := h
  exact ⟨xo, m, c, h1.upd hu hR, fun e => ⟨src_upd (h2 e).1 hu (fun a ha hm hb => hT _ hb ((h2 e).2.2 a ha hm)), (h2 e).2⟩⟩
theorem RdS.upd {w w' : World} {T : Nat → Prop} {R : Nat} {lim : Int} {s : Int × List UInt8} (h : RdS w T R lim s) (hu : Upd [] w w') : RdS w' T R lim s := h.updS hu (by simp) (by simp)
def uintM (s : Int × List UInt8) : Nat × (Int × List UInt8) :=
  if s.1 = 0 then ((rd s.2).1, ((rd s.2).2.2, s.2.drop (rd s.2).2.1)) else (0, s)
set_option maxHeartbeats 1000000 in
theorem byte_err {R m c : Nat} {e lim : Int} {xo : Option Addr} (w : World) (h : RdAt w R e xo m c lim) (he : e ≠ 0) :
    Calls Tryz.prog 60 #[.pointer (some ⟨R, 0, none⟩)] w fun en w' => en = .returned (.int .u8 0) ∧ w = w' := by
  have hc0 := h.c0
  have q1 : (e != 0) = true := by simpa using he
  have q2 : (e == 0) = false := by simpa using he
  clear h
  go_enter Tryz.func60, Tryz.ntmps60
  go_wp2_with fail
  go_ret
  exact ⟨rfl, rfl⟩
set_option maxHeartbeats 1000000 in
theorem uint_err {R m c : Nat} {e lim : Int} {xo : Option Addr} (w : World) (h : RdAt w R e xo m c lim) (he : e ≠ 0) :
    Calls Tryz.prog 33 #[.pointer (some ⟨R, 0, none⟩)] w fun en w' => en = .returned (.int .u64 0) ∧ w = w' := by
  have q1 : (e != 0) = true := by simpa using he
  have q2 : (e == 0) = false := by simpa using he
  have H := hide h; have HE := hide he
  clear h he
  go_enter Tryz.func33, Tryz.ntmps33
  go_wp2_with fail
  go_loopw [4] (fun si wr => si = .int .i64 0 ∧ wr = w) (fun _ _ => 0)
  case atStart => exact ⟨rfl, rfl⟩
  case round =>
    obtain ⟨rfl, rfl⟩ := hrel
    go_wp2_with fail
    refine (byte_err _ H.out HE.out).mono ?_
    rintro en w2 ⟨rfl, rfl⟩
    go_wp2_with fail
    refine (err_any _ H.out).mono ?_
    rintro en w2 ⟨rfl, rfl⟩
    go_wp2_with fail
    go_ret
    exact ⟨rfl, rfl⟩
theorem rd_lt (bs : List UInt8) : (rd bs).1 < 18446744073709551616 := by
  obtain ⟨n, k, e, h⟩ : ∃ n k e, rd bs = (n, k, e) := ⟨_, _, _, rfl⟩
  rw [h]
  by_cases he : e = 0
  · exact (rd_ok h he).2.2.2.2
  · unfold rd at h
    split at h
    · cases h; simp
    · split at h
      · cases h; simp
      · split at h
        · cases h; simp
        · cases h; exact absurd rfl he
/-- Uint, whatever the reader's state. -/
theorem uint_s {T : Nat → Prop} {R : Nat} {lim : Int} {s : Int × List UInt8} (w : World) (h : RdS w T R lim s) :
    Calls Tryz.prog 33 #[.pointer (some ⟨R, 0, none⟩)] w fun en w' => en = .returned (.int .u64 ((uintM s).1 : Int)) ∧ RdS w' T R lim (uintM s).2 ∧ Upd [R] w w' := by
  obtain ⟨xo, m, c, h1, h2⟩ := h
  by_cases he : s.1 = 0
  · obtain ⟨g1, g2, g3⟩ := h2 he
    rw [he] at h1
    refine (uint_read (T := T) w h1 g1 g2 (fun a ha hm => ⟨rd_apart h1 g1 a ha hm, g3 a ha hm⟩)).mono fun en w' hr => ?_
    unfold uintM
    rw [if_pos he]
    exact ⟨hr.ans, hr.rdr, hr.upd⟩
  · refine (uint_err w h1 he).mono ?_
    rintro en w' ⟨rfl, rfl⟩
    unfold uintM
    rw [if_neg he]
    exact ⟨rfl, ⟨xo, m, c, h1, h2⟩, Upd.refl _ _⟩
end Go.Proofs.YthpnnffogbjhpaaGreatDoor.Var
namespace Go.Proofs.YthpnnffogbjhpaaGreatDoor.Var
open Go.RowKit Go.Proofs.YthpnnffogbjhpaaGreatDoor.Crc

section
variable {P : Program} (t e : TypeId) (ht : P.underlying t = some (.slice e)) (hz : ∀ w, (sizeOf e).run P w = .ok 1 w) (xo : Option Addr) (m c : Nat)
include ht hz
theorem run_cut_lu (l : Nat) (h : l ≤ m) (w : World) : (Instr.slice t (.slice xo m c) (some (.int .u64 (l : Int))) none none).run P w = .ok (.slice (cutAt xo l c) (m - l) (c - l)) w := by
  have hel : P.elem t = e := by simp [Program.elem, ht]
  rw [run_slice_l (P := P) w t xo m c (by rw [hel]; exact ht) .u64 l (by omega) (by omega), hel, hz]
  simp [Result.andThen, sliced, cutAt]
theorem run_cut_hu (h : Nat) (h2 : h ≤ c) (w : World) : (Instr.slice t (.slice xo m c) none (some (.int .u64 (h : Int))) none).run P w = .ok (.slice xo h c) w := by
  have hel : P.elem t = e := by simp [Program.elem, ht]
  rw [run_slice_h (P := P) w t xo m c (by rw [hel]; exact ht) .u64 h (by omega) (by omega), hel, hz]
  have := cutAt_zero xo c
  simp only [cutAt] at this
  simp [Result.andThen, sliced]
  rw [← this]
  split <;> simp_all
end
def textM (lim : Nat) (s : Int × List UInt8) : List UInt8 × (Int × List UInt8) :=
  if (uintM s).2.1 ≠ 0 then ([], (uintM s).2)
  else if lim < (uintM s).1 then ([], (11, (uintM s).2.2))
  else if (uintM s).2.2.length < (uintM s).1 then ([], (10, (uintM s).2.2))
  else ((uintM s).2.2.take (uintM s).1, (0, (uintM s).2.2.drop (uintM s).1))
theorem uintM_lt (s : Int × List UInt8) : (uintM s).1 < 18446744073709551616 := by
  unfold uintM
  split
  · exact rd_lt _
  · simp
theorem uintM_len (s : Int × List UInt8) : (uintM s).2.2.length ≤ s.2.length := by
  unfold uintM
  split
  · simp
  · exact Nat.le_refl _
set_option maxHeartbeats 2000000 in
theorem text_s {T : Nat → Prop} {R lim : Nat} {s : Int × List UInt8} (w : World) (h : RdS w T R (lim : Int) s) (hl : lim ≤ 1000000) (hB : s.2.length ≤ 1000000000000) :
    Calls Tryz.prog 63 #[.pointer (some ⟨R, 0, none⟩)] w fun en w' => en = .returned (.string (strOf (textM lim s).1)) ∧ RdS w' T R (lim : Int) (textM lim s).2 ∧ Upd [R] w w' := by
  have H := hide h
  have hn := uintM_lt s
  have hl2 := uintM_len s
  clear h
  obtain ⟨n, e, bs, hu⟩ : ∃ n e bs, uintM s = (n, e, bs) := ⟨_, _, _, rfl⟩
  have HU := hide hu
  rw [hu] at hn hl2
  simp only at hn hl2
  clear hu
  go_enter Tryz.func63, Tryz.ntmps63
  go_wp2_with fail
  refine (uint_s _ H.out).mono ?_
  rw [HU.out]
  rintro en w1 ⟨rfl, ⟨xo, m, c, hr, hs⟩, hu1⟩
  simp only at hr hs ⊢
  have U1 := hide hu1; have HR := hide hr; have HS := hide hs
  clear hu1 hr hs
  go_wp2_with fail
  refine (err_any _ HR.out).mono ?_
  rintro en w2 ⟨rfl, rfl⟩
  by_cases he : e = 0
  · subst he
    obtain ⟨g1, g2, g3⟩ := HS.out rfl
    have hbl : bs.length = m := by have := g1.len; simpa using this
    have c1 := HR.out.c1
    have c2 := HR.out.c2
    have f1 := HR.out.fr 1
    have mx : max (lim : Int) 0 = (lim : Int) := by omega
    have v1 : IntKind.u64.wrap (lim : Int) = (lim : Int) := IntWalk.u64_in _ (by omega)
    have v2 : IntKind.u64.wrap (m : Int) = (m : Int) := IntWalk.u64_in _ (by omega)
    have G1 := hide g1
    have BL := hide hbl
    clear g1 hbl
    by_cases h1 : lim < n
    · have d1 : decide ((lim : Int) < (n : Int)) = true := by simp; omega
      go_wp2_with fail
      refine (fail_any (x := 11) _ HR.out).mono ?_
      rintro en w3 ⟨rfl, hr3, hu3⟩
      have R3 := hide hr3; have U3 := hide (U1.out.trans hu3)
      clear hr3 hu3
      go_wp2_with fail
      go_ret
      unfold textM
      rw [HU.out]
      simp only [ne_eq, not_true_eq_false, if_false, h1, if_true]
      exact ⟨rfl, ⟨xo, m, c, R3.out, fun h => absurd h (by simp)⟩, U3.out⟩
    · have d1 : decide ((lim : Int) < (n : Int)) = false := by simp; omega
      by_cases h2 : m < n
      · have d2 : decide ((m : Int) < (n : Int)) = true := by simp; omega
        go_wp2_with fail
        refine (fail_any (x := 10) _ HR.out).mono ?_
        rintro en w3 ⟨rfl, hr3, hu3⟩
        have R3 := hide hr3; have U3 := hide (U1.out.trans hu3)
        clear hr3 hu3
        go_wp2_with fail
        go_ret
        unfold textM
        rw [HU.out]
        simp only [ne_eq, not_true_eq_false, if_false, h1, BL.out, h2, if_true]
        exact ⟨rfl, ⟨xo, m, c, R3.out, fun h => absurd h (by simp)⟩, U3.out⟩
      · have d2 : decide ((m : Int) < (n : Int)) = false := by simp; omega
        have k1 := run_cut_hu (P := Tryz.prog) 22 5 Tryz.underlying22 sizeB xo m c n (by omega)
        have k2 := run_cut_lu (P := Tryz.prog) 22 5 Tryz.underlying22 sizeB xo m c n (by omega)
        have k3 := run_str (src_head G1.out (h := n) (by omega) g2)
        go_wp2_with fail
        go_ret
        unfold textM
        rw [HU.out]
        simp only [ne_eq, not_true_eq_false, if_false, h1, BL.out, h2]
        refine ⟨rfl, ⟨_, _, _, HR.out.setB _ _ _, fun _ => ⟨?_, by omega, fun a ha h0 => cut_block (Q := T) (fun a h => g3 a h (by omega)) a ha⟩⟩, U1.out.setCell (.inl (by simp)) _⟩
        have hcut := src_cut G1.out (l := n) (h := m) (q := c) (by omega) (Nat.le_refl _) g2 (Nat.le_refl _)
        rw [List.take_of_length_le (by have := BL.out; simp; omega)] at hcut
        have hu2 : Upd [R] w1 (w1.setCell ⟨R, 1, none⟩ (.slice (cutAt xo n c) (m - n) (c - n))) := (Upd.refl _ _).setCell (.inl (by simp)) _
        exact src_upd hcut hu2 (fun a ha h0 => by
          have hne := rd_apart HR.out G1.out
          unfold cutAt at ha
          split at ha
          · have := hne a ha (by omega); simpa using this
          · cases xo with
            | none => cases ha
            | some a0 =>
              cases ha
              have := hne a0 rfl (by omega)
              unfold Addr.add
              split <;> simpa using this)
  · have q1 : (e != 0) = true := by simpa using he
    have q2 : (e == 0) = false := by simpa using he
    have HE := hide he
    clear he
    go_wp2_with fail
    go_ret
    unfold textM
    rw [HU.out]
    simp only [ne_eq, HE.out, not_false_eq_true, if_true]
    exact ⟨rfl, ⟨xo, m, c, HR.out, HS.out⟩, U1.out⟩
end Go.Proofs.YthpnnffogbjhpaaGreatDoor.Var
namespace Go.Proofs.YthpnnffogbjhpaaGreatDoor.Var
open Go.RowKit Go.Proofs.YthpnnffogbjhpaaGreatDoor.Crc

def doneM (s : Int × List UInt8) : Int × (Int × List UInt8) := if s.1 ≠ 0 then (s.1, s) else if s.2.length ≠ 0 then (11, (11, s.2)) else (0, s)
set_option maxHeartbeats 1000000 in
theorem err_s {T : Nat → Prop} {R : Nat} {lim : Int} {s : Int × List UInt8} (w : World) (h : RdS w T R lim s) : Calls Tryz.prog 61 #[.pointer (some ⟨R, 0, none⟩)] w fun en w' => en = .returned (.int .i64 s.1) ∧ w = w' := by
  obtain ⟨xo, m, c, h1, -⟩ := h
  exact err_any w h1
set_option maxHeartbeats 1000000 in
theorem done_s {T : Nat → Prop} {R : Nat} {lim : Int} {s : Int × List UInt8} (w : World) (h : RdS w T R lim s) :
    Calls Tryz.prog 36 #[.pointer (some ⟨R, 0, none⟩)] w fun en w' => en = .returned (.int .i64 (doneM s).1) ∧ RdS w' T R lim (doneM s).2 ∧ Upd [R] w w' := by
  obtain ⟨e, bs⟩ := s
  obtain ⟨xo, m, c, hr, hs⟩ := h
  simp only at hr hs
  have HR := hide hr; have HS := hide hs
  clear hr hs
  by_cases he : e = 0
  · subst he
    obtain ⟨g1, g2, g3⟩ := HS.out rfl
    have hbl : bs.length = m := by have := g1.len; simpa using this
    have c0 := HR.out.c0
    have c1 := HR.out.c1
    have BL := hide hbl
    clear g1 hbl
    by_cases hm : 0 < m
    · have d1 : decide ((0 : Int) < (m : Int)) = true := by simp; omega
      go_enter Tryz.func36, Tryz.ntmps36
      go_wp2_with fail
      refine (err_any _ HR.out).mono ?_
      rintro en w2 ⟨rfl, rfl⟩
      go_wp2_with fail
      refine (fail_any (x := 11) _ HR.out).mono ?_
      rintro en w3 ⟨rfl, hr3, hu3⟩
      have c3 := hr3.c0
      have R3 := hide hr3; have U3 := hide hu3
      clear hr3 hu3
      go_wp2_with fail
      go_ret
      have hne : bs.length ≠ 0 := by have := BL.out; omega
      unfold doneM
      simp only [ne_eq, not_true_eq_false, if_false, hne, not_false_eq_true, if_true]
      exact ⟨rfl, ⟨xo, m, c, R3.out, fun h => absurd h (by simp)⟩, U3.out⟩
    · have d1 : decide ((0 : Int) < (m : Int)) = false := by simp; omega
      go_enter Tryz.func36, Tryz.ntmps36
      go_wp2_with fail
      refine (err_any _ HR.out).mono ?_
      rintro en w2 ⟨rfl, rfl⟩
      go_wp2_with fail
      go_ret
      have hne : bs.length = 0 := by have := BL.out; omega
      unfold doneM
      simp only [ne_eq, not_true_eq_false, if_false, hne]
      exact ⟨rfl, ⟨xo, m, c, HR.out, fun _ => HS.out trivial⟩, Upd.refl _ _⟩
  · have q1 : (e != 0) = true := by simpa using he
    have q2 : (e == 0) = false := by simpa using he
    have HE := hide he
    clear he
    go_enter Tryz.func36, Tryz.ntmps36
    go_wp2_with fail
    refine (err_any _ HR.out).mono ?_
    rintro en w2 ⟨rfl, rfl⟩
    go_wp2_with fail
    go_ret
    unfold doneM
    simp only [ne_eq, HE.out, not_false_eq_true, if_true]
    exact ⟨rfl, ⟨xo, m, c, HR.out, HS.out⟩, Upd.refl _ _⟩
end Go.Proofs.YthpnnffogbjhpaaGreatDoor.Var
