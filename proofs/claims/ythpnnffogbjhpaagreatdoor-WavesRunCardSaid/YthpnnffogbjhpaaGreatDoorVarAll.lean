/- VarW, VarU, VarUf in one text. -/
import Derived.Test.YthpnnffogbjhpaaGreatDoorGenAll
import Derived.ArgAppend
set_option linter.unusedSimpArgs false
set_option linter.unusedVariables false
set_option linter.unnecessarySimpa false
namespace Go.Proofs.YthpnnffogbjhpaaGreatDoor.Var
open Go.RowKit Go.Proofs.YthpnnffogbjhpaaGreatDoor.Crc

set_option maxHeartbeats 400000 in
theorem groups_any (n : Nat) (w : World) :
    Calls Tryz.prog 68 #[.int .u64 (n : Int)] w fun e w' => e = .returned (.func (.func 98) #[] #[.pointer (some ⟨w.heap.size, 0, none⟩)]) ∧
      w'.heap[w.heap.size]? = some (.cells #[.int .u64 (n : Int)] 35 (0, 0)) ∧ Upd [] w w' := by
  go_enter Tryz.func68, Tryz.ntmps68
  go_wp2_with fail
  go_ret
  exact ⟨rfl, blk_new _ _, (Upd.refl _ _).alloc _⟩

theorem and127 {n : Nat} (h : n < 18446744073709551616) : Go.bits .and .u64 (n : Int) 127 = ((n % 128 : Nat) : Int) := by
  rw [show (127 : Int) = ((127 : Nat) : Int) from rfl, u64_and_nat _ _ h (by decide), nat_mask7]

set_option maxHeartbeats 1000000 in
/-- groups' function, as an iterator. -/
theorem groups_iter {p n : Nat} (hn : n < 18446744073709551616) :
    Iter Tryz.prog 98 #[] #[.pointer (some ⟨p, 0, none⟩)] (fun x : Nat × Bool => #[.int .u8 (x.1 : Int), .bool x.2]) (groups n) [p] [p] (fun W => W.heap[p]? = some (.cells #[.int .u64 (n : Int)] 35 (0, 0))) := by
  intro nn l J Jx W hR hY hJ hJx hJ0
  refine callsIn_wide.2 ?_
  go_enter Tryz.func98, Tryz.ntmps98
  have HR := hide hR
  have HY := hide hY
  have HJ := hide hJ
  have HJx := hide hJx
  have HJ0 := hide hJ0
  clear hR hY hJ hJx hJ0
  go_wp2_with fail
  go_loopw [3] (fun _ wr => ∃ (k : Nat) (pre : List (Nat × Bool)), k < 18446744073709551616 ∧ groups n = pre ++ groups k ∧ wr.heap[p]? = some (.cells #[.int .u64 (k : Int)] 35 (0, 0)) ∧ J pre wr) (fun _ wr => match wr.cell? ⟨p, 0, none⟩ with | some v => (intOf v).toNat | none => 0)
  case atStart => exact ⟨n, [], hn, rfl, HR.out, HJ0.out⟩
  case round =>
    obtain ⟨k, pre, hk, hpre, hp, hj⟩ := hrel
    have hc := blk_cell (i := 0) hp rfl
    have hf := blk_free (i := 0) hp
    simp only [List.getElem_toArray, List.getElem_cons_zero] at hc
    have HP := hide hp; have HPRE := hide hpre; have HJ2 := hide hj
    clear hp hpre hj HR HJ0
    by_cases hg : 128 ≤ k
    · have hd : decide (128 ≤ (k : Int)) = true := by simp; omega
      have e1 := and127 hk
      have hl := Nat.mod_lt k (show 0 < 128 by decide)
      have HG := hide (groups_more hg)
      obtain ⟨z, hz⟩ : ∃ z, k % 128 = z := ⟨_, rfl⟩
      rw [hz] at e1 hl
      have HZ := hide hz
      clear hz
      go_upto_block 1 with fail
      obtain ⟨fn, tmps, assign, body, hy, hR⟩ := HY.out pre (z, false) wr HJ2.out (by rw [HPRE.out, HG.out, HZ.out]; simp)
      replace hy : (Instr.yield l #[.int .u8 (z : Int), .bool false]).run Tryz.prog wr = .ok (.round l fn tmps assign body) wr := hy
      have HRR := hide hR
      clear hR
      refine (wpIn_wide (n := nn + 1)).1 ?_
      gi_wp2
      refine HRR.out.mono ?_
      rintro e W' (⟨rfl, hj3, hk3⟩ | ⟨rfl, hjx3⟩)
      · have hp3 := hk3.get HP.out (by simp)
        have hc3 := blk_cell (i := 0) hp3 rfl
        have hf3 := blk_free (i := 0) hp3
        simp only [List.getElem_toArray, List.getElem_cons_zero] at hc3
        have HP3 := hide hp3; have HJ3 := hide hj3
        obtain ⟨q, hq⟩ : ∃ q, k / 128 = q := ⟨_, rfl⟩
        have e2 : (k : Int) / 128 = (q : Int) := by omega
        have hqk : q < k := by omega
        have HQ := hide hq
        have HC := hide hc
        clear hp3 hy HY hc hf hj3 hk3 hq
        gi_wp2
        go_wp2_with fail
        have hp4 := blk_set (i := 0) HP3.out (.int .u64 (q : Int))
        have hc4 := blk_cell (i := 0) hp4 rfl
        simp only [List.getElem_toArray, List.setIfInBounds_toArray, List.set_cons_zero, List.getElem_cons_zero] at hc4
        refine ⟨⟨q, pre ++ [(z, false)], by omega, by rw [HPRE.out, HG.out, HZ.out, HQ.out]; simp, hp4, HJ.out _ _ _ HJ3.out ((Upd.refl _ _).setCell (.inl (by simp)) _)⟩, ?_⟩
        rw [hc4, HC.out]
        simp [intOf]
        omega
      · clear hy HY
        gi_wp2
        go_wp2_with fail
        refine bodyPost_ret (results_none rfl _ _ _) rfl ?_
        exact ⟨⟨_, rfl⟩, .inr ⟨_, by rw [HPRE.out, HG.out, HZ.out]; simp, hjx3⟩⟩
    · have hd : decide (128 ≤ (k : Int)) = false := by simp; omega
      have hl : k < 128 := by omega
      have HG := hide (groups_last hl)
      clear hg
      go_upto_region 3 with fail
      obtain ⟨fn, tmps, assign, body, hy, hR⟩ := HY.out pre (k, true) wr HJ2.out (by rw [HPRE.out, HG.out]; exact List.prefix_refl _)
      replace hy : (Instr.yield l #[.int .u8 (k : Int), .bool true]).run Tryz.prog wr = .ok (.round l fn tmps assign body) wr := hy
      have HRR := hide hR
      clear hR
      refine (wpIn_wide (n := nn + 1)).1 ?_
      gi_wp2
      refine HRR.out.mono ?_
      rintro e W' (⟨rfl, hj3, hk3⟩ | ⟨rfl, hjx3⟩)
      · have HE := hide (show J (groups n) W' by rw [HPRE.out, HG.out]; exact hj3)
        clear hy HY hj3
        gi_wp2
        go_wp2_with fail
        go_end0
        exact ⟨⟨_, rfl⟩, .inl HE.out⟩
      · have HE := hide (show Jx (groups n) W' by rw [HPRE.out, HG.out]; exact hjx3)
        clear hy HY hjx3
        gi_wp2
        go_wp2_with fail
        go_end0
        exact ⟨⟨_, rfl⟩, .inr ⟨_, List.prefix_refl _, HE.out⟩⟩
end Go.Proofs.YthpnnffogbjhpaaGreatDoor.Var
namespace Go.Proofs.YthpnnffogbjhpaaGreatDoor.Var
open Go.RowKit Go.Proofs.YthpnnffogbjhpaaGreatDoor.Crc
attribute [local go_sem] Oper.semAt_some
theorem infoB : (Tryz.prog.info? 5).map (fun i => (i.zero, i.size, i.bytes)) = some (some (.int .u8 0), 1, 1) := by kernel_rfl

/-- What an append has made: v' reads as bs, and lies where v lay, or in a new block. -/
structure Grew (w : World) (base : Nat) (v : Value) (bs : List UInt8) (v' : Value) (w' : World) : Prop where
  own : w'.ownsRow base 5 1 v' bs.length (bs.map u8v)
  upd : Upd v.ownBlock.toList w w'
  new : ∀ g, v'.ownBlock = some g → v.ownBlock = some g ∨ w.heap.size ≤ g
theorem or128 {n : Nat} (h : n < 128) : Go.bits .or .u8 (n : Int) 128 = ((128 + n : Nat) : Int) := by
  rw [show (128 : Int) = ((128 : Nat) : Int) from rfl, u8_or_nat _ _ (by omega) (by decide), Nat.or_comm, nat_join 7 128 n (by decide) (by omega)]

/-- A round of Uint's range is done: one byte more. -/
theorem round_done {w w1 W2 W3 : World} {base cap cap1 cap3 y : Nat} {ao ao1 ao3 : Option Addr} {bs : List UInt8} {pre : List (Nat × Bool)} {x : Nat × Bool} (hsz2 : w1.heap.size + 2 ≤ W2.heap.size) (hN : w.heap.size + 1 < w1.heap.size)
    (HLV : ∀ k, (Value.slice ao bs.length cap).ownBlock = some k → base ≤ k ∧ k < w.heap.size) (H1 : Upd (Value.slice ao bs.length cap).ownBlock.toList w W2) (H2 : W2.heap[w.heap.size]? = some (.cells #[.slice ao1 (bs.length + pre.length) cap1] 22 (0, 0)))
    (_ : W2.ownsRow base 5 1 (.slice ao1 (bs.length + pre.length) cap1) (bs.length + pre.length) ((bs ++ pre.map gbyte).map u8v))
    (H4 : ∀ g, (Value.slice ao1 (bs.length + pre.length) cap1).ownBlock = some g → (Value.slice ao bs.length cap).ownBlock = some g ∨ w1.heap.size + 2 ≤ g)
    {o : Obj} (U3 : Upd (Value.slice ao1 (bs.length + pre.length) cap1).ownBlock.toList (W2.alloc o) W3) (B3 : W3.heap[w.heap.size]? = some (.cells #[.slice ao1 (bs.length + pre.length) cap1] 22 (0, 0)))
    (O3 : W3.ownsRow base 5 1 (.slice ao3 (bs.length + pre.length + 1) cap3) (bs.length + pre.length + 1) ((bs ++ pre.map gbyte).map u8v ++ [.int .u8 (y : Int)]))
    (N3 : ∀ g, (Value.slice ao3 (bs.length + pre.length + 1) cap3).ownBlock = some g → (Value.slice ao1 (bs.length + pre.length) cap1).ownBlock = some g ∨ W2.heap.size + 1 ≤ g)
    (hy : (gbyte x).toNat = y) :
    Keeps [w1.heap.size, w1.heap.size + 1, w.heap.size + 1] W2 (W3.setCell ⟨w.heap.size, 0, none⟩ (.slice ao3 (bs.length + pre.length + 1) cap3)) ∧
      Upd (Value.slice ao bs.length cap).ownBlock.toList w (W3.setCell ⟨w.heap.size, 0, none⟩ (.slice ao3 (bs.length + pre.length + 1) cap3)) ∧ ∃ ao1 cap1, (W3.setCell ⟨w.heap.size, 0, none⟩ (.slice ao3 (bs.length + pre.length + 1) cap3)).heap[w.heap.size]? = some (.cells #[.slice ao1 (bs.length + (pre ++ [x]).length) cap1] 22 (0, 0)) ∧
      (W3.setCell ⟨w.heap.size, 0, none⟩ (.slice ao3 (bs.length + pre.length + 1) cap3)).ownsRow base 5 1 (.slice ao1 (bs.length + (pre ++ [x]).length) cap1) (bs.length + (pre ++ [x]).length) ((bs ++ (pre ++ [x]).map gbyte).map u8v) ∧
      (∀ g, (Value.slice ao1 (bs.length + (pre ++ [x]).length) cap1).ownBlock = some g → (Value.slice ao bs.length cap).ownBlock = some g ∨ w1.heap.size + 2 ≤ g) := by
  have hU : Upd (w.heap.size :: (Value.slice ao1 (bs.length + pre.length) cap1).ownBlock.toList) W2 (W3.setCell ⟨w.heap.size, 0, none⟩ (.slice ao3 (bs.length + pre.length + 1) cap3)) :=
    ((((Upd.refl _ W2).alloc o).trans (U3.mono (fun k hk => by simp at hk ⊢; exact .inr hk)))).setCell (.inl (by simp)) _
  have hn : ∀ g, (Value.slice ao3 (bs.length + pre.length + 1) cap3).ownBlock = some g → (Value.slice ao bs.length cap).ownBlock = some g ∨ w1.heap.size + 2 ≤ g := fun g hg => by
    rcases N3 g hg with h | h
    · exact H4 g h
    · exact .inr (by omega)
  have hlt2 := blk_lt H2
  refine ⟨Keeps.of_upd hU (fun k hk => ⟨fun hm => ?_, ?_⟩), H1.trans_new hU (fun k hk => ?_), ao3, cap3, ?_, ?_, fun g hg => hn g (by simpa [Nat.add_assoc] using hg)⟩
  · simp only [List.mem_cons, Option.mem_toList, List.not_mem_nil, or_false] at hk hm
    rcases hm with h5 | h5
    · omega
    · rcases H4 k h5 with h6 | h6
      · have := (HLV k h6).2; omega
      · omega
  · simp only [List.mem_cons, List.not_mem_nil, or_false] at hk
    omega
  · simp only [List.mem_cons, Option.mem_toList] at hk ⊢
    rcases hk with h5 | h5
    · exact .inr (by omega)
    · rcases H4 k h5 with h6 | h6
      · exact .inl h6
      · exact .inr (by omega)
  · have := blk_set (i := 0) B3 (.slice ao3 (bs.length + pre.length + 1) cap3)
    simpa [Nat.add_assoc] using this
  · have h7 := ownsRow_setCell_other O3 (a := ⟨w.heap.size, 0, none⟩) (by
      intro h5
      have h5' : (Value.slice ao3 (bs.length + pre.length + 1) cap3).ownBlock = some w.heap.size := h5
      rcases hn _ h5' with h6 | h6
      · have := (HLV _ h6).2; omega
      · omega) (.slice ao3 (bs.length + pre.length + 1) cap3)
    have e1 : (bs ++ (pre ++ [x]).map gbyte).map u8v = (bs ++ pre.map gbyte).map u8v ++ [.int .u8 (y : Int)] := by
      simp [u8v, hy]
    rw [e1]
    simpa [Nat.add_assoc] using h7

set_option maxHeartbeats 4000000 in
theorem uint_any {base n : Nat} {v : Value} {bs : List UInt8} (w : World) (hv : w.ownsRow base 5 1 v bs.length (bs.map u8v)) (hb : base ≤ w.heap.size) (hl : bs.length ≤ 1000000000000) (hn : n < 18446744073709551616) :
    Calls Tryz.prog 39 #[v, .int .u64 (n : Int)] w fun e w' => ∃ v', e = .returned v' ∧ Grew w base v (bs ++ uv n) v' w' := by
  have hlv := owns_lt hv
  obtain ⟨ao, cap, rfl, -, -, -⟩ := owns_slice hv
  obtain ⟨i0, hi, hz0, hz1, hz2⟩ := info_parts infoB
  have HV := hide hv; have HLV := hide hlv
  clear hv hlv
  refine calls_of_wp_marks Tryz.func39 rfl ?_
  simp only [Tryz.ntmps39, List.size_toArray, List.length_cons, List.length_nil, Nat.reduceAdd, Nat.reduceSub, Array.replicate_succ, Array.replicate_zero, List.push_toArray, List.append_toArray, List.nil_append, List.cons_append]
  go_wp2_with fail
  refine (groups_any n _).mono ?_
  rintro e w1 ⟨rfl, hp1, hu1⟩
  have hz : (w.alloc (.cells #[.slice ao bs.length cap] 22)).heap.size = w.heap.size + 1 := by simp
  rw [hz] at hp1 ⊢
  have hbx := hu1.get (blk_new w (.cells #[.slice ao bs.length cap] 22)) (by simp)
  have hs1 := (blk_lt hp1)
  have HU1 := hide (((Upd.refl [] w).alloc (.cells #[.slice ao bs.length cap] 22)).trans hu1); have HP1 := hide hp1; have HBX := hide hbx; have HS1 := hide hs1
  clear hu1 hp1 hbx hz
  go_wp2_with fail
  have hN := HS1.out
  have hgl : (groups n).length ≤ 10 := by have := congrArg List.length (groups_uv n); rw [List.length_map] at this; rw [this]; exact uv_len10 hn
  refine wp_range (gf := 98) rfl (enters_of Tryz.func98 (by kernel_rfl) rfl) (groups_iter (p := w.heap.size + 1) hn) (fun _ => rfl) (by simp; omega) (by simp; omega)
    (fun W hu => hu.get HP1.out (by simp))
    (fun pre W => Upd (Value.slice ao bs.length cap).ownBlock.toList w W ∧ ∃ ao1 cap1, W.heap[w.heap.size]? = some (.cells #[.slice ao1 (bs.length + pre.length) cap1] 22 (0, 0)) ∧
      W.ownsRow base 5 1 (.slice ao1 (bs.length + pre.length) cap1) (bs.length + pre.length) ((bs ++ pre.map gbyte).map u8v) ∧
      (∀ g, (Value.slice ao1 (bs.length + pre.length) cap1).ownBlock = some g → (Value.slice ao bs.length cap).ownBlock = some g ∨ w1.heap.size + 2 ≤ g)) (fun _ _ _ => False) ?hI (fun _ _ _ _ h _ => h) ?h0 ?hround ?hdone (fun _ _ _ _ h _ => h.elim)
  case hI =>
    rintro pre W1 W2 ⟨h1, ao1, cap1, h2, h3, h4⟩ hu
    refine ⟨h1.trans_new hu (by simp; omega), ao1, cap1, hu.get h2 (by simp; omega), owns_upd h3 hu (fun k hk hm => ?_), h4⟩
    simp at hm
    rcases h4 k hk with h5 | h5
    · have := (HLV.out k h5).2; omega
    · omega
  case h0 =>
    intro W hu hsz
    have hu2 := HU1.out.trans hu
    exact ⟨hu2.mono (by simp), ao, cap, hu.get HBX.out (by simp), by simpa using owns_upd HV.out hu2 (by simp), fun g hg => .inl hg⟩
  case hround =>
    rintro pre ⟨g, last⟩ W hpre hi hsz
    have hpl : pre.length + 1 ≤ (groups n).length := by have := hpre.length_le; simpa using this
    have hg : g < 128 := groups_lt n (g, last) (hpre.subset (by simp))
    have HPRE := hide hpre
    clear hpre
    gi_wp2
    refine ⟨Keeps.refl _ _, fun W2 hu hi2 => ?_⟩
    obtain ⟨h1, ao1, cap1, h2, h3, h4⟩ := hi2 hi
    have hsz2 : w1.heap.size + 2 ≤ W2.heap.size := Nat.le_trans hsz hu.size
    have hwz : w.heap.size ≤ W2.heap.size := h1.size
    obtain ⟨cur, hcur⟩ : ∃ cur, (bs ++ pre.map gbyte).map u8v = cur := ⟨_, rfl⟩
    rw [hcur] at h3
    have HCUR := hide hcur
    clear hcur
    have hc := blk_cell (i := 0) h2 rfl
    have hf := blk_free (i := 0) h2
    simp only [List.getElem_toArray, List.getElem_cons_zero] at hc
    have H1 := hide h1; have H2 := hide h2; have H3 := hide h3; have H4 := hide h4
    clear h1 h2 h3 h4 hi hi2 hu
    have e1 := or128 hg
    cases last with
    | false =>
      gi_wp2_with (gi_at_builtin; go_must (refine wpListIn_append_src _ rfl _ _ 22 rfl base 5 i0 (.int .u8 0) 1 1 Tryz.underlying22 hi hz0 hz1 hz2 rfl (by decide) (.slice ao1 (bs.length + pre.length) cap1) (bs.length + pre.length) cur rfl (H3.out.alloc _) (some ⟨W2.heap.size, 0, none⟩) 1 1 [.int .u8 ((128 + g : Nat) : Int)] rfl (src_one (cell_new1 rfl) rfl) (by unfold maxLen; omega) (by omega) (by simp; omega) ?_))
      intro ao3 cap3 W3 hown3 hU3 hn3
      have hN3 := hU3.get (b := w.heap.size) (blk_alloc H2.out _) (by
        simp only [Option.mem_toList]
        intro h5
        rcases H4.out _ h5 with h6 | h6
        · have := (HLV.out _ h6).2; omega
        · omega)
      have hc3 := blk_cell (i := 0) hN3 rfl
      have hf3 := blk_free (i := 0) hN3
      simp only [List.getElem_toArray, List.getElem_cons_zero] at hc3
      have U3 := hide hU3; have O3 := hide hown3; have B3 := hide hN3; have N3 := hide hn3
      have hb4 : gbyte (g, false) = UInt8.ofNat (128 + g) := rfl
      have HB4 := hide hb4
      clear hN3 hown3 hU3 hn3 hb4
      gi_wp2
      exact round_done hsz2 hN HLV.out H1.out H2.out (by rw [HCUR.out]; exact H3.out) H4.out U3.out B3.out (by rw [HCUR.out]; exact O3.out) N3.out (by rw [HB4.out, ofNat8 (by omega)])
    | true =>
      gi_wp2_with (gi_at_builtin; go_must (refine wpListIn_append_src _ rfl _ _ 22 rfl base 5 i0 (.int .u8 0) 1 1 Tryz.underlying22 hi hz0 hz1 hz2 rfl (by decide) (.slice ao1 (bs.length + pre.length) cap1) (bs.length + pre.length) cur rfl (H3.out.alloc _) (some ⟨W2.heap.size, 0, none⟩) 1 1 [.int .u8 (g : Int)] rfl (src_one (cell_new1 rfl) rfl) (by unfold maxLen; omega) (by omega) (by simp; omega) ?_))
      intro ao3 cap3 W3 hown3 hU3 hn3
      have hN3 := hU3.get (b := w.heap.size) (blk_alloc H2.out _) (by
        simp only [Option.mem_toList]
        intro h5
        rcases H4.out _ h5 with h6 | h6
        · have := (HLV.out _ h6).2; omega
        · omega)
      have hc3 := blk_cell (i := 0) hN3 rfl
      have hf3 := blk_free (i := 0) hN3
      simp only [List.getElem_toArray, List.getElem_cons_zero] at hc3
      have U3 := hide hU3; have O3 := hide hown3; have B3 := hide hN3; have N3 := hide hn3
      have hb4 : gbyte (g, true) = UInt8.ofNat g := rfl
      have HB4 := hide hb4
      clear hN3 hown3 hU3 hn3 hb4
      gi_wp2
      exact round_done hsz2 hN HLV.out H1.out H2.out (by rw [HCUR.out]; exact H3.out) H4.out U3.out B3.out (by rw [HCUR.out]; exact O3.out) N3.out (by rw [HB4.out, ofNat8 (by omega)])
  case hdone =>
    rintro W ⟨h1, ao1, cap1, h2, h3, h4⟩ hd
    have hc := blk_cell (i := 0) h2 rfl
    simp only [List.getElem_toArray, List.getElem_cons_zero] at hc
    go_wp2
    refine leaves_one hd (results_tmp rfl _ _ _) ⟨_, rfl, ?_, h1.putObj (l := w1.heap.size) (.inr (by omega)) _, fun g hg => ?_⟩
    · have := owns_upd h3 ((Upd.refl [w1.heap.size] W).putObj (l := w1.heap.size) (.inl (by simp)) (.deferred none)) (fun k hk hm => by
        simp at hm
        rcases h4 k hk with h5 | h5
        · have := (HLV.out k h5).2; omega
        · omega)
      have e2 : (bs ++ uv n).length = bs.length + (groups n).length := by rw [List.length_append, ← groups_uv, List.length_map]
      rw [e2, ← groups_uv]
      exact this
    · rcases h4 g hg with h5 | h5
      · exact .inl h5
      · exact .inr (by omega)
end Go.Proofs.YthpnnffogbjhpaaGreatDoor.Var
namespace Go.Proofs.YthpnnffogbjhpaaGreatDoor.Var
open Go.RowKit Go.Proofs.YthpnnffogbjhpaaGreatDoor.Crc
set_option linter.unusedSimpArgs false
set_option linter.unusedVariables false
set_option linter.unnecessarySimpa false
attribute [local go_sem] Oper.semAt_some

end Go.Proofs.YthpnnffogbjhpaaGreatDoor.Var
