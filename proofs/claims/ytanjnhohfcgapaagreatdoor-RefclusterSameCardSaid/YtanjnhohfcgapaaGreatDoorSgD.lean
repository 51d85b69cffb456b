/- What a step leaves; looks into what was heard; single.yields, others. -/
import Derived.Test.YtanjnhohfcgapaaGreatDoorSgC
import Derived.Test.YtanjnhohfcgapaaGreatDoorBaWX
set_option linter.unusedSimpArgs false
set_option linter.unusedVariables false
set_option linter.unnecessarySimpa false
namespace Go.Proofs.YtanjnhohfcgapaaGreatDoor.Sg
open Go.RowKit Go.Proofs.YtanjnhohfcgapaaGreatDoor.Crc Go.Proofs.YtanjnhohfcgapaaGreatDoor.Cm Go.Proofs.YtanjnhohfcgapaaGreatDoor.Tr Go.Proofs.YtanjnhohfcgapaaGreatDoor.Kv Go.Proofs.YtanjnhohfcgapaaGreatDoor.Au
set_option linter.unusedSimpArgs false
set_option linter.unusedVariables false

/-- What the code reads that no replica writes. -/
def EnvM (w : World) (M : Nat → Prop) : Prop := EnvAt w ∧ ∀ k ∈ [0, 1, 2, 3], ¬ M k ∧ k < w.heap.size
/-- Behind a step. -/
def Aft (z p : Nat) (w : World) (T M : Nat → Prop) (s : SO) (w' : World) : Prop := ∃ T' M' G', XAt w' T' M' z p s.1 s.2 G' ∧ Ext w T M w' T' M'
section
variable {w w' w2 : World} {T M T' M' : Nat → Prop} {z p : Nat} {x : Sg} {o : Ou} {G : Gh} {s : SO}
theorem Ext.envM (h : Ext w T M w' T' M') (he : EnvM w M) : EnvM w' M' :=
  ⟨h.env he.1 fun k hk => (he.2 k hk).1, fun k hk => ⟨fun hm => by
    rcases h.newM k hm with h5 | h5
    · exact (he.2 k hk).1 h5
    · have := (he.2 k hk).2; omega, by have := (he.2 k hk).2; have := h.size; omega⟩⟩
theorem Aft.ext (h : Ext w T M w' T' M') (k : Aft z p w' T' M' s w2) : Aft z p w T M s w2 := by
  obtain ⟨T2, M2, G2, h1, h2⟩ := k
  exact ⟨T2, M2, G2, h1, h.trans h2⟩
theorem Ext.drewN (h : Ext w T M w' T' M') (n : Nat) : Ext w T M (w'.drewN n) T' M' := h.on ((Upd.refl [] w').drewN n) (by simp)
theorem XAt.upd_nil (h : XAt w T M z p x o G) (hu : Upd [] w w') : XAt w' T M z p x o G := ⟨hu.get h.1 (by simp), h.2.shift_nil hu⟩
theorem EnvM.upd_nil (h : EnvM w M) (hu : Upd [] w w') : EnvM w' M := ⟨h.1.upd_nil hu, fun k hk => ⟨(h.2 k hk).1, Nat.lt_of_lt_of_le (h.2 k hk).2 hu.size⟩⟩
end
/-! ### what was heard -/
theorem zeroVt (w : World) : (zeroValue 131).run Tryz.prog w = .ok (vtv Vt.zero (.slice none 0 0)) w := by kernel_rfl
theorem heard_look {w : World} {T : Nat → Prop} {g : Nat} {f : Nat → Option Vt} (h : HmAt w T g f) (k : Nat) : ∃ xk ck, Ky w T (.slice xk ((f k).getD Vt.zero).c.keys.length ck) ((f k).getD Vt.zero).c ∧
    (Instr.lookup 138 (.map (some g)) (.int .i64 (k : Int)) true).run Tryz.prog w = .ok (.tuple #[vtv ((f k).getD Vt.zero) (.slice xk ((f k).getD Vt.zero).c.keys.length ck), .bool (f k).isSome]) w ∧
    (Instr.lookup 138 (.map (some g)) (.int .i64 (k : Int)) false).run Tryz.prog w = .ok (vtv ((f k).getD Vt.zero) (.slice xk ((f k).getD Vt.zero).c.keys.length ck)) w := by
  obtain ⟨F, h1, h2⟩ := h
  have l1 := h1.look Tryz.underlying138 (zeroVt w) k
  have l2 := h1.look1 Tryz.underlying138 (zeroVt w) k
  cases hf : f k with
  | none =>
    rw [(h2 k).1 hf] at l1 l2
    exact ⟨none, 0, Ky.zero _ _, l1, l2⟩
  | some v =>
    obtain ⟨ks, h3, h4⟩ := (h2 k).2 v hf
    obtain ⟨xk, ck, rfl⟩ := h4.slice
    rw [h3] at l1 l2
    exact ⟨xk, ck, h4, l1, l2⟩
/-! ### yields -/
theorem blk_set2 {w : World} {b i : Nat} {cs : Array Value} {t : TypeId} (h : w.heap[b]? = some (.cells cs t (0, 0))) (u v : Value) : ((w.setCell ⟨b, i, none⟩ u).setCell ⟨b, i + 1, none⟩ v).heap[b]? = some (.cells ((cs.setIfInBounds i u).setIfInBounds (i + 1) v) t (0, 0)) := blk_set (blk_set h u) v
/-- No more is asked for. -/
theorem XAt.noAsk {w : World} {T M : Nat → Prop} {z p : Nat} {x : Sg} {o : Ou} {G : Gh} (h : XAt w T M z p x o G) : Aft z p w T M ({ x with asks := none }, o) (w.setCell ⟨p, 19, none⟩ (.pointer none)) := by
  have hu : Upd [p] w (w.setCell ⟨p, 19, none⟩ (.pointer none)) := (Upd.refl [p] w).setCell (p := ⟨p, 19, none⟩) (.inl (by simp)) _
  have h5 := (h.2.shift hu (fun k hk => by simp at hk; exact .inl hk)).asks' (Upd.refl [] _) (akv := .pointer none) (ab := none) (gb := none) (asks' := none) (by simp) ⟨rfl, rfl, rfl⟩ (by simp) (by simp) (by simp)
  refine ⟨T, _, { G with akv := .pointer none, ab := none, gb := none }, ⟨?_, h5⟩, (((Ext.refl w T M).on hu (fun k hk => by simp at hk; subst hk; exact .inl h.2.pM)).plus (o := none) (by simp)).plus (o := none) (by simp)⟩
  exact blk_set (i := 19) h.1 (.pointer none)
set_option maxRecDepth 100000 in
set_option maxHeartbeats 2000000 in
theorem yields_any {T M : Nat → Prop} {z p : Nat} {x : Sg} {o : Ou} {G : Gh} {b : Bal} (w : World) (h : XAt w T M z p x o G) :
    Calls Tryz.prog 104 #[.pointer (some ⟨p, 0, none⟩), balV b] w fun e w' => e = .returned (.tuple #[]) ∧ Aft z p w T M (yieldsM b x, o) w' := by
  obtain ⟨self, n, log, app, promise, seen, vote, waits, asks⟩ := x
  have X0 := hide h
  have hA := h.2.asks
  have hpl := blk_lt h.1
  clear h
  go_enter Tryz.func104, Tryz.ntmps104
  have hB := blk_new w (.cells #[.int .u64 (b.n : Int), .int .i64 b.r] TBa)
  have hal := (Upd.refl [] w).alloc (.cells #[.int .u64 (b.n : Int), .int .i64 b.r] TBa)
  go_upto_region 1 with fail
  generalize w.alloc (.cells #[.int .u64 (b.n : Int), .int .i64 b.r] TBa) = w1 at *
  have X1 := hide (X0.out.upd_nil hal)
  have E1 := hide (Ext.of_nil hal T M)
  obtain ⟨B, hBn⟩ : ∃ B, w.heap.size = B := ⟨_, rfl⟩
  rw [hBn] at hB ⊢
  have BL := hide hB
  cases asks with
  | none =>
    obtain ⟨h1, -⟩ := hA
    have c19 : w1.cell? ⟨p, 19, none⟩ = some (.pointer none) := by rw [← h1]; exact blk_cell X1.out.1 rfl
    have c19' : ∀ k, (w1.drewN k).cell? ⟨p, 19, none⟩ = some (.pointer none) := fun k => c19
    clear hB hBn h1 hal
    go_quiet (fail)
    go_wp2_with fail
    go_end0
    exact ⟨rfl, _, _, _, X1.out.upd_nil ((Upd.refl [] w1).drewN _), E1.out.drewN _⟩
  | some a =>
    have hA1 := X1.out.2.asks
    obtain ⟨ab, g, ks, h1, h2, h3, h4, h5, h6⟩ := hA1
    have c19 : ∀ wx, Upd [] w1 wx → wx.cell? ⟨p, 19, none⟩ = some (.pointer (some ⟨ab, 0, none⟩)) := fun wx hx => by rw [← h1]; exact blk_cell (hx.get X1.out.1 (by simp)) rfl
    have a0 : ∀ wx, Upd [] w1 wx → wx.cell? ⟨ab, 0, none⟩ = some (.int .u64 (a.b.n : Int)) := fun wx hx => blk_cell (hx.get h4 (by simp)) rfl
    have a1 : ∀ wx, Upd [] w1 wx → wx.cell? ⟨ab, 1, none⟩ = some (.int .i64 a.b.r) := fun wx hx => blk_cell (hx.get h4 (by simp)) rfl
    have b0 : ∀ wx, Upd [] w1 wx → wx.cell? ⟨B, 0, none⟩ = some (.int .u64 (b.n : Int)) := fun wx hx => blk_cell (hx.get BL.out (by simp)) rfl
    have b1 : ∀ wx, Upd [] w1 wx → wx.cell? ⟨B, 1, none⟩ = some (.int .i64 b.r) := fun wx hx => blk_cell (hx.get BL.out (by simp)) rfl
    have C19 := hide c19; have A0 := hide a0; have A1 := hide a1; have B0 := hide b0; have B1 := hide b1
    clear h1 h2 h3 h4 h5 h6 hB hBn c19 a0 a1 b0 b1 hA
    have s0 : Upd [] w1 (w1.drewN 1) := (Upd.refl [] w1).drewN 1
    refine wp_region_z (fun wx => Upd [] w1 wx) 99 (by kernel_rfl) ?_
    refine zE 0 rfl (by kernel_rfl) (fun _ _ _ _ h => h) rfl (by exact s0) ?_
    apply Exists.intro
    refine ⟨fun wx hS => ?_, ?_⟩
    · go_simp; rfl
    simp only [Act.put, List.setIfInBounds_toArray, List.set_cons_succ, List.set_cons_zero, List.getElem_toArray, List.getElem_cons_zero]
    refine zE 1 rfl (by kernel_rfl) (fun _ _ _ _ h => h) rfl (by exact s0) ?_
    apply Exists.intro
    refine ⟨fun wx hS => ?_, ?_⟩
    · go_simp; rfl
    simp only [Act.put, zz1, zz2, zz3, zz4, zz5, zz6]
    refine zE 2 rfl (by kernel_rfl) (fun _ _ _ _ h => h) rfl (by exact s0) ?_
    apply Exists.intro
    refine ⟨fun wx hS => ?_, ?_⟩
    · go_simp; rfl
    simp only [Act.put, zz1, zz2, zz3, zz4, zz5, zz6]
    refine zE 3 rfl (by kernel_rfl) (fun _ _ _ _ h => h) rfl (by exact s0) ?_
    apply Exists.intro
    refine ⟨fun wx hS => ?_, ?_⟩
    · have c0 := C19.out _ hS; go_simp; rfl
    simp only [Act.put, zz1, zz2, zz3, zz4, zz5, zz6]
    refine zE 4 rfl (by kernel_rfl) (fun _ _ _ _ h => h) rfl (by exact s0) ?_
    apply Exists.intro
    refine ⟨fun wx hS => ?_, ?_⟩
    · go_simp; rfl
    simp only [Act.put, zz1, zz2, zz3, zz4, zz5, zz6]
    refine zE 5 rfl (by kernel_rfl) (fun _ _ _ _ h => h) rfl (by exact s0) ?_
    apply Exists.intro
    refine ⟨fun wx hS => ?_, ?_⟩
    · go_simp; rfl
    simp only [Act.put, zz1, zz2, zz3, zz4, zz5, zz6]
    refine zE 6 rfl (by kernel_rfl) (fun _ _ _ _ h => h) rfl (by exact s0) ?_
    apply Exists.intro
    refine ⟨fun wx hS => ?_, ?_⟩
    · go_simp; rfl
    simp only [Act.put, zz1, zz2, zz3, zz4, zz5, zz6]
    refine zE 7 rfl (by kernel_rfl) (fun _ _ _ _ h => h) rfl (by exact s0) ?_
    apply Exists.intro
    refine ⟨fun wx hS => ?_, ?_⟩
    · go_simp; rfl
    simp only [Act.put, zz1, zz2, zz3, zz4, zz5, zz6]
    refine zE 8 rfl (by kernel_rfl) (fun _ _ _ _ h => h) rfl (by exact s0) ?_
    apply Exists.intro
    refine ⟨fun wx hS => ?_, ?_⟩
    · go_simp; rfl
    simp only [Act.put, zz1, zz2, zz3, zz4, zz5, zz6]
    refine zE 9 rfl (by kernel_rfl) (fun _ _ _ _ h => h) rfl (by exact s0) ?_
    apply Exists.intro
    refine ⟨fun wx hS => ?_, ?_⟩
    · have c0 := C19.out _ hS; go_simp; rfl
    simp only [Act.put, zz1, zz2, zz3, zz4, zz5, zz6]
    refine zE 10 rfl (by kernel_rfl) (fun _ _ _ _ h => h) rfl (by exact s0) ?_
    apply Exists.intro
    refine ⟨fun wx hS => ?_, ?_⟩
    · go_simp; rfl
    simp only [Act.put, zz1, zz2, zz3, zz4, zz5, zz6]
    refine zE 11 rfl (by kernel_rfl) (fun _ _ _ _ h => h) rfl (by exact s0) ?_
    apply Exists.intro
    refine ⟨fun wx hS => ?_, ?_⟩
    · go_simp; rfl
    simp only [Act.put, zz1, zz2, zz3, zz4, zz5, zz6]
    refine zE 12 rfl (by kernel_rfl) (fun _ _ _ _ h => h) rfl (by exact s0) ?_
    apply Exists.intro
    refine ⟨fun wx hS => ?_, ?_⟩
    · have c0 := A0.out _ hS ; have c1 := A1.out _ hS; go_simp; rfl
    simp only [Act.put, zz1, zz2, zz3, zz4, zz5, zz6]
    refine zE 13 rfl (by kernel_rfl) (fun _ _ _ _ h => h) rfl (by exact s0) ?_
    apply Exists.intro
    refine ⟨fun wx hS => ?_, ?_⟩
    · have c0 := B0.out _ hS ; have c1 := B1.out _ hS; go_simp; rfl
    simp only [Act.put, zz1, zz2, zz3, zz4, zz5, zz6]
    refine wpAnyZ_one 14 (by kernel_rfl) rfl rfl (fun K hK => ?_)
    try simp only [List.getElem_toArray, List.getElem_cons_succ, List.getElem_cons_zero]
    go_simp
    obtain ⟨L, hL⟩ : ∃ L, decide (bLess ⟨a.b.n, a.b.r⟩ ⟨b.n, b.r⟩) = L := ⟨_, rfl⟩
    have hl := less_nr a.b.n b.n a.b.r b.r (w1.drewN 1)
    rw [hL] at hl
    refine hl.mono ?_
    rintro e w3 ⟨rfl, hu3⟩
    have s3 := s0.trans hu3
    clear hl hu3 s0
    refine hK _ _ (.inr s3) ?_
    clear hK K
    try simp only [Act.put, zz1, zz2, zz3]
    refine zE 15 rfl (by kernel_rfl) (fun _ _ _ _ h => h) rfl (by exact s3) ?_
    apply Exists.intro
    refine ⟨fun wx hS => ?_, ?_⟩
    · go_simp; rfl
    simp only [Act.put, zz1, zz2, zz3, zz4, zz5, zz6]
    refine wpAnyZ_done (by kernel_rfl) ?_ _
    have X3 := hide (X1.out.upd_nil s3); have E3 := hide (E1.out.on s3 (by simp))
    have HL := hide (show decide (bLess a.b b) = L from hL)
    have f19 : w3.frozen? ⟨p, 19, none⟩ = false := blk_free X3.out.1
    have c19 := C19.out _ s3
    clear s3 hL
    cases L with
    | true =>
      go_wp2_with fail
      go_end0
      refine ⟨rfl, Aft.ext E3.out ?_⟩
      have := X3.out.noAsk
      unfold yieldsM
      simp only
      rw [if_pos (by simpa using HL.out)]
      exact this
    | false =>
      go_wp2_with fail
      go_end0
      refine ⟨rfl, T, M, G, ?_, E3.out⟩
      unfold yieldsM
      simp only
      rw [if_neg (by simpa using HL.out)]
      exact X3.out
/-! ### others -/
theorem toM_succ (self : Nat) (f : Nat → Option Vt) (i : Nat) : toM self f (List.range (i + 1)) = toM self f (List.range i) ++ if (f i).isNone && decide (i ≠ self) then [i] else [] := by
  unfold toM
  rw [List.range_succ, List.filter_append]
  congr 1
  rw [List.filter_cons, List.filter_nil]
theorem others_succ {self : Nat} {f : Nat → Option Vt} {i : Nat} {m : Mg} {o : Ou} (h : ((f i).isNone && decide (i ≠ self)) = true) : othersM self (i + 1) f m o = sendM (othersM self i f m o) (i : Int) m := by
  unfold othersM sendM
  rw [toM_succ, if_pos h]
  simp
theorem others_skip {self : Nat} {f : Nat → Option Vt} {i : Nat} {m : Mg} {o : Ou} (h : ((f i).isNone && decide (i ≠ self)) = false) : othersM self (i + 1) f m o = othersM self i f m o := by
  unfold othersM
  rw [toM_succ, if_neg (by rw [h]; simp), List.append_nil]
theorem others_zero (self : Nat) (f : Nat → Option Vt) (m : Mg) (o : Ou) : othersM self 0 f m o = o := by simp [othersM, toM]
theorem others_len (self n : Nat) (f : Nat → Option Vt) (m : Mg) (o : Ou) : (othersM self n f m o).send.length ≤ o.send.length + n := by
  unfold othersM toM
  simp only [List.length_append, List.length_map]
  have := List.length_filter_le (fun r => (f r).isNone && decide (r ≠ self)) (List.range n)
  rw [List.length_range] at this
  omega
def Mg.at (m : Mg) (s : Nat) : Mg := { m with slot := s }
set_option maxRecDepth 100000 in
set_option maxHeartbeats 4000000 in
theorem others_any {T M : Nat → Prop} {z p : Nat} {x : Sg} {o : Ou} {G : Gh} {a : Ak} {m : Mg} {ks : Value} (w : World) (h : XAt w T M z p x o G) (ha : x.asks = some a) (hm : m.Ok) (hk : Ky w T ks m.cmd) (hz : z ≤ w.heap.size) (hl : x.log.length ≤ 1000000) (hn : x.n ≤ 7) (hs : x.self < x.n) (ho : o.send.length ≤ 100000) :
    Calls Tryz.prog 62 #[.pointer (some ⟨p, 0, none⟩), mgv m ks] w fun e w' => e = .returned (.tuple #[]) ∧ Aft z p w T M (x, othersM x.self x.n a.heard (m.at x.slot) o) w' := by
  obtain ⟨xk, ck, rfl⟩ := hk.slice
  have X0 := hide h; have K0 := hide hk; have OKM := hide hm; have HA := hide ha
  have hpl := blk_lt h.1
  clear h hk hm ha
  unfold mgv
  simp only [strV]
  go_enter Tryz.func62, Tryz.ntmps62
  go_upto_region 1 with fail
  have hB := blk_new w (.cells (mgA m (.slice xk m.cmd.keys.length ck)) TMg)
  have hal := (Upd.refl [] w).alloc (.cells (mgA m (.slice xk m.cmd.keys.length ck)) TMg)
  change Code.wp _ _ _ _ (w.alloc (.cells (mgA m (.slice xk m.cmd.keys.length ck)) TMg))
  generalize w.alloc (.cells (mgA m (.slice xk m.cmd.keys.length ck)) TMg) = w1 at *
  have X1 := hide (X0.out.upd_nil hal); have K1 := hide (K0.out.upd hal (by simp)); have E1 := hide (Ext.of_nil hal T M)
  obtain ⟨B, hBn⟩ : ∃ B, w.heap.size = B := ⟨_, rfl⟩
  have NB : Hid (¬ M B ∧ ¬ T B) := hide (by rw [← hBn]; exact X0.out.2.apt.new (Nat.le_refl _))
  have HBn := hide hBn
  have hz1 := hal.size
  rw [hBn] at hB hpl hz1 hz ⊢
  have B1 := hide hB
  clear hB hBn hal X0 K0
  go_wp2_with fail
  refine (slot_any w1 X1.out hl).mono ?_
  rintro e w2 ⟨rfl, rfl⟩
  have f1 : w1.frozen? ⟨B, 1, none⟩ = false := blk_free B1.out
  have y1 : w1.cell? ⟨B, 1, none⟩ = some (.int .u64 (m.slot : Int)) := blk_cell B1.out rfl
  have c1 : ∀ v, (w1.setCell ⟨B, 1, none⟩ v).cell? ⟨p, 1, none⟩ = some (.int .i64 (x.n : Int)) := fun v => by
    have := (((Upd.refl [B] w1).setCell (p := ⟨B, 1, none⟩) (.inl (by simp)) v)).get X1.out.1 (by simp; omega)
    exact blk_cell this rfl
  go_wp2_with fail
  have us : Upd [B] w1 (w1.setCell ⟨B, 1, none⟩ (.int .u64 (x.slot : Int))) := (Upd.refl [B] w1).setCell (p := ⟨B, 1, none⟩) (.inl (by simp)) _
  have hB2 := blk_set (i := 1) B1.out (.int .u64 (x.slot : Int))
  clear c1 f1 y1
  generalize w1.setCell ⟨B, 1, none⟩ (.int .u64 (x.slot : Int)) = w2 at *
  have X2 := hide (show XAt w2 T M z p x o G from ⟨us.get X1.out.1 (by simp; omega), X1.out.2.shift us (fun k hk => by simp at hk; subst hk; exact .inr NB.out)⟩)
  have K2 := hide (K1.out.upd us (fun k hk => by simp at hk; subst hk; exact NB.out.2))
  have E2 := hide (E1.out.on us (fun k hk => by simp at hk; subst hk; have := HBn.out; exact .inr (by omega)))
  have B2 := hide (show w2.heap[B]? = some (.cells (mgA (m.at x.slot) (.slice xk m.cmd.keys.length ck)) TMg (0, 0)) from hB2)
  have hz2 := us.size
  have hBl := blk_lt hB2
  clear us hB2 X1 K1 E1 B1
  go_loopw [14] (fun si wx => ∃ i : Nat, i ≤ x.n ∧ si = .int .i64 i ∧ ∃ T' M' G', XAt wx T' M' z p x (othersM x.self i a.heard (m.at x.slot) o) G' ∧ Ext w T M wx T' M' ∧ wx.heap[B]? = some (.cells (mgA (m.at x.slot) (.slice xk m.cmd.keys.length ck)) TMg (0, 0)) ∧ (¬ M' B ∧ ¬ T' B) ∧ Ky wx T' (.slice xk m.cmd.keys.length ck) m.cmd) (fun si wx => x.n - (RowKit.intOf si).toNat)
  case atStart => exact ⟨0, by omega, rfl, T, M, G, by rw [others_zero]; exact X2.out, E2.out, B2.out, NB.out, K2.out⟩
  case round =>
    obtain ⟨i, hi, rfl, T', M', G', hX, hE, hB, hN, hK⟩ := hrel
    have XX := hide hX; have EE := hide hE; have BB := hide hB; have NN := hide hN; have KK := hide hK
    have hzr := hE.size
    clear hX hE hB hN hK X2 E2 B2 NB K2
    by_cases hlt : i < x.n
    · have d1 : decide ((i : Int) < x.n) = true := by simp; omega
      have d1' : decide (i < x.n) = true := by simpa using hlt
      have hA := XX.out.2.asks
      rw [HA.out] at hA
      obtain ⟨ab, g, kq, h1, h2, h3, h4, h5, h6⟩ := hA
      have c19 : wr.cell? ⟨p, 19, none⟩ = some (.pointer (some ⟨ab, 0, none⟩)) := by rw [← h1]; exact blk_cell XX.out.1 rfl
      have c0 : wr.cell? ⟨p, 0, none⟩ = some (.int .i64 (x.self : Int)) := blk_cell XX.out.1 rfl
      have a10 : wr.cell? ⟨ab, 10, none⟩ = some (.map (some g)) := blk_cell h4 rfl
      obtain ⟨xv, cv, -, lk, -⟩ := heard_look h5 i
      unfold vtv at lk
      simp only [strV] at lk
      have hpr := blk_lt XX.out.1
      have y := mg_cells BB.out
      have Y := hide y
      clear h1 h2 h3 h4 h5 h6 y
      cases hf : a.heard i with
      | some v =>
        have HF := hide hf
        rw [hf] at lk
        simp only [Option.getD_some, Option.isSome_some] at lk
        clear hf
        go_wp2_with fail
        go_roundw
        case rel =>
          have hal := (Upd.refl [] wr).alloc (.cells #[.bool v.has, .int .u64 (v.b.n : Int), .int .i64 v.b.r, .int .u32 (v.c.client : Int), .int .u32 (v.c.seq : Int), .int .u8 (v.c.kind : Int), .slice xv v.c.keys.length cv, .string (strOf v.c.old), .string (strOf v.c.new), .int .i64 v.c.n] 131)
          exact ⟨i + 1, by omega, by go_num, T', M', G', by rw [others_skip (by rw [HF.out]; rfl)]; exact XX.out.upd_nil hal, EE.out.on hal (by simp), hal.get BB.out (by simp), NN.out, KK.out.upd hal (by simp)⟩
        case measure => simp [RowKit.intOf]; omega
      | none =>
        have HF := hide hf
        rw [hf] at lk
        simp only [Option.getD_none, Option.isSome_none, Vt.zero, Bal.zero, Cm.zero] at lk
        clear hf
        by_cases his : i = x.self
        · have d2 : ((i : Int) != (x.self : Int)) = false := by simp; omega
          have HIS := hide his
          clear his
          go_wp2_with fail
          go_roundw
          case rel =>
            have hal := (Upd.refl [] wr).alloc (.cells #[.bool false, .int .u64 0, .int .i64 0, .int .u32 0, .int .u32 0, .int .u8 0, .slice xv 0 cv, .string (strOf []), .string (strOf []), .int .i64 0] 131)
            exact ⟨i + 1, by omega, by go_num, T', M', G', by rw [others_skip (by rw [HF.out, HIS.out]; simp)]; exact XX.out.upd_nil hal, EE.out.on hal (by simp), hal.get BB.out (by simp), NN.out, KK.out.upd hal (by simp)⟩
          case measure => simp [RowKit.intOf]; omega
        · have d2 : ((i : Int) != (x.self : Int)) = true := by simp; omega
          have HIS := hide his
          clear his
          go_upto_region 7 with fail
          have hal := (Upd.refl [] wr).alloc (.cells #[.bool false, .int .u64 0, .int .i64 0, .int .u32 0, .int .u32 0, .int .u8 0, .slice xv 0 cv, .string (strOf []), .string (strOf []), .int .i64 0] 131)
          generalize wr.alloc (.cells #[.bool false, .int .u64 0, .int .i64 0, .int .u32 0, .int .u32 0, .int .u8 0, .slice xv 0 cv, .string (strOf []), .string (strOf []), .int .i64 0] 131) = w3 at *
          have X3 := hide (XX.out.upd_nil hal); have E3 := hide (EE.out.on hal (by simp)); have B3 := hide (hal.get BB.out (by simp)); have K3 := hide (KK.out.upd hal (by simp))
          have hz3 := hal.size
          have hBl3 := blk_lt B3.out
          obtain ⟨y0, y1, y2, y3, y4, y5, y6, y7, y8, y9, y10, y11, y12, y13⟩ := mg_cells B3.out
          clear hal XX EE BB KK c19 c0 a10 lk
          obtain ⟨E, hE⟩ : ∃ E, wr.heap.size = E := ⟨_, rfl⟩
          rw [hE] at hzr hz3 ⊢
          clear hE
          go_wp2_with fail
          refine (send_any (x := x) (dst := (i : Int)) (m := m.at x.slot) (ks := .slice xk m.cmd.keys.length ck) w3 X3.out ⟨OKM.out.1, by show x.log.length + 1 < _; omega, OKM.out.2.2.1, OKM.out.2.2.2.1, OKM.out.2.2.2.2⟩ K3.out (by have := HBn.out; omega) (by have := others_len x.self i a.heard (m.at x.slot) o; omega)).mono ?_
          rintro e w4 ⟨rfl, T2, M2, G2, hX, hE⟩
          have X4 := hide hX; have E4 := hide hE
          clear hX hE y0 y1 y2 y3 y4 y5 y6 y7 y8 y9 y10 y11 y12 y13
          go_wp2_with fail
          go_roundw
          case rel => exact ⟨i + 1, by omega, by go_num, T2, M2, G2, by rw [others_succ (by rw [HF.out]; simpa using HIS.out)]; exact X4.out, E3.out.trans E4.out, E4.out.get B3.out NN.out.1, E4.out.not hBl3 NN.out, E4.out.ky X3.out.2.apt.apart K3.out⟩
          case measure => simp [RowKit.intOf]; omega
    · have d1 : decide ((i : Int) < x.n) = false := by simp; omega
      have d1' : decide (i < x.n) = false := by simp; omega
      go_wp2_with fail
      go_end0
      have : i = x.n := by omega
      subst this
      exact ⟨rfl, _, _, _, XX.out, EE.out⟩
end Go.Proofs.YtanjnhohfcgapaaGreatDoor.Sg
