/- translate: clones, a command copied, all commands, all answers. -/
import Derived.Test.YtfmaflaoplkdbaaGreatDoorCmX
import Derived.Laws.Cover3
set_option linter.unusedSimpArgs false
set_option linter.unusedVariables false
set_option linter.unnecessarySimpa false
namespace Go.Proofs.YtfmaflaoplkdbaaGreatDoor.Tr
open Go.RowKit Go.Proofs.YtfmaflaoplkdbaaGreatDoor.Crc Go.Proofs.YtfmaflaoplkdbaaGreatDoor.Cm Go.Proofs.YtfmaflaoplkdbaaGreatDoor.Var

theorem owns_block {w : World} {base b n : Nat} {cs : Array Value} {e : TypeId} {xs : List Value} {z : Nat} (h : w.heap[b]? = some (.cells cs e (0, 0))) (hb : base ≤ b) (hc : cs.toList = xs) (hn : xs.length = n * z) (hm : n ≤ maxLen) :
    w.ownsRow base e z (.slice (some ⟨b, 0, none⟩) n n) n xs := by
  refine ⟨hn, .inr ⟨b, n, cs, rfl, hb, h, Nat.le_refl _, hm, ?_, ?_⟩⟩
  · rw [← hn, ← hc]; simp
  · rw [hc, List.take_of_length_le (by omega)]
theorem infoA : (Tryz.prog.info? 39).map (fun i => (i.zero, i.size, i.bytes)) = some (some (.agg #[.int .u32 0, .int .u32 0, .int .u8 0, .string ByteArray.empty]), 4, 32) := by kernel_rfl
theorem since_own {w0 w w' : World} {v v' : Value} (hg : ∀ g, v'.ownBlock = some g → v.ownBlock = some g ∨ w.heap.size ≤ g) (hv : ∀ g, v.ownBlock = some g → w0.heap.size ≤ g) (hs : w0.heap.size ≤ w.heap.size) (hl : ∀ g, v'.ownBlock = some g → g < w'.heap.size) : ∀ k, v'.ownBlock = some k → since w0.heap.size w' k := fun k hk => by
  refine ⟨?_, hl k hk⟩
  rcases hg k hk with h | h
  · exact hv k h
  · omega
theorem eq_nil (t e : TypeId) (h : Tryz.prog.underlying t = some (.slice e)) (xo : Option Addr) (l c : Nat) (w : World) : (binOp .eql t (.slice xo l c) (.slice none 0 0)).run Tryz.prog w = .ok (.bool xo.isNone) w := by
  have := run_equal_slice_nil (P := Tryz.prog) w t e xo l c h
  unfold binOp
  simp only [Sem.run_bind, this, Result.andThen_ok, Sem.run_pure]
set_option maxRecDepth 100000 in
set_option maxHeartbeats 1000000 in
theorem clones_any {T : Nat → Prop} {v : Value} {l : List (List UInt8)} (w : World) (h : Strs w T v l) (hl : l.length * 16 ≤ 140737488355328) :
    Calls Tryz.prog 105 #[v] w fun e w' => (∃ v', e = .returned v' ∧ Strs w' (since w.heap.size w') v' l) ∧ Upd [] w w' := by
  obtain ⟨xo, c, rfl, hs, hc, hcm, hT⟩ := h
  have hq := eq_nil 23 _ Tryz.underlying23
  cases xo with
  | none =>
    obtain ⟨h0, rfl⟩ := hs.nil rfl
    have : l = [] := List.eq_nil_of_length_eq_zero h0
    subst this
    clear hs hT
    go_enter Tryz.func105, Tryz.ntmps105
    go_wp2_with fail
    go_ret
    exact ⟨⟨_, rfl, Strs.nil _ _⟩, Upd.refl _ _⟩
  | some a =>
    have HS := hide hs
    obtain ⟨i1, hi1, hz0, hz1, hz2⟩ := info_parts infoS
    clear hs hT
    go_enter Tryz.func105, Tryz.ntmps105
    go_wp2_with (at_builtin; go_must (refine wpList_append_src _ rfl _ _ 23 rfl w.heap.size 9 i1 (.string ByteArray.empty) 1 16 Tryz.underlying23 hi1 hz0 hz1 hz2 rfl (by decide) (.slice (some ⟨w.heap.size, 0, none⟩) 0 0) 0 [] rfl (owns_block (blk_new _ _) (Nat.le_refl _) rfl rfl (by decide)) (some a) l.length c (l.map strV) rfl (srcS_upd HS.out ((Upd.refl [] w).alloc _) (by simp)) (by unfold maxLen; omega) (by omega) (by simp) ?_))
    intro ao1 cap1 w1 hown1 hU1 hn1
    have hu := ((Upd.refl [] w).alloc (.cells #[] 9)).trans_new hU1 (fun k hk => .inr (by simp [Value.ownBlock] at hk; omega))
    have hs1 := strs_own (l := l) hown1 rfl
    have HU := hide hu; have HS1 := hide (hs1.mono (fun g hg => owns_lt hown1 g hg))
    clear hu hs1 hown1 hU1 hn1
    go_wp2_with fail
    go_ret
    exact ⟨⟨_, rfl, HS1.out⟩, HU.out⟩
set_option maxRecDepth 100000 in
set_option maxHeartbeats 1000000 in
theorem clonea_any {T : Nat → Prop} {v : Value} {l : List An} (w : World) (h : anK.row w T v l) (hl : l.length * 32 ≤ 140737488355328) :
    Calls Tryz.prog 104 #[v] w fun e w' => (∃ v', e = .returned v' ∧ anK.row w' (since w.heap.size w') v' l) ∧ Upd [] w w' := by
  obtain ⟨xo, c, css, rfl, he, hzz, hs, hc, hcm, hT⟩ := h
  have hq := eq_nil 46 _ Tryz.underlying46
  cases xo with
  | none =>
    obtain ⟨h0, rfl⟩ := hs.nil rfl
    have : l = [] := List.eq_nil_of_length_eq_zero h0
    subst this
    clear hs hT he hzz
    go_enter Tryz.func104, Tryz.ntmps104
    go_wp2_with fail
    go_ret
    exact ⟨⟨_, rfl, anK.row_nil _ _⟩, Upd.refl _ _⟩
  | some a =>
    have HS := hide hs; have HE := hide he
    obtain ⟨i1, hi1, hz0, hz1, hz2⟩ := info_parts infoA
    clear hs hT he hzz
    go_enter Tryz.func104, Tryz.ntmps104
    go_wp2_with (at_builtin; go_must (refine wpList_append_src _ rfl _ _ 46 rfl w.heap.size 39 i1 (.agg #[.int .u32 0, .int .u32 0, .int .u8 0, .string ByteArray.empty]) 4 32 Tryz.underlying46 hi1 hz0 hz1 hz2 rfl (by decide) (.slice (some ⟨w.heap.size, 0, none⟩) 0 0) 0 [] rfl (owns_block (blk_new _ _) (Nat.le_refl _) rfl rfl (by decide)) (some a) l.length c css.flatten rfl (srcG_upd HS.out ((Upd.refl [] w).alloc _) (by simp)) (by unfold maxLen; omega) (by omega) (by simp) ?_))
    intro ao1 cap1 w1 hown1 hU1 hn1
    have hu := ((Upd.refl [] w).alloc (.cells #[] 39)).trans_new hU1 (fun k hk => .inr (by simp [Value.ownBlock] at hk; omega))
    have hb : anK.bag 39 w1 w.heap.size (.slice ao1 l.length cap1) l := Kind.bag_of (HE.out.mono fun _ _ _ h => h) hown1
    have HU := hide hu; have HB := hide (anK.bag_row hb)
    clear hu hb hown1 hU1 hn1
    go_wp2_with fail
    go_ret
    exact ⟨⟨_, rfl, HB.out⟩, HU.out⟩
theorem results_cell1 {fn : Func} {p : Tmp} {ty : TypeId} (h : fn.results = #[.cell p ty]) (tmps : Array Value) (P : Program) (w : World) :
    (results fn tmps).run P w = ((asAddr (tmps.getD p undef)).run P w).andThen fun a w₁ => (loadVar ty a).run P w₁ := by
  simp only [results, h]
  simp [Sem.run_bind, Result.andThen]
theorem ret_cm1 {fn : Func} {p : Tmp} {B : Nat} {v0 v1 v2 v3 v4 v5 v6 : Value} {W : World} {act : Act} {post : Ending → World → Prop} (hW : W.heap[B]? = some (.cells #[v0, v1, v2, v3, v4, v5, v6] TCmd (0, 0)))
    (hfn : fn.results = #[.cell p TCmd]) (hp : act.tmps.getD p undef = .pointer (some ⟨B, 0, none⟩)) (hd : act.defers = []) (h : post (.returned (.agg #[v0, v1, v2, v3, v4, v5, v6])) W) :
    bodyPost Tryz.prog fn post Exit.ret act W := by
  have z0 : W.cell? ⟨B, 0, none⟩ = some v0 := blk_cell hW rfl
  have z1 : W.cell? ⟨B, 1, none⟩ = some v1 := blk_cell hW rfl
  have z2 : W.cell? ⟨B, 2, none⟩ = some v2 := blk_cell hW rfl
  have z3 : W.cell? ⟨B, 3, none⟩ = some v3 := blk_cell hW rfl
  have z4 : W.cell? ⟨B, 4, none⟩ = some v4 := blk_cell hW rfl
  have z5 : W.cell? ⟨B, 5, none⟩ = some v5 := blk_cell hW rfl
  have z6 : W.cell? ⟨B, 6, none⟩ = some v6 := blk_cell hW rfl
  refine bodyPost_ret (v := .agg #[v0, v1, v2, v3, v4, v5, v6]) ?_ hd h
  rw [results_cell1 hfn, hp]
  go_simp
set_option maxRecDepth 100000 in
set_option maxHeartbeats 2000000 in
theorem copied_any {T : Nat → Prop} {v : Value} {c : Cm} (w : World) (h : CmAt w T v c) (hl : c.keys.length * 16 ≤ 140737488355328) :
    Calls Tryz.prog 62 #[v] w fun e w' => (∃ v', e = .returned v' ∧ CmAt w' (since w.heap.size w') v' c) ∧ Upd [] w w' := by
  obtain ⟨fit, ks, rfl, hks⟩ := h
  obtain ⟨ka, kc, rfl, -, -, -⟩ := hks.get
  have KS := hide hks; have FIT := hide fit
  clear hks fit
  unfold cmv
  simp only [strV]
  go_enter Tryz.func62, Tryz.ntmps62
  go_wp2_with fail
  have hX := blk_alloc (blk_new w (.cells #[.int .u32 (c.client : Int), .int .u32 (c.seq : Int), .int .u8 (c.kind : Int), .slice ka c.keys.length kc, .string (strOf c.old), .string (strOf c.new), .int .i64 c.n] TCmd)) (.cells #[.int .u32 0, .int .u32 0, .int .u8 0, .slice none 0 0, .string ⟨#[]⟩, .string ⟨#[]⟩, .int .i64 0] TCmd)
  have hY := blk_new (w.alloc (.cells #[.int .u32 (c.client : Int), .int .u32 (c.seq : Int), .int .u8 (c.kind : Int), .slice ka c.keys.length kc, .string (strOf c.old), .string (strOf c.new), .int .i64 c.n] TCmd)) (.cells #[.int .u32 0, .int .u32 0, .int .u8 0, .slice none 0 0, .string ⟨#[]⟩, .string ⟨#[]⟩, .int .i64 0] TCmd)
  have hU := ((Upd.refl [] w).alloc (.cells #[.int .u32 (c.client : Int), .int .u32 (c.seq : Int), .int .u8 (c.kind : Int), .slice ka c.keys.length kc, .string (strOf c.old), .string (strOf c.new), .int .i64 c.n] TCmd)).alloc (.cells #[.int .u32 0, .int .u32 0, .int .u8 0, .slice none 0 0, .string ⟨#[]⟩, .string ⟨#[]⟩, .int .i64 0] TCmd)
  rw [World.size_alloc] at hY
  have hsz0 : ∀ o1 o2, ((w.alloc o1).alloc o2).heap.size = w.heap.size + 2 := fun _ _ => by simp
  have hsz := hsz0 (.cells #[.int .u32 (c.client : Int), .int .u32 (c.seq : Int), .int .u8 (c.kind : Int), .slice ka c.keys.length kc, .string (strOf c.old), .string (strOf c.new), .int .i64 c.n] TCmd) (.cells #[.int .u32 0, .int .u32 0, .int .u8 0, .slice none 0 0, .string ⟨#[]⟩, .string ⟨#[]⟩, .int .i64 0] TCmd)
  clear hsz0
  generalize (w.alloc (.cells #[.int .u32 (c.client : Int), .int .u32 (c.seq : Int), .int .u8 (c.kind : Int), .slice ka c.keys.length kc, .string (strOf c.old), .string (strOf c.new), .int .i64 c.n] TCmd)).alloc (.cells #[.int .u32 0, .int .u32 0, .int .u8 0, .slice none 0 0, .string ⟨#[]⟩, .string ⟨#[]⟩, .int .i64 0] TCmd) = W at *
  refine (clones_any (l := c.keys) W (KS.out.upd_nil hU) hl).mono ?_
  rintro e w1 ⟨⟨v', rfl, hs⟩, hu1⟩
  obtain ⟨xo, cp, rfl, -, -, -⟩ := hs.get
  have X1 := hide (hu1.get hX (by simp)); have Y1 := hide (hu1.get hY (by simp)); have U1 := hide (hU.trans hu1); have S1 := hide hs
  clear hX hY hU hu1 hs
  have x0 : w1.cell? ⟨w.heap.size, 0, none⟩ = some (.int .u32 (c.client : Int)) := blk_cell X1.out rfl
  have x1 : w1.cell? ⟨w.heap.size, 1, none⟩ = some (.int .u32 (c.seq : Int)) := blk_cell X1.out rfl
  have x2 : w1.cell? ⟨w.heap.size, 2, none⟩ = some (.int .u8 (c.kind : Int)) := blk_cell X1.out rfl
  have x3 : w1.cell? ⟨w.heap.size, 3, none⟩ = some (.slice ka c.keys.length kc) := blk_cell X1.out rfl
  have x4 : w1.cell? ⟨w.heap.size, 4, none⟩ = some (.string (strOf c.old)) := blk_cell X1.out rfl
  have x5 : w1.cell? ⟨w.heap.size, 5, none⟩ = some (.string (strOf c.new)) := blk_cell X1.out rfl
  have x6 : w1.cell? ⟨w.heap.size, 6, none⟩ = some (.int .i64 c.n) := blk_cell X1.out rfl
  have y0 : w1.cell? ⟨w.heap.size + 1, 0, none⟩ = some (.int .u32 0) := blk_cell Y1.out rfl
  have y1 : w1.cell? ⟨w.heap.size + 1, 1, none⟩ = some (.int .u32 0) := blk_cell Y1.out rfl
  have y2 : w1.cell? ⟨w.heap.size + 1, 2, none⟩ = some (.int .u8 0) := blk_cell Y1.out rfl
  have y3 : w1.cell? ⟨w.heap.size + 1, 3, none⟩ = some (.slice none 0 0) := blk_cell Y1.out rfl
  have y4 : w1.cell? ⟨w.heap.size + 1, 4, none⟩ = some (.string ⟨#[]⟩) := blk_cell Y1.out rfl
  have y5 : w1.cell? ⟨w.heap.size + 1, 5, none⟩ = some (.string ⟨#[]⟩) := blk_cell Y1.out rfl
  have y6 : w1.cell? ⟨w.heap.size + 1, 6, none⟩ = some (.int .i64 0) := blk_cell Y1.out rfl
  have xf : ∀ i, w1.frozen? ⟨w.heap.size, i, none⟩ = false := fun i => blk_free X1.out
  have yf : ∀ i, w1.frozen? ⟨w.heap.size + 1, i, none⟩ = false := fun i => blk_free Y1.out
  go_wp2_with fail
  have hu2 : Upd [w.heap.size] w1 (w1.setCell ⟨w.heap.size, 3, none⟩ (.slice xo c.keys.length cp)) := (Upd.refl _ _).setCell (.inl (by simp)) _
  have hY2 := hu2.get Y1.out (by simp)
  obtain ⟨W3, e3, hb3, hu3⟩ := store7 hY2 (.int .u32 (c.client : Int)) (.int .u32 (c.seq : Int)) (.int .u8 (c.kind : Int)) (.slice xo c.keys.length cp) (.string (strOf c.old)) (.string (strOf c.new)) (.int .i64 c.n)
  rw [e3]
  try simp only [Exit.inBlock, Exit.then]
  have hu4 : Upd [w.heap.size, w.heap.size + 1] w1 W3 := hu3 _ _ (hu2.mono (by simp)) (.inl (by simp))
  have hz1 := U1.out.size
  refine ret_cm1 hb3 rfl rfl rfl ⟨⟨_, rfl, FIT.out, _, rfl, (S1.out.upd hu4 (fun k hk h2 => ?_)).mono (fun k h2 => ⟨?_, ?_⟩)⟩, U1.out.trans_new hu4 (fun k hk => .inr ?_)⟩
  · have := h2.1; simp at hk; omega
  · have := h2.1; omega
  · exact Nat.lt_of_lt_of_le h2.2 hu4.size
  · simp at hk; omega
set_option maxRecDepth 100000 in
set_option maxHeartbeats 2000000 in
theorem cmds1_any {T : Nat → Prop} {slot : Int} {vc : Value} {ao' : Option Addr} {al ac' : Nat} {l : List Cm} (w : World) (h : cmK.row w T vc l) (hl : l.length ≤ 1000000) (hk : ∀ c ∈ l, c.keys.length * 16 ≤ 140737488355328) :
    Calls Tryz.prog 61 #[.agg #[.int .u64 slot, vc, .slice ao' al ac']] w fun e w' => (∃ v', e = .returned v' ∧ cmK.row w' (since w.heap.size w') v' l) ∧ Upd [] w w' := by
  obtain ⟨xo, cp, rfl, hcp, hcm, hg⟩ := Row.get cmK.hz h
  have HG := hide hg; have HK := hide hk
  simp only [maxLen] at hcm
  clear h hg hk
  obtain ⟨i1, hi1, iz0, iz1, iz2⟩ := info_parts infoC
  go_enter Tryz.func61, Tryz.ntmps61
  go_wp2_with fail
  go_loopw [3, 9] (fun so si wr => ∃ (k : Nat) (L : List Cm), L = l.take k ∧ k ≤ l.length ∧ si = .int .i64 k ∧ cmK.bag TCmd wr (w.heap.size + 1) so L ∧ w.heap.size < wr.heap.size ∧ Upd [] w wr) (fun _ si _ => l.length - (intOf si).toNat)
  case atStart => exact ⟨0, [], rfl, by omega, rfl, cmK.bag_nil _ _ _, by simp, (Upd.refl _ _).alloc _⟩
  case round =>
    obtain ⟨k, L, hL, hk, rfl, hbg, hz, hu⟩ := hrel
    have HLK := hide hL; have HLL : Hid (L.length = k) := hide (by rw [hL, List.length_take]; omega)
    clear hL
    have HBG := hide hbg; have HU := hide hu
    clear hu
    by_cases hlt : k < l.length
    · have d5 : decide ((k : Int) < l.length) = true := by simp; omega
      have d5' : decide (k < l.length) = true := by simpa using hlt
      obtain ⟨c, hi⟩ : ∃ c, l[k]? = some c := ⟨_, List.getElem?_eq_getElem hlt⟩
      have hck := HK.out c (List.mem_of_getElem? hi)
      have htk : L ++ [c] = l.take (k + 1) := by rw [HLK.out, List.take_succ_eq_append_getElem hlt]; congr 2; exact (List.getElem?_eq_some_iff.1 hi).2.symm
      obtain ⟨ao, cap, rfl, hc1, hc2⟩ := Row.slice (cmK.bag_row hbg)
      have hol2 := Own.lt hbg
      obtain ⟨b, off, cs, rfl, hb, hTb, ⟨fit, ks, rfl, hks⟩, -, hcell⟩ := HG.out k c hi
      obtain ⟨ka, kc, rfl, -, -, -⟩ := hks.get
      have cc : ∀ j u, (cmc c (.slice ka c.keys.length kc))[j]? = some u → wr.cell? ⟨b, off + k * 7 + j, none⟩ = some u := fun j u hj => by
        refine Eq.trans ?_ (hcell j u hj); show _ = w.cell? ⟨b, off + k * 7 + j, none⟩; have := HU.out.block b hb (by simp); simp only [World.cell?, this]
      have y0 : wr.cell? ⟨b, off + k * 7, none⟩ = some (.int .u32 (c.client : Int)) := cc 0 _ rfl
      have y1 : wr.cell? ⟨b, off + k * 7 + 1, none⟩ = some (.int .u32 (c.seq : Int)) := cc 1 _ rfl
      have y2 : wr.cell? ⟨b, off + k * 7 + 2, none⟩ = some (.int .u8 (c.kind : Int)) := cc 2 _ rfl
      have y3 : wr.cell? ⟨b, off + k * 7 + 3, none⟩ = some (.slice ka c.keys.length kc) := cc 3 _ rfl
      have y4 : wr.cell? ⟨b, off + k * 7 + 4, none⟩ = some (.string (strOf c.old)) := cc 4 _ rfl
      have y5 : wr.cell? ⟨b, off + k * 7 + 5, none⟩ = some (.string (strOf c.new)) := cc 5 _ rfl
      have y6 : wr.cell? ⟨b, off + k * 7 + 6, none⟩ = some (.int .i64 c.n) := cc 6 _ rfl
      have HOL := hide hol2; have HTK := hide htk; have KS := hide hks; have FIT := hide fit
      clear hbg hol2 htk hks fit hi cc hcell
      go_wp2_with fail
      have hA := (Upd.refl [] wr).alloc (.cells #[.int .u32 (c.client : Int), .int .u32 (c.seq : Int), .int .u8 (c.kind : Int), .slice ka c.keys.length kc, .string (strOf c.old), .string (strOf c.new), .int .i64 c.n] TCmd)
      have hAs : (wr.alloc (.cells #[.int .u32 (c.client : Int), .int .u32 (c.seq : Int), .int .u8 (c.kind : Int), .slice ka c.keys.length kc, .string (strOf c.old), .string (strOf c.new), .int .i64 c.n] TCmd)).heap.size = wr.heap.size + 1 := by simp
      generalize wr.alloc (.cells #[.int .u32 (c.client : Int), .int .u32 (c.seq : Int), .int .u8 (c.kind : Int), .slice ka c.keys.length kc, .string (strOf c.old), .string (strOf c.new), .int .i64 c.n] TCmd) = w0 at *
      refine (copied_any (c := c) w0 ⟨FIT.out, _, rfl, KS.out.upd_nil (HU.out.trans hA)⟩ hck).mono ?_
      rintro e w1 ⟨⟨v', rfl, fit', ks', rfl, hks'⟩, hu1⟩
      obtain ⟨kb, kd, rfl, -, -, -⟩ := hks'.get
      have hu01 := hA.trans hu1
      have hs1 := hu01.size
      have hks1 : Strs w1 (beside (w.heap.size + 1) w1 (.slice ao L.length cap)) (.slice kb c.keys.length kd) c.keys := hks'.mono (since_beside (fun g hg => by have := (HOL.out g hg).2; omega) (by omega))
      have hal := (Upd.refl [] w1).alloc (.cells (cmc c (.slice kb c.keys.length kd)).toArray TCmd)
      have hks6 : cmK.holds (w1.alloc (.cells (cmc c (.slice kb c.keys.length kd)).toArray TCmd)) (beside (w.heap.size + 1) (w1.alloc (.cells (cmc c (.slice kb c.keys.length kd)).toArray TCmd)) (.slice ao L.length cap)) c (cmc c (.slice kb c.keys.length kd)) :=
        ⟨FIT.out, _, rfl, (hks1.upd_nil hal).mono (fun g hg => ⟨hg.1, Nat.lt_of_lt_of_le hg.2.1 hal.size, hg.2.2⟩)⟩
      obtain ⟨css, hcss, hrow⟩ := cmK.bag_open (cmK.bag_upd_nil (cmK.bag_upd_nil HBG.out hu01) hal)
      have hcl := hcss.len
      have hz1 : w.heap.size < w1.heap.size := by omega
      have hlk : L.length ≤ 1000000 := by have := HLL.out; omega
      have HKS := hide hks6; have HCSS := hide hcss; have HROW := hide hrow; have U1 := hide (HU.out.trans hu01)
      clear hks1 hal hks6 hcss hrow hA hu1 hu01 hks' fit' HBG HU
      unfold cmv
      simp only [strV]
      go_wp2_with (at_builtin; go_must (refine wpList_append_src _ rfl _ _ 31 rfl (w.heap.size + 1) TCmd i1 (.agg ZA) 7 80 Tryz.underlying31 hi1 iz0 iz1 iz2 rfl (by decide) (.slice ao L.length cap) L.length css.flatten rfl HROW.out (some ⟨w1.heap.size, 0, none⟩) 1 1 (cmc c (.slice kb c.keys.length kd)) rfl (cmc_src (blk_new _ _) rfl) (by unfold maxLen; omega) (by omega) (by simp; omega) ?_))
      intro ao6 cap6 w6 hown6 hU6 hn6
      have bg6 := Kind.bag_more HCSS.out HKS.out hown6 rfl hU6 (by simpa using hn6)
      have hU6' := grown_upd hU6
      have u6 := U1.out.trans_new hU6' (fun g hm => .inr (by have := HOL.out _ (by simpa using hm); omega))
      have hz6 : w.heap.size < w6.heap.size := by have := hU6'.size; omega
      have BG6 := hide bg6; have U6 := hide u6
      clear hown6 hU6 hU6' hn6 bg6 u6
      go_wp2_with fail
      go_roundw
      case rel => exact ⟨k + 1, L ++ [c], HTK.out, by omega, by go_num, BG6.out, hz6, U6.out⟩
      case measure => simp [intOf]; omega
    · have hkn : k = l.length := by omega
      have d5 : decide ((k : Int) < l.length) = false := by simp; omega
      have d5' : decide (k < l.length) = false := by simp; omega
      have hbg' := HBG.out
      rw [HLK.out, hkn, List.take_length] at hbg'
      have HB := hide hbg'
      obtain ⟨ao, cap, rfl, -, -⟩ := Row.slice (cmK.bag_row hbg)
      clear hkn hbg hbg'
      go_wp2_with fail
      go_ret
      exact ⟨⟨_, rfl, cmK.row_mono (cmK.bag_row HB.out) (fun g hg => ⟨by have := hg.1; omega, hg.2⟩)⟩, HU.out⟩
end Go.Proofs.YtfmaflaoplkdbaaGreatDoor.Tr
