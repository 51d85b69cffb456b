/- single.copied, slot, send. -/
import Derived.Test.YtanjnhohfcgapaaGreatDoorSgKR
import Derived.Test.YtanjnhohfcgapaaGreatDoorPureAll
import Derived.Test.YtanjnhohfcgapaaGreatDoorTrV
import Derived.Test.YtanjnhohfcgapaaGreatDoorGenAll
set_option linter.unusedSimpArgs false
set_option linter.unusedVariables false
set_option linter.unnecessarySimpa false
namespace Go.Proofs.YtanjnhohfcgapaaGreatDoor.Sg
open Go.RowKit Go.Proofs.YtanjnhohfcgapaaGreatDoor.Crc Go.Proofs.YtanjnhohfcgapaaGreatDoor.Cm Go.Proofs.YtanjnhohfcgapaaGreatDoor.Tr Go.Proofs.YtanjnhohfcgapaaGreatDoor.Kv Go.Proofs.YtanjnhohfcgapaaGreatDoor.Au
set_option linter.unusedSimpArgs false
set_option linter.unusedVariables false

/-- Cells written one behind the other. -/
def stepW (w : World) (b : Nat) : Nat → List Value → World
  | _, [] => w
  | o, v :: vs => stepW (w.setCell ⟨b, o, none⟩ v) b (o + 1) vs
def stepA (cs : Array Value) : Nat → List Value → Array Value
  | _, [] => cs
  | o, v :: vs => stepA (cs.setIfInBounds o v) (o + 1) vs
theorem stores {b : Nat} {t : TypeId} : ∀ (vs : List Value) {w : World} {cs : Array Value} (o : Nat), w.heap[b]? = some (.cells cs t (0, 0)) →
    (stepW w b o vs).heap[b]? = some (.cells (stepA cs o vs) t (0, 0)) ∧ ∀ S a, Upd S a w → (b ∈ S ∨ a.heap.size ≤ b) → Upd S a (stepW w b o vs)
  | [], w, cs, o, h => ⟨h, fun _ _ hu _ => hu⟩
  | v :: vs, w, cs, o, h => by
    have h1 := stores vs (o + 1) (blk_set (i := o) h v)
    exact ⟨h1.1, fun S a hu hb => h1.2 S a (hu.setCell hb v) hb⟩
set_option maxRecDepth 100000 in
set_option maxHeartbeats 2000000 in
theorem copied_any {T : Nat → Prop} {v : Value} {c : Cm} (w : World) (h : CmAt w T v c) (hl : c.keys.length * 16 ≤ 140737488355328) :
    Calls Tryz.prog 54 #[v] w fun e w' => (∃ ks', e = .returned (cmv c ks') ∧ Ky w' (since w.heap.size w') ks' c) ∧ Upd [] w w' := by
  obtain ⟨fit, ks, rfl, hks⟩ := h
  obtain ⟨ka, kc, rfl, -, -, -⟩ := hks.get
  have KS := hide hks; have FIT := hide fit
  clear hks fit
  unfold cmv
  simp only [strV]
  go_enter Tryz.func54, Tryz.ntmps54
  go_wp2_with fail
  have hX := blk_alloc (blk_new w (.cells #[.int .u32 (c.client : Int), .int .u32 (c.seq : Int), .int .u8 (c.kind : Int), .slice ka c.keys.length kc, .string (strOf c.old), .string (strOf c.new), .int .i64 c.n] Cm.TCmd)) (.cells #[.int .u32 0, .int .u32 0, .int .u8 0, .slice none 0 0, .string ⟨#[]⟩, .string ⟨#[]⟩, .int .i64 0] Cm.TCmd)
  have hY := blk_new (w.alloc (.cells #[.int .u32 (c.client : Int), .int .u32 (c.seq : Int), .int .u8 (c.kind : Int), .slice ka c.keys.length kc, .string (strOf c.old), .string (strOf c.new), .int .i64 c.n] Cm.TCmd)) (.cells #[.int .u32 0, .int .u32 0, .int .u8 0, .slice none 0 0, .string ⟨#[]⟩, .string ⟨#[]⟩, .int .i64 0] Cm.TCmd)
  have hU := ((Upd.refl [] w).alloc (.cells #[.int .u32 (c.client : Int), .int .u32 (c.seq : Int), .int .u8 (c.kind : Int), .slice ka c.keys.length kc, .string (strOf c.old), .string (strOf c.new), .int .i64 c.n] Cm.TCmd)).alloc (.cells #[.int .u32 0, .int .u32 0, .int .u8 0, .slice none 0 0, .string ⟨#[]⟩, .string ⟨#[]⟩, .int .i64 0] Cm.TCmd)
  rw [World.size_alloc] at hY
  have hsz0 : ∀ o1 o2, ((w.alloc o1).alloc o2).heap.size = w.heap.size + 2 := fun _ _ => by simp
  have hsz := hsz0 (.cells #[.int .u32 (c.client : Int), .int .u32 (c.seq : Int), .int .u8 (c.kind : Int), .slice ka c.keys.length kc, .string (strOf c.old), .string (strOf c.new), .int .i64 c.n] Cm.TCmd) (.cells #[.int .u32 0, .int .u32 0, .int .u8 0, .slice none 0 0, .string ⟨#[]⟩, .string ⟨#[]⟩, .int .i64 0] Cm.TCmd)
  clear hsz0
  generalize (w.alloc (.cells #[.int .u32 (c.client : Int), .int .u32 (c.seq : Int), .int .u8 (c.kind : Int), .slice ka c.keys.length kc, .string (strOf c.old), .string (strOf c.new), .int .i64 c.n] Cm.TCmd)).alloc (.cells #[.int .u32 0, .int .u32 0, .int .u8 0, .slice none 0 0, .string ⟨#[]⟩, .string ⟨#[]⟩, .int .i64 0] Cm.TCmd) = W at *
  refine (clones_any (l := c.keys) W (KS.out.upd_nil hU) hl).mono ?_
  rintro e w1 ⟨⟨v', rfl, hs⟩, hu1⟩
  obtain ⟨xo, cp, rfl, -, -, -⟩ := hs.get
  have X1 := hide (hu1.get hX (by simp)); have Y1 := hide (hu1.get hY (by simp)); have U1 := hide (hU.trans hu1); have S1 := hide hs
  clear hX hY hU hu1 hs
  have x0 : w1.cell? ⟨w.heap.size, 0, none⟩ = some (.int .u32 (c.client : Int)) := blk_cell X1.out rfl
  have x1 : w1.cell? ⟨w.heap.size, 1, none⟩ = some (.int .u32 (c.seq : Int)) := blk_cell X1.out rfl
  have x2 : w1.cell? ⟨w.heap.size, 2, none⟩ = some (.int .u8 (c.kind : Int)) := blk_cell X1.out rfl
  have x3 : w1.cell? ⟨w.heap.size, 3, none⟩ = some (.slice ka c.keys.length kc) := blk_cell X1.out rfl
  have x4 : w1.cell? ⟨w.heap.size, 4, none⟩ = some (.string (strOf c.old)) := blk_cell X1.out rfl
  have x5 : w1.cell? ⟨w.heap.size, 5, none⟩ = some (.string (strOf c.new)) := blk_cell X1.out rfl
  have x6 : w1.cell? ⟨w.heap.size, 6, none⟩ = some (.int .i64 c.n) := blk_cell X1.out rfl
  have y0 : w1.cell? ⟨w.heap.size + 1, 0, none⟩ = some (.int .u32 0) := blk_cell Y1.out rfl
  have y1 : w1.cell? ⟨w.heap.size + 1, 1, none⟩ = some (.int .u32 0) := blk_cell Y1.out rfl
  have y2 : w1.cell? ⟨w.heap.size + 1, 2, none⟩ = some (.int .u8 0) := blk_cell Y1.out rfl
  have y3 : w1.cell? ⟨w.heap.size + 1, 3, none⟩ = some (.slice none 0 0) := blk_cell Y1.out rfl
  have y4 : w1.cell? ⟨w.heap.size + 1, 4, none⟩ = some (.string ⟨#[]⟩) := blk_cell Y1.out rfl
  have y5 : w1.cell? ⟨w.heap.size + 1, 5, none⟩ = some (.string ⟨#[]⟩) := blk_cell Y1.out rfl
  have y6 : w1.cell? ⟨w.heap.size + 1, 6, none⟩ = some (.int .i64 0) := blk_cell Y1.out rfl
  have xf : ∀ i, w1.frozen? ⟨w.heap.size, i, none⟩ = false := fun i => blk_free X1.out
  have yf : ∀ i, w1.frozen? ⟨w.heap.size + 1, i, none⟩ = false := fun i => blk_free Y1.out
  go_wp2_with fail
  have hu2 : Upd [w.heap.size] w1 (w1.setCell ⟨w.heap.size, 3, none⟩ (.slice xo c.keys.length cp)) := (Upd.refl _ _).setCell (.inl (by simp)) _
  have hY2 := hu2.get Y1.out (by simp)
  obtain ⟨W3, e3, hb3, hu3⟩ := store7 hY2 (.int .u32 (c.client : Int)) (.int .u32 (c.seq : Int)) (.int .u8 (c.kind : Int)) (.slice xo c.keys.length cp) (.string (strOf c.old)) (.string (strOf c.new)) (.int .i64 c.n)
  rw [e3]
  try simp only [Exit.inBlock, Exit.then]
  have hu4 : Upd [w.heap.size, w.heap.size + 1] w1 W3 := hu3 _ _ (hu2.mono (by simp)) (.inl (by simp))
  have hz1 := U1.out.size
  refine ret_cm1 hb3 rfl rfl rfl ⟨⟨_, rfl, FIT.out, (S1.out.upd hu4 (fun k hk h2 => ?_)).mono (fun k h2 => ⟨?_, ?_⟩)⟩, U1.out.trans_new hu4 (fun k hk => .inr ?_)⟩
  · have := h2.1; simp at hk; omega
  · have := h2.1; omega
  · exact Nat.lt_of_lt_of_le h2.2 hu4.size
  · simp at hk; omega
abbrev TMg : TypeId := 67
theorem infoSe : (Tryz.prog.info? TSe).map (fun i => (i.zero, i.size, i.bytes)) = some (some (.agg #[.int .i64 0, .int .u8 0, .int .u64 0, .int .u64 0, .int .i64 0, .bool false, .int .u64 0, .int .i64 0, .int .u32 0, .int .u32 0, .int .u8 0, .slice none 0 0, .string ⟨#[]⟩, .string ⟨#[]⟩, .int .i64 0]), 15, 144) := by kernel_rfl
theorem slot_any {T M : Nat → Prop} {z p : Nat} {x : Sg} {o : Ou} {G : Gh} (w : World) (h : XAt w T M z p x o G) (hl : x.log.length ≤ 1000000) :
    Calls Tryz.prog 66 #[.pointer (some ⟨p, 0, none⟩)] w fun e w' => e = .returned (.int .u64 (x.slot : Int)) ∧ w = w' := by
  obtain ⟨xo, cp, hlv, h1, h2⟩ := Row.slice (Own.row h.2.log)
  have c2 : w.cell? ⟨p, 2, none⟩ = some (.slice xo x.log.length cp) := by rw [← hlv]; exact blk_cell h.1 rfl
  have hs : (x.slot : Int) = (x.log.length : Int) + 1 := by unfold Sg.slot; omega
  rw [hs]
  have q1 : IntKind.u64.wrap (x.log.length : Int) = (x.log.length : Int) := IntWalk.u64_in _ (by omega)
  have q2 : IntKind.u64.wrap ((x.log.length : Int) + 1) = (x.log.length : Int) + 1 := IntWalk.u64_in _ (by omega)
  clear h hlv hs
  go_enter Tryz.func66, Tryz.ntmps66
  go_wp2_with fail
  go_ret
  exact ⟨rfl, rfl⟩
theorem sec_src {w : World} {b : Nat} {s : Se} {ks : Value} {t : TypeId} (h : w.heap[b]? = some (.cells (sec s ks).toArray t (0, 0))) (h1 : ks.oneCell' = true) : SrcAt w (some ⟨b, 0, none⟩) 1 1 (sec s ks) 15 := by
  refine ⟨rfl, ?_, by simp, fun a e j u hj => ?_⟩
  · intro u hu
    simp only [sec, strV, List.mem_cons, List.not_mem_nil, or_false] at hu
    rcases hu with rfl | rfl | rfl | rfl | rfl | rfl | rfl | rfl | rfl | rfl | rfl | rfl | rfl | rfl | rfl <;> first | rfl | exact h1
  · cases e
    have hplain : (⟨b, 0, none⟩ : Addr).add j = ⟨b, j, none⟩ := by unfold Addr.add; split <;> simp_all
    rw [hplain]
    simp only [World.cell?, h]
    simpa using hj
/-- A message's cells. -/
def mgA (m : Mg) (ks : Value) : Array Value := #[.int .u8 (m.kind : Int), .int .u64 (m.slot : Int), .int .u64 (m.b.n : Int), .int .i64 m.b.r, .bool m.has, .int .u64 (m.vote.n : Int), .int .i64 m.vote.r, .int .u32 (m.cmd.client : Int), .int .u32 (m.cmd.seq : Int), .int .u8 (m.cmd.kind : Int), ks, .string (strOf m.cmd.old), .string (strOf m.cmd.new), .int .i64 m.cmd.n]
theorem mg_cells {w : World} {b : Nat} {m : Mg} {ks : Value} (h : w.heap[b]? = some (.cells (mgA m ks) TMg (0, 0))) :
    w.cell? ⟨b, 0, none⟩ = some (.int .u8 (m.kind : Int)) ∧ w.cell? ⟨b, 1, none⟩ = some (.int .u64 (m.slot : Int)) ∧ w.cell? ⟨b, 2, none⟩ = some (.int .u64 (m.b.n : Int)) ∧ w.cell? ⟨b, 3, none⟩ = some (.int .i64 m.b.r) ∧ w.cell? ⟨b, 4, none⟩ = some (.bool m.has) ∧ w.cell? ⟨b, 5, none⟩ = some (.int .u64 (m.vote.n : Int)) ∧ w.cell? ⟨b, 6, none⟩ = some (.int .i64 m.vote.r) ∧
    w.cell? ⟨b, 7, none⟩ = some (.int .u32 (m.cmd.client : Int)) ∧ w.cell? ⟨b, 8, none⟩ = some (.int .u32 (m.cmd.seq : Int)) ∧ w.cell? ⟨b, 9, none⟩ = some (.int .u8 (m.cmd.kind : Int)) ∧ w.cell? ⟨b, 10, none⟩ = some ks ∧ w.cell? ⟨b, 11, none⟩ = some (.string (strOf m.cmd.old)) ∧ w.cell? ⟨b, 12, none⟩ = some (.string (strOf m.cmd.new)) ∧ w.cell? ⟨b, 13, none⟩ = some (.int .i64 m.cmd.n) :=
  ⟨blk_cell h rfl, blk_cell h rfl, blk_cell h rfl, blk_cell h rfl, blk_cell h rfl, blk_cell h rfl, blk_cell h rfl, blk_cell h rfl, blk_cell h rfl, blk_cell h rfl, blk_cell h rfl, blk_cell h rfl, blk_cell h rfl, blk_cell h rfl⟩
set_option maxRecDepth 100000 in
set_option maxHeartbeats 4000000 in
theorem send_any {T M : Nat → Prop} {z p : Nat} {x : Sg} {o : Ou} {G : Gh} {dst : Int} {m : Mg} {ks : Value} (w : World) (h : XAt w T M z p x o G) (hm : m.Ok) (hk : Ky w T ks m.cmd) (hz : z ≤ w.heap.size) (hn : o.send.length ≤ 1000000) :
    Calls Tryz.prog 67 #[.pointer (some ⟨p, 0, none⟩), .int .i64 dst, mgv m ks] w fun e w' => e = .returned (.tuple #[]) ∧ ∃ T' M' G', XAt w' T' M' z p x (sendM o dst m) G' ∧ Ext w T M w' T' M' := by
  obtain ⟨xk, ck, rfl⟩ := hk.slice
  have KS := hide hk; have BL := hide h.1; have RS := hide h.2; have OKM := hide hm
  have hp := blk_lt h.1
  clear h hk hm
  unfold mgv
  simp only [strV]
  go_enter Tryz.func67, Tryz.ntmps67
  go_wp2_with fail
  have hB := blk_new w (.cells (mgA m (.slice xk m.cmd.keys.length ck)) TMg)
  have hal := (Upd.refl [] w).alloc (.cells (mgA m (.slice xk m.cmd.keys.length ck)) TMg)
  refine (copied_any (c := m.cmd) (w.alloc (.cells (mgA m (.slice xk m.cmd.keys.length ck)) TMg)) (KS.out.upd hal (by simp)).at (by have := OKM.out.2.2.2.2; omega)).mono ?_
  rintro e w1 ⟨⟨ks', rfl, hk'⟩, hu1⟩
  obtain ⟨xl, cl, rfl⟩ := hk'.slice
  have R0 := RS.out.shift_nil hal
  have R1 := hide (R0.fresh hu1); have E1 := hide ((Ext.of_nil hal T M).trans (Ext.fresh hu1 T M)); have K1 := hide (hk'.mono (U := Sg.fresh (w.alloc (.cells (mgA m (.slice xk m.cmd.keys.length ck)) TMg)) w1 T) fun k hk => .inr hk)
  have hB1 := hu1.get hB (by simp); have BL1 := hide ((hal.trans hu1).get BL.out (by simp))
  have hsz := hu1.size
  have hsz0 : (w.alloc (.cells (mgA m (.slice xk m.cmd.keys.length ck)) TMg)).heap.size = w.heap.size + 1 := World.size_alloc _ _
  have NB : Hid (¬ M w.heap.size ∧ ¬ Sg.fresh (w.alloc (.cells (mgA m (.slice xk m.cmd.keys.length ck)) TMg)) w1 T w.heap.size) := hide ⟨(RS.out.apt.new (Nat.le_refl _)).1, fun h => by
    rcases h with h | h
    · exact (RS.out.apt.new (Nat.le_refl _)).2 h
    · have := h.1; omega⟩
  generalize Sg.fresh (w.alloc (.cells (mgA m (.slice xk m.cmd.keys.length ck)) TMg)) w1 T = T1 at *
  clear R0 hu1 hk' hB
  obtain ⟨B, hBs⟩ : ∃ B, w.heap.size = B := ⟨_, rfl⟩
  rw [hBs] at hB1 NB hp hsz0 hz ⊢
  have y7 : w1.cell? ⟨B, 7, none⟩ = some (.int .u32 (m.cmd.client : Int)) := blk_cell hB1 rfl
  have y8 : w1.cell? ⟨B, 8, none⟩ = some (.int .u32 (m.cmd.seq : Int)) := blk_cell hB1 rfl
  have y9 : w1.cell? ⟨B, 9, none⟩ = some (.int .u8 (m.cmd.kind : Int)) := blk_cell hB1 rfl
  have y10 : w1.cell? ⟨B, 10, none⟩ = some (.slice xk m.cmd.keys.length ck) := blk_cell hB1 rfl
  have y11 : w1.cell? ⟨B, 11, none⟩ = some (.string (strOf m.cmd.old)) := blk_cell hB1 rfl
  have y12 : w1.cell? ⟨B, 12, none⟩ = some (.string (strOf m.cmd.new)) := blk_cell hB1 rfl
  have y13 : w1.cell? ⟨B, 13, none⟩ = some (.int .i64 m.cmd.n) := blk_cell hB1 rfl
  have yf : ∀ i, w1.frozen? ⟨B, i, none⟩ = false := fun i => blk_free hB1
  have HB1 := hide hB1
  clear hB1
  unfold cmv
  simp only [strV]
  go_wp2_with fail
  clear y7 y8 y9 y10 y11 y12 y13 yf
  obtain ⟨hB2, hu2⟩ := stores (o := 7) [.int .u32 (m.cmd.client : Int), .int .u32 (m.cmd.seq : Int), .int .u8 (m.cmd.kind : Int), .slice xl m.cmd.keys.length cl, .string (strOf m.cmd.old), .string (strOf m.cmd.new), .int .i64 m.cmd.n] HB1.out
  change Code.wp _ _ _ _ (stepW w1 B 7 [.int .u32 (m.cmd.client : Int), .int .u32 (m.cmd.seq : Int), .int .u8 (m.cmd.kind : Int), .slice xl m.cmd.keys.length cl, .string (strOf m.cmd.old), .string (strOf m.cmd.new), .int .i64 m.cmd.n])
  generalize stepW w1 B 7 [.int .u32 (m.cmd.client : Int), .int .u32 (m.cmd.seq : Int), .int .u8 (m.cmd.kind : Int), .slice xl m.cmd.keys.length cl, .string (strOf m.cmd.old), .string (strOf m.cmd.new), .int .i64 m.cmd.n] = w2 at *
  change w2.heap[B]? = some (.cells (mgA m (.slice xl m.cmd.keys.length cl)) TMg (0, 0)) at hB2
  have hus : Upd [B] w1 w2 := hu2 [B] w1 (Upd.refl _ _) (.inl (by simp))
  have R2 := hide (R1.out.shift hus (fun k hk => by simp at hk; subst hk; exact .inr NB.out)); have K2 := hide (K1.out.upd hus (fun k hk => by simp at hk; subst hk; exact NB.out.2))
  have BL2 := hide (hus.get BL1.out (by simp; omega)); have HB2 := hide hB2
  have E2 := hide (E1.out.on hus (fun k hk => by simp at hk; subst hk; exact .inr (by omega)))
  obtain ⟨css, he1, he2, hown⟩ := R2.out.send
  obtain ⟨ao, cap, hsv, hcap1, hcap2, -⟩ := owns_slice hown
  rw [hsv] at hown
  obtain ⟨i1, hi1, iz0, iz1, iz2⟩ := info_parts infoSe
  have OWN := hide hown; have EA := hide he1; have EB := hide he2; have HSV := hide hsv
  clear hus hu2 hB2 hown he1 he2 hsv
  have s0 : (w2.drewN 1).heap[p]? = some (.cells (sgc x G) TSg (0, 0)) ∧ (w2.drewN 1).heap[B]? = some (.cells (mgA m (.slice xl m.cmd.keys.length cl)) TMg (0, 0)) := ⟨BL2.out, HB2.out⟩
  refine wp_region_z (fun wx => wx.heap[p]? = some (.cells (sgc x G) TSg (0, 0)) ∧ wx.heap[B]? = some (.cells (mgA m (.slice xl m.cmd.keys.length cl)) TMg (0, 0))) 14 (by kernel_rfl) ?_
  refine zE 0 rfl (by kernel_rfl) (fun _ _ _ _ h => h) rfl (by exact s0) ?_
  apply Exists.intro
  refine ⟨fun wx hS => ?_, ?_⟩
  · go_simp; rfl
  simp only [Act.put, List.setIfInBounds_toArray, List.set_cons_succ, List.set_cons_zero, List.getElem_toArray, List.getElem_cons_zero]
  refine zE 1 rfl (by kernel_rfl) (fun _ _ _ _ h => h) rfl (by exact s0) ?_
  apply Exists.intro
  refine ⟨fun wx hS => ?_, ?_⟩
  · go_simp; rfl
  simp only [Act.put, zz1, zz2, zz3, zz4, zz5, zz6]
  refine zE 2 rfl (by kernel_rfl) (fun _ _ _ _ h => h) rfl (by exact s0) ?_
  apply Exists.intro
  refine ⟨fun wx hS => ?_, ?_⟩
  · go_simp; rfl
  simp only [Act.put, zz1, zz2, zz3, zz4, zz5, zz6]
  refine zE 3 rfl (by kernel_rfl) (fun _ _ _ _ h => h) rfl (by exact s0) ?_
  apply Exists.intro
  refine ⟨fun wx hS => ?_, ?_⟩
  · go_simp; rfl
  simp only [Act.put, zz1, zz2, zz3, zz4, zz5, zz6]
  refine zE 4 rfl (by kernel_rfl) (fun _ _ _ _ h => h) rfl (by exact s0) ?_
  apply Exists.intro
  refine ⟨fun wx hS => ?_, ?_⟩
  · go_simp; rfl
  simp only [Act.put, zz1, zz2, zz3, zz4, zz5, zz6]
  refine zE 5 rfl (by kernel_rfl) (fun _ _ _ _ h => h) rfl (by exact s0) ?_
  apply Exists.intro
  refine ⟨fun wx hS => ?_, ?_⟩
  · have c0 : wx.cell? ⟨p, 20, none⟩ = some (.slice ao o.send.length cap) := (by rw [← HSV.out] ; exact blk_cell hS.1 rfl); go_simp; rfl
  simp only [Act.put, zz1, zz2, zz3, zz4, zz5, zz6]
  refine zE 6 rfl (by kernel_rfl) (fun _ _ _ _ h => h) rfl (by exact s0) ?_
  apply Exists.intro
  refine ⟨fun wx hS => ?_, ?_⟩
  · go_simp; rfl
  simp only [Act.put, zz1, zz2, zz3, zz4, zz5, zz6]
  refine zE 7 rfl (by kernel_rfl) (fun _ _ _ _ h => h) rfl (by exact s0) ?_
  apply Exists.intro
  refine ⟨fun wx hS => ?_, ?_⟩
  · obtain ⟨y0, y1, y2, y3, y4, y5, y6, y7, y8, y9, y10, y11, y12, y13⟩ := mg_cells hS.2; go_simp; rfl
  simp only [Act.put, zz1, zz2, zz3, zz4, zz5, zz6]
  refine zE 8 rfl (by kernel_rfl) (fun _ _ _ _ h => h) rfl (by exact s0) ?_
  apply Exists.intro
  refine ⟨fun wx hS => ?_, ?_⟩
  · go_simp; rfl
  simp only [Act.put, zz1, zz2, zz3, zz4, zz5, zz6]
  clear s0
  refine wpAnyZ_one 9 (by kernel_rfl) rfl rfl (fun K hK => ?_)
  try simp only [List.getElem_toArray, List.getElem_cons_succ, List.getElem_cons_zero]
  go_simp
  have hB3 := blk_new (w2.drewN 1) (.cells (sec (dst, m) (.slice xl m.cmd.keys.length cl)).toArray TSe)
  have hal3 := ((Upd.refl [] w2).drewN 1).alloc (.cells (sec (dst, m) (.slice xl m.cmd.keys.length cl)).toArray TSe)
  change K _ ((w2.drewN 1).alloc (.cells (sec (dst, m) (.slice xl m.cmd.keys.length cl)).toArray TSe))
  obtain ⟨w3, hw3⟩ : ∃ w3, (w2.drewN 1).alloc (.cells (sec (dst, m) (.slice xl m.cmd.keys.length cl)).toArray TSe) = w3 := ⟨_, rfl⟩
  rw [hw3] at hB3 hal3 ⊢
  obtain ⟨B3, hBs3⟩ : ∃ B3, (w2.drewN 1).heap.size = B3 := ⟨_, rfl⟩
  have hBs3' : w2.heap.size = B3 := hBs3
  rw [hBs3] at hB3
  rw [hBs3']
  have R3 := hide (R2.out.shift_nil hal3); have K3 := hide (K2.out.upd hal3 (by simp)); have BL3 := hide (hal3.get BL2.out (by simp)); have HB3 := hide (hal3.get HB2.out (by simp)); have OWN3 := hide (owns_upd OWN.out hal3 (by simp)); have E3 := hide (E2.out.on hal3 (by simp))
  have EA3 := hide (EA.out.mono (Q := seK.holds w3 T1) fun y cs _ hy => seK.upd hy hal3 (by simp))
  have SR := hide (sec_src hB3 rfl)
  have hz3 := E3.out.size
  clear hw3 hB3 hal3 hBs3 hBs3' R2 K2 BL2 HB2 OWN E2 EA
  have s3 : w3.heap[p]? = some (.cells (sgc x G) TSg (0, 0)) ∧ w3.heap[B]? = some (.cells (mgA m (.slice xl m.cmd.keys.length cl)) TMg (0, 0)) := ⟨BL3.out, HB3.out⟩
  refine hK _ _ (.inr s3) ?_
  clear hK K
  try simp only [Act.put, zz1, zz2, zz3]
  clear s3
  refine wpAnyZ_one 10 (by kernel_rfl) rfl rfl (fun K hK => ?_)
  try simp only [List.getElem_toArray, List.getElem_cons_succ, List.getElem_cons_zero]
  refine wp_append_src _ _ _ 82 rfl z TSe i1 (.agg #[.int .i64 0, .int .u8 0, .int .u64 0, .int .u64 0, .int .i64 0, .bool false, .int .u64 0, .int .i64 0, .int .u32 0, .int .u32 0, .int .u8 0, .slice none 0 0, .string ⟨#[]⟩, .string ⟨#[]⟩, .int .i64 0]) 15 144 Tryz.underlying82 hi1 iz0 iz1 iz2 rfl (by decide) (.slice ao o.send.length cap) o.send.length css.flatten rfl (by exact OWN3.out) (some ⟨B3, 0, none⟩) 1 1 (sec (dst, m) (.slice xl m.cmd.keys.length cl)) rfl (by exact SR.out) (by unfold maxLen; omega) (by omega) (by omega) ?_
  intro ao6 cap6 w4 hown6 hU6 hn6
  have hsvn : ∀ k ∈ (Value.slice ao o.send.length cap).ownBlock.toList, G.sv.ownBlock = some k := fun k hk => by rw [HSV.out]; simpa using hk
  have far : ∀ k ∈ (Value.slice ao o.send.length cap).ownBlock.toList, M k ∧ ¬ T1 k ∧ k ≠ p := fun k hk => by
    have h5 := R3.out.nm.inM 3 k (congrArg some (hsvn k hk))
    exact ⟨h5.1, fun ht => R3.out.apt.apart k ht h5.1, R3.out.nm.ne (i := 3) (j := 0) (congrArg some (hsvn k hk)) rfl (by decide)⟩
  have hk3 : seK.holds w3 T1 (dst, m) (sec (dst, m) (.slice xl m.cmd.keys.length cl)) := ⟨OKM.out, _, rfl, K3.out⟩
  have hown4 : Own w4 z TSe 15 (seK.holds w4 T1) (.slice ao6 (o.send.length + 1) cap6) (o.send ++ [(dst, m)]) :=
    Own.more (EA3.out.mono (Q := seK.holds w4 T1) fun y cs _ hy => seK.upd hy hU6 fun k hk => (far k hk).2.1) EB.out (seK.upd hk3 hU6 fun k hk => (far k hk).2.1) rfl (seK.one hk3) rfl hown6
  have hn6' : ∀ k, (Value.slice ao6 (o.send.length + 1) cap6).ownBlock = some k → G.sv.ownBlock = some k ∨ w3.heap.size ≤ k := fun k hk => by rw [HSV.out]; exact hn6 k hk
  have hb4 := hU6.get BL3.out fun hk => (far p hk).2.2 rfl
  have s4 : w4.heap[p]? = some (.cells (sgc x G) TSg (0, 0)) ∧ w4.heap[B]? = some (.cells (mgA m (.slice xl m.cmd.keys.length cl)) TMg (0, 0)) := ⟨hb4, hU6.get HB3.out fun hk => NB.out.1 (far B hk).1⟩
  have R4 := hide (R3.out.send' (l' := o.send ++ [(dst, m)]) hU6 hsvn hown4 hn6')
  have E4 := hide ((E3.out.on hU6 fun k hk => .inl (far k hk).1).plus (o := (Value.slice ao6 (o.send.length + 1) cap6).ownBlock) fun k hk => by
    rcases hn6' k hk with h5 | h5
    · exact .inl (R3.out.nm.inM 3 k (congrArg some h5)).1
    · exact .inr (by omega))
  have BL4 := hide hb4
  have y4 : w4.cell? ⟨p, 20, none⟩ = some (.slice ao o.send.length cap) := by rw [← HSV.out]; exact blk_cell hb4 rfl
  have f4 : w4.frozen? ⟨p, 20, none⟩ = false := blk_free hb4
  clear hown6 hU6 hn6 hsvn far hk3 hown4 hn6' hb4 R3 K3 BL3 HB3 OWN3 E3 EA3 SR
  refine hK _ _ (.inr s4) ?_
  clear hK K
  try simp only [Act.put, zz1, zz2, zz3]
  refine wpAnyZ_one 11 (by kernel_rfl) rfl rfl (fun K hK => ?_)
  try simp only [List.getElem_toArray, List.getElem_cons_succ, List.getElem_cons_zero]
  go_simp
  refine hK _ _ (.inr s4) ?_
  clear hK K
  try simp only [Act.put, zz1, zz2, zz3]
  refine wpAnyZ_one 12 (by kernel_rfl) rfl rfl (fun K hK => ?_)
  try simp only [List.getElem_toArray, List.getElem_cons_succ, List.getElem_cons_zero]
  go_simp
  refine hK _ _ (.inr s4) ?_
  clear hK K
  try simp only [Act.put, zz1, zz2, zz3]
  refine wpAnyZ_one 13 (by kernel_rfl) rfl rfl (fun K hK => ?_)
  try simp only [List.getElem_toArray, List.getElem_cons_succ, List.getElem_cons_zero]
  go_simp
  refine hK _ _ (.inr s4) ?_
  clear hK K
  try simp only [Act.put, zz1, zz2, zz3]
  refine wpAnyZ_one 14 (by kernel_rfl) rfl rfl (fun K hK => ?_)
  try simp only [List.getElem_toArray, List.getElem_cons_succ, List.getElem_cons_zero]
  go_simp
  refine hK _ _ (.inl rfl) ?_
  clear hK K
  try simp only [Act.put, zz1, zz2, zz3]
  clear f4 y4 s4
  refine wpAnyZ_done (by kernel_rfl) ?_ _
  have b5 := blk_set (i := 20) BL4.out (.slice ao6 (o.send.length + 1) cap6)
  have us : Upd [p] w4 (w4.setCell ⟨p, 20, none⟩ (.slice ao6 (o.send.length + 1) cap6)) := (Upd.refl [p] w4).setCell (p := ⟨p, 20, none⟩) (.inl (by simp)) _
  have R5 := hide (R4.out.shift us fun k hk => by simp at hk; exact .inl hk)
  have E5 := hide (E4.out.on us fun k hk => by simp at hk; subst hk; exact .inl R4.out.pM)
  have B5 := hide b5
  clear b5 us R4 E4 BL4
  go_wp2_with fail
  go_end0
  exact ⟨rfl, _, _, { G with sv := .slice ao6 (o.send.length + 1) cap6 }, ⟨B5.out, R5.out⟩, E5.out⟩
end Go.Proofs.YtanjnhohfcgapaaGreatDoor.Sg
