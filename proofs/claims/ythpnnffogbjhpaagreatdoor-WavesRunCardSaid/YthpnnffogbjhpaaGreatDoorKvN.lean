/- kv.New, Copy, Same; session.New, Len, Look, Keep, Copy. -/
import Derived.Test.YthpnnffogbjhpaaGreatDoorKvWH
import Derived.Test.YthpnnffogbjhpaaGreatDoorKvCC
set_option linter.unusedSimpArgs false
set_option linter.unusedVariables false
set_option linter.unnecessarySimpa false
namespace Go.Proofs.YthpnnffogbjhpaaGreatDoor.Kv
set_option linter.unusedSimpArgs false
set_option linter.unusedVariables false
open Go.RowKit Go.Lib Go.Proofs.YthpnnffogbjhpaaGreatDoor.Crc Go.Proofs.YthpnnffogbjhpaaGreatDoor.Cm

theorem new_any (w : World) : Calls Tryz.prog 40 #[] w fun e w' => e = .returned (.pointer (some ⟨w.heap.size + 1, 0, none⟩)) ∧ StIs w' (w.heap.size + 1) w.heap.size [] ∧ Upd [] w w' := by
  have hmm := @run_makeMap Tryz.prog
  go_enter Tryz.func40, Tryz.ntmps40
  go_wp2_with fail
  go_ret
  have h1 := blk_new (w.alloc (.map #[] 0)) (.cells #[.map (some w.heap.size)] 115)
  rw [World.size_alloc] at h1
  exact ⟨rfl, ⟨h1, MapKind.is_upd_nil (MapKind.is_new kvK w) ((Upd.refl [] _).alloc _)⟩, ((Upd.refl [] w).alloc _).alloc _⟩
noncomputable def kcopyOps : Array Oper := findOps 3 ((Tryz.f49.body).getD .skip)
set_option maxHeartbeats 1000000 in
theorem kcopy_any {b g : Nat} {m : KM} (w : World) (h : StIs w b g m) (hm : KvOk m) (hl : m.length ≤ 1000000) :
    Calls Tryz.prog 49 #[.pointer (some ⟨b, 0, none⟩)] w fun e w' => (∃ b' g', e = .returned (.pointer (some ⟨b', 0, none⟩)) ∧ StIs w' b' g' m ∧ w.heap.size ≤ b' ∧ w.heap.size ≤ g') ∧ Upd [] w w' := by
  have ST := hide h
  clear h
  go_enter Tryz.func49, Tryz.ntmps49
  go_wp2_with fail
  refine (new_any w).mono ?_
  rintro e w1 ⟨rfl, hs1, hu1⟩
  have S1 := hide hs1; have U1 := hide hu1
  clear hs1 hu1
  go_wp2_with fail
  have hbl := blk_lt ST.out.blk
  have hgl := MapKind.is_lt ST.out.map
  refine wp_region_seq kcopyOps (by kernel_rfl) [8] (Upd [w.heap.size] w1) (by kernel_rfl) (by kernel_rfl) (fun _ _ d _ _ h => by cases d <;> exact h) ((Upd.refl _ _).drewN 1) ?_
  refine wpSeq_take (by kernel_rfl) (by kernel_rfl) ?_
  apply Exists.intro
  refine ⟨fun wx hS => ?_, fun a' ha => ?_⟩
  · go_simp; rfl
  simp only [Act.put, List.setIfInBounds_toArray, List.set_cons_succ, List.set_cons_zero] at ha
  subst ha
  refine wpSeq_take (by kernel_rfl) (by kernel_rfl) ?_
  apply Exists.intro
  refine ⟨fun wx hS => ?_, fun a' ha => ?_⟩
  · go_simp; rfl
  simp only [Act.put, List.setIfInBounds_toArray, List.set_cons_succ, List.set_cons_zero] at ha
  subst ha
  refine wpSeq_take (by kernel_rfl) (by kernel_rfl) ?_
  apply Exists.intro
  refine ⟨fun wx hS => ?_, fun a' ha => ?_⟩
  · go_simp; rfl
  simp only [Act.put, List.setIfInBounds_toArray, List.set_cons_succ, List.set_cons_zero] at ha
  subst ha
  refine wpSeq_take (by kernel_rfl) (by kernel_rfl) ?_
  apply Exists.intro
  refine ⟨fun wx hS => ?_, fun a' ha => ?_⟩
  · have c0 : wx.cell? ⟨w.heap.size + 1, 0, none⟩ = some (.map (some w.heap.size)) := blk_cell (hS.get S1.out.blk (by simp)) rfl; go_simp; rfl
  simp only [Act.put, List.setIfInBounds_toArray, List.set_cons_succ, List.set_cons_zero] at ha
  subst ha
  refine wpSeq_take (by kernel_rfl) (by kernel_rfl) ?_
  apply Exists.intro
  refine ⟨fun wx hS => ?_, fun a' ha => ?_⟩
  · go_simp; rfl
  simp only [Act.put, List.setIfInBounds_toArray, List.set_cons_succ, List.set_cons_zero] at ha
  subst ha
  refine wpSeq_take (by kernel_rfl) (by kernel_rfl) ?_
  apply Exists.intro
  refine ⟨fun wx hS => ?_, fun a' ha => ?_⟩
  · go_simp; rfl
  simp only [Act.put, List.setIfInBounds_toArray, List.set_cons_succ, List.set_cons_zero] at ha
  subst ha
  refine wpSeq_take (by kernel_rfl) (by kernel_rfl) ?_
  apply Exists.intro
  refine ⟨fun wx hS => ?_, fun a' ha => ?_⟩
  · go_simp; rfl
  simp only [Act.put, List.setIfInBounds_toArray, List.set_cons_succ, List.set_cons_zero] at ha
  subst ha
  refine wpSeq_take (by kernel_rfl) (by kernel_rfl) ?_
  apply Exists.intro
  refine ⟨fun wx hS => ?_, fun a' ha => ?_⟩
  · have c0 : wx.cell? ⟨b, 0, none⟩ = some (.map (some g)) := blk_cell (hS.get (U1.out.get ST.out.blk (by simp)) (by simp; omega)) rfl; go_simp; rfl
  simp only [Act.put, List.setIfInBounds_toArray, List.set_cons_succ, List.set_cons_zero] at ha
  subst ha
  refine wpSeq_one (by kernel_rfl) (by kernel_rfl) (fun K hK => ?_)
  go_simp
  refine (copyS_any (gd := w.heap.size) (gs := g) (l := m) (w1.drewN 1) (MapKind.is_upd_nil S1.out.map ((Upd.refl [] _).drewN 1)) (MapKind.is_upd_nil ST.out.map (U1.out.drewN 1)) (by omega) hm.1 (fun p hp => by have := hm.2 p hp; exact ⟨show p.1.length ≤ maxLen by unfold maxLen; omega, show p.2.length ≤ maxLen by unfold maxLen; omega⟩) hl).mono ?_
  rintro e w2 ⟨rfl, hm2, hu2⟩
  have hd2 : Upd [w.heap.size] w1 w2 := ((Upd.refl _ _).drewN 1).trans hu2
  have S2 := hide (S1.out.turn hd2 hm2); have U2 := hide (U1.out.trans_new hd2 (fun k hk => .inr (by simp at hk; omega)))
  clear hm2 hu2
  refine hK _ _ (hd2) ?_
  clear hK K
  try simp only [Act.put, List.setIfInBounds_toArray, List.set_cons_succ, List.set_cons_zero]
  clear hd2
  unfold wpSeq
  go_wp2_with fail
  go_ret
  exact ⟨⟨_, _, rfl, S2.out, by omega, Nat.le_refl _⟩, U2.out⟩
/-- A table: its block, its clients', its map's. -/
structure TbIs (w : World) (b c g : Nat) (t : TM) : Prop where
  blk : w.heap[b]? = some (.cells #[.pointer (some ⟨c, 0, none⟩)] 107 (0, 0))
  cli : w.heap[c]? = some (.cells #[.map (some g)] 110 (0, 0))
  map : tbK.is w g t
theorem TbIs.upd {w w' : World} {b c g : Nat} {t : TM} {S : List Nat} (h : TbIs w b c g t) (hu : Upd S w w') (hb : b ∉ S) (hc : c ∉ S) (hg : g ∉ S) : TbIs w' b c g t :=
  ⟨hu.get h.blk hb, hu.get h.cli hc, MapKind.is_upd h.map hu hg⟩
theorem TbIs.upd_nil {w w' : World} {b c g : Nat} {t : TM} (h : TbIs w b c g t) (hu : Upd [] w w') : TbIs w' b c g t := h.upd hu (by simp) (by simp) (by simp)
theorem TbIs.ne {w : World} {b c g : Nat} {t : TM} (h : TbIs w b c g t) : b ≠ g ∧ c ≠ g := by
  obtain ⟨es, clock, hb, -⟩ := h.map
  refine ⟨fun e => ?_, fun e => ?_⟩
  · rw [← e, h.blk] at hb; cases hb
  · rw [← e, h.cli] at hb; cases hb
theorem TbIs.turn {w w' : World} {b c g : Nat} {t t' : TM} (h : TbIs w b c g t) (hu : Upd [g] w w') (hm : tbK.is w' g t') : TbIs w' b c g t' :=
  ⟨hu.get h.blk (by simpa using h.ne.1), hu.get h.cli (by simpa using h.ne.2), hm⟩
theorem tnew_any (w : World) : Calls Tryz.prog 41 #[] w fun e w' => e = .returned (.pointer (some ⟨w.heap.size + 2, 0, none⟩)) ∧ TbIs w' (w.heap.size + 2) (w.heap.size + 1) w.heap.size [] ∧ Upd [] w w' := by
  have hmm := @run_makeMap Tryz.prog
  go_enter Tryz.func41, Tryz.ntmps41
  go_wp2_with fail
  go_ret
  have h1 := blk_new (w.alloc (.map #[] 0)) (.cells #[.map (some w.heap.size)] 110)
  rw [World.size_alloc] at h1
  have h2 := blk_new ((w.alloc (.map #[] 0)).alloc (.cells #[.map (some w.heap.size)] 110)) (.cells #[.pointer (some ⟨w.heap.size + 1, 0, none⟩)] 107)
  rw [World.size_alloc, World.size_alloc] at h2
  exact ⟨rfl, ⟨h2, blk_alloc h1 _, MapKind.is_upd_nil (MapKind.is_new tbK w) (((Upd.refl [] _).alloc _).alloc _)⟩, (((Upd.refl [] w).alloc _).alloc _).alloc _⟩
theorem clen_any {b c g : Nat} {t : TM} (w : World) (h : TbIs w b c g t) : Calls Tryz.prog 55 #[.pointer (some ⟨c, 0, none⟩)] w fun e w' => e = .returned (.int .i64 (t.length : Int)) ∧ w = w' := by
  have c0 : w.cell? ⟨c, 0, none⟩ = some (.map (some g)) := blk_cell h.cli rfl
  have n1 : ∀ ty, (Builtin.len_ #[108] ty #[.map (some g)]).run Tryz.prog w = .ok (.int .i64 (t.length : Int)) w := fun ty => MapKind.len h.map ty
  clear h
  go_enter Tryz.func55, Tryz.ntmps55
  go_wp2_with fail
  go_ret
  exact ⟨rfl, rfl⟩
theorem tlen_any {b c g : Nat} {t : TM} (w : World) (h : TbIs w b c g t) : Calls Tryz.prog 23 #[.pointer (some ⟨b, 0, none⟩)] w fun e w' => e = .returned (.int .i64 (t.length : Int)) ∧ w = w' := by
  have c0 : w.cell? ⟨b, 0, none⟩ = some (.pointer (some ⟨c, 0, none⟩)) := blk_cell h.blk rfl
  have H := hide h
  clear h
  go_enter Tryz.func23, Tryz.ntmps23
  go_wp2_with fail
  refine (clen_any w H.out).mono ?_
  rintro e w1 ⟨rfl, rfl⟩
  go_wp2_with fail
  go_ret
  exact ⟨rfl, rfl⟩
theorem ret_rp2 {fn : Func} {p u : Tmp} {B : Nat} {c : Int} {s : ByteArray} {x : Value} {W : World} {act : Act} {post : Ending → World → Prop} (hW : W.heap[B]? = some (.cells #[.int .u8 c, .string s] TRp (0, 0)))
    (hfn : fn.results = #[.cell p TRp, .tmp u]) (hp : act.tmps.getD p undef = .pointer (some ⟨B, 0, none⟩)) (hv : act.tmps.getD u undef = x) (hd : act.defers = []) (h : post (.returned (.tuple #[.agg #[.int .u8 c, .string s], x])) W) : bodyPost Tryz.prog fn post Exit.ret act W := by
  have z0 : W.cell? ⟨B, 0, none⟩ = some (.int .u8 c) := blk_cell hW rfl
  have z1 : W.cell? ⟨B, 1, none⟩ = some (.string s) := blk_cell hW rfl
  refine bodyPost_ret (v := .tuple #[.agg #[.int .u8 c, .string s], x]) ?_ hd h
  rw [results_cell_tmp hfn, hp, hv]
  go_simp
theorem res_facts3 {w : World} {B : Nat} {u0 u1 : Value} {t : TypeId} (h : w.heap[B]? = some (.cells #[u0, u1] t (0, 0))) (o : Obj) :
    (∀ v, ((w.setCell ⟨B, 0, none⟩ v).alloc o).cell? ⟨B, 1, none⟩ = some u1) ∧ (∀ v, ((w.setCell ⟨B, 0, none⟩ v).alloc o).frozen? ⟨B, 1, none⟩ = false) ∧
    ∀ v0 v1, (((w.setCell ⟨B, 0, none⟩ v0).alloc o).setCell ⟨B, 1, none⟩ v1).heap[B]? = some (.cells #[v0, v1] t (0, 0)) := by
  have h1 : ∀ v, ((w.setCell ⟨B, 0, none⟩ v).alloc o).heap[B]? = some (.cells #[v, u1] t (0, 0)) := fun v => by
    have h1 := blk_set (i := 0) h v
    simp only [List.setIfInBounds_toArray, List.set_cons_zero] at h1
    exact blk_alloc h1 o
  refine ⟨fun v => blk_cell (h1 v) rfl, fun v => blk_free (h1 v), fun v0 v1 => ?_⟩
  have h2 := blk_set (i := 1) (h1 v0) v1
  simpa only [List.setIfInBounds_toArray, List.set_cons_succ, List.set_cons_zero] using h2
set_option maxRecDepth 100000 in
set_option maxHeartbeats 2000000 in
theorem look_any {b c g : Nat} {t : TM} {client seq : Nat} (w : World) (h : TbIs w b c g t) (hc : client < 4294967296) :
    Calls Tryz.prog 43 #[.pointer (some ⟨b, 0, none⟩), .int .u32 (client : Int), .int .u32 (seq : Int)] w fun e w' => e = .returned (.tuple #[rpv (lookM t client seq).1, .int .u8 ((lookM t client seq).2 : Int)]) ∧ Upd [] w w' := by
  obtain ⟨r, hr⟩ : ∃ r, lookM t client seq = r := ⟨_, rfl⟩
  rw [hr]
  have HR := hide hr; have H := hide h
  clear hr h
  go_enter Tryz.func43, Tryz.ntmps43
  go_upto_region 1 with fail
  have hR := blk_new w (.cells #[.int .u8 0, .string ⟨#[]⟩] TRp)
  have hu := (Upd.refl [] w).alloc (.cells #[.int .u8 0, .string ⟨#[]⟩] TRp)
  have hsz : (w.alloc (.cells #[.int .u8 0, .string ⟨#[]⟩] TRp)).heap.size = w.heap.size + 1 := by simp
  change Code.wp _ _ _ _ (w.alloc (.cells #[.int .u8 0, .string ⟨#[]⟩] TRp))
  generalize w.alloc (.cells #[.int .u8 0, .string ⟨#[]⟩] TRp) = w1 at *
  have U1 := hide hu; have CR := hide hR; have H1 := hide (H.out.upd_nil hu)
  clear hR hu
  go_wp2_with fail
  refine (tlen_any w1 H1.out).mono ?_
  rintro e w2 ⟨rfl, rfl⟩
  by_cases h0 : t.length = 0
  · have q0 : ((t.length : Int) == 0) = true := by rw [h0]; rfl
    have ht : t = [] := List.eq_nil_of_length_eq_zero h0
    have hg : r = (⟨0, []⟩, 0) := by rw [← HR.out, ht]; rfl
    have HG := hide hg
    obtain ⟨z0, z1, f0, f1, z2, f2⟩ := res_facts CR.out
    clear h0 ht hg
    go_wp2_with fail
    have hW := upd2 w1 w.heap.size (.int .u8 0) (.string ⟨#[]⟩)
    exact ret_rp2 (stored2 CR.out) rfl rfl rfl rfl ⟨by rw [HG.out]; rfl, U1.out.trans_new hW (fun k hk => .inr (by simp at hk; omega))⟩
  · have q0 : ((t.length : Int) == 0) = false := by
      have : (t.length : Int) ≠ 0 := by omega
      simpa using this
    obtain ⟨o, ho⟩ : ∃ o, mfind t client = o := ⟨_, rfl⟩
    have hlk := MapKind.look H1.out.map (k := client) hc
    rw [ho] at hlk
    have b0 : w1.cell? ⟨b, 0, none⟩ = some (.pointer (some ⟨c, 0, none⟩)) := blk_cell H1.out.blk rfl
    have c0 : w1.cell? ⟨c, 0, none⟩ = some (.map (some g)) := blk_cell H1.out.cli rfl
    have HO := hide ho
    clear ho h0
    cases o with
    | none =>
      have hl' : (Instr.lookup 108 (.map (some g)) (.int .u32 (client : Int)) true).run Tryz.prog w1 = .ok (.tuple #[.agg #[.int .u32 0, .int .u8 0, .string (strOf [])], .bool false]) w1 := hlk
      have hg : r = (⟨0, []⟩, 0) := by rw [← HR.out]; unfold lookM; rw [HO.out]
      have HG := hide hg
      have hL := blk_alloc CR.out (.cells #[.int .u32 0, .int .u8 0, .string (strOf [])] 104)
      have CL := hide hL
      obtain ⟨z0, z1, f0, f1, z2, f2⟩ := res_facts hL
      obtain ⟨z3, f3, z4⟩ := res_facts3 CR.out (.cells #[.int .u32 0, .int .u8 0, .string (strOf [])] 104)
      have Z4 := hide z4
      clear z4
      have V2 := hide (U1.out.alloc (.cells #[.int .u32 0, .int .u8 0, .string (strOf [])] 104))
      clear hlk hg hL
      go_wp2_with fail
      have hW := (upd2 w1 w.heap.size (.int .u8 0) (.string ⟨#[]⟩)).alloc (.cells #[.int .u32 0, .int .u8 0, .string (strOf [])] 104)
      exact ret_rp2 (blk_alloc (stored2 CR.out) _) rfl rfl rfl rfl ⟨by rw [HG.out]; rfl, U1.out.trans_new hW (fun k hk => .inr (by simp at hk; omega))⟩
    | some x =>
      have hl' : (Instr.lookup 108 (.map (some g)) (.int .u32 (client : Int)) true).run Tryz.prog w1 = .ok (.tuple #[.agg #[.int .u32 (x.seq : Int), .int .u8 (x.r.code : Int), .string (strOf x.r.text)], .bool true]) w1 := hlk
      have hL := blk_alloc CR.out (.cells #[.int .u32 (x.seq : Int), .int .u8 (x.r.code : Int), .string (strOf x.r.text)] 104)
      have CL := hide hL
      obtain ⟨z0, z1, f0, f1, z2, f2⟩ := res_facts hL
      obtain ⟨z3, f3, z4⟩ := res_facts3 CR.out (.cells #[.int .u32 (x.seq : Int), .int .u8 (x.r.code : Int), .string (strOf x.r.text)] 104)
      have Z4 := hide z4
      clear z4
      have V2 := hide (U1.out.alloc (.cells #[.int .u32 (x.seq : Int), .int .u8 (x.r.code : Int), .string (strOf x.r.text)] 104))
      clear hlk hL
      by_cases h1 : x.seq < seq
      · have d1 : decide ((x.seq : Int) < (seq : Int)) = true := by simp; omega
        have d1' : decide (x.seq < seq) = true := by simpa using h1
        have hg : r = (⟨0, []⟩, 0) := by rw [← HR.out]; unfold lookM; rw [HO.out]; simp only; rw [if_pos h1]
        have HG := hide hg
        clear hg h1
        go_wp2_with fail
        have hW := (upd2 w1 w.heap.size (.int .u8 0) (.string ⟨#[]⟩)).alloc (.cells #[.int .u32 (x.seq : Int), .int .u8 (x.r.code : Int), .string (strOf x.r.text)] 104)
        exact ret_rp2 (blk_alloc (stored2 CR.out) _) rfl rfl rfl rfl ⟨by rw [HG.out]; rfl, U1.out.trans_new hW (fun k hk => .inr (by simp at hk; omega))⟩
      · have d1 : decide ((x.seq : Int) < (seq : Int)) = false := by simp; omega
        have d1' : decide (x.seq < seq) = false := by simpa using h1
        by_cases h2 : x.seq = seq
        · have d2 : ((seq : Int) == (x.seq : Int)) = true := by simp; omega
          have d3 : ((x.seq : Int) == (seq : Int)) = true := by simp; omega
          have d4 : decide ((seq : Int) < (x.seq : Int)) = false := by simp; omega
          have d5 : decide (seq < x.seq) = false := by simp; omega
          have hg : r = (x.r, 1) := by rw [← HR.out]; unfold lookM; rw [HO.out]; simp only; rw [if_neg h1, if_pos h2.symm]
          have HG := hide hg
          clear hg h1 h2
          go_wp2_with fail
          have hW := (upd2 w1 w.heap.size (.int .u8 (x.r.code : Int)) (.string (strOf x.r.text))).alloc (.cells #[.int .u32 (x.seq : Int), .int .u8 (x.r.code : Int), .string (strOf x.r.text)] 104)
          exact ret_rp2 (blk_alloc (stored2 CR.out) _) rfl rfl rfl rfl ⟨by rw [HG.out]; rfl, U1.out.trans_new hW (fun k hk => .inr (by simp at hk; omega))⟩
        · have d2 : ((seq : Int) == (x.seq : Int)) = false := by simp; omega
          have d3 : ((x.seq : Int) == (seq : Int)) = false := by simp; omega
          have d4 : decide ((seq : Int) < (x.seq : Int)) = true := by simp; omega
          have d5 : decide (seq < x.seq) = true := by simp; omega
          have hg : r = (⟨3, []⟩, 2) := by rw [← HR.out]; unfold lookM; rw [HO.out]; simp only; rw [if_neg h1, if_neg (fun e => h2 e.symm)]
          have HG := hide hg
          clear hg h1 h2
          go_wp2_with fail
          have hW := (upd2 w1 w.heap.size (.int .u8 3) (.string ⟨#[]⟩)).alloc (.cells #[.int .u32 (x.seq : Int), .int .u8 (x.r.code : Int), .string (strOf x.r.text)] 104)
          exact ret_rp2 (blk_alloc (stored2 CR.out) _) rfl rfl rfl rfl ⟨by rw [HG.out]; rfl, U1.out.trans_new hW (fun k hk => .inr (by simp at hk; omega))⟩
noncomputable def keepOps : Array Oper := findOps 3 ((Tryz.f20.body).getD .skip)
set_option maxRecDepth 100000 in
set_option maxHeartbeats 2000000 in
theorem keep_any {b c g : Nat} {t : TM} {client seq : Nat} {r : Rp} (w : World) (h : TbIs w b c g t) (hc : client < 4294967296) (h0 : client ≠ 0) (hf : (lookM t client seq).2 = 0) (hl : t.length ≤ 1000000) :
    Calls Tryz.prog 20 #[.pointer (some ⟨b, 0, none⟩), .int .u32 (client : Int), .int .u32 (seq : Int), rpv r] w fun e w' => e = .returned (.tuple #[]) ∧ TbIs w' b c g (mput cliK t client ⟨seq, r⟩) ∧ Upd [g] w w' := by
  have TB := hide h; have HF := hide hf
  have n0 : ((client : Int) != 0) = true := by simp; omega
  have n0' : ((client : Int) == 0) = false := by simp; omega
  obtain ⟨w0, hw0⟩ : ∃ w0, w0 = w.alloc (.cells #[.int .u8 (r.code : Int), .string (strOf r.text)] TRp) := ⟨_, rfl⟩
  have hu := (Upd.refl [] w).alloc (.cells #[.int .u8 (r.code : Int), .string (strOf r.text)] TRp)
  have hB := blk_new w (.cells #[.int .u8 (r.code : Int), .string (strOf r.text)] TRp)
  rw [← hw0] at hu hB
  have hbl := blk_lt h.blk; have hcl := blk_lt h.cli; have hgl := MapKind.is_lt h.map; have hne := h.ne
  have U0 := hide hu; have CB := hide hB; have T0 := hide (h.upd_nil hu)
  clear h hf hu hB
  unfold rpv
  go_enter Tryz.func20, Tryz.ntmps20
  go_wp2_with fail
  rw [← hw0]
  clear hw0
  refine (look_any w0 T0.out hc).mono ?_
  rintro e w1 ⟨rfl, hu1⟩
  rw [HF.out]
  generalize (lookM t client seq).1 = q
  unfold rpv
  have U1 := hide hu1; have T1 := hide (T0.out.upd_nil hu1); have CB1 := hide (hu1.get CB.out (by simp))
  clear hu1
  go_upto_region 3 with fail
  have hu2 := (Upd.refl [] w1).alloc (.cells #[.int .u8 (q.code : Int), .string (strOf q.text)] TRp)
  change Code.wp _ _ _ _ (w1.alloc (.cells #[.int .u8 (q.code : Int), .string (strOf q.text)] TRp))
  generalize w1.alloc (.cells #[.int .u8 (q.code : Int), .string (strOf q.text)] TRp) = w2 at *
  have U2 := hide ((U0.out.trans U1.out).trans hu2); have T2 := hide (T1.out.upd_nil hu2); have CB2 := hide (hu2.get CB1.out (by simp))
  clear hu2 U0 U1 T0 T1 CB CB1
  refine wp_region_seq keepOps (by kernel_rfl) [11] (Upd [g] (w2.drewN 1)) (by kernel_rfl) (by kernel_rfl) (fun _ _ d _ _ h => by cases d <;> exact h) (Upd.refl _ _) ?_
  refine wpSeq_take (by kernel_rfl) (by kernel_rfl) ?_
  apply Exists.intro
  refine ⟨fun wx hS => ?_, fun a' ha => ?_⟩
  · go_simp; rfl
  simp only [Act.put, List.setIfInBounds_toArray, List.set_cons_succ, List.set_cons_zero] at ha
  subst ha
  refine wpSeq_take (by kernel_rfl) (by kernel_rfl) ?_
  apply Exists.intro
  refine ⟨fun wx hS => ?_, fun a' ha => ?_⟩
  · go_simp; rfl
  simp only [Act.put, List.setIfInBounds_toArray, List.set_cons_succ, List.set_cons_zero] at ha
  subst ha
  refine wpSeq_take (by kernel_rfl) (by kernel_rfl) ?_
  apply Exists.intro
  refine ⟨fun wx hS => ?_, fun a' ha => ?_⟩
  · go_simp; rfl
  simp only [Act.put, List.setIfInBounds_toArray, List.set_cons_succ, List.set_cons_zero] at ha
  subst ha
  refine wpSeq_take (by kernel_rfl) (by kernel_rfl) ?_
  apply Exists.intro
  refine ⟨fun wx hS => ?_, fun a' ha => ?_⟩
  · have c0 : wx.cell? ⟨b, 0, none⟩ = some (.pointer (some ⟨c, 0, none⟩)) := blk_cell (hS.get (show (w2.drewN 1).heap[b]? = _ from T2.out.blk) (by simpa using hne.1)) rfl; go_simp; rfl
  simp only [Act.put, List.setIfInBounds_toArray, List.set_cons_succ, List.set_cons_zero] at ha
  subst ha
  refine wpSeq_take (by kernel_rfl) (by kernel_rfl) ?_
  apply Exists.intro
  refine ⟨fun wx hS => ?_, fun a' ha => ?_⟩
  · go_simp; rfl
  simp only [Act.put, List.setIfInBounds_toArray, List.set_cons_succ, List.set_cons_zero] at ha
  subst ha
  refine wpSeq_take (by kernel_rfl) (by kernel_rfl) ?_
  apply Exists.intro
  refine ⟨fun wx hS => ?_, fun a' ha => ?_⟩
  · go_simp; rfl
  simp only [Act.put, List.setIfInBounds_toArray, List.set_cons_succ, List.set_cons_zero] at ha
  subst ha
  refine wpSeq_take (by kernel_rfl) (by kernel_rfl) ?_
  apply Exists.intro
  refine ⟨fun wx hS => ?_, fun a' ha => ?_⟩
  · have c0 : wx.cell? ⟨c, 0, none⟩ = some (.map (some g)) := blk_cell (hS.get (show (w2.drewN 1).heap[c]? = _ from T2.out.cli) (by simpa using hne.2)) rfl; go_simp; rfl
  simp only [Act.put, List.setIfInBounds_toArray, List.set_cons_succ, List.set_cons_zero] at ha
  subst ha
  refine wpSeq_take (by kernel_rfl) (by kernel_rfl) ?_
  apply Exists.intro
  refine ⟨fun wx hS => ?_, fun a' ha => ?_⟩
  · go_simp; rfl
  simp only [Act.put, List.setIfInBounds_toArray, List.set_cons_succ, List.set_cons_zero] at ha
  subst ha
  refine wpSeq_take (by kernel_rfl) (by kernel_rfl) ?_
  apply Exists.intro
  refine ⟨fun wx hS => ?_, fun a' ha => ?_⟩
  · go_simp; rfl
  simp only [Act.put, List.setIfInBounds_toArray, List.set_cons_succ, List.set_cons_zero] at ha
  subst ha
  refine wpSeq_take (by kernel_rfl) (by kernel_rfl) ?_
  apply Exists.intro
  refine ⟨fun wx hS => ?_, fun a' ha => ?_⟩
  · have hz := hS.get (show (w2.drewN 1).heap[w.heap.size]? = _ from CB2.out) (by simp; omega); have c0 : wx.cell? ⟨w.heap.size, 0, none⟩ = some (.int .u8 (r.code : Int)) := blk_cell hz rfl; have c1 : wx.cell? ⟨w.heap.size, 1, none⟩ = some (.string (strOf r.text)) := blk_cell hz rfl; go_simp; rfl
  simp only [Act.put, List.setIfInBounds_toArray, List.set_cons_succ, List.set_cons_zero] at ha
  subst ha
  refine wpSeq_take (by kernel_rfl) (by kernel_rfl) ?_
  apply Exists.intro
  refine ⟨fun wx hS => ?_, fun a' ha => ?_⟩
  · go_simp; rfl
  simp only [Act.put, List.setIfInBounds_toArray, List.set_cons_succ, List.set_cons_zero] at ha
  subst ha
  refine wpSeq_one (by kernel_rfl) (by kernel_rfl) (fun K hK => ?_)
  obtain ⟨w3, hr, hm, hu3⟩ := MapKind.store (MapKind.is_upd_nil T2.out.map ((Upd.refl [] _).drewN 1)) (k := client) (v := ⟨seq, r⟩) hc trivial (by unfold maxLen; omega)
  have hr' : (Instr.mapUpdate 108 (.map (some g)) (.int .u32 (client : Int)) (.agg #[.int .u32 (seq : Int), .int .u8 (r.code : Int), .string (strOf r.text)])).run Tryz.prog (w2.drewN 1) = .ok () w3 := hr
  go_simp
  have hm' : Upd [g] w2 w3 := (((Upd.refl [] w2).drewN 1).mono (by simp)).trans hu3
  have T3 := hide (T2.out.turn hm' hm); have V3 := hide hm'
  clear hr hr' hm hm'
  refine hK _ _ (hu3) ?_
  clear hK K
  try simp only [Act.put, List.setIfInBounds_toArray, List.set_cons_succ, List.set_cons_zero]
  clear hu3
  unfold wpSeq
  go_wp2_with fail
  go_end0
  exact ⟨rfl, T3.out, (U2.out.mono (by simp)).trans V3.out⟩
noncomputable def tcopyOps : Array Oper := findOps 3 ((Tryz.f52.body).getD .skip)
set_option maxRecDepth 100000 in
set_option maxHeartbeats 2000000 in
theorem tcopy_any {b c g : Nat} {t : TM} (w : World) (h : TbIs w b c g t) (ht : Rise cliK t) (hk : ∀ p ∈ t, p.1 < 4294967296) (hl : t.length ≤ 1000000) :
    Calls Tryz.prog 52 #[.pointer (some ⟨b, 0, none⟩)] w fun e w' => (∃ b' c' g', e = .returned (.pointer (some ⟨b', 0, none⟩)) ∧ TbIs w' b' c' g' t ∧ w.heap.size ≤ b' ∧ w.heap.size ≤ c' ∧ w.heap.size ≤ g') ∧ Upd [] w w' := by
  have ST := hide h
  clear h
  go_enter Tryz.func52, Tryz.ntmps52
  go_wp2_with fail
  refine (tnew_any w).mono ?_
  rintro e w1 ⟨rfl, hs1, hu1⟩
  have S1 := hide hs1; have U1 := hide hu1
  clear hs1 hu1
  go_wp2_with fail
  have hbl := blk_lt ST.out.blk
  have hcl := blk_lt ST.out.cli
  have hgl := MapKind.is_lt ST.out.map
  refine wp_region_seq tcopyOps (by kernel_rfl) [14] (Upd [w.heap.size] w1) (by kernel_rfl) (by kernel_rfl) (fun _ _ d _ _ h => by cases d <;> exact h) ((Upd.refl _ _).drewN 1) ?_
  refine wpSeq_take (by kernel_rfl) (by kernel_rfl) ?_
  apply Exists.intro
  refine ⟨fun wx hS => ?_, fun a' ha => ?_⟩
  · go_simp; rfl
  simp only [Act.put, List.setIfInBounds_toArray, List.set_cons_succ, List.set_cons_zero] at ha
  subst ha
  refine wpSeq_take (by kernel_rfl) (by kernel_rfl) ?_
  apply Exists.intro
  refine ⟨fun wx hS => ?_, fun a' ha => ?_⟩
  · go_simp; rfl
  simp only [Act.put, List.setIfInBounds_toArray, List.set_cons_succ, List.set_cons_zero] at ha
  subst ha
  refine wpSeq_take (by kernel_rfl) (by kernel_rfl) ?_
  apply Exists.intro
  refine ⟨fun wx hS => ?_, fun a' ha => ?_⟩
  · go_simp; rfl
  simp only [Act.put, List.setIfInBounds_toArray, List.set_cons_succ, List.set_cons_zero] at ha
  subst ha
  refine wpSeq_take (by kernel_rfl) (by kernel_rfl) ?_
  apply Exists.intro
  refine ⟨fun wx hS => ?_, fun a' ha => ?_⟩
  · have c0 : wx.cell? ⟨w.heap.size + 2, 0, none⟩ = some (.pointer (some ⟨w.heap.size + 1, 0, none⟩)) := blk_cell (hS.get S1.out.blk (by simp)) rfl; go_simp; rfl
  simp only [Act.put, List.setIfInBounds_toArray, List.set_cons_succ, List.set_cons_zero] at ha
  subst ha
  refine wpSeq_take (by kernel_rfl) (by kernel_rfl) ?_
  apply Exists.intro
  refine ⟨fun wx hS => ?_, fun a' ha => ?_⟩
  · go_simp; rfl
  simp only [Act.put, List.setIfInBounds_toArray, List.set_cons_succ, List.set_cons_zero] at ha
  subst ha
  refine wpSeq_take (by kernel_rfl) (by kernel_rfl) ?_
  apply Exists.intro
  refine ⟨fun wx hS => ?_, fun a' ha => ?_⟩
  · go_simp; rfl
  simp only [Act.put, List.setIfInBounds_toArray, List.set_cons_succ, List.set_cons_zero] at ha
  subst ha
  refine wpSeq_take (by kernel_rfl) (by kernel_rfl) ?_
  apply Exists.intro
  refine ⟨fun wx hS => ?_, fun a' ha => ?_⟩
  · have c0 : wx.cell? ⟨w.heap.size + 1, 0, none⟩ = some (.map (some w.heap.size)) := blk_cell (hS.get S1.out.cli (by simp)) rfl; go_simp; rfl
  simp only [Act.put, List.setIfInBounds_toArray, List.set_cons_succ, List.set_cons_zero] at ha
  subst ha
  refine wpSeq_take (by kernel_rfl) (by kernel_rfl) ?_
  apply Exists.intro
  refine ⟨fun wx hS => ?_, fun a' ha => ?_⟩
  · go_simp; rfl
  simp only [Act.put, List.setIfInBounds_toArray, List.set_cons_succ, List.set_cons_zero] at ha
  subst ha
  refine wpSeq_take (by kernel_rfl) (by kernel_rfl) ?_
  apply Exists.intro
  refine ⟨fun wx hS => ?_, fun a' ha => ?_⟩
  · go_simp; rfl
  simp only [Act.put, List.setIfInBounds_toArray, List.set_cons_succ, List.set_cons_zero] at ha
  subst ha
  refine wpSeq_take (by kernel_rfl) (by kernel_rfl) ?_
  apply Exists.intro
  refine ⟨fun wx hS => ?_, fun a' ha => ?_⟩
  · go_simp; rfl
  simp only [Act.put, List.setIfInBounds_toArray, List.set_cons_succ, List.set_cons_zero] at ha
  subst ha
  refine wpSeq_take (by kernel_rfl) (by kernel_rfl) ?_
  apply Exists.intro
  refine ⟨fun wx hS => ?_, fun a' ha => ?_⟩
  · have c0 : wx.cell? ⟨b, 0, none⟩ = some (.pointer (some ⟨c, 0, none⟩)) := blk_cell (hS.get (U1.out.get ST.out.blk (by simp)) (by simp; omega)) rfl; go_simp; rfl
  simp only [Act.put, List.setIfInBounds_toArray, List.set_cons_succ, List.set_cons_zero] at ha
  subst ha
  refine wpSeq_take (by kernel_rfl) (by kernel_rfl) ?_
  apply Exists.intro
  refine ⟨fun wx hS => ?_, fun a' ha => ?_⟩
  · go_simp; rfl
  simp only [Act.put, List.setIfInBounds_toArray, List.set_cons_succ, List.set_cons_zero] at ha
  subst ha
  refine wpSeq_take (by kernel_rfl) (by kernel_rfl) ?_
  apply Exists.intro
  refine ⟨fun wx hS => ?_, fun a' ha => ?_⟩
  · go_simp; rfl
  simp only [Act.put, List.setIfInBounds_toArray, List.set_cons_succ, List.set_cons_zero] at ha
  subst ha
  refine wpSeq_take (by kernel_rfl) (by kernel_rfl) ?_
  apply Exists.intro
  refine ⟨fun wx hS => ?_, fun a' ha => ?_⟩
  · have c0 : wx.cell? ⟨c, 0, none⟩ = some (.map (some g)) := blk_cell (hS.get (U1.out.get ST.out.cli (by simp)) (by simp; omega)) rfl; go_simp; rfl
  simp only [Act.put, List.setIfInBounds_toArray, List.set_cons_succ, List.set_cons_zero] at ha
  subst ha
  refine wpSeq_one (by kernel_rfl) (by kernel_rfl) (fun K hK => ?_)
  go_simp
  refine (copyT_any (gd := w.heap.size) (gs := g) (l := t) (w1.drewN 1) (MapKind.is_upd_nil S1.out.map ((Upd.refl [] _).drewN 1)) (MapKind.is_upd_nil ST.out.map (U1.out.drewN 1)) (by omega) ht (fun p hp => ⟨hk p hp, trivial⟩) hl).mono ?_
  rintro e w2 ⟨rfl, hm2, hu2⟩
  have hd2 : Upd [w.heap.size] w1 w2 := ((Upd.refl _ _).drewN 1).trans hu2
  have S2 := hide (S1.out.turn hd2 hm2); have U2 := hide (U1.out.trans_new hd2 (fun k hk => .inr (by simp at hk; omega)))
  clear hm2 hu2
  refine hK _ _ (hd2) ?_
  clear hK K
  try simp only [Act.put, List.setIfInBounds_toArray, List.set_cons_succ, List.set_cons_zero]
  clear hd2
  unfold wpSeq
  go_wp2_with fail
  go_ret
  exact ⟨⟨_, _, _, rfl, S2.out, by omega, by omega, Nat.le_refl _⟩, U2.out⟩
end Go.Proofs.YthpnnffogbjhpaaGreatDoor.Kv
