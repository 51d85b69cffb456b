/- The document's application does a command. -/
import Derived.Test.YthpnnffogbjhpaaGreatDoorR11kc
import Derived.Test.YthpnnffogbjhpaaGreatDoorKvPure
import Derived.Test.YthpnnffogbjhpaaGreatDoorKvN
import Derived.Test.YthpnnffogbjhpaaGreatDoorGenAll
set_option linter.unusedSimpArgs false
set_option linter.unusedVariables false
set_option linter.unnecessarySimpa false
namespace Go.Proofs.YthpnnffogbjhpaaGreatDoor.Kv
set_option linter.unusedSimpArgs false
set_option linter.unusedVariables false
open Go.RowKit Go.Lib Go.Proofs.YthpnnffogbjhpaaGreatDoor.Crc Go.Proofs.YthpnnffogbjhpaaGreatDoor.Cm

abbrev TRa : TypeId := 37
theorem results_cct {fn : Func} {p q u : Tmp} {ty ty2 : TypeId} (h : fn.results = #[.cell p ty, .cell q ty2, .tmp u]) (tmps : Array Value) (P : Program) (w : World) :
    (results fn tmps).run P w = ((asAddr (tmps.getD p undef)).run P w).andThen fun a w₁ => ((loadVar ty a).run P w₁).andThen fun v w₂ =>
      ((asAddr (tmps.getD q undef)).run P w₂).andThen fun a2 w₃ => ((loadVar ty2 a2).run P w₃).andThen fun v2 w₄ => .ok (.tuple #[v, v2, tmps.getD u undef]) w₄ := by
  simp only [results, h]
  simp [Sem.run_bind, Result.andThen]
theorem ret_ra {fn : Func} {p q u : Tmp} {A B : Nat} {x0 x1 x2 : Value} {c : Int} {s : ByteArray} {x : Value} {W : World} {act : Act} {post : Ending → World → Prop} (hA : W.heap[A]? = some (.cells #[x0, x1, x2] TRa (0, 0))) (hW : W.heap[B]? = some (.cells #[.int .u8 c, .string s] TRp (0, 0)))
    (hfn : fn.results = #[.cell p TRa, .cell q TRp, .tmp u]) (hp : act.tmps.getD p undef = .pointer (some ⟨A, 0, none⟩)) (hq : act.tmps.getD q undef = .pointer (some ⟨B, 0, none⟩)) (hv : act.tmps.getD u undef = x) (hd : act.defers = [])
    (h : post (.returned (.tuple #[.agg #[x0, x1, x2], .agg #[.int .u8 c, .string s], x])) W) : bodyPost Tryz.prog fn post Exit.ret act W := by
  have y0 : W.cell? ⟨A, 0, none⟩ = some x0 := blk_cell hA rfl
  have y1 : W.cell? ⟨A, 1, none⟩ = some x1 := blk_cell hA rfl
  have y2 : W.cell? ⟨A, 2, none⟩ = some x2 := blk_cell hA rfl
  have z0 : W.cell? ⟨B, 0, none⟩ = some (.int .u8 c) := blk_cell hW rfl
  have z1 : W.cell? ⟨B, 1, none⟩ = some (.string s) := blk_cell hW rfl
  refine bodyPost_ret (v := .tuple #[.agg #[x0, x1, x2], .agg #[.int .u8 c, .string s], x]) ?_ hd h
  rw [results_cct hfn, hp, hq, hv]
  go_simp
theorem stored3 {w : World} {B : Nat} {t : TypeId} {u0 u1 u2 v0 v1 v2 : Value} (h : w.heap[B]? = some (.cells #[u0, u1, u2] t (0, 0))) : (((w.setCell ⟨B, 0, none⟩ v0).setCell ⟨B, 1, none⟩ v1).setCell ⟨B, 2, none⟩ v2).heap[B]? = some (.cells #[v0, v1, v2] t (0, 0)) := by
  have h1 := blk_set (i := 0) h v0
  simp only [List.setIfInBounds_toArray, List.set_cons_zero] at h1
  have h2 := blk_set (i := 1) h1 v1
  simp only [List.setIfInBounds_toArray, List.set_cons_succ, List.set_cons_zero] at h2
  have h3 := blk_set (i := 2) h2 v2
  simpa only [List.setIfInBounds_toArray, List.set_cons_succ, List.set_cons_zero] using h3
theorem cell3 {w : World} {b : Nat} {t : TypeId} {x0 x1 x2 : Value} (h : w.heap[b]? = some (.cells #[x0, x1, x2] t (0, 0))) : w.cell? ⟨b, 0, none⟩ = some x0 ∧ w.cell? ⟨b, 1, none⟩ = some x1 ∧ w.cell? ⟨b, 2, none⟩ = some x2 := ⟨blk_cell h rfl, blk_cell h rfl, blk_cell h rfl⟩
theorem cell2 {w : World} {b : Nat} {t : TypeId} {x0 x1 : Value} (h : w.heap[b]? = some (.cells #[x0, x1] t (0, 0))) : w.cell? ⟨b, 0, none⟩ = some x0 ∧ w.cell? ⟨b, 1, none⟩ = some x1 := ⟨blk_cell h rfl, blk_cell h rfl⟩
theorem res_facts32 {w : World} {A B : Nat} {t t' : TypeId} {u0 u1 u2 x0 x1 : Value} (hA : w.heap[A]? = some (.cells #[u0, u1, u2] t (0, 0))) (hB : w.heap[B]? = some (.cells #[x0, x1] t' (0, 0))) (hne : A ≠ B) :
    w.cell? ⟨A, 0, none⟩ = some u0 ∧ w.frozen? ⟨A, 0, none⟩ = false ∧ (∀ v, (w.setCell ⟨A, 0, none⟩ v).cell? ⟨A, 1, none⟩ = some u1) ∧ (∀ v, (w.setCell ⟨A, 0, none⟩ v).frozen? ⟨A, 1, none⟩ = false) ∧
    (∀ v v', ((w.setCell ⟨A, 0, none⟩ v).setCell ⟨A, 1, none⟩ v').cell? ⟨A, 2, none⟩ = some u2) ∧ (∀ v v', ((w.setCell ⟨A, 0, none⟩ v).setCell ⟨A, 1, none⟩ v').frozen? ⟨A, 2, none⟩ = false) ∧
    (∀ v v' v'', (((w.setCell ⟨A, 0, none⟩ v).setCell ⟨A, 1, none⟩ v').setCell ⟨A, 2, none⟩ v'').cell? ⟨B, 0, none⟩ = some x0) ∧ (∀ v v' v'', (((w.setCell ⟨A, 0, none⟩ v).setCell ⟨A, 1, none⟩ v').setCell ⟨A, 2, none⟩ v'').frozen? ⟨B, 0, none⟩ = false) ∧
    (∀ v v' v'' x, ((((w.setCell ⟨A, 0, none⟩ v).setCell ⟨A, 1, none⟩ v').setCell ⟨A, 2, none⟩ v'').setCell ⟨B, 0, none⟩ x).cell? ⟨B, 1, none⟩ = some x1) ∧ (∀ v v' v'' x, ((((w.setCell ⟨A, 0, none⟩ v).setCell ⟨A, 1, none⟩ v').setCell ⟨A, 2, none⟩ v'').setCell ⟨B, 0, none⟩ x).frozen? ⟨B, 1, none⟩ = false) ∧
    (∀ v v' v'' x x', (((((w.setCell ⟨A, 0, none⟩ v).setCell ⟨A, 1, none⟩ v').setCell ⟨A, 2, none⟩ v'').setCell ⟨B, 0, none⟩ x).setCell ⟨B, 1, none⟩ x').heap[A]? = some (.cells #[v, v', v''] t (0, 0)) ∧
      (((((w.setCell ⟨A, 0, none⟩ v).setCell ⟨A, 1, none⟩ v').setCell ⟨A, 2, none⟩ v'').setCell ⟨B, 0, none⟩ x).setCell ⟨B, 1, none⟩ x').heap[B]? = some (.cells #[x, x'] t' (0, 0)) ∧
      Upd [A, B] w (((((w.setCell ⟨A, 0, none⟩ v).setCell ⟨A, 1, none⟩ v').setCell ⟨A, 2, none⟩ v'').setCell ⟨B, 0, none⟩ x).setCell ⟨B, 1, none⟩ x')) := by
  have h1 : ∀ v, (w.setCell ⟨A, 0, none⟩ v).heap[A]? = some (.cells #[v, u1, u2] t (0, 0)) := fun v => by
    have h1 := blk_set (i := 0) hA v
    simpa only [List.setIfInBounds_toArray, List.set_cons_zero] using h1
  have h2 : ∀ v v', ((w.setCell ⟨A, 0, none⟩ v).setCell ⟨A, 1, none⟩ v').heap[A]? = some (.cells #[v, v', u2] t (0, 0)) := fun v v' => by
    have h2 := blk_set (i := 1) (h1 v) v'
    simpa only [List.setIfInBounds_toArray, List.set_cons_succ, List.set_cons_zero] using h2
  have h3 : ∀ v v' v'', (((w.setCell ⟨A, 0, none⟩ v).setCell ⟨A, 1, none⟩ v').setCell ⟨A, 2, none⟩ v'').heap[A]? = some (.cells #[v, v', v''] t (0, 0)) := fun v v' v'' => stored3 hA
  have b3 : ∀ v v' v'', (((w.setCell ⟨A, 0, none⟩ v).setCell ⟨A, 1, none⟩ v').setCell ⟨A, 2, none⟩ v'').heap[B]? = some (.cells #[x0, x1] t' (0, 0)) := fun v v' v'' => blk_set_other (blk_set_other (blk_set_other hB hne.symm _) hne.symm _) hne.symm _
  have b4 : ∀ v v' v'' x, ((((w.setCell ⟨A, 0, none⟩ v).setCell ⟨A, 1, none⟩ v').setCell ⟨A, 2, none⟩ v'').setCell ⟨B, 0, none⟩ x).heap[B]? = some (.cells #[x, x1] t' (0, 0)) := fun v v' v'' x => by
    have h2 := blk_set (i := 0) (b3 v v' v'') x
    simpa only [List.setIfInBounds_toArray, List.set_cons_succ, List.set_cons_zero] using h2
  refine ⟨blk_cell hA rfl, blk_free hA, fun v => blk_cell (h1 v) rfl, fun v => blk_free (h1 v), fun v v' => blk_cell (h2 v v') rfl, fun v v' => blk_free (h2 v v'), fun v v' v'' => blk_cell (b3 v v' v'') rfl, fun v v' v'' => blk_free (b3 v v' v''),
    fun v v' v'' x => blk_cell (b4 v v' v'' x) rfl, fun v v' v'' x => blk_free (b4 v v' v'' x), fun v v' v'' x x' => ⟨blk_set_other (blk_set_other (h3 v v' v'') hne _) hne _, ?_, ?_⟩⟩
  · have h2 := blk_set (i := 1) (b4 v v' v'' x) x'
    simpa only [List.setIfInBounds_toArray, List.set_cons_succ, List.set_cons_zero] using h2
  · exact (((((Upd.refl [A, B] w).setCell (p := ⟨A, 0, none⟩) (.inl (by simp)) v).setCell (p := ⟨A, 1, none⟩) (.inl (by simp)) v').setCell (p := ⟨A, 2, none⟩) (.inl (by simp)) v'').setCell (p := ⟨B, 0, none⟩) (.inl (by simp)) x).setCell (p := ⟨B, 1, none⟩) (.inl (by simp)) x'
set_option maxRecDepth 100000 in
set_option maxHeartbeats 8000000 in
theorem rado_any {Pr : World → (Nat → Prop) → Value → KM → Prop} {Tp Tl T' : Nat → Prop} {vp vl vc : Value} {a : Ap} {c : Cm} (w : World)
    (hPu : ∀ w w' U S v m, Pr w U v m → Upd S w w' → (∀ k ∈ S, ¬ U k) → Pr w' U v m) (hPm : ∀ w U V v m, Pr w U v m → (∀ k, U k → V k) → Pr w V v m) (hPs : ∀ w U v m, Pr w U v m → ∃ xo l cp, v = .slice xo l cp)
    (hdo : ∀ w U vp, Pr w U vp a.m → (∀ k, U k → k < w.heap.size) → CmAt w T' vc c → Calls Tryz.prog 42 #[vp, vc] w fun e w' => (∃ v', e = .returned (.tuple #[v', rpv (kvDo a.m c).2]) ∧ Pr w' (fun g => U g ∨ since w.heap.size w' g) v' (kvDo a.m c).1) ∧ Upd [] w w')
    (h : Pr w Tp vp a.m) (hTp : ∀ k, Tp k → k < w.heap.size) (h2 : laK.row w Tl vl a.t) (hc : CmAt w T' vc c) (hr : Rise cliK a.t) (hk : ∀ p ∈ a.t, p.1 < 4294967296 ∧ p.2.seq < 4294967296) (hn : a.n < 9223372036854775807) (hln : a.t.length ≤ 100000) :
    Calls Tryz.prog 12 #[.agg #[vp, vl, .int .u64 (a.n : Int)], vc] w fun e w' => (∃ vp' vl', e = .returned (.tuple #[.agg #[vp', vl', .int .u64 ((apDo a c).1.n : Int)], rpv (apDo a c).2.1, .bool (apDo a c).2.2]) ∧
      Pr w' (fun g => Tp g ∨ since w.heap.size w' g) vp' (apDo a c).1.m ∧ laK.row w' (fun g => Tl g ∨ since w.heap.size w' g) vl' (apDo a c).1.t) ∧ Upd [] w w' := by
  have HC := hide hc
  obtain ⟨fit, ks, rfl, hks⟩ := hc
  obtain ⟨xo, cp, rfl, h5, h6, -⟩ := hks.get
  obtain ⟨f1, f2, f3, f4, f5, -⟩ := id fit
  obtain ⟨po, pl, pc, rfl⟩ := hPs _ _ _ _ h
  obtain ⟨lo, lc, rfl, ll1, ll2, hget⟩ := la_get h2
  have PR := hide h; have LR := hide h2; have HG := hide hget; have HDO := hide hdo; have HPU := hide hPu; have HPS := hide hPs; have HPM := hide hPm; have HTP := hide hTp; have RISE := hide hr; have HK := hide hk
  obtain ⟨r, hr'⟩ : ∃ r, apDo a c = r := ⟨_, rfl⟩
  have HR := hide hr'
  rw [hr']
  simp only [maxLen] at h6 ll2
  clear h h2 hget hdo hPu hPs hPm hTp hr hk hr' hks fit
  unfold cmv
  simp only [strV]
  go_enter Tryz.func12, Tryz.ntmps12
  go_upto_region 1 with fail
  obtain ⟨w1, hw1⟩ : ∃ w1, (((w.alloc (.cells #[.slice po pl pc, .slice lo a.t.length lc, .int .u64 (a.n : Int)] TRa)).alloc (.cells #[.int .u32 (c.client : Int), .int .u32 (c.seq : Int), .int .u8 (c.kind : Int), .slice xo c.keys.length cp, .string (strOf c.old), .string (strOf c.new), .int .i64 c.n] 45)).alloc (.cells #[.slice none 0 0, .slice none 0 0, .int .u64 0] TRa)).alloc (.cells #[.int .u8 0, .string ⟨#[]⟩] TRp) = w1 := ⟨_, rfl⟩
  have hs0 : w1.heap.size = w.heap.size + 4 := by rw [← hw1]; simp
  have hU : Upd [] w w1 := by rw [← hw1]; exact ((((Upd.refl [] w).alloc _).alloc _).alloc _).alloc _
  have hb0 : w1.heap[w.heap.size]? = some (.cells #[.slice po pl pc, .slice lo a.t.length lc, .int .u64 (a.n : Int)] TRa (0, 0)) := by rw [← hw1]; exact blk_alloc (blk_alloc (blk_alloc (blk_new w _) _) _) _
  have hb1 : w1.heap[w.heap.size + 1]? = some (.cells #[.int .u32 (c.client : Int), .int .u32 (c.seq : Int), .int .u8 (c.kind : Int), .slice xo c.keys.length cp, .string (strOf c.old), .string (strOf c.new), .int .i64 c.n] 45 (0, 0)) := by
    rw [← hw1]
    have := blk_new (w.alloc (.cells #[.slice po pl pc, .slice lo a.t.length lc, .int .u64 (a.n : Int)] TRa)) (.cells #[.int .u32 (c.client : Int), .int .u32 (c.seq : Int), .int .u8 (c.kind : Int), .slice xo c.keys.length cp, .string (strOf c.old), .string (strOf c.new), .int .i64 c.n] 45)
    rw [World.size_alloc] at this
    exact blk_alloc (blk_alloc this _) _
  have hb2 : w1.heap[w.heap.size + 1 + 1]? = some (.cells #[.slice none 0 0, .slice none 0 0, .int .u64 0] TRa (0, 0)) := by
    rw [← hw1]
    have := blk_new ((w.alloc (.cells #[.slice po pl pc, .slice lo a.t.length lc, .int .u64 (a.n : Int)] TRa)).alloc (.cells #[.int .u32 (c.client : Int), .int .u32 (c.seq : Int), .int .u8 (c.kind : Int), .slice xo c.keys.length cp, .string (strOf c.old), .string (strOf c.new), .int .i64 c.n] 45)) (.cells #[.slice none 0 0, .slice none 0 0, .int .u64 0] TRa)
    rw [World.size_alloc, World.size_alloc] at this
    exact blk_alloc this _
  have hb3 : w1.heap[w.heap.size + 1 + 1 + 1]? = some (.cells #[.int .u8 0, .string ⟨#[]⟩] TRp (0, 0)) := by
    rw [← hw1]
    have := blk_new (((w.alloc (.cells #[.slice po pl pc, .slice lo a.t.length lc, .int .u64 (a.n : Int)] TRa)).alloc (.cells #[.int .u32 (c.client : Int), .int .u32 (c.seq : Int), .int .u8 (c.kind : Int), .slice xo c.keys.length cp, .string (strOf c.old), .string (strOf c.new), .int .i64 c.n] 45)).alloc (.cells #[.slice none 0 0, .slice none 0 0, .int .u64 0] TRa)) (.cells #[.int .u8 0, .string ⟨#[]⟩] TRp)
    rw [World.size_alloc, World.size_alloc, World.size_alloc] at this
    exact this
  change Code.wp _ _ _ _ ((((w.alloc (.cells #[.slice po pl pc, .slice lo a.t.length lc, .int .u64 (a.n : Int)] TRa)).alloc (.cells #[.int .u32 (c.client : Int), .int .u32 (c.seq : Int), .int .u8 (c.kind : Int), .slice xo c.keys.length cp, .string (strOf c.old), .string (strOf c.new), .int .i64 c.n] 45)).alloc (.cells #[.slice none 0 0, .slice none 0 0, .int .u64 0] TRa)).alloc (.cells #[.int .u8 0, .string ⟨#[]⟩] TRp))
  rw [hw1]
  clear hw1
  have A0 := hide hb0; have A1 := hide hb1; have A2 := hide hb2; have A3 := hide hb3; have U1 := hide hU
  have p0 := blk_cell (i := 0) hb0 rfl; have p1 := blk_cell (i := 1) hb0 rfl; have p2 := blk_cell (i := 2) hb0 rfl
  have c0 := blk_cell (i := 0) hb1 rfl
  simp only [List.getElem_toArray, List.getElem_cons_zero, List.getElem_cons_succ] at p0 p1 p2 c0
  have LR1 := hide (laK.row_upd_nil LR.out hU)
  have G0 := hide (fun (j : Nat) (p : Nat × La) (hp : a.t[j]? = some p) => HG.out j p hp)
  clear hb0 hb1 hb2 hb3 hU
  by_cases hz : c.client = 0
  · have d0 : ((c.client : Int) == 0) = true := by rw [hz]; rfl
    have hg : r = (a, ⟨2, []⟩, false) := by rw [← HR.out]; unfold apDo; rw [if_pos hz]
    have HGR := hide hg
    obtain ⟨z0, z1, z2, z3, z4, z5, z6, z7, z8, z9, zz⟩ := res_facts32 A2.out A3.out (by omega)
    have ZZ := hide zz
    clear hz hg zz
    go_wp2_with fail
    obtain ⟨e1, e2, e3⟩ := ZZ.out (.slice po pl pc) (.slice lo a.t.length lc) (.int .u64 (a.n : Int)) (.int .u8 2) (.string ⟨#[]⟩)
    have e4 := U1.out.trans_new e3 (fun k hk => .inr (by simp at hk; omega))
    refine ret_ra e1 e2 rfl rfl rfl rfl rfl ⟨⟨_, _, by rw [HGR.out]; rfl, ?_, ?_⟩, e4⟩
    · rw [HGR.out]
      exact HPM.out _ _ _ _ _ (HPU.out _ _ _ _ _ _ PR.out e4 (by simp)) (fun k hk => .inl hk)
    · rw [HGR.out]
      exact (laK.row_upd_nil LR.out e4).mono (fun g hg => .inl hg) fun _ _ _ h => h
  · have d0 : ((c.client : Int) == 0) = false := by
      have : (c.client : Int) ≠ 0 := by omega
      simpa using this
    go_upto_block 0 with fail
    go_cut [7] (fun s7 wx => ∃ at_ : Nat, s7 = .int .i64 at_ ∧ PlaceU a.t c.client at_ ∧ Upd [] w1 wx)
    case first => as_aux_lemma =>
      go_wp2_with fail
      go_loopw [7] (fun s7 wr => ∃ k : Nat, k ≤ a.t.length ∧ s7 = .int .i64 k ∧ (∀ j p, j < k → a.t[j]? = some p → p.1 < c.client) ∧ Upd [] w1 wr) (fun s7 _ => a.t.length - (RowKit.intOf s7).toNat)
      case atStart => exact ⟨0, by omega, rfl, by omega, Upd.refl _ _⟩
      case round =>
        obtain ⟨k, hk, rfl, hall, hu⟩ := hrel
        have HALL := hide hall; have HU := hide hu
        have q1 := blk_cell (i := 1) (hu.get A0.out (by simp)) rfl
        have q0 := blk_cell (i := 0) (hu.get A1.out (by simp)) rfl
        simp only [List.getElem_toArray, List.getElem_cons_zero, List.getElem_cons_succ] at q1 q0
        have q1n : ∀ n, (wr.drewN n).cell? ⟨w.heap.size, 1, none⟩ = some (.slice lo a.t.length lc) := fun n => q1
        have q0n : ∀ n, (wr.drewN n).cell? ⟨w.heap.size + 1, 0, none⟩ = some (.int .u32 (c.client : Int)) := fun n => q0
        clear hall p0 p1 p2 c0
        by_cases hlt : k < a.t.length
        · have d5 : decide ((k : Int) < a.t.length) = true := by simp; omega
          have d5' : decide (k < a.t.length) = true := by simpa using hlt
          obtain ⟨⟨ky, la⟩, hp⟩ : ∃ p, a.t[k]? = some p := ⟨_, List.getElem?_eq_getElem hlt⟩
          obtain ⟨bx, ox, rfl, hb, -, k0, -⟩ := HG.out k _ hp
          simp only at k0
          have k0n : ∀ n, (wr.drewN n).cell? ⟨bx, ox + k * 4, none⟩ = some (.int .u32 (ky : Int)) := fun n => cell_upd (cell_upd k0 U1.out (by simp)) (hu.drewN n) (by simp)
          have HP := hide hp
          clear hp k0 hu
          by_cases hpk : ky < c.client
          · have d6 : decide (ky < c.client) = true := decide_eq_true hpk
            go_wp2_with fail
            go_big_quiet (fail)
            go_wp2_with fail
            go_roundw
            case rel => exact ⟨k + 1, by omega, by go_num, fun j y hj hy => by
              rcases Nat.lt_or_ge j k with h | h
              · exact HALL.out j y h hy
              · rw [show j = k by omega, HP.out] at hy
                cases hy
                exact hpk, HU.out.drewN _⟩
            case measure => simp [RowKit.intOf]; omega
          · have d6 : decide (ky < c.client) = false := decide_eq_false hpk
            go_wp2_with fail
            go_big_quiet (fail)
            go_wp2_with fail
            go_meet
            exact ⟨k, rfl, ⟨hk, HALL.out, fun y hy => by rw [HP.out] at hy; cases hy; exact hpk⟩, HU.out.drewN _⟩
        · have d5 : decide ((k : Int) < a.t.length) = false := by simp; omega
          have d5' : decide (k < a.t.length) = false := by simpa using hlt
          clear hu
          go_wp2_with fail
          go_big_quiet (fail)
          go_wp2_with fail
          go_meet
          exact ⟨k, rfl, ⟨hk, HALL.out, fun y hy => by have := (List.getElem?_eq_some_iff.1 hy).1; omega⟩, HU.out.drewN _⟩
    case rest =>
    obtain ⟨at_, rfl, hpl, hu1⟩ := hcut
    have HPL := hide hpl; have HU := hide hu1
    have hatl := hpl.1
    obtain ⟨own, hot, hof⟩ : ∃ b : Bool, (b = true → ∃ x, a.t[at_]? = some (c.client, x)) ∧ (b = false → ∀ p, a.t[at_]? = some p → p.1 ≠ c.client) := by
      cases hp : a.t[at_]? with
      | none => exact ⟨false, (by simp), fun _ p hp => by cases hp⟩
      | some p =>
        by_cases he : p.1 = c.client
        · exact ⟨true, fun _ => ⟨p.2, by rw [← he]⟩, (by simp)⟩
        · exact ⟨false, (by simp), fun _ q hq => by cases hq; exact he⟩
    have OT := hide hot; have OF := hide hof
    clear hpl hu1 hot hof p0 p1 p2 c0
    go_upto_region 6 with fail
    go_cut [8] (fun s wx => s = .bool own ∧ Upd [] w1 wx)
    case first => as_aux_lemma =>
      have q1 := blk_cell (i := 1) (HU.out.get A0.out (by simp)) rfl
      have q0 := blk_cell (i := 0) (HU.out.get A1.out (by simp)) rfl
      have q2 := blk_cell (i := 1) (HU.out.get A1.out (by simp)) rfl
      simp only [List.getElem_toArray, List.getElem_cons_zero, List.getElem_cons_succ] at q1 q0 q2
      have q1n : ∀ n, (wc.drewN n).cell? ⟨w.heap.size, 1, none⟩ = some (.slice lo a.t.length lc) := fun n => q1
      have q0n : ∀ n, (wc.drewN n).cell? ⟨w.heap.size + 1, 0, none⟩ = some (.int .u32 (c.client : Int)) := fun n => q0
      have q2n : ∀ n, (wc.drewN n).cell? ⟨w.heap.size + 1, 1, none⟩ = some (.int .u32 (c.seq : Int)) := fun n => q2
      by_cases hlt : at_ < a.t.length
      · have d5 : decide ((at_ : Int) < a.t.length) = true := by simp; omega
        have d5' : decide (at_ < a.t.length) = true := by simpa using hlt
        obtain ⟨⟨ky, la⟩, hp⟩ : ∃ p, a.t[at_]? = some p := ⟨_, List.getElem?_eq_getElem hlt⟩
        obtain ⟨bx, ox, rfl, hb, -, k0, -⟩ := HG.out at_ _ hp
        simp only at k0
        have k0n : ∀ n, (wc.drewN n).cell? ⟨bx, ox + at_ * 4, none⟩ = some (.int .u32 (ky : Int)) := fun n => cell_upd (cell_upd k0 U1.out (by simp)) (HU.out.drewN n) (by simp)
        by_cases he : ky = c.client
        · have hb2 : own = true := by
            cases hb2 : own with
            | true => rfl
            | false => exact absurd he (OF.out hb2 _ hp)
          subst hb2
          have d6 : ((ky : Int) == (c.client : Int)) = true := by simp; omega
          clear hp k0 he
          go_wp2_with fail
          go_big_quiet (fail)
          go_wp2_with fail
          go_meet
          exact ⟨rfl, HU.out.drewN _⟩
        · have hb2 : own = false := by
            cases hb2 : own with
            | false => rfl
            | true => obtain ⟨x, hx⟩ := OT.out hb2; rw [hp] at hx; cases hx; exact absurd rfl he
          subst hb2
          have d6 : ((ky : Int) == (c.client : Int)) = false := by simp; omega
          clear hp k0 he
          go_wp2_with fail
          go_big_quiet (fail)
          go_wp2_with fail
          go_meet
          exact ⟨rfl, HU.out.drewN _⟩
      · have d5 : decide ((at_ : Int) < a.t.length) = false := by simp; omega
        have d5' : decide (at_ < a.t.length) = false := by simpa using hlt
        have hb2 : own = false := by
          cases hb2 : own with
          | false => rfl
          | true => obtain ⟨x, hx⟩ := OT.out hb2; have := (List.getElem?_eq_some_iff.1 hx).1; omega
        subst hb2
        clear hlt
        go_wp2_with fail
        go_big_quiet (fail)
        go_wp2_with fail
        go_meet
        exact ⟨rfl, HU.out.drewN _⟩
    case rest =>
    obtain ⟨rfl, hu⟩ := hcut
    clear HU
    have HU := hide hu
    clear hu
    obtain ⟨b7, b7t, b7f⟩ : ∃ b : Bool, (b = true → ∃ x, own = true ∧ a.t[at_]? = some (c.client, x) ∧ x.seq = c.seq) ∧ (b = false → ∀ x, own = true → a.t[at_]? = some (c.client, x) → ¬ x.seq = c.seq) := by
      cases own with
      | false => exact ⟨false, (by simp), (by simp)⟩
      | true =>
        obtain ⟨x, hx⟩ := OT.out rfl
        by_cases hs : x.seq = c.seq
        · exact ⟨true, fun _ => ⟨x, rfl, hx, hs⟩, (by simp)⟩
        · exact ⟨false, (by simp), fun _ y _ hy => by rw [hx] at hy; cases hy; exact hs⟩
    have B7T := hide b7t; have B7F := hide b7f
    clear b7t b7f
    go_upto_region 7 with fail
    go_cut [8, 62] (fun s8 s wx => s8 = .bool own ∧ s = .bool b7 ∧ Upd [] w1 wx)
    case first => as_aux_lemma =>
      have q1 := blk_cell (i := 1) (HU.out.get A0.out (by simp)) rfl
      have q0 := blk_cell (i := 0) (HU.out.get A1.out (by simp)) rfl
      have q2 := blk_cell (i := 1) (HU.out.get A1.out (by simp)) rfl
      simp only [List.getElem_toArray, List.getElem_cons_zero, List.getElem_cons_succ] at q1 q0 q2
      have q1n : ∀ n, (wc.drewN n).cell? ⟨w.heap.size, 1, none⟩ = some (.slice lo a.t.length lc) := fun n => q1
      have q0n : ∀ n, (wc.drewN n).cell? ⟨w.heap.size + 1, 0, none⟩ = some (.int .u32 (c.client : Int)) := fun n => q0
      have q2n : ∀ n, (wc.drewN n).cell? ⟨w.heap.size + 1, 1, none⟩ = some (.int .u32 (c.seq : Int)) := fun n => q2
      cases hown : own with
      | false =>
        have HOWN := hide hown
        have hb : b7 = false := by
          cases hb : b7 with
          | false => rfl
          | true => obtain ⟨x, h1, -⟩ := B7T.out hb; rw [hown] at h1; cases h1
        subst hb
        clear hown
        go_wp2_with fail
        go_big_quiet (fail)
        go_wp2_with fail
        go_meet
        exact ⟨by first | rfl | rw [HOWN.out], rfl, HU.out.drewN _⟩
      | true =>
        obtain ⟨x, hx⟩ := OT.out hown
        have HOWN := hide hown
        have hlt := (List.getElem?_eq_some_iff.1 hx).1
        obtain ⟨bx, ox, rfl, hb, -, -, k1, -⟩ := HG.out at_ _ hx
        simp only at k1
        have k1n : ∀ n, (wc.drewN n).cell? ⟨bx, ox + at_ * 4 + 1, none⟩ = some (.int .u32 (x.seq : Int)) := fun n => cell_upd (cell_upd k1 U1.out (by simp)) (HU.out.drewN n) (by simp)
        have HX := hide hx
        by_cases hs : x.seq = c.seq
        · have hb2 : b7 = true := by
            cases hb2 : b7 with
            | true => rfl
            | false => exact absurd hs (B7F.out hb2 x hown hx)
          subst hb2
          have d6 : ((x.seq : Int) == (c.seq : Int)) = true := by simp; omega
          clear hown hx k1 hs
          go_wp2_with fail
          go_big_quiet (fail)
          go_wp2_with fail
          go_meet
          exact ⟨by first | rfl | rw [HOWN.out], rfl, HU.out.drewN _⟩
        · have hb2 : b7 = false := by
            cases hb2 : b7 with
            | false => rfl
            | true =>
              obtain ⟨y, -, h2, h3⟩ := B7T.out hb2
              rw [hx] at h2
              cases h2
              exact absurd h3 hs
          subst hb2
          have d6 : ((x.seq : Int) == (c.seq : Int)) = false := by simp; omega
          clear hown hx k1 hs
          go_wp2_with fail
          go_big_quiet (fail)
          go_wp2_with fail
          go_meet
          exact ⟨by first | rfl | rw [HOWN.out], rfl, HU.out.drewN _⟩
    case rest =>
    obtain ⟨rfl, rfl, hu⟩ := hcut
    clear HU
    have HU := hide hu
    clear hu
    cases b7 with
    | true =>
      obtain ⟨x, hown, hx, hsq⟩ := B7T.out rfl
      have hlt := (List.getElem?_eq_some_iff.1 hx).1
      obtain ⟨bx, ox, rfl, hb, -, -, -, k2, k3⟩ := HG.out at_ _ hx
      simp only at k2 k3
      have hg : r = (a, x.r, false) := by
        have hf : mfind a.t c.client = some x := riseU_find RISE.out (List.mem_of_getElem? hx)
        have hl : lookM a.t c.client c.seq = (x.r, 1) := by unfold lookM; rw [hf]; simp only; rw [if_neg (by omega), if_pos hsq.symm]
        rw [← HR.out]; unfold apDo; rw [if_neg hz, hl]; rfl
      have HGR := hide hg
      have K23 := hide (show ∀ wy, Upd [w.heap.size + 1 + 1, w.heap.size + 1 + 1 + 1] wc wy → wy.cell? ⟨bx, ox + at_ * 4 + 2, none⟩ = some (.int .u8 (x.r.code : Int)) ∧ wy.cell? ⟨bx, ox + at_ * 4 + 3, none⟩ = some (.string (strOf x.r.text)) from fun wy hy =>
        ⟨cell_upd (cell_upd (cell_upd k2 U1.out (by simp)) HU.out (by simp)) hy (by simp; omega), cell_upd (cell_upd (cell_upd k3 U1.out (by simp)) HU.out (by simp)) hy (by simp; omega)⟩)
      have A0c := hide (HU.out.get A0.out (by simp)); have A2c := hide (HU.out.get A2.out (by simp)); have A3c := hide (HU.out.get A3.out (by simp))
      have KA := hide (show ∀ wy, Upd [w.heap.size + 1 + 1, w.heap.size + 1 + 1 + 1] wc wy → _ from fun wy hy => cell3 (hy.get A0c.out (by simp; omega)))
      clear hown hx hsq k2 k3 hg hz
      go_wp2_with fail
      refine wp_region_z (fun wy => Upd [w.heap.size + 1 + 1, w.heap.size + 1 + 1 + 1] wc wy) 99 (by kernel_rfl) ?_
      have s0 : Upd [w.heap.size + 1 + 1, w.heap.size + 1 + 1 + 1] wc (wc.drewN 1) := (Upd.refl _ wc).drewN 1
      refine zE 0 rfl (by kernel_rfl) (fun _ _ _ _ h => h) rfl (by exact s0) ?_
      apply Exists.intro
      refine ⟨fun wx hS => ?_, ?_⟩
      · obtain ⟨y0, y1, y2⟩ := KA.out _ hS; go_simp; rfl
      simp only [Act.put, List.setIfInBounds_toArray, List.set_cons_succ, List.set_cons_zero, List.getElem_toArray, List.getElem_cons_zero]
      refine zE 1 rfl (by kernel_rfl) (fun _ _ _ _ h => h) rfl (by exact s0) ?_
      apply Exists.intro
      refine ⟨fun wx hS => ?_, ?_⟩
      · go_simp; rfl
      simp only [Act.put, zz1, zz2, zz3, zz4, zz5, zz6]
      refine zE 2 rfl (by kernel_rfl) (fun _ _ _ _ h => h) rfl (by exact s0) ?_
      apply Exists.intro
      refine ⟨fun wx hS => ?_, ?_⟩
      · obtain ⟨y0, y1, y2⟩ := KA.out _ hS; go_simp; rfl
      simp only [Act.put, zz1, zz2, zz3, zz4, zz5, zz6]
      refine zE 3 rfl (by kernel_rfl) (fun _ _ _ _ h => h) rfl (by exact s0) ?_
      apply Exists.intro
      refine ⟨fun wx hS => ?_, ?_⟩
      · go_simp; rfl
      simp only [Act.put, zz1, zz2, zz3, zz4, zz5, zz6]
      refine zE 4 rfl (by kernel_rfl) (fun _ _ _ _ h => h) rfl (by exact s0) ?_
      apply Exists.intro
      refine ⟨fun wx hS => ?_, ?_⟩
      · go_simp; rfl
      simp only [Act.put, zz1, zz2, zz3, zz4, zz5, zz6]
      refine zE 5 rfl (by kernel_rfl) (fun _ _ _ _ h => h) rfl (by exact s0) ?_
      apply Exists.intro
      refine ⟨fun wx hS => ?_, ?_⟩
      · go_simp; rfl
      simp only [Act.put, zz1, zz2, zz3, zz4, zz5, zz6]
      refine zE 6 rfl (by kernel_rfl) (fun _ _ _ _ h => h) rfl (by exact s0) ?_
      apply Exists.intro
      refine ⟨fun wx hS => ?_, ?_⟩
      · obtain ⟨y0, y1⟩ := K23.out _ hS; go_simp; rfl
      simp only [Act.put, zz1, zz2, zz3, zz4, zz5, zz6]
      obtain ⟨z0, z1, z2, z3, z4, z5, z6, z7, z8, z9, zz⟩ := res_facts32 (w := wc.drewN 1) A2c.out A3c.out (by omega)
      have ZZ := hide zz; have Z6 := hide z6; have Z7 := hide z7; have Z8 := hide z8; have Z9 := hide z9
      clear zz z6 z7 z8 z9
      refine wpAnyZ_one 7 (by kernel_rfl) rfl rfl (fun K hK => ?_)
      try simp only [List.getElem_toArray, List.getElem_cons_succ, List.getElem_cons_zero]
      go_simp
      have s3 : Upd [w.heap.size + 1 + 1, w.heap.size + 1 + 1 + 1] wc ((((wc.drewN 1).setCell ⟨w.heap.size + 1 + 1, 0, none⟩ (.slice po pl pc)).setCell ⟨w.heap.size + 1 + 1, 1, none⟩ (.slice (some ⟨bx, ox, none⟩) a.t.length lc)).setCell ⟨w.heap.size + 1 + 1, 2, none⟩ (.int .u64 (a.n : Int))) :=
        ((s0.setCell (p := ⟨w.heap.size + 1 + 1, 0, none⟩) (.inl (by simp)) _).setCell (p := ⟨w.heap.size + 1 + 1, 1, none⟩) (.inl (by simp)) _).setCell (p := ⟨w.heap.size + 1 + 1, 2, none⟩) (.inl (by simp)) _
      refine hK _ _ (.inr s3) ?_
      clear hK K
      try simp only [Act.put, zz1, zz2, zz3]
      have z6 := Z6.out; have z7 := Z7.out; have z8 := Z8.out; have z9 := Z9.out
      refine wpAnyZ_one 8 (by kernel_rfl) rfl rfl (fun K hK => ?_)
      try simp only [List.getElem_toArray, List.getElem_cons_succ, List.getElem_cons_zero]
      go_simp
      obtain ⟨e1, e2, e3⟩ := ZZ.out (.slice po pl pc) (.slice (some ⟨bx, ox, none⟩) a.t.length lc) (.int .u64 (a.n : Int)) (.int .u8 (x.r.code : Int)) (.string (strOf x.r.text))
      generalize ((((((wc.drewN 1).setCell ⟨w.heap.size + 1 + 1, 0, none⟩ (.slice po pl pc)).setCell ⟨w.heap.size + 1 + 1, 1, none⟩ (.slice (some ⟨bx, ox, none⟩) a.t.length lc)).setCell ⟨w.heap.size + 1 + 1, 2, none⟩ (.int .u64 (a.n : Int))).setCell ⟨w.heap.size + 1 + 1 + 1, 0, none⟩ (.int .u8 (x.r.code : Int))).setCell ⟨w.heap.size + 1 + 1 + 1, 1, none⟩ (.string (strOf x.r.text))) = wF at e1 e2 e3 ⊢
      have s5 := s0.trans e3
      refine hK _ _ (.inr s5) ?_
      clear hK K
      try simp only [Act.put, zz1, zz2, zz3]
      refine zE 9 rfl (by kernel_rfl) (fun _ _ _ _ h => h) rfl (by exact s5) ?_
      apply Exists.intro
      refine ⟨fun wx hS => ?_, ?_⟩
      · go_simp; rfl
      simp only [Act.put, zz1, zz2, zz3, zz4, zz5, zz6]
      refine wpAnyZ_done (by kernel_rfl) ?_ _
      have e4 : Upd [] w _ := (U1.out.trans HU.out).trans_new s5 (fun k hk => .inr (by simp at hk; omega))
      have E1 := hide e1; have E2 := hide e2; have E4 := hide e4
      clear s0 s3 s5 z0 z1 z2 z3 z4 z5 z6 z7 z8 z9 e1 e2 e3 e4
      go_wp2_with fail
      refine ret_ra E1.out E2.out rfl rfl rfl rfl rfl ⟨⟨_, _, by rw [HGR.out]; rfl, ?_, ?_⟩, E4.out⟩
      · rw [HGR.out]
        exact HPM.out _ _ _ _ _ (HPU.out _ _ _ _ _ _ PR.out E4.out (by simp)) (fun k hk => .inl hk)
      · rw [HGR.out]
        exact (laK.row_upd_nil LR.out E4.out).mono (fun g hg => .inl hg) fun _ _ _ h => h
    | false =>
      obtain ⟨b9, b9t, b9f⟩ : ∃ b : Bool, (b = true → ∃ x, own = true ∧ a.t[at_]? = some (c.client, x) ∧ c.seq < x.seq) ∧ (b = false → ∀ x, own = true → a.t[at_]? = some (c.client, x) → ¬ c.seq < x.seq) := by
        cases own with
        | false => exact ⟨false, (by simp), (by simp)⟩
        | true =>
          obtain ⟨x, hx⟩ := OT.out rfl
          by_cases hs : c.seq < x.seq
          · exact ⟨true, fun _ => ⟨x, rfl, hx, hs⟩, (by simp)⟩
          · exact ⟨false, (by simp), fun _ y _ hy => by rw [hx] at hy; cases hy; exact hs⟩
      have B9T := hide b9t; have B9F := hide b9f
      clear b9t b9f
      go_upto_region 9 with fail
      go_cut [8, 81] (fun s8 s wx => s8 = .bool own ∧ s = .bool b9 ∧ Upd [] w1 wx)
      case first => as_aux_lemma =>
        have q1 := blk_cell (i := 1) (HU.out.get A0.out (by simp)) rfl
        have q0 := blk_cell (i := 0) (HU.out.get A1.out (by simp)) rfl
        have q2 := blk_cell (i := 1) (HU.out.get A1.out (by simp)) rfl
        simp only [List.getElem_toArray, List.getElem_cons_zero, List.getElem_cons_succ] at q1 q0 q2
        have q1n : ∀ n, (wc.drewN n).cell? ⟨w.heap.size, 1, none⟩ = some (.slice lo a.t.length lc) := fun n => q1
        have q0n : ∀ n, (wc.drewN n).cell? ⟨w.heap.size + 1, 0, none⟩ = some (.int .u32 (c.client : Int)) := fun n => q0
        have q2n : ∀ n, (wc.drewN n).cell? ⟨w.heap.size + 1, 1, none⟩ = some (.int .u32 (c.seq : Int)) := fun n => q2
        cases hown : own with
        | false =>
          have HOWN := hide hown
          have hb : b9 = false := by
            cases hb : b9 with
            | false => rfl
            | true => obtain ⟨x, h1, -⟩ := B9T.out hb; rw [hown] at h1; cases h1
          subst hb
          clear hown
          go_wp2_with fail
          go_big_quiet (fail)
          go_wp2_with fail
          go_meet
          exact ⟨by first | rfl | rw [HOWN.out], rfl, HU.out.drewN _⟩
        | true =>
          obtain ⟨x, hx⟩ := OT.out hown
          have HOWN := hide hown
          have hlt := (List.getElem?_eq_some_iff.1 hx).1
          obtain ⟨bx, ox, rfl, hb, -, -, k1, -⟩ := HG.out at_ _ hx
          simp only at k1
          have k1n : ∀ n, (wc.drewN n).cell? ⟨bx, ox + at_ * 4 + 1, none⟩ = some (.int .u32 (x.seq : Int)) := fun n => cell_upd (cell_upd k1 U1.out (by simp)) (HU.out.drewN n) (by simp)
          have HX := hide hx
          by_cases hs : c.seq < x.seq
          · have hb2 : b9 = true := by
              cases hb2 : b9 with
              | true => rfl
              | false => exact absurd hs (B9F.out hb2 x hown hx)
            subst hb2
            have d6 : decide (c.seq < x.seq) = true := decide_eq_true hs
            clear hown hx k1 hs
            go_wp2_with fail
            go_big_quiet (fail)
            go_wp2_with fail
            go_meet
            exact ⟨by first | rfl | rw [HOWN.out], rfl, HU.out.drewN _⟩
          · have hb2 : b9 = false := by
              cases hb2 : b9 with
              | false => rfl
              | true =>
                obtain ⟨y, -, h2, h3⟩ := B9T.out hb2
                rw [hx] at h2
                cases h2
                exact absurd h3 hs
            subst hb2
            have d6 : decide (c.seq < x.seq) = false := decide_eq_false hs
            clear hown hx k1 hs
            go_wp2_with fail
            go_big_quiet (fail)
            go_wp2_with fail
            go_meet
            exact ⟨by first | rfl | rw [HOWN.out], rfl, HU.out.drewN _⟩
      case rest =>
      obtain ⟨rfl, rfl, hu⟩ := hcut
      clear HU
      have HU := hide hu
      clear hu
      cases b9 with
      | true =>
        obtain ⟨x, hown, hx, hsq⟩ := B9T.out rfl
        have hg : r = (a, ⟨3, []⟩, false) := by
          have hf : mfind a.t c.client = some x := riseU_find RISE.out (List.mem_of_getElem? hx)
          have hl : lookM a.t c.client c.seq = (⟨3, []⟩, 2) := by unfold lookM; rw [hf]; simp only; rw [if_neg (by omega), if_neg (by omega)]
          rw [← HR.out]; unfold apDo; rw [if_neg hz, hl]; rfl
        have HGR := hide hg
        obtain ⟨q0, q1, q2⟩ := cell3 (HU.out.get A0.out (by simp))
        obtain ⟨z0, z1, z2, z3, z4, z5, z6, z7, z8, z9, zz⟩ := res_facts32 (HU.out.get A2.out (by simp)) (HU.out.get A3.out (by simp)) (by omega)
        have ZZ := hide zz
        clear hown hx hsq hg hz zz
        go_wp2_with fail
        obtain ⟨e1, e2, e3⟩ := ZZ.out (.slice po pl pc) (.slice lo a.t.length lc) (.int .u64 (a.n : Int)) (.int .u8 3) (.string ⟨#[]⟩)
        have e4 : Upd [] w _ := (U1.out.trans HU.out).trans_new e3 (fun k hk => .inr (by simp at hk; omega))
        refine ret_ra e1 e2 rfl rfl rfl rfl rfl ⟨⟨_, _, by rw [HGR.out]; rfl, ?_, ?_⟩, e4⟩
        · rw [HGR.out]
          exact HPM.out _ _ _ _ _ (HPU.out _ _ _ _ _ _ PR.out e4 (by simp)) (fun k hk => .inl hk)
        · rw [HGR.out]
          exact (laK.row_upd_nil LR.out e4).mono (fun g hg => .inl hg) fun _ _ _ h => h
      | false =>
        obtain ⟨rr, hrr⟩ : ∃ rr, kvDo a.m c = rr := ⟨_, rfl⟩
        have hfresh : r = (⟨rr.1, mput cliK a.t c.client ⟨c.seq, rr.2⟩, a.n + 1⟩, rr.2, true) ∧ a.t.take at_ ++ [(c.client, (⟨c.seq, rr.2⟩ : La))] ++ a.t.drop (if own then at_ + 1 else at_) = mput cliK a.t c.client ⟨c.seq, rr.2⟩ := by
          rw [← HR.out]
          unfold apDo
          rw [if_neg hz, hrr]
          cases ho : own with
          | true =>
            obtain ⟨x, hx⟩ := OT.out ho
            have hf : mfind a.t c.client = some x := riseU_find RISE.out (List.mem_of_getElem? hx)
            have h7 := B7F.out rfl x ho hx
            have h9 := B9F.out rfl x ho hx
            have hl : lookM a.t c.client c.seq = (⟨0, []⟩, 0) := by unfold lookM; rw [hf]; simp only; rw [if_pos (by omega)]
            rw [hl]
            exact ⟨rfl, placeU_own RISE.out hx⟩
          | false =>
            have hf : mfind a.t c.client = none := placeU_find RISE.out HPL.out (OF.out ho)
            have hl : lookM a.t c.client c.seq = (⟨0, []⟩, 0) := by unfold lookM; rw [hf]
            rw [hl]
            exact ⟨rfl, placeU_new RISE.out HPL.out (OF.out ho)⟩
        obtain ⟨hg, hput⟩ := hfresh
        have HGR := hide hg; have HPUT := hide hput; have KRR := hide hrr
        clear hg hput hrr hz
        obtain ⟨q0, q1, q2⟩ := cell3 (HU.out.get A0.out (by simp))
        have CB := HU.out.get A1.out (by simp)
        have y0 := blk_cell (i := 0) CB rfl; have y1 := blk_cell (i := 1) CB rfl; have y2 := blk_cell (i := 2) CB rfl; have y3 := blk_cell (i := 3) CB rfl; have y4 := blk_cell (i := 4) CB rfl; have y5 := blk_cell (i := 5) CB rfl; have y6 := blk_cell (i := 6) CB rfl
        simp only [List.getElem_toArray, List.getElem_cons_zero, List.getElem_cons_succ] at y0 y1 y2 y3 y4 y5 y6
        have hw := U1.out.trans HU.out
        have hd := HDO.out wc Tp _ (HPU.out _ _ _ _ _ _ PR.out hw (by simp)) (fun k hk => by have := HTP.out k hk; have := hw.size; omega) (HC.out.upd_nil hw)
        simp only [cmv, strV] at hd
        rw [KRR.out] at hd
        have HD := hide hd
        clear CB hw hd
        go_wp2_with fail
        refine HD.out.mono ?_
        rintro e w5 ⟨⟨v5, rfl, hp5⟩, hu5⟩
        obtain ⟨po5, pl5, pc5, rfl⟩ := HPS.out _ _ _ _ hp5
        have hwc := HU.out.size
        have hW5 := (U1.out.trans HU.out).trans hu5
        have P5 := hide hp5; have U5 := hide hW5; have V5 := hide (HU.out.trans hu5)
        have hz5 := hW5.size
        clear hp5 hu5 hW5 HD HDO q0 q1 q2 y0 y1 y2 y3 y4 y5 y6
        obtain ⟨rm, rc, rt⟩ := rr
        obtain ⟨q0, q1, q2⟩ := cell3 (V5.out.get A0.out (by simp))
        have y0 := blk_cell (i := 0) (V5.out.get A1.out (by simp)) rfl; have y1 := blk_cell (i := 1) (V5.out.get A1.out (by simp)) rfl
        simp only [List.getElem_toArray, List.getElem_cons_zero, List.getElem_cons_succ] at y0 y1
        simp only [rpv]
        go_upto_region 12 with fail
        have hx6 := blk_new w5 (.cells #[.int .u8 (rc : Int), .string (strOf rt)] TRp)
        have hu6 := (Upd.refl [] w5).alloc (.cells #[.int .u8 (rc : Int), .string (strOf rt)] TRp)
        have hz6 : (w5.alloc (.cells #[.int .u8 (rc : Int), .string (strOf rt)] TRp)).heap.size = w5.heap.size + 1 := by simp
        change Code.wp _ _ _ _ (w5.alloc (.cells #[.int .u8 (rc : Int), .string (strOf rt)] TRp))
        generalize w5.alloc (.cells #[.int .u8 (rc : Int), .string (strOf rt)] TRp) = w6 at *
        have hz6l : w5.heap.size + 1 ≤ w6.heap.size := by omega
        clear hz6
        have W56 := hide hu6
        have X6 := hide hx6; have U6 := hide (U5.out.trans hu6); have V6 := hide (V5.out.trans hu6)
        have hrow6 := laK.row_upd_nil LR.out U6.out
        have hw1s := U1.out.size; have hw5s := U5.out.size
        obtain ⟨i1, hi1, iz0, iz1, iz2⟩ : ∃ i, Tryz.prog.info? TLast = some i ∧ i.zero = some (.agg #[.int .u32 0, .int .u32 0, .int .u8 0, .string ByteArray.empty]) ∧ i.size = 4 ∧ i.bytes = 32 := by
          have h := infoLa
          cases hp : Tryz.prog.info? TLast with
          | none => rw [hp] at h; cases h
          | some i =>
            rw [hp] at h
            simp only [Option.map_some, Option.some.injEq, Prod.mk.injEq] at h
            exact ⟨i, rfl, h.1, h.2.1, h.2.2⟩
        obtain ⟨q0, q1, q2⟩ := cell3 (V6.out.get A0.out (by simp))
        have s5 := run_cutz_h' (P := Tryz.prog) 34 TLast 4 Tryz.underlying34 sizeLa lo a.t.length lc at_ (at_ : Int) rfl (by omega)
        obtain ⟨hn1, css1, he1, hz1, hsrc1⟩ := row_src' (Row.cut hrow6 (lo := 0) (hi := at_) (q := lc) (by omega) hatl (by omega) (Nat.le_refl _))
        simp only [cutZ_zero', Nat.sub_zero, List.drop_zero] at he1 hsrc1
        obtain ⟨ax, hax⟩ : ∃ x, (if own then at_ + 1 else at_) = x := ⟨_, rfl⟩
        have haxl : ax ≤ a.t.length := by
          rw [← hax]
          split
          · rename_i ho
            obtain ⟨x, hx⟩ := OT.out ho
            have := (List.getElem?_eq_some_iff.1 hx).1
            omega
          · exact hatl
        rw [hax] at HPUT
        obtain ⟨hn2, css2, he2, hz2, hsrc2⟩ := row_src' (Row.cut hrow6 (lo := ax) (hi := a.t.length) (q := lc) haxl (Nat.le_refl _) (by omega) (Nat.le_refl _))
        rw [List.take_of_length_le (by simp)] at he2
        have HE1 := hide he1; have HS1 := hide hsrc1; have HE2 := hide he2; have HS2 := hide hsrc2; have HAX := hide hax
        clear hn1 hz1 he1 hsrc1 hn2 hz2 he2 hsrc2 hrow6 hx6 hu6 y0 y1 hax
        go_wp2_with (at_builtin; go_must (refine wpList_append_src _ rfl _ _ 34 rfl w6.heap.size TLast i1 (.agg #[.int .u32 0, .int .u32 0, .int .u8 0, .string ByteArray.empty]) 4 32 Tryz.underlying34 hi1 iz0 iz1 iz2 rfl (by decide) (.slice none 0 0) 0 [] rfl (World.ownsRow_nil w6 w6.heap.size TLast 4) lo at_ lc css1.flatten rfl HS1.out (by unfold maxLen; omega) (by omega) (by omega) ?_))
        intro ao7 cap7 w7 hown7 hU7 hn7
        have bg7 := Kind.bag_mores (K := laK) (l := []) (css := []) .nil HE1.out (by show w7.ownsRow w6.heap.size TLast 4 _ _ _; simpa using hown7) (by simp; omega) hU7 (by simpa using hn7)
        rw [List.nil_append] at bg7
        have hu7 : Upd [] w6 w7 := by simpa [Value.ownBlock] using hU7
        have hol7 := Own.lt bg7
        have hz7 := hu7.size
        have y0 := blk_cell (i := 0) ((V6.out.trans hu7).get A1.out (by simp)) rfl; have y1 := blk_cell (i := 1) ((V6.out.trans hu7).get A1.out (by simp)) rfl
        have r0 := blk_cell (i := 0) (hu7.get X6.out (by simp)) rfl; have r1 := blk_cell (i := 1) (hu7.get X6.out (by simp)) rfl
        simp only [List.getElem_toArray, List.getElem_cons_zero, List.getElem_cons_succ] at y0 y1 r0 r1
        have hal := (Upd.refl [] w7).alloc (.cells #[.int .u32 (c.client : Int), .int .u32 (c.seq : Int), .int .u8 (rc : Int), .string (strOf rt)] TLast)
        obtain ⟨css, hcss, hrow⟩ := laK.bag_open (laK.bag_upd_nil bg7 hal)
        have hlt7 : (a.t.take at_).length = at_ := by simp; omega
        rw [hlt7] at hrow
        have HCSS := hide hcss; have HROW7 := hide hrow; have U7 := hide hu7; have HOL7 := hide hol7
        clear hown7 hU7 hn7 bg7 hu7 hol7 hal hcss hrow s5 q0 q1 q2
        go_wp2_with (at_builtin; go_must (refine wpList_append_src _ rfl _ _ 34 rfl w6.heap.size TLast i1 (.agg #[.int .u32 0, .int .u32 0, .int .u8 0, .string ByteArray.empty]) 4 32 Tryz.underlying34 hi1 iz0 iz1 iz2 rfl (by decide) (.slice ao7 at_ cap7) at_ css.flatten rfl HROW7.out (some ⟨w7.heap.size, 0, none⟩) 1 1 [.int .u32 (c.client : Int), .int .u32 (c.seq : Int), .int .u8 (rc : Int), strV rt] rfl (la_src (p := (c.client, ⟨c.seq, ⟨rc, rt⟩⟩)) (blk_new _ _)) (by unfold maxLen; omega) (by omega) (by simp; omega) ?_))
        intro ao8 cap8 w8 hown8 hU8 hn8
        have bg8 := Kind.bag_more HCSS.out (K := laK) (x := (c.client, (⟨c.seq, ⟨rc, rt⟩⟩ : La))) rfl hown8 (by rw [hlt7]) hU8 (by simpa using hn8)
        have hU8' := grown_upd hU8
        have u8 : Upd [] w6 w8 := U7.out.trans_new hU8' (fun g hm => .inr (by have := HOL7.out g (by simpa using hm); omega))
        have hol8 := Own.lt bg8
        have hs8 := srcG_upd HS2.out u8 (by simp)
        obtain ⟨css8, hcss8, hrow8⟩ := laK.bag_open (laK.bag_upd_nil bg8 ((Upd.refl [] w8).drewN 1))
        have hlt8 : (a.t.take at_ ++ [(c.client, (⟨c.seq, ⟨rc, rt⟩⟩ : La))]).length = at_ + 1 := by rw [List.length_append, hlt7]; rfl
        rw [hlt8] at hrow8
        have hz8 := u8.size
        have HCSS8 := hide hcss8; have HROW8 := hide hrow8; have U8 := hide u8; have HOL8 := hide hol8; have HS8 := hide hs8; have V8 := hide (V6.out.trans u8)
        clear hown8 hU8 hU8' hn8 bg8 u8 hol8 hs8 hcss8 hrow8 y0 y1 r0 r1 HCSS HROW7 HOL7 U7
        go_upto_if 105 with fail
        go_cut [7] (fun s7 wx => s7 = .int .i64 (ax : Int) ∧ wx = w8)
        case first => as_aux_lemma =>
          have hax := HAX.out
          cases own with
          | true =>
            simp only [if_true] at hax
            subst hax
            go_wp2_with fail
            go_meet
            exact ⟨by go_num, rfl⟩
          | false =>
            simp only [Bool.false_eq_true, if_false] at hax
            subst hax
            go_wp2_with fail
            go_meet
            exact ⟨rfl, rfl⟩
        case rest =>
        obtain ⟨rfl, rfl⟩ := hcut
        have A0c := hide (V8.out.get A0.out (by simp)); have A2c := hide (V8.out.get A2.out (by simp)); have A3c := hide (V8.out.get A3.out (by simp)); have X8 := hide (U8.out.get X6.out (by simp))
        have s9 := run_cutz_l' (P := Tryz.prog) 34 TLast 4 Tryz.underlying34 sizeLa lo a.t.length lc ax (ax : Int) rfl haxl
        have wn : IntKind.u64.wrap ((a.n : Int) + 1) = (a.n : Int) + 1 := IntWalk.u64_in _ (by omega)
        go_wp2_with fail
        refine wp_region_z (fun wy => wy.heap[w.heap.size]? = some (.cells #[.slice po pl pc, .slice lo a.t.length lc, .int .u64 (a.n : Int)] TRa (0, 0)) ∧ wy.heap[w5.heap.size]? = some (.cells #[.int .u8 (rc : Int), .string (strOf rt)] TRp (0, 0))) 99 (by kernel_rfl) ?_
        have s0 : (wc.drewN 1).heap[w.heap.size]? = some (.cells #[.slice po pl pc, .slice lo a.t.length lc, .int .u64 (a.n : Int)] TRa (0, 0)) ∧ (wc.drewN 1).heap[w5.heap.size]? = some (.cells #[.int .u8 (rc : Int), .string (strOf rt)] TRp (0, 0)) := ⟨A0c.out, X8.out⟩
        refine zE 0 rfl (by kernel_rfl) (fun _ _ _ _ h => h) rfl (by exact s0) ?_
        apply Exists.intro
        refine ⟨fun wx hS => ?_, ?_⟩
        · go_simp; rfl
        simp only [Act.put, List.setIfInBounds_toArray, List.set_cons_succ, List.set_cons_zero, List.getElem_toArray, List.getElem_cons_zero]
        refine zE 1 rfl (by kernel_rfl) (fun _ _ _ _ h => h) rfl (by exact s0) ?_
        apply Exists.intro
        refine ⟨fun wx hS => ?_, ?_⟩
        · go_simp; rfl
        simp only [Act.put, zz1, zz2, zz3, zz4, zz5, zz6]
        refine zE 2 rfl (by kernel_rfl) (fun _ _ _ _ h => h) rfl (by exact s0) ?_
        apply Exists.intro
        refine ⟨fun wx hS => ?_, ?_⟩
        · go_simp; rfl
        simp only [Act.put, zz1, zz2, zz3, zz4, zz5, zz6]
        refine zE 3 rfl (by kernel_rfl) (fun _ _ _ _ h => h) rfl (by exact s0) ?_
        apply Exists.intro
        refine ⟨fun wx hS => ?_, ?_⟩
        · obtain ⟨k0, k1, k2⟩ := cell3 hS.1; go_simp; rfl
        simp only [Act.put, zz1, zz2, zz3, zz4, zz5, zz6]
        refine zE 4 rfl (by kernel_rfl) (fun _ _ _ _ h => h) rfl (by exact s0) ?_
        apply Exists.intro
        refine ⟨fun wx hS => ?_, ?_⟩
        · go_simp; rfl
        simp only [Act.put, zz1, zz2, zz3, zz4, zz5, zz6]
        refine zE 5 rfl (by kernel_rfl) (fun _ _ _ _ h => h) rfl (by exact s0) ?_
        apply Exists.intro
        refine ⟨fun wx hS => ?_, ?_⟩
        · go_simp; rfl
        simp only [Act.put, zz1, zz2, zz3, zz4, zz5, zz6]
        refine zE 7 rfl (by kernel_rfl) (fun _ _ _ _ h => h) rfl (by exact s0) ?_
        apply Exists.intro
        refine ⟨fun wx hS => ?_, ?_⟩
        · go_simp; rfl
        simp only [Act.put, zz1, zz2, zz3, zz4, zz5, zz6]
        refine zE 8 rfl (by kernel_rfl) (fun _ _ _ _ h => h) rfl (by exact s0) ?_
        apply Exists.intro
        refine ⟨fun wx hS => ?_, ?_⟩
        · obtain ⟨k0, k1, k2⟩ := cell3 hS.1; go_simp; rfl
        simp only [Act.put, zz1, zz2, zz3, zz4, zz5, zz6]
        refine zE 9 rfl (by kernel_rfl) (fun _ _ _ _ h => h) rfl (by exact s0) ?_
        apply Exists.intro
        refine ⟨fun wx hS => ?_, ?_⟩
        · go_simp; rfl
        simp only [Act.put, zz1, zz2, zz3, zz4, zz5, zz6]
        refine zE 11 rfl (by kernel_rfl) (fun _ _ _ _ h => h) rfl (by exact s0) ?_
        apply Exists.intro
        refine ⟨fun wx hS => ?_, ?_⟩
        · obtain ⟨k0, k1⟩ := cell2 hS.2; go_simp; rfl
        simp only [Act.put, zz1, zz2, zz3, zz4, zz5, zz6]
        refine wpAnyZ_one 6 (by kernel_rfl) rfl rfl (fun K hK => ?_)
        try simp only [List.getElem_toArray, List.getElem_cons_succ, List.getElem_cons_zero]
        try simp only [List.getElem_toArray, List.getElem_cons_succ, List.getElem_cons_zero]
        refine wp_append_src _ _ _ 34 rfl w6.heap.size TLast i1 (.agg #[.int .u32 0, .int .u32 0, .int .u8 0, .string ByteArray.empty]) 4 32 Tryz.underlying34 hi1 iz0 iz1 iz2 rfl (by decide) (.slice ao8 (at_ + 1) cap8) (at_ + 1) css8.flatten rfl (by exact HROW8.out) (cutZ 4 lo ax lc) (a.t.length - ax) (lc - ax) css2.flatten rfl (by exact ⟨HS8.out.len, HS8.out.one, HS8.out.nil, HS8.out.cells⟩) (by unfold maxLen; omega) (by omega) (by exact hz8) ?_
        intro ao9 cap9 w9 hown9 hU9 hn9
        have bg9 := Kind.bag_mores (K := laK) HCSS8.out HE2.out hown9 (by rw [hlt8]; simp) hU9 (by simpa using hn9)
        rw [HPUT.out] at bg9
        have u9 : Upd [] w6 w9 := (U8.out.drewN 1).trans_new hU9 (fun g hm => .inr (HOL8.out g (by simpa using hm)).1)
        have hol9 := Own.lt bg9
        have hv6 := V6.out.size; have hv5 := V5.out.size
        have n9 : ∀ g, g < w6.heap.size → g ∉ (Value.slice ao8 (at_ + 1) cap8).ownBlock.toList := fun g hg hm => by have := (HOL8.out g (by simpa using hm)).1; omega
        have A0d := hU9.get s0.1 (n9 _ (by omega)); have X9 := hU9.get s0.2 (n9 _ (by omega))
        have A2d := hide (hU9.get (show (wc.drewN 1).heap[w.heap.size + 1 + 1]? = _ from A2c.out) (n9 _ (by omega))); have A3d := hide (hU9.get (show (wc.drewN 1).heap[w.heap.size + 1 + 1 + 1]? = _ from A3c.out) (n9 _ (by omega)))
        have BG9 := hide bg9; have U9 := hide u9; have s9' := And.intro A0d X9
        clear hown9 hU9 hn9 bg9 u9 A0d X9
        refine hK _ _ (.inr s9') ?_
        clear hK K
        try simp only [Act.put, zz1, zz2, zz3]
        clear s0
        refine zE 10 rfl (by kernel_rfl) (fun _ _ _ _ h => h) rfl (by exact s9') ?_
        apply Exists.intro
        refine ⟨fun wx hS => ?_, ?_⟩
        · go_simp; rfl
        simp only [Act.put, zz1, zz2, zz3, zz4, zz5, zz6]
        obtain ⟨z0, z1, z2, z3, z4, z5, z6, z7, z8, z9, zz⟩ := res_facts32 (w := w9) A2d.out A3d.out (by omega)
        have ZZ := hide zz; have Z6 := hide z6; have Z7 := hide z7; have Z8 := hide z8; have Z9 := hide z9
        clear zz z6 z7 z8 z9
        refine wpAnyZ_one 12 (by kernel_rfl) rfl rfl (fun K hK => ?_)
        try simp only [List.getElem_toArray, List.getElem_cons_succ, List.getElem_cons_zero]
        go_simp
        have s10 : ((((w9.setCell ⟨w.heap.size + 1 + 1, 0, none⟩ (.slice po5 pl5 pc5)).setCell ⟨w.heap.size + 1 + 1, 1, none⟩ (.slice ao9 (at_ + 1 + (a.t.length - ax)) cap9)).setCell ⟨w.heap.size + 1 + 1, 2, none⟩ (.int .u64 ((a.n : Int) + 1)))).heap[w.heap.size]? = some (.cells #[.slice po pl pc, .slice lo a.t.length lc, .int .u64 (a.n : Int)] TRa (0, 0)) ∧
            ((((w9.setCell ⟨w.heap.size + 1 + 1, 0, none⟩ (.slice po5 pl5 pc5)).setCell ⟨w.heap.size + 1 + 1, 1, none⟩ (.slice ao9 (at_ + 1 + (a.t.length - ax)) cap9)).setCell ⟨w.heap.size + 1 + 1, 2, none⟩ (.int .u64 ((a.n : Int) + 1)))).heap[w5.heap.size]? = some (.cells #[.int .u8 (rc : Int), .string (strOf rt)] TRp (0, 0)) :=
          ⟨blk_set_other (blk_set_other (blk_set_other s9'.1 (by omega) _) (by omega) _) (by omega) _, blk_set_other (blk_set_other (blk_set_other s9'.2 (by omega) _) (by omega) _) (by omega) _⟩
        refine hK _ _ (.inr s10) ?_
        clear hK K
        try simp only [Act.put, zz1, zz2, zz3]
        have z6 := Z6.out; have z7 := Z7.out; have z8 := Z8.out; have z9 := Z9.out
        refine wpAnyZ_one 13 (by kernel_rfl) rfl rfl (fun K hK => ?_)
        try simp only [List.getElem_toArray, List.getElem_cons_succ, List.getElem_cons_zero]
        go_simp
        obtain ⟨e1, e2, e3⟩ := ZZ.out (.slice po5 pl5 pc5) (.slice ao9 (at_ + 1 + (a.t.length - ax)) cap9) (.int .u64 ((a.n : Int) + 1)) (.int .u8 (rc : Int)) (.string (strOf rt))
        generalize (((((w9.setCell ⟨w.heap.size + 1 + 1, 0, none⟩ (.slice po5 pl5 pc5)).setCell ⟨w.heap.size + 1 + 1, 1, none⟩ (.slice ao9 (at_ + 1 + (a.t.length - ax)) cap9)).setCell ⟨w.heap.size + 1 + 1, 2, none⟩ (.int .u64 ((a.n : Int) + 1))).setCell ⟨w.heap.size + 1 + 1 + 1, 0, none⟩ (.int .u8 (rc : Int))).setCell ⟨w.heap.size + 1 + 1 + 1, 1, none⟩ (.string (strOf rt))) = wF at e1 e2 e3 ⊢
        have s11 := And.intro (e3.get s9'.1 (by simp; omega)) (e3.get s9'.2 (by simp; omega))
        refine hK _ _ (.inr s11) ?_
        clear hK K
        try simp only [Act.put, zz1, zz2, zz3]
        refine zE 14 rfl (by kernel_rfl) (fun _ _ _ _ h => h) rfl (by exact s11) ?_
        apply Exists.intro
        refine ⟨fun wx hS => ?_, ?_⟩
        · go_simp; rfl
        simp only [Act.put, zz1, zz2, zz3, zz4, zz5, zz6]
        refine wpAnyZ_done (by kernel_rfl) ?_ _
        have E1 := hide e1; have E2 := hide e2; have E3 := hide e3
        have hzz := e3.size
        clear s9' s10 s11 z0 z1 z2 z3 z4 z5 z6 z7 z8 z9 e1 e2 e3
        rename_i hk
        refine hk _ _ ?_
        clear hk
        refine wp_ret ?_
        change bodyPost _ _ _ Exit.ret _ _
        have e9 : Upd [w.heap.size + 1 + 1, w.heap.size + 1 + 1 + 1] w6 wF := (U9.out.mono (by simp)).trans E3.out
        have e4 : Upd [] w wF := U6.out.trans_new e9 (fun k hk => .inr (by simp at hk; omega))
        have h9s := U9.out.size
        refine ret_ra E1.out E2.out rfl rfl rfl rfl rfl ⟨⟨.slice po5 pl5 pc5, .slice ao9 (at_ + 1 + (a.t.length - ax)) cap9, by rw [HGR.out]; simp [rpv], ?_, ?_⟩, e4⟩
        · rw [HGR.out]
          refine HPM.out _ _ _ _ _ (HPU.out _ _ _ _ _ _ P5.out ((W56.out.mono (by simp)).trans e9) (fun k hk hT => ?_)) (fun k hk => ?_)
          · simp only [List.mem_cons, List.not_mem_nil, or_false] at hk
            rcases hT with hT | hT
            · have := HTP.out k hT; omega
            · have := hT.1; omega
          · rcases hk with hk | hk
            · exact .inl hk
            · exact .inr ⟨by have := hk.1; omega, by have := hk.2; omega⟩
        · rw [HGR.out]
          refine (laK.row_upd (laK.bag_row BG9.out) E3.out (fun k hk hT => ?_)).mono (fun g hg => .inr ⟨by have := hg.1; omega, by have := hg.2; omega⟩) fun _ _ _ h => h
          simp only [List.mem_cons, List.not_mem_nil, or_false] at hk
          have := hT.1
          omega
end Go.Proofs.YthpnnffogbjhpaaGreatDoor.Kv
