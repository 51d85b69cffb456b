/- refcluster.tells. -/
import Derived.Test.YtanjnhohfcgapaaGreatDoorRcKB
set_option linter.unusedSimpArgs false
set_option linter.unusedVariables false
set_option linter.unnecessarySimpa false
namespace Go.Proofs.YtanjnhohfcgapaaGreatDoor.Sg
open Go.RowKit Go.Proofs.YtanjnhohfcgapaaGreatDoor.Crc Go.Proofs.YtanjnhohfcgapaaGreatDoor.Cm Go.Proofs.YtanjnhohfcgapaaGreatDoor.Tr Go.Proofs.YtanjnhohfcgapaaGreatDoor.Kv Go.Proofs.YtanjnhohfcgapaaGreatDoor.Au
set_option linter.unusedSimpArgs false
set_option linter.unusedVariables false

abbrev TTd : TypeId := 33
theorem behind_succ {row : List Lt} {r : Int} {l : List Se} {i : Nat} {s : Se} (h : l[i]? = some s) : behindM row r (l.take (i + 1)) = push1 (behindM row r (l.take i)) (r, s) := by
  obtain ⟨hi, e⟩ := List.getElem?_eq_some_iff.1 h
  unfold behindM
  rw [List.take_succ_eq_append_getElem hi, List.foldl_append, e]
  rfl
theorem ret_td {fn : Func} {q : Tmp} {B : Nat} {v0 v1 v2 v3 : Value} {W : World} {act : Act} {post : Ending → World → Prop} (hW : W.heap[B]? = some (.cells #[v0, v1, v2, v3] TTd (0, 0)))
    (hfn : fn.results = #[.cell q TTd]) (hp : act.tmps.getD q undef = .pointer (some ⟨B, 0, none⟩)) (hd : act.defers = []) (h : post (.returned (.agg #[v0, v1, v2, v3])) W) : bodyPost Tryz.prog fn post Exit.ret act W := by
  have z0 : W.cell? ⟨B, 0, none⟩ = some v0 := blk_cell hW rfl
  have z1 : W.cell? ⟨B, 1, none⟩ = some v1 := blk_cell hW rfl
  have z2 : W.cell? ⟨B, 2, none⟩ = some v2 := blk_cell hW rfl
  have z3 : W.cell? ⟨B, 3, none⟩ = some v3 := blk_cell hW rfl
  refine bodyPost_ret (v := .agg #[v0, v1, v2, v3]) ?_ hd h
  rw [Kv.results_cell1 hfn, hp]
  go_simp
theorem set4 {w : World} {B : Nat} {u0 u1 u2 u3 y0 y1 y2 y3 : Value} {t : TypeId} (h : w.heap[B]? = some (.cells #[u0, u1, u2, u3] t (0, 0))) : ((((w.setCell ⟨B, 0, none⟩ y0).setCell ⟨B, 1, none⟩ y1).setCell ⟨B, 2, none⟩ y2).setCell ⟨B, 3, none⟩ y3).heap[B]? = some (.cells #[y0, y1, y2, y3] t (0, 0)) := by
  have h3 := blk_set (i := 3) (blk_set (i := 2) (blk_set (i := 1) (blk_set (i := 0) h y0) y1) y2) y3
  simpa only [List.setIfInBounds_toArray, List.set_cons_succ, List.set_cons_zero] using h3
theorem upd4 (w : World) (B : Nat) (v0 v1 v2 v3 : Value) : Upd [B] w ((((w.setCell ⟨B, 0, none⟩ v0).setCell ⟨B, 1, none⟩ v1).setCell ⟨B, 2, none⟩ v2).setCell ⟨B, 3, none⟩ v3) :=
  ((((Upd.refl [B] w).setCell (p := ⟨B, 0, none⟩) (.inl (by simp)) v0).setCell (p := ⟨B, 1, none⟩) (.inl (by simp)) v1).setCell (p := ⟨B, 2, none⟩) (.inl (by simp)) v2).setCell (p := ⟨B, 3, none⟩) (.inl (by simp)) v3
theorem td_cells {w : World} {b : Nat} {v0 v1 v2 v3 : Value} {t : TypeId} (h : w.heap[b]? = some (.cells #[v0, v1, v2, v3] t (0, 0))) : w.cell? ⟨b, 0, none⟩ = some v0 ∧ w.cell? ⟨b, 1, none⟩ = some v1 ∧ w.cell? ⟨b, 2, none⟩ = some v2 ∧ w.cell? ⟨b, 3, none⟩ = some v3 ∧ ∀ i, w.frozen? ⟨b, i, none⟩ = false :=
  ⟨blk_cell h rfl, blk_cell h rfl, blk_cell h rfl, blk_cell h rfl, fun i => blk_free h⟩
/-- A new block of the caller's turns. -/
theorem RcAt.foreign {w w' : World} {T : Nat → Prop} {g : Rg} {x : Rc} {B : Nat} (h : RcAt w T g x) (hB : ¬ g.M x.n B ∧ ¬ T B) (hu : Upd [B] w w') : RcAt w' T g x := by
  have no : ∀ k, g.own k → k ∉ [B] := fun k hk hm => by simp at hm; subst hm; exact hB.1 (.inl hk)
  have nT : ∀ k ∈ [B], ¬ T k := fun k hk => by simp at hk; subst hk; exact hB.2
  refine ⟨hu.get h.blk (no _ (.inl rfl)), Own.upd h.lst hu (fun k hk => no k (.inr (.inl hk))) fun y cs _ hy => hy, OwnX.upd h.row hu (fun k hk => no k (.inr (.inr hk))) fun y cs _ hy => ltK.upd hy hu nT, fun r hr => ?_, h.apart, h.pl, h.pr, h.lr, h.out, fun k hk => Nat.lt_of_lt_of_le (h.ltT k hk) hu.size⟩
  obtain ⟨G, hG⟩ := h.at' r hr
  have nM : ¬ g.Ms r B := fun hm => hB.1 (.inr ⟨r, hr, hm⟩)
  refine ⟨G, hu.get hG.1 (fun hm => ?_), hG.2.shift hu fun k hk => by simp at hk; subst hk; exact .inr ⟨nM, hB.2⟩⟩
  simp at hm; exact nM (hm ▸ hG.2.pM)
set_option maxRecDepth 100000 in
set_option maxHeartbeats 4000000 in
theorem tells_any {T : Nat → Prop} {g : Rg} {x : Rc} {r e0 : Int} {s : SO} {sv av dv : Value} (w : World) (h : RcAt w T g x) (hs : seK.row w T sv s.2.send) (ha : anK.row w T av s.2.ans) (hd : Tr.cmK.row w T dv s.2.done) (hlen : x.row.length ≤ 256) :
    Calls Tryz.prog 114 #[.pointer (some ⟨g.p, 0, none⟩), .int .i64 r, .agg #[sv, av, dv], .int .i64 e0] w fun e w' => e = .returned (.agg #[.int .i64 r, .int .i64 e0, av, dv]) ∧ ∃ rv', RcAt w' T { g with rv := rv' } ⟨x.n, x.xs, behindM x.row r s.2.send⟩ ∧ Ext w T (g.M x.n) w' T (({ g with rv := rv' } : Rg).M x.n) := by
  obtain ⟨xa, ca, rfl⟩ := row_slice ha
  obtain ⟨xd, cd, rfl⟩ := row_slice hd
  obtain ⟨xo, cp, rfl, hc1, hc2, hget⟩ := Row.get seK.hz hs
  have HH := hide h; have HG := hide hget
  simp only [maxLen] at hc2
  have hpl := blk_lt h.blk
  clear h hs hget
  go_enter Tryz.func114, Tryz.ntmps114
  have h0 := blk_alloc (blk_new w (.cells #[.slice xo s.2.send.length cp, .slice xa s.2.ans.length ca, .slice xd s.2.done.length cd] TOu)) (.cells #[.int .i64 0, .int .i64 0, .slice none 0 0, .slice none 0 0] TTd)
  have h1 := blk_new (w.alloc (.cells #[.slice xo s.2.send.length cp, .slice xa s.2.ans.length ca, .slice xd s.2.done.length cd] TOu)) (.cells #[.int .i64 0, .int .i64 0, .slice none 0 0, .slice none 0 0] TTd)
  have hal := ((Upd.refl [] w).alloc (.cells #[.slice xo s.2.send.length cp, .slice xa s.2.ans.length ca, .slice xd s.2.done.length cd] TOu)).alloc (.cells #[.int .i64 0, .int .i64 0, .slice none 0 0, .slice none 0 0] TTd)
  simp only [World.size_alloc] at h1
  go_upto_region 1 with fail
  generalize (w.alloc (.cells #[.slice xo s.2.send.length cp, .slice xa s.2.ans.length ca, .slice xd s.2.done.length cd] TOu)).alloc (.cells #[.int .i64 0, .int .i64 0, .slice none 0 0, .slice none 0 0] TTd) = w1 at *
  have nn : ∀ j, w.heap.size ≤ j → ¬ (g.M x.n) j ∧ ¬ T j := fun j hj => HH.out.apt.new hj
  obtain ⟨B, hBn⟩ : ∃ B, w.heap.size = B := ⟨_, rfl⟩
  have HBN := hide hBn
  have NN := hide nn
  rw [hBn] at h0 h1 hpl ⊢
  have H1 := hide (HH.out.upd_nil hal); have E1 := hide (Ext.of_nil hal T (g.M x.n)); have A0 := hide h0; have A1 := hide h1
  have q0 : w1.cell? ⟨B, 0, none⟩ = some (.slice xo s.2.send.length cp) := blk_cell h0 rfl
  clear h0 h1 hal hBn nn
  go_wp2_with fail
  clear q0
  go_loopw [14] (fun si wx => ∃ i : Nat, i ≤ s.2.send.length ∧ si = .int .i64 i ∧ ∃ rv', RcAt wx T { g with rv := rv' } ⟨x.n, x.xs, behindM x.row r (s.2.send.take i)⟩ ∧ Ext w T (g.M x.n) wx T (({ g with rv := rv' } : Rg).M x.n) ∧ wx.heap[B]? = some (.cells #[.slice xo s.2.send.length cp, .slice xa s.2.ans.length ca, .slice xd s.2.done.length cd] TOu (0, 0)) ∧ wx.heap[B + 1]? = some (.cells #[.int .i64 0, .int .i64 0, .slice none 0 0, .slice none 0 0] TTd (0, 0)) ∧ ¬ ({ g with rv := rv' } : Rg).M x.n B ∧ ¬ ({ g with rv := rv' } : Rg).M x.n (B + 1)) (fun si wx => s.2.send.length - (RowKit.intOf si).toNat)
  case atStart => exact ⟨0, by omega, rfl, g.rv, H1.out, E1.out, A0.out, A1.out, (NN.out B (by have := HBN.out; omega)).1, (NN.out (B + 1) (by have := HBN.out; omega)).1⟩
  case round =>
    obtain ⟨i, hi, rfl, rv, hR, hE, hb0, hb1, hm0, hm1⟩ := hrel
    have M0 := hide hm0; have M1 := hide hm1
    have RR := hide hR; have EE := hide hE; have BB0 := hide hb0; have BB1 := hide hb1
    have hzr := hE.size
    clear hR hE hb0 hb1 hm0 hm1 H1 E1 A0 A1
    by_cases hlt : i < s.2.send.length
    · have d1 : decide ((i : Int) < s.2.send.length) = true := by simp; omega
      have d1' : decide (i < s.2.send.length) = true := by simpa using hlt
      obtain ⟨m, hm⟩ : ∃ m, s.2.send[i]? = some m := ⟨_, List.getElem?_eq_getElem hlt⟩
      obtain ⟨b, off, cs, rfl, hbl, hTb, ⟨hmo, km, rfl, hkm⟩, -, hcell⟩ := HG.out i m hm
      obtain ⟨xm, cm, rfl⟩ := hkm.slice
      have hne : ¬ (g.M x.n) b := fun hk => HH.out.apt.apart b hTb hk
      obtain ⟨S, hS, hU⟩ := EE.out.upd
      have hbS : b ∉ S := fun hk => hne (hS b hk)
      have cc : ∀ j u, (sec m (.slice xm m.2.cmd.keys.length cm))[j]? = some u → wr.cell? ⟨b, off + i * 15 + j, none⟩ = some u := fun j u hj => by
        have h5 : w.cell? ⟨b, off + i * 15 + j, none⟩ = some u := hcell j u hj
        rw [← h5]
        simp only [World.cell?, hU.block b hbl hbS]
      have x0 : wr.cell? ⟨b, off + i * 15, none⟩ = some (.int .i64 m.1) := cc 0 _ rfl; have x1 := cc 1 _ rfl; have x2 := cc 2 _ rfl; have x3 := cc 3 _ rfl; have x4 := cc 4 _ rfl; have x5 := cc 5 _ rfl; have x6 := cc 6 _ rfl; have x7 := cc 7 _ rfl; have x8 := cc 8 _ rfl; have x9 := cc 9 _ rfl; have x10 := cc 10 _ rfl; have x11 := cc 11 _ rfl; have x12 := cc 12 _ rfl; have x13 := cc 13 _ rfl; have x14 := cc 14 _ rfl
      simp only [strV] at x12 x13
      have KM := hide (EE.out.ky HH.out.apt.apart hkm); have MO := hide hmo; have HM := hide hm
      clear cc hcell hne hbS hS hU hTb hkm hmo hm
      have hN := blk_new wr (.cells (sec m (.slice xm m.2.cmd.keys.length cm)).toArray 127)
      have hal := (Upd.refl [] wr).alloc (.cells (sec m (.slice xm m.2.cmd.keys.length cm)).toArray 127)
      go_upto_region 4 with fail
      change Code.wp _ _ _ _ (wr.alloc (.cells (sec m (.slice xm m.2.cmd.keys.length cm)).toArray 127))
      generalize wr.alloc (.cells (sec m (.slice xm m.2.cmd.keys.length cm)).toArray 127) = w3 at *
      clear x0 x1 x2 x3 x4 x5 x6 x7 x8 x9 x10 x11 x12 x13 x14
      have R3 := hide (RR.out.upd_nil hal); have E3 := hide (EE.out.on hal (by simp)); have B30 := hide (hal.get BB0.out (by simp)); have B31 := hide (hal.get BB1.out (by simp)); have K3 := hide (KM.out.upd hal (by simp))
      obtain ⟨Q, hQ⟩ : ∃ Q, wr.heap.size = Q := ⟨_, rfl⟩
      rw [hQ] at hN hzr ⊢
      clear hal hQ RR EE BB0 BB1 KM
      have N3 := hN
      have z0 : w3.cell? ⟨Q, 0, none⟩ = some (.int .i64 m.1) := blk_cell N3 rfl
      have z1 : w3.cell? ⟨Q, 1, none⟩ = some (.int .u8 (m.2.kind : Int)) := blk_cell N3 rfl
      have z2 : w3.cell? ⟨Q, 2, none⟩ = some (.int .u64 (m.2.slot : Int)) := blk_cell N3 rfl
      have z3 : w3.cell? ⟨Q, 3, none⟩ = some (.int .u64 (m.2.b.n : Int)) := blk_cell N3 rfl
      have z4 : w3.cell? ⟨Q, 4, none⟩ = some (.int .i64 m.2.b.r) := blk_cell N3 rfl
      have z5 : w3.cell? ⟨Q, 5, none⟩ = some (.bool m.2.has) := blk_cell N3 rfl
      have z6 : w3.cell? ⟨Q, 6, none⟩ = some (.int .u64 (m.2.vote.n : Int)) := blk_cell N3 rfl
      have z7 : w3.cell? ⟨Q, 7, none⟩ = some (.int .i64 m.2.vote.r) := blk_cell N3 rfl
      have z8 : w3.cell? ⟨Q, 8, none⟩ = some (.int .u32 (m.2.cmd.client : Int)) := blk_cell N3 rfl
      have z9 : w3.cell? ⟨Q, 9, none⟩ = some (.int .u32 (m.2.cmd.seq : Int)) := blk_cell N3 rfl
      have z10 : w3.cell? ⟨Q, 10, none⟩ = some (.int .u8 (m.2.cmd.kind : Int)) := blk_cell N3 rfl
      have z11 : w3.cell? ⟨Q, 11, none⟩ = some (.slice xm m.2.cmd.keys.length cm) := blk_cell N3 rfl
      have z12 : w3.cell? ⟨Q, 12, none⟩ = some (.string (strOf m.2.cmd.old)) := blk_cell N3 rfl
      have z13 : w3.cell? ⟨Q, 13, none⟩ = some (.string (strOf m.2.cmd.new)) := blk_cell N3 rfl
      have z14 : w3.cell? ⟨Q, 14, none⟩ = some (.int .i64 m.2.cmd.n) := blk_cell N3 rfl
      clear hN N3
      go_wp2_with fail
      refine (behind_any (l := (r, m)) (ks := .slice xm m.2.cmd.keys.length cm) w3 R3.out MO.out K3.out (behind_len _ _ hlen)).mono ?_
      rintro e w4 ⟨rfl, rv4, hR4, hE4⟩
      have R4 := hide hR4; have E4 := hide (E3.out.trans hE4)
      have B40 := hide (hE4.get B30.out M0.out); have B41 := hide (hE4.get B31.out M1.out)
      have l30 := blk_lt B30.out; have l31 := blk_lt B31.out
      have M0' := hide (show ¬ ({ g with rv := rv4 } : Rg).M x.n B from fun hm => (hE4.newM B hm).elim M0.out (by omega)); have M1' := hide (show ¬ ({ g with rv := rv4 } : Rg).M x.n (B + 1) from fun hm => (hE4.newM (B + 1) hm).elim M1.out (by omega))
      clear hR4 hE4 l30 l31 z0 z1 z2 z3 z4 z5 z6 z7 z8 z9 z10 z11 z12 z13 z14
      go_wp2_with fail
      go_roundw
      case rel => exact ⟨i + 1, by omega, by go_num, rv4, by rw [behind_succ HM.out]; exact R4.out, E4.out, B40.out, B41.out, M0'.out, M1'.out⟩
      case measure => simp [RowKit.intOf]; omega
    · have d1 : decide ((i : Int) < s.2.send.length) = false := by simp; omega
      have d1' : decide (i < s.2.send.length) = false := by simp; omega
      have ei : i = s.2.send.length := by omega
      have RE := hide (show RcAt wr T { g with rv := rv } ⟨x.n, x.xs, behindM x.row r s.2.send⟩ by have := RR.out; rw [ei, List.take_length] at this; exact this)
      have o1 : wr.cell? ⟨B, 1, none⟩ = some (.slice xa s.2.ans.length ca) := blk_cell BB0.out rfl
      have o2 : wr.cell? ⟨B, 2, none⟩ = some (.slice xd s.2.done.length cd) := blk_cell BB0.out rfl
      obtain ⟨t0, t1, t2, t3, tf⟩ := td_cells BB1.out
      clear ei
      go_wp2_with fail
      have us := upd4 wr (B + 1) (.int .i64 r) (.int .i64 e0) (.slice xa s.2.ans.length ca) (.slice xd s.2.done.length cd)
      have NB := NN.out (B + 1) (by have := HBN.out; omega)
      exact ret_td (set4 BB1.out) rfl rfl rfl ⟨rfl, rv, RE.out.foreign ⟨M1.out, NB.2⟩ us, EE.out.on us fun k hk => by simp at hk; subst hk; exact .inr (by have := HBN.out; omega)⟩
end Go.Proofs.YtanjnhohfcgapaaGreatDoor.Sg
