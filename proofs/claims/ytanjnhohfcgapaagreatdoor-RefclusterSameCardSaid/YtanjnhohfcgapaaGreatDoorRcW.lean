/- refcluster.own. -/
import Derived.Test.YtanjnhohfcgapaaGreatDoorRcT
import Derived.Test.YtanjnhohfcgapaaGreatDoorSgYZ
import Derived.Test.YtanjnhohfcgapaaGreatDoorShD
set_option linter.unusedSimpArgs false
set_option linter.unusedVariables false
set_option linter.unnecessarySimpa false
namespace Go.Proofs.YtanjnhohfcgapaaGreatDoor.Sg
open Go.RowKit Go.Proofs.YtanjnhohfcgapaaGreatDoor.Crc Go.Proofs.YtanjnhohfcgapaaGreatDoor.Cm Go.Proofs.YtanjnhohfcgapaaGreatDoor.Tr Go.Proofs.YtanjnhohfcgapaaGreatDoor.Kv Go.Proofs.YtanjnhohfcgapaaGreatDoor.Au
set_option linter.unusedSimpArgs false
set_option linter.unusedVariables false

/-- What a cluster's step stands on. -/
structure Ri (w : World) (T : Nat → Prop) (g : Rg) (L : Nat) (x : Rc) : Prop where
  at' : RcAt w T g x
  env : EnvM w (g.M x.n)
  ok : ∀ r, r < x.n → SgOk L (x.xs r)
  n : x.n ≤ 7
  len : x.row.length ≤ 256
/-- Behind it: what it told. -/
def RTold (w : World) (T : Nat → Prop) (g : Rg) (n : Nat) (q : Rc × Tl) (v : Value) (w' : World) : Prop :=
  ∃ T' g' va vd, v = .agg #[.int .i64 q.2.r, .int .i64 q.2.e, va, vd] ∧ g'.p = g.p ∧ RcAt w' T' g' q.1 ∧ Ext w T (g.M n) w' T' (g'.M n) ∧ anK.row w' T' va q.2.ans ∧ Tr.cmK.row w' T' vd q.2.done
section
variable {w w' w1 : World} {T : Nat → Prop} {g : Rg} {L r : Nat} {x : Rc}
theorem Ri.upd_nil (h : Ri w T g L x) (hu : Upd [] w w') : Ri w' T g L x := ⟨h.at'.upd_nil hu, h.env.upd_nil hu, h.ok, h.n, h.len⟩
theorem Ri.hi (h : Ri w T g L x) (hr : r < x.n) : ∃ G, Hi w T (g.Ms r) (g.ps r) L (x.xs r) G := by
  obtain ⟨G, hG⟩ := h.at'.at' r hr
  exact ⟨G, hG, ⟨h.env.1, fun k hk => ⟨fun hm => (h.env.2 k hk).1 (.inr ⟨r, hr, hm⟩), (h.env.2 k hk).2⟩⟩, h.ok r hr⟩
/-- Where the singles' places are read. -/
theorem RcAt.ptr (h : RcAt w T g x) : ∃ (xo : Option Addr) (c : Nat), g.lv = .slice xo x.n c ∧ x.n ≤ c ∧ c ≤ maxLen ∧ ∀ r, r < x.n → ∃ b off, xo = some ⟨b, off, none⟩ ∧ b < w.heap.size ∧ g.own b ∧ w.cell? ⟨b, off + r * 1, none⟩ = some (.pointer (some ⟨g.ps r, 0, none⟩)) := by
  obtain ⟨xo, c, e, h1, h2, hg⟩ := Row.get ptK.hz (Own.row h.lst)
  simp only [List.length_map, List.length_range] at e h1
  refine ⟨xo, c, e, h1, h2, fun r hr => ?_⟩
  obtain ⟨b, off, cs, rfl, hb, hT, rfl, -, hc⟩ := hg r (g.ps r) (by simp [hr])
  exact ⟨b, off, rfl, hb, .inr (.inl hT), hc 0 _ rfl⟩
end
/-- An entry's cells. -/
def enA (e : En) (torn pick : Int) (ks : Value) : Array Value := #[.int .u8 (e.kind : Int), .int .i64 e.r, .int .i64 e.k, .int .i64 torn, .int .u64 pick, .int .u32 (e.cmd.client : Int), .int .u32 (e.cmd.seq : Int), .int .u8 (e.cmd.kind : Int), ks, .string (strOf e.cmd.old), .string (strOf e.cmd.new), .int .i64 e.cmd.n]
abbrev TEn : TypeId := 111
theorem en_cells {w : World} {b : Nat} {e : En} {torn pick : Int} {ks : Value} {t : TypeId} (h : w.heap[b]? = some (.cells (enA e torn pick ks) t (0, 0))) :
    w.cell? ⟨b, 0, none⟩ = some (.int .u8 (e.kind : Int)) ∧ w.cell? ⟨b, 1, none⟩ = some (.int .i64 e.r) ∧ w.cell? ⟨b, 2, none⟩ = some (.int .i64 e.k) ∧ w.cell? ⟨b, 5, none⟩ = some (.int .u32 (e.cmd.client : Int)) ∧ w.cell? ⟨b, 6, none⟩ = some (.int .u32 (e.cmd.seq : Int)) ∧ w.cell? ⟨b, 7, none⟩ = some (.int .u8 (e.cmd.kind : Int)) ∧ w.cell? ⟨b, 8, none⟩ = some ks ∧ w.cell? ⟨b, 9, none⟩ = some (.string (strOf e.cmd.old)) ∧ w.cell? ⟨b, 10, none⟩ = some (.string (strOf e.cmd.new)) ∧ w.cell? ⟨b, 11, none⟩ = some (.int .i64 e.cmd.n) :=
  ⟨blk_cell h rfl, blk_cell h rfl, blk_cell h rfl, blk_cell h rfl, blk_cell h rfl, blk_cell h rfl, blk_cell h rfl, blk_cell h rfl, blk_cell h rfl, blk_cell h rfl⟩
theorem RTold.nothing {w w' : World} {T : Nat → Prop} {g : Rg} {x : Rc} (h : RcAt w' T g x) (hE : Ext w T (g.M x.n) w' T (g.M x.n)) (e : Int) : RTold w T g x.n (x, noT e) (.agg #[.int .i64 (-1), .int .i64 e, .slice none 0 0, .slice none 0 0]) w' :=
  ⟨T, g, _, _, rfl, rfl, h, hE, Kind.row_nil _ _ _, Kind.row_nil _ _ _⟩
set_option maxRecDepth 100000 in
set_option maxHeartbeats 8000000 in
theorem own_any {T : Nat → Prop} {g : Rg} {L : Nat} {x : Rc} {e : En} {torn pick : Int} {ks : Value} (w : World) (h : Ri w T g L x) (hL : L ≤ 10000) (hk : Ky w T ks e.cmd) (hsm : Sm e.cmd) (hkd : e.kind = 1 ∨ e.kind = 2 ∨ e.kind = 3) :
    Calls Tryz.prog 86 #[.pointer (some ⟨g.p, 0, none⟩), .agg (enA e torn pick ks)] w fun y w' => ∃ v, y = .returned v ∧ RTold w T g x.n (ownM x e) v w' := by
  obtain ⟨q, hq⟩ : ∃ q, ownM x e = q := ⟨_, rfl⟩
  rw [hq]
  have HQ := hide hq
  have HKD := hide hkd
  clear hq hkd
  obtain ⟨xk, ck, rfl⟩ := hk.slice
  have HH := hide h; have K0 := hide hk; have SM := hide hsm
  have hpl := blk_lt h.at'.blk
  clear h hk hsm
  unfold enA
  go_enter Tryz.func86, Tryz.ntmps86
  go_upto_region 1 with fail
  have h0 := blk_alloc (blk_new w (.cells (enA e torn pick (.slice xk e.cmd.keys.length ck)) TEn)) (.cells #[.int .i64 0, .int .i64 0, .slice none 0 0, .slice none 0 0] TTd)
  have h1 := blk_new (w.alloc (.cells (enA e torn pick (.slice xk e.cmd.keys.length ck)) TEn)) (.cells #[.int .i64 0, .int .i64 0, .slice none 0 0, .slice none 0 0] TTd)
  have hal := ((Upd.refl [] w).alloc (.cells (enA e torn pick (.slice xk e.cmd.keys.length ck)) TEn)).alloc (.cells #[.int .i64 0, .int .i64 0, .slice none 0 0, .slice none 0 0] TTd)
  simp only [World.size_alloc] at h1
  change Code.wp _ _ _ _ ((w.alloc (.cells (enA e torn pick (.slice xk e.cmd.keys.length ck)) TEn)).alloc (.cells #[.int .i64 0, .int .i64 0, .slice none 0 0, .slice none 0 0] TTd))
  generalize (w.alloc (.cells (enA e torn pick (.slice xk e.cmd.keys.length ck)) TEn)).alloc (.cells #[.int .i64 0, .int .i64 0, .slice none 0 0, .slice none 0 0] TTd) = w1 at *
  have nn : ∀ j, w.heap.size ≤ j → ¬ (g.M x.n) j ∧ ¬ T j := fun j hj => HH.out.at'.apt.new hj
  obtain ⟨B, hBn⟩ : ∃ B, w.heap.size = B := ⟨_, rfl⟩
  have HBN := hide hBn
  have NN := hide nn
  rw [hBn] at h0 h1 hpl ⊢
  have R1 := hide (HH.out.upd_nil hal); have E1 := hide (Ext.of_nil hal T (g.M x.n)); have A0 := hide h0; have A1 := hide h1; have K1 := hide (K0.out.upd hal (by simp))
  clear h0 h1 hal hBn nn K0
  obtain ⟨xl, cl, hlv, hl1, hl2, hptr⟩ := R1.out.at'.ptr
  have HLV := hide hlv; have HPT := hide hptr
  have x7 := HH.out.n
  have pc : ∀ n, (w1.drewN n).cell? ⟨g.p, 0, none⟩ = some (.slice xl x.n cl) := fun n => by rw [← hlv]; exact blk_cell (w := w1.drewN n) R1.out.at'.blk rfl
  have ec : ∀ n, (w1.drewN n).cell? ⟨B, 1, none⟩ = some (.int .i64 e.r) := fun n => (en_cells (w := w1.drewN n) A0.out).2.1
  simp only [maxLen] at hl2
  clear hlv hptr
  by_cases hr0 : e.r < 0
  · have d1 : decide (e.r < 0) = true := by simpa using hr0
    have eQ : q = (x, noT 50) := by rw [← HQ.out]; unfold ownM; rw [if_pos (.inl hr0)]
    subst eQ
    clear hr0
    go_quiet (fail)
    obtain ⟨t0, t1, t2, t3, tf⟩ := td_cells (w := w1.drewN nq) A1.out
    go_wp2_with fail
    have us := upd4 (w1.drewN nq) (B + 1) (.int .i64 (-1)) (.int .i64 50) (.slice none 0 0) (.slice none 0 0)
    have NB := NN.out (B + 1) (by have := HBN.out; omega)
    exact ret_td (set4 (w := w1.drewN nq) A1.out) rfl rfl rfl ⟨_, rfl, RTold.nothing ((R1.out.at'.upd_nil ((Upd.refl [] w1).drewN nq)).foreign NB us) ((E1.out.drewN nq).on us fun k hk => by simp at hk; subst hk; exact .inr (by have := HBN.out; omega)) 50⟩
  · have d1 : decide (e.r < 0) = false := by simp; omega
    by_cases hr1 : (x.n : Int) ≤ e.r
    · have d2 : decide ((x.n : Int) ≤ e.r) = true := by simpa using hr1
      have eQ : q = (x, noT 50) := by rw [← HQ.out]; unfold ownM; rw [if_pos (.inr hr1)]
      subst eQ
      clear hr0 hr1
      go_quiet (fail)
      obtain ⟨t0, t1, t2, t3, tf⟩ := td_cells (w := w1.drewN nq) A1.out
      go_wp2_with fail
      have us := upd4 (w1.drewN nq) (B + 1) (.int .i64 (-1)) (.int .i64 50) (.slice none 0 0) (.slice none 0 0)
      have NB := NN.out (B + 1) (by have := HBN.out; omega)
      exact ret_td (set4 (w := w1.drewN nq) A1.out) rfl rfl rfl ⟨_, rfl, RTold.nothing ((R1.out.at'.upd_nil ((Upd.refl [] w1).drewN nq)).foreign NB us) ((E1.out.drewN nq).on us fun k hk => by simp at hk; subst hk; exact .inr (by have := HBN.out; omega)) 50⟩
    · have d2 : decide ((x.n : Int) ≤ e.r) = false := by simp; omega
      obtain ⟨r, hre⟩ : ∃ r : Nat, e.r = r := ⟨e.r.toNat, by omega⟩
      have hrn : r < x.n := by omega
      have d2' : decide (x.n ≤ r) = false := by simp; omega
      have hqq : q = if e.kind = 2 then tellsM x r (tickM (x.xs r)) 0 else if e.kind = 3 then tellsM x r (askAtM e.k (x.xs r)).1 ((askAtM e.k (x.xs r)).2 : Nat) else (⟨x.n, up x.xs r (submitM e.cmd (x.xs r)).1, x.row⟩, ⟨r, ((submitM e.cmd (x.xs r)).2 : Nat), [], []⟩) := by
        rw [← HQ.out]; unfold ownM; rw [if_neg (by omega), hre]; rfl
      have HQQ := hide hqq; have HRE := hide hre; have HRN := hide hrn
      rw [hre] at ec d1 d2
      clear hr0 hr1 hqq hre
      go_quiet (fail)
      go_upto_region 3 with fail
      clear pc ec
      obtain ⟨w2, hw2⟩ : ∃ w2, w1.drewN nq = w2 := ⟨_, rfl⟩
      have u2 : Upd [] w1 w2 := by rw [← hw2]; exact (Upd.refl [] w1).drewN nq
      rw [hw2]
      have R2 := hide (R1.out.upd_nil u2); have E2 := hide (E1.out.on u2 (by simp)); have B0 := hide (u2.get A0.out (by simp)); have B1 := hide (u2.get A1.out (by simp)); have K2 := hide (K1.out.upd u2 (by simp))
      obtain ⟨bl, off, rfl, hbl, hown, hpc⟩ := HPT.out r hrn
      have hpc2 : w2.cell? ⟨bl, off + r * 1, none⟩ = some (.pointer (some ⟨g.ps r, 0, none⟩)) := cell_upd hpc u2 (by simp)
      have PC2 := hide hpc2
      clear hw2 u2 R1 E1 A0 A1 K1 HPT hbl hown hpc hpc2 d1 d2 d2'
      obtain ⟨G0, hHi⟩ := R2.out.hi hrn
      have HI2 := hide hHi
      clear hHi
      have di0 : (0 : Int) ≤ (r : Int) := by omega
      have di1 : (r : Int) < (x.n : Int) := by omega
      have di2 : decide (r < x.n) = true := by simpa using hrn
      have nB : Hid (¬ g.Ms r B ∧ ¬ g.Ms r (B + 1)) := hide ⟨fun hm => (NN.out B (by have := HBN.out; omega)).1 (.inr ⟨r, hrn, hm⟩), fun hm => (NN.out (B + 1) (by have := HBN.out; omega)).1 (.inr ⟨r, hrn, hm⟩)⟩
      have hlvp : Hid (∀ (wx : World) (Tx : Nat → Prop) (gx : Rg) (xx : Rc), RcAt wx Tx gx xx → gx.lv = g.lv → gx.p = g.p → gx.ps = g.ps → xx.n = x.n → wx.cell? ⟨g.p, 0, none⟩ = some (.slice (some ⟨bl, off, none⟩) x.n cl) ∧ wx.cell? ⟨bl, off + r * 1, none⟩ = some (.pointer (some ⟨g.ps r, 0, none⟩))) := hide (fun wx Tx gx xx hx e1 e2 e3 e4 => by
        refine ⟨?_, ?_⟩
        · rw [← HLV.out, ← e1, ← e2]; exact blk_cell hx.blk rfl
        · obtain ⟨xo, c, h1, -, -, h4⟩ := hx.ptr
          rw [e1, HLV.out, e4] at h1
          obtain ⟨b2, off2, h5, -, -, h6⟩ := h4 r (by rw [e4]; exact HRN.out)
          rw [h5] at h1
          obtain ⟨h7, -⟩ : (⟨bl, off, none⟩ : Addr) = ⟨b2, off2, none⟩ ∧ cl = c := by simpa using h1
          cases h7
          rw [← e3]; exact h6)
      rcases HKD.out with hk1 | hk2 | hk3
      · have ek : (e.kind : Int) = 1 := by omega
        have e0 : w2.cell? ⟨B, 0, none⟩ = some (.int .u8 1) := by rw [← ek]; exact (en_cells B0.out).1
        have eQ : q = (⟨x.n, up x.xs r (submitM e.cmd (x.xs r)).1, x.row⟩, ⟨r, ((submitM e.cmd (x.xs r)).2 : Nat), [], []⟩) := by rw [HQQ.out, if_neg (by omega), if_neg (by omega)]
        subst eQ
        clear ek hk1
        go_upto_region 9 with fail
        clear e0
        have v0 : Upd [] w2 (w2.drewN 1) := (Upd.refl [] w2).drewN 1
        have s0 : (w2.drewN 1).cell? ⟨g.p, 0, none⟩ = some (.slice (some ⟨bl, off, none⟩) x.n cl) ∧ (w2.drewN 1).cell? ⟨bl, off + r * 1, none⟩ = some (.pointer (some ⟨g.ps r, 0, none⟩)) ∧ (w2.drewN 1).heap[B]? = some (.cells (enA e torn pick (.slice xk e.cmd.keys.length ck)) TEn (0, 0)) ∧ (w2.drewN 1).heap[B + 1]? = some (.cells #[.int .i64 0, .int .i64 0, .slice none 0 0, .slice none 0 0] TTd (0, 0)) := by
          obtain ⟨c1, c2⟩ := hlvp.out _ _ _ _ (R2.out.at'.upd_nil v0) rfl rfl rfl rfl
          exact ⟨c1, c2, B0.out, B1.out⟩
        refine wp_region_z (fun wx => wx.cell? ⟨g.p, 0, none⟩ = some (.slice (some ⟨bl, off, none⟩) x.n cl) ∧ wx.cell? ⟨bl, off + r * 1, none⟩ = some (.pointer (some ⟨g.ps r, 0, none⟩)) ∧ wx.heap[B]? = some (.cells (enA e torn pick (.slice xk e.cmd.keys.length ck)) TEn (0, 0)) ∧ wx.heap[B + 1]? = some (.cells #[.int .i64 0, .int .i64 0, .slice none 0 0, .slice none 0 0] TTd (0, 0))) 14 (by kernel_rfl) ?_
        refine zE 0 rfl (by kernel_rfl) (fun _ _ _ _ h => h) rfl (by exact s0) ?_
        apply Exists.intro
        refine ⟨fun wx hS => ?_, ?_⟩
        · go_simp; rfl
        simp only [Act.put, List.setIfInBounds_toArray, List.set_cons_succ, List.set_cons_zero, List.getElem_toArray, List.getElem_cons_zero]
        refine zE 1 rfl (by kernel_rfl) (fun _ _ _ _ h => h) rfl (by exact s0) ?_
        apply Exists.intro
        refine ⟨fun wx hS => ?_, ?_⟩
        · have c := (en_cells hS.2.2.1).2.1 ; rw [HRE.out] at c; go_simp; rfl
        simp only [Act.put, zz1, zz2, zz3, zz4, zz5, zz6]
        refine zE 2 rfl (by kernel_rfl) (fun _ _ _ _ h => h) rfl (by exact s0) ?_
        apply Exists.intro
        refine ⟨fun wx hS => ?_, ?_⟩
        · go_simp; rfl
        simp only [Act.put, zz1, zz2, zz3, zz4, zz5, zz6]
        refine zE 3 rfl (by kernel_rfl) (fun _ _ _ _ h => h) rfl (by exact s0) ?_
        apply Exists.intro
        refine ⟨fun wx hS => ?_, ?_⟩
        · go_simp; rfl
        simp only [Act.put, zz1, zz2, zz3, zz4, zz5, zz6]
        refine zE 4 rfl (by kernel_rfl) (fun _ _ _ _ h => h) rfl (by exact s0) ?_
        apply Exists.intro
        refine ⟨fun wx hS => ?_, ?_⟩
        · go_simp; rfl
        simp only [Act.put, zz1, zz2, zz3, zz4, zz5, zz6]
        refine zE 5 rfl (by kernel_rfl) (fun _ _ _ _ h => h) rfl (by exact s0) ?_
        apply Exists.intro
        refine ⟨fun wx hS => ?_, ?_⟩
        · have c := hS.1; go_simp; rfl
        simp only [Act.put, zz1, zz2, zz3, zz4, zz5, zz6]
        refine zE 6 rfl (by kernel_rfl) (fun _ _ _ _ h => h) rfl (by exact s0) ?_
        apply Exists.intro
        refine ⟨fun wx hS => ?_, ?_⟩
        · go_simp; rfl
        simp only [Act.put, zz1, zz2, zz3, zz4, zz5, zz6]
        refine zE 7 rfl (by kernel_rfl) (fun _ _ _ _ h => h) rfl (by exact s0) ?_
        apply Exists.intro
        refine ⟨fun wx hS => ?_, ?_⟩
        · have c := (en_cells hS.2.2.1).2.1 ; rw [HRE.out] at c; go_simp; rfl
        simp only [Act.put, zz1, zz2, zz3, zz4, zz5, zz6]
        refine zE 8 rfl (by kernel_rfl) (fun _ _ _ _ h => h) rfl (by exact s0) ?_
        apply Exists.intro
        refine ⟨fun wx hS => ?_, ?_⟩
        · go_simp; rfl
        simp only [Act.put, zz1, zz2, zz3, zz4, zz5, zz6]
        refine zE 9 rfl (by kernel_rfl) (fun _ _ _ _ h => h) rfl (by exact s0) ?_
        apply Exists.intro
        refine ⟨fun wx hS => ?_, ?_⟩
        · have c := hS.2.1 ; have c' : wx.cell? ⟨bl, off + r, none⟩ = some (.pointer (some ⟨g.ps r, 0, none⟩)) := (by rw [Nat.mul_one] at c ; exact c); go_simp; rfl
        simp only [Act.put, zz1, zz2, zz3, zz4, zz5, zz6]
        refine zE 10 rfl (by kernel_rfl) (fun _ _ _ _ h => h) rfl (by exact s0) ?_
        apply Exists.intro
        refine ⟨fun wx hS => ?_, ?_⟩
        · go_simp; rfl
        simp only [Act.put, zz1, zz2, zz3, zz4, zz5, zz6]
        refine zE 11 rfl (by kernel_rfl) (fun _ _ _ _ h => h) rfl (by exact s0) ?_
        apply Exists.intro
        refine ⟨fun wx hS => ?_, ?_⟩
        · obtain ⟨c0, c1, c2, c5, c6, c7, c8, c9, c10, c11⟩ := en_cells hS.2.2.1; go_simp; rfl
        simp only [Act.put, zz1, zz2, zz3, zz4, zz5, zz6]
        refine wpAnyZ_one 12 (by kernel_rfl) rfl rfl (fun K hK => ?_)
        try simp only [List.getElem_toArray, List.getElem_cons_succ, List.getElem_cons_zero]
        go_simp
        refine (submit_step (c := e.cmd) (ks := .slice xk e.cmd.keys.length ck) (w2.drewN 1) ⟨HI2.out.at'.upd_nil v0, HI2.out.env.upd_nil v0, HI2.out.ok⟩ (K2.out.upd v0 (by simp)) SM.out).mono ?_
        rintro y w3 ⟨rfl, T3, M3, G3, hX3, hE3⟩
        obtain ⟨hR3, hEE3⟩ := (R2.out.at'.upd_nil v0).turn HRN.out hX3 hE3
        have R3 := hide hR3; have E3 := hide ((E2.out.on v0 (by simp)).trans hEE3)
        have s3 : w3.cell? ⟨g.p, 0, none⟩ = some (.slice (some ⟨bl, off, none⟩) x.n cl) ∧ w3.cell? ⟨bl, off + r * 1, none⟩ = some (.pointer (some ⟨g.ps r, 0, none⟩)) ∧ w3.heap[B]? = some (.cells (enA e torn pick (.slice xk e.cmd.keys.length ck)) TEn (0, 0)) ∧ w3.heap[B + 1]? = some (.cells #[.int .i64 0, .int .i64 0, .slice none 0 0, .slice none 0 0] TTd (0, 0)) := by
          obtain ⟨c1, c2⟩ := hlvp.out _ _ _ _ hR3 rfl rfl rfl rfl
          exact ⟨c1, c2, hE3.get (v0.get B0.out (by simp)) nB.out.1, hE3.get (v0.get B1.out (by simp)) nB.out.2⟩
        have N4 : Hid (¬ (g.turn r M3).M x.n (B + 1) ∧ ¬ T3 (B + 1)) := hide (hEE3.not (blk_lt (v0.get B1.out (by simp))) (NN.out (B + 1) (by have := HBN.out; omega)))
        obtain ⟨en, hen⟩ : ∃ en : Int, (((submitM e.cmd (x.xs r)).2 : Nat) : Int) = en := ⟨_, rfl⟩
        rw [hen]
        clear hX3 hE3 hR3 hEE3 s0 v0
        refine hK _ _ (.inr s3) ?_
        clear hK K
        try simp only [Act.put, zz1, zz2, zz3]
        refine zE 13 rfl (by kernel_rfl) (fun _ _ _ _ h => h) rfl (by exact s3) ?_
        apply Exists.intro
        refine ⟨fun wx hS => ?_, ?_⟩
        · go_simp; rfl
        simp only [Act.put, zz1, zz2, zz3, zz4, zz5, zz6]
        obtain ⟨t0, t1, t2, t3, tf⟩ := td_cells s3.2.2.2
        refine wpAnyZ_one 14 (by kernel_rfl) rfl rfl (fun K hK => ?_)
        try simp only [List.getElem_toArray, List.getElem_cons_succ, List.getElem_cons_zero]
        go_simp
        clear t0 t1 t2 t3 tf
        have us := upd4 w3 (B + 1) (.int .i64 (r : Int)) (.int .i64 en) (.slice none 0 0) (.slice none 0 0)
        have hb5 := set4 s3.2.2.2 (y0 := .int .i64 (r : Int)) (y1 := .int .i64 en) (y2 := .slice none 0 0) (y3 := .slice none 0 0)
        generalize (((w3.setCell ⟨B + 1, 0, none⟩ (.int .i64 (r : Int))).setCell ⟨B + 1, 1, none⟩ (.int .i64 en)).setCell ⟨B + 1, 2, none⟩ (.slice none 0 0)).setCell ⟨B + 1, 3, none⟩ (.slice none 0 0) = w5 at *
        have R5 := hide (R3.out.foreign N4.out us); have E5 := hide (E3.out.on us fun k hk => by simp at hk; subst hk; exact .inr (by have := HBN.out; omega)); have B5 := hide hb5
        clear us hb5 s3 R3 E3
        refine hK _ _ (.inl rfl) ?_
        clear hK K
        try simp only [Act.put, zz1, zz2, zz3]
        refine wpAnyZ_done (by kernel_rfl) ?_ _
        go_wp2_with fail
        exact ret_td B5.out rfl rfl rfl ⟨_, rfl, T3, g.turn r M3, _, _, by rw [← hen], rfl, R5.out, E5.out, Kind.row_nil _ _ _, Kind.row_nil _ _ _⟩
      · have ek : (e.kind : Int) = 2 := by omega
        have e0 : w2.cell? ⟨B, 0, none⟩ = some (.int .u8 2) := by rw [← ek]; exact (en_cells B0.out).1
        have eQ : q = tellsM x r (tickM (x.xs r)) 0 := by rw [HQQ.out, if_pos hk2]
        subst eQ
        clear ek hk2
        go_upto_region 5 with fail
        clear e0
        have v0 : Upd [] w2 (w2.drewN 1) := (Upd.refl [] w2).drewN 1
        have s0 : (w2.drewN 1).cell? ⟨g.p, 0, none⟩ = some (.slice (some ⟨bl, off, none⟩) x.n cl) ∧ (w2.drewN 1).cell? ⟨bl, off + r * 1, none⟩ = some (.pointer (some ⟨g.ps r, 0, none⟩)) ∧ (w2.drewN 1).heap[B]? = some (.cells (enA e torn pick (.slice xk e.cmd.keys.length ck)) TEn (0, 0)) ∧ (w2.drewN 1).heap[B + 1]? = some (.cells #[.int .i64 0, .int .i64 0, .slice none 0 0, .slice none 0 0] TTd (0, 0)) := by
          obtain ⟨c1, c2⟩ := hlvp.out _ _ _ _ (R2.out.at'.upd_nil v0) rfl rfl rfl rfl
          exact ⟨c1, c2, B0.out, B1.out⟩
        refine wp_region_z (fun wx => wx.cell? ⟨g.p, 0, none⟩ = some (.slice (some ⟨bl, off, none⟩) x.n cl) ∧ wx.cell? ⟨bl, off + r * 1, none⟩ = some (.pointer (some ⟨g.ps r, 0, none⟩)) ∧ wx.heap[B]? = some (.cells (enA e torn pick (.slice xk e.cmd.keys.length ck)) TEn (0, 0)) ∧ wx.heap[B + 1]? = some (.cells #[.int .i64 0, .int .i64 0, .slice none 0 0, .slice none 0 0] TTd (0, 0))) 13 (by kernel_rfl) ?_
        refine zE 0 rfl (by kernel_rfl) (fun _ _ _ _ h => h) rfl (by exact s0) ?_
        apply Exists.intro
        refine ⟨fun wx hS => ?_, ?_⟩
        · go_simp; rfl
        simp only [Act.put, List.setIfInBounds_toArray, List.set_cons_succ, List.set_cons_zero, List.getElem_toArray, List.getElem_cons_zero]
        refine zE 1 rfl (by kernel_rfl) (fun _ _ _ _ h => h) rfl (by exact s0) ?_
        apply Exists.intro
        refine ⟨fun wx hS => ?_, ?_⟩
        · go_simp; rfl
        simp only [Act.put, zz1, zz2, zz3, zz4, zz5, zz6]
        refine zE 2 rfl (by kernel_rfl) (fun _ _ _ _ h => h) rfl (by exact s0) ?_
        apply Exists.intro
        refine ⟨fun wx hS => ?_, ?_⟩
        · have c := (en_cells hS.2.2.1).2.1 ; rw [HRE.out] at c; go_simp; rfl
        simp only [Act.put, zz1, zz2, zz3, zz4, zz5, zz6]
        refine zE 3 rfl (by kernel_rfl) (fun _ _ _ _ h => h) rfl (by exact s0) ?_
        apply Exists.intro
        refine ⟨fun wx hS => ?_, ?_⟩
        · go_simp; rfl
        simp only [Act.put, zz1, zz2, zz3, zz4, zz5, zz6]
        refine zE 4 rfl (by kernel_rfl) (fun _ _ _ _ h => h) rfl (by exact s0) ?_
        apply Exists.intro
        refine ⟨fun wx hS => ?_, ?_⟩
        · go_simp; rfl
        simp only [Act.put, zz1, zz2, zz3, zz4, zz5, zz6]
        refine zE 5 rfl (by kernel_rfl) (fun _ _ _ _ h => h) rfl (by exact s0) ?_
        apply Exists.intro
        refine ⟨fun wx hS => ?_, ?_⟩
        · go_simp; rfl
        simp only [Act.put, zz1, zz2, zz3, zz4, zz5, zz6]
        refine zE 6 rfl (by kernel_rfl) (fun _ _ _ _ h => h) rfl (by exact s0) ?_
        apply Exists.intro
        refine ⟨fun wx hS => ?_, ?_⟩
        · have c := hS.1; go_simp; rfl
        simp only [Act.put, zz1, zz2, zz3, zz4, zz5, zz6]
        refine zE 7 rfl (by kernel_rfl) (fun _ _ _ _ h => h) rfl (by exact s0) ?_
        apply Exists.intro
        refine ⟨fun wx hS => ?_, ?_⟩
        · go_simp; rfl
        simp only [Act.put, zz1, zz2, zz3, zz4, zz5, zz6]
        refine zE 8 rfl (by kernel_rfl) (fun _ _ _ _ h => h) rfl (by exact s0) ?_
        apply Exists.intro
        refine ⟨fun wx hS => ?_, ?_⟩
        · have c := (en_cells hS.2.2.1).2.1 ; rw [HRE.out] at c; go_simp; rfl
        simp only [Act.put, zz1, zz2, zz3, zz4, zz5, zz6]
        refine zE 9 rfl (by kernel_rfl) (fun _ _ _ _ h => h) rfl (by exact s0) ?_
        apply Exists.intro
        refine ⟨fun wx hS => ?_, ?_⟩
        · go_simp; rfl
        simp only [Act.put, zz1, zz2, zz3, zz4, zz5, zz6]
        refine zE 10 rfl (by kernel_rfl) (fun _ _ _ _ h => h) rfl (by exact s0) ?_
        apply Exists.intro
        refine ⟨fun wx hS => ?_, ?_⟩
        · have c := hS.2.1 ; have c' : wx.cell? ⟨bl, off + r, none⟩ = some (.pointer (some ⟨g.ps r, 0, none⟩)) := (by rw [Nat.mul_one] at c ; exact c); go_simp; rfl
        simp only [Act.put, zz1, zz2, zz3, zz4, zz5, zz6]
        refine wpAnyZ_one 11 (by kernel_rfl) rfl rfl (fun K hK => ?_)
        try simp only [List.getElem_toArray, List.getElem_cons_succ, List.getElem_cons_zero]
        go_simp
        refine (tick_step (w2.drewN 1) ⟨HI2.out.at'.upd_nil v0, HI2.out.env.upd_nil v0, HI2.out.ok⟩ hL).mono ?_
        rintro y w3 ⟨v, rfl, T3, M3, G3, sv, av, dv, rfl, hX3, hE3, hs3, ha3, hd3⟩
        obtain ⟨hR3, hEE3⟩ := (R2.out.at'.upd_nil v0).turn HRN.out hX3 hE3
        have R3 := hide hR3; have E3 := hide ((E2.out.on v0 (by simp)).trans hEE3); have S3 := hide hs3; have AN3 := hide ha3; have DN3 := hide hd3
        have s3 : w3.cell? ⟨g.p, 0, none⟩ = some (.slice (some ⟨bl, off, none⟩) x.n cl) ∧ w3.cell? ⟨bl, off + r * 1, none⟩ = some (.pointer (some ⟨g.ps r, 0, none⟩)) ∧ w3.heap[B]? = some (.cells (enA e torn pick (.slice xk e.cmd.keys.length ck)) TEn (0, 0)) ∧ w3.heap[B + 1]? = some (.cells #[.int .i64 0, .int .i64 0, .slice none 0 0, .slice none 0 0] TTd (0, 0)) := by
          obtain ⟨c1, c2⟩ := hlvp.out _ _ _ _ hR3 rfl rfl rfl rfl
          exact ⟨c1, c2, hE3.get (v0.get B0.out (by simp)) nB.out.1, hE3.get (v0.get B1.out (by simp)) nB.out.2⟩
        have N30 : Hid (¬ (g.turn r M3).M x.n B ∧ ¬ T3 B) := hide (hEE3.not (blk_lt (v0.get B0.out (by simp))) (NN.out B (by have := HBN.out; omega)))
        have N3 : Hid (¬ (g.turn r M3).M x.n (B + 1) ∧ ¬ T3 (B + 1)) := hide (hEE3.not (blk_lt (v0.get B1.out (by simp))) (NN.out (B + 1) (by have := HBN.out; omega)))
        clear hX3 hE3 hs3 ha3 hd3 hR3 hEE3 s0 v0
        refine hK _ _ (.inr s3) ?_
        clear hK K
        try simp only [Act.put, zz1, zz2, zz3]
        refine wpAnyZ_one 12 (by kernel_rfl) rfl rfl (fun K hK => ?_)
        try simp only [List.getElem_toArray, List.getElem_cons_succ, List.getElem_cons_zero]
        go_simp
        refine (tells_any (g := g.turn r M3) (x := ⟨x.n, up x.xs r (tickM (x.xs r)).1, x.row⟩) (s := tickM (x.xs r)) (r := (r : Int)) (e0 := 0) w3 R3.out S3.out AN3.out DN3.out HH.out.len).mono ?_
        rintro y w4 ⟨rfl, rv4, hR4, hE4⟩
        have R4 := hide hR4; have E4 := hide (E3.out.trans hE4); have AN4 := hide (hE4.row R3.out.apt.apart AN3.out); have DN4 := hide (hE4.row (K := Tr.cmK) R3.out.apt.apart DN3.out)
        have s4 : w4.cell? ⟨g.p, 0, none⟩ = some (.slice (some ⟨bl, off, none⟩) x.n cl) ∧ w4.cell? ⟨bl, off + r * 1, none⟩ = some (.pointer (some ⟨g.ps r, 0, none⟩)) ∧ w4.heap[B]? = some (.cells (enA e torn pick (.slice xk e.cmd.keys.length ck)) TEn (0, 0)) ∧ w4.heap[B + 1]? = some (.cells #[.int .i64 0, .int .i64 0, .slice none 0 0, .slice none 0 0] TTd (0, 0)) := by
          obtain ⟨c1, c2⟩ := hlvp.out _ _ _ _ hR4 rfl rfl rfl rfl
          exact ⟨c1, c2, hE4.get s3.2.2.1 N30.out.1, hE4.get s3.2.2.2 N3.out.1⟩
        have N4 := hide (hE4.not (blk_lt s3.2.2.2) N3.out)
        clear hR4 hE4 s3 R3 E3 S3 AN3 DN3
        obtain ⟨xa, ca, hav⟩ := row_slice AN4.out
        obtain ⟨xd, cd, hdv⟩ := row_slice DN4.out
        obtain ⟨t0, t1, t2, t3, tf⟩ := td_cells s4.2.2.2
        subst hav hdv
        refine hK _ _ (.inr s4) ?_
        clear hK K
        try simp only [Act.put, zz1, zz2, zz3]
        refine wpAnyZ_one 13 (by kernel_rfl) rfl rfl (fun K hK => ?_)
        try simp only [List.getElem_toArray, List.getElem_cons_succ, List.getElem_cons_zero]
        go_simp
        clear t0 t1 t2 t3 tf
        have us := upd4 w4 (B + 1) (.int .i64 (r : Int)) (.int .i64 0) (.slice xa (tickM (x.xs r)).2.ans.length ca) (.slice xd (tickM (x.xs r)).2.done.length cd)
        have hb5 := set4 s4.2.2.2 (y0 := .int .i64 (r : Int)) (y1 := .int .i64 0) (y2 := .slice xa (tickM (x.xs r)).2.ans.length ca) (y3 := .slice xd (tickM (x.xs r)).2.done.length cd)
        generalize (((w4.setCell ⟨B + 1, 0, none⟩ (.int .i64 (r : Int))).setCell ⟨B + 1, 1, none⟩ (.int .i64 0)).setCell ⟨B + 1, 2, none⟩ (.slice xa (tickM (x.xs r)).2.ans.length ca)).setCell ⟨B + 1, 3, none⟩ (.slice xd (tickM (x.xs r)).2.done.length cd) = w5 at *
        have R5 := hide (R4.out.foreign N4.out us); have E5 := hide (E4.out.on us fun k hk => by simp at hk; subst hk; exact .inr (by have := HBN.out; omega)); have B5 := hide hb5
        have nT4 : ∀ k ∈ [B + 1], ¬ T3 k := fun k hk => by simp at hk; subst hk; exact N4.out.2
        have AN5 := hide (anK.row_upd AN4.out us nT4); have DN5 := hide (Tr.cmK.row_upd DN4.out us nT4)
        clear us hb5 s4 nT4 R4 E4 AN4 DN4
        refine hK _ _ (.inl rfl) ?_
        clear hK K
        try simp only [Act.put, zz1, zz2, zz3]
        refine wpAnyZ_done (by kernel_rfl) ?_ _
        go_wp2_with fail
        exact ret_td B5.out rfl rfl rfl ⟨_, rfl, T3, { g.turn r M3 with rv := rv4 }, _, _, rfl, rfl, R5.out, E5.out, AN5.out, DN5.out⟩
      · have ek : (e.kind : Int) = 3 := by omega
        have e0 : w2.cell? ⟨B, 0, none⟩ = some (.int .u8 3) := by rw [← ek]; exact (en_cells B0.out).1
        obtain ⟨ar, har⟩ : ∃ ar, askAtM e.k (x.xs r) = ar := ⟨_, rfl⟩
        have eQ : q = tellsM x r ar.1 (ar.2 : Nat) := by rw [HQQ.out, if_neg (by omega), if_pos hk3, har]
        subst eQ
        have HAR := hide har
        clear ek hk3 har
        go_upto_region 7 with fail
        clear e0
        go_cut [5, 6] (fun s5 s6 wx => ∃ Q T3 M3 sv av dv, s5 = .pointer (some ⟨Q, 0, none⟩) ∧ s6 = .int .i64 ((ar.2 : Nat) : Int) ∧ wx.heap[Q]? = some (.cells #[sv, av, dv] TOu (0, 0)) ∧ RcAt wx T3 (g.turn r M3) ⟨x.n, up x.xs r ar.1.1, x.row⟩ ∧ Ext w T (g.M x.n) wx T3 ((g.turn r M3).M x.n) ∧ seK.row wx T3 sv ar.1.2.send ∧ anK.row wx T3 av ar.1.2.ans ∧ Tr.cmK.row wx T3 dv ar.1.2.done ∧ wx.heap[B]? = some (.cells (enA e torn pick (.slice xk e.cmd.keys.length ck)) TEn (0, 0)) ∧ wx.heap[B + 1]? = some (.cells #[.int .i64 0, .int .i64 0, .slice none 0 0, .slice none 0 0] TTd (0, 0)) ∧ (¬ (g.turn r M3).M x.n (B + 1) ∧ ¬ T3 (B + 1)))
        case first =>
          as_aux_lemma =>
          have v0 : Upd [] w2 (w2.drewN 1) := (Upd.refl [] w2).drewN 1
          have s0 : (w2.drewN 1).cell? ⟨g.p, 0, none⟩ = some (.slice (some ⟨bl, off, none⟩) x.n cl) ∧ (w2.drewN 1).cell? ⟨bl, off + r * 1, none⟩ = some (.pointer (some ⟨g.ps r, 0, none⟩)) ∧ (w2.drewN 1).heap[B]? = some (.cells (enA e torn pick (.slice xk e.cmd.keys.length ck)) TEn (0, 0)) ∧ (w2.drewN 1).heap[B + 1]? = some (.cells #[.int .i64 0, .int .i64 0, .slice none 0 0, .slice none 0 0] TTd (0, 0)) := by
            obtain ⟨c1, c2⟩ := hlvp.out _ _ _ _ (R2.out.at'.upd_nil v0) rfl rfl rfl rfl
            exact ⟨c1, c2, B0.out, B1.out⟩
          refine wp_region_z (fun wx => wx.cell? ⟨g.p, 0, none⟩ = some (.slice (some ⟨bl, off, none⟩) x.n cl) ∧ wx.cell? ⟨bl, off + r * 1, none⟩ = some (.pointer (some ⟨g.ps r, 0, none⟩)) ∧ wx.heap[B]? = some (.cells (enA e torn pick (.slice xk e.cmd.keys.length ck)) TEn (0, 0)) ∧ wx.heap[B + 1]? = some (.cells #[.int .i64 0, .int .i64 0, .slice none 0 0, .slice none 0 0] TTd (0, 0))) 16 (by kernel_rfl) ?_
          refine zE 0 rfl (by kernel_rfl) (fun _ _ _ _ h => h) rfl (by exact s0) ?_
          apply Exists.intro
          refine ⟨fun wx hS => ?_, ?_⟩
          · go_simp; rfl
          simp only [Act.put, List.setIfInBounds_toArray, List.set_cons_succ, List.set_cons_zero, List.getElem_toArray, List.getElem_cons_zero]
          refine zE 1 rfl (by kernel_rfl) (fun _ _ _ _ h => h) rfl (by exact s0) ?_
          apply Exists.intro
          refine ⟨fun wx hS => ?_, ?_⟩
          · go_simp; rfl
          simp only [Act.put, zz1, zz2, zz3, zz4, zz5, zz6]
          refine zE 2 rfl (by kernel_rfl) (fun _ _ _ _ h => h) rfl (by exact s0) ?_
          apply Exists.intro
          refine ⟨fun wx hS => ?_, ?_⟩
          · go_simp; rfl
          simp only [Act.put, zz1, zz2, zz3, zz4, zz5, zz6]
          refine zE 3 rfl (by kernel_rfl) (fun _ _ _ _ h => h) rfl (by exact s0) ?_
          apply Exists.intro
          refine ⟨fun wx hS => ?_, ?_⟩
          · have c := hS.1; go_simp; rfl
          simp only [Act.put, zz1, zz2, zz3, zz4, zz5, zz6]
          refine zE 4 rfl (by kernel_rfl) (fun _ _ _ _ h => h) rfl (by exact s0) ?_
          apply Exists.intro
          refine ⟨fun wx hS => ?_, ?_⟩
          · go_simp; rfl
          simp only [Act.put, zz1, zz2, zz3, zz4, zz5, zz6]
          refine zE 5 rfl (by kernel_rfl) (fun _ _ _ _ h => h) rfl (by exact s0) ?_
          apply Exists.intro
          refine ⟨fun wx hS => ?_, ?_⟩
          · have c := (en_cells hS.2.2.1).2.1 ; rw [HRE.out] at c; go_simp; rfl
          simp only [Act.put, zz1, zz2, zz3, zz4, zz5, zz6]
          refine zE 6 rfl (by kernel_rfl) (fun _ _ _ _ h => h) rfl (by exact s0) ?_
          apply Exists.intro
          refine ⟨fun wx hS => ?_, ?_⟩
          · go_simp; rfl
          simp only [Act.put, zz1, zz2, zz3, zz4, zz5, zz6]
          refine zE 7 rfl (by kernel_rfl) (fun _ _ _ _ h => h) rfl (by exact s0) ?_
          apply Exists.intro
          refine ⟨fun wx hS => ?_, ?_⟩
          · have c := hS.2.1 ; have c' : wx.cell? ⟨bl, off + r, none⟩ = some (.pointer (some ⟨g.ps r, 0, none⟩)) := (by rw [Nat.mul_one] at c ; exact c); go_simp; rfl
          simp only [Act.put, zz1, zz2, zz3, zz4, zz5, zz6]
          refine zE 8 rfl (by kernel_rfl) (fun _ _ _ _ h => h) rfl (by exact s0) ?_
          apply Exists.intro
          refine ⟨fun wx hS => ?_, ?_⟩
          · go_simp; rfl
          simp only [Act.put, zz1, zz2, zz3, zz4, zz5, zz6]
          refine zE 9 rfl (by kernel_rfl) (fun _ _ _ _ h => h) rfl (by exact s0) ?_
          apply Exists.intro
          refine ⟨fun wx hS => ?_, ?_⟩
          · have c := (en_cells hS.2.2.1).2.2.1; go_simp; rfl
          simp only [Act.put, zz1, zz2, zz3, zz4, zz5, zz6]
          refine wpAnyZ_two 10 14 (by kernel_rfl) rfl rfl rfl rfl (fun K hK => ?_) (fun K hK => ?_)
          · try simp only [List.getElem_toArray, List.getElem_cons_succ, List.getElem_cons_zero]
            go_simp
            have hak := ask_step (k := e.k) (w2.drewN 1) ⟨HI2.out.at'.upd_nil v0, HI2.out.env.upd_nil v0, HI2.out.ok⟩ hL
            rw [HAR.out] at hak
            refine hak.mono ?_
            rintro y w3 ⟨v, rfl, T3, M3, G3, sv, av, dv, rfl, hX3, hE3, hs3, ha3, hd3⟩
            obtain ⟨hR3, hEE3⟩ := (R2.out.at'.upd_nil v0).turn HRN.out hX3 hE3
            have R3 := hide hR3; have E3 := hide ((E2.out.on v0 (by simp)).trans hEE3); have S3 := hide hs3; have AN3 := hide ha3; have DN3 := hide hd3
            have s3 : w3.cell? ⟨g.p, 0, none⟩ = some (.slice (some ⟨bl, off, none⟩) x.n cl) ∧ w3.cell? ⟨bl, off + r * 1, none⟩ = some (.pointer (some ⟨g.ps r, 0, none⟩)) ∧ w3.heap[B]? = some (.cells (enA e torn pick (.slice xk e.cmd.keys.length ck)) TEn (0, 0)) ∧ w3.heap[B + 1]? = some (.cells #[.int .i64 0, .int .i64 0, .slice none 0 0, .slice none 0 0] TTd (0, 0)) := by
              obtain ⟨c1, c2⟩ := hlvp.out _ _ _ _ hR3 rfl rfl rfl rfl
              exact ⟨c1, c2, hE3.get (v0.get B0.out (by simp)) nB.out.1, hE3.get (v0.get B1.out (by simp)) nB.out.2⟩
            have N3 : Hid (¬ (g.turn r M3).M x.n (B + 1) ∧ ¬ T3 (B + 1)) := hide (hEE3.not (blk_lt (v0.get B1.out (by simp))) (NN.out (B + 1) (by have := HBN.out; omega)))
            clear hX3 hE3 hs3 ha3 hd3 hR3 hEE3 s0 v0 hak
            refine hK _ _ (.inr s3) ?_
            clear hK K
            try simp only [Act.put, zz1, zz2, zz3]
            refine zE 11 rfl (by kernel_rfl) (fun _ _ _ _ h => h) rfl (by exact s3) ?_
            apply Exists.intro
            refine ⟨fun wx hS => ?_, ?_⟩
            · go_simp; rfl
            simp only [Act.put, zz1, zz2, zz3, zz4, zz5, zz6]
            refine zE 12 rfl (by kernel_rfl) (fun _ _ _ _ h => h) rfl (by exact s3) ?_
            apply Exists.intro
            refine ⟨fun wx hS => ?_, ?_⟩
            · go_simp; rfl
            simp only [Act.put, zz1, zz2, zz3, zz4, zz5, zz6]
            refine zE 13 rfl (by kernel_rfl) (fun _ _ _ _ h => h) rfl (by exact s3) ?_
            apply Exists.intro
            refine ⟨fun wx hS => ?_, ?_⟩
            · go_simp; rfl
            simp only [Act.put, zz1, zz2, zz3, zz4, zz5, zz6]
            refine wpAnyZ_one 14 (by kernel_rfl) rfl rfl (fun K hK => ?_)
            try simp only [List.getElem_toArray, List.getElem_cons_succ, List.getElem_cons_zero]
            go_simp
            have hN := blk_new w3 (.cells #[.slice none 0 0, .slice none 0 0, .slice none 0 0] TOu)
            have hal := (Upd.refl [] w3).alloc (.cells #[.slice none 0 0, .slice none 0 0, .slice none 0 0] TOu)
            have NQ := hide (R3.out.apt.new (k := w3.heap.size) (Nat.le_refl _))
            have hBl := blk_lt s3.2.2.2
            have hBl0 := blk_lt s3.2.2.1
            obtain ⟨w4, hw4⟩ : ∃ w4, w3.alloc (.cells #[.slice none 0 0, .slice none 0 0, .slice none 0 0] TOu) = w4 := ⟨_, rfl⟩
            rw [hw4] at hN hal ⊢
            have R4 := hide (R3.out.upd_nil hal); have E4 := hide (E3.out.on hal (by simp)); have S4 := hide (seK.row_upd S3.out hal (by simp)); have AN4 := hide (anK.row_upd AN3.out hal (by simp)); have DN4 := hide (Tr.cmK.row_upd DN3.out hal (by simp))
            have HSZ := hide (show w.heap.size ≤ w3.heap.size from E3.out.size)
            obtain ⟨Q, hQ⟩ : ∃ Q, w3.heap.size = Q := ⟨_, rfl⟩
            rw [hQ] at hN NQ hBl hBl0 HSZ ⊢
            have s4 : w4.cell? ⟨g.p, 0, none⟩ = some (.slice (some ⟨bl, off, none⟩) x.n cl) ∧ w4.cell? ⟨bl, off + r * 1, none⟩ = some (.pointer (some ⟨g.ps r, 0, none⟩)) ∧ w4.heap[B]? = some (.cells (enA e torn pick (.slice xk e.cmd.keys.length ck)) TEn (0, 0)) ∧ w4.heap[B + 1]? = some (.cells #[.int .i64 0, .int .i64 0, .slice none 0 0, .slice none 0 0] TTd (0, 0)) := ⟨cell_upd s3.1 hal (by simp), cell_upd s3.2.1 hal (by simp), hal.get s3.2.2.1 (by simp), hal.get s3.2.2.2 (by simp)⟩
            clear hw4 hal hQ R3 E3 S3 AN3 DN3 s3
            refine hK _ _ (.inr s4) ?_
            clear hK K
            try simp only [Act.put, zz1, zz2, zz3]
            have q0 : w4.cell? ⟨Q, 0, none⟩ = some (.slice none 0 0) := blk_cell hN rfl
            have q1 : w4.cell? ⟨Q, 1, none⟩ = some (.slice none 0 0) := blk_cell hN rfl
            have q2 : w4.cell? ⟨Q, 2, none⟩ = some (.slice none 0 0) := blk_cell hN rfl
            have qf : ∀ i, w4.frozen? ⟨Q, i, none⟩ = false := fun i => blk_free hN
            obtain ⟨xs1, cs1, rfl⟩ := row_slice S4.out
            obtain ⟨xa, ca, rfl⟩ := row_slice AN4.out
            obtain ⟨xd, cd, rfl⟩ := row_slice DN4.out
            refine wpAnyZ_one 15 (by kernel_rfl) rfl rfl (fun K hK => ?_)
            try simp only [List.getElem_toArray, List.getElem_cons_succ, List.getElem_cons_zero]
            go_simp
            clear q0 q1 q2 qf
            have us := upd3 w4 Q (.slice xs1 ar.1.2.send.length cs1) (.slice xa ar.1.2.ans.length ca) (.slice xd ar.1.2.done.length cd)
            have hq5 := set3 hN (y0 := .slice xs1 ar.1.2.send.length cs1) (y1 := .slice xa ar.1.2.ans.length ca) (y2 := .slice xd ar.1.2.done.length cd)
            generalize ((w4.setCell ⟨Q, 0, none⟩ (.slice xs1 ar.1.2.send.length cs1)).setCell ⟨Q, 1, none⟩ (.slice xa ar.1.2.ans.length ca)).setCell ⟨Q, 2, none⟩ (.slice xd ar.1.2.done.length cd) = w5 at *
            have nTQ : ∀ k ∈ [Q], ¬ T3 k := fun k hk => by simp at hk; subst hk; exact NQ.out.2
            have hR5 := R4.out.foreign NQ.out us
            have R5 := hide hR5; have E5 := hide (E4.out.on us fun k hk => by simp at hk; subst hk; exact .inr HSZ.out); have S5 := hide (seK.row_upd S4.out us nTQ); have AN5 := hide (anK.row_upd AN4.out us nTQ); have DN5 := hide (Tr.cmK.row_upd DN4.out us nTQ)
            have s5 : w5.cell? ⟨g.p, 0, none⟩ = some (.slice (some ⟨bl, off, none⟩) x.n cl) ∧ w5.cell? ⟨bl, off + r * 1, none⟩ = some (.pointer (some ⟨g.ps r, 0, none⟩)) ∧ w5.heap[B]? = some (.cells (enA e torn pick (.slice xk e.cmd.keys.length ck)) TEn (0, 0)) ∧ w5.heap[B + 1]? = some (.cells #[.int .i64 0, .int .i64 0, .slice none 0 0, .slice none 0 0] TTd (0, 0)) := by
              obtain ⟨c1, c2⟩ := hlvp.out _ _ _ _ hR5 rfl rfl rfl rfl
              exact ⟨c1, c2, us.get s4.2.2.1 (by simp; omega), us.get s4.2.2.2 (by simp; omega)⟩
            have HQ5 := hide hq5
            clear us hq5 hR5 nTQ s4 R4 E4 S4 AN4 DN4
            refine hK _ _ (.inr s5) ?_
            clear hK K
            try simp only [Act.put, zz1, zz2, zz3]
            refine wpAnyZ_one 16 (by kernel_rfl) rfl rfl (fun K hK => ?_)
            try simp only [List.getElem_toArray, List.getElem_cons_succ, List.getElem_cons_zero]
            go_simp
            refine hK _ _ (.inl rfl) ?_
            clear hK K
            try simp only [Act.put, zz1, zz2, zz3]
            refine wpAnyZ_done (by kernel_rfl) ?_ _
            go_wp2_with fail
            go_meet
            exact ⟨Q, T3, M3, _, _, _, rfl, rfl, HQ5.out, R5.out, E5.out, S5.out, AN5.out, DN5.out, s5.2.2.1, s5.2.2.2, N3.out⟩
          · try simp only [List.getElem_toArray, List.getElem_cons_succ, List.getElem_cons_zero]
            go_simp
            have hN := blk_new (w2.drewN 1) (.cells #[.slice none 0 0, .slice none 0 0, .slice none 0 0] TOu)
            have hal := v0.alloc (.cells #[.slice none 0 0, .slice none 0 0, .slice none 0 0] TOu)
            have NQ0 := hide (R2.out.at'.apt.new (k := (w2.drewN 1).heap.size) (Nat.le_refl _))
            have hBl := blk_lt s0.2.2.2
            have hBl0 := blk_lt s0.2.2.1
            obtain ⟨w3, hw3⟩ : ∃ w3, (w2.drewN 1).alloc (.cells #[.slice none 0 0, .slice none 0 0, .slice none 0 0] TOu) = w3 := ⟨_, rfl⟩
            rw [hw3] at hN hal ⊢
            have HSZ := hide (show w.heap.size ≤ (w2.drewN 1).heap.size from E2.out.size)
            obtain ⟨Q, hQ⟩ : ∃ Q, (w2.drewN 1).heap.size = Q := ⟨_, rfl⟩
            have hQ' : w2.heap.size = Q := hQ
            rw [hQ] at hN NQ0 hBl hBl0 HSZ
            rw [hQ']
            have NS : Hid (¬ g.Ms r Q) := hide fun hm => NQ0.out.1 (.inr ⟨r, HRN.out, hm⟩)
            have s3 : w3.cell? ⟨g.p, 0, none⟩ = some (.slice (some ⟨bl, off, none⟩) x.n cl) ∧ w3.cell? ⟨bl, off + r * 1, none⟩ = some (.pointer (some ⟨g.ps r, 0, none⟩)) ∧ w3.heap[B]? = some (.cells (enA e torn pick (.slice xk e.cmd.keys.length ck)) TEn (0, 0)) ∧ w3.heap[B + 1]? = some (.cells #[.int .i64 0, .int .i64 0, .slice none 0 0, .slice none 0 0] TTd (0, 0)) := by
              obtain ⟨c1, c2⟩ := hlvp.out _ _ _ _ (R2.out.at'.upd_nil hal) rfl rfl rfl rfl
              exact ⟨c1, c2, hal.get B0.out (by simp), hal.get B1.out (by simp)⟩
            have HAL := hide hal; have HN := hide hN
            clear hw3 hal hQ hQ' s0 v0 hN
            refine hK _ _ (.inr s3) ?_
            clear hK K
            try simp only [Act.put, zz1, zz2, zz3]
            refine wpAnyZ_one 10 (by kernel_rfl) rfl rfl (fun K hK => ?_)
            try simp only [List.getElem_toArray, List.getElem_cons_succ, List.getElem_cons_zero]
            go_simp
            have hak := ask_step (k := e.k) w3 ⟨HI2.out.at'.upd_nil HAL.out, HI2.out.env.upd_nil HAL.out, HI2.out.ok⟩ hL
            rw [HAR.out] at hak
            refine hak.mono ?_
            rintro y w4 ⟨v, rfl, T3, M3, G3, sv, av, dv, rfl, hX3, hE3, hs3, ha3, hd3⟩
            obtain ⟨hR3, hEE3⟩ := (R2.out.at'.upd_nil HAL.out).turn HRN.out hX3 hE3
            have R4 := hide hR3; have E4 := hide ((E2.out.on HAL.out (by simp)).trans hEE3); have S4 := hide hs3; have AN4 := hide ha3; have DN4 := hide hd3
            have hN := hE3.get HN.out NS.out
            have NQ := hide (hEE3.not (blk_lt HN.out) NQ0.out)
            have s4 : w4.cell? ⟨g.p, 0, none⟩ = some (.slice (some ⟨bl, off, none⟩) x.n cl) ∧ w4.cell? ⟨bl, off + r * 1, none⟩ = some (.pointer (some ⟨g.ps r, 0, none⟩)) ∧ w4.heap[B]? = some (.cells (enA e torn pick (.slice xk e.cmd.keys.length ck)) TEn (0, 0)) ∧ w4.heap[B + 1]? = some (.cells #[.int .i64 0, .int .i64 0, .slice none 0 0, .slice none 0 0] TTd (0, 0)) := by
              obtain ⟨c1, c2⟩ := hlvp.out _ _ _ _ hR3 rfl rfl rfl rfl
              exact ⟨c1, c2, hE3.get s3.2.2.1 nB.out.1, hE3.get s3.2.2.2 nB.out.2⟩
            have N3 : Hid (¬ (g.turn r M3).M x.n (B + 1) ∧ ¬ T3 (B + 1)) := hide (hEE3.not (blk_lt s3.2.2.2) (NN.out (B + 1) (by have := HBN.out; omega)))
            clear hX3 hE3 hs3 ha3 hd3 hR3 hEE3 s3 hak
            refine hK _ _ (.inr s4) ?_
            clear hK K
            try simp only [Act.put, zz1, zz2, zz3]
            refine zE 11 rfl (by kernel_rfl) (fun _ _ _ _ h => h) rfl (by exact s4) ?_
            apply Exists.intro
            refine ⟨fun wx hS => ?_, ?_⟩
            · go_simp; rfl
            simp only [Act.put, zz1, zz2, zz3, zz4, zz5, zz6]
            refine zE 12 rfl (by kernel_rfl) (fun _ _ _ _ h => h) rfl (by exact s4) ?_
            apply Exists.intro
            refine ⟨fun wx hS => ?_, ?_⟩
            · go_simp; rfl
            simp only [Act.put, zz1, zz2, zz3, zz4, zz5, zz6]
            refine zE 13 rfl (by kernel_rfl) (fun _ _ _ _ h => h) rfl (by exact s4) ?_
            apply Exists.intro
            refine ⟨fun wx hS => ?_, ?_⟩
            · go_simp; rfl
            simp only [Act.put, zz1, zz2, zz3, zz4, zz5, zz6]
            have q0 : w4.cell? ⟨Q, 0, none⟩ = some (.slice none 0 0) := blk_cell hN rfl
            have q1 : w4.cell? ⟨Q, 1, none⟩ = some (.slice none 0 0) := blk_cell hN rfl
            have q2 : w4.cell? ⟨Q, 2, none⟩ = some (.slice none 0 0) := blk_cell hN rfl
            have qf : ∀ i, w4.frozen? ⟨Q, i, none⟩ = false := fun i => blk_free hN
            obtain ⟨xs1, cs1, rfl⟩ := row_slice S4.out
            obtain ⟨xa, ca, rfl⟩ := row_slice AN4.out
            obtain ⟨xd, cd, rfl⟩ := row_slice DN4.out
            refine wpAnyZ_one 15 (by kernel_rfl) rfl rfl (fun K hK => ?_)
            try simp only [List.getElem_toArray, List.getElem_cons_succ, List.getElem_cons_zero]
            go_simp
            clear q0 q1 q2 qf
            have us := upd3 w4 Q (.slice xs1 ar.1.2.send.length cs1) (.slice xa ar.1.2.ans.length ca) (.slice xd ar.1.2.done.length cd)
            have hq5 := set3 hN (y0 := .slice xs1 ar.1.2.send.length cs1) (y1 := .slice xa ar.1.2.ans.length ca) (y2 := .slice xd ar.1.2.done.length cd)
            generalize ((w4.setCell ⟨Q, 0, none⟩ (.slice xs1 ar.1.2.send.length cs1)).setCell ⟨Q, 1, none⟩ (.slice xa ar.1.2.ans.length ca)).setCell ⟨Q, 2, none⟩ (.slice xd ar.1.2.done.length cd) = w5 at *
            have nTQ : ∀ k ∈ [Q], ¬ T3 k := fun k hk => by simp at hk; subst hk; exact NQ.out.2
            have hR5 := R4.out.foreign NQ.out us
            have R5 := hide hR5; have E5 := hide (E4.out.on us fun k hk => by simp at hk; subst hk; exact .inr HSZ.out); have S5 := hide (seK.row_upd S4.out us nTQ); have AN5 := hide (anK.row_upd AN4.out us nTQ); have DN5 := hide (Tr.cmK.row_upd DN4.out us nTQ)
            have s5 : w5.cell? ⟨g.p, 0, none⟩ = some (.slice (some ⟨bl, off, none⟩) x.n cl) ∧ w5.cell? ⟨bl, off + r * 1, none⟩ = some (.pointer (some ⟨g.ps r, 0, none⟩)) ∧ w5.heap[B]? = some (.cells (enA e torn pick (.slice xk e.cmd.keys.length ck)) TEn (0, 0)) ∧ w5.heap[B + 1]? = some (.cells #[.int .i64 0, .int .i64 0, .slice none 0 0, .slice none 0 0] TTd (0, 0)) := by
              obtain ⟨c1, c2⟩ := hlvp.out _ _ _ _ hR5 rfl rfl rfl rfl
              exact ⟨c1, c2, us.get s4.2.2.1 (by simp; omega), us.get s4.2.2.2 (by simp; omega)⟩
            have HQ5 := hide hq5
            clear us hq5 hR5 nTQ s4 R4 E4 S4 AN4 DN4
            refine hK _ _ (.inr s5) ?_
            clear hK K
            try simp only [Act.put, zz1, zz2, zz3]
            refine wpAnyZ_one 16 (by kernel_rfl) rfl rfl (fun K hK => ?_)
            try simp only [List.getElem_toArray, List.getElem_cons_succ, List.getElem_cons_zero]
            go_simp
            refine hK _ _ (.inl rfl) ?_
            clear hK K
            try simp only [Act.put, zz1, zz2, zz3]
            refine wpAnyZ_done (by kernel_rfl) ?_ _
            go_wp2_with fail
            go_meet
            exact ⟨Q, T3, M3, _, _, _, rfl, rfl, HQ5.out, R5.out, E5.out, S5.out, AN5.out, DN5.out, s5.2.2.1, s5.2.2.2, N3.out⟩
        case rest =>
        rename World => w3
        obtain ⟨Q, T3, M3, sv, av, dv, rfl, rfl, hQ, hR, hE, hs3, ha3, hd3, hb0, hb1, hN⟩ := hcut
        obtain ⟨xs1, cs1, rfl⟩ := row_slice hs3
        obtain ⟨xa, ca, rfl⟩ := row_slice ha3
        obtain ⟨xd, cd, rfl⟩ := row_slice hd3
        have R3 := hide hR; have E3 := hide hE; have S3 := hide hs3; have AN3 := hide ha3; have DN3 := hide hd3; have B13 := hide hb1; have N3 := hide hN
        have q0 : w3.cell? ⟨Q, 0, none⟩ = some (.slice xs1 ar.1.2.send.length cs1) := blk_cell hQ rfl
        have q1 : w3.cell? ⟨Q, 1, none⟩ = some (.slice xa ar.1.2.ans.length ca) := blk_cell hQ rfl
        have q2 : w3.cell? ⟨Q, 2, none⟩ = some (.slice xd ar.1.2.done.length cd) := blk_cell hQ rfl
        have ecr : w3.cell? ⟨B, 1, none⟩ = some (.int .i64 (r : Int)) := by rw [← HRE.out]; exact (en_cells hb0).2.1
        clear hQ hR hE hs3 ha3 hd3 hb0 hb1 hN R2 E2 B0 B1 K2 PC2 HI2
        go_wp2_with fail
        refine (tells_any (g := g.turn r M3) (x := ⟨x.n, up x.xs r ar.1.1, x.row⟩) (s := ar.1) (r := (r : Int)) (e0 := ((ar.2 : Nat) : Int)) w3 R3.out S3.out AN3.out DN3.out HH.out.len).mono ?_
        rintro y w4 ⟨rfl, rv4, hR4, hE4⟩
        have R4 := hide hR4; have E4 := hide (E3.out.trans hE4); have AN4 := hide (hE4.row R3.out.apt.apart AN3.out); have DN4 := hide (hE4.row (K := Tr.cmK) R3.out.apt.apart DN3.out)
        have hb1 := hE4.get B13.out N3.out.1
        have N4 := hide (hE4.not (blk_lt B13.out) N3.out)
        obtain ⟨t0, t1, t2, t3, tf⟩ := td_cells hb1
        have B14 := hide hb1
        clear hR4 hE4 hb1 R3 E3 S3 AN3 DN3 B13 N3 q0 q1 q2 ecr
        go_wp2_with fail
        have us := upd4 w4 (B + 1) (.int .i64 (r : Int)) (.int .i64 ((ar.2 : Nat) : Int)) (.slice xa ar.1.2.ans.length ca) (.slice xd ar.1.2.done.length cd)
        have nT4 : ∀ k ∈ [B + 1], ¬ T3 k := fun k hk => by simp at hk; subst hk; exact N4.out.2
        exact ret_td (set4 B14.out) rfl rfl rfl ⟨_, rfl, T3, { g.turn r M3 with rv := rv4 }, _, _, rfl, rfl, R4.out.foreign N4.out us, E4.out.on us fun k hk => by simp at hk; subst hk; exact .inr (by have := HBN.out; omega), anK.row_upd AN4.out us nT4, Tr.cmK.row_upd DN4.out us nT4⟩
end Go.Proofs.YtanjnhohfcgapaaGreatDoor.Sg
