/- refcluster.letter. -/
import Derived.Test.YtanjnhohfcgapaaGreatDoorRcW
import Derived.Test.YtanjnhohfcgapaaGreatDoorShBC
set_option linter.unusedSimpArgs false
set_option linter.unusedVariables false
set_option linter.unnecessarySimpa false
namespace Go.Proofs.YtanjnhohfcgapaaGreatDoor.Sg
open Go.RowKit Go.Proofs.YtanjnhohfcgapaaGreatDoor.Crc Go.Proofs.YtanjnhohfcgapaaGreatDoor.Cm Go.Proofs.YtanjnhohfcgapaaGreatDoor.Tr Go.Proofs.YtanjnhohfcgapaaGreatDoor.Kv Go.Proofs.YtanjnhohfcgapaaGreatDoor.Au
set_option linter.unusedSimpArgs false
set_option linter.unusedVariables false

theorem run_cutz_hm {P : Program} (t e : TypeId) (z : Nat) (ht : P.underlying t = some (.slice e)) (hz : ∀ w, (sizeOf e).run P w = .ok z w) (xo : Option Addr) (m c h q : Nat) (j k : Int) (hj : j = h) (hk : k = q) (h2 : h ≤ q) (h3 : q ≤ c) (w : World) :
    (Instr.slice t (.slice xo m c) none (some (.int .i64 j)) (some (.int .i64 k))).run P w = .ok (.slice xo h q) w := by
  subst hj; subst hk
  have hel : P.elem t = e := by simp [Program.elem, ht]
  rw [run_slice_hm (P := P) w t xo m c (by rw [hel]; exact ht) .i64 .i64 h q (by omega) (by omega) (by omega), hel, hz]
  simp [Result.andThen, sliced]
  cases xo <;> simp [Addr.add]
theorem run_cutz_l' {P : Program} (t e : TypeId) (z : Nat) (ht : P.underlying t = some (.slice e)) (hz : ∀ w, (sizeOf e).run P w = .ok z w) (xo : Option Addr) (m c l : Nat) (i : Int) (hi : i = l) (h : l ≤ m) (w : World) : (Instr.slice t (.slice xo m c) (some (.int .i64 i)) none none).run P w = .ok (.slice (cutZ z xo l c) (m - l) (c - l)) w := by
  subst hi
  have hel : P.elem t = e := by simp [Program.elem, ht]
  rw [run_slice_l (P := P) w t xo m c (by rw [hel]; exact ht) .i64 l (by omega) (by omega), hel, hz]
  simp [Result.andThen, sliced, cutZ]
theorem sizeLt (w : World) : (sizeOf TLt).run Tryz.prog w = .ok 16 w := by kernel_rfl
/-- A new cell for a letter. -/
abbrev ltZ : Array Value := #[.int .i64 0, .int .i64 0, .int .u8 0, .int .u64 0, .int .u64 0, .int .i64 0, .bool false, .int .u64 0, .int .i64 0, .int .u32 0, .int .u32 0, .int .u8 0, .slice none 0 0, .string ⟨#[]⟩, .string ⟨#[]⟩, .int .i64 0]
theorem storeL {w : World} {b : Nat} (h : w.heap[b]? = some (.cells ltZ TLt (0, 0))) (l : Lt) (ks : Value) :
    ∃ W, ((((((((((((((((w.setCell ⟨b, 0, none⟩ (.int .i64 l.1)).setCell ⟨b, 1, none⟩ (.int .i64 l.2.1)).setCell ⟨b, 2, none⟩ (.int .u8 (l.2.2.kind : Int))).setCell ⟨b, 3, none⟩ (.int .u64 (l.2.2.slot : Int))).setCell ⟨b, 4, none⟩ (.int .u64 (l.2.2.b.n : Int))).setCell ⟨b, 5, none⟩ (.int .i64 l.2.2.b.r)).setCell ⟨b, 6, none⟩ (.bool l.2.2.has)).setCell ⟨b, 7, none⟩ (.int .u64 (l.2.2.vote.n : Int))).setCell ⟨b, 8, none⟩ (.int .i64 l.2.2.vote.r)).setCell ⟨b, 9, none⟩ (.int .u32 (l.2.2.cmd.client : Int))).setCell ⟨b, 10, none⟩ (.int .u32 (l.2.2.cmd.seq : Int))).setCell ⟨b, 11, none⟩ (.int .u8 (l.2.2.cmd.kind : Int))).setCell ⟨b, 12, none⟩ ks).setCell ⟨b, 13, none⟩ (.string (strOf l.2.2.cmd.old))).setCell ⟨b, 14, none⟩ (.string (strOf l.2.2.cmd.new))).setCell ⟨b, 15, none⟩ (.int .i64 l.2.2.cmd.n)) = W ∧ W.heap[b]? = some (.cells (ltA l ks) TLt (0, 0)) ∧ ∀ S q, Upd S q w → (b ∈ S ∨ q.heap.size ≤ b) → Upd S q W := by
  obtain ⟨h1, h2⟩ := stores (o := 0) (ltc l ks) h
  refine ⟨_, rfl, ?_, h2⟩
  have e : stepA ltZ 0 (ltc l ks) = ltA l ks := by
    simp only [stepA, ltZ, ltc, sec, strV, ltA, List.setIfInBounds_toArray, List.set_cons_succ, List.set_cons_zero, Nat.zero_add, Nat.reduceAdd]
  rw [e] at h1
  exact h1
theorem OwnX.row {X : Type} {w : World} {ty : TypeId} {z : Nat} {P : X → List Value → Prop} {v : Value} {l : List X} (h : OwnX w ty z P v l) : Row w (fun k => v.ownBlock = some k) z P v l := by
  obtain ⟨css, h1, h2, h3⟩ := h
  obtain ⟨ao, cap, rfl, h4, h5, h6⟩ := h3.slice
  refine ⟨ao, cap, css, rfl, h1, fun cs h => (h2 cs h).1, h3.src (fun u hu => ?_), h4, h5, fun a ha hm => ?_⟩
  · obtain ⟨cs, hc, hu'⟩ := List.mem_flatten.1 hu
    exact (h2 cs hc).2 u hu'
  · subst ha; rfl
theorem Ri.ext {w w' : World} {T T' : Nat → Prop} {g g' : Rg} {L : Nat} {x : Rc} {row : List Lt} (h : Ri w T g L x) (hR : RcAt w' T' g' ⟨x.n, x.xs, row⟩) (hE : Ext w T (g.M x.n) w' T' (g'.M x.n)) (hl : row.length ≤ 256) : Ri w' T' g' L ⟨x.n, x.xs, row⟩ := ⟨hR, hE.envM h.env, h.ok, h.n, hl⟩
theorem RcAt.letter {w : World} {T : Nat → Prop} {g : Rg} {x : Rc} {k : Nat} {l : Lt} (h : RcAt w T g x) (hk : x.row[k]? = some l) : ∃ bl off cap ks, g.rv = .slice (some ⟨bl, off, none⟩) x.row.length cap ∧ x.row.length ≤ cap ∧ cap ≤ maxLen ∧ l.2.2.Ok ∧ Ky w T ks l.2.2.cmd ∧ ∀ j u, (ltc l ks)[j]? = some u → w.cell? ⟨bl, off + k * 16 + j, none⟩ = some u := by
  obtain ⟨xo, c, e, h1, h2, hg⟩ := Row.get ltK.hz (OwnX.row h.row)
  obtain ⟨b, off, cs, rfl, hb, hT, ⟨h3, ks, rfl, h4⟩, -, hc⟩ := hg k l hk
  exact ⟨b, off, c, ks, e, h1, h2, h3, h4, hc⟩
theorem lc_cells {w : World} {b o : Nat} {l : Lt} {ks : Value} (h : ∀ j u, (ltc l ks)[j]? = some u → w.cell? ⟨b, o + j, none⟩ = some u) :
    w.cell? ⟨b, o, none⟩ = some (.int .i64 l.1) ∧ w.cell? ⟨b, o + 1, none⟩ = some (.int .i64 l.2.1) ∧ w.cell? ⟨b, o + 2, none⟩ = some (.int .u8 (l.2.2.kind : Int)) ∧ w.cell? ⟨b, o + 3, none⟩ = some (.int .u64 (l.2.2.slot : Int)) ∧ w.cell? ⟨b, o + 4, none⟩ = some (.int .u64 (l.2.2.b.n : Int)) ∧ w.cell? ⟨b, o + 5, none⟩ = some (.int .i64 l.2.2.b.r) ∧ w.cell? ⟨b, o + 6, none⟩ = some (.bool l.2.2.has) ∧ w.cell? ⟨b, o + 7, none⟩ = some (.int .u64 (l.2.2.vote.n : Int)) ∧ w.cell? ⟨b, o + 8, none⟩ = some (.int .i64 l.2.2.vote.r) ∧
    w.cell? ⟨b, o + 9, none⟩ = some (.int .u32 (l.2.2.cmd.client : Int)) ∧ w.cell? ⟨b, o + 10, none⟩ = some (.int .u32 (l.2.2.cmd.seq : Int)) ∧ w.cell? ⟨b, o + 11, none⟩ = some (.int .u8 (l.2.2.cmd.kind : Int)) ∧ w.cell? ⟨b, o + 12, none⟩ = some ks ∧ w.cell? ⟨b, o + 13, none⟩ = some (.string (strOf l.2.2.cmd.old)) ∧ w.cell? ⟨b, o + 14, none⟩ = some (.string (strOf l.2.2.cmd.new)) ∧ w.cell? ⟨b, o + 15, none⟩ = some (.int .i64 l.2.2.cmd.n) :=
  ⟨h 0 _ rfl, h 1 _ rfl, h 2 _ rfl, h 3 _ rfl, h 4 _ rfl, h 5 _ rfl, h 6 _ rfl, h 7 _ rfl, h 8 _ rfl, h 9 _ rfl, h 10 _ rfl, h 11 _ rfl, h 12 _ rfl, h 13 _ rfl, h 14 _ rfl, h 15 _ rfl⟩
theorem RTold.no {w w5 w6 : World} {T T' : Nat → Prop} {g g' : Rg} {n B : Nat} {x' : Rc} (R : RcAt w5 T' g' x') (hp : g'.p = g.p) (hn : x'.n = n) (hE : Ext w T (g.M n) w5 T' (g'.M n)) (hN : ¬ g'.M n B ∧ ¬ T' B) (hB : w.heap.size ≤ B) (us : Upd [B] w5 w6) (e : Int) :
    RTold w T g n (x', noT e) (.agg #[.int .i64 (-1), .int .i64 e, .slice none 0 0, .slice none 0 0]) w6 := by
  subst hn
  exact ⟨T', g', _, _, rfl, hp, R.foreign hN us, hE.on us fun k hk => by simp at hk; subst hk; exact .inr hB, Kind.row_nil _ _ _, Kind.row_nil _ _ _⟩
set_option maxRecDepth 100000 in
set_option maxHeartbeats 8000000 in
theorem letter_any {T : Nat → Prop} {g : Rg} {L : Nat} {x : Rc} {e : En} {torn pick : Int} {ks : Value} (w : World) (h : Ri w T g L x) (hL : L ≤ 10000) (hrow : ∀ l ∈ x.row, 0 ≤ l.2.1 ∧ l.2.1 < x.n) (hk : Ky w T ks e.cmd) (hkd : e.kind = 4 ∨ e.kind = 5 ∨ e.kind = 6 ∨ e.kind = 7) :
    Calls Tryz.prog 87 #[.pointer (some ⟨g.p, 0, none⟩), .agg (enA e torn pick ks)] w fun y w' => ∃ v, y = .returned v ∧ RTold w T g x.n (letterM x e) v w' := by
  obtain ⟨q, hq⟩ : ∃ q, letterM x e = q := ⟨_, rfl⟩
  rw [hq]
  have HQ := hide hq; have HKD := hide hkd; have HRW := hide hrow; have hsm := True.intro
  clear hq hkd hrow
  obtain ⟨xk, ck, rfl⟩ := hk.slice
  have HH := hide h; have K0 := hide hk; have SM := hide hsm
  have hpl := blk_lt h.at'.blk
  clear h hk hsm
  unfold enA
  go_enter Tryz.func87, Tryz.ntmps87
  go_upto_region 1 with fail
  have h0 := blk_alloc (blk_new w (.cells (enA e torn pick (.slice xk e.cmd.keys.length ck)) TEn)) (.cells #[.int .i64 0, .int .i64 0, .slice none 0 0, .slice none 0 0] TTd)
  have h1 := blk_new (w.alloc (.cells (enA e torn pick (.slice xk e.cmd.keys.length ck)) TEn)) (.cells #[.int .i64 0, .int .i64 0, .slice none 0 0, .slice none 0 0] TTd)
  have hal := ((Upd.refl [] w).alloc (.cells (enA e torn pick (.slice xk e.cmd.keys.length ck)) TEn)).alloc (.cells #[.int .i64 0, .int .i64 0, .slice none 0 0, .slice none 0 0] TTd)
  simp only [World.size_alloc] at h1
  change Code.wp _ _ _ _ ((w.alloc (.cells (enA e torn pick (.slice xk e.cmd.keys.length ck)) TEn)).alloc (.cells #[.int .i64 0, .int .i64 0, .slice none 0 0, .slice none 0 0] TTd))
  generalize (w.alloc (.cells (enA e torn pick (.slice xk e.cmd.keys.length ck)) TEn)).alloc (.cells #[.int .i64 0, .int .i64 0, .slice none 0 0, .slice none 0 0] TTd) = w1 at *
  have nn : ∀ j, w.heap.size ≤ j → ¬ (g.M x.n) j ∧ ¬ T j := fun j hj => HH.out.at'.apt.new hj
  obtain ⟨B, hBn⟩ : ∃ B, w.heap.size = B := ⟨_, rfl⟩
  have HBN := hide hBn
  have NN := hide nn
  rw [hBn] at h0 h1 hpl ⊢
  have R1 := hide (HH.out.upd_nil hal); have E1 := hide (Ext.of_nil hal T (g.M x.n)); have A0 := hide h0; have A1 := hide h1; have K1 := hide (K0.out.upd hal (by simp))
  clear h0 h1 hal hBn nn K0
  obtain ⟨css, ao, cap, hv, he, hb, hown, hc1, hc2⟩ := R1.out.at'.row_open
  have HV := hide hv; have HLEN := HH.out.len
  have pc : ∀ n, (w1.drewN n).cell? ⟨g.p, 1, none⟩ = some (.slice ao x.row.length cap) := fun n => by rw [← hv]; exact blk_cell (w := w1.drewN n) R1.out.at'.blk rfl
  have ec : ∀ n, (w1.drewN n).cell? ⟨B, 2, none⟩ = some (.int .i64 e.k) := fun n => (en_cells (w := w1.drewN n) A0.out).2.2.1
  simp only [maxLen] at hc2
  clear hv he hb hown
  by_cases hr0 : e.k < 0
  · have d1 : decide (e.k < 0) = true := by simpa using hr0
    have eQ : q = (x, noT 1) := by rw [← HQ.out]; unfold letterM; rw [if_pos hr0]
    subst eQ
    clear hr0
    go_quiet (fail)
    obtain ⟨t0, t1, t2, t3, tf⟩ := td_cells (w := w1.drewN nq) A1.out
    go_wp2_with fail
    have us := upd4 (w1.drewN nq) (B + 1) (.int .i64 (-1)) (.int .i64 1) (.slice none 0 0) (.slice none 0 0)
    have NB := NN.out (B + 1) (by have := HBN.out; omega)
    exact ret_td (set4 (w := w1.drewN nq) A1.out) rfl rfl rfl ⟨_, rfl, RTold.nothing ((R1.out.at'.upd_nil ((Upd.refl [] w1).drewN nq)).foreign NB us) ((E1.out.drewN nq).on us fun k hk => by simp at hk; subst hk; exact .inr (by have := HBN.out; omega)) 1⟩
  · have d1 : decide (e.k < 0) = false := by simp; omega
    by_cases hr1 : (x.row.length : Int) ≤ e.k
    · have d2 : decide ((x.row.length : Int) ≤ e.k) = true := by simpa using hr1
      have eQ : q = (x, noT 1) := by rw [← HQ.out]; unfold letterM; rw [if_neg hr0, List.getElem?_eq_none (by omega)]
      subst eQ
      clear hr0 hr1
      go_quiet (fail)
      obtain ⟨t0, t1, t2, t3, tf⟩ := td_cells (w := w1.drewN nq) A1.out
      go_wp2_with fail
      have us := upd4 (w1.drewN nq) (B + 1) (.int .i64 (-1)) (.int .i64 1) (.slice none 0 0) (.slice none 0 0)
      have NB := NN.out (B + 1) (by have := HBN.out; omega)
      exact ret_td (set4 (w := w1.drewN nq) A1.out) rfl rfl rfl ⟨_, rfl, RTold.nothing ((R1.out.at'.upd_nil ((Upd.refl [] w1).drewN nq)).foreign NB us) ((E1.out.drewN nq).on us fun k hk => by simp at hk; subst hk; exact .inr (by have := HBN.out; omega)) 1⟩
    · have d2 : decide ((x.row.length : Int) ≤ e.k) = false := by simp; omega
      obtain ⟨k, hke⟩ : ∃ k : Nat, e.k = k := ⟨e.k.toNat, by omega⟩
      have hkn : k < x.row.length := by omega
      have d2' : decide (x.row.length ≤ k) = false := by simp; omega
      obtain ⟨l, hl⟩ : ∃ l, x.row[k]? = some l := ⟨_, List.getElem?_eq_getElem hkn⟩
      have hqq : q = if e.kind = 6 then if x.row.length = 256 then (x, noT 30) else (⟨x.n, x.xs, x.row ++ [l]⟩, noT 0)
        else if e.kind = 4 then tellsM ⟨x.n, x.xs, x.row.eraseIdx k⟩ l.2.1.toNat (takeS l.1 l.2.2 (x.xs l.2.1.toNat)) 0
        else if e.kind = 7 then (⟨x.n, x.xs, push1 (x.row.eraseIdx k) l⟩, noT 0)
        else (⟨x.n, x.xs, x.row.eraseIdx k⟩, noT 0) := by
        have e5 : (if e.k < 0 then none else x.row[e.k.toNat]?) = some l := by rw [if_neg hr0, hke]; exact hl
        rw [← HQ.out]; unfold letterM; rw [e5, hke]; rfl
      have HQQ := hide hqq; have HKE := hide hke; have HKN := hide hkn; have HL := hide hl
      rw [hke] at ec d1 d2
      clear hr0 hr1 hqq hke hl
      go_quiet (fail)
      go_upto_region 3 with fail
      clear pc ec d1 d2 d2'
      obtain ⟨w2, hw2⟩ : ∃ w2, w1.drewN nq = w2 := ⟨_, rfl⟩
      have u2 : Upd [] w1 w2 := by rw [← hw2]; exact (Upd.refl [] w1).drewN nq
      rw [hw2]
      have R2 := hide (R1.out.upd_nil u2); have E2 := hide (E1.out.on u2 (by simp)); have B0 := hide (u2.get A0.out (by simp)); have B1 := hide (u2.get A1.out (by simp))
      obtain ⟨bl, off, c', kv, hv2, hcc1, hcc2, hlo, hky, hcell⟩ := R2.out.at'.letter HL.out
      obtain ⟨rfl, rfl⟩ : ao = some ⟨bl, off, none⟩ ∧ cap = c' := by have := HV.out.symm.trans hv2; simpa using this
      obtain ⟨xm, cm, rfl⟩ := hky.slice
      have KM := hide hky; have LOK := hide hlo
      have LC : Hid (∀ wx, Upd [] w2 wx → ∀ j u, (ltc l (.slice xm l.2.2.cmd.keys.length cm))[j]? = some u → wx.cell? ⟨bl, off + k * 16 + j, none⟩ = some u) := hide fun wx hu j u hj => cell_upd (hcell j u hj) hu (by simp)
      have PC : Hid (∀ wx, Upd [] w2 wx → wx.cell? ⟨g.p, 1, none⟩ = some (.slice (some ⟨bl, off, none⟩) x.row.length cap)) := hide fun wx hu => by rw [← HV.out]; exact blk_cell (hu.get R2.out.at'.blk (by simp)) rfl
      have EC : Hid (∀ wx, Upd [] w2 wx → wx.cell? ⟨B, 2, none⟩ = some (.int .i64 (k : Int))) := hide fun wx hu => by rw [← HKE.out]; exact (en_cells (hu.get B0.out (by simp))).2.2.1
      clear hw2 u2 R1 E1 A0 A1 K1 hv2 hcc1 hcc2 hlo hky hcell
      have di0 : (0 : Int) ≤ (k : Int) := by omega
      have di1 : (k : Int) < (x.row.length : Int) := by omega
      have di2 : decide (k < x.row.length) = true := by simpa using hkn
      have s0 : Upd [] w2 (w2.drewN 1) := (Upd.refl [] w2).drewN 1
      refine wp_region_z (fun wx => Upd [] w2 wx) 9 (by kernel_rfl) ?_
      refine zE 0 rfl (by kernel_rfl) (fun _ _ _ _ h => h) rfl (by exact s0) ?_
      apply Exists.intro
      refine ⟨fun wx hS => ?_, ?_⟩
      · go_simp; rfl
      simp only [Act.put, List.setIfInBounds_toArray, List.set_cons_succ, List.set_cons_zero, List.getElem_toArray, List.getElem_cons_zero]
      refine zE 1 rfl (by kernel_rfl) (fun _ _ _ _ h => h) rfl (by exact s0) ?_
      apply Exists.intro
      refine ⟨fun wx hS => ?_, ?_⟩
      · go_simp; rfl
      simp only [Act.put, zz1, zz2, zz3, zz4, zz5, zz6]
      refine zE 2 rfl (by kernel_rfl) (fun _ _ _ _ h => h) rfl (by exact s0) ?_
      apply Exists.intro
      refine ⟨fun wx hS => ?_, ?_⟩
      · go_simp; rfl
      simp only [Act.put, zz1, zz2, zz3, zz4, zz5, zz6]
      refine zE 3 rfl (by kernel_rfl) (fun _ _ _ _ h => h) rfl (by exact s0) ?_
      apply Exists.intro
      refine ⟨fun wx hS => ?_, ?_⟩
      · have c := PC.out wx hS; go_simp; rfl
      simp only [Act.put, zz1, zz2, zz3, zz4, zz5, zz6]
      refine zE 4 rfl (by kernel_rfl) (fun _ _ _ _ h => h) rfl (by exact s0) ?_
      apply Exists.intro
      refine ⟨fun wx hS => ?_, ?_⟩
      · go_simp; rfl
      simp only [Act.put, zz1, zz2, zz3, zz4, zz5, zz6]
      refine zE 5 rfl (by kernel_rfl) (fun _ _ _ _ h => h) rfl (by exact s0) ?_
      apply Exists.intro
      refine ⟨fun wx hS => ?_, ?_⟩
      · have c := EC.out wx hS; go_simp; rfl
      simp only [Act.put, zz1, zz2, zz3, zz4, zz5, zz6]
      refine zE 6 rfl (by kernel_rfl) (fun _ _ _ _ h => h) rfl (by exact s0) ?_
      apply Exists.intro
      refine ⟨fun wx hS => ?_, ?_⟩
      · go_simp; rfl
      simp only [Act.put, zz1, zz2, zz3, zz4, zz5, zz6]
      refine zE 7 rfl (by kernel_rfl) (fun _ _ _ _ h => h) rfl (by exact s0) ?_
      apply Exists.intro
      refine ⟨fun wx hS => ?_, ?_⟩
      · obtain ⟨y0, y1, y2, y3, y4, y5, y6, y7, y8, y9, y10, y11, y12, y13, y14, y15⟩ := lc_cells (LC.out wx hS); go_simp; rfl
      simp only [Act.put, zz1, zz2, zz3, zz4, zz5, zz6]
      refine wpAnyZ_one 8 (by kernel_rfl) rfl rfl (fun K hK => ?_)
      try simp only [List.getElem_toArray, List.getElem_cons_succ, List.getElem_cons_zero]
      go_simp
      change K _ ((w2.drewN 1).alloc (.cells ltZ TLt))
      have hN := blk_new (w2.drewN 1) (.cells ltZ TLt)
      have hal := s0.alloc (.cells ltZ TLt)
      obtain ⟨w3, hw3⟩ : ∃ w3, (w2.drewN 1).alloc (.cells ltZ TLt) = w3 := ⟨_, rfl⟩
      rw [hw3] at hN hal ⊢
      obtain ⟨C, hC⟩ : ∃ C, (w2.drewN 1).heap.size = C := ⟨_, rfl⟩
      have hC' : w2.heap.size = C := hC
      rw [hC] at hN
      rw [hC']
      clear hw3 hC s0
      refine hK _ _ (.inr hal) ?_
      clear hK K
      try simp only [Act.put, zz1, zz2, zz3]
      have qf : ∀ i, w3.frozen? ⟨C, i, none⟩ = false := fun i => blk_free hN
      have q0 : w3.cell? ⟨C, 0, none⟩ = some (.int .i64 0) := blk_cell hN rfl
      have q1 : w3.cell? ⟨C, 1, none⟩ = some (.int .i64 0) := blk_cell hN rfl
      have q2 : w3.cell? ⟨C, 2, none⟩ = some (.int .u8 0) := blk_cell hN rfl
      have q3 : w3.cell? ⟨C, 3, none⟩ = some (.int .u64 0) := blk_cell hN rfl
      have q4 : w3.cell? ⟨C, 4, none⟩ = some (.int .u64 0) := blk_cell hN rfl
      have q5 : w3.cell? ⟨C, 5, none⟩ = some (.int .i64 0) := blk_cell hN rfl
      have q6 : w3.cell? ⟨C, 6, none⟩ = some (.bool false) := blk_cell hN rfl
      have q7 : w3.cell? ⟨C, 7, none⟩ = some (.int .u64 0) := blk_cell hN rfl
      have q8 : w3.cell? ⟨C, 8, none⟩ = some (.int .i64 0) := blk_cell hN rfl
      have q9 : w3.cell? ⟨C, 9, none⟩ = some (.int .u32 0) := blk_cell hN rfl
      have q10 : w3.cell? ⟨C, 10, none⟩ = some (.int .u32 0) := blk_cell hN rfl
      have q11 : w3.cell? ⟨C, 11, none⟩ = some (.int .u8 0) := blk_cell hN rfl
      have q12 : w3.cell? ⟨C, 12, none⟩ = some (.slice none 0 0) := blk_cell hN rfl
      have q13 : w3.cell? ⟨C, 13, none⟩ = some (.string ⟨#[]⟩) := blk_cell hN rfl
      have q14 : w3.cell? ⟨C, 14, none⟩ = some (.string ⟨#[]⟩) := blk_cell hN rfl
      have q15 : w3.cell? ⟨C, 15, none⟩ = some (.int .i64 0) := blk_cell hN rfl
      refine wpAnyZ_one 9 (by kernel_rfl) rfl rfl (fun K hK => ?_)
      try simp only [List.getElem_toArray, List.getElem_cons_succ, List.getElem_cons_zero]
      go_simp
      obtain ⟨w4, e4, hb4, hu4⟩ := storeL hN l (.slice xm l.2.2.cmd.keys.length cm)
      rw [e4]
      have us := hu4 [] w2 hal (.inr (by omega))
      have R4 := hide (R2.out.upd_nil us); have E4 := hide (E2.out.on us (by simp)); have B04 := hide (us.get B0.out (by simp)); have B14 := hide (us.get B1.out (by simp)); have K4 := hide (KM.out.upd us (by simp)); have C4 := hide hb4
      have NC := hide (R2.out.at'.apt.new (k := C) (by omega))
      have LC4 : Hid (C < w4.heap.size) := hide (blk_lt hb4)
      have HC := hide (show B + 1 < C by have := blk_lt B1.out; omega)
      clear q0 q1 q2 q3 q4 q5 q6 q7 q8 q9 q10 q11 q12 q13 q14 q15 qf e4 hb4 hu4 us hal hN hC' R2 E2 B0 B1 KM LC PC EC di0 di1 di2
      refine hK _ _ (.inl rfl) ?_
      clear hK K
      try simp only [Act.put, zz1, zz2, zz3]
      refine wpAnyZ_done (by kernel_rfl) ?_ _
      as_aux_lemma =>
      have N4 := NN.out (B + 1) (by have := HBN.out; omega)
      have hz4 := E4.out.size
      by_cases hk6 : e.kind = 6
      · as_aux_lemma =>
        have ek : (e.kind : Int) = 6 := by omega
        have e0 : w4.cell? ⟨B, 0, none⟩ = some (.int .u8 6) := by rw [← ek]; exact (en_cells B04.out).1
        have eQ : q = if x.row.length = 256 then (x, noT 30) else (⟨x.n, x.xs, x.row ++ [l]⟩, noT 0) := by rw [HQQ.out, if_pos hk6]
        have EQ := hide eQ
        clear ek hk6 eQ
        obtain ⟨y0, y1, y2, y3, y4, y5, y6, y7, y8, y9, y10, y11, y12, y13, y14, y15⟩ := lt_cells C4.out
        go_wp2_with fail
        refine (behind_any (l := l) (ks := .slice xm l.2.2.cmd.keys.length cm) w4 R4.out.at' LOK.out K4.out HH.out.len).mono ?_
        rintro y w5 ⟨rfl, rv5, hR5, hE5⟩
        have B15 := hide (hE5.get B14.out N4.1); have R5 := hide hR5; have E5 := hide (E4.out.trans hE5); have N5 := hide (hE5.not (blk_lt B14.out) N4)
        clear e0 y0 y1 y2 y3 y4 y5 y6 y7 y8 y9 y10 y11 y12 y13 y14 y15 hR5 hE5
        obtain ⟨t0, t1, t2, t3, tf⟩ := td_cells B15.out
        by_cases hfull : x.row.length = 256
        · have eQ : q = (x, noT 30) := by rw [EQ.out, if_pos hfull]
          have hp : push1 x.row l = x.row := by unfold push1; rw [if_pos hfull]
          subst eQ
          have HP := hide hp
          rw [decide_eq_true hfull]
          clear hfull hp
          go_wp2_with fail
          have hR := R5.out
          rw [HP.out] at hR
          exact ret_td (set4 B15.out) rfl rfl rfl ⟨_, rfl, RTold.no (w := w) (T := T) (g := g) (B := B + 1) (x' := x) hR rfl rfl E5.out N5.out (by have := HBN.out; omega) (upd4 w5 (B + 1) _ _ _ _) 30⟩
        · have eQ : q = (⟨x.n, x.xs, x.row ++ [l]⟩, noT 0) := by rw [EQ.out, if_neg hfull]
          have hp : push1 x.row l = x.row ++ [l] := by unfold push1; rw [if_neg hfull]
          subst eQ
          have HP := hide hp
          rw [decide_eq_false hfull]
          clear hfull hp
          go_wp2_with fail
          have hR := R5.out
          rw [HP.out] at hR
          exact ret_td (set4 B15.out) rfl rfl rfl ⟨_, rfl, RTold.no (w := w) (T := T) (g := g) (B := B + 1) hR rfl rfl E5.out N5.out (by have := HBN.out; omega) (upd4 w5 (B + 1) _ _ _ _) 0⟩
      · have d6 : ((e.kind : Int) == 6) = false := by simp; omega
        have e0 : w4.cell? ⟨B, 0, none⟩ = some (.int .u8 (e.kind : Int)) := (en_cells B04.out).1
        have HK6 := hide hk6
        clear hk6
        go_upto_region 8 with fail
        clear e0 d6
        as_aux_lemma =>
        obtain ⟨i1, hi1, iz0, iz1, iz2⟩ := info_parts infoLt
        have v0 : Upd [] w4 (w4.drewN 1) := (Upd.refl [] w4).drewN 1
        have R4' := hide (R4.out.upd_nil v0)
        obtain ⟨css2, ao2, cap2, hv2, he2, hb2, hown2, hc12, hc22⟩ := R4'.out.at'.row_open
        obtain ⟨rfl, rfl⟩ : ao2 = some ⟨bl, off, none⟩ ∧ cap2 = cap := by have := HV.out.symm.trans hv2; simp at this; exact ⟨this.1.symm, this.2.symm⟩
        have OW := hide hown2; have EE := hide he2; have BB := hide hb2
        have ONE := hide (show ∀ u ∈ css2.flatten, u.oneCell' = true from fun u hu => by
          obtain ⟨cs, hc, hu'⟩ := List.mem_flatten.1 hu
          exact (BB.out cs hc).2 u hu')
        clear hv2 he2 hb2 hown2 hc12 hc22
        have WR := hide (show IntKind.i64.wrap ((k : Int) + 1) = (k : Int) + 1 from IntWalk.i64_in _ (by omega))
        have CH := hide fun (wx : World) => run_cutz_hm 153 TLt 16 Tryz.underlying153 sizeLt (some ⟨bl, off, none⟩) x.row.length cap2 k k (k : Int) (k : Int) rfl rfl (Nat.le_refl _) (by omega) wx
        have CL := hide fun (wx : World) => run_cutz_l' 153 TLt 16 Tryz.underlying153 sizeLt (some ⟨bl, off, none⟩) x.row.length cap2 (k + 1) ((k : Int) + 1) (by omega) (by omega) wx
        have s0 : (w4.drewN 1).heap[g.p]? = some (.cells #[g.lv, .slice (some ⟨bl, off, none⟩) x.row.length cap2] TRc (0, 0)) ∧ (w4.drewN 1).heap[B]? = some (.cells (enA e torn pick (.slice xk e.cmd.keys.length ck)) TEn (0, 0)) := ⟨by rw [← HV.out]; exact R4'.out.at'.blk, B04.out⟩
        refine wp_region_z (fun wx => wx.heap[g.p]? = some (.cells #[g.lv, .slice (some ⟨bl, off, none⟩) x.row.length cap2] TRc (0, 0)) ∧ wx.heap[B]? = some (.cells (enA e torn pick (.slice xk e.cmd.keys.length ck)) TEn (0, 0))) 21 (by kernel_rfl) ?_
        refine zE 0 rfl (by kernel_rfl) (fun _ _ _ _ h => h) rfl (by exact s0) ?_
        apply Exists.intro
        refine ⟨fun wx hS => ?_, ?_⟩
        · go_simp; rfl
        simp only [Act.put, List.setIfInBounds_toArray, List.set_cons_succ, List.set_cons_zero, List.getElem_toArray, List.getElem_cons_zero]
        refine zE 1 rfl (by kernel_rfl) (fun _ _ _ _ h => h) rfl (by exact s0) ?_
        apply Exists.intro
        refine ⟨fun wx hS => ?_, ?_⟩
        · go_simp; rfl
        simp only [Act.put, zz1, zz2, zz3, zz4, zz5, zz6]
        refine zE 2 rfl (by kernel_rfl) (fun _ _ _ _ h => h) rfl (by exact s0) ?_
        apply Exists.intro
        refine ⟨fun wx hS => ?_, ?_⟩
        · go_simp; rfl
        simp only [Act.put, zz1, zz2, zz3, zz4, zz5, zz6]
        refine zE 3 rfl (by kernel_rfl) (fun _ _ _ _ h => h) rfl (by exact s0) ?_
        apply Exists.intro
        refine ⟨fun wx hS => ?_, ?_⟩
        · go_simp; rfl
        simp only [Act.put, zz1, zz2, zz3, zz4, zz5, zz6]
        refine zE 4 rfl (by kernel_rfl) (fun _ _ _ _ h => h) rfl (by exact s0) ?_
        apply Exists.intro
        refine ⟨fun wx hS => ?_, ?_⟩
        · have c0 : wx.cell? ⟨g.p, 1, none⟩ = some (.slice (some ⟨bl, off, none⟩) x.row.length cap2) := blk_cell hS.1 rfl; go_simp; rfl
        simp only [Act.put, zz1, zz2, zz3, zz4, zz5, zz6]
        refine zE 5 rfl (by kernel_rfl) (fun _ _ _ _ h => h) rfl (by exact s0) ?_
        apply Exists.intro
        refine ⟨fun wx hS => ?_, ?_⟩
        · go_simp; rfl
        simp only [Act.put, zz1, zz2, zz3, zz4, zz5, zz6]
        refine zE 6 rfl (by kernel_rfl) (fun _ _ _ _ h => h) rfl (by exact s0) ?_
        apply Exists.intro
        refine ⟨fun wx hS => ?_, ?_⟩
        · have c0 := (en_cells hS.2).2.2.1 ; rw [HKE.out] at c0; go_simp; rfl
        simp only [Act.put, zz1, zz2, zz3, zz4, zz5, zz6]
        refine zE 7 rfl (by kernel_rfl) (fun _ _ _ _ h => h) rfl (by exact s0) ?_
        apply Exists.intro
        refine ⟨fun wx hS => ?_, ?_⟩
        · go_simp; rfl
        simp only [Act.put, zz1, zz2, zz3, zz4, zz5, zz6]
        refine zE 8 rfl (by kernel_rfl) (fun _ _ _ _ h => h) rfl (by exact s0) ?_
        apply Exists.intro
        refine ⟨fun wx hS => ?_, ?_⟩
        · have c0 := (en_cells hS.2).2.2.1 ; rw [HKE.out] at c0; go_simp; rfl
        simp only [Act.put, zz1, zz2, zz3, zz4, zz5, zz6]
        refine zE 9 rfl (by kernel_rfl) (fun _ _ _ _ h => h) rfl (by exact s0) ?_
        apply Exists.intro
        refine ⟨fun wx hS => ?_, ?_⟩
        · have r := CH.out wx; go_simp; rfl
        simp only [Act.put, zz1, zz2, zz3, zz4, zz5, zz6]
        refine zE 10 rfl (by kernel_rfl) (fun _ _ _ _ h => h) rfl (by exact s0) ?_
        apply Exists.intro
        refine ⟨fun wx hS => ?_, ?_⟩
        · go_simp; rfl
        simp only [Act.put, zz1, zz2, zz3, zz4, zz5, zz6]
        refine zE 11 rfl (by kernel_rfl) (fun _ _ _ _ h => h) rfl (by exact s0) ?_
        apply Exists.intro
        refine ⟨fun wx hS => ?_, ?_⟩
        · go_simp; rfl
        simp only [Act.put, zz1, zz2, zz3, zz4, zz5, zz6]
        refine zE 12 rfl (by kernel_rfl) (fun _ _ _ _ h => h) rfl (by exact s0) ?_
        apply Exists.intro
        refine ⟨fun wx hS => ?_, ?_⟩
        · go_simp; rfl
        simp only [Act.put, zz1, zz2, zz3, zz4, zz5, zz6]
        refine zE 13 rfl (by kernel_rfl) (fun _ _ _ _ h => h) rfl (by exact s0) ?_
        apply Exists.intro
        refine ⟨fun wx hS => ?_, ?_⟩
        · have c0 : wx.cell? ⟨g.p, 1, none⟩ = some (.slice (some ⟨bl, off, none⟩) x.row.length cap2) := blk_cell hS.1 rfl; go_simp; rfl
        simp only [Act.put, zz1, zz2, zz3, zz4, zz5, zz6]
        refine zE 14 rfl (by kernel_rfl) (fun _ _ _ _ h => h) rfl (by exact s0) ?_
        apply Exists.intro
        refine ⟨fun wx hS => ?_, ?_⟩
        · go_simp; rfl
        simp only [Act.put, zz1, zz2, zz3, zz4, zz5, zz6]
        refine zE 15 rfl (by kernel_rfl) (fun _ _ _ _ h => h) rfl (by exact s0) ?_
        apply Exists.intro
        refine ⟨fun wx hS => ?_, ?_⟩
        · have c0 := (en_cells hS.2).2.2.1 ; rw [HKE.out] at c0; go_simp; rfl
        simp only [Act.put, zz1, zz2, zz3, zz4, zz5, zz6]
        refine zE 16 rfl (by kernel_rfl) (fun _ _ _ _ h => h) rfl (by exact s0) ?_
        apply Exists.intro
        refine ⟨fun wx hS => ?_, ?_⟩
        · have r := WR.out; go_simp; rfl
        simp only [Act.put, zz1, zz2, zz3, zz4, zz5, zz6]
        refine zE 17 rfl (by kernel_rfl) (fun _ _ _ _ h => h) rfl (by exact s0) ?_
        apply Exists.intro
        refine ⟨fun wx hS => ?_, ?_⟩
        · have r := CL.out wx; go_simp; rfl
        simp only [Act.put, zz1, zz2, zz3, zz4, zz5, zz6]
        refine wpAnyZ_one 18 (by kernel_rfl) rfl rfl (fun K hK => ?_)
        try simp only [List.getElem_toArray, List.getElem_cons_succ, List.getElem_cons_zero]
        refine wp_strike _ _ 153 rfl TLt i1 (.agg #[.int .i64 0, .int .i64 0, .int .u8 0, .int .u64 0, .int .u64 0, .int .i64 0, .bool false, .int .u64 0, .int .i64 0, .int .u32 0, .int .u32 0, .int .u8 0, .slice none 0 0, .string ⟨#[]⟩, .string ⟨#[]⟩, .int .i64 0]) 16 152 Tryz.underlying153 hi1 iz0 iz1 iz2 rfl (by decide) OW.out ONE.out (by omega) HKN.out (by unfold maxLen; omega) (by omega) rfl rfl ?_
        as_aux_lemma =>
        intro ao6 cap6 wc hown6 hU6 hn6
        have hown7 : OwnX wc TLt 16 (ltK.holds wc T) (.slice ao6 (x.row.length - 1) cap6) (x.row.eraseIdx k) := OwnX.strike (EE.out.mono (Q := ltK.holds wc T) fun y cs _ hy => ltK.upd hy hU6 (by simp)) BB.out HKN.out hown6
        have hsr := R4'.out.at'.setRow (hU6.mono (by simp)) hown7 (fun k hk => by rw [HV.out]; exact hn6 k hk)
        have sc : wc.heap[g.p]? = some (.cells #[g.lv, .slice (some ⟨bl, off, none⟩) x.row.length cap2] TRc (0, 0)) ∧ wc.heap[B]? = some (.cells (enA e torn pick (.slice xk e.cmd.keys.length ck)) TEn (0, 0)) := ⟨by rw [← HV.out]; exact hsr.2.2, hU6.get (v0.get B04.out (by simp)) (by simp)⟩
        have HS := hide (show _ ∧ _ from ⟨hsr.1, hsr.2.1⟩)
        have y4 : wc.cell? ⟨g.p, 1, none⟩ = some (.slice (some ⟨bl, off, none⟩) x.row.length cap2) := blk_cell sc.1 rfl
        have f4 : wc.frozen? ⟨g.p, 1, none⟩ = false := blk_free sc.1
        clear hown6 hU6 hn6 hown7 hsr s0
        refine hK _ _ (.inr sc) ?_
        clear hK K
        try simp only [Act.put, zz1, zz2, zz3]
        refine wpAnyZ_one 19 (by kernel_rfl) rfl rfl (fun K hK => ?_)
        try simp only [List.getElem_toArray, List.getElem_cons_succ, List.getElem_cons_zero]
        go_simp
        refine hK _ _ (.inr sc) ?_
        clear hK K
        try simp only [Act.put, zz1, zz2, zz3]
        refine wpAnyZ_one 20 (by kernel_rfl) rfl rfl (fun K hK => ?_)
        try simp only [List.getElem_toArray, List.getElem_cons_succ, List.getElem_cons_zero]
        go_simp
        refine hK _ _ (.inr sc) ?_
        clear hK K
        try simp only [Act.put, zz1, zz2, zz3]
        refine wpAnyZ_one 21 (by kernel_rfl) rfl rfl (fun K hK => ?_)
        try simp only [List.getElem_toArray, List.getElem_cons_succ, List.getElem_cons_zero]
        go_simp
        clear y4 f4 sc CH CL OW EE BB ONE WR
        obtain ⟨w5, hw5⟩ : ∃ w5, wc.setCell ⟨g.p, 1, none⟩ (.slice ao6 (x.row.length - 1) cap6) = w5 := ⟨_, rfl⟩
        have hs := HS.out
        rw [hw5] at hs ⊢
        obtain ⟨rv1, hrv1⟩ : ∃ rv1, Value.slice ao6 (x.row.length - 1) cap6 = rv1 := ⟨_, rfl⟩
        rw [hrv1] at hs
        obtain ⟨hR5, hE5⟩ := hs
        have hM5 : Ext w4 T (g.M x.n) w5 T (({ g with rv := rv1 } : Rg).M x.n) := (Ext.of_nil v0 T (g.M x.n)).trans hE5
        have R5 := hide hR5; have E5 := hide (E4.out.trans hM5); have B05 := hide (hM5.get B04.out (NN.out B (by have := HBN.out; omega)).1); have B15 := hide (hM5.get B14.out N4.1); have C5 := hide (hM5.get C4.out NC.out.1)
        have N5 := hide (hM5.not (blk_lt B14.out) N4); have NC5 := hide (hM5.not LC4.out NC.out); have K5 := hide (hM5.ky R4.out.at'.apt.apart K4.out)
        have I5 := hide (R4.out.ext hR5 hM5 (Nat.le_trans (List.length_eraseIdx_le _ _) HH.out.len))
        clear hw5 hrv1 hR5 hE5 hM5 HS R4' v0 R4 E4 B04 B14 K4 C4 NC LC4 hz4 N4
        refine hK _ _ (.inl rfl) ?_
        clear hK K
        try simp only [Act.put, zz1, zz2, zz3]
        refine wpAnyZ_done (by kernel_rfl) ?_ _
        as_aux_lemma =>
        have HL5 := hide (show (x.row.eraseIdx k).length ≤ 256 from Nat.le_trans (List.length_eraseIdx_le _ _) HH.out.len)
        by_cases hk4 : e.kind = 4
        · have ek : (e.kind : Int) = 4 := by omega
          have e0 : w5.cell? ⟨B, 0, none⟩ = some (.int .u8 4) := by rw [← ek]; exact (en_cells B05.out).1
          have eQ : q = tellsM ⟨x.n, x.xs, x.row.eraseIdx k⟩ l.2.1.toNat (takeS l.1 l.2.2 (x.xs l.2.1.toNat)) 0 := by rw [HQQ.out, if_neg HK6.out, if_pos hk4]
          have EQ := hide eQ
          clear ek hk4 eQ
          go_upto_region 11 with fail
          as_aux_lemma =>
          clear e0
          obtain ⟨hr0, hr1⟩ := HRW.out l (List.mem_of_getElem? HL.out)
          obtain ⟨r, hre⟩ : ∃ r : Nat, l.2.1 = r := ⟨l.2.1.toNat, by omega⟩
          have hrn : r < x.n := by omega
          have HRE := hide hre; have HRN := hide hrn
          clear hr0 hr1
          have x7 := HH.out.n
          obtain ⟨g1, hg1⟩ : ∃ g1 : Rg, ({ g with rv := rv1 } : Rg) = g1 := ⟨_, rfl⟩
          have I5' := I5.out; have R5' := R5.out; have E5' := E5.out; have N5' := N5.out; have NC5' := NC5.out
          have gp : g1.p = g.p := by rw [← hg1]
          rw [hg1] at I5' R5' E5' N5' NC5'
          obtain ⟨x5, hx5⟩ : ∃ x5 : Rc, (⟨x.n, x.xs, x.row.eraseIdx k⟩ : Rc) = x5 := ⟨_, rfl⟩
          have xn : x5.n = x.n := by rw [← hx5]
          have xx : x5.xs = x.xs := by rw [← hx5]
          have xl : x5.row.length ≤ 256 := by rw [← hx5]; exact HL5.out
          have eQ := EQ.out
          rw [hx5, hre, Int.toNat_natCast] at eQ
          have EQ5 := hide eQ
          rw [hx5] at I5' R5'
          clear eQ EQ
          rw [← xn] at hrn x7
          have GP := hide gp; have XN := hide xn; have XX := hide xx; have XL := hide xl
          rw [← gp]
          obtain ⟨xo, cl, hlv, hl1, hl2, hptr⟩ := R5'.ptr
          obtain ⟨b2, o2, rfl, hbl, hob, hpc⟩ := hptr r hrn
          obtain ⟨G0, hHi⟩ := I5'.hi hrn
          have I6 := hide I5'; have R6 := hide R5'; have E6 := hide E5'; have N6 := hide N5'; have NC6 := hide NC5'; have HLV := hide hlv; have HI := hide hHi; have HRN' := hide hrn
          have hlvp : Hid (∀ (wx : World) (Tx : Nat → Prop) (gx : Rg) (xx : Rc), RcAt wx Tx gx xx → gx.lv = g1.lv → gx.p = g1.p → gx.ps = g1.ps → xx.n = x5.n → wx.cell? ⟨g1.p, 0, none⟩ = some (.slice (some ⟨b2, o2, none⟩) x5.n cl) ∧ wx.cell? ⟨b2, o2 + r * 1, none⟩ = some (.pointer (some ⟨g1.ps r, 0, none⟩))) := hide (fun wx Tx gx xx hx e1 e2 e3 e4 => by
            refine ⟨?_, ?_⟩
            · rw [← HLV.out, ← e1, ← e2]; exact blk_cell hx.blk rfl
            · obtain ⟨xo, c, h1, -, -, h4⟩ := hx.ptr
              rw [e1, HLV.out, e4] at h1
              obtain ⟨b3, o3, h5, -, -, h6⟩ := h4 r (by rw [e4]; exact HRN'.out)
              rw [h5] at h1
              obtain ⟨h7, -⟩ : (⟨b2, o2, none⟩ : Addr) = ⟨b3, o3, none⟩ ∧ cl = c := by simpa using h1
              cases h7
              rw [← e3]; exact h6)
          have nB : Hid (¬ g1.Ms r C ∧ ¬ g1.Ms r (B + 1)) := hide ⟨fun hm => NC5'.1 (.inr ⟨r, HRN.out, hm⟩), fun hm => N5'.1 (.inr ⟨r, HRN.out, hm⟩)⟩
          clear hre hg1 hx5 I5' R5' E5' N5' NC5' gp xn xx xl hlv hHi hptr hbl hob hpc I5 R5 E5 N5 NC5
          have di0 : (0 : Int) ≤ (r : Int) := by omega
          have di1 : (r : Int) < (x5.n : Int) := by omega
          have di2 : decide (r < x5.n) = true := by simpa using hrn
          simp only [maxLen] at hl2
          have v0 : Upd [] w5 (w5.drewN 1) := (Upd.refl [] w5).drewN 1
          have s0 : (w5.drewN 1).cell? ⟨g1.p, 0, none⟩ = some (.slice (some ⟨b2, o2, none⟩) x5.n cl) ∧ (w5.drewN 1).cell? ⟨b2, o2 + r * 1, none⟩ = some (.pointer (some ⟨g1.ps r, 0, none⟩)) ∧ (w5.drewN 1).heap[C]? = some (.cells (ltA l (.slice xm l.2.2.cmd.keys.length cm)) TLt (0, 0)) ∧ (w5.drewN 1).heap[B + 1]? = some (.cells #[.int .i64 0, .int .i64 0, .slice none 0 0, .slice none 0 0] TTd (0, 0)) := by
            obtain ⟨c1, c2⟩ := hlvp.out _ _ _ _ (R6.out.upd_nil v0) rfl rfl rfl rfl
            exact ⟨c1, c2, C5.out, B15.out⟩
          refine wp_region_z (fun wx => wx.cell? ⟨g1.p, 0, none⟩ = some (.slice (some ⟨b2, o2, none⟩) x5.n cl) ∧ wx.cell? ⟨b2, o2 + r * 1, none⟩ = some (.pointer (some ⟨g1.ps r, 0, none⟩)) ∧ wx.heap[C]? = some (.cells (ltA l (.slice xm l.2.2.cmd.keys.length cm)) TLt (0, 0)) ∧ wx.heap[B + 1]? = some (.cells #[.int .i64 0, .int .i64 0, .slice none 0 0, .slice none 0 0] TTd (0, 0))) 20 (by kernel_rfl) ?_
          refine zT 0 rfl (by kernel_rfl) (fun _ _ _ _ h => h) rfl (by exact s0) ?_
          apply Exists.intro
          refine ⟨fun wx hS => ?_, ?_⟩
          · go_simp; rfl
          simp only [Act.put, List.setIfInBounds_toArray, List.set_cons_succ, List.set_cons_zero, List.getElem_toArray, List.getElem_cons_zero]
          refine zT 1 rfl (by kernel_rfl) (fun _ _ _ _ h => h) rfl (by exact s0) ?_
          apply Exists.intro
          refine ⟨fun wx hS => ?_, ?_⟩
          · go_simp; rfl
          simp only [Act.put, zz1, zz2, zz3, zz4, zz5, zz6]
          refine zT 2 rfl (by kernel_rfl) (fun _ _ _ _ h => h) rfl (by exact s0) ?_
          apply Exists.intro
          refine ⟨fun wx hS => ?_, ?_⟩
          · go_simp; rfl
          simp only [Act.put, zz1, zz2, zz3, zz4, zz5, zz6]
          refine zT 3 rfl (by kernel_rfl) (fun _ _ _ _ h => h) rfl (by exact s0) ?_
          apply Exists.intro
          refine ⟨fun wx hS => ?_, ?_⟩
          · have c := (lt_cells hS.2.2.1).2.1 ; rw [HRE.out] at c; go_simp; rfl
          simp only [Act.put, zz1, zz2, zz3, zz4, zz5, zz6]
          refine zT 4 rfl (by kernel_rfl) (fun _ _ _ _ h => h) rfl (by exact s0) ?_
          apply Exists.intro
          refine ⟨fun wx hS => ?_, ?_⟩
          · go_simp; rfl
          simp only [Act.put, zz1, zz2, zz3, zz4, zz5, zz6]
          refine zT 5 rfl (by kernel_rfl) (fun _ _ _ _ h => h) rfl (by exact s0) ?_
          apply Exists.intro
          refine ⟨fun wx hS => ?_, ?_⟩
          · go_simp; rfl
          simp only [Act.put, zz1, zz2, zz3, zz4, zz5, zz6]
          refine zT 6 rfl (by kernel_rfl) (fun _ _ _ _ h => h) rfl (by exact s0) ?_
          apply Exists.intro
          refine ⟨fun wx hS => ?_, ?_⟩
          · go_simp; rfl
          simp only [Act.put, zz1, zz2, zz3, zz4, zz5, zz6]
          refine zT 7 rfl (by kernel_rfl) (fun _ _ _ _ h => h) rfl (by exact s0) ?_
          apply Exists.intro
          refine ⟨fun wx hS => ?_, ?_⟩
          · have c := hS.1; go_simp; rfl
          simp only [Act.put, zz1, zz2, zz3, zz4, zz5, zz6]
          refine zT 8 rfl (by kernel_rfl) (fun _ _ _ _ h => h) rfl (by exact s0) ?_
          apply Exists.intro
          refine ⟨fun wx hS => ?_, ?_⟩
          · go_simp; rfl
          simp only [Act.put, zz1, zz2, zz3, zz4, zz5, zz6]
          refine zT 9 rfl (by kernel_rfl) (fun _ _ _ _ h => h) rfl (by exact s0) ?_
          apply Exists.intro
          refine ⟨fun wx hS => ?_, ?_⟩
          · go_simp; rfl
          simp only [Act.put, zz1, zz2, zz3, zz4, zz5, zz6]
          refine zT 10 rfl (by kernel_rfl) (fun _ _ _ _ h => h) rfl (by exact s0) ?_
          apply Exists.intro
          refine ⟨fun wx hS => ?_, ?_⟩
          · have c := (lt_cells hS.2.2.1).2.1 ; rw [HRE.out] at c; go_simp; rfl
          simp only [Act.put, zz1, zz2, zz3, zz4, zz5, zz6]
          refine zT 11 rfl (by kernel_rfl) (fun _ _ _ _ h => h) rfl (by exact s0) ?_
          apply Exists.intro
          refine ⟨fun wx hS => ?_, ?_⟩
          · go_simp; rfl
          simp only [Act.put, zz1, zz2, zz3, zz4, zz5, zz6]
          refine zT 12 rfl (by kernel_rfl) (fun _ _ _ _ h => h) rfl (by exact s0) ?_
          apply Exists.intro
          refine ⟨fun wx hS => ?_, ?_⟩
          · have c := hS.2.1 ; have c' : wx.cell? ⟨b2, o2 + r, none⟩ = some (.pointer (some ⟨g1.ps r, 0, none⟩)) := (by rw [Nat.mul_one] at c ; exact c); go_simp; rfl
          simp only [Act.put, zz1, zz2, zz3, zz4, zz5, zz6]
          refine zT 13 rfl (by kernel_rfl) (fun _ _ _ _ h => h) rfl (by exact s0) ?_
          apply Exists.intro
          refine ⟨fun wx hS => ?_, ?_⟩
          · go_simp; rfl
          simp only [Act.put, zz1, zz2, zz3, zz4, zz5, zz6]
          refine zT 14 rfl (by kernel_rfl) (fun _ _ _ _ h => h) rfl (by exact s0) ?_
          apply Exists.intro
          refine ⟨fun wx hS => ?_, ?_⟩
          · have c := (lt_cells hS.2.2.1).1; go_simp; rfl
          simp only [Act.put, zz1, zz2, zz3, zz4, zz5, zz6]
          refine zT 15 rfl (by kernel_rfl) (fun _ _ _ _ h => h) rfl (by exact s0) ?_
          apply Exists.intro
          refine ⟨fun wx hS => ?_, ?_⟩
          · go_simp; rfl
          simp only [Act.put, zz1, zz2, zz3, zz4, zz5, zz6]
          refine zT 16 rfl (by kernel_rfl) (fun _ _ _ _ h => h) rfl (by exact s0) ?_
          apply Exists.intro
          refine ⟨fun wx hS => ?_, ?_⟩
          · go_simp; rfl
          simp only [Act.put, zz1, zz2, zz3, zz4, zz5, zz6]
          refine zT 17 rfl (by kernel_rfl) (fun _ _ _ _ h => h) rfl (by exact s0) ?_
          apply Exists.intro
          refine ⟨fun wx hS => ?_, ?_⟩
          · obtain ⟨y0, y1, y2, y3, y4, y5, y6, y7, y8, y9, y10, y11, y12, y13, y14, y15⟩ := lt_cells hS.2.2.1; go_simp; rfl
          simp only [Act.put, zz1, zz2, zz3, zz4, zz5, zz6]
          refine wpAnyZ_one 18 (by kernel_rfl) rfl rfl (fun K hK => ?_)
          try simp only [List.getElem_toArray, List.getElem_cons_succ, List.getElem_cons_zero]
          go_simp
          refine (take_step (f := l.1) (m := l.2.2) (ks := .slice xm l.2.2.cmd.keys.length cm) (w5.drewN 1) ⟨HI.out.at'.upd_nil v0, HI.out.env.upd_nil v0, HI.out.ok⟩ hL ⟨LOK.out.1, LOK.out.2.1, LOK.out.2.2.1, LOK.out.2.2.2.1, K5.out.1, LOK.out.2.2.2.2⟩ (K5.out.upd v0 (by simp))).mono ?_
          as_aux_lemma =>
          rintro y w3 ⟨v, rfl, T3, M3, G3, sv, av, dv, rfl, hX3, hE3, hs3, ha3, hd3⟩
          obtain ⟨hR3, hEE3⟩ := (R6.out.upd_nil v0).turn HRN'.out hX3 hE3
          rw [XX.out] at hR3 hs3 ha3 hd3
          have EE3 := hide hEE3
          rw [XN.out] at hEE3
          obtain ⟨st, hst⟩ : ∃ st, takeS l.1 l.2.2 (x.xs r) = st := ⟨_, rfl⟩
          rw [hst] at hR3 hs3 ha3 hd3
          have HST := hide hst
          have R3 := hide hR3; have E3 := hide ((E6.out.on v0 (by simp)).trans hEE3); have S3 := hide hs3; have AN3 := hide ha3; have DN3 := hide hd3
          have s3 : w3.cell? ⟨g1.p, 0, none⟩ = some (.slice (some ⟨b2, o2, none⟩) x5.n cl) ∧ w3.cell? ⟨b2, o2 + r * 1, none⟩ = some (.pointer (some ⟨g1.ps r, 0, none⟩)) ∧ w3.heap[C]? = some (.cells (ltA l (.slice xm l.2.2.cmd.keys.length cm)) TLt (0, 0)) ∧ w3.heap[B + 1]? = some (.cells #[.int .i64 0, .int .i64 0, .slice none 0 0, .slice none 0 0] TTd (0, 0)) := by
            obtain ⟨c1, c2⟩ := hlvp.out _ _ _ _ hR3 rfl rfl rfl rfl
            exact ⟨c1, c2, hE3.get (v0.get C5.out (by simp)) nB.out.1, hE3.get (v0.get B15.out (by simp)) nB.out.2⟩
          have N30 : Hid (¬ (g1.turn r M3).M x.n C ∧ ¬ T3 C) := hide (hEE3.not (blk_lt (v0.get C5.out (by simp))) NC6.out)
          have N3 : Hid (¬ (g1.turn r M3).M x.n (B + 1) ∧ ¬ T3 (B + 1)) := hide (hEE3.not (blk_lt (v0.get B15.out (by simp))) N6.out)
          clear hX3 hE3 hs3 ha3 hd3 hR3 hEE3 s0 v0 hst EE3
          refine hK _ _ (.inr s3) ?_
          clear hK K
          try simp only [Act.put, zz1, zz2, zz3]
          refine wpAnyZ_one 19 (by kernel_rfl) rfl rfl (fun K hK => ?_)
          try simp only [List.getElem_toArray, List.getElem_cons_succ, List.getElem_cons_zero]
          go_simp
          refine (tells_any (g := g1.turn r M3) (x := ⟨x5.n, up x.xs r st.1, x5.row⟩) (s := st) (r := (r : Int)) (e0 := 0) w3 R3.out S3.out AN3.out DN3.out XL.out).mono ?_
          rintro y w4 ⟨rfl, rv4, hR4, hE4⟩
          rw [XN.out] at hE4
          have R4 := hide hR4; have E4 := hide (E3.out.trans hE4)
          have hap : ∀ k, T3 k → ¬ (g1.turn r M3).M x.n k := by have := R3.out.apt.apart; rw [XN.out] at this; exact this
          have AN4 := hide (hE4.row hap AN3.out); have DN4 := hide (hE4.row (K := Tr.cmK) hap DN3.out)
          have s4 : w4.cell? ⟨g1.p, 0, none⟩ = some (.slice (some ⟨b2, o2, none⟩) x5.n cl) ∧ w4.cell? ⟨b2, o2 + r * 1, none⟩ = some (.pointer (some ⟨g1.ps r, 0, none⟩)) ∧ w4.heap[C]? = some (.cells (ltA l (.slice xm l.2.2.cmd.keys.length cm)) TLt (0, 0)) ∧ w4.heap[B + 1]? = some (.cells #[.int .i64 0, .int .i64 0, .slice none 0 0, .slice none 0 0] TTd (0, 0)) := by
            obtain ⟨c1, c2⟩ := hlvp.out _ _ _ _ hR4 rfl rfl rfl rfl
            exact ⟨c1, c2, hE4.get s3.2.2.1 N30.out.1, hE4.get s3.2.2.2 N3.out.1⟩
          have N4 := hide (hE4.not (blk_lt s3.2.2.2) N3.out)
          clear hR4 hE4 s3 R3 E3 S3 AN3 DN3 hap
          obtain ⟨xa, ca, hav⟩ := row_slice AN4.out
          obtain ⟨xd, cd, hdv⟩ := row_slice DN4.out
          obtain ⟨t0, t1, t2, t3, tf⟩ := td_cells s4.2.2.2
          subst hav hdv
          refine hK _ _ (.inr s4) ?_
          clear hK K
          try simp only [Act.put, zz1, zz2, zz3]
          refine wpAnyZ_one 20 (by kernel_rfl) rfl rfl (fun K hK => ?_)
          try simp only [List.getElem_toArray, List.getElem_cons_succ, List.getElem_cons_zero]
          go_simp
          clear t0 t1 t2 t3 tf
          have us := upd4 w4 (B + 1) (.int .i64 (r : Int)) (.int .i64 0) (.slice xa st.2.ans.length ca) (.slice xd st.2.done.length cd)
          have hb5 := set4 s4.2.2.2 (y0 := .int .i64 (r : Int)) (y1 := .int .i64 0) (y2 := .slice xa st.2.ans.length ca) (y3 := .slice xd st.2.done.length cd)
          generalize (((w4.setCell ⟨B + 1, 0, none⟩ (.int .i64 (r : Int))).setCell ⟨B + 1, 1, none⟩ (.int .i64 0)).setCell ⟨B + 1, 2, none⟩ (.slice xa st.2.ans.length ca)).setCell ⟨B + 1, 3, none⟩ (.slice xd st.2.done.length cd) = w6 at *
          have R7 := hide (R4.out.foreign (by rw [XN.out]; exact N4.out) us); have E7 := hide (E4.out.on us fun k hk => by simp at hk; subst hk; exact .inr (by have := HBN.out; omega)); have B7 := hide hb5
          have nT4 : ∀ k ∈ [B + 1], ¬ T3 k := fun k hk => by simp at hk; subst hk; exact N4.out.2
          have AN5 := hide (anK.row_upd AN4.out us nT4); have DN5 := hide (Tr.cmK.row_upd DN4.out us nT4)
          clear us hb5 s4 nT4 R4 E4 AN4 DN4
          refine hK _ _ (.inl rfl) ?_
          clear hK K
          try simp only [Act.put, zz1, zz2, zz3]
          refine wpAnyZ_done (by kernel_rfl) ?_ _
          go_wp2_with fail
          have eQ := EQ5.out
          rw [HST.out] at eQ
          unfold tellsM at eQ
          rw [XX.out] at eQ
          subst eQ
          exact ret_td B7.out rfl rfl rfl ⟨_, rfl, T3, { g1.turn r M3 with rv := rv4 }, _, _, rfl, GP.out, R7.out, E7.out, AN5.out, DN5.out⟩
        · have HK4 := hide hk4
          by_cases hk7 : e.kind = 7
          · as_aux_lemma =>
            have ek : (e.kind : Int) = 7 := by omega
            have e0 : w5.cell? ⟨B, 0, none⟩ = some (.int .u8 7) := by rw [← ek]; exact (en_cells B05.out).1
            have eQ : q = (⟨x.n, x.xs, push1 (x.row.eraseIdx k) l⟩, noT 0) := by rw [HQQ.out, if_neg HK6.out, if_neg HK4.out, if_pos hk7]
            subst eQ
            clear ek hk7 hk4
            obtain ⟨y0, y1, y2, y3, y4, y5, y6, y7, y8, y9, y10, y11, y12, y13, y14, y15⟩ := lt_cells C5.out
            go_wp2_with fail
            refine (behind_any (l := l) (ks := .slice xm l.2.2.cmd.keys.length cm) w5 R5.out LOK.out K5.out HL5.out).mono ?_
            rintro y w6 ⟨rfl, rv6, hR6, hE6⟩
            have B16 := hide (hE6.get B15.out N5.out.1); have R6 := hide hR6; have E6 := hide (E5.out.trans hE6); have N6 := hide (hE6.not (blk_lt B15.out) N5.out)
            clear e0 y0 y1 y2 y3 y4 y5 y6 y7 y8 y9 y10 y11 y12 y13 y14 y15 hR6 hE6
            obtain ⟨t0, t1, t2, t3, tf⟩ := td_cells B16.out
            go_wp2_with fail
            exact ret_td (set4 B16.out) rfl rfl rfl ⟨_, rfl, RTold.no (w := w) (T := T) (g := g) (B := B + 1) R6.out rfl rfl E6.out N6.out (by have := HBN.out; omega) (upd4 w6 (B + 1) _ _ _ _) 0⟩
          · have h5 : e.kind = 5 := by have := HKD.out; have := HK6.out; have := HK4.out; omega
            have ek : (e.kind : Int) = 5 := by omega
            have e0 : w5.cell? ⟨B, 0, none⟩ = some (.int .u8 5) := by rw [← ek]; exact (en_cells B05.out).1
            have eQ : q = (⟨x.n, x.xs, x.row.eraseIdx k⟩, noT 0) := by rw [HQQ.out, if_neg HK6.out, if_neg HK4.out, if_neg hk7]
            subst eQ
            clear ek hk7 hk4 h5
            obtain ⟨t0, t1, t2, t3, tf⟩ := td_cells B15.out
            go_wp2_with fail
            exact ret_td (set4 B15.out) rfl rfl rfl ⟨_, rfl, RTold.no (w := w) (T := T) (g := g) (B := B + 1) R5.out rfl rfl E5.out N5.out (by have := HBN.out; omega) (upd4 w5 (B + 1) _ _ _ _) 0⟩
end Go.Proofs.YtanjnhohfcgapaaGreatDoor.Sg
