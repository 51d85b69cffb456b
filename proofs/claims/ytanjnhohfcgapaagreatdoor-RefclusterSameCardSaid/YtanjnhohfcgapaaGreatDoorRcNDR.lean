/- RcN, RcD, RcR in one text. -/
import Derived.Test.YtanjnhohfcgapaaGreatDoorRcL
import Derived.Test.YtanjnhohfcgapaaGreatDoorGenAll
import Derived.Test.YtanjnhohfcgapaaGreatDoorRcKB
import Derived.Test.YtanjnhohfcgapaaGreatDoorShBC
import Derived.Test.YtanjnhohfcgapaaGreatDoorPureAll
set_option linter.unusedSimpArgs false
set_option linter.unusedVariables false
set_option linter.unnecessarySimpa false
namespace Go.Proofs.YtanjnhohfcgapaaGreatDoor.Sg
open Go.RowKit Go.Proofs.YtanjnhohfcgapaaGreatDoor.Crc Go.Proofs.YtanjnhohfcgapaaGreatDoor.Cm Go.Proofs.YtanjnhohfcgapaaGreatDoor.Tr Go.Proofs.YtanjnhohfcgapaaGreatDoor.Kv Go.Proofs.YtanjnhohfcgapaaGreatDoor.Au
set_option linter.unusedSimpArgs false
set_option linter.unusedVariables false

abbrev TDo : TypeId := 164
noncomputable def u8F : FK Tryz.prog Nat := numF 5 .u8 Tryz.underlying5
theorem do_put {w w0 : World} {b k : Nat} {f : Nat → Option Value} (h : NIs u8F w b f) (hu : Upd [b] w0 w) (z : Int) (hz : z = (k : Int)) (v : Value) :
    ∃ W, (Instr.mapUpdate TDo (.map (some b)) (.int .u8 z) v).run Tryz.prog w = .ok () W ∧ NIs u8F W b (fun j => if j = k then some v else f j) ∧ Upd [b] w0 W := by
  subst hz
  obtain ⟨W, h1, h2, h3, -⟩ := h.store Tryz.underlying164 k v
  exact ⟨W, h1, h2, hu.trans h3⟩
theorem fn_ne (f p : Nat) (w : World) : (binOp .neq 109 (.func (.func f) #[.pointer (some ⟨p, 0, none⟩)] #[]) .nilFunc).run Tryz.prog w = .ok (.bool true) w := by kernel_rfl
theorem fn_nil (w : World) : (binOp .neq 109 .nilFunc .nilFunc).run Tryz.prog w = .ok (.bool false) w := by kernel_rfl
theorem en_cells12 {w : World} {b : Nat} {e : En} {torn pick : Int} {ks : Value} {t : TypeId} (h : w.heap[b]? = some (.cells (enA e torn pick ks) t (0, 0))) :
    w.cell? ⟨b, 3, none⟩ = some (.int .i64 torn) ∧ w.cell? ⟨b, 4, none⟩ = some (.int .u64 pick) := ⟨blk_cell h rfl, blk_cell h rfl⟩
theorem RTold.trans {w w1 w' : World} {T : Nat → Prop} {g : Rg} {n : Nat} {q : Rc × Tl} {v : Value} (hE : Ext w T (g.M n) w1 T (g.M n)) (h : RTold w1 T g n q v w') : RTold w T g n q v w' := by
  obtain ⟨T', g', va, vd, h1, h2, h3, h4, h5⟩ := h
  exact ⟨T', g', va, vd, h1, h2, h3, hE.trans h4, h5⟩
/-- The result is laid into a cell of the caller's. -/
theorem RTold.lay {w w1 w' w2 : World} {T : Nat → Prop} {g : Rg} {n B : Nat} {q : Rc × Tl} {v : Value} (hE : Ext w T (g.M n) w1 T (g.M n)) (h : RTold w1 T g n q v w') (hn : q.1.n = n) (hB1 : B < w1.heap.size) (hB : ¬ g.M n B ∧ ¬ T B) (hw : w.heap.size ≤ B) (us : Upd [B] w' w2) : RTold w T g n q v w2 := by
  obtain ⟨T', g', va, vd, h1, h2, h3, h4, h5, h6⟩ := h
  have hN := h4.not hB1 hB
  have nT : ∀ k ∈ [B], ¬ T' k := fun k hk => by simp at hk; subst hk; exact hN.2
  exact ⟨T', g', va, vd, h1, h2, h3.foreign (by rw [hn]; exact hN) us, (hE.trans h4).on us fun k hk => by simp at hk; subst hk; exact .inr hw, anK.row_upd h5 us nT, Tr.cmK.row_upd h6 us nT⟩
theorem tells_n (x : Rc) (r : Nat) (s : SO) (e : Int) : (tellsM x r s e).1.n = x.n := rfl
theorem own_n (x : Rc) (e : En) : (ownM x e).1.n = x.n := by
  unfold ownM
  split
  · rfl
  · split
    · rfl
    · split <;> rfl
theorem letter_n (x : Rc) (e : En) : (letterM x e).1.n = x.n := by
  unfold letterM
  split
  · rfl
  · split
    · split <;> rfl
    · split
      · rfl
      · split <;> rfl
set_option maxRecDepth 100000 in
set_option maxHeartbeats 4000000 in
theorem do_any {T : Nat → Prop} {g : Rg} {L : Nat} {x : Rc} {e : En} {torn pick : Int} {ks : Value} (w : World) (h : Ri w T g L x) (hL : L ≤ 10000) (hrow : ∀ l ∈ x.row, 0 ≤ l.2.1 ∧ l.2.1 < x.n) (hk : Ky w T ks e.cmd) (hsm : Sm e.cmd) :
    Calls Tryz.prog 43 #[.pointer (some ⟨g.p, 0, none⟩), .agg (enA e torn pick ks)] w fun y w' => ∃ v, y = .returned v ∧ RTold w T g x.n (doR x e) v w' := by
  obtain ⟨q, hq⟩ : ∃ q, doR x e = q := ⟨_, rfl⟩
  rw [hq]
  have HQ := hide hq; have HRW := hide hrow
  have hmm := @run_makeMap Tryz.prog
  clear hq hrow
  obtain ⟨xk, ck, rfl⟩ := hk.slice
  have HH := hide h; have K0 := hide hk; have SM := hide hsm
  have hpl := blk_lt h.at'.blk
  clear h hk hsm
  unfold enA
  go_enter Tryz.func43, Tryz.ntmps43
  go_upto_region 1 with fail
  have h0 := blk_alloc (blk_new w (.cells (enA e torn pick (.slice xk e.cmd.keys.length ck)) TEn)) (.cells #[.int .i64 0, .int .i64 0, .slice none 0 0, .slice none 0 0] TTd)
  have h1 := blk_new (w.alloc (.cells (enA e torn pick (.slice xk e.cmd.keys.length ck)) TEn)) (.cells #[.int .i64 0, .int .i64 0, .slice none 0 0, .slice none 0 0] TTd)
  have hal := ((Upd.refl [] w).alloc (.cells (enA e torn pick (.slice xk e.cmd.keys.length ck)) TEn)).alloc (.cells #[.int .i64 0, .int .i64 0, .slice none 0 0, .slice none 0 0] TTd)
  simp only [World.size_alloc] at h1
  change Code.wp _ _ _ _ ((w.alloc (.cells (enA e torn pick (.slice xk e.cmd.keys.length ck)) TEn)).alloc (.cells #[.int .i64 0, .int .i64 0, .slice none 0 0, .slice none 0 0] TTd))
  generalize (w.alloc (.cells (enA e torn pick (.slice xk e.cmd.keys.length ck)) TEn)).alloc (.cells #[.int .i64 0, .int .i64 0, .slice none 0 0, .slice none 0 0] TTd) = w1 at *
  have nn : ∀ j, w.heap.size ≤ j → ¬ (g.M x.n) j ∧ ¬ T j := fun j hj => HH.out.at'.apt.new hj
  obtain ⟨B, hBn⟩ : ∃ B, w.heap.size = B := ⟨_, rfl⟩
  have HBN := hide hBn
  have NN := hide nn
  rw [hBn] at h0 h1 hpl ⊢
  have R1 := hide (HH.out.upd_nil hal); have E1 := hide (Ext.of_nil hal T (g.M x.n)); have A0 := hide h0; have A1 := hide h1; have K1 := hide (K0.out.upd hal (by simp))
  clear h0 h1 hal hBn nn K0
  obtain ⟨m0, hm0⟩ : ∃ m0, m0 = w1.alloc (.map #[] 0) := ⟨_, rfl⟩
  have hu0 : Upd [] w1 m0 := by rw [hm0]; exact (Upd.refl [] w1).alloc _
  have n0 : NIs u8F m0 w1.heap.size fun _ => none := by rw [hm0]; exact NIs.new u8F w1
  have hv : Upd [w1.heap.size] w1 m0 := hu0.mono (by simp)
  obtain ⟨m1, r1, n1, u1⟩ := do_put (k := 1) n0 hv 1 rfl (.func (.func 86) #[.pointer (some ⟨g.p, 0, none⟩)] #[])
  obtain ⟨m2, r2, n2, u2⟩ := do_put (k := 2) n1 u1 2 rfl (.func (.func 86) #[.pointer (some ⟨g.p, 0, none⟩)] #[])
  obtain ⟨m3, r3, n3, u3⟩ := do_put (k := 3) n2 u2 3 rfl (.func (.func 86) #[.pointer (some ⟨g.p, 0, none⟩)] #[])
  obtain ⟨m4, r4, n4, u4⟩ := do_put (k := 4) n3 u3 4 rfl (.func (.func 87) #[.pointer (some ⟨g.p, 0, none⟩)] #[])
  obtain ⟨m5, r5, n5, u5⟩ := do_put (k := 5) n4 u4 5 rfl (.func (.func 87) #[.pointer (some ⟨g.p, 0, none⟩)] #[])
  obtain ⟨m6, r6, n6, u6⟩ := do_put (k := 6) n5 u5 6 rfl (.func (.func 87) #[.pointer (some ⟨g.p, 0, none⟩)] #[])
  obtain ⟨m7, r7, n7, u7⟩ := do_put (k := 7) n6 u6 7 rfl (.func (.func 87) #[.pointer (some ⟨g.p, 0, none⟩)] #[])
  have fne := fn_ne
  have fnil := fn_nil
  have rl := n7.look1 Tryz.underlying164 (z := .nilFunc) (by kernel_rfl) e.kind
  have UU : Upd [] w1 m7 := (Upd.refl [] w1).trans_new u7 (fun k hk => .inr (by simp at hk; omega))
  have R7 := hide (R1.out.upd_nil UU); have E7 := hide (E1.out.on UU (by simp)); have B0 := hide (UU.get A0.out (by simp)); have B1 := hide (UU.get A1.out (by simp)); have K7 := hide (K1.out.upd UU (by simp))
  have NB := hide (NN.out (B + 1) (by have := HBN.out; omega))
  rw [hm0] at r1
  clear n0 n1 n2 n3 n4 n5 n6 n7 u1 u2 u3 u4 u5 u6 u7 hu0 hv hm0 UU R1 E1 A0 A1 K1
  obtain ⟨c0, c1, c2, c5, c6, c7, c8, c9, c10, c11⟩ := en_cells B0.out
  obtain ⟨c3, c4⟩ := en_cells12 B0.out
  by_cases hown : e.kind = 1 ∨ e.kind = 2 ∨ e.kind = 3
  · have eQ : q = ownM x e := by rw [← HQ.out]; unfold doR; rw [if_pos hown]
    have rl' : (Instr.lookup TDo (.map (some w1.heap.size)) (.int .u8 (e.kind : Int)) false).run Tryz.prog m7 = .ok (.func (.func 86) #[.pointer (some ⟨g.p, 0, none⟩)] #[]) m7 := by
      refine Eq.trans rl ?_
      rcases hown with h | h | h <;> rw [h] <;> rfl
    have HK := hide hown
    subst eQ
    clear rl hown
    go_wp2_with fail
    refine (own_any (torn := torn) (pick := pick) (ks := .slice xk e.cmd.keys.length ck) m7 R7.out hL K7.out SM.out HK.out).mono ?_
    rintro y w9 ⟨v, rfl, hrt⟩
    have HT := hide hrt
    obtain ⟨T', g', va, vd, rfl, -, -, hE9, hva, hvd⟩ := hrt
    obtain ⟨xa, ca, rfl⟩ := row_slice hva
    obtain ⟨xd, cd, rfl⟩ := row_slice hvd
    have hb9 := hE9.get B1.out NB.out.1
    have B9 := hide hb9
    obtain ⟨t0, t1, t2, t3, tf⟩ := td_cells hb9
    clear hE9 hva hvd hb9 c0 c1 c2 c3 c4 c5 c6 c7 c8 c9 c10 c11
    go_wp2_with fail
    exact ret_td (set4 B9.out) rfl rfl rfl ⟨_, rfl, RTold.lay E7.out HT.out (own_n x e) (blk_lt B1.out) NB.out (by have := HBN.out; omega) (upd4 _ _ _ _ _ _)⟩
  · by_cases hlet : e.kind = 4 ∨ e.kind = 5 ∨ e.kind = 6 ∨ e.kind = 7
    · have eQ : q = letterM x e := by rw [← HQ.out]; unfold doR; rw [if_neg hown, if_pos hlet]
      have rl' : (Instr.lookup TDo (.map (some w1.heap.size)) (.int .u8 (e.kind : Int)) false).run Tryz.prog m7 = .ok (.func (.func 87) #[.pointer (some ⟨g.p, 0, none⟩)] #[]) m7 := by
        refine Eq.trans rl ?_
        rcases hlet with h | h | h | h <;> rw [h] <;> rfl
      have HK := hide hlet
      subst eQ
      clear rl hown hlet
      go_wp2_with fail
      refine (letter_any (torn := torn) (pick := pick) (ks := .slice xk e.cmd.keys.length ck) m7 R7.out hL HRW.out K7.out HK.out).mono ?_
      rintro y w9 ⟨v, rfl, hrt⟩
      have HT := hide hrt
      obtain ⟨T', g', va, vd, rfl, -, -, hE9, hva, hvd⟩ := hrt
      obtain ⟨xa, ca, rfl⟩ := row_slice hva
      obtain ⟨xd, cd, rfl⟩ := row_slice hvd
      have hb9 := hE9.get B1.out NB.out.1
      have B9 := hide hb9
      obtain ⟨t0, t1, t2, t3, tf⟩ := td_cells hb9
      clear hE9 hva hvd hb9 c0 c1 c2 c3 c4 c5 c6 c7 c8 c9 c10 c11
      go_wp2_with fail
      exact ret_td (set4 B9.out) rfl rfl rfl ⟨_, rfl, RTold.lay E7.out HT.out (letter_n x e) (blk_lt B1.out) NB.out (by have := HBN.out; omega) (upd4 _ _ _ _ _ _)⟩
    · have eQ : q = (x, noT 50) := by rw [← HQ.out]; unfold doR; rw [if_neg hown, if_neg hlet]
      have rl' : (Instr.lookup TDo (.map (some w1.heap.size)) (.int .u8 (e.kind : Int)) false).run Tryz.prog m7 = .ok .nilFunc m7 := by
        refine Eq.trans rl ?_
        have a1 : e.kind ≠ 1 := by omega
        have a2 : e.kind ≠ 2 := by omega
        have a3 : e.kind ≠ 3 := by omega
        have a4 : e.kind ≠ 4 := by omega
        have a5 : e.kind ≠ 5 := by omega
        have a6 : e.kind ≠ 6 := by omega
        have a7 : e.kind ≠ 7 := by omega
        simp only [a1, a2, a3, a4, a5, a6, a7, if_false, Option.getD_none]
      subst eQ
      obtain ⟨t0, t1, t2, t3, tf⟩ := td_cells B1.out
      clear rl hown hlet
      go_wp2_with fail
      exact ret_td (set4 B1.out) rfl rfl rfl ⟨_, rfl, RTold.no (w := w) (T := T) (g := g) (B := B + 1) R7.out.at' rfl rfl E7.out NB.out (by have := HBN.out; omega) (upd4 _ _ _ _ _ _) 50⟩
end Go.Proofs.YtanjnhohfcgapaaGreatDoor.Sg
namespace Go.Proofs.YtanjnhohfcgapaaGreatDoor.Sg
open Go.RowKit Go.Proofs.YtanjnhohfcgapaaGreatDoor.Crc Go.Proofs.YtanjnhohfcgapaaGreatDoor.Cm Go.Proofs.YtanjnhohfcgapaaGreatDoor.Tr Go.Proofs.YtanjnhohfcgapaaGreatDoor.Kv Go.Proofs.YtanjnhohfcgapaaGreatDoor.Au
set_option linter.unusedSimpArgs false
set_option linter.unusedVariables false

def Rg.more (g : Rg) (i p : Nat) (lv : Value) (M : Nat → Prop) : Rg := { g with lv := lv, ps := fun r => if r = i then p else g.ps r, Ms := fun r => if r = i then M else g.Ms r }
/-- A single more. -/
theorem RcAt.grow {w w1 w3 : World} {T : Nat → Prop} {g : Rg} {i p : Nat} {f : Nat → Sg} {M : Nat → Prop} {G : Gh} {lv : Value}
    (h : RcAt w T g ⟨i, f, []⟩) (hX : XIdle w1 T M p (f i) G) (hu1 : Upd [] w w1) (hM : ∀ k, M k → w.heap.size ≤ k ∧ k < w1.heap.size)
    (hU : Upd g.lv.ownBlock.toList w1 w3) (hown : Own w3 0 TPs 1 (ptK.holds w3 T) lv ((List.range i).map g.ps ++ [p])) (hn : ∀ k, lv.ownBlock = some k → g.lv.ownBlock = some k ∨ w1.heap.size ≤ k) :
    RcAt (w3.setCell ⟨g.p, 0, none⟩ lv) T (g.more i p lv M) ⟨i + 1, f, []⟩ ∧ w3.heap[g.p]? = some (.cells #[g.lv, g.rv] TRc (0, 0)) := by
  have h1 := h.upd_nil hu1
  have hz1 := hu1.size
  have hzU := hU.size
  have lb : ∀ k ∈ g.lv.ownBlock.toList, g.own k := fun k hk => .inr (.inl (by simpa using hk))
  have pS : g.p ∉ g.lv.ownBlock.toList := fun hk => h.pl (by simpa using hk)
  have hb := hU.get h1.blk pS
  have us : Upd [g.p] w3 (w3.setCell ⟨g.p, 0, none⟩ lv) := (Upd.refl [g.p] w3).setCell (p := ⟨g.p, 0, none⟩) (.inl (by simp)) _
  have hall : Upd (g.p :: g.lv.ownBlock.toList) w1 (w3.setCell ⟨g.p, 0, none⟩ lv) := (hU.mono (by simp +contextual)).trans (us.mono (by simp))
  have ho : ∀ k ∈ g.p :: g.lv.ownBlock.toList, g.own k := fun k hk => by
    rcases List.mem_cons.1 hk with hk | hk
    · exact .inl hk
    · exact lb k hk
  have olt : ∀ k, g.own k → k < w.heap.size := fun k hk => h.apt.ltM k (.inl hk)
  have mlt : ∀ r, r < i → ∀ k, g.Ms r k → k < w.heap.size := fun r hr k hk => h.apt.ltM k (.inr ⟨r, hr, hk⟩)
  have nT : ∀ k ∈ g.p :: g.lv.ownBlock.toList, ¬ T k := fun k hk => (h.out k (ho k hk)).1
  have lp : lv.ownBlock ≠ some g.p := fun e => by
    rcases hn _ e with h5 | h5
    · exact h.pl h5
    · have := olt g.p (.inl rfl); omega
  have ms : (g.more i p lv M).Ms i = M := if_pos rfl
  have mo : ∀ s, s ≠ i → (g.more i p lv M).Ms s = g.Ms s := fun s hs => if_neg hs
  have ps : (g.more i p lv M).ps i = p := if_pos rfl
  have po : ∀ s, s ≠ i → (g.more i p lv M).ps s = g.ps s := fun s hs => if_neg hs
  refine ⟨⟨?_, ?_, ?_, fun r hr => ?_, fun a b ha hb hab k hk hk' => ?_, lp, h.pr, fun k hk hk' => ?_, fun k hk => ?_, fun k hk => Nat.lt_of_lt_of_le (h1.ltT k hk) hall.size⟩, hb⟩
  · show (w3.setCell ⟨g.p, 0, none⟩ lv).heap[g.p]? = some (.cells #[lv, g.rv] TRc (0, 0))
    have := blk_set (i := 0) hb lv
    simpa only [List.setIfInBounds_toArray, List.set_cons_succ, List.set_cons_zero] using this
  · have e : (List.range (i + 1)).map (g.more i p lv M).ps = (List.range i).map g.ps ++ [p] := by
      rw [List.range_succ, List.map_append, List.map_singleton, ps]
      congr 1
      exact List.map_congr_left fun r hr => po r (by have := List.mem_range.1 hr; omega)
    show Own _ 0 TPs 1 _ lv ((List.range (i + 1)).map (g.more i p lv M).ps)
    rw [e]
    refine Own.upd hown us (fun k hk hk' => ?_) fun y cs _ hy => hy
    simp at hk'; subst hk'; exact lp hk
  · refine OwnX.upd h1.row hall (fun k hk hm => ?_) fun y cs hy _ => (by cases hy)
    rcases List.mem_cons.1 hm with hm | hm
    · subst hm; exact h.pr hk
    · exact h.lr k (by simpa using hm) hk
  · by_cases hri : r = i
    · subst hri
      rw [ms, ps]
      have nM : ∀ k ∈ g.p :: g.lv.ownBlock.toList, ¬ M k := fun k hk hm => by have := hM k hm; have := olt k (ho k hk); omega
      exact ⟨G, hall.get hX.1 (fun hk => nM _ hk hX.2.pM), hX.2.shift hall fun k hk => .inr ⟨nM k hk, nT k hk⟩⟩
    · have hr' : r < i := by have : r < i + 1 := hr; omega
      rw [mo r hri, po r hri]
      obtain ⟨G2, hG⟩ := h1.at' r hr'
      exact ⟨G2, hall.get hG.1 (fun hk => (h.out _ (ho _ hk)).2 r hr' hG.2.pM), hG.2.shift hall fun k hk => .inr ⟨fun hm => (h.out k (ho k hk)).2 r hr' hm, nT k hk⟩⟩
  · have ha' : a < i + 1 := ha
    have hb' : b < i + 1 := hb
    by_cases hai : a = i
    · subst hai
      rw [ms] at hk
      rw [mo b (fun e => hab e.symm)] at hk'
      have := hM k hk; have := mlt b (by omega) k hk'; omega
    · rw [mo a hai] at hk
      by_cases hbi : b = i
      · subst hbi
        rw [ms] at hk'
        have := hM k hk'; have := mlt a (by omega) k hk; omega
      · rw [mo b hbi] at hk'
        exact h.apart a b (by show a < i; omega) (by show b < i; omega) hab k hk hk'
  · rcases hn k hk with h5 | h5
    · exact h.lr k h5 hk'
    · have := olt k (.inr (.inr hk')); omega
  · have hcase : g.own k ∨ lv.ownBlock = some k ∧ w1.heap.size ≤ k := by
      rcases hk with hk | hk | hk
      · exact .inl (.inl hk)
      · rcases hn k hk with h5 | h5
        · exact .inl (.inr (.inl h5))
        · exact .inr ⟨hk, h5⟩
      · exact .inl (.inr (.inr hk))
    clear hk
    rcases hcase with hk | ⟨-, hk⟩
    · refine ⟨(h.out k hk).1, fun r hr hm => ?_⟩
      have hr' : r < i + 1 := hr
      by_cases hri : r = i
      · subst hri
        rw [ms] at hm
        have := hM k hm; have := olt k hk; omega
      · rw [mo r hri] at hm
        exact (h.out k hk).2 r (by show r < i; omega) hm
    · refine ⟨fun ht => by have := h.ltT k ht; omega, fun r hr hm => ?_⟩
      have hr' : r < i + 1 := hr
      by_cases hri : r = i
      · subst hri
        rw [ms] at hm
        have := hM k hm; omega
      · rw [mo r hri] at hm
        have := mlt r (by omega) k hm; omega
theorem infoPs : (Tryz.prog.info? TPs).map (fun i => (i.zero, i.size, i.bytes)) = some (some (.pointer none), 1, 8) := by kernel_rfl
theorem rnew_bad (w : World) (n : Int) (h : n < 1 ∨ 7 < n) : Calls Tryz.prog 41 #[.int .i64 n] w fun e w' => e = .returned (.tuple #[.pointer none, .int .i64 1]) ∧ w' = w := by
  by_cases h1 : n < 1
  · have d1 : decide (n < 1) = true := by simpa using h1
    clear h h1
    go_enter Tryz.func41, Tryz.ntmps41
    go_wp2_with fail
    go_ret2
    exact ⟨rfl, rfl⟩
  · have d1 : decide (n < 1) = false := by simp; omega
    have d2 : decide (7 < n) = true := by simp; omega
    clear h h1
    go_enter Tryz.func41, Tryz.ntmps41
    go_wp2_with fail
    go_ret2
    exact ⟨rfl, rfl⟩
theorem src_ptr {w : World} {b p : Nat} {t : TypeId} (h : w.heap[b]? = some (.cells #[.pointer (some ⟨p, 0, none⟩)] t (0, 0))) : SrcAt w (some ⟨b, 0, none⟩) 1 1 [.pointer (some ⟨p, 0, none⟩)] 1 := by
  refine ⟨rfl, by simp [Value.oneCell'], by simp, fun a e j u hj => ?_⟩
  cases e
  rw [add_plain]
  simp only [World.cell?, h]
  simpa using hj
set_option maxRecDepth 100000 in
set_option maxHeartbeats 4000000 in
theorem rnew_any {T : Nat → Prop} {n : Nat} (w : World) (h1 : 1 ≤ n) (h7 : n ≤ 7) (hT : ∀ k, T k → k < w.heap.size) :
    Calls Tryz.prog 41 #[.int .i64 (n : Int)] w fun e w' => ∃ g, e = .returned (.tuple #[.pointer (some ⟨g.p, 0, none⟩), .int .i64 0]) ∧ RcAt w' T g (rc0 n) ∧ Upd [] w w' ∧ ∀ k, g.M n k → w.heap.size ≤ k := by
  have d1 : decide ((n : Int) < 1) = false := by simp; omega
  have d2 : decide ((7 : Int) < (n : Int)) = false := by simp; omega
  have HT := hide hT
  clear hT
  go_enter Tryz.func41, Tryz.ntmps41
  go_upto_region 4 with fail
  have hb0 := blk_new w (.cells #[.slice none 0 0, .slice none 0 0] TRc)
  have hal := (Upd.refl [] w).alloc (.cells #[.slice none 0 0, .slice none 0 0] TRc)
  change Code.wp _ _ _ _ (w.alloc (.cells #[.slice none 0 0, .slice none 0 0] TRc))
  generalize w.alloc (.cells #[.slice none 0 0, .slice none 0 0] TRc) = w1 at *
  obtain ⟨B, hB⟩ : ∃ B, w.heap.size = B := ⟨_, rfl⟩
  have HB := hide hB
  rw [hB] at hb0 ⊢
  have R0 : Hid (RcAt w1 T ⟨B, .slice none 0 0, .slice none 0 0, fun _ => 0, fun _ _ => False⟩ ⟨0, fun r => sg0 r n, []⟩) := hide (by
    refine ⟨hb0, Own.nil _ _ _ _ _, OwnX.of (Own.nil _ _ _ _ _), fun r hr => (by cases hr), fun a b ha => (by cases ha), by simp [Value.ownBlock], by simp [Value.ownBlock], by simp [Value.ownBlock], fun k hk => ?_, fun k hk => Nat.lt_of_lt_of_le (HT.out k hk) hal.size⟩
    rcases hk with hk | hk | hk
    · subst hk
      exact ⟨fun ht => by have h5 := HT.out _ ht; have h6 := HB.out; rw [h6] at h5; exact absurd h5 (Nat.lt_irrefl _), fun r _ hm => hm⟩
    · cases hk
    · cases hk)
  have U0 := hide hal
  obtain ⟨i1, hi1, iz0, iz1, iz2⟩ := info_parts infoPs
  clear hb0 hal hB d1 d2
  go_wp2_with fail
  go_loopw [17] (fun si wx => ∃ i : Nat, i ≤ n ∧ si = .int .i64 i ∧ ∃ g : Rg, g.p = B ∧ RcAt wx T g ⟨i, fun r => sg0 r n, []⟩ ∧ Upd [] w wx ∧ ∀ k, g.M i k → w.heap.size ≤ k) (fun si wx => n - (RowKit.intOf si).toNat)
  case atStart =>
    refine ⟨0, by omega, rfl, _, rfl, R0.out, U0.out, fun k hk => ?_⟩
    rcases hk with (hk | hk | hk) | ⟨r, hr, -⟩
    · rw [hk]; exact Nat.le_of_eq HB.out
    · cases hk
    · cases hk
    · cases hr
  case round =>
    obtain ⟨i, hi, rfl, g, hg, hR, hU, hnew⟩ := hrel
    have RR := hide hR; have UU := hide hU; have NW := hide hnew; have HG := hide hg
    rw [← hg]
    clear hg hR hU hnew R0 U0
    by_cases hlt : i < n
    · have e1 : decide ((i : Int) < n) = true := by simp; omega
      have e1' : decide (i < n) = true := by simpa using hlt
      have HLT := hide hlt
      go_wp2_with fail
      refine (new_any (T := T) (M := fun _ => False) (self := i) (n := n) wr hlt h7 (fun k hk => Nat.lt_of_lt_of_le (HT.out k hk) UU.out.size)).mono ?_
      rintro e w2 ⟨p, M, G, rfl, hX, hu2, hM, hp⟩
      have X2 := hide hX; have V2 := hide hu2; have HM := hide hM
      have R2 := hide (RR.out.upd_nil hu2)
      clear hX hu2 hM e1 e1'
      have hN := blk_new w2 (.cells #[.pointer (some ⟨p, 0, none⟩)] TPs)
      have hal := (Upd.refl [] w2).alloc (.cells #[.pointer (some ⟨p, 0, none⟩)] TPs)
      obtain ⟨w3, hw3⟩ : ∃ w3, w2.alloc (.cells #[.pointer (some ⟨p, 0, none⟩)] TPs) = w3 := ⟨_, rfl⟩
      rw [hw3] at hN hal
      have R3 := hide (R2.out.upd_nil hal); have X3 := hide (X2.out.upd_nil hal); have V3 := hide (V2.out.trans hal); have SR := hide (src_ptr hN)
      have hM3 : ∀ k, M k → wr.heap.size ≤ k ∧ k < w3.heap.size := fun k hk => ⟨(HM.out k hk).1, Nat.lt_of_lt_of_le (HM.out k hk).2 hal.size⟩
      have HM3 := hide hM3
      obtain ⟨css, he, hbb, hown⟩ := R3.out.lst
      obtain ⟨ao, cap, hv, hc1, hc2, -⟩ := owns_slice hown
      have hlen : ((List.range i).map g.ps).length = i := by simp
      have hlen' : ((List.range (⟨i, fun r => sg0 r n, []⟩ : Rc).n).map g.ps).length = i := hlen
      rw [hlen'] at hown hv hc1
      have c0 : w2.cell? ⟨g.p, 0, none⟩ = some (.slice ao i cap) := by rw [← hv]; exact blk_cell R2.out.blk rfl
      have HV := hide hv; have HE := hide he; have HBB := hide hbb
      have hown' : w3.ownsRow 0 TPs 1 (.slice ao i cap) i css.flatten := by rw [← hv]; exact hown
      have HO := hide hown'
      simp only [maxLen] at hc2
      clear hN hal hM3 hown hown' hv he hbb hlen hlen' X2 V2 HM
      go_wp2_with (at_builtin; go_must (refine wpList_append_src _ rfl _ _ 44 rfl 0 TPs i1 (.pointer none) 1 8 Tryz.underlying44 hi1 iz0 iz1 iz2 rfl (by decide) (.slice ao i cap) i css.flatten rfl HO.out (some ⟨w2.heap.size, 0, none⟩) 1 1 [.pointer (some ⟨p, 0, none⟩)] rfl SR.out (by unfold maxLen; omega) (by omega) (by omega) ?_))
      intro ao6 cap6 w6 hown6 hU6 hn6
      have hown7 : Own w6 0 TPs 1 (ptK.holds w6 T) (.slice ao6 (i + 1) cap6) ((List.range i).map g.ps ++ [p]) :=
        Own.more (HE.out.mono (Q := ptK.holds w6 T) fun y cs _ hy => hy) HBB.out rfl rfl (by simp [Value.oneCell']) (by simp) hown6
      obtain ⟨hg1, hg2⟩ := RR.out.grow (w1 := w3) (G := G) X3.out V3.out HM3.out (by rw [HV.out]; exact hU6) hown7 (fun k hk => by rw [HV.out]; exact hn6 k hk)
      have y0 : w6.cell? ⟨g.p, 0, none⟩ = some (.slice ao i cap) := by rw [← HV.out]; exact blk_cell hg2 rfl
      have yf : w6.frozen? ⟨g.p, 0, none⟩ = false := blk_free hg2
      have G1 := hide hg1
      have U6 : Upd [] w w6 := (UU.out.trans V3.out).trans_new hU6 (fun k hk => .inr (by
        have hk' : g.lv.ownBlock = some k := by rw [HV.out]; simpa using hk
        exact NW.out k (.inl (.inr (.inl hk')))))
      have U7 := hide (U6.trans_new ((Upd.refl [g.p] w6).setCell (p := ⟨g.p, 0, none⟩) (.inl (by simp)) (.slice ao6 (i + 1) cap6)) (fun k hk => .inr (by simp at hk; subst hk; exact NW.out g.p (.inl (.inl rfl)))))
      have N7 : Hid (∀ k, (g.more i p (.slice ao6 (i + 1) cap6) M).M (i + 1) k → w.heap.size ≤ k) := hide fun k hk => by
        have hz := (UU.out.trans V3.out).size
        have hz' := UU.out.size
        rcases hk with (hk | hk | hk) | ⟨r, hr, hk⟩
        · exact NW.out k (.inl (.inl hk))
        · rcases hn6 k hk with h5 | h5
          · exact NW.out k (.inl (.inr (.inl (by rw [HV.out]; exact h5))))
          · omega
        · exact NW.out k (.inl (.inr (.inr hk)))
        · by_cases hri : r = i
          · subst hri
            rw [show (g.more r p (.slice ao6 (r + 1) cap6) M).Ms r = M from if_pos rfl] at hk
            have := (HM3.out k hk).1; omega
          · rw [show (g.more i p (.slice ao6 (i + 1) cap6) M).Ms r = g.Ms r from if_neg hri] at hk
            exact NW.out k (.inr ⟨r, by omega, hk⟩)
      clear hown6 hU6 hn6 hown7 hg1 hg2 U6 c0 R3 X3 V3 SR HM3 HE HBB HO R2 hw3
      go_wp2_with fail
      go_roundw
      case rel => exact ⟨i + 1, by omega, by go_num, g.more i p (.slice ao6 (i + 1) cap6) M, rfl, G1.out, U7.out, N7.out⟩
      case measure => simp [RowKit.intOf]; omega
    · have e1 : decide ((i : Int) < n) = false := decide_eq_false (by omega)
      have e1' : decide (i < n) = false := decide_eq_false hlt
      have ei : i = n := by omega
      subst ei
      go_wp2_with fail
      go_ret2
      exact ⟨g, rfl, RR.out, UU.out, NW.out⟩
end Go.Proofs.YtanjnhohfcgapaaGreatDoor.Sg
namespace Go.Proofs.YtanjnhohfcgapaaGreatDoor.Sg
open Go.RowKit Go.Proofs.YtanjnhohfcgapaaGreatDoor.Crc Go.Proofs.YtanjnhohfcgapaaGreatDoor.Cm Go.Proofs.YtanjnhohfcgapaaGreatDoor.Tr Go.Proofs.YtanjnhohfcgapaaGreatDoor.Kv Go.Proofs.YtanjnhohfcgapaaGreatDoor.Au
set_option linter.unusedSimpArgs false
set_option linter.unusedVariables false

section
variable {L n q : Nat} {xs : Nat → Sg} {y : Sg} {x : Rc} {e : En}
theorem up_ok (h : ∀ r, r < n → SgOk L (xs r)) (hy : q < n → SgOk (L + 1) y) : ∀ r, r < n → SgOk (L + 1) (up xs q y r) := by
  intro r hr
  by_cases hrq : r = q
  · subst hrq; rw [up_self]; exact hy hr
  · rw [up_ne hrq]; exact (h r hr).mono (Nat.le_succ _)
theorem doR_sg (h : ∀ r, r < x.n → SgOk L (x.xs r)) (hL : L ≤ 10000) (hm : ∀ l ∈ x.row, MgOk l.2.2) (hc : Sm e.cmd) : ∀ r, r < x.n → SgOk (L + 1) ((doR x e).1.xs r) := by
  have h' : ∀ r, r < x.n → SgOk (L + 1) (x.xs r) := fun r hr => (h r hr).mono (Nat.le_succ _)
  unfold doR
  split
  · unfold ownM
    split
    · exact h'
    · split
      · exact up_ok h fun hq => (tick_ok (h _ hq)).mono (Nat.le_succ _)
      · split
        · exact up_ok h fun hq => askAt_ok (h _ hq) hL
        · exact up_ok h fun hq => (submit_ok (h _ hq) hc).mono (Nat.le_succ _)
  · split
    · unfold letterM
      split
      · exact h'
      · rename_i l hl
        have hmem : l ∈ x.row := by
          split at hl
          · cases hl
          · exact List.mem_of_getElem? hl
        split
        · split <;> exact h'
        · split
          · exact up_ok h fun hq => take_ok (h _ hq) hL (hm l hmem)
          · split <;> exact h'
    · exact h'
theorem doR_n (x : Rc) (e : En) : (doR x e).1.n = x.n := by
  unfold doR
  split
  · exact own_n x e
  · split
    · exact letter_n x e
    · rfl
theorem RcOk.dst {H : Cm → Prop} (h : RcOk H x) : ∀ l ∈ x.row, 0 ≤ l.2.1 ∧ l.2.1 < x.n := by
  obtain ⟨G, h1, h2⟩ := h.inv
  exact fun l hl => (h2 l hl).2
theorem each_mem {X : Type} {P : X → List Value → Prop} {l : List X} {css : List (List Value)} (h : Each P l css) {a : X} (ha : a ∈ l) : ∃ cs, P a cs := by
  induction h with
  | nil => cases ha
  | cons h1 h2 ih =>
    rcases List.mem_cons.1 ha with rfl | ha
    · exact ⟨_, h1⟩
    · exact ih ha
theorem RcAt.letters {w : World} {T : Nat → Prop} {g : Rg} (h : RcAt w T g x) : ∀ l ∈ x.row, MgOk l.2.2 := by
  obtain ⟨css, he, -⟩ := h.row
  intro l hl
  obtain ⟨cs, h1, ks, -, h2⟩ := each_mem he hl
  exact ⟨h1.1, h1.2.1, h1.2.2.1, h1.2.2.2.1, h2.1, h1.2.2.2.2⟩
theorem runR_step {l : List En} {i : Nat} {e : En} {out : List Tl} (h : l[i]? = some e) : runR (l.drop i) x out = if (doR x e).2.e = 50 then ((doR x e).1, out, 50) else runR (l.drop (i + 1)) (doR x e).1 (out ++ [(doR x e).2]) := by
  obtain ⟨hi, he⟩ := List.getElem?_eq_some_iff.1 h
  rw [List.drop_eq_getElem_cons hi, he]
  rfl
theorem runR_end {l : List En} {i : Nat} {out : List Tl} (h : l.length ≤ i) : runR (l.drop i) x out = (x, out, 0) := by
  rw [List.drop_eq_nil_of_le h]
  rfl
end
theorem en_get {w : World} {T : Nat → Prop} {v : Value} {l : List En} (h : enK.row w T v l) : ∃ (xo : Option Addr) (c : Nat), v = .slice xo l.length c ∧ l.length ≤ c ∧ c ≤ maxLen ∧
    ∀ i e, l[i]? = some e → ∃ b off torn pick ka kc, xo = some ⟨b, off, none⟩ ∧ b < w.heap.size ∧ e.cmd.Fits ∧ Strs w T (.slice ka e.cmd.keys.length kc) e.cmd.keys ∧
      ∀ j u, (enc e torn pick (.slice ka e.cmd.keys.length kc))[j]? = some u → w.cell? ⟨b, off + i * 12 + j, none⟩ = some u := by
  obtain ⟨xo, c, rfl, h1, h2, hg⟩ := Row.get enK.hz h
  refine ⟨xo, c, rfl, h1, h2, fun i e hi => ?_⟩
  obtain ⟨b, off, cs, rfl, hb, hT, ⟨fit, torn, pick, ks, rfl, hks⟩, -, hcell⟩ := hg i e hi
  obtain ⟨ka, kc, rfl, -, -, -⟩ := hks.get
  exact ⟨b, off, torn, pick, ka, kc, rfl, hb, fit, hks, fun j u hj => hcell j u hj⟩
abbrev TTl : TypeId := 25
theorem infoTd : (Tryz.prog.info? TTd).map (fun i => (i.zero, i.size, i.bytes)) = some (some (.agg #[.int .i64 0, .int .i64 0, .slice none 0 0, .slice none 0 0]), 4, 64) := by kernel_rfl
theorem src_td {w : World} {b : Nat} {a c u v : Value} {t : TypeId} (h : w.heap[b]? = some (.cells #[a, c, u, v] t (0, 0))) (h1 : ∀ y ∈ [a, c, u, v], y.oneCell' = true) : SrcAt w (some ⟨b, 0, none⟩) 1 1 [a, c, u, v] 4 := by
  refine ⟨rfl, h1, by simp, fun q e j y hj => ?_⟩
  cases e
  rw [add_plain]
  simp only [World.cell?, h]
  simpa using hj
theorem tlOwn_mono {w : World} {b : Nat} {T T' : Nat → Prop} {v : Value} {l : List Tl} (h : Own w b TTd 4 (tlK.holds w T) v l) (hT : ∀ k, T k → T' k) : Own w b TTd 4 (tlK.holds w T') v l :=
  h.upd (Upd.refl [] w) (by simp) fun y cs _ hy => tlK.mono hy hT
theorem RcAt.foreignO {w w' : World} {T : Nat → Prop} {g : Rg} {x : Rc} {o : Option Nat} (h : RcAt w T g x) (hB : ∀ k, o = some k → ¬ g.M x.n k ∧ ¬ T k) (hu : Upd o.toList w w') : RcAt w' T g x := by
  cases o with
  | none => exact h.upd_nil hu
  | some b => exact h.foreign (hB b rfl) hu
/-- What stands in the midst of a run. -/
structure Rn (w : World) (T : Nat → Prop) (N p : Nat) (l : List En) (i : Nat) (so : Value) (wr : World) (x : Rc) (out : List Tl) (g : Rg) (T' : Nat → Prop) : Prop where
  p : g.p = p
  n : x.n = N
  run : runR (l.drop i) x out = runR l (rc0 N) []
  ok : RcOk (fun _ => True) x
  sg : ∀ r, r < N → SgOk i (x.xs r)
  at' : RcAt wr T' g x
  ow : Own wr 0 TTd 4 (tlK.holds wr T') so out
  oNew : ∀ k, so.ownBlock = some k → w.heap.size ≤ k ∧ ¬ g.M N k ∧ ¬ T' k
  upd : Upd [] w wr
  keep : ∀ k, T k → T' k
  newT : ∀ k, T' k → T k ∨ w.heap.size ≤ k
  newM : ∀ k, g.M N k → w.heap.size ≤ k
  outl : out.length ≤ i
theorem Rn.ri {w wr : World} {T T' : Nat → Prop} {N p i : Nat} {l : List En} {so : Value} {x : Rc} {out : List Tl} {g : Rg} (h : Rn w T N p l i so wr x out g T') (he : EnvM w (fun _ => False)) (hN : N ≤ 7) : Ri wr T' g i x := by
  have hn := h.n
  subst hn
  exact ⟨h.at', ⟨he.1.upd_nil h.upd, fun k hk => ⟨fun hm => by have := h.newM k hm; have := (he.2 k hk).2; omega, Nat.lt_of_lt_of_le (he.2 k hk).2 h.upd.size⟩⟩, h.sg, hN, h.ok.len⟩
set_option maxRecDepth 100000 in
set_option maxHeartbeats 4000000 in
theorem run_any {T : Nat → Prop} {n : Int} {l : List En} {vl : Value} (w : World) (he : EnvM w (fun _ => False)) (hT : ∀ k, T k → k < w.heap.size) (hl : enK.row w T vl l) (hll : l.length ≤ 1000) (hsm : ∀ e ∈ l, e.cmd.keys.length ≤ 1000000) :
    Calls Tryz.prog 12 #[.int .i64 n, vl] w fun e w' => ∃ T' v, e = .returned (.tuple #[v, .int .i64 (runM n l).2]) ∧ tlK.row w' T' v (runM n l).1 ∧ Upd [] w w' ∧ (∀ k, T k → T' k) ∧ ∀ k, T' k → T k ∨ w.heap.size ≤ k := by
  obtain ⟨xo, c, rfl, hc1, hc2, hget⟩ := en_get hl
  have HE := hide he; have HT := hide hT; have HGET := hide hget; have HSM := hide hsm
  simp only [maxLen] at hc2
  clear he hT hl hget hsm
  by_cases hbad : n < 1 ∨ 7 < n
  · have hrm : runM n l = ([], 1) := by unfold runM; rw [if_pos hbad]
    rw [hrm]
    have HBD := hide hbad
    clear hbad hrm
    go_enter Tryz.func12, Tryz.ntmps12
    go_wp2_with fail
    refine (rnew_bad w n HBD.out).mono ?_
    rintro e w' ⟨rfl, rfl⟩
    go_wp2_with fail
    go_ret2
    exact ⟨T, _, rfl, Kind.row_nil _ _ _, Upd.refl _ _, fun _ h => h, fun _ h => .inl h⟩
  · obtain ⟨N, hN⟩ : ∃ N : Nat, n = N := ⟨n.toNat, by omega⟩
    subst hN
    have hN1 : 1 ≤ N := by omega
    have hN7 : N ≤ 7 := by omega
    have hrm : runM (N : Int) l = (runR l (rc0 N) []).2 := by unfold runM; rw [if_neg hbad]; rfl
    rw [hrm]
    clear hbad hrm
    obtain ⟨i1, hi1, iz0, iz1, iz2⟩ := info_parts infoTd
    go_enter Tryz.func12, Tryz.ntmps12
    go_wp2_with fail
    refine (rnew_any (T := T) w hN1 hN7 HT.out).mono ?_
    rintro e w1 ⟨g, rfl, hR, hU, hnew⟩
    have R1 := hide hR; have U1 := hide hU; have NW := hide hnew
    clear hR hU hnew
    go_wp2_with fail
    go_loopw [8, 22] (fun so si wx => ∃ i : Nat, i ≤ l.length ∧ si = .int .i64 i ∧ ∃ x out g' T', Rn w T N g.p l i so wx x out g' T') (fun so si wx => l.length - (RowKit.intOf si).toNat)
    case atStart =>
      exact ⟨0, by omega, rfl, rc0 N, [], g, T, rfl, rfl, rfl, RcOk.zero _ N, fun r hr => SgOk.zero hr hN7, R1.out, Own.nil _ _ _ _ _, fun k hk => (by cases hk), U1.out, fun _ h => h, fun _ h => .inl h, NW.out, by simp⟩
    case round =>
      obtain ⟨i, hi, rfl, x, out, g', T', hrn⟩ := hrel
      have RN := hide hrn
      obtain ⟨ao, cap, hso, hs1, hs2, -⟩ := owns_slice hrn.ow.choose_spec.2.2
      rw [hso] at hrn RN ⊢
      have hp := hrn.p
      rw [← hp]
      have HP := hide hp
      clear hrn R1 U1 NW hso hp
      simp only [maxLen] at hs2
      by_cases hlt : i < l.length
      · have e1 : decide ((i : Int) < l.length) = true := by simp; omega
        have e1' : decide (i < l.length) = true := by simpa using hlt
        obtain ⟨e, hei⟩ : ∃ e, l[i]? = some e := ⟨_, List.getElem?_eq_getElem hlt⟩
        obtain ⟨b, off, torn, pick, ka, kc, rfl, hbl, fit, hks, hcell⟩ := HGET.out i e hei
        have cc : ∀ j u, (enc e torn pick (.slice ka e.cmd.keys.length kc))[j]? = some u → wr.cell? ⟨b, off + i * 12 + j, none⟩ = some u := fun j u hj => cell_upd (hcell j u hj) RN.out.upd (by simp)
        have x0 : wr.cell? ⟨b, off + i * 12, none⟩ = some (.int .u8 (e.kind : Int)) := cc 0 _ rfl; have x1 := cc 1 _ rfl; have x2 := cc 2 _ rfl; have x3 := cc 3 _ rfl; have x4 := cc 4 _ rfl; have x5 := cc 5 _ rfl; have x6 := cc 6 _ rfl; have x7 := cc 7 _ rfl; have x8 := cc 8 _ rfl; have x9 := cc 9 _ rfl; have x10 := cc 10 _ rfl; have x11 := cc 11 _ rfl
        simp only [strV] at x9 x10
        have KY := hide (show Ky wr T' (.slice ka e.cmd.keys.length kc) e.cmd from ⟨fit, (hks.upd RN.out.upd (by simp)).mono RN.out.keep⟩)
        have SM := hide (show Sm e.cmd from ⟨fit, HSM.out e (List.mem_of_getElem? hei)⟩)
        have HEI := hide hei
        clear cc hcell hks fit hei
        have hN := blk_new wr (.cells (enA e torn pick (.slice ka e.cmd.keys.length kc)) TEn)
        have hal := (Upd.refl [] wr).alloc (.cells (enA e torn pick (.slice ka e.cmd.keys.length kc)) TEn)
        go_upto_region 8 with fail
        change Code.wp _ _ _ _ (wr.alloc (.cells (enA e torn pick (.slice ka e.cmd.keys.length kc)) TEn))
        obtain ⟨w3, hw3⟩ : ∃ w3, wr.alloc (.cells (enA e torn pick (.slice ka e.cmd.keys.length kc)) TEn) = w3 := ⟨_, rfl⟩
        rw [hw3] at hN hal ⊢
        obtain ⟨Q, hQ⟩ : ∃ Q, wr.heap.size = Q := ⟨_, rfl⟩
        rw [hQ] at hN ⊢
        clear hw3 x0 x1 x2 x3 x4 x5 x6 x7 x8 x9 x10 x11 e1 e1'
        have AL := hide hal
        have RI := hide ((RN.out.ri HE.out hN7).upd_nil hal)
        have xn := RN.out.n
        obtain ⟨z0, z1, z2, z5, z6, z7, z8, z9, z10, z11⟩ := en_cells hN
        obtain ⟨z3, z4⟩ := en_cells12 hN
        clear hN hal hQ
        obtain ⟨dr, hdr⟩ : ∃ dr, doR x e = dr := ⟨_, rfl⟩
        have HDR := hide hdr
        have hdo := do_any (torn := torn) (pick := pick) (ks := .slice ka e.cmd.keys.length kc) w3 RI.out (by omega) RN.out.ok.dst (KY.out.upd AL.out (by simp)) SM.out
        rw [hdr] at hdo
        have HDO := hide hdo
        clear hdr hdo
        go_wp2_with fail
        refine HDO.out.mono ?_
        rintro y w4 ⟨v, rfl, T2, g2, va, vd, rfl, hgp, hR2, hE2, hva, hvd⟩
        have DN : dr.1.n = N := by rw [← HDR.out, doR_n]; exact xn
        obtain ⟨xa, ca, rfl⟩ := row_slice hva
        obtain ⟨xd, cd, rfl⟩ := row_slice hvd
        rw [xn] at hE2
        have apM : ∀ k, T' k → ¬ g'.M N k := by have := RI.out.at'.apt.apart; rw [xn] at this; exact this
        have O4 : Own w4 0 TTd 4 (tlK.holds w4 T2) (.slice ao out.length cap) out := by
          obtain ⟨S, hS, hu⟩ := (Ext.of_nil AL.out T' (g'.M N)).trans hE2 |>.upd
          exact RN.out.ow.upd hu (fun k hk hm => (RN.out.oNew k hk).2.1 (hS k hm)) fun y cs _ hy => tlK.mono (tlK.upd hy hu fun k hk ht => apM k ht (hS k hk)) hE2.keep
        have R4 := hide hR2; have E4 := hide ((Ext.of_nil AL.out T' (g'.M N)).trans hE2); have VA := hide hva; have VD := hide hvd; have OO := hide O4; have GP := hide hgp; have DNN := hide DN
        have HZ := hide (RN.out.upd.size)
        clear z0 z1 z2 z3 z4 z5 z6 z7 z8 z9 z10 z11 hR2 hE2 hva hvd O4 hgp DN xn
        have hC := blk_new w4 (.cells #[.int .i64 dr.2.r, .int .i64 dr.2.e, .slice xa dr.2.ans.length ca, .slice xd dr.2.done.length cd] TTd)
        have hal := (Upd.refl [] w4).alloc (.cells #[.int .i64 dr.2.r, .int .i64 dr.2.e, .slice xa dr.2.ans.length ca, .slice xd dr.2.done.length cd] TTd)
        go_upto_region 9 with fail
        obtain ⟨w5, hw5⟩ : ∃ w5, w4.alloc (.cells #[.int .i64 dr.2.r, .int .i64 dr.2.e, .slice xa dr.2.ans.length ca, .slice xd dr.2.done.length cd] TTd) = w5 := ⟨_, rfl⟩
        change Code.wp _ _ _ _ (w4.alloc (.cells #[.int .i64 dr.2.r, .int .i64 dr.2.e, .slice xa dr.2.ans.length ca, .slice xd dr.2.done.length cd] TTd))
        rw [hw5] at hC hal ⊢
        obtain ⟨C, hCs⟩ : ∃ C, w4.heap.size = C := ⟨_, rfl⟩
        rw [hCs] at hC ⊢
        have ow : ∀ k, (Value.slice ao out.length cap).ownBlock = some k → ¬ g2.M N k ∧ ¬ T2 k := fun k hk => E4.out.not (Own.lt RN.out.ow k hk).2 (RN.out.oNew k hk).2
        have OW := hide ow
        have R5 := hide (R4.out.upd_nil hal); have E5 := hide (E4.out.on hal (by simp)); have O5 := hide (OO.out.upd hal (by simp) fun y cs _ hy => tlK.upd hy hal (by simp)); have VA5 := hide (anK.row_upd VA.out hal (by simp)); have VD5 := hide (Tr.cmK.row_upd VD.out hal (by simp))
        have hU5 : Upd [] w w5 := by
          obtain ⟨S, hS, hu⟩ := E5.out.upd
          exact RN.out.upd.trans_new hu fun k hk => .inr (RN.out.newM k (hS k hk))
        have U5 := hide hU5
        have NT2 : Hid (∀ k, T2 k → T k ∨ w.heap.size ≤ k) := hide fun k hk => by
          rcases E5.out.newT k hk with h5 | h5
          · exact RN.out.newT k h5
          · have := HZ.out; exact .inr (by omega)
        obtain ⟨t0, t1, t2, t3, tf⟩ := td_cells hC
        have hstep := runR_step (x := x) (out := out) HEI.out
        rw [RN.out.run, HDR.out] at hstep
        have HST := hide hstep
        clear hw5 hC hal hCs ow hU5 hstep R4 E4 OO VA VD
        by_cases h50 : dr.2.e = 50
        · have d50 : (dr.2.e == 50) = true := by simpa using h50
          have HF := hide h50
          clear h50
          go_wp2_with fail
          go_ret2
          rw [HST.out, if_pos HF.out]
          refine ⟨fun k => T2 k ∨ (Value.slice ao out.length cap).ownBlock = some k, _, rfl, ?_, U5.out, fun k hk => .inl (E5.out.keep k (RN.out.keep k hk)), fun k hk => ?_⟩
          · exact (O5.out.row.mono (fun k hk => .inr hk) fun y cs _ hy => tlK.mono hy fun k hk => .inl hk)
          · rcases hk with hk | hk
            · exact NT2.out k hk
            · exact .inr (RN.out.oNew k hk).1
        · have d50 : (dr.2.e == 50) = false := by simpa using h50
          have HF := hide h50
          clear h50
          have hN := blk_new w5 (.cells #[.int .i64 dr.2.r, .int .i64 dr.2.e, .slice xa dr.2.ans.length ca, .slice xd dr.2.done.length cd] TTd)
          have hal := (Upd.refl [] w5).alloc (.cells #[.int .i64 dr.2.r, .int .i64 dr.2.e, .slice xa dr.2.ans.length ca, .slice xd dr.2.done.length cd] TTd)
          obtain ⟨w6, hw6⟩ : ∃ w6, w5.alloc (.cells #[.int .i64 dr.2.r, .int .i64 dr.2.e, .slice xa dr.2.ans.length ca, .slice xd dr.2.done.length cd] TTd) = w6 := ⟨_, rfl⟩
          rw [hw6] at hN hal
          have SR := hide (src_td hN (by simp [Value.oneCell']))
          have R6 := hide (R5.out.upd_nil hal); have E6 := hide (E5.out.on hal (by simp)); have O6 := hide (O5.out.upd hal (by simp) fun y cs _ hy => tlK.upd hy hal (by simp)); have VA6 := hide (anK.row_upd VA5.out hal (by simp)); have VD6 := hide (Tr.cmK.row_upd VD5.out hal (by simp)); have U6 := hide (U5.out.trans hal)
          obtain ⟨css, hes, hbb, hown⟩ := O6.out
          have HES := hide hes; have HBB := hide hbb; have HOW := hide hown
          clear hN hal hes hbb hown R5 E5 O5 VA5 VD5 U5
          have hol : out.length ≤ i := RN.out.outl
          go_wp2_with (at_builtin; go_must (refine wpList_append_src _ rfl _ _ 25 rfl 0 TTd i1 (.agg #[.int .i64 0, .int .i64 0, .slice none 0 0, .slice none 0 0]) 4 64 Tryz.underlying25 hi1 iz0 iz1 iz2 rfl (by decide) (.slice ao out.length cap) out.length css.flatten rfl HOW.out (some ⟨w5.heap.size, 0, none⟩) 1 1 [.int .i64 dr.2.r, .int .i64 dr.2.e, .slice xa dr.2.ans.length ca, .slice xd dr.2.done.length cd] rfl SR.out (by unfold maxLen; omega) (by omega) (by omega) ?_))
          intro ao7 cap7 w7 hown7 hU7 hn7
          have far : ∀ k ∈ (Value.slice ao out.length cap).ownBlock.toList, ¬ T2 k := fun k hk => (OW.out k (by simpa using hk)).2
          have hx : tlK.holds w7 T2 dr.2 [.int .i64 dr.2.r, .int .i64 dr.2.e, .slice xa dr.2.ans.length ca, .slice xd dr.2.done.length cd] := ⟨_, _, rfl, anK.row_upd VA6.out hU7 far, Tr.cmK.row_upd VD6.out hU7 far⟩
          have hown8 : Own w7 0 TTd 4 (tlK.holds w7 T2) (.slice ao7 (out.length + 1) cap7) (out ++ [dr.2]) := Own.more (HES.out.mono (Q := tlK.holds w7 T2) fun y cs _ hy => tlK.upd hy hU7 far) HBB.out hx rfl (by simp [Value.oneCell']) rfl hown7
          have RN2 : Hid (Rn w T N g'.p l (i + 1) (.slice ao7 (out.length + 1) cap7) w7 dr.1 (out ++ [dr.2]) g2 T2) := hide (by
            have hz6 := E6.out.size
            refine ⟨GP.out, DNN.out, ?_, ?_, ?_, R6.out.foreignO (fun k hk => by rw [DNN.out]; exact OW.out k hk) hU7, hown8, fun k hk => ?_, U6.out.trans_new hU7 fun k hk => .inr (RN.out.oNew k (by simpa using hk)).1, fun k hk => E6.out.keep k (RN.out.keep k hk), NT2.out, fun k hk => ?_, ?_⟩
            · rw [HST.out, if_neg HF.out]
            · have := RN.out.ok.do (e := e) (fun _ => trivial)
              rw [HDR.out] at this
              exact this
            · have := doR_sg (x := x) (e := e) (L := i) (by rw [RN.out.n]; exact RN.out.sg) (by omega) RN.out.at'.letters SM.out
              rw [HDR.out, RN.out.n] at this
              exact this
            · rcases hn7 k hk with h5 | h5
              · exact ⟨(RN.out.oNew k h5).1, OW.out k h5⟩
              · refine ⟨by have := U6.out.size; omega, fun hm => ?_, fun ht => ?_⟩
                · have := R6.out.apt.ltM k (by rw [DNN.out]; exact hm); omega
                · have := R6.out.apt.ltT k ht; omega
            · rcases E6.out.newM k hk with h5 | h5
              · exact RN.out.newM k h5
              · have := HZ.out; omega
            · rw [List.length_append, List.length_singleton]; omega)
          clear hown7 hU7 hn7 far hx hown8 R6 E6 O6 VA6 VD6 U6 SR HES HBB HOW hw6 t0 t1 t2 t3 tf d50
          go_wp2_with fail
          go_roundw
          case rel => exact ⟨i + 1, by omega, by go_num, _, _, _, _, RN2.out⟩
          case measure => simp [RowKit.intOf]; omega
      · have e1 : decide ((i : Int) < l.length) = false := decide_eq_false (by omega)
        have e1' : decide (i < l.length) = false := decide_eq_false hlt
        have hend := RN.out.run
        rw [runR_end (by omega)] at hend
        have HEND := hide hend
        clear hend
        go_wp2_with fail
        go_ret2
        rw [← HEND.out]
        refine ⟨fun k => T' k ∨ (Value.slice ao out.length cap).ownBlock = some k, _, rfl, ?_, RN.out.upd, fun k hk => .inl (RN.out.keep k hk), fun k hk => ?_⟩
        · exact (RN.out.ow.row.mono (fun k hk => .inr hk) fun y cs _ hy => tlK.mono hy fun k hk => .inl hk)
        · rcases hk with hk | hk
          · exact RN.out.newT k hk
          · exact .inr (RN.out.oNew k hk).1
end Go.Proofs.YtanjnhohfcgapaaGreatDoor.Sg
