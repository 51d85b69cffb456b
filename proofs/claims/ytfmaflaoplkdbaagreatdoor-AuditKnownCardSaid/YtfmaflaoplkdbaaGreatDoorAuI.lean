/- audit.begun. -/
import Derived.Test.YtfmaflaoplkdbaaGreatDoorAuBCDE
import Derived.Test.YtfmaflaoplkdbaaGreatDoorAuF
import Derived.Test.YtfmaflaoplkdbaaGreatDoorPureAll
import Derived.Test.YtfmaflaoplkdbaaGreatDoorTrSA
import Derived.Test.YtfmaflaoplkdbaaGreatDoorTrL
import Derived.Test.YtfmaflaoplkdbaaGreatDoorTrIb
import Derived.Test.YtfmaflaoplkdbaaGreatDoorKvU
set_option linter.unusedSimpArgs false
set_option linter.unusedVariables false
set_option linter.unnecessarySimpa false
namespace Go.Proofs.YtfmaflaoplkdbaaGreatDoor.Au
open Go.RowKit Go.Proofs.YtfmaflaoplkdbaaGreatDoor.Crc Go.Proofs.YtfmaflaoplkdbaaGreatDoor.Cm Go.Proofs.YtfmaflaoplkdbaaGreatDoor.Tr Go.Proofs.YtfmaflaoplkdbaaGreatDoor.Kv
set_option linter.unusedSimpArgs false
set_option linter.unusedVariables false

/-- What has moved: two maps, an application, what is new. -/
def Moved (mw mp lo hi : Nat) (w w' : World) : Prop := ∃ S : List Nat, (∀ k ∈ S, k = mw ∨ k = mp ∨ (lo ≤ k ∧ k < hi) ∨ w.heap.size ≤ k) ∧ Upd S w w'
section
variable {mw mp lo hi : Nat} {w w1 w2 : World} {S : List Nat}
theorem Moved.refl (mw mp lo hi : Nat) (w : World) : Moved mw mp lo hi w w := ⟨[], by simp, Upd.refl _ _⟩
theorem Moved.step (h : Moved mw mp lo hi w w1) (hu : Upd S w1 w2) (hS : ∀ k ∈ S, k = mw ∨ k = mp ∨ (lo ≤ k ∧ k < hi) ∨ w.heap.size ≤ k) : Moved mw mp lo hi w w2 := by
  obtain ⟨S0, h0, h1⟩ := h
  refine ⟨S0 ++ S, fun k hk => ?_, (h1.mono (by simp +contextual)).trans (hu.mono (by simp +contextual))⟩
  rcases List.mem_append.1 hk with h | h
  · exact h0 k h
  · exact hS k h
theorem Moved.nil (h : Moved mw mp lo hi w w1) (hu : Upd [] w1 w2) : Moved mw mp lo hi w w2 := h.step hu (by simp)
theorem Moved.turned (h : Moved mw mp lo hi w w1) (hu : Turned lo hi w1 w2) : Moved mw mp lo hi w w2 := by
  obtain ⟨S, h1, h2⟩ := hu
  exact h.step h2 fun k hk => .inr (.inr (.inl (h1 k hk)))
theorem Moved.get {b : Nat} {o : Obj} (h : Moved mw mp lo hi w w1) (hb : w.heap[b]? = some o) (h1 : b ≠ mw) (h2 : b ≠ mp) (h3 : b < lo ∨ hi ≤ b) : w1.heap[b]? = some o := by
  obtain ⟨S, k1, k2⟩ := h
  exact k2.get hb (fun hm => by have := k1 b hm; have := blk_lt hb; omega)
theorem Moved.cell {b i : Nat} {u : Value} (h : Moved mw mp lo hi w w1) (hb : w.cell? ⟨b, i, none⟩ = some u) (h1 : b ≠ mw) (h2 : b ≠ mp) (h3 : b < lo ∨ hi ≤ b) : w1.cell? ⟨b, i, none⟩ = some u := by
  obtain ⟨S, k1, k2⟩ := h
  exact cellU hb k2 (fun hm => by have := k1 b hm; have := World.block_lt_of_cell? w _ hb; simp at this; omega)
theorem Moved.out {w0 : World} (h : Moved mw mp lo hi w w1) (hu : Upd [] w0 w) (h1 : w0.heap.size ≤ mw) (h2 : w0.heap.size ≤ mp) (h3 : w0.heap.size ≤ lo) : Upd [] w0 w1 := by
  obtain ⟨S, k1, k2⟩ := h
  exact hu.trans_new k2 (fun k hk => .inr (by have := k1 k hk; have := hu.size; omega))
theorem Moved.size (h : Moved mw mp lo hi w w1) : w.heap.size ≤ w1.heap.size := by
  obtain ⟨S, k1, k2⟩ := h
  exact k2.size
end
/-- What is there ahead of a slot's command. -/
structure Bg (w2 wr : World) (mw mp lo hi p : Nat) (wm : Nat → Option Bool) (cs : List Cm) (a : Ap) : Prop where
  mv : Moved mw mp lo hi w2 wr
  wro : slbK wr mw wm
  pl : plK wr mp (plM cs)
  ap : ApIs wr lo hi p a
  ok : ApOk a cs.length
section
variable {mw mp lo hi p : Nat} {w2 wr w' : World} {wm : Nat → Option Bool} {cs : List Cm} {a : Ap} {S : List Nat}
theorem Bg.nil (h : Bg w2 wr mw mp lo hi p wm cs a) (hu : Upd [] wr w') : Bg w2 w' mw mp lo hi p wm cs a :=
  ⟨h.mv.nil hu, h.wro.upd_nil hu, h.pl.upd_nil hu, h.ap.upd_nil hu, h.ok⟩
theorem ApIs.apart {w w' : World} {lo hi p : Nat} {a : Ap} {S : List Nat} (h : ApIs w lo hi p a) (hu : Upd S w w') (hS : ∀ k ∈ S, k < lo ∨ hi ≤ k) : ApIs w' lo hi p a := by
  obtain ⟨sb, sg, tb, tc, tg, h, h1, h2, h3, h4, h5, h6, h7, h8, h9, h10, h11, h12⟩ := h
  have key : ∀ k, lo ≤ k → k < hi → k ∉ S := fun k q1 q2 hk => by have := hS k hk; omega
  exact ⟨sb, sg, tb, tc, tg, h.upd hu (key _ h1 h2) (key _ h3 h4) (key _ h5 h6) (key _ h7 h8) (key _ h9 h10) (key _ h11 h12), h1, h2, h3, h4, h5, h6, h7, h8, h9, h10, h11, h12⟩
theorem Bg.new (h : Bg w2 wr mw mp lo hi p wm cs a) (hu : Upd S wr w') (hS : ∀ k ∈ S, w2.heap.size ≤ k) (h1 : mw < w2.heap.size) (h2 : mp < w2.heap.size) (h3 : hi ≤ w2.heap.size) : Bg w2 w' mw mp lo hi p wm cs a :=
  ⟨h.mv.step hu (fun k hk => .inr (.inr (.inr (hS k hk)))), h.wro.upd hu (fun hm => by have := hS _ hm; omega), h.pl.upd hu (fun hm => by have := hS _ hm; omega), ApIs.apart h.ap hu (fun k hk => by have := hS k hk; omega), h.ok⟩
theorem Bg.turn {a' : Ap} {c : Cm} (h : Bg w2 wr mw mp lo hi p wm cs a) (hu : Turned lo hi wr w') (ha : ApIs w' lo hi p a') (ho : ApOk a' (cs ++ [c]).length) (hp : plK wr mp (plM (cs ++ [c]))) (h1 : mw < lo) (h2 : mp < lo) : Bg w2 w' mw mp lo hi p wm (cs ++ [c]) a' := by
  have hu0 := hu
  obtain ⟨S, k1, k2⟩ := hu
  exact ⟨h.mv.turned hu0, h.wro.upd k2 (fun hm => by have := k1 _ hm; omega), hp.upd k2 (fun hm => by have := k1 _ hm; omega), ha, ho⟩
theorem Bg.wrong {wm' : Nat → Option Bool} (h : Bg w2 wr mw mp lo hi p wm cs a) (hu : Upd [mw] wr w') (hw : slbK w' mw wm') (h1 : mw ≠ mp) (h2 : mw < lo) : Bg w2 w' mw mp lo hi p wm' cs a :=
  ⟨h.mv.step hu (fun k hk => .inl (by simpa using hk)), hw, h.pl.upd hu (by simpa using fun e => h1 e.symm), ApIs.apart h.ap hu (fun k hk => by simp at hk; omega), h.ok⟩
end
theorem maps6 (w : World) (z : Nat) (hz : w.heap.size = z) (o : Obj) (W : World) (hW : (((((((w.alloc (.map #[] 0)).alloc (.map #[] 0)).alloc (.map #[] 0)).alloc (.map #[] 0)).alloc (.map #[] 0)).alloc (.map #[] 0)).alloc o) = W) :
    W.heap[z]? = some (.map #[] 0) ∧ W.heap[z + 1]? = some (.map #[] 0) ∧ W.heap[z + 2]? = some (.map #[] 0) ∧ W.heap[z + 3]? = some (.map #[] 0) ∧ W.heap[z + 4]? = some (.map #[] 0) ∧ W.heap[z + 5]? = some (.map #[] 0) ∧ W.heap[z + 6]? = some o ∧ Upd [] w W ∧ W.heap.size = z + 7 := by
  subst hW
  have key : ∀ (w : World) (n : Nat) (o : Obj), w.heap.size = n → (w.alloc o).heap[n]? = some o ∧ (w.alloc o).heap.size = n + 1 := fun w n o h => ⟨by rw [← h]; exact blk_new w o, by simp [h]⟩
  obtain ⟨a0, s0⟩ := key w z (.map #[] 0) hz
  obtain ⟨a1, s1⟩ := key _ (z + 1) (.map #[] 0) s0
  obtain ⟨a2, s2⟩ := key _ (z + 2) (.map #[] 0) s1
  obtain ⟨a3, s3⟩ := key _ (z + 3) (.map #[] 0) s2
  obtain ⟨a4, s4⟩ := key _ (z + 4) (.map #[] 0) s3
  obtain ⟨a5, s5⟩ := key _ (z + 5) (.map #[] 0) s4
  obtain ⟨a6, s6⟩ := key _ (z + 6) o s5
  refine ⟨?_, ?_, ?_, ?_, ?_, ?_, a6, ?_, s6⟩
  · exact blk_alloc (blk_alloc (blk_alloc (blk_alloc (blk_alloc (blk_alloc a0 _) _) _) _) _) _
  · exact blk_alloc (blk_alloc (blk_alloc (blk_alloc (blk_alloc a1 _) _) _) _) _
  · exact blk_alloc (blk_alloc (blk_alloc (blk_alloc a2 _) _) _) _
  · exact blk_alloc (blk_alloc (blk_alloc a3 _) _) _
  · exact blk_alloc (blk_alloc a4 _) _
  · exact blk_alloc a5 _
  · exact ((((((Upd.refl [] w).alloc _).alloc _).alloc _).alloc _).alloc _).alloc _ |>.alloc _
theorem an_src {w : World} {b : Nat} {a : An} {t : TypeId} (h : w.heap[b]? = some (.cells (anc a).toArray t (0, 0))) : SrcAt w (some ⟨b, 0, none⟩) 1 1 (anc a) 4 := by
  refine ⟨rfl, ?_, by simp, fun a' e j u hj => ?_⟩
  · intro u hu
    simp only [anc, strV, List.mem_cons, List.not_mem_nil, or_false] at hu
    rcases hu with rfl | rfl | rfl | rfl <;> rfl
  · cases e
    have h5 := blk_cell (i := j) h (by simpa using hj)
    by_cases h0 : j = 0
    · subst h0; simpa [Addr.add] using h5
    · simpa [Addr.add, h0] using h5
theorem allM_len {told : List To} (hd : ∀ t ∈ told, t.done.length ≤ 20) (ht : told.length ≤ 40) : (allM (told.map To.td)).length ≤ 800 := by
  unfold allM
  rw [List.length_flatMap]
  have : ∀ l : List To, (∀ t ∈ l, t.done.length ≤ 20) → ((l.map To.td).map fun t => (partedM t.done t.ans).length).sum ≤ 20 * l.length := by
    intro l
    induction l with
    | nil => simp
    | cons t l ih =>
      intro hl
      have h5 := hl t (by simp)
      have h6 := ih (fun x hx => hl x (by simp [hx]))
      simp only [List.map_cons, List.sum_cons, List.length_cons]
      rw [partedM_len]
      have : t.td.done.length = t.done.length := rfl
      omega
  have := this told hd
  omega
noncomputable def beOps13 : Array Oper := findOps 13 ((Tryz.f52.body).getD .skip)
noncomputable def beOps18 : Array Oper := findOps 18 ((Tryz.f52.body).getD .skip)
set_option maxRecDepth 100000 in
set_option maxHeartbeats 4000000 in
theorem begun_any {T : Nat → Prop} {lv tv : Value} {l : List En} {told : List To} (w : World) (he : EnvAt w) (hl : enK.row w T lv l) (ht : toK.row w T tv told) (hT : ∀ k, T k → k < w.heap.size)
    (hb : ∀ t ∈ told, t.done.length ≤ 20 ∧ t.ans.length ≤ 60 ∧ ∀ d ∈ t.done, d.2.length ≤ 2000) (h40 : told.length ≤ 40) :
    Calls Tryz.prog 52 #[lv, tv] w fun e w' => (∃ (H mb ma mn ms mw mp : Nat) (out : List Sl), e = .returned (.pointer (some ⟨H, 0, none⟩)) ∧ LogIs (allM (told.map To.td)) out ∧ w.heap.size ≤ mb ∧
      HAt w' T H mb ma mn ms mw mp lv tv (.slice none 0 0) ⟨fun _ => none, fun _ => none, [], fun _ => none, fun _ => none, wrongM ap0 out, plM (out.flatMap (·.cmds)), -1⟩) ∧ Upd [] w w' := by
  obtain ⟨xl, cpl, rfl, -, -⟩ := Row.slice hl
  obtain ⟨xo, cp, rfl, hcp, hcm⟩ := Row.slice ht
  have HL := hide hl; have HT := hide ht; have HE := hide he; have HB := hide hb; have HTT := hide hT
  clear hl ht he hb hT
  obtain ⟨i3, hi3, kz0, kz1, kz2⟩ := info_parts infoA
  obtain ⟨z, hz⟩ : ∃ z, w.heap.size = z := ⟨_, rfl⟩
  go_enter Tryz.func52, Tryz.ntmps52
  have hmm := @run_makeMap Tryz.prog
  go_upto_region 2 with fail
  obtain ⟨W0, hW0⟩ : ∃ W0, (((((((w.alloc (.map #[] 0)).alloc (.map #[] 0)).alloc (.map #[] 0)).alloc (.map #[] 0)).alloc (.map #[] 0)).alloc (.map #[] 0)).alloc (.cells #[.slice xl l.length cpl, .slice xo told.length cp, .map (some z), .map (some (z + 1)), .slice none 0 0, .map (some (z + 1 + 1)), .map (some (z + 1 + 1 + 1)), .map (some (z + 1 + 1 + 1 + 1)), .map (some (z + 1 + 1 + 1 + 1 + 1)), .int .i64 (-1)] THi)) = W0 := ⟨_, rfl⟩
  obtain ⟨a0, a1, a2, a3, a4, a5, a6, hu0, hs0⟩ := maps6 w z hz _ W0 hW0
  rw [hW0]
  clear hW0 hmm
  obtain ⟨ma, e1⟩ : ∃ ma, z + 1 = ma := ⟨_, rfl⟩
  obtain ⟨mn, e2⟩ : ∃ mn, ma + 1 = mn := ⟨_, rfl⟩
  obtain ⟨ms, e3⟩ : ∃ ms, mn + 1 = ms := ⟨_, rfl⟩
  obtain ⟨mw, e4⟩ : ∃ mw, ms + 1 = mw := ⟨_, rfl⟩
  obtain ⟨mp, e5⟩ : ∃ mp, mw + 1 = mp := ⟨_, rfl⟩
  obtain ⟨H, e6⟩ : ∃ H, mp + 1 = H := ⟨_, rfl⟩
  rw [e1, e2, e3, e4, e5] at a6
  simp only [e1, e2, e3, e4, e5, e6]
  rw [show z + 2 = mn by omega] at a2
  rw [show z + 3 = ms by omega] at a3
  rw [show z + 4 = mw by omega] at a4
  rw [show z + 5 = mp by omega] at a5
  rw [show z + 6 = H by omega] at a6
  rw [e1] at a1
  have hord : z < ma ∧ ma < mn ∧ mn < ms ∧ ms < mw ∧ mw < mp ∧ mp < H ∧ H < W0.heap.size := by omega
  have A0 := hide a0; have A1 := hide a1; have A2 := hide a2; have A3 := hide a3; have A4 := hide a4; have A5 := hide a5; have A6 := hide a6; have U0 := hide hu0
  clear a0 a1 a2 a3 a4 a5 a6 hu0 e1 e2 e3 e4 e5 e6 hs0
  go_wp2_with fail
  refine (anew_any W0).mono ?_
  rintro e w1 ⟨⟨p, rfl, hap⟩, hu1⟩
  have hz1 := hu1.size
  obtain ⟨lo, hlo⟩ : ∃ lo, W0.heap.size = lo := ⟨_, rfl⟩
  obtain ⟨hi, hhi⟩ : ∃ hi, w1.heap.size = hi := ⟨_, rfl⟩
  rw [hlo] at hord hap hz1
  rw [hhi] at hap hz1
  have U1 := hide (U0.out.trans hu1); have AP := hide hap; have U01 := hide hu1
  have A61 := hide (hu1.get A6.out (by simp))
  clear hap hu1
  go_wp2_with fail
  have hbd : ∀ t ∈ told.map To.td, t.done.length ≤ 1000 ∧ t.ans.length ≤ 1000000 ∧ ∀ d ∈ t.done, d.2.length ≤ 1000000000000 := fun t ht => by
    obtain ⟨t', ht', rfl⟩ := List.mem_map.1 ht
    have h5 := HB.out t' ht'
    exact ⟨Nat.le_trans h5.1 (by omega), Nat.le_trans h5.2.1 (by omega), fun d hd => Nat.le_trans (h5.2.2 d hd) (by omega)⟩
  have hal := allM_len (fun t ht => (HB.out t ht).1) h40
  refine (log_any (T := T) (v := .slice xo told.length cp) w1 (HE.out.upd_nil U1.out).cnt (to_td (toK.row_upd_nil HT.out U1.out)) hbd (by omega)).mono ?_
  rintro e w2 ⟨⟨v', out, rfl, hlog, hrow⟩, hu2⟩
  have hlc := log_cmds hlog.1 (fun t ht => by obtain ⟨t', ht', rfl⟩ := List.mem_map.1 ht; exact (HB.out t' ht').1) (by simpa using h40)
  obtain ⟨xs, csl, rfl, hcs, hcsm, hsg⟩ := Row.get slK.hz hrow
  simp only [maxLen] at hcsm
  rw [hhi] at hsg
  have hz2 := hu2.size
  rw [hhi] at hz2
  have U2 := hide (U1.out.trans hu2); have AP2 := hide (AP.out.upd_nil hu2); have U02 := hide (U01.out.trans hu2); have LOG := hide hlog; have LC := hide hlc.2; have SG := hide hsg
  have hol := hlc.1
  have hb0 : Bg w2 w2 mw mp lo hi p (wrongM ap0 (out.take 0)) ((out.take 0).flatMap (·.cmds)) (apAll ap0 (out.take 0)) := ⟨Moved.refl _ _ _ _ _, ((FIs.of A4.out).upd_nil U02.out).congr fun k => rfl, ((FIs.of A5.out).upd_nil U02.out).congr fun k => rfl, AP2.out, ApOk.zero⟩
  have B0 := hide hb0
  clear hbd hal hlog hrow hu2 hlc hsg hb0 AP AP2
  go_wp2_with fail
  go_loopw [7, 32] (fun sn si wr => ∃ k : Nat, k ≤ out.length ∧ si = .int .i64 k ∧ sn = .int .i64 (((out.take k).flatMap (·.cmds)).length : Nat) ∧ Bg w2 wr mw mp lo hi p (wrongM ap0 (out.take k)) ((out.take k).flatMap (·.cmds)) (apAll ap0 (out.take k))) (fun _ si _ => out.length - (RowKit.intOf si).toNat)
  case atStart => exact ⟨0, by omega, rfl, rfl, B0.out⟩
  case round =>
    obtain ⟨k, hk, rfl, rfl, hbg⟩ := hrel
    have BG := hide hbg
    clear hbg
    by_cases hkl : k < out.length
    · have d5 : decide ((k : Int) < out.length) = true := by simp; omega
      have d5' : decide (k < out.length) = true := by simpa using hkl
      obtain ⟨s, hs⟩ : ∃ s, out[k]? = some s := ⟨_, List.getElem?_eq_getElem hkl⟩
      obtain ⟨bs, os, cs, rfl, hbs, hTs, ⟨hsf, vc, va, rfl, hvc, hva⟩, -, hcell⟩ := SG.out k s hs
      obtain ⟨xc, cc, rfl, hcc, hccm, hcg⟩ := cm_get hvc
      obtain ⟨xa, ca, rfl, -, -⟩ := Row.slice hva
      simp only [maxLen] at hccm
      have hT1 : hi ≤ bs ∧ bs < w2.heap.size := hTs
      have cx : ∀ j u, ([Value.int .u64 (s.slot : Int), .slice xc s.cmds.length cc, .slice xa s.ans.length ca] : List Value)[j]? = some u → wr.cell? ⟨bs, os + k * 3 + j, none⟩ = some u := fun j u hj => BG.out.mv.cell (hcell j u hj) (by omega) (by omega) (.inr hT1.1)
      have y0 : wr.cell? ⟨bs, os + k * 3, none⟩ = some (.int .u64 (s.slot : Int)) := cx 0 _ rfl
      have y1 : wr.cell? ⟨bs, os + k * 3 + 1, none⟩ = some (.slice xc s.cmds.length cc) := cx 1 _ rfl
      have y2 : wr.cell? ⟨bs, os + k * 3 + 2, none⟩ = some (.slice xa s.ans.length ca) := cx 2 _ rfl
      have HS := hide hs; have CG := hide hcg; have VA := hide hva
      have hk1 : k + 1 ≤ out.length := by omega
      clear hs hcg hva hvc hcell cx
      go_upto_region 7 with fail
      have hB := blk_new wr (.cells #[.int .u64 (s.slot : Int), .slice xc s.cmds.length cc, .slice xa s.ans.length ca] TSl)
      have hal := (Upd.refl [] wr).alloc (.cells #[.int .u64 (s.slot : Int), .slice xc s.cmds.length cc, .slice xa s.ans.length ca] TSl)
      change Code.wp _ _ _ _ (wr.alloc (.cells #[.int .u64 (s.slot : Int), .slice xc s.cmds.length cc, .slice xa s.ans.length ca] TSl))
      generalize wr.alloc (.cells #[.int .u64 (s.slot : Int), .slice xc s.cmds.length cc, .slice xa s.ans.length ca] TSl) = w3 at *
      obtain ⟨B, hBs⟩ : ∃ B, wr.heap.size = B := ⟨_, rfl⟩
      have hzB := BG.out.mv.size
      rw [hBs] at hB hzB ⊢
      have hzw3 := blk_lt hB
      have BG3 := hide (BG.out.nil hal); have SB := hide hB
      have c1 : w3.cell? ⟨B, 1, none⟩ = some (.slice xc s.cmds.length cc) := blk_cell hB rfl
      clear hB hal hBs y0 y1 y2 BG
      go_wp2_with fail
      obtain ⟨C0, hC0⟩ : ∃ C0, (out.take k).flatMap (·.cmds) = C0 := ⟨_, rfl⟩
      obtain ⟨A0, hA0⟩ : ∃ A0, apAll ap0 (out.take k) = A0 := ⟨_, rfl⟩
      obtain ⟨WM, hWM⟩ : ∃ WM, wrongM ap0 (out.take k) = WM := ⟨_, rfl⟩
      have hb3 := BG3.out
      rw [hC0, hA0, hWM] at hb3
      rw [hC0]
      have HC0 := hide hC0; have HA0 := hide hA0; have HWM := hide hWM; have BS := hide hb3
      clear hC0 hA0 hWM hb3 BG3 c1
      go_loopw [7, 10, 39] (fun sn sw sj wq => ∃ j : Nat, j ≤ s.cmds.length ∧ sj = .int .i64 j ∧ sn = .int .i64 ((C0.length + j : Nat) : Int) ∧ Own wq w2.heap.size 39 4 (fun a cs => a.Fits ∧ cs = anc a) sw (wantM A0 (s.cmds.take j)).1 ∧ (∀ g, sw.ownBlock = some g → g ≠ B) ∧
          Bg w2 wq mw mp lo hi p WM (C0 ++ s.cmds.take j) (wantM A0 (s.cmds.take j)).2 ∧ wq.heap[B]? = some (.cells #[.int .u64 (s.slot : Int), .slice xc s.cmds.length cc, .slice xa s.ans.length ca] TSl (0, 0))) (fun _ _ sj _ => s.cmds.length - (RowKit.intOf sj).toNat)
      case atStart => exact ⟨0, by omega, rfl, by simp, Own.nil _ _ _ _ _, by simp [Value.ownBlock], by rw [List.take_zero, List.append_nil]; exact BS.out, SB.out⟩
      case round =>
        obtain ⟨j, hj, rfl, rfl, how, hne, hbg, hsb⟩ := hrel
        have OW := hide how; have NE := hide hne; have BQ := hide hbg; have SQ := hide hsb
        obtain ⟨xw, cw, rfl, hcw, hcwm⟩ := Row.slice (Own.row how)
        rw [wantM_len] at hcw
        clear how hne hbg hsb
        by_cases hjl : j < s.cmds.length
        · have d6 : decide ((j : Int) < s.cmds.length) = true := by simp; omega
          have d6' : decide (j < s.cmds.length) = true := by simpa using hjl
          obtain ⟨c, hc⟩ : ∃ c, s.cmds[j]? = some c := ⟨_, List.getElem?_eq_getElem hjl⟩
          obtain ⟨bc, oc, ka, kc, rfl, hbc, hTc, fit, hks, hcells⟩ := CG.out j c hc
          have hT2 : hi ≤ bc ∧ bc < w2.heap.size := hTc
          obtain ⟨S, k1, k2⟩ := BQ.out.mv
          obtain ⟨c0, c1, c2, c3, c4, c5, c6⟩ := hcells.upd k2 hbc (fun hm => by have := k1 _ hm; omega)
          have hks2 : Strs wr (since hi w2) (.slice ka c.keys.length kc) c.keys := hks.upd k2 (fun k hk hm => by have := k1 _ hk; have := hm.1; have := hm.2; omega)
          have hclen : C0.length + j ≤ 6400 := by
            have h5 := LC.out (k + 1)
            rw [take_snoc HS.out, List.flatMap_append, List.length_append, HC0.out] at h5
            simp at h5
            omega
          have KS0 := hide hks2; have FIT := hide fit; have HCJ := hide hc; have CLEN := hide hclen
          have hj1 : j + 1 ≤ s.cmds.length := by omega
          clear k1 k2 S hcells hks hks2 fit hc hclen
          go_upto_region 11 with fail
          have hB := blk_new wr (.cells (cmc c (.slice ka c.keys.length kc)).toArray 25)
          have hal := (Upd.refl [] wr).alloc (.cells (cmc c (.slice ka c.keys.length kc)).toArray 25)
          have hszC : (wr.alloc (.cells (cmc c (.slice ka c.keys.length kc)).toArray 25)).heap.size = wr.heap.size + 1 := by simp
          change Code.wp _ _ _ _ ((wr.alloc (.cells (cmc c (.slice ka c.keys.length kc)).toArray 25)).alloc (.cells #[.int .u32 (c.client : Int), .int .u32 (c.seq : Int)] 192))
          generalize wr.alloc (.cells (cmc c (.slice ka c.keys.length kc)).toArray 25) = wx at *
          have hN := blk_new wx (.cells #[.int .u32 (c.client : Int), .int .u32 (c.seq : Int)] 192)
          have hal2 := (Upd.refl [] wx).alloc (.cells #[.int .u32 (c.client : Int), .int .u32 (c.seq : Int)] 192)
          generalize wx.alloc (.cells #[.int .u32 (c.client : Int), .int .u32 (c.seq : Int)] 192) = wy at *
          obtain ⟨C, hCs⟩ : ∃ C, wr.heap.size = C := ⟨_, rfl⟩
          have hzC := BQ.out.mv.size
          rw [hszC] at hN
          rw [hCs] at hB hN hzC ⊢
          have U35 := hal.trans hal2
          have CB1 := hide (hal2.get hB (by simp)); have NB1 := hide hN; have BQ1 := hide (BQ.out.nil U35); have SQ1 := hide (U35.get SQ.out (by simp)); have OW1 := hide (Own.upd OW.out U35 (by simp) (fun _ _ _ h => h)); have KS1 := hide (KS0.out.upd_nil U35)
          have H1 := hide (BQ1.out.mv.get (U02.out.get A6.out (by simp)) (by omega) (by omega) (.inl (by omega)))
          clear hB hal hszC hN hal2 hCs U35 c0 c1 c2 c3 c4 c5 c6 BQ SQ OW KS0
          have e0 : wy.cell? ⟨H, 8, none⟩ = some (.map (some mp)) := blk_cell H1.out rfl
          have e3 : wy.cell? ⟨C + 1, 0, none⟩ = some (.int .u32 (c.client : Int)) := blk_cell NB1.out rfl
          have e4 : wy.cell? ⟨C + 1, 1, none⟩ = some (.int .u32 (c.seq : Int)) := blk_cell NB1.out rfl
          have l1 := fun n => pl_look (BQ1.out.nil ((Upd.refl [] wy).drewN n)).pl c.client c.seq
          obtain ⟨CS, hCS⟩ : ∃ CS, C0 ++ s.cmds.take j = CS := ⟨_, rfl⟩
          obtain ⟨AA, hAA⟩ : ∃ AA, (wantM A0 (s.cmds.take j)).2 = AA := ⟨_, rfl⟩
          have bq1 := BQ1.out
          rw [hCS, hAA] at bq1
          rw [hCS] at l1
          have BQ1 := hide bq1
          clear bq1
          have HCS := hide hCS; have HAA := hide hAA
          have hcsl : CS.length = C0.length + j := by rw [← hCS]; simp; omega
          clear hCS hAA
          obtain ⟨o, ho⟩ : ∃ o, plM CS (c.client, c.seq) = o := ⟨_, rfl⟩
          obtain ⟨vo, hvo⟩ : ∃ vo, o.getD 0 = vo := ⟨_, rfl⟩
          obtain ⟨io, hio⟩ : ∃ io, o.isSome = io := ⟨_, rfl⟩
          rw [ho, hvo, hio] at l1
          have HO := hide ho; have HIO := hide hio; have HCSL := hide hcsl
          clear ho hvo hio hcsl
          go_quiet (fail)
          have u5 := (Upd.refl [] wy).drewN nq
          generalize wy.drewN nq = wm at *
          have BM := hide (BQ1.out.nil u5); have CB := hide (u5.get CB1.out (by simp)); have NB := hide (u5.get NB1.out (by simp)); have SM := hide (u5.get SQ1.out (by simp)); have KS := hide (KS1.out.upd_nil u5); have HM := hide (u5.get H1.out (by simp)); have OM := hide (Own.upd OW1.out u5 (by simp) (fun _ _ _ h => h))
          clear u5 BQ1 CB1 NB1 SQ1 KS1 H1 OW1 e0 e3 e4 l1
          cases io with
          | true =>
            have hpn : plK wm mp (plM (CS ++ [c])) := BM.out.pl.congr fun q => by
              cases ho : o with
              | none => have := HIO.out; rw [ho] at this; cases this
              | some y => exact (plM_old (c := c) (p := y) (by rw [← ho]; exact HO.out) q).symm
            have PN := hide hpn; have MV := hide BM.out.mv; have WR := hide BM.out.wro; have AP := hide BM.out.ap; have OKA := hide BM.out.ok
            clear hpn BM HM NB
            go_upto_region 14 with fail
            have hclv := CLEN.out
            have U5 := hide (MV.out.out U2.out (by omega) (by omega) (by omega))
            obtain ⟨b0, b1, b2, b3, b4, b5, b6⟩ := cell7 CB.out
            go_wp2_with fail
            have hda := ado_any (c := c) (T := since hi w2) (v := cmv c (.slice ka c.keys.length kc)) wm (HE.out.upd_nil U5.out) AP.out OKA.out (by have := CLEN.out; have := HCSL.out; omega) ⟨FIT.out, _, rfl, KS.out⟩
            obtain ⟨rr, hrr⟩ : ∃ rr, apDo AA c = rr := ⟨_, rfl⟩
            have hbd := apDo_bound (c := c) OKA.out (by have := CLEN.out; have := HCSL.out; omega)
            have hok := OKA.out.next (c := c) (by have := CLEN.out; have := HCSL.out; omega) FIT.out.1 FIT.out.2.1
            rw [hrr] at hda hbd hok
            simp only [cmv, strV, rpv] at hda
            have HRR := hide hrr; have BD := hide hbd; have OKN := hide hok
            clear hbd hok hrr b0 b1 b2 b3 b4 b5 b6
            refine hda.mono ?_
            rintro e w4 ⟨rfl, ha4, ht4⟩
            clear hda
            have hzt := ht4.size
            have CB4 := hide (ht4.get CB.out (.inr (by omega))); have SM4 := hide (ht4.get SM.out (.inr (by omega)))
            obtain ⟨TS, k1, k2⟩ := ht4
            have hTS : ∀ k ∈ TS, k ≠ mw ∧ k ≠ mp ∧ k < w2.heap.size := fun k hk => by have := k1 k hk; omega
            have BG4 := hide (show Bg w2 w4 mw mp lo hi p WM (CS ++ [c]) rr.1 from ⟨MV.out.turned ⟨TS, k1, k2⟩, WR.out.upd k2 (fun hm => (hTS _ hm).1 rfl), PN.out.upd k2 (fun hm => (hTS _ hm).2.1 rfl), ha4, by rw [List.length_append]; exact OKN.out⟩)
            have OW4 := hide (Own.upd OM.out k2 (fun k hk hm => by have := (Own.lt OM.out k hk).1; have := (hTS _ hm).2.2; omega) (fun _ _ _ h => h))
            clear k1 k2 hTS ha4 TS MV WR PN AP OKA OM CB SM
            go_upto_region 16 with fail
            clear hclv
            have hR := blk_new w4 (.cells #[.int .u8 (rr.2.1.code : Int), .string (strOf rr.2.1.text)] 37)
            have hal := (Upd.refl [] w4).alloc (.cells #[.int .u8 (rr.2.1.code : Int), .string (strOf rr.2.1.text)] 37)
            change Code.wp _ _ _ _ (w4.alloc (.cells #[.int .u8 (rr.2.1.code : Int), .string (strOf rr.2.1.text)] 37))
            generalize w4.alloc (.cells #[.int .u8 (rr.2.1.code : Int), .string (strOf rr.2.1.text)] 37) = w5 at *
            obtain ⟨R, hRs⟩ : ∃ R, w4.heap.size = R := ⟨_, rfl⟩
            rw [hRs] at hR ⊢
            have r0 : w5.cell? ⟨R, 0, none⟩ = some (.int .u8 (rr.2.1.code : Int)) := blk_cell hR rfl
            have r1 : w5.cell? ⟨R, 1, none⟩ = some (.string (strOf rr.2.1.text)) := blk_cell hR rfl
            have hcb5 := hal.get CB4.out (by simp)
            have b0 : w5.cell? ⟨C, 0, none⟩ = some (.int .u32 (c.client : Int)) := blk_cell hcb5 rfl
            have b1 : w5.cell? ⟨C, 1, none⟩ = some (.int .u32 (c.seq : Int)) := blk_cell hcb5 rfl
            have BG5 := hide (BG4.out.nil hal); have SM5 := hide (hal.get SM4.out (by simp)); have OW5 := hide (Own.upd OW4.out hal (by simp) (fun _ _ _ h => h))
            clear hR hal hcb5 BG4 SM4 OW4 CB4 hRs
            have hml : (wantM A0 (s.cmds.take j)).1.length = j := by rw [wantM_len, List.length_take]; omega
            have hj64 : j ≤ 6400 := by have := CLEN.out; omega
            obtain ⟨css, q1, q2, q3⟩ := OW5.out
            have HOWN := hide q3; have Q1 := hide q1; have Q2 := hide q2
            clear q1 q2 q3
            go_wp2_with (at_builtin; go_must (refine wpList_append_src _ rfl _ _ 46 rfl w2.heap.size 39 i3 (.agg #[.int .u32 0, .int .u32 0, .int .u8 0, .string ByteArray.empty]) 4 32 Tryz.underlying46 hi3 kz0 kz1 kz2 rfl (by decide) (.slice xw (wantM A0 (s.cmds.take j)).1.length cw) (wantM A0 (s.cmds.take j)).1.length css.flatten rfl (owns_upd HOWN.out ((Upd.refl [] w5).alloc _) (by simp)) (some ⟨w5.heap.size, 0, none⟩) 1 1 (anc ⟨c.client, c.seq, rr.2.1.code, rr.2.1.text⟩) rfl (an_src (blk_new _ _)) (by rw [hml]; unfold maxLen; omega) (by rw [hml]; omega) (by simp; have := BG5.out.mv.size; omega) ?_))
            intro ao6 cap6 w6 hown6 hU6 hn6
            have hgr := grown_upd hU6
            have hw6 : Own w6 w2.heap.size 39 4 (fun a cs => a.Fits ∧ cs = anc a) (.slice ao6 (j + 1) cap6) ((wantM A0 (s.cmds.take j)).1 ++ [⟨c.client, c.seq, rr.2.1.code, rr.2.1.text⟩]) :=
              Own.more Q1.out Q2.out ⟨by have := BD.out.2; show rr.2.1.text.length ≤ _; omega, rfl⟩ rfl (by intro u hu; simp only [anc, strV, List.mem_cons, List.not_mem_nil, or_false] at hu; rcases hu with rfl | rfl | rfl | rfl <;> rfl) (by rw [hml]) hown6
            have hws : wantM A0 (s.cmds.take (j + 1)) = ((wantM A0 (s.cmds.take j)).1 ++ [⟨c.client, c.seq, rr.2.1.code, rr.2.1.text⟩], rr.1) := by
              rw [take_snoc HCJ.out, wantM_snoc, HAA.out]
              unfold wantA
              rw [HRR.out]
            have ne := NE.out
            have ol := Own.lt OW5.out
            rw [hml] at ne ol
            have hBl := blk_lt SM5.out
            have NE6 := hide (show ∀ g, (Value.slice ao6 (j + 1) cap6).ownBlock = some g → g ≠ B from fun g hg => by
              rcases hn6 g hg with h5 | h5
              · exact ne g h5
              · omega)
            have SM6 := hide (hgr.get SM5.out (fun hm => ne B (by simpa using hm) rfl))
            have BG6 := hide (BG5.out.new hgr (fun k hk => (ol k (by simpa using hk)).1) (by omega) (by omega) (by omega))
            have hcs : CS ++ [c] = C0 ++ s.cmds.take (j + 1) := by rw [take_snoc HCJ.out, ← List.append_assoc, HCS.out]
            have W6 := hide hw6; have WS := hide hws; have CSS := hide hcs
            clear hown6 hU6 hn6 hgr hw6 hws ne ol hBl hcs r0 r1 b0 b1 BG5 SM5 OW5 HOWN Q1 Q2 hml
            go_wp2_with fail
            go_roundw
            case rel =>
              refine ⟨j + 1, hj1, by go_num, by go_num, ?_, NE6.out, ?_, SM6.out⟩
              · rw [WS.out]; exact W6.out
              · rw [← CSS.out, WS.out]; exact BG6.out
            case measure => simp [RowKit.intOf]; omega
          | false =>
            have hn : plM CS (cmNu c) = none := by
              cases ho : o with
              | none => rw [← ho]; exact HO.out
              | some y => have := HIO.out; rw [ho] at this; cases this
            have HN := hide hn
            clear hn
            go_upto_region 13 with fail
            have hHm : H ≠ mp := by omega
            have hCm : C + 1 ≠ mp := by omega
            refine wp_region_seq beOps13 (by kernel_rfl) [6] (Upd [mp] (wm.drewN 1)) (by kernel_rfl) (by kernel_rfl) (fun _ _ d _ _ h => by cases d <;> exact h) (Upd.refl _ _) ?_
            refine wpSeq_take (by kernel_rfl) (by kernel_rfl) ?_
            apply Exists.intro
            refine ⟨fun wx hS => ?_, fun a' ha => ?_⟩
            · go_simp; rfl
            simp only [Act.put, List.setIfInBounds_toArray, List.set_cons_succ, List.set_cons_zero] at ha
            subst ha
            refine wpSeq_take (by kernel_rfl) (by kernel_rfl) ?_
            apply Exists.intro
            refine ⟨fun wx hS => ?_, fun a' ha => ?_⟩
            · go_simp; rfl
            simp only [Act.put, List.setIfInBounds_toArray, List.set_cons_succ, List.set_cons_zero] at ha
            subst ha
            refine wpSeq_take (by kernel_rfl) (by kernel_rfl) ?_
            apply Exists.intro
            refine ⟨fun wx hS => ?_, fun a' ha => ?_⟩
            · go_simp; rfl
            simp only [Act.put, List.setIfInBounds_toArray, List.set_cons_succ, List.set_cons_zero] at ha
            subst ha
            refine wpSeq_take (by kernel_rfl) (by kernel_rfl) ?_
            apply Exists.intro
            refine ⟨fun wx hS => ?_, fun a' ha => ?_⟩
            · have c0 : wx.cell? ⟨H, 8, none⟩ = some (.map (some mp)) := blk_cell (hS.get (show (wm.drewN 1).heap[H]? = _ from HM.out) (by simpa using hHm)) rfl; go_simp; rfl
            simp only [Act.put, List.setIfInBounds_toArray, List.set_cons_succ, List.set_cons_zero] at ha
            subst ha
            refine wpSeq_take (by kernel_rfl) (by kernel_rfl) ?_
            apply Exists.intro
            refine ⟨fun wx hS => ?_, fun a' ha => ?_⟩
            · have hb := hS.get (show (wm.drewN 1).heap[C + 1]? = _ from NB.out) (by simpa using hCm); have c0 : wx.cell? ⟨C + 1, 0, none⟩ = some (.int .u32 (c.client : Int)) := blk_cell hb rfl; have c1 : wx.cell? ⟨C + 1, 1, none⟩ = some (.int .u32 (c.seq : Int)) := blk_cell hb rfl; go_simp; rfl
            simp only [Act.put, List.setIfInBounds_toArray, List.set_cons_succ, List.set_cons_zero] at ha
            subst ha
            refine wpSeq_take (by kernel_rfl) (by kernel_rfl) ?_
            apply Exists.intro
            refine ⟨fun wx hS => ?_, fun a' ha => ?_⟩
            · go_simp; rfl
            simp only [Act.put, List.setIfInBounds_toArray, List.set_cons_succ, List.set_cons_zero] at ha
            subst ha
            refine wpSeq_one (by kernel_rfl) (by kernel_rfl) (fun K hK => ?_)
            obtain ⟨wn, hr, hm3, hu3, hz3⟩ := pl_store (BM.out.nil ((Upd.refl [] wm).drewN 1)).pl c.client c.seq ((C0.length : Int) + (j : Int))
            have hr' : (Instr.mapUpdate 188 (.map (some mp)) (.agg #[.int .u32 (c.client : Int), .int .u32 (c.seq : Int)]) (.int .i64 ((C0.length : Int) + (j : Int)))).run Tryz.prog (wm.drewN 1) = .ok () wn := hr
            go_simp
            have bm := BM.out.nil ((Upd.refl [] wm).drewN 1)
            have hpn : plK wn mp (plM (CS ++ [c])) := hm3.congr fun q => by
              rw [plM_new HN.out, HCSL.out, Int.natCast_add]
              rfl
            have PN := hide hpn; have MV := hide (bm.mv.step hu3 (fun k hk => .inr (.inl (by simpa using hk)))); have WR := hide (bm.wro.upd hu3 (by simp; omega)); have AP := hide (ApIs.apart bm.ap hu3 (fun k hk => by simp at hk; omega)); have OKA := hide bm.ok
            have u3 : Upd [mp] wm wn := ((Upd.refl [mp] wm).drewN 1).trans hu3
            have CBn := hide (u3.get CB.out (by simp; omega)); have SMn := hide (u3.get SM.out (by simp; omega)); have KSn := hide (KS.out.upd u3 (fun k hk hm => by have := hm.1; simp at hk; omega)); have OMn := hide (Own.upd OM.out u3 (fun k hk hm => by have := (Own.lt OM.out k hk).1; simp at hm; omega) (fun _ _ _ h => h))
            refine hK _ _ (hu3) ?_
            clear hK K
            try simp only [Act.put, List.setIfInBounds_toArray, List.set_cons_succ, List.set_cons_zero]
            unfold wpSeq
            clear hr hr' hm3 hu3 hz3 bm hpn u3 BM HM NB CB SM KS OM HN
            generalize wm = wm0 at *
            generalize wn = wm at *
            have CB := CBn; have SM := SMn; have KS := KSn; have OM := OMn
            clear CBn SMn KSn OMn
            have hclv := CLEN.out
            have U5 := hide (MV.out.out U2.out (by omega) (by omega) (by omega))
            obtain ⟨b0, b1, b2, b3, b4, b5, b6⟩ := cell7 CB.out
            go_wp2_with fail
            have hda := ado_any (c := c) (T := since hi w2) (v := cmv c (.slice ka c.keys.length kc)) wm (HE.out.upd_nil U5.out) AP.out OKA.out (by have := CLEN.out; have := HCSL.out; omega) ⟨FIT.out, _, rfl, KS.out⟩
            obtain ⟨rr, hrr⟩ : ∃ rr, apDo AA c = rr := ⟨_, rfl⟩
            have hbd := apDo_bound (c := c) OKA.out (by have := CLEN.out; have := HCSL.out; omega)
            have hok := OKA.out.next (c := c) (by have := CLEN.out; have := HCSL.out; omega) FIT.out.1 FIT.out.2.1
            rw [hrr] at hda hbd hok
            simp only [cmv, strV, rpv] at hda
            have HRR := hide hrr; have BD := hide hbd; have OKN := hide hok
            clear hbd hok hrr b0 b1 b2 b3 b4 b5 b6
            refine hda.mono ?_
            rintro e w4 ⟨rfl, ha4, ht4⟩
            clear hda
            have hzt := ht4.size
            have CB4 := hide (ht4.get CB.out (.inr (by omega))); have SM4 := hide (ht4.get SM.out (.inr (by omega)))
            obtain ⟨TS, k1, k2⟩ := ht4
            have hTS : ∀ k ∈ TS, k ≠ mw ∧ k ≠ mp ∧ k < w2.heap.size := fun k hk => by have := k1 k hk; omega
            have BG4 := hide (show Bg w2 w4 mw mp lo hi p WM (CS ++ [c]) rr.1 from ⟨MV.out.turned ⟨TS, k1, k2⟩, WR.out.upd k2 (fun hm => (hTS _ hm).1 rfl), PN.out.upd k2 (fun hm => (hTS _ hm).2.1 rfl), ha4, by rw [List.length_append]; exact OKN.out⟩)
            have OW4 := hide (Own.upd OM.out k2 (fun k hk hm => by have := (Own.lt OM.out k hk).1; have := (hTS _ hm).2.2; omega) (fun _ _ _ h => h))
            clear k1 k2 hTS ha4 TS MV WR PN AP OKA OM CB SM
            go_upto_region 16 with fail
            clear hclv
            have hR := blk_new w4 (.cells #[.int .u8 (rr.2.1.code : Int), .string (strOf rr.2.1.text)] 37)
            have hal := (Upd.refl [] w4).alloc (.cells #[.int .u8 (rr.2.1.code : Int), .string (strOf rr.2.1.text)] 37)
            change Code.wp _ _ _ _ (w4.alloc (.cells #[.int .u8 (rr.2.1.code : Int), .string (strOf rr.2.1.text)] 37))
            generalize w4.alloc (.cells #[.int .u8 (rr.2.1.code : Int), .string (strOf rr.2.1.text)] 37) = w5 at *
            obtain ⟨R, hRs⟩ : ∃ R, w4.heap.size = R := ⟨_, rfl⟩
            rw [hRs] at hR ⊢
            have r0 : w5.cell? ⟨R, 0, none⟩ = some (.int .u8 (rr.2.1.code : Int)) := blk_cell hR rfl
            have r1 : w5.cell? ⟨R, 1, none⟩ = some (.string (strOf rr.2.1.text)) := blk_cell hR rfl
            have hcb5 := hal.get CB4.out (by simp)
            have b0 : w5.cell? ⟨C, 0, none⟩ = some (.int .u32 (c.client : Int)) := blk_cell hcb5 rfl
            have b1 : w5.cell? ⟨C, 1, none⟩ = some (.int .u32 (c.seq : Int)) := blk_cell hcb5 rfl
            have BG5 := hide (BG4.out.nil hal); have SM5 := hide (hal.get SM4.out (by simp)); have OW5 := hide (Own.upd OW4.out hal (by simp) (fun _ _ _ h => h))
            clear hR hal hcb5 BG4 SM4 OW4 CB4 hRs
            have hml : (wantM A0 (s.cmds.take j)).1.length = j := by rw [wantM_len, List.length_take]; omega
            have hj64 : j ≤ 6400 := by have := CLEN.out; omega
            obtain ⟨css, q1, q2, q3⟩ := OW5.out
            have HOWN := hide q3; have Q1 := hide q1; have Q2 := hide q2
            clear q1 q2 q3
            go_wp2_with (at_builtin; go_must (refine wpList_append_src _ rfl _ _ 46 rfl w2.heap.size 39 i3 (.agg #[.int .u32 0, .int .u32 0, .int .u8 0, .string ByteArray.empty]) 4 32 Tryz.underlying46 hi3 kz0 kz1 kz2 rfl (by decide) (.slice xw (wantM A0 (s.cmds.take j)).1.length cw) (wantM A0 (s.cmds.take j)).1.length css.flatten rfl (owns_upd HOWN.out ((Upd.refl [] w5).alloc _) (by simp)) (some ⟨w5.heap.size, 0, none⟩) 1 1 (anc ⟨c.client, c.seq, rr.2.1.code, rr.2.1.text⟩) rfl (an_src (blk_new _ _)) (by rw [hml]; unfold maxLen; omega) (by rw [hml]; omega) (by simp; have := BG5.out.mv.size; omega) ?_))
            intro ao6 cap6 w6 hown6 hU6 hn6
            have hgr := grown_upd hU6
            have hw6 : Own w6 w2.heap.size 39 4 (fun a cs => a.Fits ∧ cs = anc a) (.slice ao6 (j + 1) cap6) ((wantM A0 (s.cmds.take j)).1 ++ [⟨c.client, c.seq, rr.2.1.code, rr.2.1.text⟩]) :=
              Own.more Q1.out Q2.out ⟨by have := BD.out.2; show rr.2.1.text.length ≤ _; omega, rfl⟩ rfl (by intro u hu; simp only [anc, strV, List.mem_cons, List.not_mem_nil, or_false] at hu; rcases hu with rfl | rfl | rfl | rfl <;> rfl) (by rw [hml]) hown6
            have hws : wantM A0 (s.cmds.take (j + 1)) = ((wantM A0 (s.cmds.take j)).1 ++ [⟨c.client, c.seq, rr.2.1.code, rr.2.1.text⟩], rr.1) := by
              rw [take_snoc HCJ.out, wantM_snoc, HAA.out]
              unfold wantA
              rw [HRR.out]
            have ne := NE.out
            have ol := Own.lt OW5.out
            rw [hml] at ne ol
            have hBl := blk_lt SM5.out
            have NE6 := hide (show ∀ g, (Value.slice ao6 (j + 1) cap6).ownBlock = some g → g ≠ B from fun g hg => by
              rcases hn6 g hg with h5 | h5
              · exact ne g h5
              · omega)
            have SM6 := hide (hgr.get SM5.out (fun hm => ne B (by simpa using hm) rfl))
            have BG6 := hide (BG5.out.new hgr (fun k hk => (ol k (by simpa using hk)).1) (by omega) (by omega) (by omega))
            have hcs : CS ++ [c] = C0 ++ s.cmds.take (j + 1) := by rw [take_snoc HCJ.out, ← List.append_assoc, HCS.out]
            have W6 := hide hw6; have WS := hide hws; have CSS := hide hcs
            clear hown6 hU6 hn6 hgr hw6 hws ne ol hBl hcs r0 r1 b0 b1 BG5 SM5 OW5 HOWN Q1 Q2 hml
            go_wp2_with fail
            go_roundw
            case rel =>
              refine ⟨j + 1, hj1, by go_num, by go_num, ?_, NE6.out, ?_, SM6.out⟩
              · rw [WS.out]; exact W6.out
              · rw [← CSS.out, WS.out]; exact BG6.out
            case measure => simp [RowKit.intOf]; omega
        · have d6 : decide ((j : Int) < s.cmds.length) = false := by simp; omega
          have d6' : decide (j < s.cmds.length) = false := by simpa using hjl
          have hje : s.cmds.take j = s.cmds := List.take_of_length_le (by omega)
          have hjn : j = s.cmds.length := by omega
          have ow := OW.out
          have bq := BQ.out
          rw [hje] at ow bq
          have hne2 := NE.out
          rw [hje] at hne2
          obtain ⟨wa, hwa⟩ : ∃ wa, (wantM A0 s.cmds).1 = wa := ⟨_, rfl⟩
          rw [hwa] at ow hne2
          rw [hje, hwa]
          have OW2 := hide ow; have BQ2 := hide bq; have HWA := hide hwa
          have H2 := hide (bq.mv.get (U02.out.get A6.out (by simp)) (by omega) (by omega) (.inl (by omega)))
          have hBq := blk_lt SQ.out
          clear hje ow bq hne2 hwa OW BQ NE d6 d6' hjl
          have d6 : decide ((j : Int) < s.cmds.length) = false := by simp; omega
          have d6' : decide (j < s.cmds.length) = false := by simp; omega
          go_upto_region 18 with fail
          have hHm : H ≠ mw := by omega
          have hBm : B ≠ mw := by omega
          have hva2 : anK.row (wr.drewN 1) (since hi w2) (.slice xa s.ans.length ca) s.ans := by
            obtain ⟨S, k1, k2⟩ := BQ2.out.mv
            exact anK.row_upd_nil (anK.row_upd VA.out k2 (fun k hk hm => by have := k1 _ hk; have := hm.1; have := hm.2; omega)) ((Upd.refl [] wr).drewN 1)
          have hwa2 : anK.row (wr.drewN 1) (fun k => (Value.slice xw wa.length cw).ownBlock = some k) (.slice xw wa.length cw) wa := Own.row (Own.upd OW2.out ((Upd.refl [] wr).drewN 1) (by simp) (fun _ _ _ h => h))
          have HVA2 := hide hva2; have HWA2 := hide hwa2
          clear hva2 hwa2
          refine wp_region_seq beOps18 (by kernel_rfl) [9, 11] (Upd [mw] (wr.drewN 1)) (by kernel_rfl) (by kernel_rfl) (fun _ _ d _ _ h => by cases d <;> exact h) (Upd.refl _ _) ?_
          refine wpSeq_take (by kernel_rfl) (by kernel_rfl) ?_
          apply Exists.intro
          refine ⟨fun wx hS => ?_, fun a' ha => ?_⟩
          · go_simp; rfl
          simp only [Act.put, List.setIfInBounds_toArray, List.set_cons_succ, List.set_cons_zero] at ha
          subst ha
          refine wpSeq_take (by kernel_rfl) (by kernel_rfl) ?_
          apply Exists.intro
          refine ⟨fun wx hS => ?_, fun a' ha => ?_⟩
          · go_simp; rfl
          simp only [Act.put, List.setIfInBounds_toArray, List.set_cons_succ, List.set_cons_zero] at ha
          subst ha
          refine wpSeq_take (by kernel_rfl) (by kernel_rfl) ?_
          apply Exists.intro
          refine ⟨fun wx hS => ?_, fun a' ha => ?_⟩
          · go_simp; rfl
          simp only [Act.put, List.setIfInBounds_toArray, List.set_cons_succ, List.set_cons_zero] at ha
          subst ha
          refine wpSeq_take (by kernel_rfl) (by kernel_rfl) ?_
          apply Exists.intro
          refine ⟨fun wx hS => ?_, fun a' ha => ?_⟩
          · have c0 : wx.cell? ⟨H, 7, none⟩ = some (.map (some mw)) := blk_cell (hS.get (show (wr.drewN 1).heap[H]? = _ from H2.out) (by simpa using hHm)) rfl; go_simp; rfl
          simp only [Act.put, List.setIfInBounds_toArray, List.set_cons_succ, List.set_cons_zero] at ha
          subst ha
          refine wpSeq_take (by kernel_rfl) (by kernel_rfl) ?_
          apply Exists.intro
          refine ⟨fun wx hS => ?_, fun a' ha => ?_⟩
          · go_simp; rfl
          simp only [Act.put, List.setIfInBounds_toArray, List.set_cons_succ, List.set_cons_zero] at ha
          subst ha
          refine wpSeq_take (by kernel_rfl) (by kernel_rfl) ?_
          apply Exists.intro
          refine ⟨fun wx hS => ?_, fun a' ha => ?_⟩
          · have c0 : wx.cell? ⟨B, 0, none⟩ = some (.int .u64 (s.slot : Int)) := blk_cell (hS.get (show (wr.drewN 1).heap[B]? = _ from SQ.out) (by simpa using hBm)) rfl; go_simp; rfl
          simp only [Act.put, List.setIfInBounds_toArray, List.set_cons_succ, List.set_cons_zero] at ha
          subst ha
          refine wpSeq_take (by kernel_rfl) (by kernel_rfl) ?_
          apply Exists.intro
          refine ⟨fun wx hS => ?_, fun a' ha => ?_⟩
          · go_simp; rfl
          simp only [Act.put, List.setIfInBounds_toArray, List.set_cons_succ, List.set_cons_zero] at ha
          subst ha
          refine wpSeq_take (by kernel_rfl) (by kernel_rfl) ?_
          apply Exists.intro
          refine ⟨fun wx hS => ?_, fun a' ha => ?_⟩
          · go_simp; rfl
          simp only [Act.put, List.setIfInBounds_toArray, List.set_cons_succ, List.set_cons_zero] at ha
          subst ha
          refine wpSeq_take (by kernel_rfl) (by kernel_rfl) ?_
          apply Exists.intro
          refine ⟨fun wx hS => ?_, fun a' ha => ?_⟩
          · have c0 : wx.cell? ⟨B, 2, none⟩ = some (.slice xa s.ans.length ca) := blk_cell (hS.get (show (wr.drewN 1).heap[B]? = _ from SQ.out) (by simpa using hBm)) rfl; go_simp; rfl
          simp only [Act.put, List.setIfInBounds_toArray, List.set_cons_succ, List.set_cons_zero] at ha
          subst ha
          refine wpSeq_one (by kernel_rfl) (by kernel_rfl) (fun K hK => ?_)
          go_simp
          refine (eqa_any (wr.drewN 1) HWA2.out HVA2.out).mono ?_
          rintro e w7 ⟨rfl, hu7⟩
          have hm7 : Upd [mw] (wr.drewN 1) w7 := hu7.mono (by simp)
          have U7 := hide (((Upd.refl [] wr).drewN 1).trans hu7)
          refine hK _ _ (hm7) ?_
          clear hK K
          try simp only [Act.put, List.setIfInBounds_toArray, List.set_cons_succ, List.set_cons_zero]
          clear hu7
          refine wpSeq_take (by kernel_rfl) (by kernel_rfl) ?_
          apply Exists.intro
          refine ⟨fun wx hS => ?_, fun a' ha => ?_⟩
          · go_simp; rfl
          simp only [Act.put, List.setIfInBounds_toArray, List.set_cons_succ, List.set_cons_zero] at ha
          subst ha
          refine wpSeq_one (by kernel_rfl) (by kernel_rfl) (fun K hK => ?_)
          have B7 := hide (BQ2.out.nil U7.out)
          obtain ⟨bo, hbo⟩ : ∃ bo, decide (wa = s.ans) = bo := ⟨_, rfl⟩
          rw [hbo]
          obtain ⟨wn, hr, hm3, hu3, hz3⟩ := slb_store B7.out.wro s.slot (!bo)
          go_simp
          have hm8 := hm7.trans hu3
          have hnx : slbK wn mw (wrongM ap0 (out.take (k + 1))) := hm3.congr fun q => by
            rw [take_snoc HS.out, wrongM_snoc, HA0.out, HWM.out, HWA.out, hbo]
            by_cases e : q = s.slot
            · rw [if_pos e, if_pos e.symm]
            · rw [if_neg e, if_neg (fun h => e h.symm)]
          have hcc : (out.take (k + 1)).flatMap (·.cmds) = C0 ++ s.cmds := by rw [take_snoc HS.out, List.flatMap_append, HC0.out]; simp
          have hap : apAll ap0 (out.take (k + 1)) = (wantM A0 s.cmds).2 := by rw [take_snoc HS.out, apAll_snoc, HA0.out]
          have hb9 := B7.out.wrong hu3 hnx (by omega) (by omega)
          rw [← hcc, ← hap] at hb9
          have hsn : (C0.length : Int) + (s.cmds.length : Int) = ((((out.take (k + 1)).flatMap (·.cmds)).length : Nat) : Int) := by rw [hcc, List.length_append]; omega
          rw [hsn]
          have BG9 := hide hb9
          refine hK _ _ (hm8) ?_
          clear hK K
          try simp only [Act.put, List.setIfInBounds_toArray, List.set_cons_succ, List.set_cons_zero]
          unfold wpSeq
          clear hr hm3 hu3 hz3 hm8 hm7 hnx hcc hap hb9 hsn hbo B7 U7 HVA2 HWA2 SQ H2 OW2 BQ2
          go_wp2_with fail
          go_roundw
          case rel => exact ⟨k + 1, hk1, by go_num, rfl, BG9.out⟩
          case measure => simp [RowKit.intOf]; omega
    · have d5 : decide ((k : Int) < out.length) = false := by simp; omega
      have d5' : decide (k < out.length) = false := by simpa using hkl
      have hke : out.take k = out := List.take_of_length_le (by omega)
      have hbg := BG.out
      rw [hke] at hbg ⊢
      have BGE := hide hbg
      clear hbg hke
      go_wp2_with fail
      go_ret
      obtain ⟨S, k1, k2⟩ := BGE.out.mv
      have nS : ∀ g, g < lo → g ≠ mw → g ≠ mp → g ∉ S := fun g h1 h2 h3 hm => by have := k1 _ hm; omega
      refine ⟨⟨H, z, ma, mn, ms, mw, mp, out, rfl, LOG.out, by omega, ?_⟩, BGE.out.mv.out U2.out (by omega) (by omega) (by omega)⟩
      exact ⟨BGE.out.mv.get (U02.out.get A6.out (by simp)) (by omega) (by omega) (.inl (by omega)), by omega, fun k hk => by have := HTT.out k hk; omega,
        ((FIs.of A0.out).upd_nil U02.out).upd k2 (nS _ (by omega) (by omega) (by omega)), ((FIs.of A1.out).upd_nil U02.out).upd k2 (nS _ (by omega) (by omega) (by omega)), ((FIs.of A2.out).upd_nil U02.out).upd k2 (nS _ (by omega) (by omega) (by omega)), ((FIs.of A3.out).upd_nil U02.out).upd k2 (nS _ (by omega) (by omega) (by omega)), BGE.out.wro, BGE.out.pl, Own.nil _ _ _ _ _⟩
end Go.Proofs.YtfmaflaoplkdbaaGreatDoor.Au
