/- WvR, WvRn in one text. -/
import Derived.Test.YthpnnffogbjhpaaGreatDoorWvYY
import Derived.Test.YthpnnffogbjhpaaGreatDoorKvTU
import Derived.Test.YthpnnffogbjhpaaGreatDoorWvDE
import Derived.Test.YthpnnffogbjhpaaGreatDoorGenAll
set_option linter.unusedSimpArgs false
set_option linter.unusedVariables false
set_option linter.unnecessarySimpa false
namespace Go.Proofs.YthpnnffogbjhpaaGreatDoor.Kv
set_option linter.unusedSimpArgs false
set_option linter.unusedVariables false
set_option linter.unnecessarySimpa false
open Go.RowKit Go.Lib Go.Proofs.YthpnnffogbjhpaaGreatDoor.Crc Go.Proofs.YthpnnffogbjhpaaGreatDoor.Cm
attribute [local go_sem] Oper.semAt_some

theorem Turned.new {lo hi : Nat} {w a b : World} {S : List Nat} (h : Turned lo hi w a) (hu : Upd S a b) (hS : ∀ k ∈ S, w.heap.size ≤ k) : Turned lo hi w b := by
  obtain ⟨T, h1, h2⟩ := h
  exact ⟨T, h1, h2.trans_new hu (fun k hk => .inr (hS k hk))⟩
theorem ApIs.far {w w' : World} {lo hi p : Nat} {a : Ap} {S : List Nat} (h : ApIs w lo hi p a) (hu : Upd S w w') (hS : ∀ k ∈ S, hi ≤ k) : ApIs w' lo hi p a := by
  obtain ⟨sb, sg, tb, tc, tg, h, h1, h2, h3, h4, h5, h6, h7, h8, h9, h10, h11, h12⟩ := h
  have key : ∀ k, k < hi → k ∉ S := fun k q hk => by have := hS k hk; omega
  exact ⟨sb, sg, tb, tc, tg, h.upd hu (key _ h2) (key _ h4) (key _ h6) (key _ h8) (key _ h10) (key _ h12), h1, h2, h3, h4, h5, h6, h7, h8, h9, h10, h11, h12⟩
/-- What a run has in memory: its boxes, what it sets. -/
structure RunAt (W : World) (B p : Nat) (xv : Value) (n : Nat) (ds : List Dn) (t : Nat) : Prop where
  b0 : W.heap[B]? = some (.cells #[.pointer (some ⟨p, 0, none⟩)] 24 (0, 0))
  b1 : W.heap[B + 1]? = some (.cells #[xv] 30 (0, 0))
  b2 : W.heap[B + 2]? = some (.cells (dncs ds).toArray TDone (0, 0))
  b3 : W.heap[B + 3]? = some (.cells #[.slice (some ⟨B + 2, 0, none⟩) n n] 67 (0, 0))
  b4 : W.heap[B + 4]? = some (.cells #[.int .i64 (t : Int)] 3 (0, 0))
theorem RunAt.upd {W W' : World} {B p n t : Nat} {xv : Value} {ds : List Dn} {S : List Nat} (h : RunAt W B p xv n ds t) (hu : Upd S W W') (hS : ∀ k ∈ S, k < B ∨ B + 5 ≤ k) : RunAt W' B p xv n ds t := by
  have key : ∀ j, j < 5 → B + j ∉ S := fun j hj hm => by have := hS _ hm; omega
  exact ⟨hu.get h.b0 (key 0 (by omega)), hu.get h.b1 (key 1 (by omega)), hu.get h.b2 (key 2 (by omega)), hu.get h.b3 (key 3 (by omega)), hu.get h.b4 (key 4 (by omega))⟩
theorem RunAt.turned {W W' : World} {B p n t lo hi : Nat} {xv : Value} {ds : List Dn} (h : RunAt W B p xv n ds t) (ht : Turned lo hi W W') (hB : hi ≤ B) : RunAt W' B p xv n ds t := by
  obtain ⟨S, h1, h2⟩ := ht
  exact h.upd h2 fun k hk => .inl (by have := h1 k hk; omega)
theorem orderM_lt {l : List Cm} {ps : List Int} {x : Nat × Nat} (h : x ∈ orderM l ps) : x.1 < l.length := by
  have := (orderM_perm l ps).mem_iff.1 (List.mem_map_of_mem (f := (·.1)) h)
  simpa using this
/-- What stays around an application that is turned. -/
structure Around (w : World) (lo hi : Nat) (T : Nat → Prop) (v : Value) (cl : List Cm) : Prop where
  env : ∀ W, Turned lo hi w W → EnvAt W
  row : ∀ W, Turned lo hi w W → cmK.row W T v cl
  get : ∃ (xo : Option Addr) (cp : Nat), v = .slice xo cl.length cp ∧ cl.length ≤ cp ∧ cp ≤ maxLen ∧ ∀ (i : Nat) (c : Cm), cl[i]? = some c → ∃ (b off : Nat) (ka : Option Addr) (kc : Nat), xo = some ⟨b, off, none⟩ ∧ c.Fits ∧
    ∀ W, Turned lo hi w W → Strs W T (.slice ka c.keys.length kc) c.keys ∧ Cells7 W b (off + i * 7) c ka kc
theorem Around.old {w0 w : World} {lo hi : Nat} {T : Nat → Prop} {v : Value} {cl : List Cm} (he : EnvAt w0) (h : cmK.row w0 T v cl) (hu : Upd [] w0 w) (hlo : w0.heap.size ≤ lo) : Around w lo hi T v cl := by
  refine ⟨fun W ht => he.upd_nil (ht.upd_new hu hlo), fun W ht => Kind.row_upd_nil h (ht.upd_new hu hlo), ?_⟩
  obtain ⟨xo, cp, rfl, h1, h2, hg⟩ := cm_get h
  refine ⟨xo, cp, rfl, h1, h2, fun i c hc => ?_⟩
  obtain ⟨b, off, ka, kc, rfl, hb, -, fit, hks, hcc⟩ := hg i c hc
  exact ⟨b, off, ka, kc, rfl, fit, fun W ht => ⟨hks.upd_nil (ht.upd_new hu hlo), hcc.upd (ht.upd_new hu hlo) hb (by simp)⟩⟩
theorem Around.far {w : World} {lo hi : Nat} {T : Nat → Prop} {v : Value} {cl : List Cm} (he : EnvAt w) (hG : ∀ k ∈ [0, 1, 2, 3], k < lo) (h : cmK.row w T v cl) (hT : ∀ k, T k → k < lo ∨ hi ≤ k) : Around w lo hi T v cl := by
  have key : ∀ S : List Nat, (∀ k ∈ S, lo ≤ k ∧ k < hi) → ∀ k ∈ S, ¬ T k := fun S hS k hk ht => by have := hS k hk; have := hT k ht; omega
  refine ⟨fun W ht => ht.env he hG, fun W ht => ?_, ?_⟩
  · obtain ⟨S, h1, h2⟩ := ht
    exact Kind.row_upd h h2 (key S h1)
  · obtain ⟨xo, cp, rfl, h1, h2, hg⟩ := cm_get h
    refine ⟨xo, cp, rfl, h1, h2, fun i c hc => ?_⟩
    obtain ⟨b, off, ka, kc, rfl, hb, hTb, fit, hks, hcc⟩ := hg i c hc
    refine ⟨b, off, ka, kc, rfl, fit, fun W ht => ?_⟩
    obtain ⟨S, h3, h4⟩ := ht
    exact ⟨hks.upd h4 (key S h3), hcc.upd h4 hb (fun hm => key S h3 b hm hTb)⟩
/-- A table of picks that stays. -/
structure PickAt (w : World) (lo hi : Nat) (po : Option Addr) (pn pc : Nat) (ps : List Int) : Prop where
  src : ∀ W, Turned lo hi w W → SrcAt W po pn pc (ps.map pV) 1
  blk : ∀ q ∈ pbk pn po, q < w.heap.size ∧ (q < lo ∨ hi ≤ q)
theorem pbk_lt {w0 : World} {po : Option Addr} {pn pc : Nat} {ps : List Int} (h : SrcAt w0 po pn pc (ps.map pV) 1) : ∀ q ∈ pbk pn po, q < w0.heap.size := fun q hq => by
  unfold pbk at hq
  split at hq
  · simp at hq
  · rename_i h0
    cases po with
    | none => simp at hq
    | some b =>
      simp at hq
      subst hq
      have hlen : ps.length = pn := by have := h.len; simpa using this
      have h3 := h.cells b rfl 0 (pV (ps[0]'(by omega))) (by rw [List.getElem?_map, List.getElem?_eq_getElem (by omega)]; rfl)
      have := World.block_lt_of_cell? w0 _ h3
      rwa [add_block] at this
theorem PickAt.old {w0 w : World} {lo hi : Nat} {po : Option Addr} {pn pc : Nat} {ps : List Int} (h : SrcAt w0 po pn pc (ps.map pV) 1) (hu : Upd [] w0 w) (hlo : w0.heap.size ≤ lo) : PickAt w lo hi po pn pc ps :=
  ⟨fun W ht => srcS_upd h (ht.upd_new hu hlo) (by simp), fun q hq => by have := pbk_lt h q hq; have := hu.size; omega⟩
theorem PickAt.far {w : World} {lo hi : Nat} {po : Option Addr} {pn pc : Nat} {ps : List Int} (h : SrcAt w po pn pc (ps.map pV) 1) (hf : ∀ a, po = some a → hi ≤ a.block) : PickAt w lo hi po pn pc ps := by
  refine ⟨fun W ht => ?_, fun q hq => ⟨pbk_lt h q hq, .inr ?_⟩⟩
  · obtain ⟨S, h1, h2⟩ := ht
    exact srcS_upd h h2 (fun a e _ hm => by have := hf a e; have := h1 _ hm; omega)
  · unfold pbk at hq
    split at hq
    · simp at hq
    · cases po with
      | none => simp at hq
      | some b => simp at hq; subst hq; exact hf b rfl
set_option maxRecDepth 100000 in
set_option maxHeartbeats 4000000 in
theorem run_any {T : Nat → Prop} {v : Value} {cl : List Cm} {ps : List Int} {po : Option Addr} {pn pc lo hi p k : Nat} {a : Ap} (w : World) (har : Around w lo hi T v cl) (hs : Small cl) (hps : PickAt w lo hi po pn pc ps) (hpn : pn ≤ 200)
    (hhi : hi ≤ w.heap.size) (ha : ApIs w lo hi p a) (ho : ApOk a k) (hk : k ≤ 5000) :
    Calls Tryz.prog 29 #[.pointer (some ⟨p, 0, none⟩), v, .func (.func 30) #[.slice po pn pc] #[]] w fun e w' =>
      (∃ g, e = .returned (.slice (some ⟨g, 0, none⟩) cl.length cl.length) ∧ w.heap.size ≤ g ∧ w'.heap[g]? = some (.cells (dncs (runD cl a (orderM cl ps) 0 (List.replicate cl.length dn0)).2).toArray TDone (0, 0))) ∧
      ApIs w' lo hi p (runD cl a (orderM cl ps) 0 (List.replicate cl.length dn0)).1 ∧ Turned lo hi w w' := by
  obtain ⟨i1, hi1, iz0, iz1, iz2⟩ := partsI infoDn
  obtain ⟨xo, cp, rfl, h1, h2, hg⟩ := har.get
  have HAR := hide har; have HG := hide hg; have HS := hide hs; have HPS := hide hps; have HA := hide ha; have HO := hide ho
  have hl100 := hs.1
  have hs' := hs.2
  simp only [maxLen] at h2
  have hmk := fun wx => run_make_rowN (P := Tryz.prog) 67 72 i1 _ Tryz.underlying67 hi1 iz0 .i64 .i64 cl.length cl.length (Nat.le_refl _) (by rw [iz2]; omega) (by omega) wx
  rw [iz1] at hmk
  clear har hg hs hps ha ho
  refine calls_of_wp_marks Tryz.func29 rfl ?_
  simp only [Tryz.ntmps29, List.size_toArray, List.length_cons, List.length_nil, Nat.reduceAdd, Nat.reduceSub, Array.replicate_succ, Array.replicate_zero, List.push_toArray, List.append_toArray, List.nil_append, List.cons_append]
  rw [show (Value.agg #[.int .u8 0, .string ByteArray.empty, .bool false, .int .i64 0, .int .i64 0]).cells = #[.int .u8 0, .string ByteArray.empty, .bool false, .int .i64 0, .int .i64 0] from rfl] at hmk
  simp only [made_dn] at hmk
  have htp := topM_le hs'
  go_wp2_with fail
  obtain ⟨B, hB⟩ : ∃ B, w.heap.size = B := ⟨_, rfl⟩
  obtain ⟨w5, hw5⟩ : ∃ w5, ((((w.alloc (Obj.cells #[Value.pointer (some { block := p, off := 0 })] 24)).alloc (Obj.cells #[Value.slice xo cl.length cp] 30)).alloc (Obj.cells (dncs (List.replicate cl.length dn0)).toArray 72)).alloc
      (Obj.cells #[Value.slice (some { block := w.heap.size + 1 + 1, off := 0 }) cl.length cl.length] 67)).alloc (Obj.cells #[Value.int IntKind.i64 0] 3) = w5 := ⟨_, rfl⟩
  have hr5 : RunAt w5 B p (.slice xo cl.length cp) cl.length (List.replicate cl.length dn0) 0 := by
    rw [← hw5, ← hB]
    have g0 := blk_new w (Obj.cells #[Value.pointer (some { block := p, off := 0 })] 24)
    have g1 := blk_new (w.alloc (Obj.cells #[Value.pointer (some { block := p, off := 0 })] 24)) (Obj.cells #[Value.slice xo cl.length cp] 30)
    have g2 := blk_new ((w.alloc (Obj.cells #[Value.pointer (some { block := p, off := 0 })] 24)).alloc (Obj.cells #[Value.slice xo cl.length cp] 30)) (Obj.cells (dncs (List.replicate cl.length dn0)).toArray 72)
    have g3 := blk_new (((w.alloc (Obj.cells #[Value.pointer (some { block := p, off := 0 })] 24)).alloc (Obj.cells #[Value.slice xo cl.length cp] 30)).alloc (Obj.cells (dncs (List.replicate cl.length dn0)).toArray 72)) (Obj.cells #[Value.slice (some { block := w.heap.size + 1 + 1, off := 0 }) cl.length cl.length] 67)
    have g4 := blk_new ((((w.alloc (Obj.cells #[Value.pointer (some { block := p, off := 0 })] 24)).alloc (Obj.cells #[Value.slice xo cl.length cp] 30)).alloc (Obj.cells (dncs (List.replicate cl.length dn0)).toArray 72)).alloc (Obj.cells #[Value.slice (some { block := w.heap.size + 1 + 1, off := 0 }) cl.length cl.length] 67)) (Obj.cells #[Value.int IntKind.i64 0] 3)
    simp only [World.size_alloc] at g1 g2 g3 g4
    exact ⟨blk_alloc (blk_alloc (blk_alloc (blk_alloc g0 _) _) _) _, blk_alloc (blk_alloc (blk_alloc g1 _) _) _, blk_alloc (blk_alloc g2 _) _, blk_alloc g3 _, g4⟩
  have hu5 : Upd [] w w5 := by rw [← hw5]; exact (((((Upd.refl [] w).alloc _).alloc _).alloc _).alloc _).alloc _
  have hz5 : w5.heap.size = B + 5 := by rw [← hw5, ← hB]; simp
  rw [hw5, hB]
  have HB := hide hB; have R5 := hide hr5; have U5 := hide hu5
  have hpb := HPS.out.blk
  rw [hB] at hpb
  have HPB := hide hpb
  rw [hB] at hhi
  have hhl : lo < hi := by obtain ⟨_, _, _, _, _, _, h3, h4, _⟩ := HA.out; omega
  clear hw5 hr5 hu5 hB hmk hs' hpb
  refine (order_any w5 rfl rfl rfl).mono ?_
  rintro e w6 ⟨rfl, hb6, hu6⟩
  rw [hz5] at hb6 ⊢
  have hz6 := hu6.size
  have hz7 := blk_lt hb6
  have R6 := hide (R5.out.upd hu6 (by simp)); have B6 := hide hb6; have U6 := hide (U5.out.trans hu6)
  clear hb6 hu6 R5 U5
  go_wp2_with fail
  refine wp_rangeN (gf := 91) rfl (enters_of Tryz.func91 (by kernel_rfl) rfl) (order_iter (T := T) (p := B + 5) (cp := cp) (po_n := pn) (pc := pc) (av := .pointer (some ⟨p, 0, none⟩)) (xo := xo) (po := po) (cl := cl) (ps := ps) HS.out (by omega) hpn) (fun _ => rfl) ?hK (by simp)
    (fun W hu => ⟨hu.get B6.out (by simp), HAR.out.row W (Turned.of_nil (U6.out.trans hu) lo hi), HPS.out.src W (Turned.of_nil (U6.out.trans hu) lo hi)⟩)
    (fun pre W => ∃ (a' : Ap) (ds : List Dn), runD cl a pre 0 (List.replicate cl.length dn0) = (a', ds) ∧ ApIs W lo hi p a' ∧ ApOk a' (k + pre.length) ∧ RunAt W B p (.slice xo cl.length cp) cl.length ds pre.length ∧ Turned lo hi w W) (fun _ _ _ => False) ?hI (fun _ _ _ _ h _ => h) ?h0 ?hround ?hdone (fun _ _ _ _ h _ => h.elim)
  case hK =>
    intro q hq
    rcases List.mem_cons.1 hq with rfl | hq
    · omega
    · have := HPB.out q hq; omega
  case hI =>
    rintro pre W1 W2 ⟨a', ds, h1, h2, h3, h4, h5⟩ hu
    exact ⟨a', ds, h1, h2.far hu (fun q hq => by simp at hq; omega), h3, h4.upd hu (fun q hq => by simp at hq; omega), h5.new hu (fun q hq => by have := HB.out; simp at hq; omega)⟩
  case h0 =>
    intro W hu hsz
    exact ⟨a, List.replicate cl.length dn0, rfl, HA.out.upd_nil (U6.out.trans hu), HO.out, R6.out.upd hu (by simp), Turned.of_nil (U6.out.trans hu) lo hi⟩
  case hround =>
    rintro pre ⟨q, wv⟩ W hpre hi hsz
    gi_wp2
    refine ⟨Keeps.refl _ _, KeepsFrom.refl _ _, fun W2 hu hi2 => ?_⟩
    obtain ⟨a', ds, h1, h2, h3, h4, h5⟩ := hi2 hi
    have hq : q < cl.length := orderM_lt (x := (q, wv)) (hpre.subset (by simp))
    have hpl : pre.length + 1 ≤ cl.length := by have := hpre.length_le; rw [orderM_len] at this; simpa using this
    obtain ⟨c, hc⟩ : ∃ c, cl[q]? = some c := ⟨_, List.getElem?_eq_getElem hq⟩
    obtain ⟨bc, oc, ka, kc, rfl, fit, hcc⟩ := HG.out q c hc
    have hsz2 : w6.heap.size + 2 ≤ W2.heap.size := Nat.le_trans hsz hu.size
    have RD := hide h1; have AW := hide h2; have OK := hide h3; have RA := hide h4; have TU := hide h5; have HC := hide hc; have FIT := hide fit; have CC := hide hcc; have HPRE := hide hpre
    have hds : ds.length = cl.length := by have h7 := runD_len cl pre a 0 (List.replicate cl.length dn0); rw [h1] at h7; simpa using h7
    clear h1 h2 h3 h4 h5 hc fit hcc hpre hi hi2 hu hsz
    gi_wp2_with fail
    have s0 : Turned lo hi W2 (W2.drewN 1) := Turned.of_nil ((Upd.refl [] W2).drewN 1) lo hi
    refine wpIn_region_z (fun wx => Turned lo hi W2 wx) 99 (by kernel_rfl) (by kernel_rfl) ?hq8 ?_
    case hq8 => exact fun ⟨_, _, h⟩ => h
    refine zE 0 rfl (by kernel_rfl) (fun _ _ _ _ h => h) rfl (by exact s0) ?_
    apply Exists.intro
    refine ⟨fun wx hS => ?_, ?_⟩
    · have R1 := RA.out.turned hS hhi ; have c0 : wx.cell? ⟨B, 0, none⟩ = some (.pointer (some ⟨p, 0, none⟩)) := blk_cell R1.b0 rfl; go_simp; rfl
    simp only [Act.put, List.setIfInBounds_toArray, List.set_cons_succ, List.set_cons_zero, List.getElem_toArray, List.getElem_cons_zero]
    refine zE 1 rfl (by kernel_rfl) (fun _ _ _ _ h => h) rfl (by exact s0) ?_
    apply Exists.intro
    refine ⟨fun wx hS => ?_, ?_⟩
    · have R1 := RA.out.turned hS hhi ; have c0 : wx.cell? ⟨B + 1, 0, none⟩ = some (.slice (some ⟨bc, oc, none⟩) cl.length cp) := blk_cell R1.b1 rfl; go_simp; rfl
    simp only [Act.put, zz1, zz2, zz3, zz4, zz5, zz6]
    refine zE 2 rfl (by kernel_rfl) (fun _ _ _ _ h => h) rfl (by exact s0) ?_
    apply Exists.intro
    refine ⟨fun wx hS => ?_, ?_⟩
    · go_simp; rfl
    simp only [Act.put, zz1, zz2, zz3, zz4, zz5, zz6]
    refine zE 3 rfl (by kernel_rfl) (fun _ _ _ _ h => h) rfl (by exact s0) ?_
    apply Exists.intro
    refine ⟨fun wx hS => ?_, ?_⟩
    · go_simp; rfl
    simp only [Act.put, zz1, zz2, zz3, zz4, zz5, zz6]
    refine zE 4 rfl (by kernel_rfl) (fun _ _ _ _ h => h) rfl (by exact s0) ?_
    apply Exists.intro
    refine ⟨fun wx hS => ?_, ?_⟩
    · obtain ⟨-, c0, c1, c2, c3, c4, c5, c6⟩ := CC.out wx (TU.out.trans hS); go_simp; rfl
    simp only [Act.put, zz1, zz2, zz3, zz4, zz5, zz6]
    have hz2 : hi ≤ W2.heap.size := by omega
    obtain ⟨a2, r, f, hd⟩ : ∃ a2 r f, apDo a' c = (a2, r, f) := ⟨_, _, _, rfl⟩
    have hda := fun (wx : World) (hS : Turned lo hi W2 wx) (hA : ApIs wx lo hi p a') => ado_any (c := c) (T := T) (v := cmv c (.slice ka c.keys.length kc)) wx (HAR.out.env wx (TU.out.trans hS)) hA OK.out (by omega) ⟨FIT.out, _, rfl, (CC.out wx (TU.out.trans hS)).1⟩
    rw [hd] at hda
    simp only [cmv, strV] at hda
    unfold rpv at hda
    have HDA := hide hda; have HD := hide hd
    clear hda hd
    refine wpAnyZ_two 5 9 (by kernel_rfl) rfl rfl rfl rfl (fun K hK => ?_) (fun K hK => ?_)
    · try simp only [List.getElem_toArray, List.getElem_cons_succ, List.getElem_cons_zero]
      go_simp
      refine (HDA.out (W2.drewN 1) s0 (AW.out.upd_nil ((Upd.refl [] W2).drewN 1))).mono ?_
      rintro e w3 ⟨rfl, ha3, ht3⟩
      have t3 := s0.trans ht3
      have A3 := hide ha3
      clear ha3 ht3
      refine hK _ _ (.inr t3) ?_
      clear hK K
      try simp only [Act.put, zz1, zz2, zz3]
      refine zE 6 rfl (by kernel_rfl) (fun _ _ _ _ h => h) rfl (by exact t3) ?_
      apply Exists.intro
      refine ⟨fun wx hS => ?_, ?_⟩
      · go_simp; rfl
      simp only [Act.put, zz1, zz2, zz3, zz4, zz5, zz6]
      refine zE 7 rfl (by kernel_rfl) (fun _ _ _ _ h => h) rfl (by exact t3) ?_
      apply Exists.intro
      refine ⟨fun wx hS => ?_, ?_⟩
      · go_simp; rfl
      simp only [Act.put, zz1, zz2, zz3, zz4, zz5, zz6]
      refine zE 8 rfl (by kernel_rfl) (fun _ _ _ _ h => h) rfl (by exact t3) ?_
      apply Exists.intro
      refine ⟨fun wx hS => ?_, ?_⟩
      · go_simp; rfl
      simp only [Act.put, zz1, zz2, zz3, zz4, zz5, zz6]
      refine wpAnyZ_one 9 (by kernel_rfl) rfl rfl (fun K hK => ?_)
      try simp only [List.getElem_toArray, List.getElem_cons_succ, List.getElem_cons_zero]
      go_simp
      have hN := blk_new w3 (.cells #[.int .u8 0, .string ⟨#[]⟩] TRp)
      have hal := (Upd.refl [] w3).alloc (.cells #[.int .u8 0, .string ⟨#[]⟩] TRp)
      generalize w3.alloc (.cells #[.int .u8 0, .string ⟨#[]⟩] TRp) = w4 at *
      have t4 := t3.trans (Turned.of_nil hal lo hi)
      have A4 := hide (A3.out.upd_nil hal); have CN := hide hN
      have hRz := t3.size
      generalize w3.heap.size = R at *
      clear hN hal A3 t3
      refine hK _ _ (.inr t4) ?_
      clear hK K
      try simp only [Act.put, zz1, zz2, zz3]
      refine wpAnyZ_one 10 (by kernel_rfl) rfl rfl (fun K hK => ?_)
      try simp only [List.getElem_toArray, List.getElem_cons_succ, List.getElem_cons_zero]
      obtain ⟨z0, z1, f0, f1, z2, f2⟩ := res_facts CN.out
      go_simp
      have hW := upd2 w4 R (.int .u8 (r.code : Int)) (.string (strOf r.text))
      have t5 := t4.new hW (fun k hk => by simp at hk; omega)
      have A5 := hide (A4.out.far hW (fun k hk => by simp at hk; omega)); have RN := hide (stored2 (v0 := .int .u8 (r.code : Int)) (v1 := .string (strOf r.text)) CN.out)
      clear z0 z1 f0 f1 z2 f2 hW A4 CN
      refine hK _ _ (.inr t5) ?_
      clear hK K
      try simp only [Act.put, zz1, zz2, zz3]
      refine wpAnyZ_one 11 (by kernel_rfl) rfl rfl (fun K hK => ?_)
      try simp only [List.getElem_toArray, List.getElem_cons_succ, List.getElem_cons_zero]
      go_simp
      refine hK _ _ (.inr t5) ?_
      clear hK K
      try simp only [Act.put, zz1, zz2, zz3]
      refine wpAnyZ_done (by kernel_rfl) ?_ _
      generalize (w4.setCell ⟨R, 0, none⟩ (.int .u8 (r.code : Int))).setCell ⟨R, 1, none⟩ (.string (strOf r.text)) = w5 at *
      have R5 := hide (RA.out.turned t5 hhi); have T5 := hide t5
      have x0 : w5.cell? ⟨R, 0, none⟩ = some (.int .u8 (r.code : Int)) := blk_cell RN.out rfl
      have x1 : w5.cell? ⟨R, 1, none⟩ = some (.string (strOf r.text)) := blk_cell RN.out rfl
      have y3 : w5.cell? ⟨B + 3, 0, none⟩ = some (.slice (some ⟨B + 2, 0, none⟩) cl.length cl.length) := blk_cell R5.out.b3 rfl
      have y4 : w5.cell? ⟨B + 4, 0, none⟩ = some (.int .i64 (pre.length : Int)) := blk_cell R5.out.b4 rfl
      obtain ⟨⟨g0, k0⟩, ⟨g1, k1⟩, ⟨g2, k2⟩, ⟨g3, k3⟩, ⟨g4, k4⟩, l0, l1, l2, l3, l4⟩ := set5_facts (⟨r, f, wv, pre.length⟩ : Dn) R5.out.b2 (by omega : q < ds.length)
      have R6b := hide ((set5_upd w5 (B + 2) q ⟨r, f, wv, pre.length⟩).get R5.out.b4 (by simp))
      have y5 : (set5 w5 (B + 2) q ⟨r, f, wv, pre.length⟩).cell? ⟨B + 4, 0, none⟩ = some (.int .i64 (pre.length : Int)) := blk_cell R6b.out rfl
      have f5 : (set5 w5 (B + 2) q ⟨r, f, wv, pre.length⟩).frozen? ⟨B + 4, 0, none⟩ = false := blk_free R6b.out
      simp only [set1, set2, set3, set4, set5] at k0 k1 k2 k3 k4 l0 l1 l2 l3 l4 y5 f5
      clear t5 t4 s0
      gi_wp2_with fail
      have hUF : Upd [B + 2, B + 4] w5 ((set5 w5 (B + 2) q ⟨r, f, wv, pre.length⟩).setCell ⟨B + 4, 0, none⟩ (.int .i64 ((pre.length : Int) + 1))) := ((set5_upd w5 (B + 2) q ⟨r, f, wv, pre.length⟩).mono (by simp)).setCell (p := ⟨B + 4, 0, none⟩) (.inl (by simp)) _
      obtain ⟨SS, hS1, hS2⟩ := T5.out
      have hUW : Upd (SS ++ [B + 2, B + 4]) W2 ((set5 w5 (B + 2) q ⟨r, f, wv, pre.length⟩).setCell ⟨B + 4, 0, none⟩ (.int .i64 ((pre.length : Int) + 1))) := (hS2.mono (by simp +contextual)).trans (hUF.mono (by simp +contextual))
      have hg : cl.getD q cm0 = c := by simp [List.getD, HC.out]
      have hrun : runD cl a (pre ++ [(q, wv)]) 0 (List.replicate cl.length dn0) = (a2, ds.set q ⟨r, f, wv, pre.length⟩) := by
        rw [runD_app, RD.out]
        simp only [runD]
        rw [hg, HD.out, Nat.zero_add]
      have hok2 := OK.out.next (c := c) (by omega) FIT.out.1 FIT.out.2.1
      rw [HD.out] at hok2
      have hb2 := set5_blk (⟨r, f, wv, pre.length⟩ : Dn) R5.out.b2 (by omega : q < ds.length)
      have hb4 := blk_set (i := 0) R6b.out (.int .i64 ((pre.length : Int) + 1))
      refine ⟨Keeps.of_upd hUW (fun k' hk' => ⟨fun hm => ?_, ?_⟩), KeepsFrom.of_upd hUW (fun k' hm => ?_), a2, ds.set q ⟨r, f, wv, pre.length⟩, hrun, A5.out.far hUF (fun k' hm => by simp at hm; omega), by rw [List.length_append]; exact hok2, ⟨hUF.get R5.out.b0 (by simp), hUF.get R5.out.b1 (by simp), blk_set_other hb2 (by simp) _, hUF.get R5.out.b3 (by simp), ?_⟩, ((TU.out.trans T5.out).new hUF (fun k' hm => by have := HB.out; simp at hm; omega))⟩
      · have h7 : k' = B + 2 ∨ k' = B + 4 ∨ (lo ≤ k' ∧ k' < hi) := by
          rcases List.mem_append.1 hm with h | h
          · exact .inr (.inr (hS1 k' h))
          · simp at h; omega
        simp only [List.mem_cons] at hk'
        rcases hk' with h | h | h | h
        · omega
        · omega
        · omega
        · have := HPB.out k' h; omega
      · simp only [List.mem_cons] at hk'
        rcases hk' with h | h | h | h
        · omega
        · omega
        · omega
        · have := HPB.out k' h; omega
      · rcases List.mem_append.1 hm with h | h
        · have := hS1 k' h; omega
        · simp at h; omega
      · simpa using hb4
    · try simp only [List.getElem_toArray, List.getElem_cons_succ, List.getElem_cons_zero]
      go_simp
      have hN := blk_new (W2.drewN 1) (.cells #[.int .u8 0, .string ⟨#[]⟩] TRp)
      have hal := ((Upd.refl [] W2).drewN 1).alloc (.cells #[.int .u8 0, .string ⟨#[]⟩] TRp)
      generalize (W2.drewN 1).alloc (.cells #[.int .u8 0, .string ⟨#[]⟩] TRp) = w3 at *
      have t3 := Turned.of_nil hal lo hi
      rw [show (W2.drewN 1).heap.size = W2.heap.size from rfl] at hN
      obtain ⟨R, hR⟩ : ∃ R, W2.heap.size = R := ⟨_, rfl⟩
      rw [hR] at hN ⊢
      have hRz : W2.heap.size ≤ R := by omega
      have A3 := hide (AW.out.upd_nil hal); have CN0 := hide hN
      clear hN hal hR
      refine hK _ _ (.inr t3) ?_
      clear hK K
      try simp only [Act.put, zz1, zz2, zz3]
      refine wpAnyZ_one 5 (by kernel_rfl) rfl rfl (fun K hK => ?_)
      try simp only [List.getElem_toArray, List.getElem_cons_succ, List.getElem_cons_zero]
      go_simp
      refine (HDA.out w3 t3 A3.out).mono ?_
      rintro e w4 ⟨rfl, ha4, ht4⟩
      have t4 := t3.trans ht4
      have A4 := hide ha4; have CN := hide (ht4.get CN0.out (.inr (by omega)))
      clear ha4 ht4 A3 CN0 t3
      refine hK _ _ (.inr t4) ?_
      clear hK K
      try simp only [Act.put, zz1, zz2, zz3]
      refine zE 6 rfl (by kernel_rfl) (fun _ _ _ _ h => h) rfl (by exact t4) ?_
      apply Exists.intro
      refine ⟨fun wx hS => ?_, ?_⟩
      · go_simp; rfl
      simp only [Act.put, zz1, zz2, zz3, zz4, zz5, zz6]
      refine zE 7 rfl (by kernel_rfl) (fun _ _ _ _ h => h) rfl (by exact t4) ?_
      apply Exists.intro
      refine ⟨fun wx hS => ?_, ?_⟩
      · go_simp; rfl
      simp only [Act.put, zz1, zz2, zz3, zz4, zz5, zz6]
      refine zE 8 rfl (by kernel_rfl) (fun _ _ _ _ h => h) rfl (by exact t4) ?_
      apply Exists.intro
      refine ⟨fun wx hS => ?_, ?_⟩
      · go_simp; rfl
      simp only [Act.put, zz1, zz2, zz3, zz4, zz5, zz6]
      refine wpAnyZ_one 10 (by kernel_rfl) rfl rfl (fun K hK => ?_)
      try simp only [List.getElem_toArray, List.getElem_cons_succ, List.getElem_cons_zero]
      obtain ⟨z0, z1, f0, f1, z2, f2⟩ := res_facts CN.out
      go_simp
      have hW := upd2 w4 R (.int .u8 (r.code : Int)) (.string (strOf r.text))
      have t5 := t4.new hW (fun k hk => by simp at hk; omega)
      have A5 := hide (A4.out.far hW (fun k hk => by simp at hk; omega)); have RN := hide (stored2 (v0 := .int .u8 (r.code : Int)) (v1 := .string (strOf r.text)) CN.out)
      clear z0 z1 f0 f1 z2 f2 hW A4 CN
      refine hK _ _ (.inr t5) ?_
      clear hK K
      try simp only [Act.put, zz1, zz2, zz3]
      refine wpAnyZ_one 11 (by kernel_rfl) rfl rfl (fun K hK => ?_)
      try simp only [List.getElem_toArray, List.getElem_cons_succ, List.getElem_cons_zero]
      go_simp
      refine hK _ _ (.inr t5) ?_
      clear hK K
      try simp only [Act.put, zz1, zz2, zz3]
      refine wpAnyZ_done (by kernel_rfl) ?_ _
      generalize (w4.setCell ⟨R, 0, none⟩ (.int .u8 (r.code : Int))).setCell ⟨R, 1, none⟩ (.string (strOf r.text)) = w5 at *
      have R5 := hide (RA.out.turned t5 hhi); have T5 := hide t5
      have x0 : w5.cell? ⟨R, 0, none⟩ = some (.int .u8 (r.code : Int)) := blk_cell RN.out rfl
      have x1 : w5.cell? ⟨R, 1, none⟩ = some (.string (strOf r.text)) := blk_cell RN.out rfl
      have y3 : w5.cell? ⟨B + 3, 0, none⟩ = some (.slice (some ⟨B + 2, 0, none⟩) cl.length cl.length) := blk_cell R5.out.b3 rfl
      have y4 : w5.cell? ⟨B + 4, 0, none⟩ = some (.int .i64 (pre.length : Int)) := blk_cell R5.out.b4 rfl
      obtain ⟨⟨g0, k0⟩, ⟨g1, k1⟩, ⟨g2, k2⟩, ⟨g3, k3⟩, ⟨g4, k4⟩, l0, l1, l2, l3, l4⟩ := set5_facts (⟨r, f, wv, pre.length⟩ : Dn) R5.out.b2 (by omega : q < ds.length)
      have R6b := hide ((set5_upd w5 (B + 2) q ⟨r, f, wv, pre.length⟩).get R5.out.b4 (by simp))
      have y5 : (set5 w5 (B + 2) q ⟨r, f, wv, pre.length⟩).cell? ⟨B + 4, 0, none⟩ = some (.int .i64 (pre.length : Int)) := blk_cell R6b.out rfl
      have f5 : (set5 w5 (B + 2) q ⟨r, f, wv, pre.length⟩).frozen? ⟨B + 4, 0, none⟩ = false := blk_free R6b.out
      simp only [set1, set2, set3, set4, set5] at k0 k1 k2 k3 k4 l0 l1 l2 l3 l4 y5 f5
      clear t5 t4 s0
      gi_wp2_with fail
      have hUF : Upd [B + 2, B + 4] w5 ((set5 w5 (B + 2) q ⟨r, f, wv, pre.length⟩).setCell ⟨B + 4, 0, none⟩ (.int .i64 ((pre.length : Int) + 1))) := ((set5_upd w5 (B + 2) q ⟨r, f, wv, pre.length⟩).mono (by simp)).setCell (p := ⟨B + 4, 0, none⟩) (.inl (by simp)) _
      obtain ⟨SS, hS1, hS2⟩ := T5.out
      have hUW : Upd (SS ++ [B + 2, B + 4]) W2 ((set5 w5 (B + 2) q ⟨r, f, wv, pre.length⟩).setCell ⟨B + 4, 0, none⟩ (.int .i64 ((pre.length : Int) + 1))) := (hS2.mono (by simp +contextual)).trans (hUF.mono (by simp +contextual))
      have hg : cl.getD q cm0 = c := by simp [List.getD, HC.out]
      have hrun : runD cl a (pre ++ [(q, wv)]) 0 (List.replicate cl.length dn0) = (a2, ds.set q ⟨r, f, wv, pre.length⟩) := by
        rw [runD_app, RD.out]
        simp only [runD]
        rw [hg, HD.out, Nat.zero_add]
      have hok2 := OK.out.next (c := c) (by omega) FIT.out.1 FIT.out.2.1
      rw [HD.out] at hok2
      have hb2 := set5_blk (⟨r, f, wv, pre.length⟩ : Dn) R5.out.b2 (by omega : q < ds.length)
      have hb4 := blk_set (i := 0) R6b.out (.int .i64 ((pre.length : Int) + 1))
      refine ⟨Keeps.of_upd hUW (fun k' hk' => ⟨fun hm => ?_, ?_⟩), KeepsFrom.of_upd hUW (fun k' hm => ?_), a2, ds.set q ⟨r, f, wv, pre.length⟩, hrun, A5.out.far hUF (fun k' hm => by simp at hm; omega), by rw [List.length_append]; exact hok2, ⟨hUF.get R5.out.b0 (by simp), hUF.get R5.out.b1 (by simp), blk_set_other hb2 (by simp) _, hUF.get R5.out.b3 (by simp), ?_⟩, ((TU.out.trans T5.out).new hUF (fun k' hm => by have := HB.out; simp at hm; omega))⟩
      · have h7 : k' = B + 2 ∨ k' = B + 4 ∨ (lo ≤ k' ∧ k' < hi) := by
          rcases List.mem_append.1 hm with h | h
          · exact .inr (.inr (hS1 k' h))
          · simp at h; omega
        simp only [List.mem_cons] at hk'
        rcases hk' with h | h | h | h
        · omega
        · omega
        · omega
        · have := HPB.out k' h; omega
      · simp only [List.mem_cons] at hk'
        rcases hk' with h | h | h | h
        · omega
        · omega
        · omega
        · have := HPB.out k' h; omega
      · rcases List.mem_append.1 hm with h | h
        · have := hS1 k' h; omega
        · simp at h; omega
      · simpa using hb4
  case hdone =>
    rintro W ⟨a', ds, h1, h2, h3, h4, h5⟩ hd
    have RD := hide h1; have AW := hide h2; have R7 := hide h4; have T7 := hide h5; have HDD := hide hd
    have y3 : W.cell? ⟨B + 3, 0, none⟩ = some (.slice (some ⟨B + 2, 0, none⟩) cl.length cl.length) := blk_cell h4.b3 rfl
    clear h1 h2 h3 h4 h5 hd
    go_wp2_with fail
    have hpo : Upd [w6.heap.size] W (W.putObj w6.heap.size (.deferred none)) := (Upd.refl [w6.heap.size] W).putObj (l := w6.heap.size) (.inl (by simp)) (.deferred none)
    refine leaves_one HDD.out (results_tmp rfl _ _ _) ⟨⟨B + 2, rfl, by have := HB.out; omega, ?_⟩, ?_, T7.out.new hpo (fun k' hm => by have := HB.out; simp at hm; omega)⟩
    · rw [RD.out]
      exact hpo.get R7.out.b2 (by simp; omega)
    · rw [RD.out]
      exact AW.out.far hpo (fun k' hm => by simp at hm; omega)
end Go.Proofs.YthpnnffogbjhpaaGreatDoor.Kv
namespace Go.Proofs.YthpnnffogbjhpaaGreatDoor.Kv
set_option linter.unusedSimpArgs false
set_option linter.unusedVariables false
set_option linter.unnecessarySimpa false
open Go.RowKit Go.Lib Go.Proofs.YthpnnffogbjhpaaGreatDoor.Crc Go.Proofs.YthpnnffogbjhpaaGreatDoor.Cm
attribute [local go_sem] Oper.semAt_some

set_option maxRecDepth 100000 in
set_option maxHeartbeats 4000000 in
theorem runn_any {T : Nat → Prop} {v : Value} {cl : List Cm} {lo hi p k : Nat} {a : Ap} (w : World) (har : Around w lo hi T v cl) (hs : Small cl)
    (hhi : hi ≤ w.heap.size) (ha : ApIs w lo hi p a) (ho : ApOk a k) (hk : k ≤ 5000) :
    Calls Tryz.prog 29 #[.pointer (some ⟨p, 0, none⟩), v, .nilFunc] w fun e w' =>
      (∃ g, e = .returned (.slice (some ⟨g, 0, none⟩) cl.length cl.length) ∧ w.heap.size ≤ g ∧ w'.heap[g]? = some (.cells (dncs (runD cl a (orderM cl []) 0 (List.replicate cl.length dn0)).2).toArray TDone (0, 0))) ∧
      ApIs w' lo hi p (runD cl a (orderM cl []) 0 (List.replicate cl.length dn0)).1 ∧ Turned lo hi w w' := by
  obtain ⟨i1, hi1, iz0, iz1, iz2⟩ := partsI infoDn
  obtain ⟨xo, cp, rfl, h1, h2, hg⟩ := har.get
  have HAR := hide har; have HG := hide hg; have HS := hide hs; have HA := hide ha; have HO := hide ho
  have hl100 := hs.1
  have hs' := hs.2
  simp only [maxLen] at h2
  have hmk := fun wx => run_make_rowN (P := Tryz.prog) 67 72 i1 _ Tryz.underlying67 hi1 iz0 .i64 .i64 cl.length cl.length (Nat.le_refl _) (by rw [iz2]; omega) (by omega) wx
  rw [iz1] at hmk
  clear har hg hs ha ho
  refine calls_of_wp_marks Tryz.func29 rfl ?_
  simp only [Tryz.ntmps29, List.size_toArray, List.length_cons, List.length_nil, Nat.reduceAdd, Nat.reduceSub, Array.replicate_succ, Array.replicate_zero, List.push_toArray, List.append_toArray, List.nil_append, List.cons_append]
  rw [show (Value.agg #[.int .u8 0, .string ByteArray.empty, .bool false, .int .i64 0, .int .i64 0]).cells = #[.int .u8 0, .string ByteArray.empty, .bool false, .int .i64 0, .int .i64 0] from rfl] at hmk
  simp only [made_dn] at hmk
  have htp := topM_le hs'
  go_wp2_with fail
  obtain ⟨B, hB⟩ : ∃ B, w.heap.size = B := ⟨_, rfl⟩
  obtain ⟨w5, hw5⟩ : ∃ w5, ((((w.alloc (Obj.cells #[Value.pointer (some { block := p, off := 0 })] 24)).alloc (Obj.cells #[Value.slice xo cl.length cp] 30)).alloc (Obj.cells (dncs (List.replicate cl.length dn0)).toArray 72)).alloc
      (Obj.cells #[Value.slice (some { block := w.heap.size + 1 + 1, off := 0 }) cl.length cl.length] 67)).alloc (Obj.cells #[Value.int IntKind.i64 0] 3) = w5 := ⟨_, rfl⟩
  have hr5 : RunAt w5 B p (.slice xo cl.length cp) cl.length (List.replicate cl.length dn0) 0 := by
    rw [← hw5, ← hB]
    have g0 := blk_new w (Obj.cells #[Value.pointer (some { block := p, off := 0 })] 24)
    have g1 := blk_new (w.alloc (Obj.cells #[Value.pointer (some { block := p, off := 0 })] 24)) (Obj.cells #[Value.slice xo cl.length cp] 30)
    have g2 := blk_new ((w.alloc (Obj.cells #[Value.pointer (some { block := p, off := 0 })] 24)).alloc (Obj.cells #[Value.slice xo cl.length cp] 30)) (Obj.cells (dncs (List.replicate cl.length dn0)).toArray 72)
    have g3 := blk_new (((w.alloc (Obj.cells #[Value.pointer (some { block := p, off := 0 })] 24)).alloc (Obj.cells #[Value.slice xo cl.length cp] 30)).alloc (Obj.cells (dncs (List.replicate cl.length dn0)).toArray 72)) (Obj.cells #[Value.slice (some { block := w.heap.size + 1 + 1, off := 0 }) cl.length cl.length] 67)
    have g4 := blk_new ((((w.alloc (Obj.cells #[Value.pointer (some { block := p, off := 0 })] 24)).alloc (Obj.cells #[Value.slice xo cl.length cp] 30)).alloc (Obj.cells (dncs (List.replicate cl.length dn0)).toArray 72)).alloc (Obj.cells #[Value.slice (some { block := w.heap.size + 1 + 1, off := 0 }) cl.length cl.length] 67)) (Obj.cells #[Value.int IntKind.i64 0] 3)
    simp only [World.size_alloc] at g1 g2 g3 g4
    exact ⟨blk_alloc (blk_alloc (blk_alloc (blk_alloc g0 _) _) _) _, blk_alloc (blk_alloc (blk_alloc g1 _) _) _, blk_alloc (blk_alloc g2 _) _, blk_alloc g3 _, g4⟩
  have hu5 : Upd [] w w5 := by rw [← hw5]; exact (((((Upd.refl [] w).alloc _).alloc _).alloc _).alloc _).alloc _
  have hz5 : w5.heap.size = B + 5 := by rw [← hw5, ← hB]; simp
  rw [hw5, hB]
  have HB := hide hB; have R5 := hide hr5; have U5 := hide hu5
  rw [hB] at hhi
  have hhl : lo < hi := by obtain ⟨_, _, _, _, _, _, h3, h4, _⟩ := HA.out; omega
  clear hw5 hr5 hu5 hB hmk hs'
  refine (order_any w5 rfl rfl rfl).mono ?_
  rintro e w6 ⟨rfl, hb6, hu6⟩
  rw [hz5] at hb6 ⊢
  have hz6 := hu6.size
  have hz7 := blk_lt hb6
  have R6 := hide (R5.out.upd hu6 (by simp)); have B6 := hide hb6; have U6 := hide (U5.out.trans hu6)
  clear hb6 hu6 R5 U5
  go_wp2_with fail
  refine wp_rangeN (gf := 91) rfl (enters_of Tryz.func91 (by kernel_rfl) rfl) (order_itern (T := T) (p := B + 5) (cp := cp) (av := .pointer (some ⟨p, 0, none⟩)) (xo := xo) (cl := cl) HS.out (by omega)) (fun _ => rfl) ?hK (by simp)
    (fun W hu => ⟨hu.get B6.out (by simp), HAR.out.row W (Turned.of_nil (U6.out.trans hu) lo hi)⟩)
    (fun pre W => ∃ (a' : Ap) (ds : List Dn), runD cl a pre 0 (List.replicate cl.length dn0) = (a', ds) ∧ ApIs W lo hi p a' ∧ ApOk a' (k + pre.length) ∧ RunAt W B p (.slice xo cl.length cp) cl.length ds pre.length ∧ Turned lo hi w W) (fun _ _ _ => False) ?hI (fun _ _ _ _ h _ => h) ?h0 ?hround ?hdone (fun _ _ _ _ h _ => h.elim)
  case hK =>
    intro q hq
    simp at hq
    omega
  case hI =>
    rintro pre W1 W2 ⟨a', ds, h1, h2, h3, h4, h5⟩ hu
    exact ⟨a', ds, h1, h2.far hu (fun q hq => by simp at hq; omega), h3, h4.upd hu (fun q hq => by simp at hq; omega), h5.new hu (fun q hq => by have := HB.out; simp at hq; omega)⟩
  case h0 =>
    intro W hu hsz
    exact ⟨a, List.replicate cl.length dn0, rfl, HA.out.upd_nil (U6.out.trans hu), HO.out, R6.out.upd hu (by simp), Turned.of_nil (U6.out.trans hu) lo hi⟩
  case hround =>
    rintro pre ⟨q, wv⟩ W hpre hi hsz
    gi_wp2
    refine ⟨Keeps.refl _ _, KeepsFrom.refl _ _, fun W2 hu hi2 => ?_⟩
    obtain ⟨a', ds, h1, h2, h3, h4, h5⟩ := hi2 hi
    have hq : q < cl.length := orderM_lt (x := (q, wv)) (hpre.subset (by simp))
    have hpl : pre.length + 1 ≤ cl.length := by have := hpre.length_le; rw [orderM_len] at this; simpa using this
    obtain ⟨c, hc⟩ : ∃ c, cl[q]? = some c := ⟨_, List.getElem?_eq_getElem hq⟩
    obtain ⟨bc, oc, ka, kc, rfl, fit, hcc⟩ := HG.out q c hc
    have hsz2 : w6.heap.size + 2 ≤ W2.heap.size := Nat.le_trans hsz hu.size
    have RD := hide h1; have AW := hide h2; have OK := hide h3; have RA := hide h4; have TU := hide h5; have HC := hide hc; have FIT := hide fit; have CC := hide hcc; have HPRE := hide hpre
    have hds : ds.length = cl.length := by have h7 := runD_len cl pre a 0 (List.replicate cl.length dn0); rw [h1] at h7; simpa using h7
    clear h1 h2 h3 h4 h5 hc fit hcc hpre hi hi2 hu hsz
    gi_wp2_with fail
    have s0 : Turned lo hi W2 (W2.drewN 1) := Turned.of_nil ((Upd.refl [] W2).drewN 1) lo hi
    refine wpIn_region_z (fun wx => Turned lo hi W2 wx) 99 (by kernel_rfl) (by kernel_rfl) ?hq8 ?_
    case hq8 => exact fun ⟨_, _, h⟩ => h
    refine zE 0 rfl (by kernel_rfl) (fun _ _ _ _ h => h) rfl (by exact s0) ?_
    apply Exists.intro
    refine ⟨fun wx hS => ?_, ?_⟩
    · have R1 := RA.out.turned hS hhi ; have c0 : wx.cell? ⟨B, 0, none⟩ = some (.pointer (some ⟨p, 0, none⟩)) := blk_cell R1.b0 rfl; go_simp; rfl
    simp only [Act.put, List.setIfInBounds_toArray, List.set_cons_succ, List.set_cons_zero, List.getElem_toArray, List.getElem_cons_zero]
    refine zE 1 rfl (by kernel_rfl) (fun _ _ _ _ h => h) rfl (by exact s0) ?_
    apply Exists.intro
    refine ⟨fun wx hS => ?_, ?_⟩
    · have R1 := RA.out.turned hS hhi ; have c0 : wx.cell? ⟨B + 1, 0, none⟩ = some (.slice (some ⟨bc, oc, none⟩) cl.length cp) := blk_cell R1.b1 rfl; go_simp; rfl
    simp only [Act.put, zz1, zz2, zz3, zz4, zz5, zz6]
    refine zE 2 rfl (by kernel_rfl) (fun _ _ _ _ h => h) rfl (by exact s0) ?_
    apply Exists.intro
    refine ⟨fun wx hS => ?_, ?_⟩
    · go_simp; rfl
    simp only [Act.put, zz1, zz2, zz3, zz4, zz5, zz6]
    refine zE 3 rfl (by kernel_rfl) (fun _ _ _ _ h => h) rfl (by exact s0) ?_
    apply Exists.intro
    refine ⟨fun wx hS => ?_, ?_⟩
    · go_simp; rfl
    simp only [Act.put, zz1, zz2, zz3, zz4, zz5, zz6]
    refine zE 4 rfl (by kernel_rfl) (fun _ _ _ _ h => h) rfl (by exact s0) ?_
    apply Exists.intro
    refine ⟨fun wx hS => ?_, ?_⟩
    · obtain ⟨-, c0, c1, c2, c3, c4, c5, c6⟩ := CC.out wx (TU.out.trans hS); go_simp; rfl
    simp only [Act.put, zz1, zz2, zz3, zz4, zz5, zz6]
    have hz2 : hi ≤ W2.heap.size := by omega
    obtain ⟨a2, r, f, hd⟩ : ∃ a2 r f, apDo a' c = (a2, r, f) := ⟨_, _, _, rfl⟩
    have hda := fun (wx : World) (hS : Turned lo hi W2 wx) (hA : ApIs wx lo hi p a') => ado_any (c := c) (T := T) (v := cmv c (.slice ka c.keys.length kc)) wx (HAR.out.env wx (TU.out.trans hS)) hA OK.out (by omega) ⟨FIT.out, _, rfl, (CC.out wx (TU.out.trans hS)).1⟩
    rw [hd] at hda
    simp only [cmv, strV] at hda
    unfold rpv at hda
    have HDA := hide hda; have HD := hide hd
    clear hda hd
    refine wpAnyZ_two 5 9 (by kernel_rfl) rfl rfl rfl rfl (fun K hK => ?_) (fun K hK => ?_)
    · try simp only [List.getElem_toArray, List.getElem_cons_succ, List.getElem_cons_zero]
      go_simp
      refine (HDA.out (W2.drewN 1) s0 (AW.out.upd_nil ((Upd.refl [] W2).drewN 1))).mono ?_
      rintro e w3 ⟨rfl, ha3, ht3⟩
      have t3 := s0.trans ht3
      have A3 := hide ha3
      clear ha3 ht3
      refine hK _ _ (.inr t3) ?_
      clear hK K
      try simp only [Act.put, zz1, zz2, zz3]
      refine zE 6 rfl (by kernel_rfl) (fun _ _ _ _ h => h) rfl (by exact t3) ?_
      apply Exists.intro
      refine ⟨fun wx hS => ?_, ?_⟩
      · go_simp; rfl
      simp only [Act.put, zz1, zz2, zz3, zz4, zz5, zz6]
      refine zE 7 rfl (by kernel_rfl) (fun _ _ _ _ h => h) rfl (by exact t3) ?_
      apply Exists.intro
      refine ⟨fun wx hS => ?_, ?_⟩
      · go_simp; rfl
      simp only [Act.put, zz1, zz2, zz3, zz4, zz5, zz6]
      refine zE 8 rfl (by kernel_rfl) (fun _ _ _ _ h => h) rfl (by exact t3) ?_
      apply Exists.intro
      refine ⟨fun wx hS => ?_, ?_⟩
      · go_simp; rfl
      simp only [Act.put, zz1, zz2, zz3, zz4, zz5, zz6]
      refine wpAnyZ_one 9 (by kernel_rfl) rfl rfl (fun K hK => ?_)
      try simp only [List.getElem_toArray, List.getElem_cons_succ, List.getElem_cons_zero]
      go_simp
      have hN := blk_new w3 (.cells #[.int .u8 0, .string ⟨#[]⟩] TRp)
      have hal := (Upd.refl [] w3).alloc (.cells #[.int .u8 0, .string ⟨#[]⟩] TRp)
      generalize w3.alloc (.cells #[.int .u8 0, .string ⟨#[]⟩] TRp) = w4 at *
      have t4 := t3.trans (Turned.of_nil hal lo hi)
      have A4 := hide (A3.out.upd_nil hal); have CN := hide hN
      have hRz := t3.size
      generalize w3.heap.size = R at *
      clear hN hal A3 t3
      refine hK _ _ (.inr t4) ?_
      clear hK K
      try simp only [Act.put, zz1, zz2, zz3]
      refine wpAnyZ_one 10 (by kernel_rfl) rfl rfl (fun K hK => ?_)
      try simp only [List.getElem_toArray, List.getElem_cons_succ, List.getElem_cons_zero]
      obtain ⟨z0, z1, f0, f1, z2, f2⟩ := res_facts CN.out
      go_simp
      have hW := upd2 w4 R (.int .u8 (r.code : Int)) (.string (strOf r.text))
      have t5 := t4.new hW (fun k hk => by simp at hk; omega)
      have A5 := hide (A4.out.far hW (fun k hk => by simp at hk; omega)); have RN := hide (stored2 (v0 := .int .u8 (r.code : Int)) (v1 := .string (strOf r.text)) CN.out)
      clear z0 z1 f0 f1 z2 f2 hW A4 CN
      refine hK _ _ (.inr t5) ?_
      clear hK K
      try simp only [Act.put, zz1, zz2, zz3]
      refine wpAnyZ_one 11 (by kernel_rfl) rfl rfl (fun K hK => ?_)
      try simp only [List.getElem_toArray, List.getElem_cons_succ, List.getElem_cons_zero]
      go_simp
      refine hK _ _ (.inr t5) ?_
      clear hK K
      try simp only [Act.put, zz1, zz2, zz3]
      refine wpAnyZ_done (by kernel_rfl) ?_ _
      generalize (w4.setCell ⟨R, 0, none⟩ (.int .u8 (r.code : Int))).setCell ⟨R, 1, none⟩ (.string (strOf r.text)) = w5 at *
      have R5 := hide (RA.out.turned t5 hhi); have T5 := hide t5
      have x0 : w5.cell? ⟨R, 0, none⟩ = some (.int .u8 (r.code : Int)) := blk_cell RN.out rfl
      have x1 : w5.cell? ⟨R, 1, none⟩ = some (.string (strOf r.text)) := blk_cell RN.out rfl
      have y3 : w5.cell? ⟨B + 3, 0, none⟩ = some (.slice (some ⟨B + 2, 0, none⟩) cl.length cl.length) := blk_cell R5.out.b3 rfl
      have y4 : w5.cell? ⟨B + 4, 0, none⟩ = some (.int .i64 (pre.length : Int)) := blk_cell R5.out.b4 rfl
      obtain ⟨⟨g0, k0⟩, ⟨g1, k1⟩, ⟨g2, k2⟩, ⟨g3, k3⟩, ⟨g4, k4⟩, l0, l1, l2, l3, l4⟩ := set5_facts (⟨r, f, wv, pre.length⟩ : Dn) R5.out.b2 (by omega : q < ds.length)
      have R6b := hide ((set5_upd w5 (B + 2) q ⟨r, f, wv, pre.length⟩).get R5.out.b4 (by simp))
      have y5 : (set5 w5 (B + 2) q ⟨r, f, wv, pre.length⟩).cell? ⟨B + 4, 0, none⟩ = some (.int .i64 (pre.length : Int)) := blk_cell R6b.out rfl
      have f5 : (set5 w5 (B + 2) q ⟨r, f, wv, pre.length⟩).frozen? ⟨B + 4, 0, none⟩ = false := blk_free R6b.out
      simp only [set1, set2, set3, set4, set5] at k0 k1 k2 k3 k4 l0 l1 l2 l3 l4 y5 f5
      clear t5 t4 s0
      gi_wp2_with fail
      have hUF : Upd [B + 2, B + 4] w5 ((set5 w5 (B + 2) q ⟨r, f, wv, pre.length⟩).setCell ⟨B + 4, 0, none⟩ (.int .i64 ((pre.length : Int) + 1))) := ((set5_upd w5 (B + 2) q ⟨r, f, wv, pre.length⟩).mono (by simp)).setCell (p := ⟨B + 4, 0, none⟩) (.inl (by simp)) _
      obtain ⟨SS, hS1, hS2⟩ := T5.out
      have hUW : Upd (SS ++ [B + 2, B + 4]) W2 ((set5 w5 (B + 2) q ⟨r, f, wv, pre.length⟩).setCell ⟨B + 4, 0, none⟩ (.int .i64 ((pre.length : Int) + 1))) := (hS2.mono (by simp +contextual)).trans (hUF.mono (by simp +contextual))
      have hg : cl.getD q cm0 = c := by simp [List.getD, HC.out]
      have hrun : runD cl a (pre ++ [(q, wv)]) 0 (List.replicate cl.length dn0) = (a2, ds.set q ⟨r, f, wv, pre.length⟩) := by
        rw [runD_app, RD.out]
        simp only [runD]
        rw [hg, HD.out, Nat.zero_add]
      have hok2 := OK.out.next (c := c) (by omega) FIT.out.1 FIT.out.2.1
      rw [HD.out] at hok2
      have hb2 := set5_blk (⟨r, f, wv, pre.length⟩ : Dn) R5.out.b2 (by omega : q < ds.length)
      have hb4 := blk_set (i := 0) R6b.out (.int .i64 ((pre.length : Int) + 1))
      refine ⟨Keeps.of_upd hUW (fun k' hk' => ⟨fun hm => ?_, ?_⟩), KeepsFrom.of_upd hUW (fun k' hm => ?_), a2, ds.set q ⟨r, f, wv, pre.length⟩, hrun, A5.out.far hUF (fun k' hm => by simp at hm; omega), by rw [List.length_append]; exact hok2, ⟨hUF.get R5.out.b0 (by simp), hUF.get R5.out.b1 (by simp), blk_set_other hb2 (by simp) _, hUF.get R5.out.b3 (by simp), ?_⟩, ((TU.out.trans T5.out).new hUF (fun k' hm => by have := HB.out; simp at hm; omega))⟩
      · have h7 : k' = B + 2 ∨ k' = B + 4 ∨ (lo ≤ k' ∧ k' < hi) := by
          rcases List.mem_append.1 hm with h | h
          · exact .inr (.inr (hS1 k' h))
          · simp at h; omega
        simp only [List.mem_cons, List.not_mem_nil, or_false] at hk'
        omega
      · simp only [List.mem_cons, List.not_mem_nil, or_false] at hk'
        omega
      · rcases List.mem_append.1 hm with h | h
        · have := hS1 k' h; omega
        · simp at h; omega
      · simpa using hb4
    · try simp only [List.getElem_toArray, List.getElem_cons_succ, List.getElem_cons_zero]
      go_simp
      have hN := blk_new (W2.drewN 1) (.cells #[.int .u8 0, .string ⟨#[]⟩] TRp)
      have hal := ((Upd.refl [] W2).drewN 1).alloc (.cells #[.int .u8 0, .string ⟨#[]⟩] TRp)
      generalize (W2.drewN 1).alloc (.cells #[.int .u8 0, .string ⟨#[]⟩] TRp) = w3 at *
      have t3 := Turned.of_nil hal lo hi
      rw [show (W2.drewN 1).heap.size = W2.heap.size from rfl] at hN
      obtain ⟨R, hR⟩ : ∃ R, W2.heap.size = R := ⟨_, rfl⟩
      rw [hR] at hN ⊢
      have hRz : W2.heap.size ≤ R := by omega
      have A3 := hide (AW.out.upd_nil hal); have CN0 := hide hN
      clear hN hal hR
      refine hK _ _ (.inr t3) ?_
      clear hK K
      try simp only [Act.put, zz1, zz2, zz3]
      refine wpAnyZ_one 5 (by kernel_rfl) rfl rfl (fun K hK => ?_)
      try simp only [List.getElem_toArray, List.getElem_cons_succ, List.getElem_cons_zero]
      go_simp
      refine (HDA.out w3 t3 A3.out).mono ?_
      rintro e w4 ⟨rfl, ha4, ht4⟩
      have t4 := t3.trans ht4
      have A4 := hide ha4; have CN := hide (ht4.get CN0.out (.inr (by omega)))
      clear ha4 ht4 A3 CN0 t3
      refine hK _ _ (.inr t4) ?_
      clear hK K
      try simp only [Act.put, zz1, zz2, zz3]
      refine zE 6 rfl (by kernel_rfl) (fun _ _ _ _ h => h) rfl (by exact t4) ?_
      apply Exists.intro
      refine ⟨fun wx hS => ?_, ?_⟩
      · go_simp; rfl
      simp only [Act.put, zz1, zz2, zz3, zz4, zz5, zz6]
      refine zE 7 rfl (by kernel_rfl) (fun _ _ _ _ h => h) rfl (by exact t4) ?_
      apply Exists.intro
      refine ⟨fun wx hS => ?_, ?_⟩
      · go_simp; rfl
      simp only [Act.put, zz1, zz2, zz3, zz4, zz5, zz6]
      refine zE 8 rfl (by kernel_rfl) (fun _ _ _ _ h => h) rfl (by exact t4) ?_
      apply Exists.intro
      refine ⟨fun wx hS => ?_, ?_⟩
      · go_simp; rfl
      simp only [Act.put, zz1, zz2, zz3, zz4, zz5, zz6]
      refine wpAnyZ_one 10 (by kernel_rfl) rfl rfl (fun K hK => ?_)
      try simp only [List.getElem_toArray, List.getElem_cons_succ, List.getElem_cons_zero]
      obtain ⟨z0, z1, f0, f1, z2, f2⟩ := res_facts CN.out
      go_simp
      have hW := upd2 w4 R (.int .u8 (r.code : Int)) (.string (strOf r.text))
      have t5 := t4.new hW (fun k hk => by simp at hk; omega)
      have A5 := hide (A4.out.far hW (fun k hk => by simp at hk; omega)); have RN := hide (stored2 (v0 := .int .u8 (r.code : Int)) (v1 := .string (strOf r.text)) CN.out)
      clear z0 z1 f0 f1 z2 f2 hW A4 CN
      refine hK _ _ (.inr t5) ?_
      clear hK K
      try simp only [Act.put, zz1, zz2, zz3]
      refine wpAnyZ_one 11 (by kernel_rfl) rfl rfl (fun K hK => ?_)
      try simp only [List.getElem_toArray, List.getElem_cons_succ, List.getElem_cons_zero]
      go_simp
      refine hK _ _ (.inr t5) ?_
      clear hK K
      try simp only [Act.put, zz1, zz2, zz3]
      refine wpAnyZ_done (by kernel_rfl) ?_ _
      generalize (w4.setCell ⟨R, 0, none⟩ (.int .u8 (r.code : Int))).setCell ⟨R, 1, none⟩ (.string (strOf r.text)) = w5 at *
      have R5 := hide (RA.out.turned t5 hhi); have T5 := hide t5
      have x0 : w5.cell? ⟨R, 0, none⟩ = some (.int .u8 (r.code : Int)) := blk_cell RN.out rfl
      have x1 : w5.cell? ⟨R, 1, none⟩ = some (.string (strOf r.text)) := blk_cell RN.out rfl
      have y3 : w5.cell? ⟨B + 3, 0, none⟩ = some (.slice (some ⟨B + 2, 0, none⟩) cl.length cl.length) := blk_cell R5.out.b3 rfl
      have y4 : w5.cell? ⟨B + 4, 0, none⟩ = some (.int .i64 (pre.length : Int)) := blk_cell R5.out.b4 rfl
      obtain ⟨⟨g0, k0⟩, ⟨g1, k1⟩, ⟨g2, k2⟩, ⟨g3, k3⟩, ⟨g4, k4⟩, l0, l1, l2, l3, l4⟩ := set5_facts (⟨r, f, wv, pre.length⟩ : Dn) R5.out.b2 (by omega : q < ds.length)
      have R6b := hide ((set5_upd w5 (B + 2) q ⟨r, f, wv, pre.length⟩).get R5.out.b4 (by simp))
      have y5 : (set5 w5 (B + 2) q ⟨r, f, wv, pre.length⟩).cell? ⟨B + 4, 0, none⟩ = some (.int .i64 (pre.length : Int)) := blk_cell R6b.out rfl
      have f5 : (set5 w5 (B + 2) q ⟨r, f, wv, pre.length⟩).frozen? ⟨B + 4, 0, none⟩ = false := blk_free R6b.out
      simp only [set1, set2, set3, set4, set5] at k0 k1 k2 k3 k4 l0 l1 l2 l3 l4 y5 f5
      clear t5 t4 s0
      gi_wp2_with fail
      have hUF : Upd [B + 2, B + 4] w5 ((set5 w5 (B + 2) q ⟨r, f, wv, pre.length⟩).setCell ⟨B + 4, 0, none⟩ (.int .i64 ((pre.length : Int) + 1))) := ((set5_upd w5 (B + 2) q ⟨r, f, wv, pre.length⟩).mono (by simp)).setCell (p := ⟨B + 4, 0, none⟩) (.inl (by simp)) _
      obtain ⟨SS, hS1, hS2⟩ := T5.out
      have hUW : Upd (SS ++ [B + 2, B + 4]) W2 ((set5 w5 (B + 2) q ⟨r, f, wv, pre.length⟩).setCell ⟨B + 4, 0, none⟩ (.int .i64 ((pre.length : Int) + 1))) := (hS2.mono (by simp +contextual)).trans (hUF.mono (by simp +contextual))
      have hg : cl.getD q cm0 = c := by simp [List.getD, HC.out]
      have hrun : runD cl a (pre ++ [(q, wv)]) 0 (List.replicate cl.length dn0) = (a2, ds.set q ⟨r, f, wv, pre.length⟩) := by
        rw [runD_app, RD.out]
        simp only [runD]
        rw [hg, HD.out, Nat.zero_add]
      have hok2 := OK.out.next (c := c) (by omega) FIT.out.1 FIT.out.2.1
      rw [HD.out] at hok2
      have hb2 := set5_blk (⟨r, f, wv, pre.length⟩ : Dn) R5.out.b2 (by omega : q < ds.length)
      have hb4 := blk_set (i := 0) R6b.out (.int .i64 ((pre.length : Int) + 1))
      refine ⟨Keeps.of_upd hUW (fun k' hk' => ⟨fun hm => ?_, ?_⟩), KeepsFrom.of_upd hUW (fun k' hm => ?_), a2, ds.set q ⟨r, f, wv, pre.length⟩, hrun, A5.out.far hUF (fun k' hm => by simp at hm; omega), by rw [List.length_append]; exact hok2, ⟨hUF.get R5.out.b0 (by simp), hUF.get R5.out.b1 (by simp), blk_set_other hb2 (by simp) _, hUF.get R5.out.b3 (by simp), ?_⟩, ((TU.out.trans T5.out).new hUF (fun k' hm => by have := HB.out; simp at hm; omega))⟩
      · have h7 : k' = B + 2 ∨ k' = B + 4 ∨ (lo ≤ k' ∧ k' < hi) := by
          rcases List.mem_append.1 hm with h | h
          · exact .inr (.inr (hS1 k' h))
          · simp at h; omega
        simp only [List.mem_cons, List.not_mem_nil, or_false] at hk'
        omega
      · simp only [List.mem_cons, List.not_mem_nil, or_false] at hk'
        omega
      · rcases List.mem_append.1 hm with h | h
        · have := hS1 k' h; omega
        · simp at h; omega
      · simpa using hb4
  case hdone =>
    rintro W ⟨a', ds, h1, h2, h3, h4, h5⟩ hd
    have RD := hide h1; have AW := hide h2; have R7 := hide h4; have T7 := hide h5; have HDD := hide hd
    have y3 : W.cell? ⟨B + 3, 0, none⟩ = some (.slice (some ⟨B + 2, 0, none⟩) cl.length cl.length) := blk_cell h4.b3 rfl
    clear h1 h2 h3 h4 h5 hd
    go_wp2_with fail
    have hpo : Upd [w6.heap.size] W (W.putObj w6.heap.size (.deferred none)) := (Upd.refl [w6.heap.size] W).putObj (l := w6.heap.size) (.inl (by simp)) (.deferred none)
    refine leaves_one HDD.out (results_tmp rfl _ _ _) ⟨⟨B + 2, rfl, by have := HB.out; omega, ?_⟩, ?_, T7.out.new hpo (fun k' hm => by have := HB.out; simp at hm; omega)⟩
    · rw [RD.out]
      exact hpo.get R7.out.b2 (by simp; omega)
    · rw [RD.out]
      exact AW.out.far hpo (fun k' hm => by simp at hm; omega)
end Go.Proofs.YthpnnffogbjhpaaGreatDoor.Kv
