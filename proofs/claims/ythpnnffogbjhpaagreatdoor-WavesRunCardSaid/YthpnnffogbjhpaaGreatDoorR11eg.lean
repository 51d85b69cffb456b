/- R11e, R11g in one text. -/
import Derived.Test.YthpnnffogbjhpaaGreatDoorR11d
import Derived.Test.YthpnnffogbjhpaaGreatDoorKvRv
import Derived.Test.YthpnnffogbjhpaaGreatDoorKvPure
import Derived.Test.YthpnnffogbjhpaaGreatDoorKvR
import Derived.Test.YthpnnffogbjhpaaGreatDoorKvGH
import Derived.Test.YthpnnffogbjhpaaGreatDoorGenAll
set_option linter.unusedSimpArgs false
set_option linter.unusedVariables false
set_option linter.unnecessarySimpa false
namespace Go.Proofs.YthpnnffogbjhpaaGreatDoor.Kv
set_option linter.unusedSimpArgs false
set_option linter.unusedVariables false
open Go.RowKit Go.Lib Go.Proofs.YthpnnffogbjhpaaGreatDoor.Crc Go.Proofs.YthpnnffogbjhpaaGreatDoor.Cm

theorem radoP_any {Tp Tl T' : Nat → Prop} {vp vl vc : Value} {a : Ap} {c : Cm} {i : Nat} (w : World) (h : pairK.row w Tp vp a.m) (hTp : ∀ k, Tp k → k < w.heap.size) (h2 : laK.row w Tl vl a.t) (hc : CmAt w T' vc c) (ho : ApOk a i) (hi : i ≤ 400) :
    Calls Tryz.prog 12 #[.agg #[vp, vl, .int .u64 (a.n : Int)], vc] w fun e w' => (∃ vp' vl', e = .returned (.tuple #[.agg #[vp', vl', .int .u64 ((apDo a c).1.n : Int)], rpv (apDo a c).2.1, .bool (apDo a c).2.2]) ∧
      pairK.row w' (fun g => Tp g ∨ since w.heap.size w' g) vp' (apDo a c).1.m ∧ laK.row w' (fun g => Tl g ∨ since w.heap.size w' g) vl' (apDo a c).1.t) ∧ Upd [] w w' := by
  have h1 := ho.len; have h3 := ho.tab; have h4 := ho.n
  exact rado_any (Pr := fun w U v m => pairK.row w U v m) w (fun w w' U S v m h hu hk => pairK.row_upd h hu hk) (fun w U V v m h hk => pairK.row_mono h hk)
    (fun w U v m h => by obtain ⟨xo, cp, rfl, -, -⟩ := Row.slice h; exact ⟨_, _, _, rfl⟩)
    (fun w U vp h hU hc => rdo_any w h hc ho.kv (by omega) hU) h hTp h2 hc ho.rise (fun p hp => by obtain ⟨q1, q2, -, -⟩ := ho.row p hp; exact ⟨q1, q2⟩) (by omega) (by omega)
theorem res_facts33 {w : World} {A : Nat} {t : TypeId} {u0 u1 u2 : Value} (hA : w.heap[A]? = some (.cells #[u0, u1, u2] t (0, 0))) :
    w.cell? ⟨A, 0, none⟩ = some u0 ∧ w.frozen? ⟨A, 0, none⟩ = false ∧ (∀ v, (w.setCell ⟨A, 0, none⟩ v).cell? ⟨A, 1, none⟩ = some u1) ∧ (∀ v, (w.setCell ⟨A, 0, none⟩ v).frozen? ⟨A, 1, none⟩ = false) ∧
    (∀ v v', ((w.setCell ⟨A, 0, none⟩ v).setCell ⟨A, 1, none⟩ v').cell? ⟨A, 2, none⟩ = some u2) ∧ (∀ v v', ((w.setCell ⟨A, 0, none⟩ v).setCell ⟨A, 1, none⟩ v').frozen? ⟨A, 2, none⟩ = false) ∧
    (∀ v v' v'', (((w.setCell ⟨A, 0, none⟩ v).setCell ⟨A, 1, none⟩ v').setCell ⟨A, 2, none⟩ v'').heap[A]? = some (.cells #[v, v', v''] t (0, 0)) ∧
      Upd [A] w (((w.setCell ⟨A, 0, none⟩ v).setCell ⟨A, 1, none⟩ v').setCell ⟨A, 2, none⟩ v'')) := by
  have h1 : ∀ v, (w.setCell ⟨A, 0, none⟩ v).heap[A]? = some (.cells #[v, u1, u2] t (0, 0)) := fun v => by
    have h1 := blk_set (i := 0) hA v
    simpa only [List.setIfInBounds_toArray, List.set_cons_zero] using h1
  have h2 : ∀ v v', ((w.setCell ⟨A, 0, none⟩ v).setCell ⟨A, 1, none⟩ v').heap[A]? = some (.cells #[v, v', u2] t (0, 0)) := fun v v' => by
    have h2 := blk_set (i := 1) (h1 v) v'
    simpa only [List.setIfInBounds_toArray, List.set_cons_succ, List.set_cons_zero] using h2
  exact ⟨blk_cell hA rfl, blk_free hA, fun v => blk_cell (h1 v) rfl, fun v => blk_free (h1 v), fun v v' => blk_cell (h2 v v') rfl, fun v v' => blk_free (h2 v v'), fun v v' v'' => ⟨stored3 hA,
    (((Upd.refl [A] w).setCell (p := ⟨A, 0, none⟩) (.inl (by simp)) v).setCell (p := ⟨A, 1, none⟩) (.inl (by simp)) v').setCell (p := ⟨A, 2, none⟩) (.inl (by simp)) v''⟩⟩
end Go.Proofs.YthpnnffogbjhpaaGreatDoor.Kv
namespace Go.Proofs.YthpnnffogbjhpaaGreatDoor.Kv
set_option linter.unusedSimpArgs false
set_option linter.unusedVariables false
set_option linter.unnecessarySimpa false
open Go.RowKit Go.Lib Go.Proofs.YthpnnffogbjhpaaGreatDoor.Crc Go.Proofs.YthpnnffogbjhpaaGreatDoor.Cm

theorem foldA_ok {l : List Cm} (h : ∀ c ∈ l, c.client < 4294967296 ∧ c.seq < 4294967296) : ∀ i, i ≤ l.length → i ≤ 9000 → ApOk (foldA (l.take i)) i := by
  intro i
  induction i with
  | zero => intro _ _; exact ApOk.zero
  | succ i ih =>
    intro h1 h2
    obtain ⟨c, hc⟩ : ∃ c, l[i]? = some c := ⟨_, List.getElem?_eq_getElem (by omega)⟩
    obtain ⟨q1, q2⟩ := h c (List.mem_of_getElem? hc)
    rw [foldA_next hc]
    exact (ih (by omega) (by omega)).next (by omega) q1 q2
theorem ret_ra1 {fn : Func} {p : Tmp} {A : Nat} {x0 x1 x2 : Value} {W : World} {act : Act} {post : Ending → World → Prop} (hA : W.heap[A]? = some (.cells #[x0, x1, x2] TRa (0, 0)))
    (hfn : fn.results = #[.cell p TRa]) (hp : act.tmps.getD p undef = .pointer (some ⟨A, 0, none⟩)) (hd : act.defers = [])
    (h : post (.returned (.agg #[x0, x1, x2])) W) : bodyPost Tryz.prog fn post Exit.ret act W := by
  have y0 : W.cell? ⟨A, 0, none⟩ = some x0 := blk_cell hA rfl
  have y1 : W.cell? ⟨A, 1, none⟩ = some x1 := blk_cell hA rfl
  have y2 : W.cell? ⟨A, 2, none⟩ = some x2 := blk_cell hA rfl
  refine bodyPost_ret (v := .agg #[x0, x1, x2]) ?_ hd h
  rw [results_cell1 hfn, hp]
  go_simp
/-- The document's application in a block of its own. -/
structure RaAt (wr : World) (X G : Nat) (a : Ap) (vp vl : Value) : Prop where
  blk : wr.heap[X]? = some (.cells #[vp, vl, .int .u64 (a.n : Int)] TRa (0, 0))
  prs : pairK.row wr (since G wr) vp a.m
  las : laK.row wr (since G wr) vl a.t
theorem since_mono' {G : Nat} {w w' : World} (h : w.heap.size ≤ w'.heap.size) : ∀ k, since G w k → since G w' k := fun k hk => ⟨hk.1, by have := hk.2; omega⟩
theorem RaAt.upd_nil {w w' : World} {X G : Nat} {a : Ap} {vp vl : Value} (h : RaAt w X G a vp vl) (hu : Upd [] w w') : RaAt w' X G a vp vl :=
  ⟨hu.get h.blk (by simp), pairK.row_mono (pairK.row_upd_nil h.prs hu) (since_mono' hu.size), laK.row_mono (laK.row_upd_nil h.las hu) (since_mono' hu.size)⟩
theorem RaAt.upd {w w' : World} {X G : Nat} {a : Ap} {vp vl : Value} {S : List Nat} (h : RaAt w X G a vp vl) (hu : Upd S w w') (hX : X ∉ S) (hS : ∀ k ∈ S, k < G) : RaAt w' X G a vp vl :=
  ⟨hu.get h.blk hX, pairK.row_mono (pairK.row_upd h.prs hu (fun k hk hT => by have := hS k hk; have := hT.1; omega)) (since_mono' hu.size), laK.row_mono (laK.row_upd h.las hu (fun k hk hT => by have := hS k hk; have := hT.1; omega)) (since_mono' hu.size)⟩
theorem since_or {G : Nat} {w w' : World} (hG : G ≤ w.heap.size) (h : w.heap.size ≤ w'.heap.size) : ∀ k, since G w k ∨ since w.heap.size w' k → since G w' k := fun k hk => by
  rcases hk with hk | hk
  · exact ⟨hk.1, by have := hk.2; omega⟩
  · exact ⟨by have := hk.1; omega, hk.2⟩
set_option maxRecDepth 100000 in
set_option maxHeartbeats 4000000 in
theorem rfold_any {T : Nat → Prop} {v : Value} {l : List Cm} (w : World) (h : cmK.row w T v l) (hs : Small l) :
    Calls Tryz.prog 25 #[v] w fun e w' => (∃ vp vl, e = .returned (.agg #[vp, vl, .int .u64 ((foldA l).n : Int)]) ∧ pairK.row w' (since w.heap.size w') vp (foldA l).m ∧ laK.row w' (since w.heap.size w') vl (foldA l).t) ∧ Upd [] w w' := by
  obtain ⟨xo, cp, rfl, h1, h2, hg⟩ := cm_get h
  have HG := hide hg
  have hfit : ∀ c ∈ l, c.client < 4294967296 ∧ c.seq < 4294967296 := fun c hc => by
    obtain ⟨i, hi⟩ := List.getElem?_of_mem hc
    obtain ⟨_, _, _, _, -, -, -, fit, -⟩ := hg i c hi
    exact ⟨fit.1, fit.2.1⟩
  have FOK := hide (foldA_ok hfit)
  have hl100 := hs.1
  simp only [maxLen] at h2
  clear h hg hs hfit
  go_enter Tryz.func25, Tryz.ntmps25
  go_upto_region 2 with fail
  have hA := blk_alloc (blk_new w (.cells #[.slice none 0 0, .slice none 0 0, .int .u64 0] TRa)) (.cells #[.slice none 0 0, .slice none 0 0, .int .u64 0] TRa)
  have hX := blk_new (w.alloc (.cells #[.slice none 0 0, .slice none 0 0, .int .u64 0] TRa)) (.cells #[.slice none 0 0, .slice none 0 0, .int .u64 0] TRa)
  have hu := ((Upd.refl [] w).alloc (.cells #[.slice none 0 0, .slice none 0 0, .int .u64 0] TRa)).alloc (.cells #[.slice none 0 0, .slice none 0 0, .int .u64 0] TRa)
  have hz : ((w.alloc (.cells #[.slice none 0 0, .slice none 0 0, .int .u64 0] TRa)).alloc (.cells #[.slice none 0 0, .slice none 0 0, .int .u64 0] TRa)).heap.size = w.heap.size + 2 := by simp
  simp only [World.size_alloc] at hX
  change Code.wp _ _ _ _ ((w.alloc (.cells #[.slice none 0 0, .slice none 0 0, .int .u64 0] TRa)).alloc (.cells #[.slice none 0 0, .slice none 0 0, .int .u64 0] TRa))
  generalize (w.alloc (.cells #[.slice none 0 0, .slice none 0 0, .int .u64 0] TRa)).alloc (.cells #[.slice none 0 0, .slice none 0 0, .int .u64 0] TRa) = w1 at *
  obtain ⟨B, hB⟩ : ∃ x, w.heap.size = x := ⟨_, rfl⟩
  rw [hB] at hA hX hz ⊢
  have HB := hide hB; have A1 := hide hA; have U1 := hide hu
  have R1 := hide (show RaAt w1 (B + 1) (B + 2) ap0 (.slice none 0 0) (.slice none 0 0) from ⟨hX, pairK.row_nil _ _, laK.row_nil _ _⟩)
  clear hA hX hu hB
  go_wp2_with fail
  go_loopw [4] (fun si wr => ∃ (i : Nat) (vp vl : Value), i ≤ l.length ∧ si = .int .i64 i ∧ RaAt wr (B + 1) (B + 2) (foldA (l.take i)) vp vl ∧ Upd [B + 1] w1 wr) (fun si _ => l.length - (RowKit.intOf si).toNat)
  case atStart => exact ⟨0, _, _, by omega, rfl, R1.out, Upd.refl _ _⟩
  case round =>
    obtain ⟨i, vp, vl, hi, rfl, hra, hu2⟩ := hrel
    have hok := FOK.out i hi (by omega)
    obtain ⟨po, pc, rfl, -, -⟩ := Row.slice hra.prs
    obtain ⟨mo, mc, rfl, -, -⟩ := Row.slice hra.las
    have RA := hide hra; have U2 := hide hu2; have OK := hide hok
    have hz2 := hu2.size
    have UW := hide (show Upd [] w wr from U1.out.trans_new hu2 (fun k hk => .inr (by have := HB.out; simp at hk; omega)))
    clear hra hu2 hok R1
    by_cases hlt : i < l.length
    · have d5 : decide ((i : Int) < l.length) = true := by simp; omega
      have d5' : decide (i < l.length) = true := by simpa using hlt
      obtain ⟨c, hc⟩ : ∃ c, l[i]? = some c := ⟨_, List.getElem?_eq_getElem hlt⟩
      obtain ⟨bc, oc, ka, kc, rfl, hbc, -, fit, hks, hcc⟩ := HG.out i c hc
      have hnx := foldA_next hc
      obtain ⟨a, ha⟩ : ∃ a, foldA (l.take i) = a := ⟨_, rfl⟩
      rw [ha] at hnx OK RA
      obtain ⟨a', r', f', hd⟩ : ∃ a' r' f', apDo a c = (a', r', f') := ⟨_, _, _, rfl⟩
      rw [hd] at hnx
      simp only at hnx
      have HD := hide hd; have NX := hide hnx; have FIT := hide fit; have KS := hide hks; have CC := hide hcc
      have CCx := hide (show ∀ wx, Upd [B + 1] wr wx → Cells7 wx bc (oc + i * 7) c ka kc from fun wx hS => (CC.out.upd UW.out hbc (by simp)).upd hS (by have := UW.out.size; omega) (by have := HB.out; simp; omega))
      clear hc fit hks hcc hd hnx ha
      go_wp2_with fail
      refine wp_region_z (fun wx => Upd [B + 1] wr wx) 99 (by kernel_rfl) ?_
      have s0 : Upd [] wr (wr.drewN 1) := (Upd.refl _ _).drewN 1
      have s0' : Upd [B + 1] wr (wr.drewN 1) := (Upd.refl _ _).drewN 1
      refine zE 1 rfl (by kernel_rfl) (fun _ _ _ _ h => h) rfl (by exact s0') ?_
      apply Exists.intro
      refine ⟨fun wx hS => ?_, ?_⟩
      · go_simp; rfl
      simp only [Act.put, zz1, zz2, zz3, zz4, zz5, zz6]
      refine zE 2 rfl (by kernel_rfl) (fun _ _ _ _ h => h) rfl (by exact s0') ?_
      apply Exists.intro
      refine ⟨fun wx hS => ?_, ?_⟩
      · go_simp; rfl
      simp only [Act.put, zz1, zz2, zz3, zz4, zz5, zz6]
      refine zE 3 rfl (by kernel_rfl) (fun _ _ _ _ h => h) rfl (by exact s0') ?_
      apply Exists.intro
      refine ⟨fun wx hS => ?_, ?_⟩
      · go_simp; rfl
      simp only [Act.put, zz1, zz2, zz3, zz4, zz5, zz6]
      refine zE 4 rfl (by kernel_rfl) (fun _ _ _ _ h => h) rfl (by exact s0') ?_
      apply Exists.intro
      refine ⟨fun wx hS => ?_, ?_⟩
      · obtain ⟨c0, c1, c2, c3, c4, c5, c6⟩ := CCx.out wx hS; go_simp; rfl
      simp only [Act.put, zz1, zz2, zz3, zz4, zz5, zz6]
      obtain ⟨k0, k1, k2⟩ := cell3 (s0.get RA.out.blk (by simp))
      refine wpAnyZ_one 0 (by kernel_rfl) rfl rfl (fun K hK => ?_)
      try simp only [List.getElem_toArray, List.getElem_cons_succ, List.getElem_cons_zero]
      go_simp
      refine hK _ _ (.inr s0') ?_
      clear hK K
      try simp only [Act.put, zz1, zz2, zz3]
      refine wpAnyZ_one 5 (by kernel_rfl) rfl rfl (fun K hK => ?_)
      try simp only [List.getElem_toArray, List.getElem_cons_succ, List.getElem_cons_zero]
      go_simp
      have hda := radoP_any (c := c) (T' := T) (vc := cmv c (.slice ka c.keys.length kc)) (wr.drewN 1) (pairK.row_upd_nil RA.out.prs s0) (fun k hk => hk.2) (laK.row_upd_nil RA.out.las s0) ⟨FIT.out, _, rfl, KS.out.upd_nil (UW.out.trans s0)⟩ OK.out (by omega)
      simp only [cmv, strV] at hda
      rw [HD.out] at hda
      refine hda.mono ?_
      rintro e w5 ⟨⟨vq, vm, rfl, hq, hm⟩, hu5⟩
      simp only at hq hm
      obtain ⟨qo, qc, rfl, -, -⟩ := Row.slice hq
      obtain ⟨no, nc, rfl, -, -⟩ := Row.slice hm
      have s1 := s0.trans hu5
      have s1' : Upd [B + 1] wr w5 := s1.mono (by simp)
      have hG : B + 2 ≤ (wr.drewN 1).heap.size := by show B + 2 ≤ wr.heap.size; omega
      have HQ := hide (pairK.row_mono hq (since_or hG hu5.size)); have HM := hide (laK.row_mono hm (since_or hG hu5.size))
      have X5 := hide (s1.get RA.out.blk (by simp))
      clear hda hq hm k0 k1 k2 hu5
      unfold rpv
      refine hK _ _ (.inr s1') ?_
      clear hK K
      try simp only [Act.put, zz1, zz2, zz3]
      refine zE 6 rfl (by kernel_rfl) (fun _ _ _ _ h => h) rfl (by exact s1') ?_
      apply Exists.intro
      refine ⟨fun wx hS => ?_, ?_⟩
      · go_simp; rfl
      simp only [Act.put, zz1, zz2, zz3, zz4, zz5, zz6]
      refine zE 7 rfl (by kernel_rfl) (fun _ _ _ _ h => h) rfl (by exact s1') ?_
      apply Exists.intro
      refine ⟨fun wx hS => ?_, ?_⟩
      · go_simp; rfl
      simp only [Act.put, zz1, zz2, zz3, zz4, zz5, zz6]
      refine zE 8 rfl (by kernel_rfl) (fun _ _ _ _ h => h) rfl (by exact s1') ?_
      apply Exists.intro
      refine ⟨fun wx hS => ?_, ?_⟩
      · go_simp; rfl
      simp only [Act.put, zz1, zz2, zz3, zz4, zz5, zz6]
      refine zE 9 rfl (by kernel_rfl) (fun _ _ _ _ h => h) rfl (by exact s1') ?_
      apply Exists.intro
      refine ⟨fun wx hS => ?_, ?_⟩
      · go_simp; rfl
      simp only [Act.put, zz1, zz2, zz3, zz4, zz5, zz6]
      obtain ⟨z0, z1, z2, z3, z4, z5, zz⟩ := res_facts33 X5.out
      have ZZ := hide zz
      clear zz
      refine wpAnyZ_one 10 (by kernel_rfl) rfl rfl (fun K hK => ?_)
      try simp only [List.getElem_toArray, List.getElem_cons_succ, List.getElem_cons_zero]
      go_simp
      obtain ⟨e1, e3⟩ := ZZ.out (.slice qo a'.m.length qc) (.slice no a'.t.length nc) (.int .u64 (a'.n : Int))
      clear z0 z1 z2 z3 z4 z5 ZZ
      generalize (((w5.setCell ⟨B + 1, 0, none⟩ (.slice qo a'.m.length qc)).setCell ⟨B + 1, 1, none⟩ (.slice no a'.t.length nc)).setCell ⟨B + 1, 2, none⟩ (.int .u64 (a'.n : Int))) = w6 at e1 e3 ⊢
      have s2 := s1'.trans e3
      have R6 := hide (show RaAt w6 (B + 1) (B + 2) a' (.slice qo a'.m.length qc) (.slice no a'.t.length nc) from ⟨e1, pairK.row_mono (pairK.row_upd HQ.out e3 (fun k hk hT => by simp at hk; have := hT.1; omega)) (since_mono' e3.size), laK.row_mono (laK.row_upd HM.out e3 (fun k hk hT => by simp at hk; have := hT.1; omega)) (since_mono' e3.size)⟩)
      have U6 := hide (U2.out.trans s2)
      refine hK _ _ (.inr s2) ?_
      clear hK K
      try simp only [Act.put, zz1, zz2, zz3]
      refine wpAnyZ_done (by kernel_rfl) ?_ _
      clear s0 s0' s1 s1' s2 e1 e3 HQ HM X5 CCx RA
      go_wp2_with fail
      go_roundw
      case rel => exact ⟨i + 1, _, _, by omega, by go_num, by rw [NX.out]; exact R6.out, U6.out⟩
      case measure => simp [RowKit.intOf]; omega
    · have d5 : decide ((i : Int) < l.length) = false := by simp; omega
      have d5' : decide (i < l.length) = false := by simpa using hlt
      have hie : i = l.length := by omega
      subst hie
      rw [List.take_length] at RA
      obtain ⟨a, ha⟩ : ∃ a, foldA l = a := ⟨_, rfl⟩
      rw [ha] at RA
      have HFA := hide ha
      clear ha
      have hA := U2.out.get A1.out (by simp)
      obtain ⟨k0, k1, k2⟩ := cell3 RA.out.blk
      obtain ⟨z0, z1, z2, z3, z4, z5, zz⟩ := res_facts33 hA
      have ZZ := hide zz
      clear zz hA hlt FOK OK
      go_wp2_with fail
      obtain ⟨e1, e3⟩ := ZZ.out (.slice po a.m.length pc) (.slice mo a.t.length mc) (.int .u64 (a.n : Int))
      have h8 := RA.out.upd e3 (by simp) (fun k hk => by simp at hk; omega)
      have hb := HB.out
      refine ret_ra1 e1 rfl rfl rfl ⟨⟨_, _, by rw [HFA.out], ?_, ?_⟩, UW.out.trans_new e3 (fun k hk => .inr (by simp at hk; omega))⟩
      · rw [HFA.out]; exact pairK.row_mono h8.prs (fun k hk => ⟨by have := hk.1; omega, hk.2⟩)
      · rw [HFA.out]; exact laK.row_mono h8.las (fun k hk => ⟨by have := hk.1; omega, hk.2⟩)
end Go.Proofs.YthpnnffogbjhpaaGreatDoor.Kv
