/- Layer 13's document: a batch is run in an order. -/
import Derived.Test.YthpnnffogbjhpaaGreatDoorR11eg
import Derived.Test.YthpnnffogbjhpaaGreatDoorR13
import Derived.Test.YthpnnffogbjhpaaGreatDoorWvDE
set_option linter.unusedSimpArgs false
set_option linter.unusedVariables false
set_option linter.unnecessarySimpa false
namespace Go.Proofs.YthpnnffogbjhpaaGreatDoor.Kv
set_option linter.unusedSimpArgs false
set_option linter.unusedVariables false
set_option linter.unnecessarySimpa false
open Go.RowKit Go.Lib Go.Proofs.YthpnnffogbjhpaaGreatDoor.Crc Go.Proofs.YthpnnffogbjhpaaGreatDoor.Cm

abbrev TBo : TypeId := 4
theorem infoRp' : (Tryz.prog.info? TRp).map (fun i => (i.zero, i.size, i.bytes)) = some (some (.agg #[.int .u8 0, .string ByteArray.empty]), 2, 24) := by kernel_rfl
theorem infoBo : (Tryz.prog.info? TBo).map (fun i => (i.zero, i.size, i.bytes)) = some (some (.bool false), 1, 1) := by kernel_rfl
def rpc (d : Dn) : List Value := [.int .u8 (d.r.code : Int), .string (strOf d.r.text)]
def rpcs (ds : List Dn) : List Value := ds.flatMap rpc
def frs (ds : List Dn) : List Value := ds.map fun d => .bool d.fresh
def tus (ds : List Dn) : List Value := ds.map fun d => .int .i64 (d.turn : Int)
theorem rpcs_cons (d : Dn) (ds : List Dn) : rpcs (d :: ds) = .int .u8 (d.r.code : Int) :: .string (strOf d.r.text) :: rpcs ds := rfl
theorem rpcs_len : ∀ ds : List Dn, (rpcs ds).length = ds.length * 2
  | [] => rfl
  | d :: ds => by rw [rpcs_cons]; simp only [List.length_cons]; rw [rpcs_len ds]; omega
theorem rpcs_get : ∀ (ds : List Dn) (i : Nat) (d : Dn), ds[i]? = some d → (rpcs ds)[i * 2]? = some (.int .u8 (d.r.code : Int)) ∧ (rpcs ds)[i * 2 + 1]? = some (.string (strOf d.r.text))
  | [], i, d, h => by simp at h
  | e :: ds, 0, d, h => by
    simp at h
    subst h
    exact ⟨rfl, rfl⟩
  | e :: ds, i + 1, d, h => by
    obtain ⟨h1, h2⟩ := rpcs_get ds i d (by simpa using h)
    rw [show (i + 1) * 2 = i * 2 + 1 + 1 by omega, show i * 2 + 1 + 1 + 1 = (i * 2 + 1) + 1 + 1 by omega, rpcs_cons]
    exact ⟨by simpa using h1, by simpa using h2⟩
theorem rpcs_set : ∀ (ds : List Dn) (i : Nat) (d : Dn), i < ds.length → (((rpcs ds).set (i * 2) (.int .u8 (d.r.code : Int))).set (i * 2 + 1) (.string (strOf d.r.text))) = rpcs (ds.set i d)
  | [], i, d, h => by simp at h
  | e :: ds, 0, d, h => by
    rw [rpcs_cons]
    simp only [Nat.zero_mul, Nat.zero_add, List.set_cons_zero, rpcs_cons]
    rfl
  | e :: ds, i + 1, d, h => by
    have := rpcs_set ds i d (by simpa using h)
    rw [show (i + 1) * 2 = i * 2 + 1 + 1 by omega, List.set_cons_succ, rpcs_cons, rpcs_cons, ← this]
    rw [show i * 2 + 1 + 1 + 1 = (i * 2 + 1) + 1 + 1 by omega]
    simp only [List.set_cons_succ]
theorem made_rp (n : Nat) : madeCells #[.int .u8 0, .string ByteArray.empty] (n * 2) = (rpcs (List.replicate n dn0)).toArray := by
  apply Array.ext'
  refine List.ext_getElem? fun j => ?_
  by_cases h : j < n * 2
  · have hd : (List.replicate n dn0)[j / 2]? = some dn0 := by rw [List.getElem?_replicate, if_pos (by omega)]
    obtain ⟨h1, h2⟩ := rpcs_get _ _ _ hd
    have hm : j % 2 = 0 ∨ j % 2 = 1 := by omega
    simp only [madeCells, Array.toList_map, Array.toList_range, List.getElem?_map, List.getElem?_range, h, Option.map_some]
    rcases hm with hm | hm
    · rw [show j / 2 * 2 = j by omega] at h1
      rw [h1]
      simp only [Array.size, List.length_cons, List.length_nil]
      rw [show j % (0 + 1 + 1) = 0 from hm]
      rfl
    · rw [show j / 2 * 2 + 1 = j by omega] at h2
      rw [h2]
      simp only [Array.size, List.length_cons, List.length_nil]
      rw [show j % (0 + 1 + 1) = 1 from hm]
      rfl
  · rw [List.getElem?_eq_none (by rw [Array.length_toList, size_madeCells]; omega), List.getElem?_eq_none (by simp [rpcs_len]; omega)]
theorem frs_made (n : Nat) : (List.replicate n (Value.bool false)) = frs (List.replicate n dn0) := by simp [frs, dn0]
theorem tus_made (n : Nat) : (List.replicate n (Value.int .i64 0)) = tus (List.replicate n dn0) := by simp [tus, dn0]
theorem frs_set (ds : List Dn) (i : Nat) (d : Dn) : (frs ds).set i (.bool d.fresh) = frs (ds.set i d) := by simp [frs, List.map_set]
theorem tus_set (ds : List Dn) (i : Nat) (d : Dn) : (tus ds).set i (.int .i64 (d.turn : Int)) = tus (ds.set i d) := by simp [tus, List.map_set]
theorem results_cttt {fn : Func} {p q u x : Tmp} {ty : TypeId} (h : fn.results = #[.cell p ty, .tmp q, .tmp u, .tmp x]) (tmps : Array Value) (P : Program) (w : World) :
    (results fn tmps).run P w = ((asAddr (tmps.getD p undef)).run P w).andThen fun a w₁ => ((loadVar ty a).run P w₁).andThen fun v w₂ => .ok (.tuple #[v, tmps.getD q undef, tmps.getD u undef, tmps.getD x undef]) w₂ := by
  simp only [results, h]
  simp [Sem.run_bind, Result.andThen]
theorem ret_ra4 {fn : Func} {p q u z : Tmp} {A : Nat} {x0 x1 x2 y0 y1 y2 : Value} {W : World} {act : Act} {post : Ending → World → Prop} (hA : W.heap[A]? = some (.cells #[x0, x1, x2] TRa (0, 0)))
    (hfn : fn.results = #[.cell p TRa, .tmp q, .tmp u, .tmp z]) (hp : act.tmps.getD p undef = .pointer (some ⟨A, 0, none⟩)) (hq : act.tmps.getD q undef = y0) (hu : act.tmps.getD u undef = y1) (hz : act.tmps.getD z undef = y2) (hd : act.defers = [])
    (h : post (.returned (.tuple #[.agg #[x0, x1, x2], y0, y1, y2])) W) : bodyPost Tryz.prog fn post Exit.ret act W := by
  have c0 : W.cell? ⟨A, 0, none⟩ = some x0 := blk_cell hA rfl
  have c1 : W.cell? ⟨A, 1, none⟩ = some x1 := blk_cell hA rfl
  have c2 : W.cell? ⟨A, 2, none⟩ = some x2 := blk_cell hA rfl
  refine bodyPost_ret (v := .tuple #[.agg #[x0, x1, x2], y0, y1, y2]) ?_ hd h
  rw [results_cttt hfn, hp, hq, hu, hz]
  go_simp
/-- One reply is set. -/
theorem rset_facts {w : World} {b q : Nat} {ds : List Dn} (d : Dn) (h : w.heap[b]? = some (.cells (rpcs ds).toArray TRp (0, 0))) (hq : q < ds.length) :
    (∃ u, w.cell? ⟨b, q * 2, none⟩ = some u) ∧ (∃ u, (w.setCell ⟨b, q * 2, none⟩ (.int .u8 (d.r.code : Int))).cell? ⟨b, q * 2 + 1, none⟩ = some u) ∧ w.frozen? ⟨b, q * 2, none⟩ = false ∧ (w.setCell ⟨b, q * 2, none⟩ (.int .u8 (d.r.code : Int))).frozen? ⟨b, q * 2 + 1, none⟩ = false ∧
    ((w.setCell ⟨b, q * 2, none⟩ (.int .u8 (d.r.code : Int))).setCell ⟨b, q * 2 + 1, none⟩ (.string (strOf d.r.text))).heap[b]? = some (.cells (rpcs (ds.set q d)).toArray TRp (0, 0)) ∧
    Upd [b] w ((w.setCell ⟨b, q * 2, none⟩ (.int .u8 (d.r.code : Int))).setCell ⟨b, q * 2 + 1, none⟩ (.string (strOf d.r.text))) := by
  have hl := rpcs_len ds
  have h1 := blk_set (i := q * 2) h (.int .u8 (d.r.code : Int))
  have h2 := blk_set (i := q * 2 + 1) h1 (.string (strOf d.r.text))
  refine ⟨blk_some h (by simp; omega), blk_some h1 (by simp; omega), blk_free h, blk_free h1, ?_, ((Upd.refl [b] w).setCell (p := ⟨b, q * 2, none⟩) (.inl (by simp)) _).setCell (p := ⟨b, q * 2 + 1, none⟩) (.inl (by simp)) _⟩
  rw [h2, ← rpcs_set ds q d hq]
  simp only [List.setIfInBounds_toArray]
theorem fset_facts {w : World} {b q : Nat} {ds : List Dn} (d : Dn) (h : w.heap[b]? = some (.cells (frs ds).toArray TBo (0, 0))) (hq : q < ds.length) :
    (∃ u, w.cell? ⟨b, q, none⟩ = some u) ∧ w.frozen? ⟨b, q, none⟩ = false ∧ (w.setCell ⟨b, q, none⟩ (.bool d.fresh)).heap[b]? = some (.cells (frs (ds.set q d)).toArray TBo (0, 0)) ∧ Upd [b] w (w.setCell ⟨b, q, none⟩ (.bool d.fresh)) := by
  have h1 := blk_set (i := q) h (.bool d.fresh)
  refine ⟨blk_some h (by simp [frs]; omega), blk_free h, ?_, (Upd.refl [b] w).setCell (p := ⟨b, q, none⟩) (.inl (by simp)) _⟩
  rw [h1, ← frs_set ds q d]
  simp only [List.setIfInBounds_toArray]
theorem tset_facts {w : World} {b q : Nat} {ds : List Dn} (d : Dn) (h : w.heap[b]? = some (.cells (tus ds).toArray TInt (0, 0))) (hq : q < ds.length) :
    (∃ u, w.cell? ⟨b, q, none⟩ = some u) ∧ w.frozen? ⟨b, q, none⟩ = false ∧ (w.setCell ⟨b, q, none⟩ (.int .i64 (d.turn : Int))).heap[b]? = some (.cells (tus (ds.set q d)).toArray TInt (0, 0)) ∧ Upd [b] w (w.setCell ⟨b, q, none⟩ (.int .i64 (d.turn : Int))) := by
  have h1 := blk_set (i := q) h (.int .i64 (d.turn : Int))
  refine ⟨blk_some h (by simp [tus]; omega), blk_free h, ?_, (Upd.refl [b] w).setCell (p := ⟨b, q, none⟩) (.inl (by simp)) _⟩
  rw [h1, ← tus_set ds q d]
  simp only [List.setIfInBounds_toArray]
/-- What the document's run has in memory. -/
structure RrAt (w W : World) (B : Nat) (Tp : Nat → Prop) (a : Ap) (vp vl : Value) (ds : List Dn) : Prop where
  box : W.heap[B]? = some (.cells #[vp, vl, .int .u64 (a.n : Int)] TRa (0, 0))
  res : W.heap[B + 1]? = some (.cells #[.slice none 0 0, .slice none 0 0, .int .u64 0] TRa (0, 0))
  r2 : W.heap[B + 2]? = some (.cells (rpcs ds).toArray TRp (0, 0))
  r3 : W.heap[B + 3]? = some (.cells (frs ds).toArray TBo (0, 0))
  r4 : W.heap[B + 4]? = some (.cells (tus ds).toArray TInt (0, 0))
  prs : pairK.row W (fun k => Tp k ∨ since (B + 5) W k) vp a.m
  las : laK.row W (fun k => Tp k ∨ since (B + 5) W k) vl a.t
  upd : Upd [] w W
  size : B + 5 ≤ W.heap.size
theorem since_two {Tp : Nat → Prop} {W W' : World} {C : Nat} (h : W.heap.size ≤ W'.heap.size) : ∀ k, Tp k ∨ since C W k → Tp k ∨ since C W' k := fun k hk => hk.imp id fun h1 => ⟨h1.1, by have := h1.2; omega⟩
set_option maxRecDepth 100000 in
set_option maxHeartbeats 8000000 in
theorem rrun_any {T : Nat → Prop} {v : Value} {l : List Cm} {qs : List (Nat × Nat)} {oo : Option Addr} {oc k : Nat} {Tp : Nat → Prop} {a : Ap} {vp vl : Value} (w : World) (h : cmK.row w T v l) (hs : Small l) (hq : ∀ q ∈ qs, q.1 < l.length) (hql : qs.length ≤ 100)
    (ho : IntsAt w 0 oo qs.length oc (qs.map (·.1))) (hp : pairK.row w Tp vp a.m) (hm : laK.row w Tp vl a.t) (hok : ApOk a k) (hk : k ≤ 100) (hTp : ∀ k, Tp k → k < w.heap.size) :
    Calls Tryz.prog 27 #[.agg #[vp, vl, .int .u64 (a.n : Int)], v, .slice oo qs.length oc] w fun e w' => (∃ vp' vl' R F M, e = .returned (.tuple #[.agg #[vp', vl', .int .u64 ((runD l a qs 0 (List.replicate l.length dn0)).1.n : Int)], .slice (some ⟨R, 0, none⟩) l.length l.length, .slice (some ⟨F, 0, none⟩) l.length l.length, .slice (some ⟨M, 0, none⟩) l.length l.length]) ∧
      pairK.row w' (fun g => Tp g ∨ since w.heap.size w' g) vp' (runD l a qs 0 (List.replicate l.length dn0)).1.m ∧ laK.row w' (fun g => Tp g ∨ since w.heap.size w' g) vl' (runD l a qs 0 (List.replicate l.length dn0)).1.t ∧
      w'.heap[R]? = some (.cells (rpcs (runD l a qs 0 (List.replicate l.length dn0)).2).toArray TRp (0, 0)) ∧ w'.heap[F]? = some (.cells (frs (runD l a qs 0 (List.replicate l.length dn0)).2).toArray TBo (0, 0)) ∧ w'.heap[M]? = some (.cells (tus (runD l a qs 0 (List.replicate l.length dn0)).2).toArray TInt (0, 0)) ∧ w.heap.size ≤ R ∧ w.heap.size ≤ F ∧ w.heap.size ≤ M) ∧ Upd [] w w' := by
  obtain ⟨xo, cp, rfl, h1, h2, hg⟩ := cm_get h
  obtain ⟨i1, hi1, iz0, iz1, iz2⟩ := partsI infoRp'
  obtain ⟨j1, hj1, jz0, jz1, jz2⟩ := partsI infoBo
  obtain ⟨k1, hk1, kz0, kz1, kz2⟩ := partsI infoI
  obtain ⟨po, pc, rfl, -, -⟩ := Row.slice hp
  obtain ⟨mo, mc, rfl, -, -⟩ := Row.slice hm
  have HG := hide hg; have HS := hide hs; have HQ := hide hq; have HO := hide ho; have HP := hide hp; have HM := hide hm; have HOK := hide hok
  have hl100 := hs.1
  simp only [maxLen] at h2
  have mk1 := fun wx => run_make_rowN (P := Tryz.prog) 62 TRp i1 _ Tryz.underlying62 hi1 iz0 .i64 .i64 l.length l.length (Nat.le_refl _) (by rw [iz2]; omega) (by omega) wx
  have mk2 := fun wx => run_make_rowN (P := Tryz.prog) 63 TBo j1 _ Tryz.underlying63 hj1 jz0 .i64 .i64 l.length l.length (Nat.le_refl _) (by rw [jz2]; omega) (by omega) wx
  have mk3 := fun wx => run_make_rowN (P := Tryz.prog) 59 TInt k1 _ Tryz.underlying59 hk1 kz0 .i64 .i64 l.length l.length (Nat.le_refl _) (by rw [kz2]; omega) (by omega) wx
  rw [iz1] at mk1
  rw [jz1] at mk2
  rw [kz1] at mk3
  rw [show (Value.agg #[.int .u8 0, .string ByteArray.empty]).cells = #[.int .u8 0, .string ByteArray.empty] from rfl] at mk1
  rw [show (Value.bool false).cells = #[Value.bool false] from rfl] at mk2
  rw [show (Value.int .i64 0).cells = #[Value.int .i64 0] from rfl] at mk3
  simp only [made_rp] at mk1
  simp only [Nat.mul_one, made_row, frs_made] at mk2
  simp only [Nat.mul_one, made_row, tus_made] at mk3
  have HTP := hide hTp
  clear h hg hs hq ho hp hm hok hTp
  go_enter Tryz.func27, Tryz.ntmps27
  go_upto_region 4 with fail
  obtain ⟨B, hB⟩ : ∃ B, w.heap.size = B := ⟨_, rfl⟩
  obtain ⟨w5, hw5⟩ : ∃ w5, ((((w.alloc (Obj.cells #[.slice po a.m.length pc, .slice mo a.t.length mc, .int .u64 (a.n : Int)] TRa)).alloc (Obj.cells #[.slice none 0 0, .slice none 0 0, .int .u64 0] TRa)).alloc (Obj.cells (rpcs (List.replicate l.length dn0)).toArray TRp)).alloc
      (Obj.cells (frs (List.replicate l.length dn0)).toArray TBo)).alloc (Obj.cells (tus (List.replicate l.length dn0)).toArray TInt) = w5 := ⟨_, rfl⟩
  have hu5 : Upd [] w w5 := by rw [← hw5]; exact (((((Upd.refl [] w).alloc _).alloc _).alloc _).alloc _).alloc _
  have hz5 : w5.heap.size = B + 5 := by rw [← hw5, ← hB]; simp
  have hr5 : RrAt w w5 B Tp a (.slice po a.m.length pc) (.slice mo a.t.length mc) (List.replicate l.length dn0) := by
    have hpp := pairK.row_mono (U := fun k => Tp k ∨ since (B + 5) w5 k) (pairK.row_upd_nil HP.out hu5) (fun k hk => .inl hk)
    have hmm := laK.row_mono (U := fun k => Tp k ∨ since (B + 5) w5 k) (laK.row_upd_nil HM.out hu5) (fun k hk => .inl hk)
    refine ⟨?_, ?_, ?_, ?_, ?_, hpp, hmm, hu5, by omega⟩
    · rw [← hw5, ← hB]; exact blk_alloc (blk_alloc (blk_alloc (blk_alloc (blk_new w _) _) _) _) _
    · rw [← hw5, ← hB]
      have := blk_new (w.alloc (Obj.cells #[.slice po a.m.length pc, .slice mo a.t.length mc, .int .u64 (a.n : Int)] TRa)) (Obj.cells #[.slice none 0 0, .slice none 0 0, .int .u64 0] TRa)
      rw [World.size_alloc] at this
      exact blk_alloc (blk_alloc (blk_alloc this _) _) _
    · rw [← hw5, ← hB]
      have := blk_new ((w.alloc (Obj.cells #[.slice po a.m.length pc, .slice mo a.t.length mc, .int .u64 (a.n : Int)] TRa)).alloc (Obj.cells #[.slice none 0 0, .slice none 0 0, .int .u64 0] TRa)) (Obj.cells (rpcs (List.replicate l.length dn0)).toArray TRp)
      rw [World.size_alloc, World.size_alloc] at this
      exact blk_alloc (blk_alloc this _) _
    · rw [← hw5, ← hB]
      have := blk_new (((w.alloc (Obj.cells #[.slice po a.m.length pc, .slice mo a.t.length mc, .int .u64 (a.n : Int)] TRa)).alloc (Obj.cells #[.slice none 0 0, .slice none 0 0, .int .u64 0] TRa)).alloc (Obj.cells (rpcs (List.replicate l.length dn0)).toArray TRp)) (Obj.cells (frs (List.replicate l.length dn0)).toArray TBo)
      rw [World.size_alloc, World.size_alloc, World.size_alloc] at this
      exact blk_alloc this _
    · rw [← hw5, ← hB]
      have := blk_new ((((w.alloc (Obj.cells #[.slice po a.m.length pc, .slice mo a.t.length mc, .int .u64 (a.n : Int)] TRa)).alloc (Obj.cells #[.slice none 0 0, .slice none 0 0, .int .u64 0] TRa)).alloc (Obj.cells (rpcs (List.replicate l.length dn0)).toArray TRp)).alloc (Obj.cells (frs (List.replicate l.length dn0)).toArray TBo)) (Obj.cells (tus (List.replicate l.length dn0)).toArray TInt)
      rw [World.size_alloc, World.size_alloc, World.size_alloc, World.size_alloc] at this
      exact this
  simp only [World.size_alloc, Nat.add_assoc, Nat.reduceAdd] at hw5 ⊢
  rw [hw5, hB]
  have HB := hide hB; have R5 := hide hr5
  have ROK := hide (show ∀ x ∈ qs, x.1 < l.length from HQ.out)
  clear hw5 hr5 hu5 hB mk1 mk2 mk3 HP HM
  go_wp2_with fail
  go_loopw [13] (fun si wr => ∃ (i : Nat) (a' : Ap) (ds : List Dn) (vp vl : Value), i ≤ qs.length ∧ si = .int .i64 i ∧ runD l a (qs.take i) 0 (List.replicate l.length dn0) = (a', ds) ∧ RrAt w wr B Tp a' vp vl ds ∧ ApOk a' (k + i)) (fun si _ => qs.length - (RowKit.intOf si).toNat)
  case atStart => exact ⟨0, a, _, _, _, by omega, rfl, rfl, R5.out, HOK.out⟩
  case round =>
    obtain ⟨i, a1, ds, vp, vl, hi, rfl, hrd, hra, hok1⟩ := hrel
    obtain ⟨po1, pc1, rfl, -, -⟩ := Row.slice hra.prs
    obtain ⟨mo1, mc1, rfl, -, -⟩ := Row.slice hra.las
    have hds : ds.length = l.length := by have h7 := runD_len l (qs.take i) a 0 (List.replicate l.length dn0); rw [hrd] at h7; simpa using h7
    have RA := hide hra; have OK := hide hok1; have RD := hide hrd
    have hzr := hra.size
    clear hra hok1 hrd R5
    by_cases hlt : i < qs.length
    · have d5 : decide ((i : Int) < qs.length) = true := by simp; omega
      have d5' : decide (i < qs.length) = true := by simpa using hlt
      obtain ⟨⟨q, wv⟩, hqi⟩ : ∃ x, qs[i]? = some x := ⟨_, List.getElem?_eq_getElem hlt⟩
      have hql2 : q < l.length := ROK.out _ (List.mem_of_getElem? hqi)
      have d7 : decide ((q : Int) < l.length) = true := by simp; omega
      have d7' : decide (q < l.length) = true := by simpa using hql2
      obtain ⟨c, hc⟩ : ∃ c, l[q]? = some c := ⟨_, List.getElem?_eq_getElem hql2⟩
      obtain ⟨bc, oc2, ka, kc, rfl, hbc, -, fit, hks, hcc⟩ := HG.out q c hc
      obtain ⟨ad, rfl, hoc⟩ := (HO.out.upd RA.out.upd (by simp)).get (show (qs.map (·.1))[i]? = some q by rw [List.getElem?_map, hqi]; rfl)
      obtain ⟨a2, r, f, hd⟩ : ∃ a2 r f, apDo a1 c = (a2, r, f) := ⟨_, _, _, rfl⟩
      have hcg : l.getD q cm0 = c := by simp [List.getD, hc]
      have hrun : runD l a (qs.take (i + 1)) 0 (List.replicate l.length dn0) = (a2, ds.set q ⟨r, f, wv, i⟩) := by
        rw [List.take_add_one, hqi, Option.toList_some, runD_app, RD.out]
        simp only [runD]
        rw [hcg, hd]
        simp only [Nat.zero_add, List.length_take]
        rw [show min i qs.length = i by omega]
      have hok2 := OK.out.next (c := c) (by omega) fit.1 fit.2.1
      rw [hd] at hok2
      have HD := hide hd; have RUN := hide hrun; have OK2 := hide hok2; have FIT := hide fit; have KS := hide hks; have CC := hide hcc
      have hb := HB.out
      have CCx := hide (show ∀ wx, Upd [B, B + 2, B + 3] wr wx → Cells7 wx bc (oc2 + q * 7) c ka kc from fun wx hS => (CC.out.upd RA.out.upd hbc (by simp)).upd hS (by have := RA.out.upd.size; omega) (by simp; omega))
      clear hc hqi hcg hrun hd hok2 fit hks hcc
      go_wp2_with fail
      clear hoc
      refine wp_region_z (fun wx => Upd [B, B + 2, B + 3] wr wx) 99 (by kernel_rfl) ?_
      have s0 : Upd [] wr (wr.drewN 1) := (Upd.refl _ _).drewN 1
      have s0' : Upd [B, B + 2, B + 3] wr (wr.drewN 1) := (Upd.refl _ _).drewN 1
      refine zE 0 rfl (by kernel_rfl) (fun _ _ _ _ h => h) rfl (by exact s0') ?_
      apply Exists.intro
      refine ⟨fun wx hS => ?_, ?_⟩
      · go_simp; rfl
      simp only [Act.put, List.setIfInBounds_toArray, List.set_cons_succ, List.set_cons_zero, List.getElem_toArray, List.getElem_cons_zero]
      refine zE 1 rfl (by kernel_rfl) (fun _ _ _ _ h => h) rfl (by exact s0') ?_
      apply Exists.intro
      refine ⟨fun wx hS => ?_, ?_⟩
      · go_simp; rfl
      simp only [Act.put, zz1, zz2, zz3, zz4, zz5, zz6]
      refine zE 2 rfl (by kernel_rfl) (fun _ _ _ _ h => h) rfl (by exact s0') ?_
      apply Exists.intro
      refine ⟨fun wx hS => ?_, ?_⟩
      · go_simp; rfl
      simp only [Act.put, zz1, zz2, zz3, zz4, zz5, zz6]
      refine zE 3 rfl (by kernel_rfl) (fun _ _ _ _ h => h) rfl (by exact s0') ?_
      apply Exists.intro
      refine ⟨fun wx hS => ?_, ?_⟩
      · go_simp; rfl
      simp only [Act.put, zz1, zz2, zz3, zz4, zz5, zz6]
      refine zE 5 rfl (by kernel_rfl) (fun _ _ _ _ h => h) rfl (by exact s0') ?_
      apply Exists.intro
      refine ⟨fun wx hS => ?_, ?_⟩
      · go_simp; rfl
      simp only [Act.put, zz1, zz2, zz3, zz4, zz5, zz6]
      refine zE 6 rfl (by kernel_rfl) (fun _ _ _ _ h => h) rfl (by exact s0') ?_
      apply Exists.intro
      refine ⟨fun wx hS => ?_, ?_⟩
      · go_simp; rfl
      simp only [Act.put, zz1, zz2, zz3, zz4, zz5, zz6]
      refine zE 7 rfl (by kernel_rfl) (fun _ _ _ _ h => h) rfl (by exact s0') ?_
      apply Exists.intro
      refine ⟨fun wx hS => ?_, ?_⟩
      · go_simp; rfl
      simp only [Act.put, zz1, zz2, zz3, zz4, zz5, zz6]
      refine zE 8 rfl (by kernel_rfl) (fun _ _ _ _ h => h) rfl (by exact s0') ?_
      apply Exists.intro
      refine ⟨fun wx hS => ?_, ?_⟩
      · obtain ⟨c0, c1, c2, c3, c4, c5, c6⟩ := CCx.out wx hS; go_simp; rfl
      simp only [Act.put, zz1, zz2, zz3, zz4, zz5, zz6]
      obtain ⟨k0, k1, k2⟩ := cell3 (s0.get RA.out.box (by simp))
      refine wpAnyZ_one 4 (by kernel_rfl) rfl rfl (fun K hK => ?_)
      try simp only [List.getElem_toArray, List.getElem_cons_succ, List.getElem_cons_zero]
      go_simp
      refine hK _ _ (.inr s0') ?_
      clear hK K
      try simp only [Act.put, zz1, zz2, zz3]
      refine wpAnyZ_one 9 (by kernel_rfl) rfl rfl (fun K hK => ?_)
      try simp only [List.getElem_toArray, List.getElem_cons_succ, List.getElem_cons_zero]
      go_simp
      have hda := radoP_any (c := c) (T' := T) (vc := cmv c (.slice ka c.keys.length kc)) (wr.drewN 1) (pairK.row_upd_nil RA.out.prs s0) (fun k hk => by
        rcases hk with hk | hk
        · have := HTP.out k hk; show k < wr.heap.size; have := RA.out.upd.size; omega
        · exact hk.2) (laK.row_upd_nil RA.out.las s0) ⟨FIT.out, _, rfl, KS.out.upd_nil (RA.out.upd.trans s0)⟩ OK.out (by omega)
      simp only [cmv, strV] at hda
      rw [HD.out] at hda
      refine hda.mono ?_
      rintro e w6 ⟨⟨vq, vm, rfl, hq6, hm6⟩, hu6⟩
      simp only at hq6 hm6
      obtain ⟨qo, qc, rfl, -, -⟩ := Row.slice hq6
      obtain ⟨no, nc, rfl, -, -⟩ := Row.slice hm6
      have s1 := s0.trans hu6
      have s1' : Upd [B, B + 2, B + 3] wr w6 := s1.mono (by simp)
      have hz6 := hu6.size
      have hzd : (wr.drewN 1).heap.size = wr.heap.size := rfl
      have key : ∀ k, ((Tp k ∨ since (B + 5) wr k) ∨ since (wr.drewN 1).heap.size w6 k) → (Tp k ∨ since (B + 5) w6 k) := fun k hk => by
        rcases hk with (hk | hk) | hk
        · exact .inl hk
        · exact .inr ⟨hk.1, by have := hk.2; omega⟩
        · exact .inr ⟨by have := hk.1; omega, hk.2⟩
      have HQ6 := hide (pairK.row_mono hq6 key); have HM6 := hide (laK.row_mono hm6 key)
      have X0 := hide (s1.get RA.out.box (by simp)); have X1 := hide (s1.get RA.out.res (by simp)); have X2 := hide (s1.get RA.out.r2 (by simp)); have X3 := hide (s1.get RA.out.r3 (by simp)); have X4 := hide (s1.get RA.out.r4 (by simp))
      have U6 := hide (RA.out.upd.trans s1)
      clear hda hq6 hm6 k0 k1 k2 hu6 key s0 s0' CCx CC KS RD RA
      unfold rpv
      refine hK _ _ (.inr s1') ?_
      clear hK K
      try simp only [Act.put, zz1, zz2, zz3]
      refine zE 10 rfl (by kernel_rfl) (fun _ _ _ _ h => h) rfl (by exact s1') ?_
      apply Exists.intro
      refine ⟨fun wx hS => ?_, ?_⟩
      · go_simp; rfl
      simp only [Act.put, zz1, zz2, zz3, zz4, zz5, zz6]
      refine zE 11 rfl (by kernel_rfl) (fun _ _ _ _ h => h) rfl (by exact s1') ?_
      apply Exists.intro
      refine ⟨fun wx hS => ?_, ?_⟩
      · go_simp; rfl
      simp only [Act.put, zz1, zz2, zz3, zz4, zz5, zz6]
      refine zE 12 rfl (by kernel_rfl) (fun _ _ _ _ h => h) rfl (by exact s1') ?_
      apply Exists.intro
      refine ⟨fun wx hS => ?_, ?_⟩
      · go_simp; rfl
      simp only [Act.put, zz1, zz2, zz3, zz4, zz5, zz6]
      refine zE 13 rfl (by kernel_rfl) (fun _ _ _ _ h => h) rfl (by exact s1') ?_
      apply Exists.intro
      refine ⟨fun wx hS => ?_, ?_⟩
      · go_simp; rfl
      simp only [Act.put, zz1, zz2, zz3, zz4, zz5, zz6]
      obtain ⟨z0, z1, z2, z3, z4, z5, zz⟩ := res_facts33 X0.out
      have ZZ := hide zz
      clear zz
      refine wpAnyZ_one 14 (by kernel_rfl) rfl rfl (fun K hK => ?_)
      try simp only [List.getElem_toArray, List.getElem_cons_succ, List.getElem_cons_zero]
      go_simp
      obtain ⟨e1, e3⟩ := ZZ.out (.slice qo a2.m.length qc) (.slice no a2.t.length nc) (.int .u64 (a2.n : Int))
      clear z0 z1 z2 z3 z4 z5 ZZ
      generalize (((w6.setCell ⟨B, 0, none⟩ (.slice qo a2.m.length qc)).setCell ⟨B, 1, none⟩ (.slice no a2.t.length nc)).setCell ⟨B, 2, none⟩ (.int .u64 (a2.n : Int))) = w7 at e1 e3 ⊢
      have s2 : Upd [B, B + 2, B + 3] wr w7 := s1'.trans (e3.mono (by simp))
      have Y0 := hide e1; have Y2 := hide (e3.get X2.out (by simp)); have V7 := hide (e3.mono (by simp) : Upd [B, B + 2, B + 3] w6 w7)
      have Y3 := hide (e3.get X3.out (by simp))
      clear e1 e3 s1'
      refine hK _ _ (.inr s2) ?_
      clear hK K
      try simp only [Act.put, zz1, zz2, zz3]
      refine zE 15 rfl (by kernel_rfl) (fun _ _ _ _ h => h) rfl (by exact s2) ?_
      apply Exists.intro
      refine ⟨fun wx hS => ?_, ?_⟩
      · go_simp; rfl
      simp only [Act.put, zz1, zz2, zz3, zz4, zz5, zz6]
      obtain ⟨⟨g0, y0⟩, ⟨g1, y1⟩, f0, f1, e1, e3⟩ := rset_facts (⟨r, f, wv, i⟩ : Dn) Y2.out (by omega : q < ds.length)
      simp only at y1 f1 e1 e3
      refine wpAnyZ_one 16 (by kernel_rfl) rfl rfl (fun K hK => ?_)
      try simp only [List.getElem_toArray, List.getElem_cons_succ, List.getElem_cons_zero]
      go_simp
      clear y0 y1 f0 f1
      generalize ((w7.setCell ⟨B + 2, q * 2, none⟩ (.int .u8 (r.code : Int))).setCell ⟨B + 2, q * 2 + 1, none⟩ (.string (strOf r.text))) = w8 at e1 e3 ⊢
      have s3 : Upd [B, B + 2, B + 3] wr w8 := s2.trans (e3.mono (by simp))
      have Z2 := hide e1; have Z0 := hide (e3.get Y0.out (by simp)); have Z3 := hide (e3.get Y3.out (by simp)); have V8 := hide (V7.out.trans (e3.mono (by simp)))
      clear e1 e3 s2
      refine hK _ _ (.inr s3) ?_
      clear hK K
      try simp only [Act.put, zz1, zz2, zz3]
      refine zE 17 rfl (by kernel_rfl) (fun _ _ _ _ h => h) rfl (by exact s3) ?_
      apply Exists.intro
      refine ⟨fun wx hS => ?_, ?_⟩
      · go_simp; rfl
      simp only [Act.put, zz1, zz2, zz3, zz4, zz5, zz6]
      obtain ⟨⟨g0, y0⟩, f0, e1, e3⟩ := fset_facts (⟨r, f, wv, i⟩ : Dn) Z3.out (by omega : q < ds.length)
      simp only at e1 e3
      refine wpAnyZ_one 18 (by kernel_rfl) rfl rfl (fun K hK => ?_)
      try simp only [List.getElem_toArray, List.getElem_cons_succ, List.getElem_cons_zero]
      go_simp
      clear y0 f0
      generalize (w8.setCell ⟨B + 3, q, none⟩ (.bool f)) = w9 at e1 e3 ⊢
      have s4 : Upd [B, B + 2, B + 3] wr w9 := s3.trans (e3.mono (by simp))
      have T3 := hide e1; have T0 := hide (e3.get Z0.out (by simp)); have T2 := hide (e3.get Z2.out (by simp)); have V9 := hide (V8.out.trans (e3.mono (by simp)))
      clear e1 e3 s3
      refine hK _ _ (.inr s4) ?_
      clear hK K
      try simp only [Act.put, zz1, zz2, zz3]
      refine wpAnyZ_done (by kernel_rfl) ?_ _
      have T4 := hide (show w9.heap[B + 4]? = some (.cells (tus ds).toArray TInt (0, 0)) from V9.out.get X4.out (by simp))
      obtain ⟨⟨g0, y0⟩, f0, e1, e3⟩ := tset_facts (⟨r, f, wv, i⟩ : Dn) T4.out (by omega : q < ds.length)
      simp only at e1 e3
      have E1 := hide e1; have E3 := hide e3
      clear s1 s4 e1 e3
      go_wp2_with fail
      have VF := hide ((V9.out.mono (by simp)).trans (E3.out.mono (by simp)) : Upd [B, B + 2, B + 3, B + 4] w6 _)
      go_roundw
      case rel =>
        have vz := VF.out.size
        have key : ∀ k ∈ [B, B + 2, B + 3, B + 4], ¬ (Tp k ∨ since (B + 5) w6 k) := fun k hk hT => by
          simp only [List.mem_cons, List.not_mem_nil, or_false] at hk
          rcases hT with hT | hT
          · have := HTP.out k hT; omega
          · have := hT.1; omega
        exact ⟨i + 1, a2, ds.set q ⟨r, f, wv, i⟩, _, _, by omega, by go_num, RUN.out, ⟨E3.out.get T0.out (by simp), VF.out.get X1.out (by simp), E3.out.get T2.out (by simp), E3.out.get T3.out (by simp), E1.out,
          pairK.row_mono (pairK.row_upd HQ6.out VF.out key) (since_two vz), laK.row_mono (laK.row_upd HM6.out VF.out key) (since_two vz), U6.out.trans_new VF.out (fun k hk => .inr (by simp at hk; omega)), by omega⟩, by rw [← Nat.add_assoc]; exact OK2.out⟩
      case measure => simp [RowKit.intOf]; omega
    · have d5 : decide ((i : Int) < qs.length) = false := by simp; omega
      have d5' : decide (i < qs.length) = false := by simpa using hlt
      have hie : i = qs.length := by omega
      have hrd := RD.out
      rw [hie, List.take_length] at hrd
      have RD2 := hide hrd
      obtain ⟨k0, k1, k2⟩ := cell3 RA.out.box
      obtain ⟨z0, z1, z2, z3, z4, z5, zz⟩ := res_facts33 RA.out.res
      have ZZ := hide zz
      clear zz hrd hie hlt
      go_wp2_with fail
      obtain ⟨e1, e3⟩ := ZZ.out (.slice po1 a1.m.length pc1) (.slice mo1 a1.t.length mc1) (.int .u64 (a1.n : Int))
      have hb := HB.out
      have hsz := e3.size
      have key : ∀ k ∈ [B + 1], ¬ (Tp k ∨ since (B + 5) wr k) := fun k hk hT => by
        simp only [List.mem_cons, List.not_mem_nil, or_false] at hk
        rcases hT with hT | hT
        · have := HTP.out k hT; omega
        · have := hT.1; omega
      have up : ∀ k, (Tp k ∨ since (B + 5) wr k) → (Tp k ∨ since w.heap.size _ k) := fun k hk => by
        rcases hk with hk | hk
        · exact .inl hk
        · exact .inr ⟨by have := hk.1; omega, Nat.lt_of_lt_of_le hk.2 hsz⟩
      rw [RD2.out]
      refine ret_ra4 e1 rfl rfl rfl rfl rfl rfl ⟨⟨_, _, _, _, _, rfl, pairK.row_mono (pairK.row_upd RA.out.prs e3 key) up, laK.row_mono (laK.row_upd RA.out.las e3 key) up, e3.get RA.out.r2 (by simp), e3.get RA.out.r3 (by simp), e3.get RA.out.r4 (by simp), by omega, by omega, by omega⟩, RA.out.upd.trans_new e3 (fun k hk => .inr (by simp at hk; omega))⟩
/-- What lies in memory behind the document's order and run. -/
def Ran (wa : World) (G n : Nat) (a' : Ap) (ds : List Dn) (s1 s2 s3 s4 : Value) (wx : World) : Prop := ∃ B R F M vp vl, s1 = .pointer (some ⟨B, 0, none⟩) ∧ s2 = .slice (some ⟨R, 0, none⟩) n n ∧ s3 = .slice (some ⟨F, 0, none⟩) n n ∧ s4 = .slice (some ⟨M, 0, none⟩) n n ∧
  wx.heap[B]? = some (.cells #[vp, vl, .int .u64 (a'.n : Int)] TRa (0, 0)) ∧ wa.heap.size ≤ B ∧ Upd [] wa wx ∧ pairK.row wx (since G wx) vp a'.m ∧ laK.row wx (since G wx) vl a'.t ∧
  wx.heap[R]? = some (.cells (rpcs ds).toArray TRp (0, 0)) ∧ wx.heap[F]? = some (.cells (frs ds).toArray TBo (0, 0)) ∧ wx.heap[M]? = some (.cells (tus ds).toArray TInt (0, 0)) ∧ wa.heap.size ≤ R ∧ wa.heap.size ≤ F ∧ wa.heap.size ≤ M
theorem Ran.mk {wa wp wc wx : World} {G n B R F M : Nat} {a' : Ap} {ds : List Dn} {vp vl : Value} (h7 : wx.heap[B]? = some (.cells #[vp, vl, .int .u64 (a'.n : Int)] TRa (0, 0))) (g7 : wa.heap.size ≤ B) (hu : Upd [] wa wx) (hc : Upd [B] wc wx)
    (hp : pairK.row wc (fun g => since G wa g ∨ since wp.heap.size wc g) vp a'.m) (hl : laK.row wc (fun g => since G wa g ∨ since wp.heap.size wc g) vl a'.t) (hG : G ≤ wa.heap.size) (hwp : wa.heap.size ≤ wp.heap.size) (n7 : B < wp.heap.size ∨ wc.heap.size ≤ B)
    (hr : wc.heap[R]? = some (.cells (rpcs ds).toArray TRp (0, 0))) (hf : wc.heap[F]? = some (.cells (frs ds).toArray TBo (0, 0))) (ht : wc.heap[M]? = some (.cells (tus ds).toArray TInt (0, 0))) (hR : wp.heap.size ≤ R) (hF : wp.heap.size ≤ F) (hM : wp.heap.size ≤ M) :
    Ran wa G n a' ds (.pointer (some ⟨B, 0, none⟩)) (.slice (some ⟨R, 0, none⟩) n n) (.slice (some ⟨F, 0, none⟩) n n) (.slice (some ⟨M, 0, none⟩) n n) wx := by
  have hs := hc.size; have hs4 := hu.size
  have key : ∀ k ∈ [B], ¬ (since G wa k ∨ since wp.heap.size wc k) := fun k hk hT => by
    simp only [List.mem_cons, List.not_mem_nil, or_false] at hk
    rcases hT with hT | hT
    · have := hT.2; omega
    · have h1 := hT.1; have h2 := hT.2; omega
  have up : ∀ g, (since G wa g ∨ since wp.heap.size wc g) → since G wx g := fun g hg => by
    rcases hg with h | h
    · have h1 := h.1; have h2 := h.2; exact ⟨h1, by omega⟩
    · have h1 := h.1; have h2 := h.2; exact ⟨by omega, by omega⟩
  have b1 := blk_lt hr; have b2 := blk_lt hf; have b3 := blk_lt ht
  exact ⟨B, R, F, M, vp, vl, rfl, rfl, rfl, rfl, h7, g7, hu, pairK.row_mono (pairK.row_upd hp hc key) up, laK.row_mono (laK.row_upd hl hc key) up, hc.get hr (by simp; omega), hc.get hf (by simp; omega), hc.get ht (by simp; omega), by omega, by omega, by omega⟩
end Go.Proofs.YthpnnffogbjhpaaGreatDoor.Kv
