/- KvW, KvHq in one text. -/
import Derived.Test.YthpnnffogbjhpaaGreatDoorKvS
import Derived.Test.YthpnnffogbjhpaaGreatDoorGenAll
import Derived.Test.YthpnnffogbjhpaaGreatDoorCmCK
import Derived.Laws.ResultCell
set_option linter.unusedSimpArgs false
set_option linter.unusedVariables false
set_option linter.unnecessarySimpa false
namespace Go.Proofs.YthpnnffogbjhpaaGreatDoor.Kv
set_option linter.unusedSimpArgs false
set_option linter.unusedVariables false
open Go.RowKit Go.Lib Go.Proofs.YthpnnffogbjhpaaGreatDoor.Crc Go.Proofs.YthpnnffogbjhpaaGreatDoor.Cm

abbrev TCmd : TypeId := 45
theorem cell_ne {w : World} {bk g i : Nat} {u : Value} {m : KM} (h : w.cell? ⟨bk, i, none⟩ = some u) (hm : kvK.is w g m) : bk ≠ g := by
  rintro rfl
  obtain ⟨es, clock, hb, -⟩ := hm
  simp only [World.cell?, hb] at h
  cases h
theorem cell_upd {w w' : World} {b i : Nat} {u : Value} {S : List Nat} (h : w.cell? ⟨b, i, none⟩ = some u) (hu : Upd S w w') (hS : b ∉ S) : w'.cell? ⟨b, i, none⟩ = some u := by
  have := hu.block b (World.block_lt_of_cell? w _ h) hS
  rw [← h]
  simp only [World.cell?, this]
/-- The region of a number in a function's code. -/
def findOps (n : Nat) : Code → Array Oper
  | .region id ops _ => if id = n then ops else #[]
  | .seq a b => if (findOps n a).isEmpty then findOps n b else findOps n a
  | .cond _ a b => if (findOps n a).isEmpty then findOps n b else findOps n a
  | .block _ a => findOps n a
  | .loop a => findOps n a
  | _ => #[]
abbrev TRp : TypeId := 39
theorem results_cell1 {fn : Func} {p : Tmp} {ty : TypeId} (h : fn.results = #[.cell p ty]) (tmps : Array Value) (P : Program) (w : World) :
    (results fn tmps).run P w = ((asAddr (tmps.getD p undef)).run P w).andThen fun a w₁ => (loadVar ty a).run P w₁ := by
  simp only [results, h]
  simp [Sem.run_bind, Result.andThen]
theorem ret_rp {fn : Func} {p : Tmp} {B : Nat} {c : Int} {s : ByteArray} {W : World} {act : Act} {post : Ending → World → Prop} (hW : W.heap[B]? = some (.cells #[.int .u8 c, .string s] TRp (0, 0)))
    (hfn : fn.results = #[.cell p TRp]) (hp : act.tmps.getD p undef = .pointer (some ⟨B, 0, none⟩)) (hd : act.defers = []) (h : post (.returned (.agg #[.int .u8 c, .string s])) W) : bodyPost Tryz.prog fn post Exit.ret act W := by
  have z0 : W.cell? ⟨B, 0, none⟩ = some (.int .u8 c) := blk_cell hW rfl
  have z1 : W.cell? ⟨B, 1, none⟩ = some (.string s) := blk_cell hW rfl
  refine bodyPost_ret (v := .agg #[.int .u8 c, .string s]) ?_ hd h
  rw [results_cell1 hfn, hp]
  go_simp
theorem stored2 {w : World} {B : Nat} {u0 u1 v0 v1 : Value} (h : w.heap[B]? = some (.cells #[u0, u1] TRp (0, 0))) : ((w.setCell ⟨B, 0, none⟩ v0).setCell ⟨B, 1, none⟩ v1).heap[B]? = some (.cells #[v0, v1] TRp (0, 0)) := by
  have h1 := blk_set (i := 0) h v0
  simp only [List.setIfInBounds_toArray, List.set_cons_zero] at h1
  have h2 := blk_set (i := 1) h1 v1
  simpa only [List.setIfInBounds_toArray, List.set_cons_succ, List.set_cons_zero] using h2
theorem upd2 (w : World) (B : Nat) (v0 v1 : Value) : Upd [B] w ((w.setCell ⟨B, 0, none⟩ v0).setCell ⟨B, 1, none⟩ v1) :=
  ((Upd.refl [B] w).setCell (p := ⟨B, 0, none⟩) (.inl (by simp)) v0).setCell (p := ⟨B, 1, none⟩) (.inl (by simp)) v1
theorem done_any (s : List UInt8) (w : World) : Calls Tryz.prog 102 #[.string (strOf s)] w fun e w' => e = .returned (rpv ⟨0, s⟩) ∧ Upd [] w w' := by
  go_enter Tryz.func102, Tryz.ntmps102
  go_wp2_with fail
  exact ret_rp (blk_new w _) rfl rfl rfl ⟨rfl, (Upd.refl [] w).alloc _⟩
theorem res_facts {w : World} {B : Nat} {u0 u1 : Value} {t : TypeId} (h : w.heap[B]? = some (.cells #[u0, u1] t (0, 0))) : w.cell? ⟨B, 0, none⟩ = some u0 ∧ w.cell? ⟨B, 1, none⟩ = some u1 ∧ w.frozen? ⟨B, 0, none⟩ = false ∧ w.frozen? ⟨B, 1, none⟩ = false ∧
    (∀ v, (w.setCell ⟨B, 0, none⟩ v).cell? ⟨B, 1, none⟩ = some u1) ∧ ∀ v, (w.setCell ⟨B, 0, none⟩ v).frozen? ⟨B, 1, none⟩ = false := by
  refine ⟨blk_cell h rfl, blk_cell h rfl, blk_free h, blk_free h, fun v => ?_, fun v => ?_⟩
  · have h1 := blk_set (i := 0) h v
    simp only [List.setIfInBounds_toArray, List.set_cons_zero] at h1
    exact blk_cell h1 rfl
  · exact blk_free (blk_set (i := 0) h v)
noncomputable def putOps : Array Oper := findOps 1 ((Tryz.f81.body).getD .skip)
set_option maxRecDepth 100000 in
set_option maxHeartbeats 2000000 in
theorem put_any {T : Nat → Prop} {v : Value} {c : Cm} {b g : Nat} {m : KM} (w : World) (h : StIs w b g m) (hc : CmAt w T v c) (hk : Cm.Good c) (hl : m.length ≤ 1000000) :
    Calls Tryz.prog 81 #[.pointer (some ⟨b, 0, none⟩), v] w fun e w' => e = .returned (rpv ⟨0, []⟩) ∧ StIs w' b g (mput strK m (keyA c) c.new) ∧ Upd [g] w w' := by
  obtain ⟨fit, ks, rfl, hks⟩ := hc
  obtain ⟨xo, cp, rfl, h1, h2, hget⟩ := hks.get
  obtain ⟨k, hk0⟩ : ∃ k, c.keys[0]? = some k := ⟨_, List.getElem?_eq_getElem (Good.keys hk).2.1⟩
  have hkA : keyA c = k := by unfold keyA; rw [List.getD_eq_getElem?_getD, hk0]; rfl
  have hkl := keyA_len hk
  have hnl : c.new.length ≤ 64 := hk.2.2.2.2.2.2.2.1
  rw [hkA] at hkl ⊢
  have hkm : k.length ≤ maxLen := by unfold maxLen; omega
  have hnm : c.new.length ≤ maxLen := by unfold maxLen; omega
  obtain ⟨bk, ok, rfl, hbk, hkc⟩ := hget 0 k hk0
  rw [Nat.add_zero] at hkc
  have hpos : 0 < c.keys.length := (Good.keys hk).2.1
  have ST := hide h; have KC := hide hkc; have KS := hide hks; have FIT := hide fit; have GK := hide hk; have HKA := hide hkA
  have hneK : bk ≠ g := cell_ne hkc h.map
  have hgl := MapKind.is_lt h.map
  have hbl := blk_lt h.blk
  simp only [maxLen] at h2
  clear h hget hks hk hk0 hkA hkc fit
  unfold cmv
  simp only [strV]
  go_enter Tryz.func81, Tryz.ntmps81
  go_wp2_with fail
  have hB := blk_alloc (blk_new w (.cells (cmc c (.slice (some ⟨bk, ok, none⟩) c.keys.length cp)).toArray TCmd)) (.cells #[.int .u8 0, .string ⟨#[]⟩] TRp)
  have hR := blk_new (w.alloc (.cells (cmc c (.slice (some ⟨bk, ok, none⟩) c.keys.length cp)).toArray TCmd)) (.cells #[.int .u8 0, .string ⟨#[]⟩] TRp)
  have hu := ((Upd.refl [] w).alloc (.cells (cmc c (.slice (some ⟨bk, ok, none⟩) c.keys.length cp)).toArray TCmd)).alloc (.cells #[.int .u8 0, .string ⟨#[]⟩] TRp)
  rw [World.size_alloc] at hR
  have hsz : ((w.alloc (.cells (cmc c (.slice (some ⟨bk, ok, none⟩) c.keys.length cp)).toArray TCmd)).alloc (.cells #[.int .u8 0, .string ⟨#[]⟩] TRp)).heap.size = w.heap.size + 2 := by simp
  change Code.wp _ _ _ _ ((w.alloc (.cells (cmc c (.slice (some ⟨bk, ok, none⟩) c.keys.length cp)).toArray TCmd)).alloc (.cells #[.int .u8 0, .string ⟨#[]⟩] TRp))
  generalize (w.alloc (.cells (cmc c (.slice (some ⟨bk, ok, none⟩) c.keys.length cp)).toArray TCmd)).alloc (.cells #[.int .u8 0, .string ⟨#[]⟩] TRp) = w1 at *
  have CB := hide hB; have CR := hide hR; have U1 := hide hu
  obtain ⟨B, hBs⟩ : ∃ B, w.heap.size = B := ⟨_, rfl⟩
  have KB := hide hBs
  rw [hBs] at hsz CB CR ⊢
  have S1 := hide (ST.out.upd_nil (hu.drewN 1)); have K1 := hide (cell_upd KC.out (hu.drewN 1) (by simp))
  have hne := ST.out.ne
  have hneB : B ≠ g := by have := KB.out; omega
  have hneR : B + 1 ≠ g := by have := KB.out; omega
  clear hB hR hu hBs
  refine wp_region_seq putOps (by kernel_rfl) [10] (Upd [g] (w1.drewN 1)) (by kernel_rfl) (by kernel_rfl) (fun _ _ d _ _ h => by cases d <;> exact h) (Upd.refl _ _) ?_
  refine wpSeq_take (by kernel_rfl) (by kernel_rfl) ?_
  apply Exists.intro
  refine ⟨fun wx hS => ?_, fun a' ha => ?_⟩
  · go_simp; rfl
  simp only [Act.put, zz1, zz2, zz3] at ha
  subst ha
  refine wpSeq_take (by kernel_rfl) (by kernel_rfl) ?_
  apply Exists.intro
  refine ⟨fun wx hS => ?_, fun a' ha => ?_⟩
  · go_simp; rfl
  simp only [Act.put, zz1, zz2, zz3] at ha
  subst ha
  refine wpSeq_take (by kernel_rfl) (by kernel_rfl) ?_
  apply Exists.intro
  refine ⟨fun wx hS => ?_, fun a' ha => ?_⟩
  · go_simp; rfl
  simp only [Act.put, zz1, zz2, zz3] at ha
  subst ha
  refine wpSeq_take (by kernel_rfl) (by kernel_rfl) ?_
  apply Exists.intro
  refine ⟨fun wx hS => ?_, fun a' ha => ?_⟩
  · have c0 : wx.cell? ⟨b, 0, none⟩ = some (.map (some g)) := blk_cell (hS.get S1.out.blk (by simpa using hne)) rfl; go_simp; rfl
  simp only [Act.put, zz1, zz2, zz3] at ha
  subst ha
  refine wpSeq_take (by kernel_rfl) (by kernel_rfl) ?_
  apply Exists.intro
  refine ⟨fun wx hS => ?_, fun a' ha => ?_⟩
  · go_simp; rfl
  simp only [Act.put, zz1, zz2, zz3] at ha
  subst ha
  refine wpSeq_take (by kernel_rfl) (by kernel_rfl) ?_
  apply Exists.intro
  refine ⟨fun wx hS => ?_, fun a' ha => ?_⟩
  · have c0 : wx.cell? ⟨B, 3, none⟩ = some (.slice (some ⟨bk, ok, none⟩) c.keys.length cp) := blk_cell (hS.get CB.out (by simpa using hneB)) rfl; go_simp; rfl
  simp only [Act.put, zz1, zz2, zz3] at ha
  subst ha
  refine wpSeq_take (by kernel_rfl) (by kernel_rfl) ?_
  apply Exists.intro
  refine ⟨fun wx hS => ?_, fun a' ha => ?_⟩
  · go_simp; rfl
  simp only [Act.put, zz1, zz2, zz3] at ha
  subst ha
  refine wpSeq_take (by kernel_rfl) (by kernel_rfl) ?_
  apply Exists.intro
  refine ⟨fun wx hS => ?_, fun a' ha => ?_⟩
  · have c0 := cell_upd K1.out hS (by simpa using hneK); go_simp; rfl
  simp only [Act.put, zz1, zz2, zz3] at ha
  subst ha
  refine wpSeq_take (by kernel_rfl) (by kernel_rfl) ?_
  apply Exists.intro
  refine ⟨fun wx hS => ?_, fun a' ha => ?_⟩
  · go_simp; rfl
  simp only [Act.put, zz1, zz2, zz3] at ha
  subst ha
  refine wpSeq_take (by kernel_rfl) (by kernel_rfl) ?_
  apply Exists.intro
  refine ⟨fun wx hS => ?_, fun a' ha => ?_⟩
  · have c0 : wx.cell? ⟨B, 5, none⟩ = some (.string (strOf c.new)) := blk_cell (hS.get CB.out (by simpa using hneB)) rfl; go_simp; rfl
  simp only [Act.put, zz1, zz2, zz3] at ha
  subst ha
  refine wpSeq_one (by kernel_rfl) (by kernel_rfl) (fun K hK => ?_)
  obtain ⟨w2, hr, hm, hu2⟩ := MapKind.store S1.out.map (k := k) (v := c.new) hkm hnm (by unfold maxLen; omega)
  have hr' : (Instr.mapUpdate 113 (.map (some g)) (.string (strOf k)) (.string (strOf c.new))).run Tryz.prog (w1.drewN 1) = .ok () w2 := hr
  go_simp
  have ST2 := hide (S1.out.turn hu2 hm); have CR2 := hide (hu2.get (show (w1.drewN 1).heap[B + 1]? = _ from CR.out) (by simpa using hneR)); have V2 := hide hu2
  clear hr hr' hm
  refine hK _ _ (hu2) ?_
  clear hK K
  try simp only [Act.put, zz1, zz2, zz3]
  clear hu2
  unfold wpSeq
  go_wp2_with fail
  refine (done_any [] w2).mono ?_
  rintro e w3 ⟨rfl, hu3⟩
  unfold rpv
  have CR3 := hide (hu3.get CR2.out (by simp)); have ST3 := hide (ST2.out.upd_nil hu3); have V3 := hide (V2.out.trans (hu3.mono (by simp)))
  obtain ⟨z0, z1, f0, f1, z2, f2⟩ := res_facts CR3.out
  clear hu3 ST2 CR2 V2
  go_wp2_with fail
  have hW := upd2 w3 (B + 1) (.int .u8 0) (.string (strOf []))
  have hBs := KB.out
  exact ret_rp (stored2 CR3.out) rfl rfl rfl ⟨rfl, ST3.out.upd hW (by simp; omega) (by simp; omega), (((U1.out.drewN 1).mono (by simp)).trans V3.out).trans_new hW (fun k hk => .inr (by simp at hk; omega))⟩
noncomputable def getOps : Array Oper := findOps 1 ((Tryz.f82.body).getD .skip)
set_option maxRecDepth 100000 in
set_option maxHeartbeats 2000000 in
theorem get_any {T : Nat → Prop} {v : Value} {c : Cm} {b g : Nat} {m : KM} (w : World) (h : StIs w b g m) (hc : CmAt w T v c) (hk : Cm.Good c) :
    Calls Tryz.prog 82 #[.pointer (some ⟨b, 0, none⟩), v] w fun e w' => e = .returned (rpv (getM m (keyA c))) ∧ Upd [] w w' := by
  obtain ⟨fit, ks, rfl, hks⟩ := hc
  obtain ⟨xo, cp, rfl, h1, h2, hget⟩ := hks.get
  obtain ⟨k, hk0⟩ : ∃ k, c.keys[0]? = some k := ⟨_, List.getElem?_eq_getElem (Good.keys hk).2.1⟩
  have hkA : keyA c = k := by unfold keyA; rw [List.getD_eq_getElem?_getD, hk0]; rfl
  have hkl := keyA_len hk
  have hnl : c.new.length ≤ 64 := hk.2.2.2.2.2.2.2.1
  rw [hkA] at hkl ⊢
  have hkm : k.length ≤ maxLen := by unfold maxLen; omega
  have hnm : c.new.length ≤ maxLen := by unfold maxLen; omega
  obtain ⟨bk, ok, rfl, hbk, hkc⟩ := hget 0 k hk0
  rw [Nat.add_zero] at hkc
  have hpos : 0 < c.keys.length := (Good.keys hk).2.1
  have ST := hide h; have KC := hide hkc; have KS := hide hks; have FIT := hide fit; have GK := hide hk; have HKA := hide hkA
  have hneK : bk ≠ g := cell_ne hkc h.map
  have hgl := MapKind.is_lt h.map
  have hbl := blk_lt h.blk
  simp only [maxLen] at h2
  clear h hget hks hk hk0 hkA hkc fit
  unfold cmv
  simp only [strV]
  obtain ⟨r, hr⟩ : ∃ r, getM m k = r := ⟨_, rfl⟩
  rw [hr]
  have HR := hide hr
  clear hr
  go_enter Tryz.func82, Tryz.ntmps82
  go_wp2_with fail
  have hB := blk_alloc (blk_new w (.cells (cmc c (.slice (some ⟨bk, ok, none⟩) c.keys.length cp)).toArray TCmd)) (.cells #[.int .u8 0, .string ⟨#[]⟩] TRp)
  have hR := blk_new (w.alloc (.cells (cmc c (.slice (some ⟨bk, ok, none⟩) c.keys.length cp)).toArray TCmd)) (.cells #[.int .u8 0, .string ⟨#[]⟩] TRp)
  have hu := ((Upd.refl [] w).alloc (.cells (cmc c (.slice (some ⟨bk, ok, none⟩) c.keys.length cp)).toArray TCmd)).alloc (.cells #[.int .u8 0, .string ⟨#[]⟩] TRp)
  rw [World.size_alloc] at hR
  have hsz : ((w.alloc (.cells (cmc c (.slice (some ⟨bk, ok, none⟩) c.keys.length cp)).toArray TCmd)).alloc (.cells #[.int .u8 0, .string ⟨#[]⟩] TRp)).heap.size = w.heap.size + 2 := by simp
  change Code.wp _ _ _ _ ((w.alloc (.cells (cmc c (.slice (some ⟨bk, ok, none⟩) c.keys.length cp)).toArray TCmd)).alloc (.cells #[.int .u8 0, .string ⟨#[]⟩] TRp))
  generalize (w.alloc (.cells (cmc c (.slice (some ⟨bk, ok, none⟩) c.keys.length cp)).toArray TCmd)).alloc (.cells #[.int .u8 0, .string ⟨#[]⟩] TRp) = w1 at *
  have CB := hide hB; have CR := hide hR; have U1 := hide hu
  obtain ⟨B, hBs⟩ : ∃ B, w.heap.size = B := ⟨_, rfl⟩
  have KB := hide hBs
  rw [hBs] at hsz CB CR ⊢
  have S1 := hide (ST.out.upd_nil (hu.drewN 1)); have K1 := hide (cell_upd KC.out (hu.drewN 1) (by simp))
  have hne := ST.out.ne
  have hneB : B ≠ g := by have := KB.out; omega
  have hneR : B + 1 ≠ g := by have := KB.out; omega
  clear hB hR hu hBs
  obtain ⟨o, ho⟩ : ∃ o, mfind m k = o := ⟨_, rfl⟩
  obtain ⟨x, hx⟩ : ∃ x, o.getD [] = x := ⟨_, rfl⟩
  obtain ⟨is, his⟩ : ∃ q, o.isSome = q := ⟨_, rfl⟩
  have hlk : ∀ wx, Upd [] (w1.drewN 1) wx → (Instr.lookup 113 (.map (some g)) (.string (strOf k)) true).run Tryz.prog wx = .ok (.tuple #[.string (strOf x), .bool is]) wx := fun wx hS => by
    have := MapKind.look (MapKind.is_upd_nil S1.out.map hS) (k := k) hkm
    rw [ho] at this
    rw [← hx, ← his]
    exact this
  have LK := hide hlk; have HO := hide ho; have HX := hide hx; have HIS := hide his
  clear hlk ho hx his
  refine wp_region_seq getOps (by kernel_rfl) [] (Upd [] (w1.drewN 1)) (by kernel_rfl) (by kernel_rfl) (fun _ _ d _ _ h => by cases d <;> exact h) (Upd.refl _ _) ?_
  refine wpSeq_take (by kernel_rfl) (by kernel_rfl) ?_
  apply Exists.intro
  refine ⟨fun wx hS => ?_, fun a' ha => ?_⟩
  · go_simp; rfl
  simp only [Act.put, zz1, zz2, zz3] at ha
  subst ha
  refine wpSeq_take (by kernel_rfl) (by kernel_rfl) ?_
  apply Exists.intro
  refine ⟨fun wx hS => ?_, fun a' ha => ?_⟩
  · go_simp; rfl
  simp only [Act.put, zz1, zz2, zz3] at ha
  subst ha
  refine wpSeq_take (by kernel_rfl) (by kernel_rfl) ?_
  apply Exists.intro
  refine ⟨fun wx hS => ?_, fun a' ha => ?_⟩
  · go_simp; rfl
  simp only [Act.put, zz1, zz2, zz3] at ha
  subst ha
  refine wpSeq_take (by kernel_rfl) (by kernel_rfl) ?_
  apply Exists.intro
  refine ⟨fun wx hS => ?_, fun a' ha => ?_⟩
  · have c0 : wx.cell? ⟨b, 0, none⟩ = some (.map (some g)) := blk_cell (hS.get S1.out.blk (by simp)) rfl; go_simp; rfl
  simp only [Act.put, zz1, zz2, zz3] at ha
  subst ha
  refine wpSeq_take (by kernel_rfl) (by kernel_rfl) ?_
  apply Exists.intro
  refine ⟨fun wx hS => ?_, fun a' ha => ?_⟩
  · go_simp; rfl
  simp only [Act.put, zz1, zz2, zz3] at ha
  subst ha
  refine wpSeq_take (by kernel_rfl) (by kernel_rfl) ?_
  apply Exists.intro
  refine ⟨fun wx hS => ?_, fun a' ha => ?_⟩
  · have c0 : wx.cell? ⟨B, 3, none⟩ = some (.slice (some ⟨bk, ok, none⟩) c.keys.length cp) := blk_cell (hS.get CB.out (by simp)) rfl; go_simp; rfl
  simp only [Act.put, zz1, zz2, zz3] at ha
  subst ha
  refine wpSeq_take (by kernel_rfl) (by kernel_rfl) ?_
  apply Exists.intro
  refine ⟨fun wx hS => ?_, fun a' ha => ?_⟩
  · go_simp; rfl
  simp only [Act.put, zz1, zz2, zz3] at ha
  subst ha
  refine wpSeq_take (by kernel_rfl) (by kernel_rfl) ?_
  apply Exists.intro
  refine ⟨fun wx hS => ?_, fun a' ha => ?_⟩
  · have c0 := cell_upd K1.out hS (by simp); go_simp; rfl
  simp only [Act.put, zz1, zz2, zz3] at ha
  subst ha
  refine wpSeq_take (by kernel_rfl) (by kernel_rfl) ?_
  apply Exists.intro
  refine ⟨fun wx hS => ?_, fun a' ha => ?_⟩
  · have c0 := LK.out wx hS; go_simp; rfl
  simp only [Act.put, zz1, zz2, zz3] at ha
  subst ha
  refine wpSeq_take (by kernel_rfl) (by kernel_rfl) ?_
  apply Exists.intro
  refine ⟨fun wx hS => ?_, fun a' ha => ?_⟩
  · go_simp; rfl
  simp only [Act.put, zz1, zz2, zz3] at ha
  subst ha
  refine wpSeq_take (by kernel_rfl) (by kernel_rfl) ?_
  apply Exists.intro
  refine ⟨fun wx hS => ?_, fun a' ha => ?_⟩
  · go_simp; rfl
  simp only [Act.put, zz1, zz2, zz3] at ha
  subst ha
  refine wpSeq_take (by kernel_rfl) (by kernel_rfl) ?_
  apply Exists.intro
  refine ⟨fun wx hS => ?_, fun a' ha => ?_⟩
  · go_simp; rfl
  simp only [Act.put, zz1, zz2, zz3] at ha
  subst ha
  refine wpSeq_take (by kernel_rfl) (by kernel_rfl) ?_
  apply Exists.intro
  refine ⟨fun wx hS => ?_, fun a' ha => ?_⟩
  · go_simp; rfl
  simp only [Act.put, zz1, zz2, zz3] at ha
  subst ha
  refine wpSeq_take (by kernel_rfl) (by kernel_rfl) ?_
  apply Exists.intro
  refine ⟨fun wx hS => ?_, fun a' ha => ?_⟩
  · go_simp; rfl
  simp only [Act.put, zz1, zz2, zz3] at ha
  subst ha
  unfold wpSeq
  have CR1 : Hid ((w1.drewN 1).heap[B + 1]? = some (.cells #[.int .u8 0, .string ⟨#[]⟩] TRp (0, 0))) := CR
  cases is with
  | false =>
    have hg : getM m k = ⟨1, []⟩ := by
      unfold getM
      rw [HO.out]
      cases ho : o with
      | none => rfl
      | some y => have := HIS.out; rw [ho] at this; cases this
    have HG := hide (HR.out.symm.trans hg)
    obtain ⟨z0, z1, f0, f1, z2, f2⟩ := res_facts CR1.out
    clear hg
    go_wp2_with fail
    have hW := upd2 (w1.drewN 1) (B + 1) (.int .u8 1) (.string ⟨#[]⟩)
    have hBs := KB.out
    exact ret_rp (stored2 CR1.out) rfl rfl rfl ⟨by rw [HG.out]; rfl, (U1.out.drewN 1).trans_new hW (fun k hk => .inr (by simp at hk; omega))⟩
  | true =>
    have hg : getM m k = ⟨0, x⟩ := by
      unfold getM
      rw [HO.out]
      cases ho : o with
      | none => have := HIS.out; rw [ho] at this; cases this
      | some y => have := HX.out; rw [ho] at this; cases this; rfl
    have HG := hide (HR.out.symm.trans hg)
    clear hg
    go_wp2_with fail
    refine (done_any x _).mono ?_
    rintro e w3 ⟨rfl, hu3⟩
    unfold rpv
    have CR3 := hide (hu3.get CR1.out (by simp)); have V3 := hide hu3
    obtain ⟨z0, z1, f0, f1, z2, f2⟩ := res_facts CR3.out
    clear hu3
    go_wp2_with fail
    have hW := upd2 w3 (B + 1) (.int .u8 0) (.string (strOf x))
    have hBs := KB.out
    exact ret_rp (stored2 CR3.out) rfl rfl rfl ⟨by rw [HG.out]; rfl, ((U1.out.drewN 1).trans V3.out).trans_new hW (fun k hk => .inr (by simp at hk; omega))⟩
noncomputable def delOps : Array Oper := findOps 2 ((Tryz.f83.body).getD .skip)
set_option maxRecDepth 100000 in
set_option maxHeartbeats 2000000 in
theorem del_any {T : Nat → Prop} {v : Value} {c : Cm} {b g : Nat} {m : KM} (w : World) (h : StIs w b g m) (hc : CmAt w T v c) (hk : Cm.Good c) :
    Calls Tryz.prog 83 #[.pointer (some ⟨b, 0, none⟩), v] w fun e w' => e = .returned (rpv (getM m (keyA c))) ∧ StIs w' b g (mdel m (keyA c)) ∧ Upd [g] w w' := by
  obtain ⟨fit, ks, rfl, hks⟩ := hc
  obtain ⟨xo, cp, rfl, h1, h2, hget⟩ := hks.get
  obtain ⟨k, hk0⟩ : ∃ k, c.keys[0]? = some k := ⟨_, List.getElem?_eq_getElem (Good.keys hk).2.1⟩
  have hkA : keyA c = k := by unfold keyA; rw [List.getD_eq_getElem?_getD, hk0]; rfl
  have hkl := keyA_len hk
  have hnl : c.new.length ≤ 64 := hk.2.2.2.2.2.2.2.1
  rw [hkA] at hkl ⊢
  have hkm : k.length ≤ maxLen := by unfold maxLen; omega
  have hnm : c.new.length ≤ maxLen := by unfold maxLen; omega
  obtain ⟨bk, ok, rfl, hbk, hkc⟩ := hget 0 k hk0
  rw [Nat.add_zero] at hkc
  have hpos : 0 < c.keys.length := (Good.keys hk).2.1
  have ST := hide h; have KC := hide hkc; have KS := hide hks; have FIT := hide fit; have GK := hide hk; have HKA := hide hkA
  have hneK : bk ≠ g := cell_ne hkc h.map
  have hgl := MapKind.is_lt h.map
  have hbl := blk_lt h.blk
  simp only [maxLen] at h2
  clear h hget hks hk hk0 hkA hkc fit
  unfold cmv
  simp only [strV]
  obtain ⟨r, hr⟩ : ∃ r, getM m k = r := ⟨_, rfl⟩
  rw [hr]
  have HR := hide hr
  clear hr
  go_enter Tryz.func83, Tryz.ntmps83
  go_upto_region 1 with fail
  have hB := blk_alloc (blk_new w (.cells (cmc c (.slice (some ⟨bk, ok, none⟩) c.keys.length cp)).toArray TCmd)) (.cells #[.int .u8 0, .string ⟨#[]⟩] TRp)
  have hR := blk_new (w.alloc (.cells (cmc c (.slice (some ⟨bk, ok, none⟩) c.keys.length cp)).toArray TCmd)) (.cells #[.int .u8 0, .string ⟨#[]⟩] TRp)
  have hu := ((Upd.refl [] w).alloc (.cells (cmc c (.slice (some ⟨bk, ok, none⟩) c.keys.length cp)).toArray TCmd)).alloc (.cells #[.int .u8 0, .string ⟨#[]⟩] TRp)
  rw [World.size_alloc] at hR
  have hsz : ((w.alloc (.cells (cmc c (.slice (some ⟨bk, ok, none⟩) c.keys.length cp)).toArray TCmd)).alloc (.cells #[.int .u8 0, .string ⟨#[]⟩] TRp)).heap.size = w.heap.size + 2 := by simp
  change Code.wp _ _ _ _ ((w.alloc (.cells (cmc c (.slice (some ⟨bk, ok, none⟩) c.keys.length cp)).toArray TCmd)).alloc (.cells #[.int .u8 0, .string ⟨#[]⟩] TRp))
  generalize (w.alloc (.cells (cmc c (.slice (some ⟨bk, ok, none⟩) c.keys.length cp)).toArray TCmd)).alloc (.cells #[.int .u8 0, .string ⟨#[]⟩] TRp) = w1 at *
  have CB := hide hB; have CR := hide hR; have U1 := hide hu
  obtain ⟨B, hBs⟩ : ∃ B, w.heap.size = B := ⟨_, rfl⟩
  have KB := hide hBs
  rw [hBs] at hsz CB CR ⊢
  have S1 := hide (ST.out.upd_nil (hu.drewN 1)); have K1 := hide (cell_upd KC.out (hu.drewN 1) (by simp))
  have hne := ST.out.ne
  have hneB : B ≠ g := by have := KB.out; omega
  have hneR : B + 1 ≠ g := by have := KB.out; omega
  clear hB hR hu hBs
  have b0 : w1.cell? ⟨B, 0, none⟩ = some (.int .u32 (c.client : Int)) := blk_cell CB.out rfl
  have b1 : w1.cell? ⟨B, 1, none⟩ = some (.int .u32 (c.seq : Int)) := blk_cell CB.out rfl
  have b2 : w1.cell? ⟨B, 2, none⟩ = some (.int .u8 (c.kind : Int)) := blk_cell CB.out rfl
  have b3 : w1.cell? ⟨B, 3, none⟩ = some (.slice (some ⟨bk, ok, none⟩) c.keys.length cp) := blk_cell CB.out rfl
  have b4 : w1.cell? ⟨B, 4, none⟩ = some (.string (strOf c.old)) := blk_cell CB.out rfl
  have b5 : w1.cell? ⟨B, 5, none⟩ = some (.string (strOf c.new)) := blk_cell CB.out rfl
  have b6 : w1.cell? ⟨B, 6, none⟩ = some (.int .i64 c.n) := blk_cell CB.out rfl
  have hgt := get_any (c := c) w1 (ST.out.upd_nil U1.out) ⟨FIT.out, _, rfl, KS.out.upd_nil U1.out⟩ GK.out
  rw [HKA.out, HR.out] at hgt
  have HGT := hide hgt
  clear hgt
  go_wp2_with fail
  refine HGT.out.mono ?_
  rintro e w2 ⟨rfl, hu2⟩
  unfold rpv
  have U2 := hide (U1.out.trans hu2); have CB2 := hide (hu2.get CB.out (by simp)); have CR2 := hide (hu2.get CR.out (by simp)); have hsz2 := hu2.size
  clear hu2 HGT b0 b1 b2 b3 b4 b5 b6 S1 K1
  go_wp2_with fail
  have hD := blk_new w2 (.cells #[.int .u8 (r.code : Int), .string (strOf r.text)] TRp)
  have hal := (Upd.refl [] w2).alloc (.cells #[.int .u8 (r.code : Int), .string (strOf r.text)] TRp)
  have hsz4 : (w2.alloc (.cells #[.int .u8 (r.code : Int), .string (strOf r.text)] TRp)).heap.size = w2.heap.size + 1 := by simp
  change Code.wp _ _ _ _ (w2.alloc (.cells #[.int .u8 (r.code : Int), .string (strOf r.text)] TRp))
  generalize w2.alloc (.cells #[.int .u8 (r.code : Int), .string (strOf r.text)] TRp) = w4 at *
  have U4 := hide ((U2.out.trans hal).drewN 1)
  have S4 := hide (ST.out.upd_nil U4.out); have K4 := hide (cell_upd KC.out U4.out (by simp)); have CB4 : Hid ((w4.drewN 1).heap[B]? = _) := hide (hal.get CB2.out (by simp)); have CR4 : Hid ((w4.drewN 1).heap[B + 1]? = _) := hide (hal.get CR2.out (by simp)); have D4 : Hid ((w4.drewN 1).heap[w2.heap.size]? = _) := hide hD
  obtain ⟨D, hDs⟩ : ∃ D, w2.heap.size = D := ⟨_, rfl⟩
  rw [hDs] at D4 hsz2 hsz4 ⊢
  have hneD : D ≠ g := by have := KB.out; omega
  clear hD hal hDs
  refine wp_region_seq delOps (by kernel_rfl) [8] (Upd [g] (w4.drewN 1)) (by kernel_rfl) (by kernel_rfl) (fun _ _ d _ _ h => by cases d <;> exact h) (Upd.refl _ _) ?_
  refine wpSeq_take (by kernel_rfl) (by kernel_rfl) ?_
  apply Exists.intro
  refine ⟨fun wx hS => ?_, fun a' ha => ?_⟩
  · go_simp; rfl
  simp only [Act.put, zz1, zz2, zz3] at ha
  subst ha
  refine wpSeq_take (by kernel_rfl) (by kernel_rfl) ?_
  apply Exists.intro
  refine ⟨fun wx hS => ?_, fun a' ha => ?_⟩
  · go_simp; rfl
  simp only [Act.put, zz1, zz2, zz3] at ha
  subst ha
  refine wpSeq_take (by kernel_rfl) (by kernel_rfl) ?_
  apply Exists.intro
  refine ⟨fun wx hS => ?_, fun a' ha => ?_⟩
  · go_simp; rfl
  simp only [Act.put, zz1, zz2, zz3] at ha
  subst ha
  refine wpSeq_take (by kernel_rfl) (by kernel_rfl) ?_
  apply Exists.intro
  refine ⟨fun wx hS => ?_, fun a' ha => ?_⟩
  · have c0 : wx.cell? ⟨b, 0, none⟩ = some (.map (some g)) := blk_cell (hS.get S4.out.blk (by simpa using hne)) rfl; go_simp; rfl
  simp only [Act.put, zz1, zz2, zz3] at ha
  subst ha
  refine wpSeq_take (by kernel_rfl) (by kernel_rfl) ?_
  apply Exists.intro
  refine ⟨fun wx hS => ?_, fun a' ha => ?_⟩
  · go_simp; rfl
  simp only [Act.put, zz1, zz2, zz3] at ha
  subst ha
  refine wpSeq_take (by kernel_rfl) (by kernel_rfl) ?_
  apply Exists.intro
  refine ⟨fun wx hS => ?_, fun a' ha => ?_⟩
  · have c0 : wx.cell? ⟨B, 3, none⟩ = some (.slice (some ⟨bk, ok, none⟩) c.keys.length cp) := blk_cell (hS.get CB4.out (by simpa using hneB)) rfl; go_simp; rfl
  simp only [Act.put, zz1, zz2, zz3] at ha
  subst ha
  refine wpSeq_take (by kernel_rfl) (by kernel_rfl) ?_
  apply Exists.intro
  refine ⟨fun wx hS => ?_, fun a' ha => ?_⟩
  · go_simp; rfl
  simp only [Act.put, zz1, zz2, zz3] at ha
  subst ha
  refine wpSeq_take (by kernel_rfl) (by kernel_rfl) ?_
  apply Exists.intro
  refine ⟨fun wx hS => ?_, fun a' ha => ?_⟩
  · have c0 := cell_upd K4.out hS (by simpa using hneK); go_simp; rfl
  simp only [Act.put, zz1, zz2, zz3] at ha
  subst ha
  refine wpSeq_one (by kernel_rfl) (by kernel_rfl) (fun K hK => ?_)
  obtain ⟨w5, hr, hm, hu5⟩ := MapKind.drop S4.out.map (k := k) hkm 0
  have hr' : (Builtin.delete_ #[113, TStr] 0 #[.map (some g), .string (strOf k)]).run Tryz.prog (w4.drewN 1) = .ok (.tuple #[]) w5 := hr
  go_simp
  have ST5 := hide (S4.out.turn hu5 hm); have CR5 := hide (hu5.get CR4.out (by simpa using hneR)); have D5 := hide (hu5.get D4.out (by simpa using hneD)); have V5 := hide hu5
  have hsz5 := hu5.size
  clear hr hr' hm
  refine hK _ _ (hu5) ?_
  clear hK K
  try simp only [Act.put, zz1, zz2, zz3]
  clear hu5
  unfold wpSeq
  obtain ⟨y0, y1, -, -, -, -⟩ := res_facts D5.out
  obtain ⟨z0, z1, f0, f1, z2, f2⟩ := res_facts CR5.out
  go_wp2_with fail
  have hW := upd2 w5 (B + 1) (.int .u8 (r.code : Int)) (.string (strOf r.text))
  have hBs := KB.out
  exact ret_rp (stored2 CR5.out) rfl rfl rfl ⟨rfl, ST5.out.upd hW (by simp; omega) (by simp; omega), ((U4.out.mono (by simp)).trans V5.out).trans_new hW (fun k hk => .inr (by simp at hk; omega))⟩
set_option maxHeartbeats 1000000 in
theorem set_any {b g : Nat} {m : KM} {k : List UInt8} {o : Option (List UInt8)} (w : World) (h : StIs w b g m) (hk : k.length ≤ 1000) (ho : ∀ x, o = some x → x.length ≤ 1000) (hl : m.length ≤ 1000000) :
    Calls Tryz.prog 105 #[.pointer (some ⟨b, 0, none⟩), .string (strOf k), .string (strOf (o.getD [])), .bool o.isSome] w fun e w' => e = .returned (.tuple #[]) ∧ StIs w' b g (mset m k o) ∧ Upd [g] w w' := by
  have c0 : w.cell? ⟨b, 0, none⟩ = some (.map (some g)) := blk_cell h.blk rfl
  obtain ⟨w1, hr, hm, hu⟩ := MapKind.drop h.map (k := k) (show k.length ≤ maxLen by unfold maxLen; omega) 0
  have hr' : (Builtin.delete_ #[113, TStr] 0 #[.map (some g), .string (strOf k)]).run Tryz.prog w = .ok (.tuple #[]) w1 := hr
  have h1 := h.turn hu hm
  have c1 : w1.cell? ⟨b, 0, none⟩ = some (.map (some g)) := blk_cell h1.blk rfl
  have HU := hide hu; have H1 := hide h1
  clear h hr hm hu h1
  cases o with
  | none =>
    simp only [Option.getD_none, Option.isSome_none]
    go_enter Tryz.func105, Tryz.ntmps105
    go_wp2_with fail
    go_end0
    exact ⟨rfl, H1.out, HU.out⟩
  | some x =>
    simp only [Option.getD_some, Option.isSome_some]
    obtain ⟨w2, hr, hm, hu⟩ := MapKind.store H1.out.map (k := k) (v := x) (show k.length ≤ maxLen by unfold maxLen; omega) (show x.length ≤ maxLen by have := ho x rfl; unfold maxLen; omega) (by have := len_del_le (l := m) (k := k); unfold maxLen; omega)
    have hr2 : (Instr.mapUpdate 113 (.map (some g)) (.string (strOf k)) (.string (strOf x))).run Tryz.prog w1 = .ok () w2 := hr
    have H2 := hide (H1.out.turn hu hm); have U2 := hide (HU.out.trans hu)
    clear hr hm hu
    go_enter Tryz.func105, Tryz.ntmps105
    go_wp2_with fail
    go_end0
    exact ⟨rfl, H2.out, U2.out⟩
noncomputable def casOps : Array Oper := findOps 1 ((Tryz.f85.body).getD .skip)
set_option maxRecDepth 100000 in
set_option maxHeartbeats 2000000 in
theorem cas_any {T : Nat → Prop} {v : Value} {c : Cm} {b g : Nat} {m : KM} (w : World) (h : StIs w b g m) (hc : CmAt w T v c) (hk : Cm.Good c) (hl : m.length ≤ 1000000) :
    Calls Tryz.prog 85 #[.pointer (some ⟨b, 0, none⟩), v] w fun e w' => e = .returned (rpv (casM m (keyA c) c.old c.new).2) ∧ StIs w' b g (casM m (keyA c) c.old c.new).1 ∧ Upd [g] w w' := by
  obtain ⟨fit, ks, rfl, hks⟩ := hc
  obtain ⟨xo, cp, rfl, h1, h2, hget⟩ := hks.get
  obtain ⟨k, hk0⟩ : ∃ k, c.keys[0]? = some k := ⟨_, List.getElem?_eq_getElem (Good.keys hk).2.1⟩
  have hkA : keyA c = k := by unfold keyA; rw [List.getD_eq_getElem?_getD, hk0]; rfl
  have hkl := keyA_len hk
  have hnl : c.new.length ≤ 64 := hk.2.2.2.2.2.2.2.1
  rw [hkA] at hkl ⊢
  have hkm : k.length ≤ maxLen := by unfold maxLen; omega
  have hnm : c.new.length ≤ maxLen := by unfold maxLen; omega
  obtain ⟨bk, ok, rfl, hbk, hkc⟩ := hget 0 k hk0
  rw [Nat.add_zero] at hkc
  have hpos : 0 < c.keys.length := (Good.keys hk).2.1
  have ST := hide h; have KC := hide hkc; have KS := hide hks; have FIT := hide fit; have GK := hide hk; have HKA := hide hkA
  have hneK : bk ≠ g := cell_ne hkc h.map
  have hgl := MapKind.is_lt h.map
  have hbl := blk_lt h.blk
  simp only [maxLen] at h2
  clear h hget hks hk hk0 hkA hkc fit
  unfold cmv
  simp only [strV]
  obtain ⟨r, hr⟩ : ∃ r, casM m k c.old c.new = r := ⟨_, rfl⟩
  rw [hr]
  have HR := hide hr
  clear hr
  go_enter Tryz.func85, Tryz.ntmps85
  go_wp2_with fail
  have hB := blk_alloc (blk_new w (.cells (cmc c (.slice (some ⟨bk, ok, none⟩) c.keys.length cp)).toArray TCmd)) (.cells #[.int .u8 0, .string ⟨#[]⟩] TRp)
  have hR := blk_new (w.alloc (.cells (cmc c (.slice (some ⟨bk, ok, none⟩) c.keys.length cp)).toArray TCmd)) (.cells #[.int .u8 0, .string ⟨#[]⟩] TRp)
  have hu := ((Upd.refl [] w).alloc (.cells (cmc c (.slice (some ⟨bk, ok, none⟩) c.keys.length cp)).toArray TCmd)).alloc (.cells #[.int .u8 0, .string ⟨#[]⟩] TRp)
  rw [World.size_alloc] at hR
  have hsz : ((w.alloc (.cells (cmc c (.slice (some ⟨bk, ok, none⟩) c.keys.length cp)).toArray TCmd)).alloc (.cells #[.int .u8 0, .string ⟨#[]⟩] TRp)).heap.size = w.heap.size + 2 := by simp
  change Code.wp _ _ _ _ ((w.alloc (.cells (cmc c (.slice (some ⟨bk, ok, none⟩) c.keys.length cp)).toArray TCmd)).alloc (.cells #[.int .u8 0, .string ⟨#[]⟩] TRp))
  generalize (w.alloc (.cells (cmc c (.slice (some ⟨bk, ok, none⟩) c.keys.length cp)).toArray TCmd)).alloc (.cells #[.int .u8 0, .string ⟨#[]⟩] TRp) = w1 at *
  have CB := hide hB; have CR := hide hR; have U1 := hide hu
  obtain ⟨B, hBs⟩ : ∃ B, w.heap.size = B := ⟨_, rfl⟩
  have KB := hide hBs
  rw [hBs] at hsz CB CR ⊢
  have S1 := hide (ST.out.upd_nil (hu.drewN 1)); have K1 := hide (cell_upd KC.out (hu.drewN 1) (by simp))
  have hne := ST.out.ne
  have hneB : B ≠ g := by have := KB.out; omega
  have hneR : B + 1 ≠ g := by have := KB.out; omega
  clear hB hR hu hBs
  obtain ⟨o, ho⟩ : ∃ o, mfind m k = o := ⟨_, rfl⟩
  obtain ⟨x, hx⟩ : ∃ x, o.getD [] = x := ⟨_, rfl⟩
  obtain ⟨is, his⟩ : ∃ q, o.isSome = q := ⟨_, rfl⟩
  have hlk : ∀ wx, Upd [] (w1.drewN 1) wx → (Instr.lookup 113 (.map (some g)) (.string (strOf k)) true).run Tryz.prog wx = .ok (.tuple #[.string (strOf x), .bool is]) wx := fun wx hS => by
    have := MapKind.look (MapKind.is_upd_nil S1.out.map hS) (k := k) hkm
    rw [ho] at this
    rw [← hx, ← his]
    exact this
  have LK := hide hlk; have HO := hide ho; have HX := hide hx; have HIS := hide his
  clear hlk ho hx his
  refine wp_region_seq casOps (by kernel_rfl) [] (Upd [] (w1.drewN 1)) (by kernel_rfl) (by kernel_rfl) (fun _ _ d _ _ h => by cases d <;> exact h) (Upd.refl _ _) ?_
  refine wpSeq_take (by kernel_rfl) (by kernel_rfl) ?_
  apply Exists.intro
  refine ⟨fun wx hS => ?_, fun a' ha => ?_⟩
  · go_simp; rfl
  simp only [Act.put, zz1, zz2, zz3] at ha
  subst ha
  refine wpSeq_take (by kernel_rfl) (by kernel_rfl) ?_
  apply Exists.intro
  refine ⟨fun wx hS => ?_, fun a' ha => ?_⟩
  · go_simp; rfl
  simp only [Act.put, zz1, zz2, zz3] at ha
  subst ha
  refine wpSeq_take (by kernel_rfl) (by kernel_rfl) ?_
  apply Exists.intro
  refine ⟨fun wx hS => ?_, fun a' ha => ?_⟩
  · go_simp; rfl
  simp only [Act.put, zz1, zz2, zz3] at ha
  subst ha
  refine wpSeq_take (by kernel_rfl) (by kernel_rfl) ?_
  apply Exists.intro
  refine ⟨fun wx hS => ?_, fun a' ha => ?_⟩
  · have c0 : wx.cell? ⟨b, 0, none⟩ = some (.map (some g)) := blk_cell (hS.get S1.out.blk (by simp)) rfl; go_simp; rfl
  simp only [Act.put, zz1, zz2, zz3] at ha
  subst ha
  refine wpSeq_take (by kernel_rfl) (by kernel_rfl) ?_
  apply Exists.intro
  refine ⟨fun wx hS => ?_, fun a' ha => ?_⟩
  · go_simp; rfl
  simp only [Act.put, zz1, zz2, zz3] at ha
  subst ha
  refine wpSeq_take (by kernel_rfl) (by kernel_rfl) ?_
  apply Exists.intro
  refine ⟨fun wx hS => ?_, fun a' ha => ?_⟩
  · have c0 : wx.cell? ⟨B, 3, none⟩ = some (.slice (some ⟨bk, ok, none⟩) c.keys.length cp) := blk_cell (hS.get CB.out (by simp)) rfl; go_simp; rfl
  simp only [Act.put, zz1, zz2, zz3] at ha
  subst ha
  refine wpSeq_take (by kernel_rfl) (by kernel_rfl) ?_
  apply Exists.intro
  refine ⟨fun wx hS => ?_, fun a' ha => ?_⟩
  · go_simp; rfl
  simp only [Act.put, zz1, zz2, zz3] at ha
  subst ha
  refine wpSeq_take (by kernel_rfl) (by kernel_rfl) ?_
  apply Exists.intro
  refine ⟨fun wx hS => ?_, fun a' ha => ?_⟩
  · have c0 := cell_upd K1.out hS (by simp); go_simp; rfl
  simp only [Act.put, zz1, zz2, zz3] at ha
  subst ha
  refine wpSeq_take (by kernel_rfl) (by kernel_rfl) ?_
  apply Exists.intro
  refine ⟨fun wx hS => ?_, fun a' ha => ?_⟩
  · have c0 := LK.out wx hS; go_simp; rfl
  simp only [Act.put, zz1, zz2, zz3] at ha
  subst ha
  refine wpSeq_take (by kernel_rfl) (by kernel_rfl) ?_
  apply Exists.intro
  refine ⟨fun wx hS => ?_, fun a' ha => ?_⟩
  · go_simp; rfl
  simp only [Act.put, zz1, zz2, zz3] at ha
  subst ha
  refine wpSeq_take (by kernel_rfl) (by kernel_rfl) ?_
  apply Exists.intro
  refine ⟨fun wx hS => ?_, fun a' ha => ?_⟩
  · go_simp; rfl
  simp only [Act.put, zz1, zz2, zz3] at ha
  subst ha
  refine wpSeq_take (by kernel_rfl) (by kernel_rfl) ?_
  apply Exists.intro
  refine ⟨fun wx hS => ?_, fun a' ha => ?_⟩
  · go_simp; rfl
  simp only [Act.put, zz1, zz2, zz3] at ha
  subst ha
  refine wpSeq_take (by kernel_rfl) (by kernel_rfl) ?_
  apply Exists.intro
  refine ⟨fun wx hS => ?_, fun a' ha => ?_⟩
  · go_simp; rfl
  simp only [Act.put, zz1, zz2, zz3] at ha
  subst ha
  refine wpSeq_take (by kernel_rfl) (by kernel_rfl) ?_
  apply Exists.intro
  refine ⟨fun wx hS => ?_, fun a' ha => ?_⟩
  · go_simp; rfl
  simp only [Act.put, zz1, zz2, zz3] at ha
  subst ha
  unfold wpSeq
  have CR1 : Hid ((w1.drewN 1).heap[B + 1]? = some (.cells #[.int .u8 0, .string ⟨#[]⟩] TRp (0, 0))) := CR
  cases is with
  | false =>
    have hg : casM m k c.old c.new = (m, ⟨1, []⟩) := by
      unfold casM
      rw [HO.out]
      cases ho : o with
      | none => rfl
      | some y => have := HIS.out; rw [ho] at this; cases this
    have HG := hide (HR.out.symm.trans hg)
    obtain ⟨z0, z1, f0, f1, z2, f2⟩ := res_facts CR1.out
    clear hg
    go_wp2_with fail
    have hW := upd2 (w1.drewN 1) (B + 1) (.int .u8 1) (.string ⟨#[]⟩)
    have hBs := KB.out
    exact ret_rp (stored2 CR1.out) rfl rfl rfl ⟨by rw [HG.out]; rfl, by rw [HG.out]; exact S1.out.upd hW (by simp; omega) (by simp; omega), ((U1.out.drewN 1).mono (by simp)).trans_new hW (fun k hk => .inr (by simp at hk; omega))⟩
  | true =>
    have ho : o = some x := by
      cases ho : o with
      | none => have := HIS.out; rw [ho] at this; cases this
      | some y => have := HX.out; rw [ho] at this; cases this; rfl
    have HOX := hide ho
    clear ho
    have b0 : (w1.drewN 1).cell? ⟨B, 0, none⟩ = some (.int .u32 (c.client : Int)) := blk_cell CB.out rfl
    have b1 : (w1.drewN 1).cell? ⟨B, 1, none⟩ = some (.int .u32 (c.seq : Int)) := blk_cell CB.out rfl
    have b2 : (w1.drewN 1).cell? ⟨B, 2, none⟩ = some (.int .u8 (c.kind : Int)) := blk_cell CB.out rfl
    have b3 : (w1.drewN 1).cell? ⟨B, 3, none⟩ = some (.slice (some ⟨bk, ok, none⟩) c.keys.length cp) := blk_cell CB.out rfl
    have b4 : (w1.drewN 1).cell? ⟨B, 4, none⟩ = some (.string (strOf c.old)) := blk_cell CB.out rfl
    have b5 : (w1.drewN 1).cell? ⟨B, 5, none⟩ = some (.string (strOf c.new)) := blk_cell CB.out rfl
    have b6 : (w1.drewN 1).cell? ⟨B, 6, none⟩ = some (.int .i64 c.n) := blk_cell CB.out rfl
    by_cases hxo : x = c.old
    · have hg : casM m k c.old c.new = (mput strK m k c.new, ⟨0, []⟩) := by
        unfold casM
        rw [HO.out, HOX.out]
        simp only
        rw [if_pos hxo]
      have HG := hide (HR.out.symm.trans hg)
      have qe : ((strOf x).toList == (strOf c.old).toList) = true := by rw [strOf_eq, decide_eq_true hxo]
      have hpt := put_any (c := c) (w1.drewN 1) S1.out ⟨FIT.out, _, rfl, KS.out.upd_nil (U1.out.drewN 1)⟩ GK.out hl
      rw [HKA.out] at hpt
      have HPT := hide hpt
      clear hg hpt hxo
      go_wp2_with fail
      refine HPT.out.mono ?_
      rintro e w3 ⟨rfl, hs3, hu3⟩
      unfold rpv
      have CR3 := hide (hu3.get CR1.out (by simpa using hneR)); have S3 := hide hs3; have V3 := hide hu3
      have hsz3 := hu3.size
      obtain ⟨z0, z1, f0, f1, z2, f2⟩ := res_facts CR3.out
      clear hu3 hs3 HPT b0 b1 b2 b3 b4 b5 b6
      go_wp2_with fail
      have hW := upd2 w3 (B + 1) (.int .u8 0) (.string (strOf []))
      have hBs := KB.out
      exact ret_rp (stored2 CR3.out) rfl rfl rfl ⟨by rw [HG.out]; rfl, by rw [HG.out]; exact S3.out.upd hW (by simp; omega) (by simp; omega), (((U1.out.drewN 1).mono (by simp)).trans V3.out).trans_new hW (fun k hk => .inr (by simp at hk; omega))⟩
    · have hg : casM m k c.old c.new = (m, ⟨2, []⟩) := by
        unfold casM
        rw [HO.out, HOX.out]
        simp only
        rw [if_neg hxo]
      have HG := hide (HR.out.symm.trans hg)
      have qe : ((strOf x).toList == (strOf c.old).toList) = false := by rw [strOf_eq, decide_eq_false hxo]
      obtain ⟨z0, z1, f0, f1, z2, f2⟩ := res_facts CR1.out
      clear hg hxo
      go_wp2_with fail
      have hW := upd2 (w1.drewN 1) (B + 1) (.int .u8 2) (.string ⟨#[]⟩)
      have hBs := KB.out
      exact ret_rp (stored2 CR1.out) rfl rfl rfl ⟨by rw [HG.out]; rfl, by rw [HG.out]; exact S1.out.upd hW (by simp; omega) (by simp; omega), ((U1.out.drewN 1).mono (by simp)).trans_new hW (fun k hk => .inr (by simp at hk; omega))⟩
noncomputable def swapOps1 : Array Oper := findOps 1 ((Tryz.f86.body).getD .skip)
noncomputable def swapOps2 : Array Oper := findOps 2 ((Tryz.f86.body).getD .skip)
set_option maxRecDepth 100000 in
set_option maxHeartbeats 4000000 in
theorem swap_any {T : Nat → Prop} {v : Value} {c : Cm} {b g : Nat} {m : KM} (w : World) (h : StIs w b g m) (hc : CmAt w T v c) (hk : Cm.Good c) (h6 : c.kind = 6) (hm : KvOk m) (hl : m.length ≤ 900000) :
    Calls Tryz.prog 86 #[.pointer (some ⟨b, 0, none⟩), v] w fun e w' => e = .returned (rpv ⟨0, []⟩) ∧ StIs w' b g (swapM m (keyA c) (keyB c)) ∧ Upd [g] w w' := by
  have h2k : 1 < c.keys.length := by have := hk.2.2.2.1; rw [h6] at this; exact this
  have h2i : (1 : Int) < (c.keys.length : Int) := by omega
  obtain ⟨k', hk1⟩ : ∃ k, c.keys[1]? = some k := ⟨_, List.getElem?_eq_getElem h2k⟩
  have hkB : keyB c = k' := by unfold keyB; rw [List.getD_eq_getElem?_getD, hk1]; rfl
  have hkl' := keyB_len hk
  rw [hkB] at hkl' ⊢
  have hkm' : k'.length ≤ maxLen := by unfold maxLen; omega
  have hks0 := hc
  obtain ⟨-, ks0, e0, hks1⟩ := hks0
  obtain ⟨xo0, cp, e1, -, -, hget1⟩ := hks1.get
  subst e1
  obtain ⟨bk, ok, e2, hbk, hkc1⟩ := hget1 1 k' hk1
  subst e2
  subst e0
  have KC1 := hide hkc1
  clear hk1 hkB hget1 hkc1 hks1 h6
  obtain ⟨fit, ks, e3, hks⟩ := hc
  simp only [cmv, Value.agg.injEq, Array.mk.injEq, List.cons.injEq, true_and, and_true] at e3
  subst e3
  obtain ⟨xo, cp9, e4, h1, h2, hget⟩ := hks.get
  cases e4
  obtain ⟨k, hk0⟩ : ∃ k, c.keys[0]? = some k := ⟨_, List.getElem?_eq_getElem (Good.keys hk).2.1⟩
  have hkA : keyA c = k := by unfold keyA; rw [List.getD_eq_getElem?_getD, hk0]; rfl
  have hkl := keyA_len hk
  rw [hkA] at hkl ⊢
  have hkm : k.length ≤ maxLen := by unfold maxLen; omega
  obtain ⟨bk0, ok0, e5, -, hkc⟩ := hget 0 k hk0
  cases e5
  rw [Nat.add_zero] at hkc
  have hpos : 0 < c.keys.length := (Good.keys hk).2.1
  have ST := hide h; have KC := hide hkc; have OKM := hide hm
  have hneK : bk ≠ g := cell_ne hkc h.map
  have hgl := MapKind.is_lt h.map
  have hbl := blk_lt h.blk
  simp only [maxLen] at h2
  clear h hget hks hk hk0 hkA hkc fit hm
  unfold cmv
  simp only [strV]
  go_enter Tryz.func86, Tryz.ntmps86
  go_wp2_with fail
  have hB := blk_alloc (blk_new w (.cells (cmc c (.slice (some ⟨bk, ok, none⟩) c.keys.length cp)).toArray TCmd)) (.cells #[.int .u8 0, .string ⟨#[]⟩] TRp)
  have hR := blk_new (w.alloc (.cells (cmc c (.slice (some ⟨bk, ok, none⟩) c.keys.length cp)).toArray TCmd)) (.cells #[.int .u8 0, .string ⟨#[]⟩] TRp)
  have hu := ((Upd.refl [] w).alloc (.cells (cmc c (.slice (some ⟨bk, ok, none⟩) c.keys.length cp)).toArray TCmd)).alloc (.cells #[.int .u8 0, .string ⟨#[]⟩] TRp)
  rw [World.size_alloc] at hR
  have hsz : ((w.alloc (.cells (cmc c (.slice (some ⟨bk, ok, none⟩) c.keys.length cp)).toArray TCmd)).alloc (.cells #[.int .u8 0, .string ⟨#[]⟩] TRp)).heap.size = w.heap.size + 2 := by simp
  change Code.wp _ _ _ _ ((w.alloc (.cells (cmc c (.slice (some ⟨bk, ok, none⟩) c.keys.length cp)).toArray TCmd)).alloc (.cells #[.int .u8 0, .string ⟨#[]⟩] TRp))
  generalize (w.alloc (.cells (cmc c (.slice (some ⟨bk, ok, none⟩) c.keys.length cp)).toArray TCmd)).alloc (.cells #[.int .u8 0, .string ⟨#[]⟩] TRp) = w1 at *
  have CB := hide hB; have CR := hide hR; have U1 := hide hu
  obtain ⟨B, hBs⟩ : ∃ B, w.heap.size = B := ⟨_, rfl⟩
  have KB := hide hBs
  rw [hBs] at hsz CB CR ⊢
  have S1 := hide (ST.out.upd_nil (hu.drewN 1)); have K1 := hide (cell_upd KC.out (hu.drewN 1) (by simp))
  have hne := ST.out.ne
  have hneB : B ≠ g := by have := KB.out; omega
  have hneR : B + 1 ≠ g := by have := KB.out; omega
  clear hB hR hu hBs
  have K2 := hide (cell_upd KC1.out (U1.out.drewN 1) (by simp))
  obtain ⟨o, ho⟩ : ∃ o, mfind m k = o := ⟨_, rfl⟩
  obtain ⟨x, hx⟩ : ∃ x, o.getD [] = x := ⟨_, rfl⟩
  obtain ⟨is, his⟩ : ∃ q, o.isSome = q := ⟨_, rfl⟩
  have hlk : ∀ wx, Upd [] (w1.drewN 1) wx → (Instr.lookup 113 (.map (some g)) (.string (strOf k)) true).run Tryz.prog wx = .ok (.tuple #[.string (strOf x), .bool is]) wx := fun wx hS => by
    have := MapKind.look (MapKind.is_upd_nil S1.out.map hS) (k := k) hkm
    rw [ho] at this
    rw [← hx, ← his]
    exact this
  have LK := hide hlk; have HO := hide ho; have HX := hide hx; have HIS := hide his
  clear hlk ho hx his
  refine wp_region_seq swapOps1 (by kernel_rfl) [] (Upd [] (w1.drewN 1)) (by kernel_rfl) (by kernel_rfl) (fun _ _ d _ _ h => by cases d <;> exact h) (Upd.refl _ _) ?_
  refine wpSeq_take (by kernel_rfl) (by kernel_rfl) ?_
  apply Exists.intro
  refine ⟨fun wx hS => ?_, fun a' ha => ?_⟩
  · go_simp; rfl
  simp only [Act.put, zz1, zz2, zz3] at ha
  subst ha
  refine wpSeq_take (by kernel_rfl) (by kernel_rfl) ?_
  apply Exists.intro
  refine ⟨fun wx hS => ?_, fun a' ha => ?_⟩
  · go_simp; rfl
  simp only [Act.put, zz1, zz2, zz3] at ha
  subst ha
  refine wpSeq_take (by kernel_rfl) (by kernel_rfl) ?_
  apply Exists.intro
  refine ⟨fun wx hS => ?_, fun a' ha => ?_⟩
  · go_simp; rfl
  simp only [Act.put, zz1, zz2, zz3] at ha
  subst ha
  refine wpSeq_take (by kernel_rfl) (by kernel_rfl) ?_
  apply Exists.intro
  refine ⟨fun wx hS => ?_, fun a' ha => ?_⟩
  · have c0 : wx.cell? ⟨b, 0, none⟩ = some (.map (some g)) := blk_cell (hS.get S1.out.blk (by simp)) rfl; go_simp; rfl
  simp only [Act.put, zz1, zz2, zz3] at ha
  subst ha
  refine wpSeq_take (by kernel_rfl) (by kernel_rfl) ?_
  apply Exists.intro
  refine ⟨fun wx hS => ?_, fun a' ha => ?_⟩
  · go_simp; rfl
  simp only [Act.put, zz1, zz2, zz3] at ha
  subst ha
  refine wpSeq_take (by kernel_rfl) (by kernel_rfl) ?_
  apply Exists.intro
  refine ⟨fun wx hS => ?_, fun a' ha => ?_⟩
  · have c0 : wx.cell? ⟨B, 3, none⟩ = some (.slice (some ⟨bk, ok, none⟩) c.keys.length cp) := blk_cell (hS.get CB.out (by simp)) rfl; go_simp; rfl
  simp only [Act.put, zz1, zz2, zz3] at ha
  subst ha
  refine wpSeq_take (by kernel_rfl) (by kernel_rfl) ?_
  apply Exists.intro
  refine ⟨fun wx hS => ?_, fun a' ha => ?_⟩
  · go_simp; rfl
  simp only [Act.put, zz1, zz2, zz3] at ha
  subst ha
  refine wpSeq_take (by kernel_rfl) (by kernel_rfl) ?_
  apply Exists.intro
  refine ⟨fun wx hS => ?_, fun a' ha => ?_⟩
  · have c0 := cell_upd K1.out hS (by simp); go_simp; rfl
  simp only [Act.put, zz1, zz2, zz3] at ha
  subst ha
  refine wpSeq_take (by kernel_rfl) (by kernel_rfl) ?_
  apply Exists.intro
  refine ⟨fun wx hS => ?_, fun a' ha => ?_⟩
  · have c0 := LK.out wx hS; go_simp; rfl
  simp only [Act.put, zz1, zz2, zz3] at ha
  subst ha
  refine wpSeq_take (by kernel_rfl) (by kernel_rfl) ?_
  apply Exists.intro
  refine ⟨fun wx hS => ?_, fun a' ha => ?_⟩
  · go_simp; rfl
  simp only [Act.put, zz1, zz2, zz3] at ha
  subst ha
  refine wpSeq_take (by kernel_rfl) (by kernel_rfl) ?_
  apply Exists.intro
  refine ⟨fun wx hS => ?_, fun a' ha => ?_⟩
  · go_simp; rfl
  simp only [Act.put, zz1, zz2, zz3] at ha
  subst ha
  refine wpSeq_take (by kernel_rfl) (by kernel_rfl) ?_
  apply Exists.intro
  refine ⟨fun wx hS => ?_, fun a' ha => ?_⟩
  · go_simp; rfl
  simp only [Act.put, zz1, zz2, zz3] at ha
  subst ha
  refine wpSeq_take (by kernel_rfl) (by kernel_rfl) ?_
  apply Exists.intro
  refine ⟨fun wx hS => ?_, fun a' ha => ?_⟩
  · go_simp; rfl
  simp only [Act.put, zz1, zz2, zz3] at ha
  subst ha
  refine wpSeq_take (by kernel_rfl) (by kernel_rfl) ?_
  apply Exists.intro
  refine ⟨fun wx hS => ?_, fun a' ha => ?_⟩
  · go_simp; rfl
  simp only [Act.put, zz1, zz2, zz3] at ha
  subst ha
  unfold wpSeq
  go_wp2_with fail
  obtain ⟨o', ho'⟩ : ∃ o, mfind m k' = o := ⟨_, rfl⟩
  obtain ⟨x', hx'⟩ : ∃ x, o'.getD [] = x := ⟨_, rfl⟩
  obtain ⟨is', his'⟩ : ∃ q, o'.isSome = q := ⟨_, rfl⟩
  have hlk' : ∀ wx, Upd [] (w1.drewN 1) wx → (Instr.lookup 113 (.map (some g)) (.string (strOf k')) true).run Tryz.prog wx = .ok (.tuple #[.string (strOf x'), .bool is']) wx := fun wx hS => by
    have := MapKind.look (MapKind.is_upd_nil S1.out.map hS) (k := k') hkm'
    rw [ho'] at this
    rw [← hx', ← his']
    exact this
  have LK2 := hide hlk'; have HO2 := hide ho'; have HX2 := hide hx'; have HIS2 := hide his'
  clear hlk' ho' hx' his'
  refine wp_region_seq swapOps2 (by kernel_rfl) [] (Upd [] (w1.drewN 1)) (by kernel_rfl) (by kernel_rfl) (fun _ _ d _ _ h => by cases d <;> exact h) ((Upd.refl _ _).drewN 1) ?_
  refine wpSeq_take (by kernel_rfl) (by kernel_rfl) ?_
  apply Exists.intro
  refine ⟨fun wx hS => ?_, fun a' ha => ?_⟩
  · go_simp; rfl
  simp only [Act.put, zz1, zz2, zz3] at ha
  subst ha
  refine wpSeq_take (by kernel_rfl) (by kernel_rfl) ?_
  apply Exists.intro
  refine ⟨fun wx hS => ?_, fun a' ha => ?_⟩
  · go_simp; rfl
  simp only [Act.put, zz1, zz2, zz3] at ha
  subst ha
  refine wpSeq_take (by kernel_rfl) (by kernel_rfl) ?_
  apply Exists.intro
  refine ⟨fun wx hS => ?_, fun a' ha => ?_⟩
  · go_simp; rfl
  simp only [Act.put, zz1, zz2, zz3] at ha
  subst ha
  refine wpSeq_take (by kernel_rfl) (by kernel_rfl) ?_
  apply Exists.intro
  refine ⟨fun wx hS => ?_, fun a' ha => ?_⟩
  · have c0 : wx.cell? ⟨b, 0, none⟩ = some (.map (some g)) := blk_cell (hS.get S1.out.blk (by simp)) rfl; go_simp; rfl
  simp only [Act.put, zz1, zz2, zz3] at ha
  subst ha
  refine wpSeq_take (by kernel_rfl) (by kernel_rfl) ?_
  apply Exists.intro
  refine ⟨fun wx hS => ?_, fun a' ha => ?_⟩
  · go_simp; rfl
  simp only [Act.put, zz1, zz2, zz3] at ha
  subst ha
  refine wpSeq_take (by kernel_rfl) (by kernel_rfl) ?_
  apply Exists.intro
  refine ⟨fun wx hS => ?_, fun a' ha => ?_⟩
  · have c0 : wx.cell? ⟨B, 3, none⟩ = some (.slice (some ⟨bk, ok, none⟩) c.keys.length cp) := blk_cell (hS.get CB.out (by simp)) rfl; go_simp; rfl
  simp only [Act.put, zz1, zz2, zz3] at ha
  subst ha
  refine wpSeq_take (by kernel_rfl) (by kernel_rfl) ?_
  apply Exists.intro
  refine ⟨fun wx hS => ?_, fun a' ha => ?_⟩
  · go_simp; rfl
  simp only [Act.put, zz1, zz2, zz3] at ha
  subst ha
  refine wpSeq_take (by kernel_rfl) (by kernel_rfl) ?_
  apply Exists.intro
  refine ⟨fun wx hS => ?_, fun a' ha => ?_⟩
  · have c0 := cell_upd K2.out hS (by simp); go_simp; rfl
  simp only [Act.put, zz1, zz2, zz3] at ha
  subst ha
  refine wpSeq_take (by kernel_rfl) (by kernel_rfl) ?_
  apply Exists.intro
  refine ⟨fun wx hS => ?_, fun a' ha => ?_⟩
  · have c0 := LK2.out wx hS; go_simp; rfl
  simp only [Act.put, zz1, zz2, zz3] at ha
  subst ha
  refine wpSeq_take (by kernel_rfl) (by kernel_rfl) ?_
  apply Exists.intro
  refine ⟨fun wx hS => ?_, fun a' ha => ?_⟩
  · go_simp; rfl
  simp only [Act.put, zz1, zz2, zz3] at ha
  subst ha
  refine wpSeq_take (by kernel_rfl) (by kernel_rfl) ?_
  apply Exists.intro
  refine ⟨fun wx hS => ?_, fun a' ha => ?_⟩
  · go_simp; rfl
  simp only [Act.put, zz1, zz2, zz3] at ha
  subst ha
  refine wpSeq_take (by kernel_rfl) (by kernel_rfl) ?_
  apply Exists.intro
  refine ⟨fun wx hS => ?_, fun a' ha => ?_⟩
  · go_simp; rfl
  simp only [Act.put, zz1, zz2, zz3] at ha
  subst ha
  refine wpSeq_take (by kernel_rfl) (by kernel_rfl) ?_
  apply Exists.intro
  refine ⟨fun wx hS => ?_, fun a' ha => ?_⟩
  · go_simp; rfl
  simp only [Act.put, zz1, zz2, zz3] at ha
  subst ha
  refine wpSeq_take (by kernel_rfl) (by kernel_rfl) ?_
  apply Exists.intro
  refine ⟨fun wx hS => ?_, fun a' ha => ?_⟩
  · go_simp; rfl
  simp only [Act.put, zz1, zz2, zz3] at ha
  subst ha
  unfold wpSeq
  have hd : Upd [] (w1.drewN 1) (w1.drewN 2) := ⟨rfl, rfl, rfl, Nat.le_refl _, fun _ _ _ => rfl⟩
  have a3 : (w1.drewN 2).cell? ⟨B, 3, none⟩ = some (.slice (some ⟨bk, ok, none⟩) c.keys.length cp) := blk_cell (hd.get CB.out (by simp)) rfl
  have ak : (w1.drewN 2).cell? ⟨bk, ok, none⟩ = some (.string (strOf k)) := cell_upd K1.out hd (by simp)
  have hs1 := set_any (k := k) (o := o') (w1.drewN 2) (S1.out.upd_nil hd) (by omega) (fun y hy => by have := OKM.out.find (HO2.out.trans hy); omega) (by omega)
  rw [HX2.out, HIS2.out] at hs1
  have HS1 := hide hs1
  clear hs1 hd
  go_wp2_with fail
  refine HS1.out.mono ?_
  rintro e w4 ⟨rfl, hs4, hu4⟩
  have V4 := hide ((show Upd [g] (w1.drewN 1) (w1.drewN 2) from ⟨rfl, rfl, rfl, Nat.le_refl _, fun _ _ _ => rfl⟩).trans hu4)
  have b3 : w4.cell? ⟨B, 3, none⟩ = some (.slice (some ⟨bk, ok, none⟩) c.keys.length cp) := blk_cell (V4.out.get CB.out (by simpa using hneB)) rfl
  have bk' : w4.cell? ⟨bk, ok + 1, none⟩ = some (.string (strOf k')) := cell_upd K2.out V4.out (by simpa using hneK)
  have hs2 := set_any (k := k') (o := o) w4 hs4 (by omega) (fun y hy => by have := OKM.out.find (HO.out.trans hy); omega) (by have := set_len m k o'; omega)
  rw [HX.out, HIS.out] at hs2
  have HS2 := hide hs2
  clear hs2 hu4 a3 ak HS1 hs4
  go_wp2_with fail
  refine HS2.out.mono ?_
  rintro e w5 ⟨rfl, hs5, hu5⟩
  have S5 := hide hs5; have V5 := hide (V4.out.trans hu5)
  clear hs5 hu5 HS2 b3 bk' V4
  go_wp2_with fail
  refine (done_any [] w5).mono ?_
  rintro e w6 ⟨rfl, hu6⟩
  unfold rpv
  have V6 := hide (V5.out.trans (hu6.mono (by simp))); have S6 := hide (S5.out.upd_nil hu6)
  have CR6 := hide (V6.out.get (show (w1.drewN 1).heap[B + 1]? = _ from CR.out) (by simpa using hneR))
  obtain ⟨z0, z1, f0, f1, z2, f2⟩ := res_facts CR6.out
  clear hu6 V5 S5
  go_wp2_with fail
  have hW := upd2 w6 (B + 1) (.int .u8 0) (.string (strOf []))
  have hBs := KB.out
  have hfin : mset (mset m k o') k' o = swapM m k k' := by unfold swapM; rw [HO.out, HO2.out]
  exact ret_rp (stored2 CR6.out) rfl rfl rfl ⟨rfl, by rw [← hfin]; exact S6.out.upd hW (by simp; omega) (by simp; omega), (((U1.out.drewN 1).mono (by simp)).trans V6.out).trans_new hW (fun k hk => .inr (by simp at hk; omega))⟩
end Go.Proofs.YthpnnffogbjhpaaGreatDoor.Kv
namespace Go.Proofs.YthpnnffogbjhpaaGreatDoor.Kv
set_option linter.unusedSimpArgs false
set_option linter.unusedVariables false
set_option linter.unnecessarySimpa false
open Go.RowKit Go.Lib Go.Proofs.YthpnnffogbjhpaaGreatDoor.Crc Go.Proofs.YthpnnffogbjhpaaGreatDoor.Cm

theorem srcB_blk {w : World} {b n z : Nat} {cs : List Value} {t : TypeId} (h : w.heap[b]? = some (.cells cs.toArray t (0, 0))) (hn : cs.length = n * z) (h1 : ∀ u ∈ cs, u.oneCell' = true) : SrcAt w (some ⟨b, 0, none⟩) n n cs z := by
  refine ⟨hn, h1, by simp, fun a e j u hj => ?_⟩
  cases e
  rw [add_plain]
  simp only [World.cell?, h]
  simpa using hj
section
variable {P : Program} {ops : Array Oper} {Q : Exit → Act → World → Prop} {md : Region.Mode} {S : World → Prop} {z : Nat}
/-- Two may come up. -/
theorem wpAnyZ_two (i j : Nat) {oi oj : Oper} {fuel : Nat} {listed : Array Bool} {a : Act} {w : World} (hr : Region.ready md ops listed = [i, j]) (hi : ops[i]? = some oi) (hj : ops[j]? = some oj)
    (hwi : Region.wanted oi (yielded ops a.tmps) = true) (hwj : Region.wanted oj (yielded ops a.tmps) = true)
    (h1 : ∀ K : Act → World → Prop, (∀ a' w', (i = z ∨ S w') → wpAnyZ P md ops Q S z fuel (listed.setIfInBounds i true) a' w' → K a' w') → oi.wp P a w K Q)
    (h2 : ∀ K : Act → World → Prop, (∀ a' w', (j = z ∨ S w') → wpAnyZ P md ops Q S z fuel (listed.setIfInBounds j true) a' w' → K a' w') → oj.wp P a w K Q) : wpAnyZ P md ops Q S z (fuel + 1) listed a w := by
  refine ⟨fun h0 => (by rw [hr] at h0; cases h0), ?_⟩
  rw [hr]
  intro k hk
  have hk' : k = i ∨ k = j := by simpa using hk
  rcases hk' with rfl | rfl
  · unfold wpOp
    rw [hi]
    simp only [hwi, if_true]
    exact .inl (h1 _ (fun a' w' h1 h2 => ⟨h1, h2⟩))
  · unfold wpOp
    rw [hj]
    simp only [hwj, if_true]
    exact .inl (h2 _ (fun a' w' h1 h2 => ⟨h1, h2⟩))
end
end Go.Proofs.YthpnnffogbjhpaaGreatDoor.Kv
