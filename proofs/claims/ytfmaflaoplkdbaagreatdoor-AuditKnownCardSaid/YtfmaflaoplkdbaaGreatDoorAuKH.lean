/- AuK, AuH, AlR in one text. -/
import Derived.Test.YtfmaflaoplkdbaaGreatDoorGenAll
import Derived.Test.YtfmaflaoplkdbaaGreatDoorTrSA
import Derived.Test.YtfmaflaoplkdbaaGreatDoorPureAll
import Derived.Test.YtfmaflaoplkdbaaGreatDoorCmX
set_option linter.unusedSimpArgs false
set_option linter.unusedVariables false
set_option linter.unnecessarySimpa false
namespace Go.Proofs.YtfmaflaoplkdbaaGreatDoor.Au
open Go.RowKit Go.Proofs.YtfmaflaoplkdbaaGreatDoor.Crc Go.Proofs.YtfmaflaoplkdbaaGreatDoor.Cm Go.Proofs.YtfmaflaoplkdbaaGreatDoor.Tr
set_option linter.unusedSimpArgs false

def nuv (k : Nu) : Value := .agg #[.int .u32 (k.1 : Int), .int .u32 (k.2 : Int)]
theorem flds_nu : (Tryz.prog.fieldsOf 192).toList.map (fun f => (f.name == "_", f.type, f.offset)) = [(false, 22, 0), (false, 22, 1)] := by kernel_rfl
theorem eq_nu (a b : Nu) (w : World) : (Op.equal 192 (nuv a) (nuv b)).run Tryz.prog w = .ok (decide (a = b)) w := by
  show (Op.equalIn 10000 192 (nuv a) (nuv b)).run Tryz.prog w = _
  unfold nuv
  rw [run_equalIn_struct w 9999 192 _ _ (by kernel_rfl) (by kernel_rfl)]
  have hf := flds_nu
  generalize (Tryz.prog.fieldsOf 192).toList = fs at hf ⊢
  obtain ⟨f, g, rfl, hf1, hg1⟩ := map2 hf
  simp only [Prod.mk.injEq] at hf1 hg1
  obtain ⟨f1, f2, f3⟩ := hf1
  obtain ⟨g1, g2, g3⟩ := hg1
  have e1 := run_equalIn_int (P := Tryz.prog) w 9998 22 .u32 .u32 (a.1 : Int) (b.1 : Int) Tryz.underlying22
  have e2 := run_equalIn_int (P := Tryz.prog) w 9998 22 .u32 .u32 (a.2 : Int) (b.2 : Int) Tryz.underlying22
  rw [eqF_cons f1 (by rw [f2, f3]; exact part_of (agg_int _ Tryz.underlying22 w) rfl) (by rw [f2, f3]; exact part_of (agg_int _ Tryz.underlying22 w) rfl) (by rw [f2]; exact e1)]
  rw [eqF_cons g1 (by rw [g2, g3]; exact part_of (agg_int _ Tryz.underlying22 w) rfl) (by rw [g2, g3]; exact part_of (agg_int _ Tryz.underlying22 w) rfl) (by rw [g2]; exact e2), eqF_nil]
  obtain ⟨c1, s1⟩ := a
  obtain ⟨c2, s2⟩ := b
  simp only [Prod.mk.injEq]
  by_cases h1 : c1 = c2 <;> by_cases h2 : s1 = s2 <;> simp [h1, h2] <;> omega
theorem check_nu (x : Bool) (k : Nu) (w : World) : (Instr.checkKey x 10000 192 (nuv k)).run Tryz.prog w = .ok () w := by kernel_rfl
theorem ask_nu (k : Nu) (w : World) : ∀ (L : List (Ent Nu)) (i : Nat), (Instr.findAsking 192 (nuv k) (L.map fun p => ⟨nuv p.1, p.2.1, p.2.2⟩) i).run Tryz.prog w = .ok (ffind k L i) w
  | [], i => rfl
  | p :: L, i => by
    simp only [List.map_cons, Instr.findAsking, Sem.run_bind, eq_nu, Result.andThen_ok, ffind]
    by_cases e : p.1 = k
    · have : decide (k = p.1) = true := by simp [e]
      rw [this, if_pos e]
      rfl
    · have : decide (k = p.1) = false := by simp; exact fun h => e h.symm
      rw [this, if_neg e]
      exact ask_nu k w L (i + 1)
theorem find_nu (k : Nu) (w : World) (L : List (Ent Nu)) : (Instr.findKey 192 (nuv k) (L.map fun p => ⟨nuv p.1, p.2.1, p.2.2⟩)).run Tryz.prog w = .ok (ffind k L 0) w := by
  have h1 : ∃ fs, Tryz.prog.underlying 192 = some (.struct fs) := ⟨_, Tryz.underlying192⟩
  obtain ⟨fs, h1⟩ := h1
  unfold Instr.findKey
  rw [Sem.run_bind, run_underlying h1]
  simp only [Result.andThen_ok]
  cases L with
  | nil => rfl
  | cons p L => exact ask_nu k w (p :: L) 0
noncomputable def nuF : FK Tryz.prog Nu where
  kt := 192
  kv := nuv
  check := check_nu
  find := find_nu
  stays k := by simp [nuv, Instr.sameBits]
noncomputable def slF : FK Tryz.prog Nat := numF 32 .u64 Tryz.underlying32
end Go.Proofs.YtfmaflaoplkdbaaGreatDoor.Au
namespace Go.Proofs.YtfmaflaoplkdbaaGreatDoor.Au
open Go.RowKit Go.Proofs.YtfmaflaoplkdbaaGreatDoor.Crc Go.Proofs.YtfmaflaoplkdbaaGreatDoor.Cm Go.Proofs.YtfmaflaoplkdbaaGreatDoor.Tr
set_option linter.unusedSimpArgs false
set_option linter.unusedVariables false

theorem cellU {w w' : World} {b i : Nat} {u : Value} {S : List Nat} (h : w.cell? ⟨b, i, none⟩ = some u) (hu : Upd S w w') (hS : b ∉ S) : w'.cell? ⟨b, i, none⟩ = some u := by
  have := hu.block b (World.block_lt_of_cell? w _ h) hS
  rw [← h]
  simp only [World.cell?, this]
abbrev THi : TypeId := 190
abbrev TEn : TypeId := 41
abbrev TTo : TypeId := 49
def toK : Kind To where
  z := 5
  hz := by decide
  holds w T t cs := ∃ (r n : Int) (va vd : Value), cs = [.int .i64 r, .int .i64 t.e, .int .i64 n, va, vd] ∧ anK.row w T va t.ans ∧ dnK.row w T vd t.done
  len := by rintro w T c cs ⟨r, n, va, vd, rfl, -⟩; rfl
  one := by
    rintro w T c cs ⟨r, n, va, vd, rfl, h1, h2⟩
    have := row_one h1; have := row_one h2
    intro u hu
    simp only [List.mem_cons, List.not_mem_nil, or_false] at hu
    rcases hu with rfl | rfl | rfl | rfl | rfl
    · rfl
    · rfl
    · rfl
    · assumption
    · assumption
  upd := by rintro w w' T c cs S ⟨r, n, va, vd, h0, h1, h2⟩ hu hS; exact ⟨r, n, va, vd, h0, anK.row_upd h1 hu hS, dnK.row_upd h2 hu hS⟩
  mono := by rintro w T U c cs ⟨r, n, va, vd, h0, h1, h2⟩ hT; exact ⟨r, n, va, vd, h0, anK.row_mono h1 hT, dnK.row_mono h2 hT⟩
theorem Each.map {X Y : Type} {P : X → List Value → Prop} {Q : Y → List Value → Prop} {f : X → Y} (hPQ : ∀ x cs, P x cs → Q (f x) cs) {l : List X} {css : List (List Value)} (h : Each P l css) : Each Q (l.map f) css := by
  induction h with
  | nil => exact .nil
  | cons h1 _ ih => exact .cons (hPQ _ _ h1) ih
theorem to_td {w : World} {T : Nat → Prop} {v : Value} {l : List To} (h : toK.row w T v l) : tdK.row w T v (l.map To.td) := by
  obtain ⟨xo, c, css, e, h1, h2, h3, h4, h5, h6⟩ := h
  refine ⟨xo, c, css, by rw [e, List.length_map], Each.map (fun x cs hx => ?_) h1, h2, ?_, by rw [List.length_map]; exact h4, h5, fun a ha hm => h6 a ha (by rw [List.length_map] at hm; exact hm)⟩
  · obtain ⟨r, n, va, vd, h7, h8, h9⟩ := hx
    exact ⟨r, x.e, n, va, vd, h7, h8, h9⟩
  · rw [List.length_map]; exact h3
/-- What a history has. -/
structure Hs where
  bat : Nat → Option (List UInt8)
  ans : Nu → Option An
  handed : List Cm
  num : Nu → Option Bool
  seen : Nat → Option Bool
  wrong : Nat → Option Bool
  pl : Nu → Option Int
  last : Int
noncomputable abbrev batK (w : World) (g : Nat) (f : Nat → Option (List UInt8)) : Prop := FIs slF (fun b => Value.string (strOf b)) w g f
noncomputable abbrev ansK (w : World) (g : Nat) (f : Nu → Option An) : Prop := FIs nuF anv w g f
noncomputable abbrev numK (w : World) (g : Nat) (f : Nu → Option Bool) : Prop := FIs nuF Value.bool w g f
noncomputable abbrev slbK (w : World) (g : Nat) (f : Nat → Option Bool) : Prop := FIs slF Value.bool w g f
noncomputable abbrev plK (w : World) (g : Nat) (f : Nu → Option Int) : Prop := FIs nuF (fun n => Value.int .i64 n) w g f
structure HAt (w : World) (T : Nat → Prop) (H mb ma mn ms mw mp : Nat) (lv tv hv : Value) (x : Hs) : Prop where
  blk : w.heap[H]? = some (.cells #[lv, tv, .map (some mb), .map (some ma), hv, .map (some mn), .map (some ms), .map (some mw), .map (some mp), .int .i64 x.last] THi (0, 0))
  ord : mb < ma ∧ ma < mn ∧ mn < ms ∧ ms < mw ∧ mw < mp ∧ mp < H
  old : ∀ k, T k → k < mb
  bat : batK w mb x.bat
  ans : ansK w ma x.ans
  num : numK w mn x.num
  seen : slbK w ms x.seen
  wrong : slbK w mw x.wrong
  pl : plK w mp x.pl
  hd : Own w (H + 1) TCmd 7 (cmK.holds w T) hv x.handed
section
variable {w w' : World} {T : Nat → Prop} {H mb ma mn ms mw mp : Nat} {lv tv hv : Value} {x : Hs}
theorem HAt.upd {S : List Nat} (h : HAt w T H mb ma mn ms mw mp lv tv hv x) (hu : Upd S w w') (hS : ∀ k ∈ S, w.heap.size ≤ k) : HAt w' T H mb ma mn ms mw mp lv tv hv x := by
  have h0 := blk_lt h.blk
  have ho := h.ord
  have ne : ∀ k, k < w.heap.size → k ∉ S := fun k hk hm => by have := hS k hm; omega
  exact ⟨hu.get h.blk (ne _ h0), ho, h.old, h.bat.upd hu (ne _ h.bat.lt), h.ans.upd hu (ne _ h.ans.lt), h.num.upd hu (ne _ h.num.lt), h.seen.upd hu (ne _ h.seen.lt), h.wrong.upd hu (ne _ h.wrong.lt), h.pl.upd hu (ne _ h.pl.lt),
    Own.upd h.hd hu (fun k hk => ne _ (Own.lt h.hd k hk).2) fun y cs _ hy => cmK.upd hy hu fun k hk hT => by have := h.old k hT; have := hS k hk; omega⟩
theorem HAt.upd_nil (h : HAt w T H mb ma mn ms mw mp lv tv hv x) (hu : Upd [] w w') : HAt w' T H mb ma mn ms mw mp lv tv hv x := h.upd hu (by simp)
end
theorem results_cell1 {fn : Func} {p : Tmp} {ty : TypeId} (h : fn.results = #[.cell p ty]) (tmps : Array Value) (P : Program) (w : World) :
    (results fn tmps).run P w = ((asAddr (tmps.getD p undef)).run P w).andThen fun a w₁ => (loadVar ty a).run P w₁ := by
  simp only [results, h]
  simp [Sem.run_bind, Result.andThen]
theorem ret_en {fn : Func} {p : Tmp} {B : Nat} {v0 v1 v2 v3 v4 v5 v6 v7 v8 v9 v10 v11 : Value} {W : World} {act : Act} {post : Ending → World → Prop} (hW : W.heap[B]? = some (.cells #[v0, v1, v2, v3, v4, v5, v6, v7, v8, v9, v10, v11] TEn (0, 0)))
    (hfn : fn.results = #[.cell p TEn]) (hp : act.tmps.getD p undef = .pointer (some ⟨B, 0, none⟩)) (hd : act.defers = []) (h : post (.returned (.agg #[v0, v1, v2, v3, v4, v5, v6, v7, v8, v9, v10, v11])) W) :
    bodyPost Tryz.prog fn post Exit.ret act W := by
  have z0 : W.cell? ⟨B, 0, none⟩ = some v0 := blk_cell hW rfl
  have z1 : W.cell? ⟨B, 1, none⟩ = some v1 := blk_cell hW rfl
  have z2 : W.cell? ⟨B, 2, none⟩ = some v2 := blk_cell hW rfl
  have z3 : W.cell? ⟨B, 3, none⟩ = some v3 := blk_cell hW rfl
  have z4 : W.cell? ⟨B, 4, none⟩ = some v4 := blk_cell hW rfl
  have z5 : W.cell? ⟨B, 5, none⟩ = some v5 := blk_cell hW rfl
  have z6 : W.cell? ⟨B, 6, none⟩ = some v6 := blk_cell hW rfl
  have z7 : W.cell? ⟨B, 7, none⟩ = some v7 := blk_cell hW rfl
  have z8 : W.cell? ⟨B, 8, none⟩ = some v8 := blk_cell hW rfl
  have z9 : W.cell? ⟨B, 9, none⟩ = some v9 := blk_cell hW rfl
  have z10 : W.cell? ⟨B, 10, none⟩ = some v10 := blk_cell hW rfl
  have z11 : W.cell? ⟨B, 11, none⟩ = some v11 := blk_cell hW rfl
  refine bodyPost_ret (v := .agg #[v0, v1, v2, v3, v4, v5, v6, v7, v8, v9, v10, v11]) ?_ hd h
  rw [results_cell1 hfn, hp]
  go_simp
/-- An entry at v. -/
def EnAt (w : World) (T : Nat → Prop) (v : Value) (e : En) : Prop := e.cmd.Fits ∧ ∃ (torn pick : Int) (xk : Option Addr) (ck : Nat), v = .agg #[.int .u8 (e.kind : Int), .int .i64 e.r, .int .i64 e.k, .int .i64 torn, .int .u64 pick, .int .u32 (e.cmd.client : Int), .int .u32 (e.cmd.seq : Int), .int .u8 (e.cmd.kind : Int), .slice xk e.cmd.keys.length ck, .string (strOf e.cmd.old), .string (strOf e.cmd.new), .int .i64 e.cmd.n] ∧ Strs w T (.slice xk e.cmd.keys.length ck) e.cmd.keys
theorem EnAt.upd_nil {w w' : World} {T : Nat → Prop} {v : Value} {e : En} (h : EnAt w T v e) (hu : Upd [] w w') : EnAt w' T v e := by
  obtain ⟨h1, t, p, xk, ck, h2, h3⟩ := h
  exact ⟨h1, t, p, xk, ck, h2, h3.upd_nil hu⟩
set_option maxRecDepth 100000 in
set_option maxHeartbeats 2000000 in
theorem entry_any {T U : Nat → Prop} {H mb ma mn ms mw mp : Nat} {lv tv hv : Value} {x : Hs} {l : List En} {i : Nat} (w : World) (h : HAt w T H mb ma mn ms mw mp lv tv hv x) (hl : enK.row w U lv l) :
    Calls Tryz.prog 102 #[.pointer (some ⟨H, 0, none⟩), .int .i64 (i : Int)] w fun e w' => (∃ v, e = .returned v ∧ EnAt w' U v (entM l i)) ∧ Upd [] w w' := by
  obtain ⟨xo, cp, rfl, hcp, hcm, hg⟩ := Row.get enK.hz hl
  simp only [maxLen] at hcm
  have y0 : w.cell? ⟨H, 0, none⟩ = some (.slice xo l.length cp) := blk_cell h.blk rfl
  have hH := blk_lt h.blk
  have hal := (Upd.refl [] w).alloc (.cells #[.int .u8 0, .int .i64 0, .int .i64 0, .int .i64 0, .int .u64 0, .int .u32 0, .int .u32 0, .int .u8 0, .slice none 0 0, .string ⟨#[]⟩, .string ⟨#[]⟩, .int .i64 0] TEn)
  have z0 := cellU y0 hal (by simp)
  clear h
  by_cases hi : i < l.length
  · have d1 : decide ((i : Int) ≥ l.length) = false := by simp; omega
    have d2 : decide (l.length ≤ i) = false := by simp; omega
    obtain ⟨e, he⟩ : ∃ e, l[i]? = some e := ⟨_, List.getElem?_eq_getElem hi⟩
    have hem : entM l i = e := by unfold entM; rw [he]; rfl
    rw [hem]
    obtain ⟨b, off, cs, rfl, hb, hTb, ⟨fit, torn, pick, ks, rfl, hks⟩, -, hcell⟩ := hg i e he
    obtain ⟨xk, ck, rfl, -⟩ := hks.get
    have cx : ∀ o j u, (enc e torn pick (.slice xk e.cmd.keys.length ck))[j]? = some u → (w.alloc o).cell? ⟨b, off + i * 12 + j, none⟩ = some u := fun o j u hj => cellU (hcell j u hj) ((Upd.refl [] w).alloc o) (by simp)
    have FIT := hide fit; have KS := hide hks
    have x0 := fun o => cx o 0 _ rfl
    have x1 := fun o => cx o 1 _ rfl
    have x2 := fun o => cx o 2 _ rfl
    have x3 := fun o => cx o 3 _ rfl
    have x4 := fun o => cx o 4 _ rfl
    have x5 := fun o => cx o 5 _ rfl
    have x6 := fun o => cx o 6 _ rfl
    have x7 := fun o => cx o 7 _ rfl
    have x8 := fun o => cx o 8 _ rfl
    have x9 := fun o => cx o 9 (.string (strOf e.cmd.old)) rfl
    have x10 := fun o => cx o 10 (.string (strOf e.cmd.new)) rfl
    have x11 := fun o => cx o 11 _ rfl
    simp only [Nat.add_zero] at x0
    clear hg hcell cx fit hks hal he hem
    go_enter Tryz.func102, Tryz.ntmps102
    go_wp2_with fail
    refine ret_en (blk_new w _) rfl rfl rfl ⟨⟨_, rfl, FIT.out, torn, pick, xk, ck, rfl, ?_⟩, (Upd.refl [] w).alloc _⟩
    exact KS.out.upd_nil ((Upd.refl [] w).alloc _)
  · have d1 : decide ((i : Int) ≥ l.length) = true := by simp; omega
    have d2 : decide (l.length ≤ i) = true := by simp; omega
    have hem : entM l i = ⟨0, 0, 0, Cm.zero⟩ := by unfold entM; rw [List.getElem?_eq_none (by omega)]; rfl
    rw [hem]
    clear hg hal
    go_enter Tryz.func102, Tryz.ntmps102
    go_wp2_with fail
    refine ret_en (blk_new w _) rfl rfl rfl ⟨⟨_, rfl, zero_fits, 0, 0, none, 0, rfl, ?_⟩, (Upd.refl [] w).alloc _⟩
    exact Strs.nil _ _
theorem field_en0 (v0 v1 v2 v3 v4 v5 v6 v7 v8 v9 v10 v11 : Value) (w : World) : (Instr.field TEn (.agg #[v0, v1, v2, v3, v4, v5, v6, v7, v8, v9, v10, v11]) 0).run Tryz.prog w = .ok v0 w := by kernel_rfl
theorem field_en5 (v0 v1 v2 v3 v4 v5 v6 v7 v8 v9 v10 v11 : Value) (w : World) : (Instr.field TEn (.agg #[v0, v1, v2, v3, v4, v5, v6, v7, v8, v9, v10, v11]) 5).run Tryz.prog w = .ok (.agg #[v5, v6, v7, v8, v9, v10, v11]) w := by kernel_rfl
theorem to_get {w : World} {T : Nat → Prop} {v : Value} {l : List To} (h : toK.row w T v l) : ∃ (xo : Option Addr) (c : Nat), v = .slice xo l.length c ∧ l.length ≤ c ∧ c ≤ maxLen ∧
    ∀ i t, l[i]? = some t → ∃ (b off : Nat) (r n : Int) (xa : Option Addr) (ca : Nat) (xd : Option Addr) (cd : Nat), xo = some ⟨b, off, none⟩ ∧ b < w.heap.size ∧ T b ∧ anK.row w T (.slice xa t.ans.length ca) t.ans ∧ dnK.row w T (.slice xd t.done.length cd) t.done ∧
      w.cell? ⟨b, off + i * 5, none⟩ = some (.int .i64 r) ∧ w.cell? ⟨b, off + i * 5 + 1, none⟩ = some (.int .i64 t.e) ∧ w.cell? ⟨b, off + i * 5 + 2, none⟩ = some (.int .i64 n) ∧ w.cell? ⟨b, off + i * 5 + 3, none⟩ = some (.slice xa t.ans.length ca) ∧ w.cell? ⟨b, off + i * 5 + 4, none⟩ = some (.slice xd t.done.length cd) := by
  obtain ⟨xo, c, rfl, h1, h2, hg⟩ := Row.get toK.hz h
  refine ⟨xo, c, rfl, h1, h2, fun i t hi => ?_⟩
  obtain ⟨b, off, cs, rfl, hb, hTb, ⟨r, n, va, vd, rfl, hva, hvd⟩, -, hcell⟩ := hg i t hi
  obtain ⟨xa, ca, rfl, -, -⟩ := Row.slice hva
  obtain ⟨xd, cd, rfl, -, -⟩ := Row.slice hvd
  exact ⟨b, off, r, n, xa, ca, xd, cd, rfl, hb, hTb, hva, hvd, hcell 0 _ rfl, hcell 1 _ rfl, hcell 2 _ rfl, hcell 3 _ rfl, hcell 4 _ rfl⟩
set_option maxRecDepth 100000 in
set_option maxHeartbeats 2000000 in
theorem hands_any {T U : Nat → Prop} {H mb ma mn ms mw mp : Nat} {lv tv hv : Value} {x : Hs} {l : List En} {told : List To} {t : To} {i : Nat} (w : World) (h : HAt w T H mb ma mn ms mw mp lv tv hv x) (hl : enK.row w U lv l) (ht : toK.row w U tv told) (hi : told[i]? = some t) :
    Calls Tryz.prog 101 #[.pointer (some ⟨H, 0, none⟩), .int .i64 (i : Int)] w fun e w' => e = .returned (.bool (handsM l t i)) ∧ Upd [] w w' := by
  obtain ⟨xo, cp, rfl, hcp, hcm, hg⟩ := to_get ht
  simp only [maxLen] at hcm
  have y1 : w.cell? ⟨H, 1, none⟩ = some (.slice xo told.length cp) := blk_cell h.blk rfl
  have hlt := (List.getElem?_eq_some_iff.1 hi).1
  obtain ⟨b, off, r, n, xa, ca, xd, cd, rfl, hb, hTb, -, -, -, z1, -⟩ := hg i t hi
  have d1 : decide (0 ≤ (i : Int)) = true := by simp
  have HAL := hide h; have HL := hide hl; have HM : Hid (handsM l t i = (decide ((entM l i).kind = 1) && (decide (t.e = 0) || decide (t.e = 21)))) := hide rfl
  obtain ⟨bo, hbo⟩ : ∃ bo, handsM l t i = bo := ⟨_, rfl⟩
  rw [hbo] at HM ⊢
  clear hg h hl ht hi hbo
  go_enter Tryz.func101, Tryz.ntmps101
  go_wp2_with fail
  refine (entry_any (i := i) w HAL.out HL.out).mono ?_
  rintro e w1 ⟨⟨v, rfl, hE⟩, hu⟩
  obtain ⟨fit, torn, pick, xk, ck, rfl, hks⟩ := hE
  have HU := hide hu
  clear hu hks fit
  have f0 := fun v0 v1 v2 v3 v4 v5 v6 v7 v8 v9 v10 v11 => field_en0 v0 v1 v2 v3 v4 v5 v6 v7 v8 v9 v10 v11 w1
  have HM' := HM.out
  clear HM
  generalize entM l i = E at HM' ⊢
  by_cases hk : E.kind = 1
  · have d2 : decide ((E.kind : Int) = 1) = true := by simp [hk]
    have d3 : ((E.kind : Int) == 1) = true := by simp [hk]
    rw [decide_eq_true hk, Bool.true_and] at HM'
    by_cases h0 : t.e = 0
    · have d4 : (t.e == 0) = true := by simp [h0]
      rw [decide_eq_true h0, Bool.true_or] at HM'
      subst HM'
      go_wp2_with fail
      go_ret
      exact ⟨rfl, HU.out⟩
    · have d4 : (t.e == 0) = false := by simp [h0]
      rw [decide_eq_false h0, Bool.false_or] at HM'
      by_cases h1 : t.e = 21
      · have d5 : (t.e == 21) = true := by simp [h1]
        rw [decide_eq_true h1] at HM'
        subst HM'
        go_wp2_with fail
        go_ret
        exact ⟨rfl, HU.out⟩
      · have d5 : (t.e == 21) = false := by simp [h1]
        rw [decide_eq_false h1] at HM'
        subst HM'
        go_wp2_with fail
        go_ret
        exact ⟨rfl, HU.out⟩
  · have d2 : decide ((E.kind : Int) = 1) = false := by simp; omega
    have d3 : ((E.kind : Int) == 1) = false := by simp; omega
    rw [decide_eq_false hk, Bool.false_and] at HM'
    subst HM'
    go_wp2_with fail
    go_ret
    exact ⟨rfl, HU.out⟩
end Go.Proofs.YtfmaflaoplkdbaaGreatDoor.Au
namespace Go.Proofs.YtfmaflaoplkdbaaGreatDoor.Au
open Go.RowKit Go.Proofs.YtfmaflaoplkdbaaGreatDoor.Crc Go.Proofs.YtfmaflaoplkdbaaGreatDoor.Cm Go.Proofs.YtfmaflaoplkdbaaGreatDoor.Tr
set_option linter.unusedSimpArgs false
set_option linter.unusedVariables false

section
variable {w w' : World} {T : Nat → Prop} {xo : Option Addr} {m cp : Nat}
/-- What was told, at its place in memory. -/
theorem to_at {told : List To} {i : Nat} {t : To} (h : toK.row w T (.slice xo m cp) told) (hi : told[i]? = some t) : ∃ (b off : Nat) (xa : Option Addr) (ca : Nat) (xd : Option Addr) (cd : Nat), xo = some ⟨b, off, none⟩ ∧
    w.cell? ⟨b, off + i * 5 + 1, none⟩ = some (.int .i64 t.e) ∧ w.cell? ⟨b, off + i * 5 + 3, none⟩ = some (.slice xa t.ans.length ca) ∧ w.cell? ⟨b, off + i * 5 + 4, none⟩ = some (.slice xd t.done.length cd) ∧
    anK.row w T (.slice xa t.ans.length ca) t.ans ∧ dnK.row w T (.slice xd t.done.length cd) t.done ∧ t.ans.length ≤ 9223372036854775807 ∧ t.done.length ≤ 9223372036854775807 := by
  obtain ⟨xo', cp', e, hcp, hcm, hg⟩ := to_get h
  obtain ⟨b, off, r, n, xa, ca, xd, cd, h1, hb, hTb, h2, h3, z0, z1, z2, z3, z4⟩ := hg i t hi
  cases e
  obtain ⟨-, ca', e1, h4, h5⟩ := Row.slice h2
  obtain ⟨-, cd', e2, h6, h7⟩ := Row.slice h3
  simp only [maxLen] at h5 h7
  exact ⟨b, off, xa, ca, xd, cd, h1, z1, z3, z4, h2, h3, by omega, by omega⟩
theorem dn_at {ds : List Dn} {k : Nat} {d : Dn} (h : dnK.row w T (.slice xo m cp) ds) (hi : ds[k]? = some d) : ∃ (b off : Nat) (xb : Option Addr) (n c : Nat), xo = some ⟨b, off, none⟩ ∧
    w.cell? ⟨b, off + k * 2, none⟩ = some (.int .u64 (d.1 : Int)) ∧ w.cell? ⟨b, off + k * 2 + 1, none⟩ = some (.slice xb n c) ∧ SrcAt w xb n c (d.2.map u8v) 1 ∧ n ≤ c ∧ c ≤ maxLen ∧ d.1 < 18446744073709551616 ∧ d.2.length = n := by
  obtain ⟨xo', cp', e, hcp, hcm, hg⟩ := Row.get dnK.hz h
  obtain ⟨bd, od, cs, h1, hbd, hTd, ⟨hs, v, rfl, hby⟩, -, hcell⟩ := hg k d hi
  cases e
  obtain ⟨xb, n, c, rfl, hsrc, hmc, hcm, -⟩ := hby
  exact ⟨bd, od, xb, n, c, h1, hcell 0 _ rfl, hcell 1 _ rfl, hsrc, hmc, hcm, hs, by have := hsrc.len; simpa using this⟩
theorem an_at {l : List An} {k : Nat} {a : An} (h : anK.row w T (.slice xo m cp) l) (hi : l[k]? = some a) : ∃ (b off : Nat), xo = some ⟨b, off, none⟩ ∧
    w.cell? ⟨b, off + k * 4, none⟩ = some (.int .u32 (a.client : Int)) ∧ w.cell? ⟨b, off + k * 4 + 1, none⟩ = some (.int .u32 (a.seq : Int)) ∧ w.cell? ⟨b, off + k * 4 + 2, none⟩ = some (.int .u8 (a.code : Int)) ∧ w.cell? ⟨b, off + k * 4 + 3, none⟩ = some (.string (strOf a.text)) := by
  obtain ⟨xo', cp', e, hcp, hcm, hg⟩ := an_get h
  obtain ⟨b, off, h1, hb, hT, h2, h3, h4, h5⟩ := hg k a hi
  cases e
  exact ⟨b, off, h1, h2, h3, h4, h5⟩
theorem en_at {l : List En} {i : Nat} {e : En} (h : enK.row w T (.slice xo m cp) l) (hi : l[i]? = some e) : ∃ (b off : Nat) (xk : Option Addr) (ck : Nat), xo = some ⟨b, off, none⟩ ∧ e.cmd.Fits ∧ Strs w T (.slice xk e.cmd.keys.length ck) e.cmd.keys ∧
    w.cell? ⟨b, off + i * 12, none⟩ = some (.int .u8 (e.kind : Int)) ∧ Cells7 w b (off + i * 12 + 5) e.cmd xk ck := by
  obtain ⟨xo', cp', e', hcp, hcm, hg⟩ := Row.get enK.hz h
  obtain ⟨b, off, cs, h1, hb, hT, ⟨fit, torn, pick, ks, rfl, hks⟩, -, hcell⟩ := hg i e hi
  cases e'
  obtain ⟨xk, ck, rfl, -⟩ := hks.get
  exact ⟨b, off, xk, ck, h1, fit, hks, hcell 0 _ rfl, hcell 5 _ rfl, hcell 6 _ rfl, hcell 7 _ rfl, hcell 8 _ rfl, hcell 9 _ rfl, hcell 10 _ rfl, hcell 11 _ rfl⟩
end
end Go.Proofs.YtfmaflaoplkdbaaGreatDoor.Au
