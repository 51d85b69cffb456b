/- A replica at rest; single.step. -/
import Derived.Test.YtanjnhohfcgapaaGreatDoorSgEHI
set_option linter.unusedSimpArgs false
set_option linter.unusedVariables false
set_option linter.unnecessarySimpa false
namespace Go.Proofs.YtanjnhohfcgapaaGreatDoor.Sg
open Go.RowKit Go.Proofs.YtanjnhohfcgapaaGreatDoor.Crc Go.Proofs.YtanjnhohfcgapaaGreatDoor.Cm Go.Proofs.YtanjnhohfcgapaaGreatDoor.Tr Go.Proofs.YtanjnhohfcgapaaGreatDoor.Kv Go.Proofs.YtanjnhohfcgapaaGreatDoor.Au
set_option linter.unusedSimpArgs false
set_option linter.unusedVariables false

def nilV : Value := .slice none 0 0
def Gh.bare (G : Gh) : Gh := { G with sv := nilV, av := nilV, dv := nilV }
/-- A replica at rest: what it told lies elsewhere. -/
def XIdle (w : World) (T M : Nat → Prop) (p : Nat) (x : Sg) (G : Gh) : Prop := w.heap[p]? = some (.cells (sgc x G) TSg (0, 0)) ∧ Rs w T M 0 p x.log x.waits x.app x.vote.c x.asks Ou.zero G.bare
section
variable {w w' : World} {T M T' M' : Nat → Prop} {z z' p : Nat} {x : Sg} {o : Ou} {G : Gh}
theorem Rs.rez (h : Rs w T M z p x.log x.waits x.app x.vote.c x.asks Ou.zero G.bare) (z' : Nat) : Rs w T M z' p x.log x.waits x.app x.vote.c x.asks Ou.zero G.bare :=
  ⟨h.log, h.waits, Own.nil _ _ _ _ _, Own.nil _ _ _ _ _, Own.nil _ _ _ _ _, h.app, h.appM, h.hi, h.vote, h.asks, h.nm, h.apt⟩
theorem XIdle.upd_nil (h : XIdle w T M p x G) (hu : Upd [] w w') : XIdle w' T M p x G := ⟨hu.get h.1 (by simp), h.2.shift_nil hu⟩
theorem own_mono {b : Nat} {ty : TypeId} {v : Value} {l : List Cm} (h : Own w b ty 7 (cmK.holds w T) v l) (hT : ∀ k, T k → T' k) : Own w b ty 7 (cmK.holds w T') v l := by
  obtain ⟨css, h1, h2, h3⟩ := h
  exact ⟨css, h1.mono fun y cs _ hy => Tr.cmK.mono hy hT, h2, h3⟩
/-- What it told. -/
def told (T : Nat → Prop) (G : Gh) (k : Nat) : Prop := T k ∨ G.sv.ownBlock = some k ∨ G.av.ownBlock = some k ∨ G.dv.ownBlock = some k
def untold (M : Nat → Prop) (G : Gh) (k : Nat) : Prop := M k ∧ G.sv.ownBlock ≠ some k ∧ G.av.ownBlock ≠ some k ∧ G.dv.ownBlock ≠ some k
theorem XAt.rest (h : XAt w T M z p x o G) : XIdle w (told T G) (untold M G) p x G ∧ seK.row w (told T G) G.sv o.send ∧ anK.row w (told T G) G.av o.ans ∧ cmK.row w (told T G) G.dv o.done := by
  have hT : ∀ k, T k → told T G k := fun k hk => .inl hk
  have ls := Own.lt h.2.send
  have la := Own.lt h.2.ans
  have ld := Own.lt h.2.done
  have n3 := fun k hk => h.2.nm.inM 3 k hk
  have n4 := fun k hk => h.2.nm.inM 4 k hk
  have n5 := fun k hk => h.2.nm.inM 5 k hk
  have sub : ∀ i k : Nat, (G.bare.names p).getD i none = some k → i ≠ 3 ∧ i ≠ 4 ∧ i ≠ 5 ∧ (G.names p).getD i none = some k := fun i k hk => by
    match i, hk with
    | 0, hk => exact ⟨by decide, by decide, by decide, hk⟩
    | 1, hk => exact ⟨by decide, by decide, by decide, hk⟩
    | 2, hk => exact ⟨by decide, by decide, by decide, hk⟩
    | 3, hk => cases hk
    | 4, hk => cases hk
    | 5, hk => cases hk
    | 6, hk => exact ⟨by decide, by decide, by decide, hk⟩
    | 7, hk => exact ⟨by decide, by decide, by decide, hk⟩
    | n + 8, hk => cases hk
  have conv : ∀ (B : List (Option Nat)) (i k : Nat), B[i]? = some (some k) ↔ B.getD i none = some k := fun B i k => by
    rw [List.getD_eq_getElem?_getD]
    cases hB : B[i]? with
    | none => simp
    | some v => simp
  have asks : AkIs w (told T G) G.bare x.asks := by
    have := h.2.asks.mono hT
    cases hx : x.asks with
    | none => rw [hx] at this; exact this
    | some a => rw [hx] at this; exact this
  refine ⟨⟨h.1, own_mono h.2.log hT, own_mono h.2.waits hT, Own.nil _ _ _ _ _, Own.nil _ _ _ _ _, Own.nil _ _ _ _ _, h.2.app, fun k h1 h2 => ⟨h.2.appM k h1 h2, fun e => ?_, fun e => ?_, fun e => ?_⟩, h.2.hi, h.2.vote.mono hT, asks, ⟨fun i j k hi hj => ?_, fun i k hi => ?_⟩, ⟨fun k hk hm => ?_, fun k hk => ?_, fun k hk => h.2.apt.ltM k hk.1⟩⟩, ?_, ?_, ?_⟩
  · have := (n3 k (congrArg some e)).2.2; change k < G.lo ∨ G.hi ≤ k at this; change G.lo ≤ k at h1; change k < G.hi at h2; omega
  · have := (n4 k (congrArg some e)).2.2; change k < G.lo ∨ G.hi ≤ k at this; change G.lo ≤ k at h1; change k < G.hi at h2; omega
  · have := (n5 k (congrArg some e)).2.2; change k < G.lo ∨ G.hi ≤ k at this; change G.lo ≤ k at h1; change k < G.hi at h2; omega
  · exact h.2.nm.one i j k ((conv _ _ _).2 (sub i k ((conv _ _ _).1 hi)).2.2.2) ((conv _ _ _).2 (sub j k ((conv _ _ _).1 hj)).2.2.2)
  · obtain ⟨e3, e4, e5, e⟩ := sub i k ((conv _ _ _).1 hi)
    have e' := (conv _ _ _).2 e
    obtain ⟨h1, h2, h3⟩ := h.2.nm.inM i k e'
    exact ⟨⟨h1, fun hh => e3 (h.2.nm.one i 3 k e' (congrArg some hh)), fun hh => e4 (h.2.nm.one i 4 k e' (congrArg some hh)), fun hh => e5 (h.2.nm.one i 5 k e' (congrArg some hh))⟩, h2, h3⟩
  · rcases hk with hk | hk | hk | hk
    · exact h.2.apt.apart k hk hm.1
    · exact hm.2.1 hk
    · exact hm.2.2.1 hk
    · exact hm.2.2.2 hk
  · rcases hk with hk | hk | hk | hk
    · exact h.2.apt.ltT k hk
    · exact (ls k hk).2
    · exact (la k hk).2
    · exact (ld k hk).2
  · exact Row.mono (Own.row h.2.send) (fun k hk => .inr (.inl hk)) fun y cs _ hy => seK.mono hy hT
  · exact Row.mono (Own.row h.2.ans) (fun k hk => .inr (.inr (.inl hk))) fun y cs _ hy => anK.mono hy hT
  · exact Row.mono (Own.row h.2.done) (fun k hk => .inr (.inr (.inr hk))) fun y cs _ hy => Tr.cmK.mono hy hT
theorem Ext.rest (h : Ext w T M w' T' M') (hx : XAt w' T' M' z p x o G) (hz : w.heap.size ≤ z) : Ext w T M w' (told T' G) (untold M' G) :=
  ⟨h.upd, fun k hk => .inl (h.keep k hk), fun k hk => by
    rcases hk with hk | hk | hk | hk
    · exact h.newT k hk
    · exact .inr (by have := (Own.lt hx.2.send k hk).1; omega)
    · exact .inr (by have := (Own.lt hx.2.ans k hk).1; omega)
    · exact .inr (by have := (Own.lt hx.2.done k hk).1; omega), fun k hk => h.newM k hk.1⟩
end
/-- Behind a step: at rest, and what it told. -/
def Stepped (w : World) (T M : Nat → Prop) (p : Nat) (s : SO) (v : Value) (w' : World) : Prop :=
  ∃ T' M' G' sv av dv, v = .agg #[sv, av, dv] ∧ XIdle w' T' M' p s.1 G' ∧ Ext w T M w' T' M' ∧ seK.row w' T' sv s.2.send ∧ anK.row w' T' av s.2.ans ∧ cmK.row w' T' dv s.2.done
abbrev TOu : TypeId := 84
theorem ret_ou {fn : Func} {q : Tmp} {B : Nat} {v0 v1 v2 : Value} {W : World} {act : Act} {post : Ending → World → Prop} (hW : W.heap[B]? = some (.cells #[v0, v1, v2] TOu (0, 0)))
    (hfn : fn.results = #[.cell q TOu]) (hp : act.tmps.getD q undef = .pointer (some ⟨B, 0, none⟩)) (hd : act.defers = []) (h : post (.returned (.agg #[v0, v1, v2])) W) : bodyPost Tryz.prog fn post Exit.ret act W := by
  have z0 : W.cell? ⟨B, 0, none⟩ = some v0 := blk_cell hW rfl
  have z1 : W.cell? ⟨B, 1, none⟩ = some v1 := blk_cell hW rfl
  have z2 : W.cell? ⟨B, 2, none⟩ = some v2 := blk_cell hW rfl
  refine bodyPost_ret (v := .agg #[v0, v1, v2]) ?_ hd h
  rw [Kv.results_cell1 hfn, hp]
  go_simp
theorem ret_ou2 {fn : Func} {q u : Tmp} {B : Nat} {v0 v1 v2 y : Value} {W : World} {act : Act} {post : Ending → World → Prop} (hW : W.heap[B]? = some (.cells #[v0, v1, v2] TOu (0, 0)))
    (hfn : fn.results = #[.cell q TOu, .tmp u]) (hp : act.tmps.getD q undef = .pointer (some ⟨B, 0, none⟩)) (hv : act.tmps.getD u undef = y) (hd : act.defers = []) (h : post (.returned (.tuple #[.agg #[v0, v1, v2], y])) W) : bodyPost Tryz.prog fn post Exit.ret act W := by
  have z0 : W.cell? ⟨B, 0, none⟩ = some v0 := blk_cell hW rfl
  have z1 : W.cell? ⟨B, 1, none⟩ = some v1 := blk_cell hW rfl
  have z2 : W.cell? ⟨B, 2, none⟩ = some v2 := blk_cell hW rfl
  refine bodyPost_ret (v := .tuple #[.agg #[v0, v1, v2], y]) ?_ hd h
  rw [results_cell_tmp hfn, hp, hv]
  go_simp
theorem set3 {w : World} {B : Nat} {u0 v1 v2 y0 y1 y2 : Value} {t : TypeId} (h : w.heap[B]? = some (.cells #[u0, v1, v2] t (0, 0))) : (((w.setCell ⟨B, 0, none⟩ y0).setCell ⟨B, 1, none⟩ y1).setCell ⟨B, 2, none⟩ y2).heap[B]? = some (.cells #[y0, y1, y2] t (0, 0)) := by
  have h3 := blk_set (i := 2) (blk_set (i := 1) (blk_set (i := 0) h y0) y1) y2
  simpa only [List.setIfInBounds_toArray, List.set_cons_succ, List.set_cons_zero] using h3
theorem upd3 (w : World) (B : Nat) (v0 v1 v2 : Value) : Upd [B] w (((w.setCell ⟨B, 0, none⟩ v0).setCell ⟨B, 1, none⟩ v1).setCell ⟨B, 2, none⟩ v2) :=
  (((Upd.refl [B] w).setCell (p := ⟨B, 0, none⟩) (.inl (by simp)) v0).setCell (p := ⟨B, 1, none⟩) (.inl (by simp)) v1).setCell (p := ⟨B, 2, none⟩) (.inl (by simp)) v2
theorem row_slice {X : Type} {K : Kind X} {w : World} {T : Nat → Prop} {v : Value} {l : List X} (h : K.row w T v l) : ∃ xo c, v = .slice xo l.length c := by
  obtain ⟨xo, c, e, -⟩ := Row.slice h
  exact ⟨xo, c, e⟩
/-- The out's cells. -/
theorem XAt.outs {w : World} {p : Nat} {x : Sg} {G : Gh} (h : w.heap[p]? = some (.cells (sgc x G) TSg (0, 0))) : w.cell? ⟨p, 20, none⟩ = some G.sv ∧ w.cell? ⟨p, 21, none⟩ = some G.av ∧ w.cell? ⟨p, 22, none⟩ = some G.dv ∧ ∀ i, w.frozen? ⟨p, i, none⟩ = false :=
  ⟨blk_cell h rfl, blk_cell h rfl, blk_cell h rfl, fun i => blk_free h⟩
theorem upd3b (w : World) (p : Nat) : Upd [p] w (((w.setCell ⟨p, 20, none⟩ (.slice none 0 0)).setCell ⟨p, 21, none⟩ (.slice none 0 0)).setCell ⟨p, 22, none⟩ (.slice none 0 0)) :=
  (((Upd.refl [p] w).setCell (p := ⟨p, 20, none⟩) (.inl (by simp)) _).setCell (p := ⟨p, 21, none⟩) (.inl (by simp)) _).setCell (p := ⟨p, 22, none⟩) (.inl (by simp)) _
set_option maxRecDepth 100000 in
set_option maxHeartbeats 2000000 in
theorem step_any {T M : Nat → Prop} {p g : Nat} {x : Sg} {G : Gh} {cap : Array Value} {s : SO} (w : World) (h : XIdle w T M p x G) (eg : ∀ args w, (callFunc g args).run Tryz.prog w = .ok (.enter g args) w)
    (hdo : ∀ wx, Upd [p] w wx → XAt wx T M w.heap.size p x Ou.zero G.bare → Ext w T M wx T M → Calls Tryz.prog g cap wx fun e w' => e = .returned (.tuple #[]) ∧ Aft w.heap.size p wx T M s w') :
    Calls Tryz.prog 57 #[.pointer (some ⟨p, 0, none⟩), .func (.func g) #[] cap] w fun e w' => ∃ v, e = .returned v ∧ Stepped w T M p s v w' := by
  have H := hide h
  have HDO := hide hdo
  have hpl := blk_lt h.1
  clear h hdo
  go_enter Tryz.func57, Tryz.ntmps57
  go_upto_region 3 with fail
  have hB := blk_new w (.cells #[.slice none 0 0, .slice none 0 0, .slice none 0 0] TOu)
  have hal := (Upd.refl [] w).alloc (.cells #[.slice none 0 0, .slice none 0 0, .slice none 0 0] TOu)
  generalize w.alloc (.cells #[.slice none 0 0, .slice none 0 0, .slice none 0 0] TOu) = w1 at *
  have N1 : Hid (¬ M w.heap.size ∧ ¬ T w.heap.size) := hide (H.out.2.apt.new (Nat.le_refl _))
  obtain ⟨B, hBn⟩ : ∃ B, w.heap.size = B := ⟨_, rfl⟩
  have HBN := hide hBn
  rw [hBn] at hB hpl N1 ⊢
  have H1 := hide (H.out.upd_nil hal)
  have B1 := hide hB
  have AL := hide hal
  clear hB hal hBn
  obtain ⟨k20, k21, k22, kf⟩ := XAt.outs H1.out.1
  go_upto_region 4 with fail
  clear k20 k21 k22 kf
  have us := upd3b w1 p
  have hb2 : (((w1.setCell ⟨p, 20, none⟩ (.slice none 0 0)).setCell ⟨p, 21, none⟩ (.slice none 0 0)).setCell ⟨p, 22, none⟩ (.slice none 0 0)).heap[p]? = some (.cells (sgc x G.bare) TSg (0, 0)) := blk_set (i := 22) (blk_set (i := 21) (blk_set (i := 20) H1.out.1 (.slice none 0 0)) (.slice none 0 0)) (.slice none 0 0)
  generalize ((w1.setCell ⟨p, 20, none⟩ (.slice none 0 0)).setCell ⟨p, 21, none⟩ (.slice none 0 0)).setCell ⟨p, 22, none⟩ (.slice none 0 0) = w2 at *
  have X2 := hide (show XAt w2 T M B p x Ou.zero G.bare from ⟨hb2, (H1.out.2.rez B).shift us fun k hk => by simp at hk; exact .inl hk⟩)
  have V2 := hide ((AL.out.mono (by simp)).trans us : Upd [p] w w2)
  have E2 := hide (((Ext.of_nil AL.out T M).on us fun k hk => by simp at hk; subst hk; exact .inl H.out.2.pM : Ext w T M w2 T M))
  have B2 := hide (us.get B1.out (by simp; omega))
  clear us hb2
  have hc := HDO.out w2 V2.out (by rw [HBN.out]; exact X2.out) E2.out
  rw [HBN.out] at hc
  have HC := hide hc
  clear hc
  go_wp2_with fail
  refine HC.out.mono ?_
  rintro e w3 ⟨rfl, T3, M3, G3, hX3, hE3⟩
  have X3 := hide hX3; have E3 := hide (E2.out.trans hE3); have B3 := hide (hE3.get B2.out N1.out.1)
  have N3 := hide (hE3.not (blk_lt B2.out) N1.out)
  clear hX3 hE3 X2 V2 E2 B2 HC
  obtain ⟨hI, hS, hA, hD⟩ := X3.out.rest
  obtain ⟨xs, cs, es⟩ := row_slice hS
  obtain ⟨xa, ca, ea⟩ := row_slice hA
  obtain ⟨xd, cd, ed⟩ := row_slice hD
  obtain ⟨k20, k21, k22, kf⟩ := XAt.outs X3.out.1
  rw [es] at k20
  rw [ea] at k21
  rw [ed] at k22
  have b0 : w3.cell? ⟨B, 0, none⟩ = some (.slice none 0 0) := blk_cell B3.out rfl
  have b1 : w3.cell? ⟨B, 1, none⟩ = some (.slice none 0 0) := blk_cell B3.out rfl
  have b2 : w3.cell? ⟨B, 2, none⟩ = some (.slice none 0 0) := blk_cell B3.out rfl
  have bf : ∀ i, w3.frozen? ⟨B, i, none⟩ = false := fun i => blk_free B3.out
  have HI := hide hI; have HS := hide hS; have HA := hide hA; have HD := hide hD; have ES := hide es; have EA := hide ea; have ED := hide ed
  have ER := hide (E3.out.rest X3.out (by rw [HBN.out]; exact Nat.le_refl _))
  rw [es] at hS
  rw [ea] at hA
  rw [ed] at hD
  have HS' := hide hS; have HA' := hide hA; have HD' := hide hD
  clear hI hS hA hD es ea ed
  go_wp2_with fail
  have us := upd3 w3 B (.slice xs s.2.send.length cs) (.slice xa s.2.ans.length ca) (.slice xd s.2.done.length cd)
  have nT : ∀ k ∈ [B], ¬ told T3 G3 k := fun k hk ht => by
    simp at hk; subst hk
    rcases ht with ht | ht | ht | ht
    · exact N3.out.2 ht
    · exact N3.out.1 (X3.out.2.nm.inM 3 _ (congrArg some ht)).1
    · exact N3.out.1 (X3.out.2.nm.inM 4 _ (congrArg some ht)).1
    · exact N3.out.1 (X3.out.2.nm.inM 5 _ (congrArg some ht)).1
  have pB : p ≠ B := by omega
  refine ret_ou (set3 B3.out) rfl rfl rfl ⟨_, rfl, told T3 G3, untold M3 G3, G3, _, _, _, rfl, ⟨us.get HI.out.1 (by simp; exact pB), HI.out.2.shift us fun k hk => .inr ⟨fun hm => ?_, nT k hk⟩⟩, ER.out.on us fun k hk => by simp at hk; subst hk; exact .inr (by rw [HBN.out]; exact Nat.le_refl _), ?_, ?_, ?_⟩
  · simp at hk; subst hk; exact N3.out.1 hm.1
  · exact seK.row_upd HS'.out us nT
  · exact anK.row_upd HA'.out us nT
  · exact Tr.cmK.row_upd HD'.out us nT
end Go.Proofs.YtanjnhohfcgapaaGreatDoor.Sg
