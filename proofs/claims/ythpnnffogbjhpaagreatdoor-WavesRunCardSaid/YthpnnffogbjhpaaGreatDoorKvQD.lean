/- KvQ, KvD in one text. -/
import Derived.Test.YthpnnffogbjhpaaGreatDoorKvN
import Derived.Test.YthpnnffogbjhpaaGreatDoorKvA
import Derived.Test.YthpnnffogbjhpaaGreatDoorKvMJ
import Derived.Test.YthpnnffogbjhpaaGreatDoorCmCK
set_option linter.unusedSimpArgs false
set_option linter.unusedVariables false
set_option linter.unnecessarySimpa false
namespace Go.Proofs.YthpnnffogbjhpaaGreatDoor.Kv
set_option linter.unusedSimpArgs false
set_option linter.unusedVariables false
open Go.RowKit Go.Lib Go.Proofs.YthpnnffogbjhpaaGreatDoor.Crc Go.Proofs.YthpnnffogbjhpaaGreatDoor.Cm
abbrev TFn : TypeId := 100
abbrev TFm : TypeId := 101
def fnV : Option Nat → Value
  | none => .nilFunc
  | some n => .func (.func n) #[] #[]
def fnD (o : Option Nat) : DataW Unit := .lit (.int .u64 (match o with | none => 0 | some n => (n : Int) + 1))
theorem fnD_inj {a b : Option Nat} (h : fnD a = fnD b) : a = b := by
  cases a <;> cases b <;> simp only [fnD, DataW.lit.injEq, Lit.int.injEq, true_and] at h
  · rfl
  · omega
  · omega
  · congr 1; omega
theorem fnV_inj {a b : Option Nat} (h : fnV a = fnV b) : a = b := by
  cases a <;> cases b <;> simp only [fnV, Value.func.injEq, Fn.func.injEq, and_true] at h
  · rfl
  · cases h
  · cases h
  · rw [h]
open Classical in
noncomputable def fnR (v : Value) : Option (DataW Unit × List MemPlace) := if h : ∃ x, v = fnV x then some (fnD h.choose, []) else none
theorem fnR_mk (x : Option Nat) : fnR (fnV x) = some (fnD x, []) := by
  have h : ∃ y, fnV x = fnV y := ⟨x, rfl⟩
  unfold fnR
  rw [dif_pos h, ← fnV_inj h.choose_spec]
theorem fnR_inv {v : Value} {a : Option Nat} {ps : List MemPlace} (h : fnR v = some (fnD a, ps)) : v = fnV a := by
  unfold fnR at h
  split at h
  · rename_i hx
    simp only [Option.some.injEq, Prod.mk.injEq] at h
    rw [← fnD_inj h.1]
    exact hx.choose_spec
  · cases h
theorem zeroFn (w : World) : (zeroValue TFn).run Tryz.prog w = .ok (fnV none) w := Tryz.zeroValue100 w
noncomputable def fnK : MapKind Tryz.prog Nat (Option Nat) where
  t := TFm
  kt := 5
  et := TFn
  K := numK .u8
  kv n := .int .u8 (n : Int)
  ev := fnV
  okk n := n < 256
  oke _ := True
  dat := fnD
  R := fnR
  z := none
  ht := Tryz.underlying101
  keyed := Maps.int_keyed Tryz.underlying5
  hkey {k} h := by
    exact Maps.keyOf_int_mk Tryz.underlying5 (WalkArith.wf_u8 (by omega))
  hR {a} _ := fnR_mk a
  inv {v a ps} h := fnR_inv h
  okz := trivial
  hz := zeroFn
def kindsL : List (Nat × Option Nat) := [(1, some 81), (2, some 82), (3, some 83), (4, some 84), (5, some 85), (6, some 86), (7, some 87), (8, some 88)]
theorem fn_store {w w0 : World} {g n f : Nat} {z : Int} {l : List (Nat × Option Nat)} (h : fnK.is w g l) (hz : z = (n : Int)) (hn : n < 256) (hl : l.length < 1000) (hu : Upd [g] w0 w) :
    ∃ w', (Instr.mapUpdate 101 (.map (some g)) (.int .u8 z) (.func (.func f) #[] #[])).run Tryz.prog w = .ok () w' ∧ fnK.is w' g (mput (numK .u8) l n (some f)) ∧ Upd [g] w0 w' := by
  subst hz
  obtain ⟨w', h1, h2, h3⟩ := MapKind.store h (k := n) (v := some f) hn trivial (by unfold maxLen; omega)
  exact ⟨w', h1, h2, hu.trans h3⟩
set_option maxRecDepth 100000 in
set_option maxHeartbeats 1000000 in
theorem kinds_any (w : World) : Calls Tryz.prog 51 #[] w fun e w' => e = .returned (.map (some w.heap.size)) ∧ fnK.is w' w.heap.size kindsL ∧ Upd [] w w' := by
  have hmm := @run_makeMap Tryz.prog
  obtain ⟨w0, hw0⟩ : ∃ w0, w0 = w.alloc (.map #[] 0) := ⟨_, rfl⟩
  have hu0 : Upd [] w w0 := by rw [hw0]; exact (Upd.refl [] w).alloc _
  have h0 : fnK.is w0 w.heap.size [] := by rw [hw0]; exact MapKind.is_new fnK w
  have hv : Upd [w.heap.size] w w0 := hu0.mono (by simp)
  obtain ⟨w1, r1, h1, u1⟩ := fn_store (n := 1) (z := 1) (f := 81) h0 rfl (by omega) (by simp) hv
  obtain ⟨w2, r2, h2, u2⟩ := fn_store (n := 2) (z := 2) (f := 82) h1 rfl (by omega) (by decide) u1
  obtain ⟨w3, r3, h3, u3⟩ := fn_store (n := 3) (z := 3) (f := 83) h2 rfl (by omega) (by decide) u2
  obtain ⟨w4, r4, h4, u4⟩ := fn_store (n := 4) (z := 4) (f := 84) h3 rfl (by omega) (by decide) u3
  obtain ⟨w5, r5, h5, u5⟩ := fn_store (n := 5) (z := 5) (f := 85) h4 rfl (by omega) (by decide) u4
  obtain ⟨w6, r6, h6, u6⟩ := fn_store (n := 6) (z := 6) (f := 86) h5 rfl (by omega) (by decide) u5
  obtain ⟨w7, r7, h7, u7⟩ := fn_store (n := 7) (z := 7) (f := 87) h6 rfl (by omega) (by decide) u6
  obtain ⟨w8, r8, h8, u8⟩ := fn_store (n := 8) (z := 8) (f := 88) h7 rfl (by omega) (by decide) u7
  have H8 := hide (show fnK.is w8 w.heap.size kindsL from h8)
  have U8 := hide u8
  clear h0 h1 h2 h3 h4 h5 h6 h7 h8 u1 u2 u3 u4 u5 u6 u7 u8 hu0 hv
  rw [hw0] at r1
  go_enter Tryz.func51, Tryz.ntmps51
  go_wp2_with fail
  go_ret
  exact ⟨rfl, H8.out, by have := (Upd.refl [] w).trans_new U8.out (fun k hk => .inr (by simp at hk; omega)); exact this⟩
end Go.Proofs.YthpnnffogbjhpaaGreatDoor.Kv
namespace Go.Proofs.YthpnnffogbjhpaaGreatDoor.Kv
set_option linter.unusedSimpArgs false
set_option linter.unusedVariables false
open Go.RowKit Go.Lib Go.Proofs.YthpnnffogbjhpaaGreatDoor.Crc Go.Proofs.YthpnnffogbjhpaaGreatDoor.Cm

/-- What a command's own function does. -/
def DoIs (f : Nat) (m : KM) (c : Cm) : Prop :=
  ∀ (T : Nat → Prop) (v : Value) (b g : Nat) (w : World), EnvAt w → StIs w b g m → CmAt w T v c →
    Calls Tryz.prog f #[.pointer (some ⟨b, 0, none⟩), v] w fun e w' => e = .returned (rpv (doM m c).2) ∧ StIs w' b g (doM m c).1 ∧ Upd [g] w w'
theorem kind_fn {m : KM} {c : Cm} (hk : Cm.Good c) (hm : KvOk m) (hl : m.length ≤ 900000) : ∃ f, mfind kindsL c.kind = some (some f) ∧ (∀ args w, (callFunc f args).run Tryz.prog w = .ok (.enter f args) w) ∧ DoIs f m c := by
  have h8 : c.kind = 1 ∨ c.kind = 2 ∨ c.kind = 3 ∨ c.kind = 4 ∨ c.kind = 5 ∨ c.kind = 6 ∨ c.kind = 7 ∨ c.kind = 8 := by
    have := hk.2.1; have := hk.2.2.1; omega
  have hl' : m.length ≤ 1000000 := by omega
  rcases h8 with h | h | h | h | h | h | h | h
  · refine ⟨81, by rw [h]; rfl, enters_of Tryz.func81 (by kernel_rfl) rfl, ?_⟩
    intro T v b g w he hs hc
    rw [show doM m c = (mput strK m (keyA c) c.new, ⟨0, []⟩) by simp only [doM, h]]
    exact put_any w hs hc hk hl'
  · refine ⟨82, by rw [h]; rfl, enters_of Tryz.func82 (by kernel_rfl) rfl, ?_⟩
    intro T v b g w he hs hc
    rw [show doM m c = (m, getM m (keyA c)) by simp only [doM, h]]
    exact (get_any w hs hc hk).mono fun e w' ⟨h1, h2⟩ => ⟨h1, hs.upd_nil h2, h2.mono (by simp)⟩
  · refine ⟨83, by rw [h]; rfl, enters_of Tryz.func83 (by kernel_rfl) rfl, ?_⟩
    intro T v b g w he hs hc
    rw [show doM m c = (mdel m (keyA c), getM m (keyA c)) by simp only [doM, h]]
    exact del_any w hs hc hk
  · refine ⟨84, by rw [h]; rfl, enters_of Tryz.func84 (by kernel_rfl) rfl, ?_⟩
    intro T v b g w he hs hc
    rw [show doM m c = addM m (keyA c) c.n by simp only [doM, h]]
    exact add_any w he hs hm hc hk hl'
  · refine ⟨85, by rw [h]; rfl, enters_of Tryz.func85 (by kernel_rfl) rfl, ?_⟩
    intro T v b g w he hs hc
    rw [show doM m c = casM m (keyA c) c.old c.new by simp only [doM, h]]
    exact cas_any w hs hc hk hl'
  · refine ⟨86, by rw [h]; rfl, enters_of Tryz.func86 (by kernel_rfl) rfl, ?_⟩
    intro T v b g w he hs hc
    rw [show doM m c = (swapM m (keyA c) (keyB c), ⟨0, []⟩) by simp only [doM, h]]
    exact swap_any w hs hc hk h hm hl
  · refine ⟨87, by rw [h]; rfl, enters_of Tryz.func87 (by kernel_rfl) rfl, ?_⟩
    intro T v b g w he hs hc
    rw [show doM m c = (m, ⟨0, joinM m c.keys⟩) by simp only [doM, h]]
    exact (join_any w hs hm hc hk).mono fun e w' ⟨h1, h2⟩ => ⟨h1, hs.upd_nil h2, h2.mono (by simp)⟩
  · refine ⟨88, by rw [h]; rfl, enters_of Tryz.func88 (by kernel_rfl) rfl, ?_⟩
    intro T v b g w he hs hc
    rw [show doM m c = (delsM m c.keys, ⟨0, Lib.itoa ((m.length : Int) - ((delsM m c.keys).length : Int))⟩) by simp only [doM, h]]
    exact clear_any w he hs hc hk hl'
theorem cell7 {wx : World} {B : Nat} {c : Cm} {xo : Option Addr} {n cp : Nat} (h : wx.heap[B]? = some (.cells (cmc c (.slice xo n cp)).toArray TCmd (0, 0))) :
    wx.cell? ⟨B, 0, none⟩ = some (.int .u32 (c.client : Int)) ∧ wx.cell? ⟨B, 1, none⟩ = some (.int .u32 (c.seq : Int)) ∧ wx.cell? ⟨B, 2, none⟩ = some (.int .u8 (c.kind : Int)) ∧ wx.cell? ⟨B, 3, none⟩ = some (.slice xo n cp) ∧
    wx.cell? ⟨B, 4, none⟩ = some (.string (strOf c.old)) ∧ wx.cell? ⟨B, 5, none⟩ = some (.string (strOf c.new)) ∧ wx.cell? ⟨B, 6, none⟩ = some (.int .i64 c.n) :=
  ⟨blk_cell h rfl, blk_cell h rfl, blk_cell h rfl, blk_cell h rfl, blk_cell h rfl, blk_cell h rfl, blk_cell h rfl⟩
set_option maxRecDepth 100000 in
set_option maxHeartbeats 4000000 in
theorem do_any {T : Nat → Prop} {v : Value} {c : Cm} {b g : Nat} {m : KM} (w : World) (he : EnvAt w) (h : StIs w b g m) (hm : KvOk m) (hc : CmAt w T v c) (hl : m.length ≤ 900000) :
    Calls Tryz.prog 18 #[.pointer (some ⟨b, 0, none⟩), v] w fun e w' => e = .returned (rpv (kvDo m c).2) ∧ StIs w' b g (kvDo m c).1 ∧ Upd [g] w w' := by
  obtain ⟨fit, ks, rfl, hks⟩ := hc
  obtain ⟨xo, cp, rfl, h1, h2, hget⟩ := hks.get
  obtain ⟨r, hr⟩ : ∃ r, kvDo m c = r := ⟨_, rfl⟩
  rw [hr]
  have ENV := hide he; have ST := hide h; have OK := hide hm; have KS := hide hks; have FIT := hide fit; have HR := hide hr
  have hgl := MapKind.is_lt h.map
  have hbl := blk_lt h.blk
  simp only [maxLen] at h2
  clear h hm hget hks fit hr he
  unfold cmv
  simp only [strV]
  go_enter Tryz.func18, Tryz.ntmps18
  go_upto_region 1 with fail
  have hB := blk_alloc (blk_new w (.cells (cmc c (.slice xo c.keys.length cp)).toArray TCmd)) (.cells #[.int .u8 0, .string ⟨#[]⟩] TRp)
  have hR := blk_new (w.alloc (.cells (cmc c (.slice xo c.keys.length cp)).toArray TCmd)) (.cells #[.int .u8 0, .string ⟨#[]⟩] TRp)
  have hu := ((Upd.refl [] w).alloc (.cells (cmc c (.slice xo c.keys.length cp)).toArray TCmd)).alloc (.cells #[.int .u8 0, .string ⟨#[]⟩] TRp)
  simp only [World.size_alloc] at hR
  have hsz : ((w.alloc (.cells (cmc c (.slice xo c.keys.length cp)).toArray TCmd)).alloc (.cells #[.int .u8 0, .string ⟨#[]⟩] TRp)).heap.size = w.heap.size + 2 := by simp
  change Code.wp _ _ _ _ ((w.alloc (.cells (cmc c (.slice xo c.keys.length cp)).toArray TCmd)).alloc (.cells #[.int .u8 0, .string ⟨#[]⟩] TRp))
  generalize (w.alloc (.cells (cmc c (.slice xo c.keys.length cp)).toArray TCmd)).alloc (.cells #[.int .u8 0, .string ⟨#[]⟩] TRp) = w1 at *
  have CB := hide hB; have CR := hide hR; have U1 := hide hu; have S1 := hide (ST.out.upd_nil hu)
  obtain ⟨B, hBs⟩ : ∃ B, w.heap.size = B := ⟨_, rfl⟩
  have KB := hide hBs
  rw [hBs] at hsz CB CR ⊢
  have hneB : B ≠ g := by have := KB.out; omega
  have hneR : B + 1 ≠ g := by have := KB.out; omega
  clear hB hR hu hBs
  obtain ⟨b0, b1, b2, b3, b4, b5, b6⟩ := cell7 CB.out
  have hck := check_any (c := c) (T := T) (v := cmv c (.slice xo c.keys.length cp)) w1 (ENV.out.upd_nil U1.out).cnt ⟨FIT.out, _, rfl, KS.out.upd_nil U1.out⟩
  simp only [cmv, strV] at hck
  have HCK := hide hck
  clear hck
  go_wp2_with fail
  refine HCK.out.mono ?_
  rintro e w2 ⟨hu2, rfl⟩
  have CB2 := hide (hu2.get CB.out (by simp)); have CR2 := hide (hu2.get CR.out (by simp)); have U2 := hide (U1.out.trans hu2); have S2 := hide (S1.out.upd_nil hu2)
  have hsz2 := hu2.size
  clear hu2 b0 b1 b2 b3 b4 b5 b6 HCK
  by_cases hg : Cm.Good c
  · have hck : checkM c = 0 := by unfold checkM; rw [if_pos hg]
    rw [hck]
    have GD := hide hg
    clear hck hg
    go_upto_region 3 with fail
    have s0 : (w2.drewN 1).heap[B]? = some (.cells (cmc c (.slice xo c.keys.length cp)).toArray TCmd (0, 0)) := CB2.out
    refine wp_region_z (fun wx => wx.heap[B]? = some (.cells (cmc c (.slice xo c.keys.length cp)).toArray TCmd (0, 0))) 99 (by kernel_rfl) ?_
    refine zE 1 rfl (by kernel_rfl) (fun _ _ _ _ h => h) rfl (by exact s0) ?_
    apply Exists.intro
    refine ⟨fun wx hS => ?_, ?_⟩
    · go_simp; rfl
    simp only [Act.put, zz1, zz2, zz3, zz4, zz5, zz6]
    refine zE 2 rfl (by kernel_rfl) (fun _ _ _ _ h => h) rfl (by exact s0) ?_
    apply Exists.intro
    refine ⟨fun wx hS => ?_, ?_⟩
    · have c0 : wx.cell? ⟨B, 2, none⟩ = some (.int .u8 (c.kind : Int)) := (cell7 hS).2.2.1; go_simp; rfl
    simp only [Act.put, zz1, zz2, zz3, zz4, zz5, zz6]
    refine zE 4 rfl (by kernel_rfl) (fun _ _ _ _ h => h) rfl (by exact s0) ?_
    apply Exists.intro
    refine ⟨fun wx hS => ?_, ?_⟩
    · go_simp; rfl
    simp only [Act.put, zz1, zz2, zz3, zz4, zz5, zz6]
    refine zE 5 rfl (by kernel_rfl) (fun _ _ _ _ h => h) rfl (by exact s0) ?_
    apply Exists.intro
    refine ⟨fun wx hS => ?_, ?_⟩
    · obtain ⟨b0, b1, b2, b3, b4, b5, b6⟩ := cell7 hS; go_simp; rfl
    simp only [Act.put, zz1, zz2, zz3, zz4, zz5, zz6]
    refine wpAnyZ_one 0 (by kernel_rfl) rfl rfl (fun K hK => ?_)
    try simp only [List.getElem_toArray, List.getElem_cons_succ, List.getElem_cons_zero]
    go_simp
    refine (kinds_any (w2.drewN 1)).mono ?_
    rintro e w3 ⟨rfl, hf3, hu3⟩
    have F3 := hide hf3; have s1 := hu3.get s0 (by simp)
    have U3 := hide ((U2.out.drewN 1).trans hu3); have S3 := hide (S2.out.upd_nil (((Upd.refl [] w2).drewN 1).trans hu3)); have CR3 := hide ((((Upd.refl [] w2).drewN 1).trans hu3).get CR2.out (by simp))
    have hsz3 := hu3.size
    have hszd : (w2.drewN 1).heap.size = w2.heap.size := rfl
    clear hf3 hu3
    refine hK _ _ (.inr s1) ?_
    clear hK K
    try simp only [Act.put, zz1, zz2, zz3]
    have C3 := hide s1
    clear s0 s1
    obtain ⟨f, hf, hen, hD⟩ := kind_fn GD.out OK.out hl
    have FF := hide hD
    have hlk : ∀ wx, Upd [g, B + 1] w3 wx → (Instr.lookup 101 (.map (some w2.heap.size)) (.int .u8 (c.kind : Int)) false).run Tryz.prog wx = .ok (.func (.func f) #[] #[]) wx := fun wx h => by
      have := MapKind.look1 (MapKind.is_upd F3.out h (by have := KB.out; simp; omega)) (k := c.kind) (by have := GD.out.2.2.1; show c.kind < 256; omega)
      rw [hf] at this
      exact this
    have LK := hide hlk
    clear hlk hf hD
    refine wpAnyZ_strong (S' := fun wx => Upd [g, B + 1] w3 wx) (fun wx h => h.get C3.out (by simp; omega)) _ _ _ _ ?_
    have s1 : Upd [g, B + 1] w3 w3 := Upd.refl _ _
    refine zE 3 rfl (by kernel_rfl) (fun _ _ _ _ h => h) rfl (by exact s1) ?_
    apply Exists.intro
    refine ⟨fun wx hS => ?_, ?_⟩
    · have c0 := LK.out wx hS; go_simp; rfl
    simp only [Act.put, zz1, zz2, zz3, zz4, zz5, zz6]
    refine wpAnyZ_one 6 (by kernel_rfl) rfl rfl (fun K hK => ?_)
    try simp only [List.getElem_toArray, List.getElem_cons_succ, List.getElem_cons_zero]
    go_simp
    have hdo := FF.out T (cmv c (.slice xo c.keys.length cp)) b g w3 (ENV.out.upd_nil U3.out) S3.out ⟨FIT.out, _, rfl, KS.out.upd_nil U3.out⟩
    rw [show doM m c = r by rw [← HR.out]; unfold kvDo; rw [if_pos GD.out]] at hdo
    simp only [cmv, strV] at hdo
    refine hdo.mono ?_
    rintro e w4 ⟨rfl, hs4, hu4⟩
    unfold rpv
    have S4 := hide hs4; have U4 := hide ((U3.out.mono (by simp)).trans hu4); have CR4 := hide (hu4.get CR3.out (by simpa using hneR))
    have hv4 : Upd [g, B + 1] w3 w4 := hu4.mono (by simp)
    have V4 := hide hv4
    clear hs4 hu4 hdo
    refine hK _ _ (.inr hv4) ?_
    clear hK K
    try simp only [Act.put, zz1, zz2, zz3]
    clear hv4 s1
    refine wpAnyZ_one 7 (by kernel_rfl) rfl rfl (fun K hK => ?_)
    try simp only [List.getElem_toArray, List.getElem_cons_succ, List.getElem_cons_zero]
    obtain ⟨z0, z1, f0, f1, z2, f2⟩ := res_facts CR4.out
    go_simp
    have hW := upd2 w4 (B + 1) (.int .u8 (r.2.code : Int)) (.string (strOf r.2.text))
    refine hK _ _ (.inr (V4.out.trans (hW.mono (by simp)))) ?_
    clear hK K
    try simp only [Act.put, zz1, zz2, zz3]
    refine wpAnyZ_done (by kernel_rfl) ?_ _
    clear z0 z1 f0 f1 z2 f2
    go_wp2_with fail
    have hBs := KB.out
    exact ret_rp (stored2 CR4.out) rfl rfl rfl ⟨rfl, S4.out.upd hW (by simp; omega) (by simp; omega), U4.out.trans_new hW (fun k hk => .inr (by simp at hk; omega))⟩
  · have hck : checkM c = 1 := by unfold checkM; rw [if_neg hg]
    rw [hck]
    have hrr : r = (m, ⟨2, []⟩) := by rw [← HR.out]; unfold kvDo; rw [if_neg hg]
    have HG := hide hrr
    obtain ⟨z0, z1, f0, f1, z2, f2⟩ := res_facts CR2.out
    clear hck hrr hg
    go_wp2_with fail
    have hW := upd2 w2 (B + 1) (.int .u8 2) (.string ⟨#[]⟩)
    have hBs := KB.out
    exact ret_rp (stored2 CR2.out) rfl rfl rfl ⟨by rw [HG.out]; rfl, by rw [HG.out]; exact S2.out.upd hW (by simp; omega) (by simp; omega), (U2.out.mono (by simp)).trans_new hW (fun k hk => .inr (by simp at hk; omega))⟩
end Go.Proofs.YthpnnffogbjhpaaGreatDoor.Kv
