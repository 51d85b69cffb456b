/- kv.kinds, State.Len, Get. -/
import Derived.Test.YthpnnffogbjhpaaGreatDoorKvN
set_option linter.unusedSimpArgs false
set_option linter.unusedVariables false
set_option linter.unnecessarySimpa false
namespace Go.Proofs.YthpnnffogbjhpaaGreatDoor.Kv
set_option linter.unusedSimpArgs false
set_option linter.unusedVariables false
open Go.RowKit Go.Lib Go.Proofs.YthpnnffogbjhpaaGreatDoor.Crc Go.Proofs.YthpnnffogbjhpaaGreatDoor.Cm
abbrev TFn : TypeId := 100
abbrev TFm : TypeId := 101
def fnV : Option Nat → Value
  | none => .nilFunc
  | some n => .func (.func n) #[] #[]
def fnD (o : Option Nat) : DataW Unit := .lit (.int .u64 (match o with | none => 0 | some n => (n : Int) + 1))
theorem fnD_inj {a b : Option Nat} (h : fnD a = fnD b) : a = b := by
  cases a <;> cases b <;> simp only [fnD, DataW.lit.injEq, Lit.int.injEq, true_and] at h
  · rfl
  · omega
  · omega
  · congr 1; omega
theorem fnV_inj {a b : Option Nat} (h : fnV a = fnV b) : a = b := by
  cases a <;> cases b <;> simp only [fnV, Value.func.injEq, Fn.func.injEq, and_true] at h
  · rfl
  · cases h
  · cases h
  · rw [h]
open Classical in
noncomputable def fnR (v : Value) : Option (DataW Unit × List MemPlace) := if h : ∃ x, v = fnV x then some (fnD h.choose, []) else none
theorem fnR_mk (x : Option Nat) : fnR (fnV x) = some (fnD x, []) := by
  have h : ∃ y, fnV x = fnV y := ⟨x, rfl⟩
  unfold fnR
  rw [dif_pos h, ← fnV_inj h.choose_spec]
theorem fnR_inv {v : Value} {a : Option Nat} {ps : List MemPlace} (h : fnR v = some (fnD a, ps)) : v = fnV a := by
  unfold fnR at h
  split at h
  · rename_i hx
    simp only [Option.some.injEq, Prod.mk.injEq] at h
    rw [← fnD_inj h.1]
    exact hx.choose_spec
  · cases h
theorem zeroFn (w : World) : (zeroValue TFn).run Tryz.prog w = .ok (fnV none) w := Tryz.zeroValue100 w
noncomputable def fnK : MapKind Tryz.prog Nat (Option Nat) where
  t := TFm
  kt := 5
  et := TFn
  K := numK .u8
  kv n := .int .u8 (n : Int)
  ev := fnV
  okk n := n < 256
  oke _ := True
  dat := fnD
  R := fnR
  z := none
  ht := Tryz.underlying101
  keyed := Maps.int_keyed Tryz.underlying5
  hkey {k} h := by
    exact Maps.keyOf_int_mk Tryz.underlying5 (WalkArith.wf_u8 (by omega))
  hR {a} _ := fnR_mk a
  inv {v a ps} h := fnR_inv h
  okz := trivial
  hz := zeroFn
def kindsL : List (Nat × Option Nat) := [(1, some 81), (2, some 82), (3, some 83), (4, some 84), (5, some 85), (6, some 86), (7, some 87), (8, some 88)]
theorem fn_store {w w0 : World} {g n f : Nat} {z : Int} {l : List (Nat × Option Nat)} (h : fnK.is w g l) (hz : z = (n : Int)) (hn : n < 256) (hl : l.length < 1000) (hu : Upd [g] w0 w) :
    ∃ w', (Instr.mapUpdate 101 (.map (some g)) (.int .u8 z) (.func (.func f) #[] #[])).run Tryz.prog w = .ok () w' ∧ fnK.is w' g (mput (numK .u8) l n (some f)) ∧ Upd [g] w0 w' := by
  subst hz
  obtain ⟨w', h1, h2, h3⟩ := MapKind.store h (k := n) (v := some f) hn trivial (by unfold maxLen; omega)
  exact ⟨w', h1, h2, hu.trans h3⟩
set_option maxRecDepth 100000 in
set_option maxHeartbeats 1000000 in
theorem kinds_any (w : World) : Calls Tryz.prog 51 #[] w fun e w' => e = .returned (.map (some w.heap.size)) ∧ fnK.is w' w.heap.size kindsL ∧ Upd [] w w' := by
  have hmm := @run_makeMap Tryz.prog
  obtain ⟨w0, hw0⟩ : ∃ w0, w0 = w.alloc (.map #[] 0) := ⟨_, rfl⟩
  have hu0 : Upd [] w w0 := by rw [hw0]; exact (Upd.refl [] w).alloc _
  have h0 : fnK.is w0 w.heap.size [] := by rw [hw0]; exact MapKind.is_new fnK w
  have hv : Upd [w.heap.size] w w0 := hu0.mono (by simp)
  obtain ⟨w1, r1, h1, u1⟩ := fn_store (n := 1) (z := 1) (f := 81) h0 rfl (by omega) (by simp) hv
  obtain ⟨w2, r2, h2, u2⟩ := fn_store (n := 2) (z := 2) (f := 82) h1 rfl (by omega) (by decide) u1
  obtain ⟨w3, r3, h3, u3⟩ := fn_store (n := 3) (z := 3) (f := 83) h2 rfl (by omega) (by decide) u2
  obtain ⟨w4, r4, h4, u4⟩ := fn_store (n := 4) (z := 4) (f := 84) h3 rfl (by omega) (by decide) u3
  obtain ⟨w5, r5, h5, u5⟩ := fn_store (n := 5) (z := 5) (f := 85) h4 rfl (by omega) (by decide) u4
  obtain ⟨w6, r6, h6, u6⟩ := fn_store (n := 6) (z := 6) (f := 86) h5 rfl (by omega) (by decide) u5
  obtain ⟨w7, r7, h7, u7⟩ := fn_store (n := 7) (z := 7) (f := 87) h6 rfl (by omega) (by decide) u6
  obtain ⟨w8, r8, h8, u8⟩ := fn_store (n := 8) (z := 8) (f := 88) h7 rfl (by omega) (by decide) u7
  have H8 := hide (show fnK.is w8 w.heap.size kindsL from h8)
  have U8 := hide u8
  clear h0 h1 h2 h3 h4 h5 h6 h7 h8 u1 u2 u3 u4 u5 u6 u7 u8 hu0 hv
  rw [hw0] at r1
  go_enter Tryz.func51, Tryz.ntmps51
  go_wp2_with fail
  go_ret
  exact ⟨rfl, H8.out, by have := (Upd.refl [] w).trans_new U8.out (fun k hk => .inr (by simp at hk; omega)); exact this⟩
end Go.Proofs.YthpnnffogbjhpaaGreatDoor.Kv
