/- The kinds of sets: stable.does. -/
import Derived.Test.YtekbhfpdakhhkaaGreatDoorStK
namespace Go.Proofs.YtekbhfpdakhhkaaGreatDoor.St
set_option linter.unusedSimpArgs false
set_option linter.unusedVariables false
open Go.RowKit Go.ChangeMaps Go.WideShapes

abbrev TFn : TypeId := 85
abbrev TFm : TypeId := 86
def fnV : Option Nat → Value
  | none => .nilFunc
  | some n => .func (.func n) #[] #[]
def fnD (o : Option Nat) : DataW Unit := .lit (.int .u64 (match o with | none => 0 | some n => (n : Int) + 1))
theorem fnD_inj {a b : Option Nat} (h : fnD a = fnD b) : a = b := by
  cases a <;> cases b <;> simp only [fnD, DataW.lit.injEq, Lit.int.injEq, true_and] at h
  · rfl
  · omega
  · omega
  · congr 1; omega
theorem fnV_inj {a b : Option Nat} (h : fnV a = fnV b) : a = b := by
  cases a <;> cases b <;> simp only [fnV, Value.func.injEq, Fn.func.injEq, and_true] at h
  · rfl
  · cases h
  · cases h
  · rw [h]
open Classical in
noncomputable def fnR (v : Value) : Option (DataW Unit × List MemPlace) := if h : ∃ x, v = fnV x then some (fnD h.choose, []) else none
theorem fnR_mk (x : Option Nat) : fnR (fnV x) = some (fnD x, []) := by
  have h : ∃ y, fnV x = fnV y := ⟨x, rfl⟩
  unfold fnR
  rw [dif_pos h, ← fnV_inj h.choose_spec]
theorem fnR_inv {v : Value} {a : Option Nat} {ps : List MemPlace} (h : fnR v = some (fnD a, ps)) : v = fnV a := by
  unfold fnR at h
  split at h
  · rename_i hx
    simp only [Option.some.injEq, Prod.mk.injEq] at h
    rw [← fnD_inj h.1]
    exact hx.choose_spec
  · cases h
theorem zeroFn (w : World) : (zeroValue TFn).run Tryz.prog w = .ok (fnV none) w := Tryz.zeroValue85 w
noncomputable def fnK : MapKind Tryz.prog Nat (Option Nat) where
  t := TFm
  kt := 23
  et := TFn
  K := numK .u64
  kv n := .int .u64 (n : Int)
  ev := fnV
  okk n := n < 18446744073709551616
  oke _ := True
  dat := fnD
  R := fnR
  z := none
  ht := Tryz.underlying86
  keyed := Maps.int_keyed Tryz.underlying23
  hkey {k} h := by
    exact Maps.keyOf_int_mk Tryz.underlying23 (WalkArith.wf_u64 (by omega))
  hR {a} _ := fnR_mk a
  inv {v a ps} h := fnR_inv h
  okz := trivial
  hz := zeroFn
def kindsL : List (Nat × Option Nat) := [(1, some 68), (2, some 69), (3, some 70)]
theorem fn_store {w w0 : World} {g n f : Nat} {z : Int} {l : List (Nat × Option Nat)} (h : fnK.is w g l) (hz : z = (n : Int)) (hn : n < 18446744073709551616) (hl : l.length < 1000) (hu : Upd [g] w0 w) :
    ∃ w', (Instr.mapUpdate 86 (.map (some g)) (.int .u64 z) (.func (.func f) #[] #[])).run Tryz.prog w = .ok () w' ∧ fnK.is w' g (mput (numK .u64) l n (some f)) ∧ Upd [g] w0 w' := by
  subst hz
  obtain ⟨w', h1, h2, h3⟩ := MapKind.store h (k := n) (v := some f) hn trivial (by unfold maxLen; omega)
  exact ⟨w', h1, h2, hu.trans h3⟩
set_option maxRecDepth 100000 in
set_option maxHeartbeats 1000000 in
theorem does_any (w : World) : Calls Tryz.prog 36 #[] w fun e w' => e = .returned (.map (some w.heap.size)) ∧ fnK.is w' w.heap.size kindsL ∧ Upd [] w w' := by
  have hmm := @run_makeMap Tryz.prog
  obtain ⟨w0, hw0⟩ : ∃ w0, w0 = w.alloc (.map #[] 0) := ⟨_, rfl⟩
  have hu0 : Upd [] w w0 := by rw [hw0]; exact (Upd.refl [] w).alloc _
  have h0 : fnK.is w0 w.heap.size [] := by rw [hw0]; exact MapKind.is_new fnK w
  have hv : Upd [w.heap.size] w w0 := hu0.mono (by simp)
  obtain ⟨w1, r1, h1, u1⟩ := fn_store (n := 1) (z := 1) (f := 68) h0 rfl (by omega) (by simp) hv
  obtain ⟨w2, r2, h2, u2⟩ := fn_store (n := 2) (z := 2) (f := 69) h1 rfl (by omega) (by decide) u1
  obtain ⟨w3, r3, h3, u3⟩ := fn_store (n := 3) (z := 3) (f := 70) h2 rfl (by omega) (by decide) u2
  have H8 := hide (show fnK.is w3 w.heap.size kindsL from h3)
  have U8 := hide u3
  clear h0 h1 h2 h3 u1 u2 u3 hu0 hv
  rw [hw0] at r1
  go_enter Tryz.func36, Tryz.ntmps36
  go_wp2_with fail
  go_ret
  exact ⟨rfl, H8.out, by have := (Upd.refl [] w).trans_new U8.out (fun k hk => .inr (by simp at hk; omega)); exact this⟩

theorem fnV_some (n : Nat) : fnV (some n) = .func (.func n) #[] #[] := rfl
theorem kinds_find (k : Nat) : mfind kindsL k = if k = 1 then some (some 68) else if k = 2 then some (some 69) else if k = 3 then some (some 70) else none := by
  simp only [kindsL, mfind_cons, mfind_nil]
  by_cases h1 : k = 1
  · subst h1; rfl
  · by_cases h2 : k = 2
    · subst h2; rfl
    · by_cases h3 : k = 3
      · subst h3; rfl
      · rw [if_neg (fun e => h1 e.symm), if_neg (fun e => h2 e.symm), if_neg (fun e => h3 e.symm), if_neg h1, if_neg h2, if_neg h3]
end Go.Proofs.YtekbhfpdakhhkaaGreatDoor.St
