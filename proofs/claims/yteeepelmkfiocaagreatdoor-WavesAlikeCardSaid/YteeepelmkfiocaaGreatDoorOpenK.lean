/- Arguments that are rows of commands, opened. -/
import Derived.Test.YteeepelmkfiocaaGreatDoorOpenG
import Derived.Test.YteeepelmkfiocaaGreatDoorKvR
import Derived.Test.YteeepelmkfiocaaGreatDoorLawBytes
namespace Go.Proofs.YteeepelmkfiocaaGreatDoor.Kv
open Go.ChangeShapes Go.WideShapes Go.ChangeAt Go.RowKit Go.Deep Go.Proofs.YteeepelmkfiocaaGreatDoor.Crc Go.Proofs.YteeepelmkfiocaaGreatDoor.Cm

section
variable {H : Type} {enc : TypeId × Value → H} {w : World} {n : Nat} {cs : List Value} {y : DataW H × List MemPlace}
theorem open_int1 {t : TypeId} {k : IntKind} (ht : Tryz.prog.underlying t = some (.int k)) (h : DataW.trod enc Tryz.prog w 0 (fun _ => true) true n t cs = some y) : ∃ m, cs = [.int k m] ∧ (Lit.int k m).wf = true := by
  obtain ⟨m, h1, -, h2⟩ := DataW.trod_int ht h
  exact ⟨m, h1, h2⟩
theorem open_str1 {t : TypeId} (ht : Tryz.prog.underlying t = some .string) (h : DataW.trod enc Tryz.prog w 0 (fun _ => true) true n t cs = some y) (hl : Light Tryz.prog t y.1) : ∃ k : List UInt8, cs = [strV k] ∧ k.length ≤ reachBytes := by
  obtain ⟨s, h1, h2, -⟩ := DataW.trod_string ht h
  rw [h2] at hl
  refine ⟨s.data.toList, by rw [h1]; simp [strV, strOf], ?_⟩
  exact hl _ (by simp [DataW.weights])
theorem each_one {X : Type} {R : X → Prop} {f : X → Value} {l : List X} {css : List (List Value)} (h : Each (fun x cs => cs = [f x] ∧ R x) l css) : css.flatten = l.map f ∧ ∀ x ∈ l, R x := by
  induction h with
  | nil => simp
  | cons h1 _ ih =>
    obtain ⟨rfl, h2⟩ := h1
    refine ⟨by simp [ih.1], fun x hx => ?_⟩
    rcases List.mem_cons.1 hx with rfl | hx
    · exact h2
    · exact ih.2 x hx
theorem open_strs {v : Value} (h : DataW.trod enc Tryz.prog w 0 (fun _ => true) true n 42 [v] = some y) (hl : Light Tryz.prog 42 y.1) :
    ∃ l : List (List UInt8), Strs w (fun k => k < w.heap.size) v l ∧ l.length * 16 ≤ reachBytes ∧ ∀ k ∈ l, k.length ≤ reachBytes := by
  obtain ⟨l, ⟨xo, c, css, e, h1, h2, h3, h4, h5, h6⟩, hb⟩ := open_row (X := List UInt8) (Q := fun x cs => cs = [strV x] ∧ x.length ≤ reachBytes) Tryz.underlying42 (z := 1) (by kernel_rfl) (by decide) (fun n cs y hy hly _ => by
    obtain ⟨k, e, hk⟩ := open_str1 (by kernel_rfl) hy hly
    exact ⟨k, ⟨e, hk⟩, by subst e; simp [strV, Value.oneCell']⟩) h hl
  obtain ⟨k1, k2⟩ := each_one h1
  rw [k1] at h3
  have hby : Tryz.prog.bytesOf 9 = 16 := by kernel_rfl
  rw [hby] at hb
  exact ⟨l, ⟨xo, c, e, h3, h4, h5, h6⟩, hb, k2⟩
theorem open_fields {t : TypeId} {fs : Array Field} (ht : Tryz.prog.underlying t = some (.struct fs)) (h : DataW.trod enc Tryz.prog w 0 (fun _ => true) true n t cs = some y) (hl : Light Tryz.prog t y.1) :
    cs.length = Tryz.prog.cellsOf t ∧ ∃ m, ∀ (i : Nat) (f : Field) (ty : TypeId) (o z : Nat), fs[i]? = some f → f.type = ty → f.offset = o → Tryz.prog.cellsOf ty = z → ∃ u, DataW.trod enc Tryz.prog w 0 (fun _ => true) true m ty ((cs.drop o).take z) = some u ∧ Light Tryz.prog ty u.1 := by
  obtain ⟨ys, m, -, e, hlen, hyl, hf⟩ := DataW.trod_struct ht h
  refine ⟨hlen, m, ?_⟩
  rintro i f ty o z hi rfl rfl rfl
  have h1 := hf i f hi
  have hi' : i < ys.length := by have := (Array.getElem?_eq_some_iff.1 hi).1; omega
  refine ⟨ys[i], h1.trans (List.getElem?_eq_getElem hi'), ?_⟩
  rw [e] at hl
  exact hl.part ht hi (by rw [List.getElem?_map, List.getElem?_eq_getElem hi']; rfl)
theorem row_split {X : Type} {w : World} {T : Nat → Prop} {z : Nat} {P : X → List Value → Prop} {R : X → Prop} {v : Value} {l : List X} (h : Row w T z (fun x cs => P x cs ∧ R x) v l) : Row w T z P v l ∧ ∀ x ∈ l, R x := by
  refine ⟨h.mono (fun _ h => h) fun _ _ _ h => h.1, fun x hx => ?_⟩
  obtain ⟨xo, c, css, -, -, -, he, -⟩ := Row.src h
  obtain ⟨i, hi⟩ := List.mem_iff_getElem?.1 hx
  obtain ⟨cs, -, h1⟩ := he.get hi
  exact h1.2
theorem int_nat {k : IntKind} {m : Int} {b : Nat} (hk : ∀ m, (Lit.int k m).wf = true → 0 ≤ m ∧ m < b) (h : (Lit.int k m).wf = true) : ∃ j : Nat, m = j ∧ j < b := by
  obtain ⟨h1, h2⟩ := hk m h
  obtain ⟨j, rfl⟩ := Int.eq_ofNat_of_zero_le h1
  exact ⟨j, rfl, by omega⟩
/-- Below the world's end. -/
abbrev Old (w : World) (k : Nat) : Prop := k < w.heap.size
def KeysOk (c : Cm) : Prop := c.keys.length * 16 ≤ 140737488355328
theorem open_cmd (h : DataW.trod enc Tryz.prog w 0 (fun _ => true) true n 44 cs = some y) (hl : Light Tryz.prog 44 y.1) : ∃ c : Cm, cmK.holds w (Old w) c cs ∧ KeysOk c := by
  obtain ⟨hlen, m, H⟩ := open_fields Tryz.underlying44 h hl
  rw [show Tryz.prog.cellsOf 44 = 7 from by kernel_rfl] at hlen
  obtain ⟨c0, c1, c2, c3, c4, c5, c6, rfl⟩ : ∃ c0 c1 c2 c3 c4 c5 c6, cs = [c0, c1, c2, c3, c4, c5, c6] := by
    match cs, hlen with
    | [c0, c1, c2, c3, c4, c5, c6], _ => exact ⟨_, _, _, _, _, _, _, rfl⟩
  obtain ⟨u0, h0, -⟩ := H 0 _ 41 0 1 rfl rfl rfl (by kernel_rfl)
  obtain ⟨u1, h1, -⟩ := H 1 _ 41 1 1 rfl rfl rfl (by kernel_rfl)
  obtain ⟨u2, h2, -⟩ := H 2 _ 5 2 1 rfl rfl rfl (by kernel_rfl)
  obtain ⟨u3, h3, l3⟩ := H 3 _ 42 3 1 rfl rfl rfl (by kernel_rfl)
  obtain ⟨u4, h4, l4⟩ := H 4 _ 9 4 1 rfl rfl rfl (by kernel_rfl)
  obtain ⟨u5, h5, l5⟩ := H 5 _ 9 5 1 rfl rfl rfl (by kernel_rfl)
  obtain ⟨u6, h6, -⟩ := H 6 _ 2 6 1 rfl rfl rfl (by kernel_rfl)
  obtain ⟨m0, e0, w0⟩ := open_int1 (k := .u32) (by kernel_rfl) h0
  obtain ⟨m1, e1, w1⟩ := open_int1 (k := .u32) (by kernel_rfl) h1
  obtain ⟨m2, e2, w2⟩ := open_int1 (k := .u8) (by kernel_rfl) h2
  obtain ⟨ks, hks, hk1, hk2⟩ := open_strs h3 l3
  obtain ⟨k4, e4, b4⟩ := open_str1 (by kernel_rfl) h4 l4
  obtain ⟨k5, e5, b5⟩ := open_str1 (by kernel_rfl) h5 l5
  obtain ⟨m6, e6, w6⟩ := open_int1 (k := .i64) (by kernel_rfl) h6
  simp only [List.drop, List.take, List.cons.injEq, and_true] at e0 e1 e2 e4 e5 e6
  subst e0 e1 e2 e4 e5 e6
  have bb := bounds_u32 w0
  have bb1 := bounds_u32 w1
  have bb2 := bounds_u8 w2
  have bb6 := bounds_i64 w6
  obtain ⟨j0, rfl⟩ := Int.eq_ofNat_of_zero_le bb.1
  obtain ⟨j1, rfl⟩ := Int.eq_ofNat_of_zero_le bb1.1
  obtain ⟨j2, rfl⟩ := Int.eq_ofNat_of_zero_le bb2.1
  have hr : reachBytes ≤ 140737488355328 := by decide
  refine ⟨⟨j0, j1, j2, ks, k4, k5, m6⟩, ⟨⟨by have := bb.2; show j0 < _; omega, by have := bb1.2; show j1 < _; omega, by have := bb2.2; show j2 < _; omega, bb6.1, bb6.2, ?_, ?_, ?_, ?_⟩, c3, rfl, hks⟩, ?_⟩
  · show ks.length ≤ _; omega
  · show k4.length ≤ _; omega
  · show k5.length ≤ _; omega
  · intro k hk; have := hk2 k hk; omega
  · show ks.length * 16 ≤ _; omega
theorem open_cmds {v : Value} (h : DataW.trod enc Tryz.prog w 0 (fun _ => true) true n 22 [v] = some y) (hl : Light Tryz.prog 22 y.1) : ∃ l, cmK.row w (Old w) v l ∧ ∀ c ∈ l, KeysOk c := by
  obtain ⟨l, hr, -⟩ := open_row (X := Cm) (Q := fun c cs => cmK.holds w (Old w) c cs ∧ KeysOk c) Tryz.underlying22 (z := 7) (by kernel_rfl) (by decide) (fun n cs y hy hly _ => by
    obtain ⟨c, hc, hk⟩ := open_cmd hy hly
    exact ⟨c, ⟨hc, hk⟩, cmK.one hc⟩) h hl
  exact ⟨l, row_split hr⟩
end
end Go.Proofs.YteeepelmkfiocaaGreatDoor.Kv
