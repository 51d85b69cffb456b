/- LawKit, OpenG, LawEnv, OpenK, LawBytes in one text. -/
import Derived.Test.YthpnnffogbjhpaaGreatDoorBase
import Derived.Test.YthpnnffogbjhpaaGreatDoorRows
import Derived.Test.YthpnnffogbjhpaaGreatDoorGenAll
import Derived.Test.YthpnnffogbjhpaaGreatDoorKvR
import Derived.Test.YthpnnffogbjhpaaGreatDoorCards
import Derived.Test.YthpnnffogbjhpaaGreatDoorTie
import Derived.Test.YthpnnffogbjhpaaGreatDoorKvLV
import Derived.ProofKit
import Derived.OpenShut
import Derived.Deep.Slices
import Derived.Deep.Fields
import Derived.Deep.DeepHandedRow
import Derived.Lib.LaidTab
import Derived.Lay
set_option linter.unusedSimpArgs false
set_option linter.unusedVariables false
set_option linter.unnecessarySimpa false
namespace Go.Proofs.YthpnnffogbjhpaaGreatDoor
open Go.ChangeShapes Go.WideShapes Go.ChangeAt Go.RowKit Go.Deep

theorem Tryz.own : ownKnob Tryz.prog.godebug = none := by kernel_rfl
theorem Tryz.laidOut : laidOutB Tryz.prog = true := by kernel_rfl

section
variable {H : Type} {enc : TypeId × Value → H}
theorem trodAll_below {P : Program} (hl : laidOutB P = true) {W W' : World} (hb : Below W.heap.size W W') : ∀ {ts : List TypeId} {vs : List Value} {ds : List (DataW H)} {ps : List MemPlace},
    (∀ t ∈ ts, P.readableRec t = true ∧ t < P.types.size) → DataW.TrodAll enc P W 0 (fun _ => true) true ts vs ds ps → (∀ x ∈ ps, x.block < W.heap.size) →
    DataW.TrodAll enc P W' 0 (fun b => decide (b < W.heap.size)) true ts vs ds ps
  | [], vs, ds, ps, _, h, _ => by
    obtain ⟨rfl, rfl, rfl⟩ := trodAll_nil h
    exact trodAll_mk0
  | t :: ts, vs, ds, ps, hr, h, hp => by
    obtain ⟨v, vs', d, ds', p, q, rfl, rfl, rfl, h1, h2⟩ := trodAll_cons h
    exact trodAll_cons_mk (Below.trod hl (hr t (by simp)).1 (hr t (by simp)).2 h1 hb (fun x hx => hp x (by simp [hx])))
      (trodAll_below hl hb (fun t' ht => hr t' (by simp [ht])) h2 (fun x hx => hp x (by simp [hx])))

theorem law_post {P : Program} {f : Func} {s : ChangeSpec} {W W' : World} {args : Array Value} {ds gs : List (DataW H)} {before : List MemPlace} {tb : TypeId}
    (hl : laidOutB P = true) (hW : DataW.Whole enc P f.params.toList s.vars false W args.toList ds gs before) (hv : s.vars = [])
    (hfn : s.fn H ds = { results := [.lit (.bool true)], args := ds }) (hrt : f.resultTypes = #[tb]) (hb : P.underlying tb = some .bool)
    (hread : f.params.toList.all (fun t => P.readableRec t && decide (t < P.types.size)) = true) (hu : Upd [] W W') :
    s.post enc P f false true false false W args (.bool true) W' := by
  have hB := hu.below_nil
  have hlt : ∀ x ∈ before, x.block < W.heap.size := fun x hx => hW.lt x hx
  have hW' := hW
  obtain ⟨p, q, hA, hV, rfl, hfz, hnd⟩ := hW
  rw [hv] at hV
  obtain ⟨rfl, rfl⟩ := trodVars_none hV
  simp only [List.append_nil] at hlt hW'
  have hread' : ∀ t ∈ f.params.toList, P.readableRec t = true ∧ t < P.types.size := fun t ht => by
    have := List.all_eq_true.1 hread t ht
    simpa using this
  refine ⟨ds, [], p, [], p, [], hW', ?_, ?_, ?_, hB.frame _, fun h => by cases h⟩
  · simp only [List.append_nil]
    rw [hfn, hrt]
    exact trodAll_mk1 (shut_bool hb true)
  · simp only [List.append_nil]
    rw [hfn]
    exact trodAll_below hl hB hread' hA hlt
  · rw [hv]
    simp only [List.append_nil]
    rw [hfn]
    rfl
-- A slice of structs, opened to its cells (a block of the guide's that is meant to be copied).
end
section
variable {H : Type} {enc : TypeId × Value → H} {P : Program} {w : World} {base : Nat} {spare : Nat → Bool} {held : Bool}
end
section
variable {H : Type} {enc : TypeId × Value → H}
end
end Go.Proofs.YthpnnffogbjhpaaGreatDoor
namespace Go.Proofs.YthpnnffogbjhpaaGreatDoor
open Go.ChangeShapes Go.WideShapes Go.ChangeAt Go.RowKit Go.Deep Go.Proofs.YthpnnffogbjhpaaGreatDoor.Crc

section
variable {H : Type} {enc : TypeId × Value → H} {P : Program} {w : World}
/-- Nothing of it weighs too much. -/
def Light (P : Program) (t : TypeId) (d : DataW H) : Prop := ∀ n ∈ d.weights P t, n ≤ reachBytes
theorem Light.part {t : TypeId} {fs : Array Field} {parts : List (DataW H)} {j : Nat} {f : Field} {d : DataW H} (h : Light P t (.agg parts)) (ht : P.underlying t = some (.struct fs)) (hf : fs[j]? = some f) (hd : parts[j]? = some d) : Light P f.type d := by
  intro n hn
  refine h n ?_
  simp only [DataW.weights, ht]
  exact DataW.weights_mem_each (by simp [hf]) hd n hn
theorem weights_all {e : TypeId} : ∀ {l : List (DataW H)} {d : DataW H}, d ∈ l → ∀ n ∈ d.weights P e, n ∈ DataW.weightsAll P e l
  | d0 :: l, d, hd, n, hn => by
    simp only [DataW.weightsAll, List.mem_append]
    rcases List.mem_cons.1 hd with rfl | hd
    · exact .inl hn
    · exact .inr (weights_all hd n hn)
theorem open_row {X : Type} {Q : X → List Value → Prop} {t e : TypeId} {z fuel : Nat} {v : Value} {y : DataW H × List MemPlace} (ht : P.underlying t = some (.slice e)) (hz : P.cellsOf e = z) (h0 : 0 < z)
    (hX : ∀ n cs y, DataW.trod enc P w 0 (fun _ => true) true n e cs = some y → Light P e y.1 → cs.length = z → ∃ x, Q x cs ∧ ∀ u ∈ cs, u.oneCell' = true)
    (h : DataW.trod enc P w 0 (fun _ => true) true fuel t [v] = some y) (hf : Light P t y.1) : ∃ l, Row w (fun k => k < w.heap.size) z Q v l ∧ l.length * P.bytesOf e ≤ reachBytes := by
  rcases open_slice ht h with ⟨hcs, hx⟩ | ⟨a, len, cap, m, n, D, Pl, hcs, hb, hl, hm, hmm, hx, hi⟩
  · simp only [List.cons.injEq, and_true] at hcs
    subst hcs
    exact ⟨[], Row.nil _ _ _ _, by simp⟩
  · simp only [List.cons.injEq, and_true] at hcs
    subst hcs
    simp only [if_true] at hmm
    subst hmm
    subst hx
    rw [hz] at hi
    have hw : ∀ i, i < m → Light P e (D i) := by
      intro i him n hn
      refine hf n ?_
      simp only [DataW.weights, ht, List.mem_cons, List.mem_append]
      by_cases hil : i < len
      · exact .inr (.inl (weights_all (List.mem_map.2 ⟨i, List.mem_range.2 hil, rfl⟩) n hn))
      · exact .inr (.inr (weights_all (List.mem_map.2 ⟨i - len, List.mem_range.2 (by omega), by rw [show len + (i - len) = i by omega]⟩) n hn))
    have key : ∀ k, k ≤ len → ∃ (l : List X) (css : List (List Value)), l.length = k ∧ Each Q l css ∧ (∀ cs ∈ css, cs.length = z ∧ ∀ u ∈ cs, u.oneCell' = true) ∧ ∀ i cs, css[i]? = some cs → ∀ j u, cs[j]? = some u → w.cell? (a.add (i * z + j)) = some u := by
      intro k
      induction k with
      | zero => exact fun _ => ⟨[], [], rfl, .nil, by simp, by simp⟩
      | succ k ih =>
        intro hk
        obtain ⟨l, css, h1, h2, h3, h4⟩ := ih (by omega)
        obtain ⟨cs, hc, htr⟩ := hi k (by omega)
        obtain ⟨_, hcl, hat⟩ := World.cells?_some hc
        obtain ⟨x, hq, ho⟩ := hX n cs _ htr (hw k (by omega)) hcl
        refine ⟨l ++ [x], css ++ [cs], by simp [h1], h2.append (.cons hq .nil), fun c hc' => ?_, fun i c hi' j u hj => ?_⟩
        · rcases List.mem_append.1 hc' with h5 | h5
          · exact h3 c h5
          · simp at h5; subst h5; exact ⟨hcl, ho⟩
        · by_cases hik : i < css.length
          · rw [List.getElem?_append_left hik] at hi'
            exact h4 i c hi' j u hj
          · rw [List.getElem?_append_right (by omega)] at hi'
            have hi0 : i - css.length = 0 := by
              have := (List.getElem?_eq_some_iff.1 hi').1
              simp at this
              omega
            rw [hi0] at hi'
            simp at hi'
            subst hi'
            have hik2 : i = k := by have := h2.len; omega
            subst hik2
            obtain ⟨hjl, hju⟩ := List.getElem?_eq_some_iff.1 hj
            rw [← Go.Deep.add_add, hat j (by omega)]
            exact hj
    obtain ⟨l, css, h1, h2, h3, h4⟩ := key len (Nat.le_refl _)
    have hcz : ∀ cs ∈ css, cs.length = z := fun cs hc => (h3 cs hc).1
    refine ⟨l, ⟨some a, m, css, by rw [h1], h2, hcz, ⟨?_, fun u hu => ?_, by simp, fun a' ea j u hj => ?_⟩, by rw [h1]; exact hl, hm, fun a' ea hne => ?_⟩, ?_⟩
    · rw [flat_len hcz, h2.len]
    · obtain ⟨cs, hc, hu'⟩ := List.mem_flatten.1 hu
      exact (h3 cs hc).2 u hu'
    · cases ea
      have hjl := (List.getElem?_eq_some_iff.1 hj).1
      rw [flat_len hcz] at hjl
      have hi' : j / z < css.length := Nat.div_lt_of_lt_mul (by rwa [Nat.mul_comm] at hjl)
      have hr : j % z < z := Nat.mod_lt _ h0
      have hcs : css[j / z]? = some (css[j / z]) := List.getElem?_eq_getElem hi'
      have hcl := hcz _ (List.mem_of_getElem? hcs)
      have hcj : (css[j / z])[j % z]? = some ((css[j / z])[j % z]'(by omega)) := List.getElem?_eq_getElem (by omega)
      have e1 := flat_get hcz hcs hcj
      have ej : j / z * z + j % z = j := by rw [Nat.mul_comm]; exact Nat.div_add_mod j z
      rw [ej, hj] at e1
      cases e1
      have := h4 _ _ hcs _ _ hcj
      rw [ej] at this
      exact this
    · cases ea
      have hcs : css[0]? = some (css[0]'(by have := h2.len; omega)) := List.getElem?_eq_getElem _
      have hcl := hcz _ (List.mem_of_getElem? hcs)
      have := h4 0 _ hcs 0 _ (List.getElem?_eq_getElem (by omega))
      have hlt := World.block_lt_of_cell? w _ this
      have hb : (a.add (0 * z + 0)).block = a.block := by unfold Addr.add; split <;> rfl
      rw [hb] at hlt
      exact hlt
    · have := hf ((((List.range len).map D).length + ((List.range (m - len)).map fun j => D (len + j)).length) * P.bytesOf e) (by simp only [DataW.weights, ht]; exact List.mem_cons_self)
      simp only [List.length_map, List.length_range] at this
      rw [h1]
      exact Nat.le_trans (Nat.mul_le_mul_right _ (by omega)) this
end
end Go.Proofs.YthpnnffogbjhpaaGreatDoor
namespace Go.Proofs.YthpnnffogbjhpaaGreatDoor.Door
open Go.ChangeShapes Go.WideShapes Go.ChangeAt Go.RowKit Go.Deep

end Go.Proofs.YthpnnffogbjhpaaGreatDoor.Door
namespace Go.Proofs.YthpnnffogbjhpaaGreatDoor.Kv
open Go.ChangeShapes Go.WideShapes Go.ChangeAt Go.RowKit Go.Deep Go.Proofs.YthpnnffogbjhpaaGreatDoor.Crc Go.Proofs.YthpnnffogbjhpaaGreatDoor.Cm

section
variable {H : Type} {enc : TypeId × Value → H} {w : World} {n : Nat} {cs : List Value} {y : DataW H × List MemPlace}
theorem open_int1 {t : TypeId} {k : IntKind} (ht : Tryz.prog.underlying t = some (.int k)) (h : DataW.trod enc Tryz.prog w 0 (fun _ => true) true n t cs = some y) : ∃ m, cs = [.int k m] ∧ (Lit.int k m).wf = true := by
  obtain ⟨m, h1, -, h2⟩ := DataW.trod_int ht h
  exact ⟨m, h1, h2⟩
theorem open_str1 {t : TypeId} (ht : Tryz.prog.underlying t = some .string) (h : DataW.trod enc Tryz.prog w 0 (fun _ => true) true n t cs = some y) (hl : Light Tryz.prog t y.1) : ∃ k : List UInt8, cs = [strV k] ∧ k.length ≤ reachBytes := by
  obtain ⟨s, h1, h2, -⟩ := DataW.trod_string ht h
  rw [h2] at hl
  refine ⟨s.data.toList, by rw [h1]; simp [strV, strOf], ?_⟩
  exact hl _ (by simp [DataW.weights])
theorem each_one {X : Type} {R : X → Prop} {f : X → Value} {l : List X} {css : List (List Value)} (h : Each (fun x cs => cs = [f x] ∧ R x) l css) : css.flatten = l.map f ∧ ∀ x ∈ l, R x := by
  induction h with
  | nil => simp
  | cons h1 _ ih =>
    obtain ⟨rfl, h2⟩ := h1
    refine ⟨by simp [ih.1], fun x hx => ?_⟩
    rcases List.mem_cons.1 hx with rfl | hx
    · exact h2
    · exact ih.2 x hx
theorem open_strs {v : Value} (h : DataW.trod enc Tryz.prog w 0 (fun _ => true) true n 43 [v] = some y) (hl : Light Tryz.prog 43 y.1) :
    ∃ l : List (List UInt8), Strs w (fun k => k < w.heap.size) v l ∧ l.length * 16 ≤ reachBytes ∧ ∀ k ∈ l, k.length ≤ reachBytes := by
  obtain ⟨l, ⟨xo, c, css, e, h1, h2, h3, h4, h5, h6⟩, hb⟩ := open_row (X := List UInt8) (Q := fun x cs => cs = [strV x] ∧ x.length ≤ reachBytes) Tryz.underlying43 (z := 1) (by kernel_rfl) (by decide) (fun n cs y hy hly _ => by
    obtain ⟨k, e, hk⟩ := open_str1 (by kernel_rfl) hy hly
    exact ⟨k, ⟨e, hk⟩, by subst e; simp [strV, Value.oneCell']⟩) h hl
  obtain ⟨k1, k2⟩ := each_one h1
  rw [k1] at h3
  have hby : Tryz.prog.bytesOf 9 = 16 := by kernel_rfl
  rw [hby] at hb
  exact ⟨l, ⟨xo, c, e, h3, h4, h5, h6⟩, hb, k2⟩
theorem open_fields {t : TypeId} {fs : Array Field} (ht : Tryz.prog.underlying t = some (.struct fs)) (h : DataW.trod enc Tryz.prog w 0 (fun _ => true) true n t cs = some y) (hl : Light Tryz.prog t y.1) :
    cs.length = Tryz.prog.cellsOf t ∧ ∃ m, ∀ (i : Nat) (f : Field) (ty : TypeId) (o z : Nat), fs[i]? = some f → f.type = ty → f.offset = o → Tryz.prog.cellsOf ty = z → ∃ u, DataW.trod enc Tryz.prog w 0 (fun _ => true) true m ty ((cs.drop o).take z) = some u ∧ Light Tryz.prog ty u.1 := by
  obtain ⟨ys, m, -, e, hlen, hyl, hf⟩ := DataW.trod_struct ht h
  refine ⟨hlen, m, ?_⟩
  rintro i f ty o z hi rfl rfl rfl
  have h1 := hf i f hi
  have hi' : i < ys.length := by have := (Array.getElem?_eq_some_iff.1 hi).1; omega
  refine ⟨ys[i], h1.trans (List.getElem?_eq_getElem hi'), ?_⟩
  rw [e] at hl
  exact hl.part ht hi (by rw [List.getElem?_map, List.getElem?_eq_getElem hi']; rfl)
theorem row_split {X : Type} {w : World} {T : Nat → Prop} {z : Nat} {P : X → List Value → Prop} {R : X → Prop} {v : Value} {l : List X} (h : Row w T z (fun x cs => P x cs ∧ R x) v l) : Row w T z P v l ∧ ∀ x ∈ l, R x := by
  refine ⟨h.mono (fun _ h => h) fun _ _ _ h => h.1, fun x hx => ?_⟩
  obtain ⟨xo, c, css, -, -, -, he, -⟩ := Row.src h
  obtain ⟨i, hi⟩ := List.mem_iff_getElem?.1 hx
  obtain ⟨cs, -, h1⟩ := he.get hi
  exact h1.2
/-- Below the world's end. -/
abbrev Old (w : World) (k : Nat) : Prop := k < w.heap.size
def KeysOk (c : Cm) : Prop := c.keys.length * 16 ≤ 140737488355328
theorem open_cmd (h : DataW.trod enc Tryz.prog w 0 (fun _ => true) true n 45 cs = some y) (hl : Light Tryz.prog 45 y.1) : ∃ c : Cm, cmK.holds w (Old w) c cs ∧ KeysOk c := by
  obtain ⟨hlen, m, H⟩ := open_fields Tryz.underlying45 h hl
  rw [show Tryz.prog.cellsOf 45 = 7 from by kernel_rfl] at hlen
  obtain ⟨c0, c1, c2, c3, c4, c5, c6, rfl⟩ : ∃ c0 c1 c2 c3 c4 c5 c6, cs = [c0, c1, c2, c3, c4, c5, c6] := by
    match cs, hlen with
    | [c0, c1, c2, c3, c4, c5, c6], _ => exact ⟨_, _, _, _, _, _, _, rfl⟩
  obtain ⟨u0, h0, -⟩ := H 0 _ 42 0 1 rfl rfl rfl (by kernel_rfl)
  obtain ⟨u1, h1, -⟩ := H 1 _ 42 1 1 rfl rfl rfl (by kernel_rfl)
  obtain ⟨u2, h2, -⟩ := H 2 _ 5 2 1 rfl rfl rfl (by kernel_rfl)
  obtain ⟨u3, h3, l3⟩ := H 3 _ 43 3 1 rfl rfl rfl (by kernel_rfl)
  obtain ⟨u4, h4, l4⟩ := H 4 _ 9 4 1 rfl rfl rfl (by kernel_rfl)
  obtain ⟨u5, h5, l5⟩ := H 5 _ 9 5 1 rfl rfl rfl (by kernel_rfl)
  obtain ⟨u6, h6, -⟩ := H 6 _ 2 6 1 rfl rfl rfl (by kernel_rfl)
  obtain ⟨m0, e0, w0⟩ := open_int1 (k := .u32) (by kernel_rfl) h0
  obtain ⟨m1, e1, w1⟩ := open_int1 (k := .u32) (by kernel_rfl) h1
  obtain ⟨m2, e2, w2⟩ := open_int1 (k := .u8) (by kernel_rfl) h2
  obtain ⟨ks, hks, hk1, hk2⟩ := open_strs h3 l3
  obtain ⟨k4, e4, b4⟩ := open_str1 (by kernel_rfl) h4 l4
  obtain ⟨k5, e5, b5⟩ := open_str1 (by kernel_rfl) h5 l5
  obtain ⟨m6, e6, w6⟩ := open_int1 (k := .i64) (by kernel_rfl) h6
  simp only [List.drop, List.take, List.cons.injEq, and_true] at e0 e1 e2 e4 e5 e6
  subst e0 e1 e2 e4 e5 e6
  have bb := bounds_u32 w0
  have bb1 := bounds_u32 w1
  have bb2 := bounds_u8 w2
  have bb6 := bounds_i64 w6
  obtain ⟨j0, rfl⟩ := Int.eq_ofNat_of_zero_le bb.1
  obtain ⟨j1, rfl⟩ := Int.eq_ofNat_of_zero_le bb1.1
  obtain ⟨j2, rfl⟩ := Int.eq_ofNat_of_zero_le bb2.1
  have hr : reachBytes ≤ 140737488355328 := by decide
  refine ⟨⟨j0, j1, j2, ks, k4, k5, m6⟩, ⟨⟨by have := bb.2; show j0 < _; omega, by have := bb1.2; show j1 < _; omega, by have := bb2.2; show j2 < _; omega, bb6.1, bb6.2, ?_, ?_, ?_, ?_⟩, c3, rfl, hks⟩, ?_⟩
  · show ks.length ≤ _; omega
  · show k4.length ≤ _; omega
  · show k5.length ≤ _; omega
  · intro k hk; have := hk2 k hk; omega
  · show ks.length * 16 ≤ _; omega
theorem open_cmds {v : Value} (h : DataW.trod enc Tryz.prog w 0 (fun _ => true) true n 30 [v] = some y) (hl : Light Tryz.prog 30 y.1) : ∃ l, cmK.row w (Old w) v l ∧ ∀ c ∈ l, KeysOk c := by
  obtain ⟨l, hr, -⟩ := open_row (X := Cm) (Q := fun c cs => cmK.holds w (Old w) c cs ∧ KeysOk c) Tryz.underlying30 (z := 7) (by kernel_rfl) (by decide) (fun n cs y hy hly _ => by
    obtain ⟨c, hc, hk⟩ := open_cmd hy hly
    exact ⟨c, ⟨hc, hk⟩, cmK.one hc⟩) h hl
  exact ⟨l, row_split hr⟩
end
end Go.Proofs.YthpnnffogbjhpaaGreatDoor.Kv
namespace Go.Proofs.YthpnnffogbjhpaaGreatDoor.Door
open Go.ChangeShapes Go.WideShapes Go.ChangeAt Go.RowKit Go.Proofs.YthpnnffogbjhpaaGreatDoor.Crc Go.Proofs.YthpnnffogbjhpaaGreatDoor.Cm

theorem laid_mem {P : Program} {w : World} : ∀ {l : List (String × DataW Unit)} {ps : List MemPlace}, DataW.LaidVars P w l ps → ∀ n d, (n, d) ∈ l →
    ∃ g t cs fuel p, P.globalNamed n = some g ∧ (P.globals[g]?).map (·.type) = some t ∧ w.var? P n = some cs ∧ DataW.trod (fun _ => ()) P w 0 (fun _ => true) false fuel t cs.toList = some (d, p)
  | [], _, _, _, _, h => by cases h
  | (_, _) :: _, _, ⟨g, t, cs, fuel, p, _, h1, h2, h3, h4, h5, _⟩, n, d, h => by
    rcases List.mem_cons.1 h with e | h
    · cases e; exact ⟨g, t, cs, fuel, p, h1, h2, h3, h4⟩
    · exact laid_mem h5 n d h
theorem rows_of_tab {H : Type} {enc : TypeId × Value → H} {P : Program} {w : World} {base : Nat} {sp : Nat → Bool} {held : Bool} {fuel : Nat} {t e : TypeId} {n z : Nat} {cs : List Value} {ds : List (DataW H)} {p : List MemPlace}
    (ht : P.underlying t = some (.array n e)) (hze : P.cellsOf e = z) (h : DataW.trod enc P w base sp held fuel t cs = some (.agg ds, p)) :
    ∀ i d, ds[i]? = some d → ∃ m q, DataW.trod enc P w base sp held m e ((cs.drop (i * z)).take z) = some (d, q) := by
  cases fuel with
  | zero => simp [DataW.trod] at h
  | succ fuel =>
    simp only [DataW.trod, ht, hze] at h
    split at h
    · obtain ⟨xs, hm, hx⟩ := Option.map_eq_some_iff.1 h
      have hxs : xs.map (·.1) = ds := by
        have := congrArg Prod.fst hx
        simpa using this
      subst hxs
      intro i d hi
      rw [List.getElem?_map] at hi
      obtain ⟨x, hx1, rfl⟩ := Option.map_eq_some_iff.1 hi
      have hil : i < n := by
        have := (List.getElem?_eq_some_iff.1 hx1).1
        have hl : xs.length = n := by simpa using Lib.mapM_length hm
        omega
      obtain ⟨b, hb, hf⟩ := Lib.mapM_at hm i i (by simp [hil])
      rw [hx1] at hb
      cases hb
      exact ⟨fuel, x.2, hf⟩
    · cases h
theorem gCnt : Tryz.prog.globalNamed "quorate/cmd.counts" = some 0 := by kernel_rfl
theorem gCntType : (Tryz.prog.globals[0]?).map (·.type) = some 153 := by kernel_rfl
theorem cells2 : Tryz.prog.cellsOf 152 = 2 := by kernel_rfl
theorem cells1 : Tryz.prog.cellsOf 3 = 1 := by kernel_rfl
theorem cntRow (k : Nat) (hk : k < 9) : (match (Rows.laid_quorate_cmd_counts : DataW Unit) with | .agg ds => ds | _ => [])[k]? = some (Lib.tabData .i64 [((lo k : Nat) : Int), ((hi k : Nat) : Int)]) := by
  match k, hk with
  | 0, _ => rfl
  | 1, _ => rfl
  | 2, _ => rfl
  | 3, _ => rfl
  | 4, _ => rfl
  | 5, _ => rfl
  | 6, _ => rfl
  | 7, _ => rfl
  | 8, _ => rfl
abbrev laid6 : List (String × DataW Unit) := Rows.appBytesRow.laid
theorem met_of {W : World} (h : laidMetH Tryz.prog laid6 W) : laidMet Tryz.prog laid6 W := by
  have e : (laid6.filter fun x => x.2.handleName?.isSome) = [] := by kernel_rfl
  unfold laidMetH at h
  rw [e] at h
  exact h
theorem cntOf {W : World} (hp : ∃ ps, DataW.LaidVars Tryz.prog W laid6 ps) : CntAt W := by
  obtain ⟨ps, hp⟩ := hp
  obtain ⟨g', t', cs, fuel, p, hg', ht', hvar, hd⟩ := laid_mem hp "quorate/cmd.counts" Rows.laid_quorate_cmd_counts (by simp [laid6, Rows.appBytesRow])
  obtain rfl := Option.some.inj (gCnt.symm.trans hg')
  obtain rfl := Option.some.inj (gCntType.symm.trans ht')
  intro k hk
  obtain ⟨m, q', h1⟩ := rows_of_tab (ds := match (Rows.laid_quorate_cmd_counts : DataW Unit) with | .agg ds => ds | _ => []) Tryz.underlying153 cells2 hd k _ (cntRow k hk)
  have h2 := Lib.cells_of_tab Tryz.underlying152 Tryz.underlying3 cells1 cells2 h1
  have h3 : cs.toList[k * 2]? = some (.int .i64 ((lo k : Nat) : Int)) := by
    have := congrArg (·[0]?) h2
    simpa [List.getElem?_take, List.getElem?_drop] using this
  have h4 : cs.toList[k * 2 + 1]? = some (.int .i64 ((hi k : Nat) : Int)) := by
    have := congrArg (·[1]?) h2
    simpa [List.getElem?_take, List.getElem?_drop] using this
  exact ⟨by have := World.var?_cell gCnt hvar (k * 2); rw [this]; simpa using h3, by have := World.var?_cell gCnt hvar (k * 2 + 1); rw [this]; simpa using h4⟩
theorem iface_of_trod {H : Type} {enc : TypeId × Value → H} {P : Program} {w : World} {base : Nat} {sp : Nat → Bool} {held : Bool} {fuel : Nat} {t : TypeId} {ms : Array (String × TypeId)} {cs : List Value} {s : String} {d : DataW H} {p : List MemPlace}
    (ht : P.underlying t = some (.interface ms)) (h : DataW.trod enc P w base sp held fuel t cs = some (.iface s d, p)) : ∃ u v, cs = [.iface u v] := by
  cases fuel with
  | zero => simp [DataW.trod] at h
  | succ fuel =>
    simp only [DataW.trod, ht] at h
    split at h
    all_goals first
      | exact ⟨_, _, rfl⟩
      | simp_all
theorem gTabType : (Tryz.prog.globals[3]?).map (·.type) = some 245 := by kernel_rfl
theorem gSynType : (Tryz.prog.globals[1]?).map (·.type) = some 177 := by kernel_rfl
theorem gRanType : (Tryz.prog.globals[2]?).map (·.type) = some 177 := by kernel_rfl
theorem tab_is : (Rows.laid_internal_strconv_uint64pow10 : DataW Unit) = Lib.tabData .u64 Lib.pow10Tab := by kernel_rfl
theorem envAt {W : World} (h : laidMet Tryz.prog laid6 W) : Kv.EnvAt W := by
  obtain ⟨ps, hp, -⟩ := h
  refine ⟨cntOf ⟨ps, hp⟩, ?_, ?_, ?_⟩
  · obtain ⟨g', t', cs, fuel, p, hg', ht', hvar, hd⟩ := laid_mem hp "internal/strconv.uint64pow10" Rows.laid_internal_strconv_uint64pow10 (by simp [laid6, Rows.appBytesRow])
    obtain rfl := Option.some.inj (Kv.gTab.symm.trans hg')
    obtain rfl := Option.some.inj (gTabType.symm.trans ht')
    rw [tab_is] at hd
    unfold Lib.TabIs
    rw [hvar, ← Lib.cells_of_tab Tryz.underlying245 Tryz.underlying35 (by kernel_rfl) (by kernel_rfl) hd]
  · obtain ⟨g', t', cs, fuel, p, hg', ht', hvar, hd⟩ := laid_mem hp "strconv.ErrSyntax" Rows.laid_strconv_ErrSyntax (by simp [laid6, Rows.appBytesRow])
    obtain rfl := Option.some.inj (Kv.gSyn.symm.trans hg')
    obtain rfl := Option.some.inj (gSynType.symm.trans ht')
    obtain ⟨u, v, e⟩ := iface_of_trod Tryz.underlying177 hd
    refine ⟨u, v, ?_⟩
    rw [hvar]
    obtain ⟨l⟩ := cs
    simp only at e
    rw [e]
  · obtain ⟨g', t', cs, fuel, p, hg', ht', hvar, hd⟩ := laid_mem hp "strconv.ErrRange" Rows.laid_strconv_ErrRange (by simp [laid6, Rows.appBytesRow])
    obtain rfl := Option.some.inj (Kv.gRan.symm.trans hg')
    obtain rfl := Option.some.inj (gRanType.symm.trans ht')
    obtain ⟨u, v, e⟩ := iface_of_trod Tryz.underlying177 hd
    refine ⟨u, v, ?_⟩
    rw [hvar]
    obtain ⟨l⟩ := cs
    simp only at e
    rw [e]
/-- A world in which the listed variables hold what their initialisers lay. -/
noncomputable def laidWorld (os : Os) : World := World.laidAll Tryz.prog os laid6
theorem laid_met (os : Os) (args : Array Value) : laidMet Tryz.prog laid6 ((laidWorld os).forCall (fun _ _ => 0) ⟨#[], args, []⟩).memory :=
  laidMet_laidAll args (by kernel_rfl) (by kernel_rfl)
end Go.Proofs.YthpnnffogbjhpaaGreatDoor.Door
