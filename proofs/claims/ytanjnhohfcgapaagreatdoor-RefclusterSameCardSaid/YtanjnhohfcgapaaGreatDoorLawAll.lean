/- LawKit, OpenG, LawBytes, OpenN, TrR in one text. -/
import Derived.Test.YtanjnhohfcgapaaGreatDoorBase
import Derived.Test.YtanjnhohfcgapaaGreatDoorRows
import Derived.Test.YtanjnhohfcgapaaGreatDoorGenAll
import Derived.Test.YtanjnhohfcgapaaGreatDoorPureAll
import Derived.ProofKit
import Derived.OpenShut
import Derived.Deep.Slices
import Derived.Deep.Fields
set_option linter.unusedSimpArgs false
set_option linter.unusedVariables false
set_option linter.unnecessarySimpa false
namespace Go.Proofs.YtanjnhohfcgapaaGreatDoor
open Go.ChangeShapes Go.WideShapes Go.ChangeAt Go.RowKit Go.Deep

theorem Tryz.own : ownKnob Tryz.prog.godebug = none := by kernel_rfl
theorem Tryz.laidOut : laidOutB Tryz.prog = true := by kernel_rfl

section
variable {H : Type} {enc : TypeId × Value → H}
theorem trodAll_below {P : Program} (hl : laidOutB P = true) {W W' : World} (hb : Below W.heap.size W W') : ∀ {ts : List TypeId} {vs : List Value} {ds : List (DataW H)} {ps : List MemPlace},
    (∀ t ∈ ts, P.readableRec t = true ∧ t < P.types.size) → DataW.TrodAll enc P W 0 (fun _ => true) true ts vs ds ps → (∀ x ∈ ps, x.block < W.heap.size) →
    DataW.TrodAll enc P W' 0 (fun b => decide (b < W.heap.size)) true ts vs ds ps
  | [], vs, ds, ps, _, h, _ => by
    obtain ⟨rfl, rfl, rfl⟩ := trodAll_nil h
    exact trodAll_mk0
  | t :: ts, vs, ds, ps, hr, h, hp => by
    obtain ⟨v, vs', d, ds', p, q, rfl, rfl, rfl, h1, h2⟩ := trodAll_cons h
    exact trodAll_cons_mk (Below.trod hl (hr t (by simp)).1 (hr t (by simp)).2 h1 hb (fun x hx => hp x (by simp [hx])))
      (trodAll_below hl hb (fun t' ht => hr t' (by simp [ht])) h2 (fun x hx => hp x (by simp [hx])))

theorem law_post {P : Program} {f : Func} {s : ChangeSpec} {W W' : World} {args : Array Value} {ds gs : List (DataW H)} {before : List MemPlace} {tb : TypeId}
    (hl : laidOutB P = true) (hW : DataW.Whole enc P f.params.toList s.vars false W args.toList ds gs before) (hv : s.vars = [])
    (hfn : s.fn H ds = { results := [.lit (.bool true)], args := ds }) (hrt : f.resultTypes = #[tb]) (hb : P.underlying tb = some .bool)
    (hread : f.params.toList.all (fun t => P.readableRec t && decide (t < P.types.size)) = true) (hu : Upd [] W W') :
    s.post enc P f false true false false W args (.bool true) W' := by
  have hB := hu.below_nil
  have hlt : ∀ x ∈ before, x.block < W.heap.size := fun x hx => hW.lt x hx
  have hW' := hW
  obtain ⟨p, q, hA, hV, rfl, hfz, hnd⟩ := hW
  rw [hv] at hV
  obtain ⟨rfl, rfl⟩ := trodVars_none hV
  simp only [List.append_nil] at hlt hW'
  have hread' : ∀ t ∈ f.params.toList, P.readableRec t = true ∧ t < P.types.size := fun t ht => by
    have := List.all_eq_true.1 hread t ht
    simpa using this
  refine ⟨ds, [], p, [], p, [], hW', ?_, ?_, ?_, hB.frame _, fun h => by cases h⟩
  · simp only [List.append_nil]
    rw [hfn, hrt]
    exact trodAll_mk1 (shut_bool hb true)
  · simp only [List.append_nil]
    rw [hfn]
    exact trodAll_below hl hB hread' hA hlt
  · rw [hv]
    simp only [List.append_nil]
    rw [hfn]
    rfl
-- A slice of structs, opened to its cells (a block of the guide's that is meant to be copied).
end
section
variable {H : Type} {enc : TypeId × Value → H} {P : Program} {w : World} {base : Nat} {spare : Nat → Bool} {held : Bool}
theorem open_slice_fields {t e : TypeId} {fs : Array Field} {fuel : Nat} {cs : List Value} {x : DataW H × List MemPlace} (ht : P.underlying t = some (.slice e)) (he : P.underlying e = some (.struct fs))
    (hone : oneCellFields P fs = true) (hC : P.cellsOf e = fs.size) (h : DataW.trod enc P w base spare held fuel t cs = some x) :
    (cs = [.slice none 0 0] ∧ x = (.nil, [])) ∨
    ∃ (a : Addr) (len cap m : Nat) (D : Nat → DataW H) (Pl : Nat → List MemPlace), cs = [.slice (some a) len cap] ∧ base ≤ a.block ∧ len ≤ cap ∧ cap ≤ maxLen ∧ m = (if spare a.block then cap else len) ∧
      x = (.slice ((List.range len).map D) ((List.range (m - len)).map fun j => D (len + j)), MemPlace.row a (m * fs.size) ++ (List.range m).flatMap Pl) ∧
      ∀ i, i < m → ∃ (ys : List (DataW H × List MemPlace)) (n : Nat), D i = .agg (ys.map (·.1)) ∧ Pl i = ys.flatMap (·.2) ∧ ys.length = fs.size ∧
        ∀ (j : Nat) (f : Field), fs[j]? = some f → ∃ (v : Value) (y : DataW H × List MemPlace), w.cell? (a.add (i * fs.size + j)) = some v ∧ ys[j]? = some y ∧ DataW.trod enc P w base spare held n f.type [v] = some y := by
  rcases open_slice ht h with h0 | ⟨a, len, cap, m, n, D, Pl, hcs, hb, hl, hm, hmm, hx, hi⟩
  · exact .inl h0
  · refine .inr ⟨a, len, cap, m, D, Pl, hcs, hb, hl, hm, hmm, by rw [hC] at hx; exact hx, fun i him => ?_⟩
    obtain ⟨cs', hc, ht'⟩ := hi i him
    rw [hC] at hc
    obtain ⟨ys, n', hn', hy, hlen, hyl, hf⟩ := DataW.trod_struct he ht'
    obtain ⟨_, hcl, hat⟩ := World.cells?_some hc
    simp only [Prod.mk.injEq] at hy
    refine ⟨ys, n', hy.1, hy.2, hyl, fun j f hj => ?_⟩
    obtain ⟨ho, hk⟩ := hone_of hone j f hj
    have hjl : j < fs.size := (Array.getElem?_eq_some_iff.1 hj).1
    have hcell := hat j hjl
    have hv : cs'[j]? = some (cs'[j]'(by omega)) := List.getElem?_eq_getElem (by omega)
    have h1 := hf j f hj
    rw [ho, hk] at h1
    have hone' : (cs'.drop j).take 1 = [cs'[j]'(by omega)] := by
      rw [List.drop_eq_getElem_cons (by omega)]
      rfl
    rw [hone'] at h1
    have hys : ys[j]? = some (ys[j]'(by omega)) := List.getElem?_eq_getElem (by omega)
    refine ⟨_, _, ?_, hys, h1.trans hys⟩
    rw [← Go.Deep.add_add, hcell, hv]
end
section
variable {H : Type} {enc : TypeId × Value → H}
/-- An argument that is a slice of integers: nil, or a row of cells that read as numbers. -/
theorem open_ints_any {P : Program} {w : World} {r : Reach} {b0 : Nat} {t e : TypeId} {k : IntKind} {v : Value} {d : DataW H} {ps : List MemPlace} (ht : P.underlying t = some (.slice e)) (he : P.underlying e = some (.int k)) (hc : P.cellsOf e = 1)
    (hv : Value.okWide P w r b0 t v) (h : DataW.Trod enc P w 0 (fun _ => true) true t v d ps) (hlt : ∀ x ∈ ps, x.block < w.heap.size) :
    ∃ (ao : Option Addr) (len cap : Nat) (zs : List Int), v = .slice ao len cap ∧ len ≤ cap ∧ cap ≤ maxLen ∧ len ≤ zs.length ∧ d = (match ao with | none => .nil | some _ => .slice (lits k (zs.take len)) (lits k (zs.drop len))) ∧
      (∀ i, i < len → ∃ b off, ao = some ⟨b, off, none⟩ ∧ b < w.heap.size ∧ w.cell? ⟨b, off + i, none⟩ = some (.int k (zs.getD i 0))) ∧ (∀ n ∈ zs, (Lit.int k n).wf = true) := by
  obtain ⟨a0, len, cap, rfl⟩ := okWide_slice ht hv
  obtain ⟨fuel, hf⟩ := h
  rcases open_ints ht he hc hf with ⟨hcs, hx⟩ | ⟨a, len', cap', zs, hcs, hb, hl, hm, hz, hx, hcell, hwz⟩
  · simp only [Value.cells, List.cons.injEq, Value.slice.injEq, and_true] at hcs
    obtain ⟨rfl, rfl, rfl⟩ := hcs
    simp only [Prod.mk.injEq] at hx
    exact ⟨none, 0, 0, [], rfl, Nat.le_refl _, by simp [maxLen], by simp, hx.1, fun i hi => by omega, by simp⟩
  · simp only [Value.cells, List.cons.injEq, Value.slice.injEq, and_true] at hcs
    obtain ⟨rfl, rfl, rfl⟩ := hcs
    simp only [if_true] at hz
    simp only [Prod.mk.injEq] at hx
    obtain ⟨rfl, rfl⟩ := hx
    refine ⟨some a, len, cap, zs, rfl, hl, hm, by omega, rfl, fun i hi => ?_, hwz⟩
    obtain ⟨b, off, rfl, hc2⟩ := ints_at hcell (by omega)
    refine ⟨b, off, rfl, ?_, hc2 i (by omega)⟩
    rcases Nat.lt_or_ge b w.heap.size with h1 | h1
    · exact h1
    · have := hc2 i (by omega)
      simp [World.cell?, Array.getElem?_eq_none h1] at this
end
end Go.Proofs.YtanjnhohfcgapaaGreatDoor
namespace Go.Proofs.YtanjnhohfcgapaaGreatDoor
open Go.ChangeShapes Go.WideShapes Go.ChangeAt Go.RowKit Go.Deep Go.Proofs.YtanjnhohfcgapaaGreatDoor.Crc

section
variable {H : Type} {enc : TypeId × Value → H} {P : Program} {w : World}
/-- Nothing of it weighs too much. -/
def Light (P : Program) (t : TypeId) (d : DataW H) : Prop := ∀ n ∈ d.weights P t, n ≤ reachBytes
theorem Light.part {t : TypeId} {fs : Array Field} {parts : List (DataW H)} {j : Nat} {f : Field} {d : DataW H} (h : Light P t (.agg parts)) (ht : P.underlying t = some (.struct fs)) (hf : fs[j]? = some f) (hd : parts[j]? = some d) : Light P f.type d := by
  intro n hn
  refine h n ?_
  simp only [DataW.weights, ht]
  exact DataW.weights_mem_each (by simp [hf]) hd n hn
theorem weights_all {e : TypeId} : ∀ {l : List (DataW H)} {d : DataW H}, d ∈ l → ∀ n ∈ d.weights P e, n ∈ DataW.weightsAll P e l
  | d0 :: l, d, hd, n, hn => by
    simp only [DataW.weightsAll, List.mem_append]
    rcases List.mem_cons.1 hd with rfl | hd
    · exact .inl hn
    · exact .inr (weights_all hd n hn)
theorem open_row {X : Type} {Q : X → List Value → Prop} {t e : TypeId} {z fuel : Nat} {v : Value} {y : DataW H × List MemPlace} (ht : P.underlying t = some (.slice e)) (hz : P.cellsOf e = z) (h0 : 0 < z)
    (hX : ∀ n cs y, DataW.trod enc P w 0 (fun _ => true) true n e cs = some y → Light P e y.1 → cs.length = z → ∃ x, Q x cs ∧ ∀ u ∈ cs, u.oneCell' = true)
    (h : DataW.trod enc P w 0 (fun _ => true) true fuel t [v] = some y) (hf : Light P t y.1) : ∃ l, Row w (fun k => k < w.heap.size) z Q v l ∧ l.length * P.bytesOf e ≤ reachBytes := by
  rcases open_slice ht h with ⟨hcs, hx⟩ | ⟨a, len, cap, m, n, D, Pl, hcs, hb, hl, hm, hmm, hx, hi⟩
  · simp only [List.cons.injEq, and_true] at hcs
    subst hcs
    exact ⟨[], Row.nil _ _ _ _, by simp⟩
  · simp only [List.cons.injEq, and_true] at hcs
    subst hcs
    simp only [if_true] at hmm
    subst hmm
    subst hx
    rw [hz] at hi
    have hw : ∀ i, i < m → Light P e (D i) := by
      intro i him n hn
      refine hf n ?_
      simp only [DataW.weights, ht, List.mem_cons, List.mem_append]
      by_cases hil : i < len
      · exact .inr (.inl (weights_all (List.mem_map.2 ⟨i, List.mem_range.2 hil, rfl⟩) n hn))
      · exact .inr (.inr (weights_all (List.mem_map.2 ⟨i - len, List.mem_range.2 (by omega), by rw [show len + (i - len) = i by omega]⟩) n hn))
    have key : ∀ k, k ≤ len → ∃ (l : List X) (css : List (List Value)), l.length = k ∧ Each Q l css ∧ (∀ cs ∈ css, cs.length = z ∧ ∀ u ∈ cs, u.oneCell' = true) ∧ ∀ i cs, css[i]? = some cs → ∀ j u, cs[j]? = some u → w.cell? (a.add (i * z + j)) = some u := by
      intro k
      induction k with
      | zero => exact fun _ => ⟨[], [], rfl, .nil, by simp, by simp⟩
      | succ k ih =>
        intro hk
        obtain ⟨l, css, h1, h2, h3, h4⟩ := ih (by omega)
        obtain ⟨cs, hc, htr⟩ := hi k (by omega)
        obtain ⟨_, hcl, hat⟩ := World.cells?_some hc
        obtain ⟨x, hq, ho⟩ := hX n cs _ htr (hw k (by omega)) hcl
        refine ⟨l ++ [x], css ++ [cs], by simp [h1], h2.append (.cons hq .nil), fun c hc' => ?_, fun i c hi' j u hj => ?_⟩
        · rcases List.mem_append.1 hc' with h5 | h5
          · exact h3 c h5
          · simp at h5; subst h5; exact ⟨hcl, ho⟩
        · by_cases hik : i < css.length
          · rw [List.getElem?_append_left hik] at hi'
            exact h4 i c hi' j u hj
          · rw [List.getElem?_append_right (by omega)] at hi'
            have hi0 : i - css.length = 0 := by
              have := (List.getElem?_eq_some_iff.1 hi').1
              simp at this
              omega
            rw [hi0] at hi'
            simp at hi'
            subst hi'
            have hik2 : i = k := by have := h2.len; omega
            subst hik2
            obtain ⟨hjl, hju⟩ := List.getElem?_eq_some_iff.1 hj
            rw [← Go.Deep.add_add, hat j (by omega)]
            exact hj
    obtain ⟨l, css, h1, h2, h3, h4⟩ := key len (Nat.le_refl _)
    have hcz : ∀ cs ∈ css, cs.length = z := fun cs hc => (h3 cs hc).1
    refine ⟨l, ⟨some a, m, css, by rw [h1], h2, hcz, ⟨?_, fun u hu => ?_, by simp, fun a' ea j u hj => ?_⟩, by rw [h1]; exact hl, hm, fun a' ea hne => ?_⟩, ?_⟩
    · rw [flat_len hcz, h2.len]
    · obtain ⟨cs, hc, hu'⟩ := List.mem_flatten.1 hu
      exact (h3 cs hc).2 u hu'
    · cases ea
      have hjl := (List.getElem?_eq_some_iff.1 hj).1
      rw [flat_len hcz] at hjl
      have hi' : j / z < css.length := Nat.div_lt_of_lt_mul (by rwa [Nat.mul_comm] at hjl)
      have hr : j % z < z := Nat.mod_lt _ h0
      have hcs : css[j / z]? = some (css[j / z]) := List.getElem?_eq_getElem hi'
      have hcl := hcz _ (List.mem_of_getElem? hcs)
      have hcj : (css[j / z])[j % z]? = some ((css[j / z])[j % z]'(by omega)) := List.getElem?_eq_getElem (by omega)
      have e1 := flat_get hcz hcs hcj
      have ej : j / z * z + j % z = j := by rw [Nat.mul_comm]; exact Nat.div_add_mod j z
      rw [ej, hj] at e1
      cases e1
      have := h4 _ _ hcs _ _ hcj
      rw [ej] at this
      exact this
    · cases ea
      have hcs : css[0]? = some (css[0]'(by have := h2.len; omega)) := List.getElem?_eq_getElem _
      have hcl := hcz _ (List.mem_of_getElem? hcs)
      have := h4 0 _ hcs 0 _ (List.getElem?_eq_getElem (by omega))
      have hlt := World.block_lt_of_cell? w _ this
      have hb : (a.add (0 * z + 0)).block = a.block := by unfold Addr.add; split <;> rfl
      rw [hb] at hlt
      exact hlt
    · have := hf ((((List.range len).map D).length + ((List.range (m - len)).map fun j => D (len + j)).length) * P.bytesOf e) (by simp only [DataW.weights, ht]; exact List.mem_cons_self)
      simp only [List.length_map, List.length_range] at this
      rw [h1]
      exact Nat.le_trans (Nat.mul_le_mul_right _ (by omega)) this
end
end Go.Proofs.YtanjnhohfcgapaaGreatDoor
namespace Go.Proofs.YtanjnhohfcgapaaGreatDoor.Tr
open Go.RowKit Go.Proofs.YtanjnhohfcgapaaGreatDoor.Crc Go.Proofs.YtanjnhohfcgapaaGreatDoor.Cm

def cmK : Kind Cm where
  z := 7
  hz := by decide
  holds w T c cs := c.Fits ∧ ∃ ks, cs = cmc c ks ∧ Strs w T ks c.keys
  len := by rintro w T c cs ⟨-, ks, rfl, -⟩; rfl
  one := by
    rintro w T c cs ⟨-, ks, rfl, h⟩
    obtain ⟨xo, cp, rfl, -⟩ := h.get
    simp [cmc, strV, Value.oneCell']
  upd := by rintro w w' T c cs S ⟨h1, ks, e, h⟩ hu hS; exact ⟨h1, ks, e, h.upd hu hS⟩
  mono := by rintro w T U c cs ⟨h1, ks, e, h⟩ hT; exact ⟨h1, ks, e, h.mono hT⟩
/-- An answer's cells. -/
def anc (a : An) : List Value := [.int .u32 (a.client : Int), .int .u32 (a.seq : Int), .int .u8 (a.code : Int), strV a.text]
def An.Fits (a : An) : Prop := a.text.length ≤ 4611686018427387904
def anK : Kind An where
  z := 4
  hz := by decide
  holds _ _ a cs := a.Fits ∧ cs = anc a
  len := by rintro w T c cs ⟨-, rfl⟩; rfl
  one := by rintro w T c cs ⟨-, rfl⟩; simp [anc, strV, Value.oneCell']
  upd := by rintro w w' T c cs S h hu hS; exact h
  mono := by rintro w T U c cs h hT; exact h
theorem row_one {X : Type} {K : Kind X} {w : World} {T : Nat → Prop} {v : Value} {l : List X} (h : K.row w T v l) : v.oneCell' = true := by
  obtain ⟨xo, c, rfl, -⟩ := Row.slice h
  rfl
def slK : Kind Sl where
  z := 3
  hz := by decide
  holds w T s cs := s.slot < 18446744073709551616 ∧ ∃ vc va, cs = [.int .u64 (s.slot : Int), vc, va] ∧ cmK.row w T vc s.cmds ∧ anK.row w T va s.ans
  len := by rintro w T c cs ⟨-, vc, va, rfl, -⟩; rfl
  one := by
    rintro w T c cs ⟨-, vc, va, rfl, h1, h2⟩
    have := row_one h1; have := row_one h2
    intro u hu
    simp only [List.mem_cons, List.not_mem_nil, or_false] at hu
    rcases hu with rfl | rfl | rfl
    · rfl
    · assumption
    · assumption
  upd := by rintro w w' T c cs S ⟨h0, vc, va, e, h1, h2⟩ hu hS; exact ⟨h0, vc, va, e, cmK.row_upd h1 hu hS, anK.row_upd h2 hu hS⟩
  mono := by rintro w T U c cs ⟨h0, vc, va, e, h1, h2⟩ hT; exact ⟨h0, vc, va, e, cmK.row_mono h1 hT, anK.row_mono h2 hT⟩
/-- Bytes at v, within the blocks T. -/
def Bts (w : World) (T : Nat → Prop) (v : Value) (bs : List UInt8) : Prop := ∃ xo m c, v = .slice xo m c ∧ SrcAt w xo m c (bs.map u8v) 1 ∧ m ≤ c ∧ c ≤ maxLen ∧ ∀ a, xo = some a → m ≠ 0 → T a.block
def dnK : Kind Dn where
  z := 2
  hz := by decide
  holds w T d cs := d.1 < 18446744073709551616 ∧ ∃ v, cs = [.int .u64 (d.1 : Int), v] ∧ Bts w T v d.2
  len := by rintro w T c cs ⟨-, v, rfl, -⟩; rfl
  one := by
    rintro w T c cs ⟨-, v, rfl, xo, m, cp, rfl, -⟩
    simp [Value.oneCell']
  upd := by rintro w w' T c cs S ⟨h0, v, e, xo, m, cp, rfl, h1, h2, h3, h4⟩ hu hS; exact ⟨h0, _, e, xo, m, cp, rfl, src_upd h1 hu (fun a ha hm hb => hS _ hb (h4 a ha hm)), h2, h3, h4⟩
  mono := by rintro w T U c cs ⟨h0, v, e, xo, m, cp, rfl, h1, h2, h3, h4⟩ hT; exact ⟨h0, _, e, xo, m, cp, rfl, h1, h2, h3, fun a ha hm => hT _ (h4 a ha hm)⟩
def tdK : Kind Td where
  z := 5
  hz := by decide
  holds w T t cs := ∃ (r e n : Int) (va vd : Value), cs = [.int .i64 r, .int .i64 e, .int .i64 n, va, vd] ∧ anK.row w T va t.ans ∧ dnK.row w T vd t.done
  len := by rintro w T c cs ⟨r, e, n, va, vd, rfl, -⟩; rfl
  one := by
    rintro w T c cs ⟨r, e, n, va, vd, rfl, h1, h2⟩
    have := row_one h1; have := row_one h2
    intro u hu
    simp only [List.mem_cons, List.not_mem_nil, or_false] at hu
    rcases hu with rfl | rfl | rfl | rfl | rfl
    · rfl
    · rfl
    · rfl
    · assumption
    · assumption
  upd := by rintro w w' T c cs S ⟨r, e, n, va, vd, h0, h1, h2⟩ hu hS; exact ⟨r, e, n, va, vd, h0, anK.row_upd h1 hu hS, dnK.row_upd h2 hu hS⟩
  mono := by rintro w T U c cs ⟨r, e, n, va, vd, h0, h1, h2⟩ hT; exact ⟨r, e, n, va, vd, h0, anK.row_mono h1 hT, dnK.row_mono h2 hT⟩
def enc (e : En) (torn pick : Int) (ks : Value) : List Value := [.int .u8 (e.kind : Int), .int .i64 e.r, .int .i64 e.k, .int .i64 torn, .int .u64 pick, .int .u32 (e.cmd.client : Int), .int .u32 (e.cmd.seq : Int), .int .u8 (e.cmd.kind : Int), ks, strV e.cmd.old, strV e.cmd.new, .int .i64 e.cmd.n]
def enK : Kind En where
  z := 12
  hz := by decide
  holds w T e cs := e.cmd.Fits ∧ ∃ torn pick ks, cs = enc e torn pick ks ∧ Strs w T ks e.cmd.keys
  len := by rintro w T c cs ⟨-, t, p, ks, rfl, -⟩; rfl
  one := by
    rintro w T c cs ⟨-, t, p, ks, rfl, h⟩
    obtain ⟨xo, cp, rfl, -⟩ := h.get
    simp [enc, strV, Value.oneCell']
  upd := by rintro w w' T c cs S ⟨h1, t, p, ks, e, h⟩ hu hS; exact ⟨h1, t, p, ks, e, h.upd hu hS⟩
  mono := by rintro w T U c cs ⟨h1, t, p, ks, e, h⟩ hT; exact ⟨h1, t, p, ks, e, h.mono hT⟩
end Go.Proofs.YtanjnhohfcgapaaGreatDoor.Tr
namespace Go.Proofs.YtanjnhohfcgapaaGreatDoor.Door
open Go.ChangeShapes Go.WideShapes Go.ChangeAt Go.RowKit Go.Deep

/-- A slice of bytes, opened: its cells. -/
theorem open_bytes {H : Type} {enc : TypeId × Value → H} {w : World} {n : Nat} {v : Value} {y : DataW H × List MemPlace}
    (h : DataW.trod enc Tryz.prog w 0 (fun _ => true) true n 35 [v] = some y) :
    ∃ (bo : Option Addr) (bl bc : Nat) (bs : List UInt8), v = .slice bo bl bc ∧ SrcAt w bo bl bc (bs.map u8v) 1 ∧ bl ≤ bc ∧ bc ≤ maxLen := by
  rcases open_ints Tryz.underlying35 Tryz.underlying5 (by kernel_rfl) h with ⟨hcs, hx⟩ | ⟨a, len', cap', zs, hcs, hb, hl, hm, hz, hx, hcell, hwz⟩
  · simp only [List.cons.injEq, and_true] at hcs
    subst hcs
    exact ⟨none, 0, 0, [], rfl, ⟨rfl, by simp, fun _ => ⟨rfl, rfl⟩, by simp⟩, Nat.le_refl _, by simp [maxLen]⟩
  · simp only [List.cons.injEq, and_true] at hcs
    subst hcs
    simp only [if_true] at hz
    refine ⟨some a, len', cap', (zs.take len').map fun z => UInt8.ofNat z.toNat, rfl, ⟨?_, ?_, by simp, fun a' e j u hj => ?_⟩, hl, hm⟩
    · simp; omega
    · intro u hu
      obtain ⟨b, -, rfl⟩ := List.mem_map.1 hu
      rfl
    · cases e
      simp only [List.map_map, List.getElem?_map, Option.map_eq_some_iff] at hj
      obtain ⟨z, hz1, rfl⟩ := hj
      have hjl : j < zs.length := by
        rw [List.getElem?_take] at hz1
        split at hz1
        · exact (List.getElem?_eq_some_iff.1 hz1).1
        · cases hz1
      have hz2 : zs[j]? = some z := by
        rw [List.getElem?_take] at hz1
        split at hz1
        · exact hz1
        · cases hz1
      rw [hcell j hjl]
      have hb := range_u8 hwz j
      rw [hz2] at hb
      simp only [Option.getD_some] at hb
      have : (((UInt8.ofNat z.toNat).toNat : Nat) : Int) = z := by
        rw [UInt8.toNat_ofNat_of_lt' (by show z.toNat < 256; omega)]
        omega
      simp only [Function.comp_apply, u8v, this, List.getD_eq_getElem?_getD, hz2, Option.getD_some]

end Go.Proofs.YtanjnhohfcgapaaGreatDoor.Door
namespace Go.Proofs.YtanjnhohfcgapaaGreatDoor.Tr
open Go.ChangeShapes Go.WideShapes Go.ChangeAt Go.RowKit Go.Deep Go.Proofs.YtanjnhohfcgapaaGreatDoor.Crc Go.Proofs.YtanjnhohfcgapaaGreatDoor.Cm

section
variable {H : Type} {enc : TypeId × Value → H} {w : World} {n : Nat} {cs : List Value} {y : DataW H × List MemPlace}
theorem open_int1 {t : TypeId} {k : IntKind} (ht : Tryz.prog.underlying t = some (.int k)) (h : DataW.trod enc Tryz.prog w 0 (fun _ => true) true n t cs = some y) : ∃ m, cs = [.int k m] ∧ (Lit.int k m).wf = true := by
  obtain ⟨m, h1, -, h2⟩ := DataW.trod_int ht h
  exact ⟨m, h1, h2⟩
theorem open_str1 {t : TypeId} (ht : Tryz.prog.underlying t = some .string) (h : DataW.trod enc Tryz.prog w 0 (fun _ => true) true n t cs = some y) (hl : Light Tryz.prog t y.1) : ∃ k : List UInt8, cs = [strV k] ∧ k.length ≤ reachBytes := by
  obtain ⟨s, h1, h2, -⟩ := DataW.trod_string ht h
  rw [h2] at hl
  refine ⟨s.data.toList, by rw [h1]; simp [strV, strOf], ?_⟩
  exact hl _ (by simp [DataW.weights])
theorem each_one {X : Type} {R : X → Prop} {f : X → Value} {l : List X} {css : List (List Value)} (h : Each (fun x cs => cs = [f x] ∧ R x) l css) : css.flatten = l.map f ∧ ∀ x ∈ l, R x := by
  induction h with
  | nil => simp
  | cons h1 _ ih =>
    obtain ⟨rfl, h2⟩ := h1
    refine ⟨by simp [ih.1], fun x hx => ?_⟩
    rcases List.mem_cons.1 hx with rfl | hx
    · exact h2
    · exact ih.2 x hx
theorem open_strs {v : Value} (h : DataW.trod enc Tryz.prog w 0 (fun _ => true) true n 41 [v] = some y) (hl : Light Tryz.prog 41 y.1) :
    ∃ l : List (List UInt8), Strs w (fun k => k < w.heap.size) v l ∧ l.length * 16 ≤ reachBytes ∧ ∀ k ∈ l, k.length ≤ reachBytes := by
  obtain ⟨l, ⟨xo, c, css, e, h1, h2, h3, h4, h5, h6⟩, hb⟩ := open_row (X := List UInt8) (Q := fun x cs => cs = [strV x] ∧ x.length ≤ reachBytes) Tryz.underlying41 (z := 1) (by kernel_rfl) (by decide) (fun n cs y hy hly _ => by
    obtain ⟨k, e, hk⟩ := open_str1 (by kernel_rfl) hy hly
    exact ⟨k, ⟨e, hk⟩, by subst e; simp [strV, Value.oneCell']⟩) h hl
  obtain ⟨k1, k2⟩ := each_one h1
  rw [k1] at h3
  have hby : Tryz.prog.bytesOf 9 = 16 := by kernel_rfl
  rw [hby] at hb
  exact ⟨l, ⟨xo, c, e, h3, h4, h5, h6⟩, hb, k2⟩
theorem open_fields {t : TypeId} {fs : Array Field} (ht : Tryz.prog.underlying t = some (.struct fs)) (h : DataW.trod enc Tryz.prog w 0 (fun _ => true) true n t cs = some y) (hl : Light Tryz.prog t y.1) :
    cs.length = Tryz.prog.cellsOf t ∧ ∃ m, ∀ (i : Nat) (f : Field) (ty : TypeId) (o z : Nat), fs[i]? = some f → f.type = ty → f.offset = o → Tryz.prog.cellsOf ty = z → ∃ u, DataW.trod enc Tryz.prog w 0 (fun _ => true) true m ty ((cs.drop o).take z) = some u ∧ Light Tryz.prog ty u.1 := by
  obtain ⟨ys, m, -, e, hlen, hyl, hf⟩ := DataW.trod_struct ht h
  refine ⟨hlen, m, ?_⟩
  rintro i f ty o z hi rfl rfl rfl
  have h1 := hf i f hi
  have hi' : i < ys.length := by have := (Array.getElem?_eq_some_iff.1 hi).1; omega
  refine ⟨ys[i], h1.trans (List.getElem?_eq_getElem hi'), ?_⟩
  rw [e] at hl
  exact hl.part ht hi (by rw [List.getElem?_map, List.getElem?_eq_getElem hi']; rfl)
theorem row_split {X : Type} {w : World} {T : Nat → Prop} {z : Nat} {P : X → List Value → Prop} {R : X → Prop} {v : Value} {l : List X} (h : Row w T z (fun x cs => P x cs ∧ R x) v l) : Row w T z P v l ∧ ∀ x ∈ l, R x := by
  refine ⟨h.mono (fun _ h => h) fun _ _ _ h => h.1, fun x hx => ?_⟩
  obtain ⟨xo, c, css, -, -, -, he, -⟩ := Row.src h
  obtain ⟨i, hi⟩ := List.mem_iff_getElem?.1 hx
  obtain ⟨cs, -, h1⟩ := he.get hi
  exact h1.2
theorem int_nat {k : IntKind} {m : Int} {b : Nat} (hk : ∀ m, (Lit.int k m).wf = true → 0 ≤ m ∧ m < b) (h : (Lit.int k m).wf = true) : ∃ j : Nat, m = j ∧ j < b := by
  obtain ⟨h1, h2⟩ := hk m h
  obtain ⟨j, rfl⟩ := Int.eq_ofNat_of_zero_le h1
  exact ⟨j, rfl, by omega⟩
/-- Below the world's end. -/
abbrev Old (w : World) (k : Nat) : Prop := k < w.heap.size
def KeysOk (c : Cm) : Prop := c.keys.length * 16 ≤ 140737488355328
theorem open_cmd (h : DataW.trod enc Tryz.prog w 0 (fun _ => true) true n 43 cs = some y) (hl : Light Tryz.prog 43 y.1) : ∃ c : Cm, cmK.holds w (Old w) c cs ∧ KeysOk c := by
  obtain ⟨hlen, m, H⟩ := open_fields Tryz.underlying43 h hl
  rw [show Tryz.prog.cellsOf 43 = 7 from by kernel_rfl] at hlen
  obtain ⟨c0, c1, c2, c3, c4, c5, c6, rfl⟩ : ∃ c0 c1 c2 c3 c4 c5 c6, cs = [c0, c1, c2, c3, c4, c5, c6] := by
    match cs, hlen with
    | [c0, c1, c2, c3, c4, c5, c6], _ => exact ⟨_, _, _, _, _, _, _, rfl⟩
  obtain ⟨u0, h0, -⟩ := H 0 _ 40 0 1 rfl rfl rfl (by kernel_rfl)
  obtain ⟨u1, h1, -⟩ := H 1 _ 40 1 1 rfl rfl rfl (by kernel_rfl)
  obtain ⟨u2, h2, -⟩ := H 2 _ 5 2 1 rfl rfl rfl (by kernel_rfl)
  obtain ⟨u3, h3, l3⟩ := H 3 _ 41 3 1 rfl rfl rfl (by kernel_rfl)
  obtain ⟨u4, h4, l4⟩ := H 4 _ 9 4 1 rfl rfl rfl (by kernel_rfl)
  obtain ⟨u5, h5, l5⟩ := H 5 _ 9 5 1 rfl rfl rfl (by kernel_rfl)
  obtain ⟨u6, h6, -⟩ := H 6 _ 2 6 1 rfl rfl rfl (by kernel_rfl)
  obtain ⟨m0, e0, w0⟩ := open_int1 (k := .u32) (by kernel_rfl) h0
  obtain ⟨m1, e1, w1⟩ := open_int1 (k := .u32) (by kernel_rfl) h1
  obtain ⟨m2, e2, w2⟩ := open_int1 (k := .u8) (by kernel_rfl) h2
  obtain ⟨ks, hks, hk1, hk2⟩ := open_strs h3 l3
  obtain ⟨k4, e4, b4⟩ := open_str1 (by kernel_rfl) h4 l4
  obtain ⟨k5, e5, b5⟩ := open_str1 (by kernel_rfl) h5 l5
  obtain ⟨m6, e6, w6⟩ := open_int1 (k := .i64) (by kernel_rfl) h6
  simp only [List.drop, List.take, List.cons.injEq, and_true] at e0 e1 e2 e4 e5 e6
  subst e0 e1 e2 e4 e5 e6
  have bb := bounds_u32 w0
  have bb1 := bounds_u32 w1
  have bb2 := bounds_u8 w2
  have bb6 := bounds_i64 w6
  obtain ⟨j0, rfl⟩ := Int.eq_ofNat_of_zero_le bb.1
  obtain ⟨j1, rfl⟩ := Int.eq_ofNat_of_zero_le bb1.1
  obtain ⟨j2, rfl⟩ := Int.eq_ofNat_of_zero_le bb2.1
  have hr : reachBytes ≤ 140737488355328 := by decide
  refine ⟨⟨j0, j1, j2, ks, k4, k5, m6⟩, ⟨⟨by have := bb.2; show j0 < _; omega, by have := bb1.2; show j1 < _; omega, by have := bb2.2; show j2 < _; omega, bb6.1, bb6.2, ?_, ?_, ?_, ?_⟩, c3, rfl, hks⟩, ?_⟩
  · show ks.length ≤ _; omega
  · show k4.length ≤ _; omega
  · show k5.length ≤ _; omega
  · intro k hk; have := hk2 k hk; omega
  · show ks.length * 16 ≤ _; omega
theorem open_ans (h : DataW.trod enc Tryz.prog w 0 (fun _ => true) true n 117 cs = some y) (hl : Light Tryz.prog 117 y.1) : ∃ a : An, anK.holds w (Old w) a cs := by
  obtain ⟨hlen, m, H⟩ := open_fields Tryz.underlying117 h hl
  rw [show Tryz.prog.cellsOf 117 = 4 from by kernel_rfl] at hlen
  obtain ⟨c0, c1, c2, c3, rfl⟩ : ∃ c0 c1 c2 c3, cs = [c0, c1, c2, c3] := by
    match cs, hlen with
    | [c0, c1, c2, c3], _ => exact ⟨_, _, _, _, rfl⟩
  obtain ⟨u0, h0, -⟩ := H 0 _ 40 0 1 rfl rfl rfl (by kernel_rfl)
  obtain ⟨u1, h1, -⟩ := H 1 _ 40 1 1 rfl rfl rfl (by kernel_rfl)
  obtain ⟨u2, h2, l2⟩ := H 2 _ 113 2 2 rfl rfl rfl (by kernel_rfl)
  obtain ⟨-, m2, J⟩ := open_fields Tryz.underlying113 h2 l2
  obtain ⟨u3, h3, -⟩ := J 0 _ 5 0 1 rfl rfl rfl (by kernel_rfl)
  obtain ⟨u4, h4, l4⟩ := J 1 _ 9 1 1 rfl rfl rfl (by kernel_rfl)
  obtain ⟨m0, e0, w0⟩ := open_int1 (k := .u32) (by kernel_rfl) h0
  obtain ⟨m1, e1, w1⟩ := open_int1 (k := .u32) (by kernel_rfl) h1
  obtain ⟨m3, e3, w3⟩ := open_int1 (k := .u8) (by kernel_rfl) h3
  obtain ⟨k4, e4, b4⟩ := open_str1 (by kernel_rfl) h4 l4
  simp only [List.drop, List.take, List.cons.injEq, and_true] at e0 e1 e3 e4
  subst e0 e1 e3 e4
  have bb := bounds_u32 w0
  have bb1 := bounds_u32 w1
  have bb3 := bounds_u8 w3
  obtain ⟨j0, rfl⟩ := Int.eq_ofNat_of_zero_le bb.1
  obtain ⟨j1, rfl⟩ := Int.eq_ofNat_of_zero_le bb1.1
  obtain ⟨j3, rfl⟩ := Int.eq_ofNat_of_zero_le bb3.1
  have hr : reachBytes ≤ 140737488355328 := by decide
  refine ⟨⟨j0, j1, j3, k4⟩, ?_, rfl⟩
  show k4.length ≤ _
  omega
theorem open_cmds {v : Value} (h : DataW.trod enc Tryz.prog w 0 (fun _ => true) true n 31 [v] = some y) (hl : Light Tryz.prog 31 y.1) : ∃ l, cmK.row w (Old w) v l ∧ ∀ c ∈ l, KeysOk c := by
  obtain ⟨l, hr, -⟩ := open_row (X := Cm) (Q := fun c cs => cmK.holds w (Old w) c cs ∧ KeysOk c) Tryz.underlying31 (z := 7) (by kernel_rfl) (by decide) (fun n cs y hy hly _ => by
    obtain ⟨c, hc, hk⟩ := open_cmd hy hly
    exact ⟨c, ⟨hc, hk⟩, cmK.one hc⟩) h hl
  exact ⟨l, row_split hr⟩
theorem open_anss {v : Value} (h : DataW.trod enc Tryz.prog w 0 (fun _ => true) true n 30 [v] = some y) (hl : Light Tryz.prog 30 y.1) : ∃ l, anK.row w (Old w) v l := by
  obtain ⟨l, hr, -⟩ := open_row (X := An) (Q := anK.holds w (Old w)) Tryz.underlying30 (z := 4) (by kernel_rfl) (by decide) (fun n cs y hy hly _ => by
    obtain ⟨c, hc⟩ := open_ans hy hly
    exact ⟨c, hc, anK.one hc⟩) h hl
  exact ⟨l, hr⟩
theorem open_entry (h : DataW.trod enc Tryz.prog w 0 (fun _ => true) true n 111 cs = some y) (hl : Light Tryz.prog 111 y.1) : ∃ e : En, enK.holds w (Old w) e cs ∧ KeysOk e.cmd := by
  obtain ⟨hlen, m, H⟩ := open_fields Tryz.underlying111 h hl
  rw [show Tryz.prog.cellsOf 111 = 12 from by kernel_rfl] at hlen
  obtain ⟨c0, c1, c2, c3, c4, d0, d1, d2, d3, d4, d5, d6, rfl⟩ : ∃ c0 c1 c2 c3 c4 d0 d1 d2 d3 d4 d5 d6, cs = [c0, c1, c2, c3, c4, d0, d1, d2, d3, d4, d5, d6] := by
    match cs, hlen with
    | [c0, c1, c2, c3, c4, d0, d1, d2, d3, d4, d5, d6], _ => exact ⟨_, _, _, _, _, _, _, _, _, _, _, _, rfl⟩
  obtain ⟨u0, h0, -⟩ := H 0 _ 5 0 1 rfl rfl rfl (by kernel_rfl)
  obtain ⟨u1, h1, -⟩ := H 1 _ 3 1 1 rfl rfl rfl (by kernel_rfl)
  obtain ⟨u2, h2, -⟩ := H 2 _ 3 2 1 rfl rfl rfl (by kernel_rfl)
  obtain ⟨u3, h3, -⟩ := H 3 _ 3 3 1 rfl rfl rfl (by kernel_rfl)
  obtain ⟨u4, h4, -⟩ := H 4 _ 63 4 1 rfl rfl rfl (by kernel_rfl)
  obtain ⟨u5, h5, l5⟩ := H 5 _ 43 5 7 rfl rfl rfl (by kernel_rfl)
  obtain ⟨m0, e0, w0⟩ := open_int1 (k := .u8) (by kernel_rfl) h0
  obtain ⟨m1, e1, w1⟩ := open_int1 (k := .i64) (by kernel_rfl) h1
  obtain ⟨m2, e2, w2⟩ := open_int1 (k := .i64) (by kernel_rfl) h2
  obtain ⟨m3, e3, w3⟩ := open_int1 (k := .i64) (by kernel_rfl) h3
  obtain ⟨m4, e4, w4⟩ := open_int1 (k := .u64) (by kernel_rfl) h4
  obtain ⟨c, ⟨hf, ks, ec, hks⟩, hk⟩ := open_cmd h5 l5
  simp only [List.drop, List.take, List.cons.injEq, and_true] at e0 e1 e2 e3 e4
  subst e0 e1 e2 e3 e4
  have bb := bounds_u8 w0
  obtain ⟨j0, rfl⟩ := Int.eq_ofNat_of_zero_le bb.1
  refine ⟨⟨j0, m1, m2, c⟩, ⟨hf, m3, m4, ks, ?_, hks⟩, hk⟩
  simp only [List.drop, List.take] at ec
  simp only [Tr.enc, cmc] at ec ⊢
  rw [ec]
theorem open_entries {v : Value} (h : DataW.trod enc Tryz.prog w 0 (fun _ => true) true n 22 [v] = some y) (hl : Light Tryz.prog 22 y.1) : ∃ l, enK.row w (Old w) v l ∧ ∀ e ∈ l, KeysOk e.cmd := by
  obtain ⟨l, hr, -⟩ := open_row (X := En) (Q := fun e cs => enK.holds w (Old w) e cs ∧ KeysOk e.cmd) Tryz.underlying22 (z := 12) (by kernel_rfl) (by decide) (fun n cs y hy hly _ => by
    obtain ⟨c, hc, hk⟩ := open_entry hy hly
    exact ⟨c, ⟨hc, hk⟩, enK.one hc⟩) h hl
  exact ⟨l, row_split (R := fun e : En => KeysOk e.cmd) hr⟩
end
end Go.Proofs.YtanjnhohfcgapaaGreatDoor.Tr
