/- Arguments that are rows of things of some cells, opened; what they weigh. Over any program. -/
import Derived.Test.YteeepelmkfiocaaGreatDoorGenAll
import Derived.Test.YteeepelmkfiocaaGreatDoorLawKit
namespace Go.Proofs.YteeepelmkfiocaaGreatDoor
open Go.ChangeShapes Go.WideShapes Go.ChangeAt Go.RowKit Go.Deep Go.Proofs.YteeepelmkfiocaaGreatDoor.Crc

section
variable {H : Type} {enc : TypeId × Value → H} {P : Program} {w : World}
/-- Nothing of it weighs too much. -/
def Light (P : Program) (t : TypeId) (d : DataW H) : Prop := ∀ n ∈ d.weights P t, n ≤ reachBytes
theorem Light.part {t : TypeId} {fs : Array Field} {parts : List (DataW H)} {j : Nat} {f : Field} {d : DataW H} (h : Light P t (.agg parts)) (ht : P.underlying t = some (.struct fs)) (hf : fs[j]? = some f) (hd : parts[j]? = some d) : Light P f.type d := by
  intro n hn
  refine h n ?_
  simp only [DataW.weights, ht]
  exact DataW.weights_mem_each (by simp [hf]) hd n hn
theorem weights_all {e : TypeId} : ∀ {l : List (DataW H)} {d : DataW H}, d ∈ l → ∀ n ∈ d.weights P e, n ∈ DataW.weightsAll P e l
  | d0 :: l, d, hd, n, hn => by
    simp only [DataW.weightsAll, List.mem_append]
    rcases List.mem_cons.1 hd with rfl | hd
    · exact .inl hn
    · exact .inr (weights_all hd n hn)
theorem open_row {X : Type} {Q : X → List Value → Prop} {t e : TypeId} {z fuel : Nat} {v : Value} {y : DataW H × List MemPlace} (ht : P.underlying t = some (.slice e)) (hz : P.cellsOf e = z) (h0 : 0 < z)
    (hX : ∀ n cs y, DataW.trod enc P w 0 (fun _ => true) true n e cs = some y → Light P e y.1 → cs.length = z → ∃ x, Q x cs ∧ ∀ u ∈ cs, u.oneCell' = true)
    (h : DataW.trod enc P w 0 (fun _ => true) true fuel t [v] = some y) (hf : Light P t y.1) : ∃ l, Row w (fun k => k < w.heap.size) z Q v l ∧ l.length * P.bytesOf e ≤ reachBytes := by
  rcases open_slice ht h with ⟨hcs, hx⟩ | ⟨a, len, cap, m, n, D, Pl, hcs, hb, hl, hm, hmm, hx, hi⟩
  · simp only [List.cons.injEq, and_true] at hcs
    subst hcs
    exact ⟨[], Row.nil _ _ _ _, by simp⟩
  · simp only [List.cons.injEq, and_true] at hcs
    subst hcs
    simp only [if_true] at hmm
    subst hmm
    subst hx
    rw [hz] at hi
    have hw : ∀ i, i < m → Light P e (D i) := by
      intro i him n hn
      refine hf n ?_
      simp only [DataW.weights, ht, List.mem_cons, List.mem_append]
      by_cases hil : i < len
      · exact .inr (.inl (weights_all (List.mem_map.2 ⟨i, List.mem_range.2 hil, rfl⟩) n hn))
      · exact .inr (.inr (weights_all (List.mem_map.2 ⟨i - len, List.mem_range.2 (by omega), by rw [show len + (i - len) = i by omega]⟩) n hn))
    have key : ∀ k, k ≤ len → ∃ (l : List X) (css : List (List Value)), l.length = k ∧ Each Q l css ∧ (∀ cs ∈ css, cs.length = z ∧ ∀ u ∈ cs, u.oneCell' = true) ∧ ∀ i cs, css[i]? = some cs → ∀ j u, cs[j]? = some u → w.cell? (a.add (i * z + j)) = some u := by
      intro k
      induction k with
      | zero => exact fun _ => ⟨[], [], rfl, .nil, by simp, by simp⟩
      | succ k ih =>
        intro hk
        obtain ⟨l, css, h1, h2, h3, h4⟩ := ih (by omega)
        obtain ⟨cs, hc, htr⟩ := hi k (by omega)
        obtain ⟨_, hcl, hat⟩ := World.cells?_some hc
        obtain ⟨x, hq, ho⟩ := hX n cs _ htr (hw k (by omega)) hcl
        refine ⟨l ++ [x], css ++ [cs], by simp [h1], h2.append (.cons hq .nil), fun c hc' => ?_, fun i c hi' j u hj => ?_⟩
        · rcases List.mem_append.1 hc' with h5 | h5
          · exact h3 c h5
          · simp at h5; subst h5; exact ⟨hcl, ho⟩
        · by_cases hik : i < css.length
          · rw [List.getElem?_append_left hik] at hi'
            exact h4 i c hi' j u hj
          · rw [List.getElem?_append_right (by omega)] at hi'
            have hi0 : i - css.length = 0 := by
              have := (List.getElem?_eq_some_iff.1 hi').1
              simp at this
              omega
            rw [hi0] at hi'
            simp at hi'
            subst hi'
            have hik2 : i = k := by have := h2.len; omega
            subst hik2
            obtain ⟨hjl, hju⟩ := List.getElem?_eq_some_iff.1 hj
            rw [← Go.Deep.add_add, hat j (by omega)]
            exact hj
    obtain ⟨l, css, h1, h2, h3, h4⟩ := key len (Nat.le_refl _)
    have hcz : ∀ cs ∈ css, cs.length = z := fun cs hc => (h3 cs hc).1
    refine ⟨l, ⟨some a, m, css, by rw [h1], h2, hcz, ⟨?_, fun u hu => ?_, by simp, fun a' ea j u hj => ?_⟩, by rw [h1]; exact hl, hm, fun a' ea hne => ?_⟩, ?_⟩
    · rw [flat_len hcz, h2.len]
    · obtain ⟨cs, hc, hu'⟩ := List.mem_flatten.1 hu
      exact (h3 cs hc).2 u hu'
    · cases ea
      have hjl := (List.getElem?_eq_some_iff.1 hj).1
      rw [flat_len hcz] at hjl
      have hi' : j / z < css.length := Nat.div_lt_of_lt_mul (by rwa [Nat.mul_comm] at hjl)
      have hr : j % z < z := Nat.mod_lt _ h0
      have hcs : css[j / z]? = some (css[j / z]) := List.getElem?_eq_getElem hi'
      have hcl := hcz _ (List.mem_of_getElem? hcs)
      have hcj : (css[j / z])[j % z]? = some ((css[j / z])[j % z]'(by omega)) := List.getElem?_eq_getElem (by omega)
      have e1 := flat_get hcz hcs hcj
      have ej : j / z * z + j % z = j := by rw [Nat.mul_comm]; exact Nat.div_add_mod j z
      rw [ej, hj] at e1
      cases e1
      have := h4 _ _ hcs _ _ hcj
      rw [ej] at this
      exact this
    · cases ea
      have hcs : css[0]? = some (css[0]'(by have := h2.len; omega)) := List.getElem?_eq_getElem _
      have hcl := hcz _ (List.mem_of_getElem? hcs)
      have := h4 0 _ hcs 0 _ (List.getElem?_eq_getElem (by omega))
      have hlt := World.block_lt_of_cell? w _ this
      have hb : (a.add (0 * z + 0)).block = a.block := by unfold Addr.add; split <;> rfl
      rw [hb] at hlt
      exact hlt
    · have := hf ((((List.range len).map D).length + ((List.range (m - len)).map fun j => D (len + j)).length) * P.bytesOf e) (by simp only [DataW.weights, ht]; exact List.mem_cons_self)
      simp only [List.length_map, List.length_range] at this
      rw [h1]
      exact Nat.le_trans (Nat.mul_le_mul_right _ (by omega)) this
end
end Go.Proofs.YteeepelmkfiocaaGreatDoor
