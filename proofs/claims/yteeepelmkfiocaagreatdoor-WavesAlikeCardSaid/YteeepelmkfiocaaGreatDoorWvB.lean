/- Turns and waves of a batch, looked up by its turns. No program here. -/
import Derived.Test.YteeepelmkfiocaaGreatDoorWvA
namespace Go.Proofs.YteeepelmkfiocaaGreatDoor.Kv
set_option linter.unusedSimpArgs false
set_option linter.unusedVariables false
set_option linter.unnecessarySimpa false
open Go.RowKit Go.Lib Go.Proofs.YteeepelmkfiocaaGreatDoor.Crc Go.Proofs.YteeepelmkfiocaaGreatDoor.Cm

/-- What is set of each turn when i places were looked at. -/
def atM (ord : List (Nat × Nat)) (i : Nat) : List Value := ord.map fun p => if p.1 < i then nV p.2 else .int .i64 (-1)
theorem atM_len (ord : List (Nat × Nat)) (i : Nat) : (atM ord i).length = ord.length := by simp [atM]
theorem at_zero (ord : List (Nat × Nat)) : atM ord 0 = List.replicate ord.length (.int .i64 (-1)) := by
  refine List.ext_getElem? fun j => ?_
  unfold atM
  rw [List.getElem?_map, List.getElem?_replicate]
  by_cases h : j < ord.length
  · rw [List.getElem?_eq_getElem h, if_pos h]; simp
  · rw [List.getElem?_eq_none (by omega), if_neg h]; rfl
theorem at_get {ord : List (Nat × Nat)} {i t wv : Nat} (ht : ord[t]? = some (i, wv)) : (atM ord i)[t]? = some (.int .i64 (-1)) := by
  unfold atM
  rw [List.getElem?_map, ht]
  simp
theorem at_step {ord : List (Nat × Nat)} {i t wv : Nat} (hn : (ord.map (·.1)).Nodup) (ht : ord[t]? = some (i, wv)) : atM ord (i + 1) = (atM ord i).set t (nV wv) := by
  have htl := (List.getElem?_eq_some_iff.1 ht).1
  refine List.ext_getElem? fun j => ?_
  by_cases e : t = j
  · subst e
    rw [List.getElem?_set_self (by rw [atM_len]; exact htl)]
    unfold atM
    rw [List.getElem?_map, ht]
    simp
  · rw [List.getElem?_set_ne e]
    unfold atM
    rw [List.getElem?_map, List.getElem?_map]
    cases hj : ord[j]? with
    | none => rfl
    | some p =>
      have hne : p.1 ≠ i := by
        intro hp
        have hjl := (List.getElem?_eq_some_iff.1 hj).1
        have h1 : (ord.map (·.1))[j]? = some i := by rw [List.getElem?_map, hj]; simp [hp]
        have h2 : (ord.map (·.1))[t]? = some i := by rw [List.getElem?_map, ht]; rfl
        exact e ((List.getElem?_inj (by simpa using htl) hn).1 (h2.trans h1.symm))
      simp only [Option.map_some]
      by_cases hp : p.1 < i
      · rw [if_pos hp, if_pos (by omega)]
      · rw [if_neg hp, if_neg (by omega)]
theorem at_all {ord : List (Nat × Nat)} {n : Nat} (h : ∀ p ∈ ord, p.1 < n) : atM ord n = ord.map fun p => nV p.2 := by
  unfold atM
  exact List.map_congr_left fun p hp => if_pos (h p hp)
theorem one_get {l : List Cm} {a : Ap} {n i : Nat} {r : Rp} {f : Bool} (hi : i < n) (h : (i, r, f) ∈ (runM l a (List.range n)).2) : (oneD l a n)[i]? = some ⟨r, f, 0, i⟩ := by
  have hp := run_places l (List.range n) a
  have hl : (runM l a (List.range n)).2.length = n := by have := congrArg List.length hp; simpa using this
  obtain ⟨t, ht⟩ : ∃ t, (runM l a (List.range n)).2[i]? = some t := ⟨_, List.getElem?_eq_getElem (by omega)⟩
  have h1 : ((runM l a (List.range n)).2.map (·.1))[i]? = some t.1 := by rw [List.getElem?_map, ht]; rfl
  rw [hp, List.getElem?_range hi] at h1
  cases h1
  have h2 := run_one (l := l) (a := a) List.nodup_range (p := t.1) (x := (r, f)) (y := t.2) h (List.mem_of_getElem? ht)
  unfold oneD
  rw [List.getElem?_map, ht, Option.map_some, ← h2]
theorem alike_says {l : List Cm} {ps : List Int} {a : Ap} (ha : ApRise a) :
    (runD l a (orderM l ps) 0 (List.replicate l.length dn0)).1 = (runM l a (List.range l.length)).1 ∧
    (runD l a (orderM l ps) 0 (List.replicate l.length dn0)).2.length = l.length ∧
    ∀ i, i < l.length → ∃ d, (runD l a (orderM l ps) 0 (List.replicate l.length dn0)).2[i]? = some d ∧ (oneD l a l.length)[i]? = some ⟨d.r, d.fresh, 0, i⟩ ∧ (orderM l ps)[d.turn]? = some (i, d.wave) := by
  obtain ⟨h1, h2, h3⟩ := alike (l := l) (ps := ps) ha
  refine ⟨h1, h2, fun i hi => ?_⟩
  obtain ⟨d, g1, g2, g3⟩ := h3 i hi
  exact ⟨d, g1, one_get hi g2, g3⟩
theorem order_rises {l : List Cm} {ps : List Int} {i : Nat} {p q : Nat × Nat} (hp : (orderM l ps)[i]? = some p) (hq : (orderM l ps)[i + 1]? = some q) : p.2 ≤ q.2 := by
  have h := List.pairwise_iff_getElem.1 (orderM_up l ps)
  obtain ⟨h1, rfl⟩ := List.getElem?_eq_some_iff.1 hp
  obtain ⟨h2, rfl⟩ := List.getElem?_eq_some_iff.1 hq
  exact h i (i + 1) h1 h2 (by omega)
theorem ApOk.up {a : Ap} {k : Nat} (h : ApOk a k) : ApRise a := ⟨h.kv.1, h.rise⟩
end Go.Proofs.YteeepelmkfiocaaGreatDoor.Kv
