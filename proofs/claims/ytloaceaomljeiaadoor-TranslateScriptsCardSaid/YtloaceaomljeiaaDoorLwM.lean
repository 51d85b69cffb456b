/- The logs of the laws of layer 25, as plain data: how long they are. No program here. -/
import Derived.Test.YtloaceaomljeiaaDoorTrF
namespace Go.Proofs.YtloaceaomljeiaaDoor.Tr
open Go.RowKit Go.Proofs.YtloaceaomljeiaaDoor.Crc Go.Proofs.YtloaceaomljeiaaDoor.Cm

theorem partedM_mem {ds : List Dn} {left : List An} {x : Sl} (h : x ∈ partedM ds left) : ∃ (b : List UInt8) (l : List An), x.cmds = (parseM b).1 ∧ x.ans = l.take (parseM b).1.length := by
  induction ds generalizing left with
  | nil => simp [partedM] at h
  | cons d ds ih =>
    simp only [partedM, List.mem_cons] at h
    rcases h with rfl | h
    · exact ⟨_, _, rfl, rfl⟩
    · exact ih h
theorem allM_mem {told : List Td} {x : Sl} (h : x ∈ allM told) : x.cmds.length ≤ 8 ∧ x.ans.length ≤ 8 ∧ ∀ c ∈ x.cmds, Cm.Good c := by
  unfold allM at h
  obtain ⟨t, -, h⟩ := List.mem_flatMap.1 h
  obtain ⟨b, l, h1, h2⟩ := partedM_mem h
  have h3 := parseM_says b
  rw [h1, h2]
  refine ⟨h3.1, ?_, h3.2⟩
  rw [List.length_take]
  omega
theorem Small.all {told : List Td} (h : Small told) : (allM told).length ≤ 1200 := by
  have key : ∀ l : List Td, (∀ t ∈ l, t.done.length ≤ 20) → (allM l).length ≤ 20 * l.length := by
    intro l
    induction l with
    | nil => simp [allM]
    | cons t l ih =>
      intro h
      have h1 := ih fun t ht => h t (by simp [ht])
      have h2 := h t (by simp)
      unfold allM at h1 ⊢
      rw [List.flatMap_cons, List.length_append, partedM_len, List.length_cons]
      omega
  have := key told fun t ht => (h.2 t ht).1
  have := h.1
  omega
theorem flat_len_le {X Y : Type} {f : X → List Y} {z : Nat} : ∀ {l : List X}, (∀ x ∈ l, (f x).length ≤ z) → (l.flatMap f).length ≤ l.length * z
  | [], _ => by simp
  | x :: l, h => by
    have h1 := flat_len_le (l := l) fun x hx => h x (by simp [hx])
    have h2 := h x (by simp)
    rw [List.flatMap_cons, List.length_append, List.length_cons, Nat.add_mul]
    omega
/-- What is to be known of a log of what is small. -/
structure LogOk (out : List Sl) : Prop where
  len : out.length ≤ 1200
  cmds : ∀ x ∈ out, x.cmds.length ≤ 8
  ans : ∀ x ∈ out, x.ans.length ≤ 8
  good : ∀ x ∈ out, ∀ c ∈ x.cmds, c.keys.length * 16 ≤ 140737488355328
theorem Small.ok {told : List Td} {out : List Sl} (h : Small told) (hl : LogIs (allM told) out) : LogOk out := by
  have hm : ∀ x ∈ out, x ∈ allM told := fun x hx => by
    obtain ⟨i, hi⟩ := List.mem_iff_getElem?.1 hx
    exact findM_mem (hl.1 i x hi)
  refine ⟨Nat.le_trans hl.1.le h.all, fun x hx => (allM_mem (hm x hx)).1, fun x hx => (allM_mem (hm x hx)).2.1, fun x hx c hc => ?_⟩
  have := ((allM_mem (hm x hx)).2.2 c hc)
  have h5 : c.keys.length ≤ hi c.kind := this.2.2.2.2.1
  have h6 : hi c.kind ≤ 16 := by
    have h7 : c.kind < 9 := this.2.2.1
    revert h7
    generalize c.kind = q
    revert q
    decide
  omega
theorem LogOk.take {out : List Sl} (h : LogOk out) (k : Nat) : ((out.take k).flatMap (·.cmds)).length ≤ 9600 ∧ ((out.take k).flatMap (·.ans)).length ≤ 9600 := by
  have h1 : (out.take k).length ≤ 1200 := by rw [List.length_take]; have := h.len; omega
  have h2 := flat_len_le (l := out.take k) (f := (·.cmds)) (z := 8) fun x hx => h.cmds x (List.mem_of_mem_take hx)
  have h3 := flat_len_le (l := out.take k) (f := (·.ans)) (z := 8) fun x hx => h.ans x (List.mem_of_mem_take hx)
  omega
/-- Where nothing is found, the log is at its end. -/
theorem LogIs.at_none {l out : List Sl} {k : Nat} (h : LogIs l out) (hk : k ≤ out.length) (hn : findM l (k + 1) = none) : k = out.length := by
  rcases Nat.lt_or_ge k out.length with h1 | h1
  · have := h.1 k _ (List.getElem?_eq_getElem h1)
    rw [hn] at this
    cases this
  · omega
theorem LogIs.at_some {l out : List Sl} {k : Nat} {x : Sl} (h : LogIs l out) (hk : k ≤ out.length) (hn : findM l (k + 1) = some x) : out[k]? = some x ∧ k < out.length := by
  rcases Nat.lt_or_ge k out.length with h1 | h1
  · have := h.1 k _ (List.getElem?_eq_getElem h1)
    rw [hn] at this
    cases this
    exact ⟨List.getElem?_eq_getElem h1, h1⟩
  · have : k = out.length := by omega
    subst this
    rw [h.2] at hn
    cases hn
end Go.Proofs.YtloaceaomljeiaaDoor.Tr
