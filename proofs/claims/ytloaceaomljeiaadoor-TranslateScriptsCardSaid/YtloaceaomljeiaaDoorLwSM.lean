/- Scripts, as plain data: what stands at each place. No program here. -/
import Derived.Test.YtloaceaomljeiaaDoorLwMay
import Derived.Test.YtloaceaomljeiaaDoorLwM
namespace Go.Proofs.YtloaceaomljeiaaDoor.Tr
open Go.RowKit Go.Proofs.YtloaceaomljeiaaDoor.Crc Go.Proofs.YtloaceaomljeiaaDoor.Cm

theorem subs_at {l : List En} {k : Nat} {e : En} (h : l[k]? = some e) (h1 : e.kind = 1) (h2 : Cm.Good e.cmd) : ∃ rest, subsM l = subsM (l.take k) ++ e.cmd :: rest := by
  have hlt := (List.getElem?_eq_some_iff.1 h).1
  have he := (List.getElem?_eq_some_iff.1 h).2
  have e1 : l = l.take k ++ e :: l.drop (k + 1) := by rw [← he, ← List.drop_eq_getElem_cons hlt, List.take_append_drop]
  refine ⟨subsM (l.drop (k + 1)), ?_⟩
  conv => lhs; rw [e1]
  unfold subsM
  simp [h1, h2]
theorem script_sub {m : Nat} {l : List En} {log : List Sl} {k : Nat} {e : En} (h : l[k]? = some e) (h1 : e.kind = 1) (h2 : Cm.Good e.cmd) : (scriptM m l log)[(subsM (l.take k)).length]? = some (submitE e.cmd) := by
  obtain ⟨rest, hr⟩ := subs_at h h1 h2
  unfold scriptM
  rw [hr, List.map_append, List.append_assoc, List.getElem?_append_right (by simp)]
  simp
theorem place_none {ws : List Cm} {c : Cm} (h : ∀ (j : Nat) (x : Cm), ws[j]? = some x → x ≠ c) : placeM ws c = none := by
  unfold placeM
  rw [List.findIdx?_eq_none_iff]
  intro x hx
  obtain ⟨j, hj⟩ := List.mem_iff_getElem?.1 hx
  simpa using h j x hj
theorem place_some {ws : List Cm} {c : Cm} {k : Nat} (hk : ws[k]? = some c) (h : ∀ (j : Nat) (x : Cm), j < k → ws[j]? = some x → x ≠ c) : placeM ws c = some k := by
  unfold placeM
  rw [List.findIdx?_eq_some_iff_getElem]
  obtain ⟨hlt, he⟩ := List.getElem?_eq_some_iff.1 hk
  refine ⟨hlt, by simpa using he, fun j hj => ?_⟩
  have := h j _ hj (List.getElem?_eq_getElem (by omega))
  simpa using this
theorem place_nil {ws : List Cm} {c : Cm} (h : placeM ws c = none) (m : Nat) (cs : List Cm) : electsM m ws (c :: cs) = [] := elects_none h
theorem elect_at {F O R : List En} {k m : Nat} (h : F = O ++ electE k :: (List.replicate (5 * m) takeE ++ R)) : F[O.length]? = some (electE k) ∧ O.length + 5 * m < F.length ∧ ∀ j, j < 5 * m → F[O.length + 1 + j]? = some takeE := by
  subst h
  refine ⟨by simp, by simp; omega, fun j hj => ?_⟩
  rw [List.getElem?_append_right (by omega), show O.length + 1 + j - O.length = j + 1 by omega, List.getElem?_cons_succ, List.getElem?_append_left (by simpa using hj)]
  simp [hj]
theorem elect_next {F O R : List En} {k m : Nat} (h : F = O ++ electE k :: (List.replicate (5 * m) takeE ++ R)) : F = (O ++ electE k :: List.replicate (5 * m) takeE) ++ R ∧ (O ++ electE k :: List.replicate (5 * m) takeE).length = O.length + 1 + 5 * m := by
  subst h
  refine ⟨by simp, by simp; omega⟩
theorem erase_eq (V : List Cm) (k : Nat) : V.eraseIdx k = V.take k ++ V.drop (k + 1) := List.eraseIdx_eq_take_drop_succ V k
theorem row_src {X : Type} {w : World} {T : Nat → Prop} {z : Nat} {P : X → List Value → Prop} {xo : Option Addr} {n c : Nat} {l : List X} (h : Row w T z P (.slice xo n c) l) : n = l.length ∧ ∃ css, Each P l css ∧ (∀ cs ∈ css, cs.length = z) ∧ SrcAt w xo n c css.flatten z := by
  obtain ⟨xo', c', css, e, -, -, h1, h2, h3, -⟩ := Row.src h
  cases e
  exact ⟨rfl, css, h1, h2, h3⟩
theorem own_empty {X : Type} {w : World} {base : Nat} {ty : TypeId} {z g : Nat} {P : X → List Value → Prop} (hg : w.heap[g]? = some (.cells #[] ty (0, 0))) (hb : base ≤ g) : Own w base ty z P (.slice (some ⟨g, 0, none⟩) 0 0) ([] : List X) :=
  ⟨[], .nil, by simp, by simp, .inr ⟨g, 0, #[], rfl, hb, hg, Nat.le_refl _, by simp [maxLen], by simp, by simp⟩⟩
theorem elects_nil (m : Nat) (ws : List Cm) : electsM m ws [] = [] := by unfold electsM; rfl
/-- The region of a number in a function's code. -/
def findOps (n : Nat) : Code → Array Oper
  | .region id ops _ => if id = n then ops else #[]
  | .seq a b => if (findOps n a).isEmpty then findOps n b else findOps n a
  | .cond _ a b => if (findOps n a).isEmpty then findOps n b else findOps n a
  | .block _ a => findOps n a
  | .loop a => findOps n a
  | _ => #[]
end Go.Proofs.YtloaceaomljeiaaDoor.Tr
