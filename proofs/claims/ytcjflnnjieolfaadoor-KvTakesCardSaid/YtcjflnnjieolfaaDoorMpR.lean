/- A range over a map that has what a rising row says. Over any program. -/
import Derived.Test.YtcjflnnjieolfaaDoorMpS
namespace Go.Proofs.YtcjflnnjieolfaaDoor
open Go.RowKit Go.ChangeMaps Go.WideShapes

section
variable {P : Program} {κ α : Type} {M : MapKind P κ α} {w w' : World} {g r n : Nat} {l : List (κ × α)} {left : Lit → Bool} {cnt : Nat}
/-- A range over map g under way, its iterator at r: what is left of it. -/
def MapKind.rng (M : MapKind P κ α) (w : World) (g r : Nat) (l : List (κ × α)) (left : Lit → Bool) (cnt : Nat) : Prop := w.ranges P M.kt M.R g r l.length (toD M.K M.dat l) left cnt
theorem mfind_of_mem [DecidableEq κ] {p : κ × α} (h : p ∈ l) : ∃ v, mfind l p.1 = some v := by
  induction l with
  | nil => cases h
  | cons y t ih =>
    rw [mfind_cons]
    by_cases e : y.1 = p.1
    · exact ⟨_, by rw [if_pos e]⟩
    · rw [if_neg e]
      rcases List.mem_cons.1 h with rfl | h
      · exact absurd rfl e
      · exact ih h
theorem MapKind.rng_left [DecidableEq κ] (h : M.rng w g r l left cnt) {kl : Lit} (hk : left kl = true) : ∃ k v, kl = M.K.lit k ∧ mfind l k = some v ∧ ∃ q ∈ l, q.1 = k := by
  obtain ⟨es, clock, since, seen, c0, -, -, -, hD, -, -, -, -, hl, -, -⟩ := h
  obtain ⟨x, hx, hkl⟩ := hl kl hk
  have hm : WideElems.rg P M.kt M.R x ∈ (es.toList.map (WideElems.rg P M.kt M.R)).foldr DataW.insert [] := Go.mem_sorted.2 (List.mem_map.2 ⟨x, hx, rfl⟩)
  have hD' : l.map (fun p => (M.K.lit p.1, M.dat p.2)) = (es.toList.map (WideElems.rg P M.kt M.R)).foldr DataW.insert [] := by
    unfold toD at hD
    exact DataW.map.inj hD
  rw [← hD'] at hm
  obtain ⟨p, hp, he⟩ := List.mem_map.1 hm
  obtain ⟨v, hv⟩ := mfind_of_mem hp
  refine ⟨p.1, v, ?_, hv, p, hp, rfl⟩
  rw [← hkl, ← he]
theorem MapKind.rng_is (h : M.rng w g r l left cnt) : M.is w g l := World.ranges.owns h
theorem MapKind.rng_ne (h : M.rng w g r l left cnt) : r ≠ g := World.ranges.ne h
theorem grown_of_upd {S : List Nat} (hu : Upd S w w') {row : Option Nat} (hr : ∀ k ∈ S, row = some k) : w.grownBy w' row :=
  ⟨hu.os, hu.tape, hu.output, hu.size, fun k hk hne => hu.block k hk fun hm => hne (hr k hm).symm⟩
theorem MapKind.rng_upd {S : List Nat} (h : M.rng w g r l left cnt) (hu : Upd S w w') (hg : g ∉ S) (hr : r ∉ S) : M.rng w' g r l left cnt := by
  have hlg := MapKind.is_lt (MapKind.rng_is h)
  have hlr : r < w.heap.size := World.ranges.lt h
  obtain ⟨es, clock, since, seen, c0, h1, h2, h3, h4, h5, h6⟩ := h
  exact ⟨es, clock, since, seen, c0, (hu.block g hlg hg).trans h1, h2, h3, h4, (hu.block r hlr hr).trans h5, h6⟩
theorem MapKind.rng_cnt (h : M.rng w g r l left cnt) : w.rangeLeft g r = cnt := World.ranges.left_eq h
theorem upd_none (h : w.grownBy w' none) : Upd [] w w' := Upd.of_grownBy h fun k e => by cases e
section
variable (w) {ops : Array Oper} {rest : List Oper} {o : Oper} {a : Act} {Q : Exit → Act → World → Prop}
theorem wpList_range_map (hg : o.guard = none) (m : Operand) (hop : o.op = Op.range M.t m) (hm : a.eval m = .map (some g)) (h : M.is w g l)
    (hK : ∀ w', M.rng w' g w.heap.size l (Maps.has (toD M.K M.dat l)) l.length → Upd [] w w' → w'.heap.size = w.heap.size + 1 → wpList P ops Q rest (a.put o.dst (.pointer (some ⟨w.heap.size, 0, none⟩))) w') :
    wpList P ops Q (o :: rest) a w :=
  wpList_range_own w hg m M.t hop M.kt M.et M.keyed M.ht M.R g l.length (toD M.K M.dat l) hm h fun w' h1 h2 h3 => hK w' (by rw [toD_size] at h1; exact h1) (upd_none h2) h3
theorem wpList_next_map [DecidableEq κ] (hg : o.guard = none) (it : Operand) (hop : o.op = Op.next it false) (hit : a.eval it = .pointer (some ⟨r, 0, none⟩)) (h : M.rng w g r l left cnt) (hok : ∀ p ∈ l, M.okk p.1)
    (hDone : cnt = 0 → (∀ kl, left kl = false) → wpList P ops Q rest (a.put o.dst (.tuple #[.bool false])) w)
    (hMore : ∀ (k : κ) (v : α) (w' : World) (cnt' : Nat), left (M.K.lit k) = true → mfind l k = some v → M.rng w' g r l (fun z => left z && !z.sameKey (M.K.lit k)) cnt' → cnt' < cnt → Upd [r] w w' → w'.heap.size = w.heap.size →
      (Instr.entry (.pointer (some ⟨r, 0, none⟩))).run P w' = .ok (.tuple #[M.kv k, M.ev v]) w' → wpList P ops Q rest (a.put o.dst (.tuple #[.bool true, M.kv k, M.ev v])) w') :
    wpList P ops Q (o :: rest) a w :=
  wpList_next_ranges w hg it hop M.kt M.keyed M.R id id (fun key _ _ => ⟨key, rfl⟩) (fun v _ _ => ⟨v, rfl⟩) g r l.length (toD M.K M.dat l) left cnt hit h hDone fun x c kl y w' cnt' hkey hl hR hat hrg hlt hgr hsz hen => by
    obtain ⟨k, v, rfl, hv, q, hq, rfl⟩ := MapKind.rng_left h hl
    have hx : x = M.kv q.1 := M.keyed.inj hkey (M.hkey (hok q hq))
    have hy := hat (M.dat M.z)
    rw [toD_at, hv] at hy
    have hc : c = M.ev v := M.inv (ps := y.2) (by rw [show id c = c from rfl] at hR; rw [hR]; show some y = some (M.dat v, y.2); rw [show M.dat v = y.1 from hy])
    subst hx; subst hc
    exact hMore q.1 v w' cnt' hl hv hrg hlt (upd_of_grownRow hgr) hsz hen
end
end
end Go.Proofs.YtcjflnnjieolfaaDoor
