/- Kinds of things in memory, rows of them, and rows that a call builds whose things lie beside the row. Over any program. -/
import Derived.Test.YtcjflnnjieolfaaDoorRowG
namespace Go.Proofs.YtcjflnnjieolfaaDoor
open Go.RowKit Go.Proofs.YtcjflnnjieolfaaDoor.Crc

/-- A kind of things: how many cells one has, and what these are, where what it points at lies within the blocks T. -/
structure Kind (X : Type) where
  z : Nat
  hz : 0 < z
  holds : World → (Nat → Prop) → X → List Value → Prop
  len : ∀ {w T x cs}, holds w T x cs → cs.length = z
  one : ∀ {w T x cs}, holds w T x cs → ∀ u ∈ cs, u.oneCell' = true
  upd : ∀ {w w' T x cs} {S : List Nat}, holds w T x cs → Upd S w w' → (∀ k ∈ S, ¬ T k) → holds w' T x cs
  mono : ∀ {w T U x cs}, holds w T x cs → (∀ k, T k → U k) → holds w U x cs
/-- What lies beside a row that is built from base on. -/
def beside (base : Nat) (w : World) (v : Value) (k : Nat) : Prop := base ≤ k ∧ k < w.heap.size ∧ v.ownBlock ≠ some k
/-- What lies there from base on. -/
def since (base : Nat) (w : World) (k : Nat) : Prop := base ≤ k ∧ k < w.heap.size
section
variable {X : Type} {K : Kind X} {w w' : World} {T U : Nat → Prop} {v : Value} {l : List X} {S : List Nat} {base : Nat} {ty : TypeId}
def Kind.row (K : Kind X) (w : World) (T : Nat → Prop) (v : Value) (l : List X) : Prop := Row w T K.z (K.holds w T) v l
theorem Kind.row_upd (h : K.row w T v l) (hu : Upd S w w') (hS : ∀ k ∈ S, ¬ T k) : K.row w' T v l := Row.upd h hu hS fun _ _ _ h1 => K.upd h1 hu hS
theorem Kind.row_upd_nil (h : K.row w T v l) (hu : Upd [] w w') : K.row w' T v l := K.row_upd h hu (by simp)
theorem Kind.row_mono (h : K.row w T v l) (hT : ∀ k, T k → U k) : K.row w U v l := Row.mono h hT fun _ _ _ h1 => K.mono h1 hT
theorem Kind.row_nil (K : Kind X) (w : World) (T : Nat → Prop) : K.row w T (.slice none 0 0) [] := Row.nil _ _ _ _
/-- A row that a call builds. -/
def Kind.bag (K : Kind X) (ty : TypeId) (w : World) (base : Nat) (v : Value) (l : List X) : Prop := Own w base ty K.z (K.holds w (beside base w v)) v l
theorem Kind.bag_nil (K : Kind X) (ty : TypeId) (w : World) (base : Nat) : K.bag ty w base (.slice none 0 0) [] := Own.nil _ _ _ _ _
theorem Kind.bag_upd (h : K.bag ty w base v l) (hu : Upd S w w') (hS : ∀ k ∈ S, k < base) : K.bag ty w' base v l :=
  Own.upd h hu (fun k hk hm => by have := (Own.lt h k hk).1; have := hS k hm; omega) fun _ _ _ h1 =>
    K.mono (K.upd h1 hu (fun k hk h2 => by have := hS k hk; have := h2.1; omega)) (fun k h2 => ⟨h2.1, by have := h2.2.1; have := hu.size; omega, h2.2.2⟩)
theorem Kind.bag_upd_nil (h : K.bag ty w base v l) (hu : Upd [] w w') : K.bag ty w' base v l := K.bag_upd h hu (by simp)
theorem Kind.bag_row (h : K.bag ty w base v l) : K.row w (since base w) v l := by
  obtain ⟨xo, c, css, e, h1, h2, h3, h4, h5, h6⟩ := Own.row h
  have hl := Own.lt h
  refine ⟨xo, c, css, e, h1.mono fun _ _ _ h1 => K.mono h1 (fun k h2 => ⟨h2.1, h2.2.1⟩), h2, h3, h4, h5, fun a ha hm => ?_⟩
  exact hl _ (h6 a ha hm)
theorem Kind.bag_open (h : K.bag ty w base v l) : ∃ css, Each (K.holds w (beside base w v)) l css ∧ w.ownsRow base ty K.z v l.length css.flatten := by
  obtain ⟨css, h1, h2, h3⟩ := h
  exact ⟨css, h1, h3⟩
theorem Kind.bag_of {css : List (List Value)} (h1 : Each (K.holds w (beside base w v)) l css) (h3 : w.ownsRow base ty K.z v l.length css.flatten) : K.bag ty w base v l :=
  ⟨css, h1, fun cs hc => by obtain ⟨x, -, h⟩ := h1.mem hc; exact ⟨K.len h, K.one h⟩, h3⟩
/-- An append of more. -/
theorem Kind.bag_mores {k : List X} {css kss : List (List Value)} {ao : Option Addr} {n cap : Nat} (h1 : Each (K.holds w (beside base w v)) l css) (hk : Each (K.holds w (beside base w v)) k kss)
    (ho : w'.ownsRow base ty K.z (.slice ao n cap) n (css.flatten ++ kss.flatten)) (hn : n = l.length + k.length) (hu : Upd v.ownBlock.toList w w')
    (hg : ∀ g, (Value.slice ao n cap).ownBlock = some g → v.ownBlock = some g ∨ w.heap.size ≤ g) : K.bag ty w' base (.slice ao n cap) (l ++ k) := by
  have tr : ∀ x cs, K.holds w (beside base w v) x cs → K.holds w' (beside base w' (.slice ao n cap)) x cs := fun x cs h => by
    refine K.mono (K.upd h hu (fun k hk h2 => ?_)) (fun k h2 => ⟨h2.1, by have := h2.2.1; have := hu.size; omega, fun e => ?_⟩)
    · have := h2.2.2
      cases hv : v.ownBlock with
      | none => rw [hv] at hk; simp at hk
      | some g => rw [hv] at hk; simp at hk; subst hk; exact this hv
    · rcases hg k e with h5 | h5
      · exact h2.2.2 h5
      · have := h2.2.1; omega
  refine Kind.bag_of ((h1.mono fun x cs _ h => tr x cs h).append (hk.mono fun x cs _ h => tr x cs h)) ?_
  rw [List.flatten_append, List.length_append, ← hn]
  exact ho
theorem Kind.bag_more {x : X} {css : List (List Value)} {cs : List Value} {ao : Option Addr} {n cap : Nat} (h1 : Each (K.holds w (beside base w v)) l css) (hk : K.holds w (beside base w v) x cs)
    (ho : w'.ownsRow base ty K.z (.slice ao n cap) n (css.flatten ++ cs)) (hn : n = l.length + 1) (hu : Upd v.ownBlock.toList w w')
    (hg : ∀ g, (Value.slice ao n cap).ownBlock = some g → v.ownBlock = some g ∨ w.heap.size ≤ g) : K.bag ty w' base (.slice ao n cap) (l ++ [x]) :=
  Kind.bag_mores h1 (.cons hk .nil) (by simpa using ho) (by simpa using hn) hu hg
/-- What is new lies beside. -/
theorem since_beside {w0 : World} (hv : ∀ k, v.ownBlock = some k → k < w0.heap.size) (hb : base ≤ w0.heap.size) : ∀ k, since w0.heap.size w k → beside base w v k := fun k h =>
  ⟨by have := h.1; omega, h.2, fun e => by have := hv k e; have := h.1; omega⟩
end
end Go.Proofs.YtcjflnnjieolfaaDoor
