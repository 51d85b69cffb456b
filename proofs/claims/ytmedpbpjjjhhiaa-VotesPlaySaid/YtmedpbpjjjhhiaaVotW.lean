/- A row of spans in memory; the set's inner calls. -/
import Derived.Test.YtmedpbpjjjhhiaaVotM
import Derived.IntWalk
namespace Go.Proofs.Ytmedpbpjjjhhiaa.Vot
open Go.RowKit

abbrev TSp : TypeId := 64
abbrev TSet : TypeId := 61
abbrev TTal : TypeId := 57
def u64 (n : Nat) : Value := .int .u64 (n : Int)
/-- A span's cells. -/
def spc (p : Sp) : List Value := [.int .u64 (p.1 : Int), .int .u64 (p.2 : Int)]
/-- A span as a value. -/
def spv (p : Sp) : Value := .agg #[.int .u64 (p.1 : Int), .int .u64 (p.2 : Int)]
def SpRow (w : World) (base : Nat) (v : Value) (l : List Sp) : Prop := w.ownsRow base TSp 2 v l.length (l.flatMap spc)
theorem spc_get {l : List Sp} {i : Nat} {p : Sp} (h : l[i]? = some p) : (l.flatMap spc)[i * 2]? = some (.int .u64 (p.1 : Int)) ∧ (l.flatMap spc)[i * 2 + 1]? = some (.int .u64 (p.2 : Int)) := by
  induction l generalizing i with
  | nil => simp at h
  | cons q l ih =>
    rw [List.flatMap_cons]
    cases i with
    | zero =>
      simp at h
      subst h
      simp [spc]
    | succ i =>
      have h1 := ih (by simpa using h)
      have e1 : (i + 1) * 2 = (spc q).length + i * 2 := by simp [spc]; omega
      have e2 : (i + 1) * 2 + 1 = (spc q).length + (i * 2 + 1) := by simp [spc]; omega
      rw [e2, e1, List.getElem?_append_right (by omega), List.getElem?_append_right (by omega), Nat.add_sub_cancel_left, Nat.add_sub_cancel_left]
      exact h1
theorem spc_len (l : List Sp) : (l.flatMap spc).length = l.length * 2 := by
  induction l with
  | nil => rfl
  | cons p l ih => rw [List.flatMap_cons, List.length_append, ih, List.length_cons]; simp [spc]; omega
theorem SpRow.nil (w : World) (base : Nat) : SpRow w base (.slice none 0 0) [] := World.ownsRow_nil w base TSp 2
theorem SpRow.get {w : World} {base : Nat} {v : Value} {l : List Sp} (h : SpRow w base v l) : ∃ ao cap, v = .slice ao l.length cap ∧ l.length ≤ cap ∧ cap ≤ maxLen ∧ ∀ i p, l[i]? = some p → ∃ g, ao = some ⟨g, 0, none⟩ ∧ base ≤ g ∧ g < w.heap.size ∧ w.cell? ⟨g, i * 2, none⟩ = some (.int .u64 (p.1 : Int)) ∧ w.cell? ⟨g, i * 2 + 1, none⟩ = some (.int .u64 (p.2 : Int)) := by
  obtain ⟨ao, cap, rfl, h1, h2, h3⟩ := owns_slice h
  refine ⟨ao, cap, rfl, h1, h2, fun i p hi => ?_⟩
  obtain ⟨h4, h5⟩ := spc_get hi
  obtain ⟨g, rfl, hg, hl, hc⟩ := h3 _ _ h4
  obtain ⟨g', e, -, -, hc'⟩ := h3 _ _ h5
  cases e
  exact ⟨g, rfl, hg, hl, hc, hc'⟩
/-- The row's block is none of another kind. -/
theorem SpRow.upd {w w' : World} {S : List Nat} {base : Nat} {v : Value} {l : List Sp} (h : SpRow w base v l) (hu : Upd S w w') (hS : ∀ k cs, k ∈ S → w.heap[k]? ≠ some (.cells cs TSp (0, 0))) : SpRow w' base v l := by
  refine owns_upd h hu fun k hk hm => ?_
  rcases h.2 with ⟨h1, -⟩ | ⟨g, cap, cur, rfl, -, hh, -⟩
  · rw [h1] at hk; cases hk
  · cases hk; exact hS _ _ hm hh
set_option maxHeartbeats 1000000 in
/-- The loop's closure: does a span touch? Then it becomes one with the other. -/
theorem grow_any {X : Nat} {x y : Sp} (w : World) (hX : w.heap[X]? = some (.cells #[.int .u64 (x.1 : Int), .int .u64 (x.2 : Int)] TSp (0, 0))) (hx : x.1 ≤ x.2) (hy : y.1 ≤ y.2) (hx2 : x.2 < 18446744073709551616) (hy2 : y.2 < 18446744073709551616) :
    Calls Try.prog 28 #[.agg #[.int .u64 (y.1 : Int), .int .u64 (y.2 : Int)], .pointer (some ⟨X, 0, none⟩)] w fun e w' =>
      (y.2 + 1 < x.1 ∨ x.2 + 1 < y.1) ∧ e = .returned (.bool false) ∧ Upd [] w w' ∨
      ¬ (y.2 + 1 < x.1 ∨ x.2 + 1 < y.1) ∧ e = .returned (.bool true) ∧ Upd [X] w w' ∧ w'.heap[X]? = some (.cells #[.int .u64 (min x.1 y.1 : Nat), .int .u64 (max x.2 y.2 : Nat)] TSp (0, 0)) := by
  obtain ⟨a, b⟩ := x
  obtain ⟨c, d⟩ := y
  simp only at *
  have hc0 : ∀ o, (w.alloc o).cell? ⟨X, 0, none⟩ = some (.int .u64 (a : Int)) := fun o => blk_cell (blk_alloc hX o) rfl
  have hc1 : ∀ o, (w.alloc o).cell? ⟨X, 1, none⟩ = some (.int .u64 (b : Int)) := fun o => blk_cell (blk_alloc hX o) rfl
  have hf0 : ∀ o, (w.alloc o).frozen? ⟨X, 0, none⟩ = false := fun o => blk_free (blk_alloc hX o)
  have hf1 : ∀ o, (w.alloc o).frozen? ⟨X, 1, none⟩ = false := fun o => blk_free (blk_alloc hX o)
  have H := hide hX
  clear hX
  go_enter Try.func28, Try.ntmps28
  by_cases hA : d < a
  · have q1 : decide ((d : Int) < (a : Int)) = true := by simp; omega
    have w1 : IntKind.u64.wrap ((d : Int) + 1) = (d : Int) + 1 := IntWalk.u64_in _ (by omega)
    by_cases hB : d + 1 < a
    · have q2 : decide ((d : Int) + 1 < (a : Int)) = true := by simp; omega
      go_wp2_with fail
      go_ret
      exact .inl ⟨.inl hB, rfl, (Upd.refl _ _).alloc _⟩
    · have q2 : decide ((d : Int) + 1 < (a : Int)) = false := by simp; omega
      have q3 : decide ((b : Int) < (c : Int)) = false := by simp; omega
      go_wp2_with fail
      go_ret
      exact .inr ⟨by omega, rfl, (((Upd.refl _ _).alloc _).setCell (.inl (by simp)) _).setCell (.inl (by simp)) _, by rw [show min a c = c by omega, show max b d = b by omega]; exact blk_set (blk_set (blk_alloc H.out _) _) _⟩
  · have q1 : decide ((d : Int) < (a : Int)) = false := by simp; omega
    by_cases hC : b < c
    · have q2 : decide ((b : Int) < (c : Int)) = true := by simp; omega
      have w1 : IntKind.u64.wrap ((b : Int) + 1) = (b : Int) + 1 := IntWalk.u64_in _ (by omega)
      by_cases hD : b + 1 < c
      · have q3 : decide ((b : Int) + 1 < (c : Int)) = true := by simp; omega
        go_wp2_with fail
        go_ret
        exact .inl ⟨.inr hD, rfl, (Upd.refl _ _).alloc _⟩
      · have q3 : decide ((b : Int) + 1 < (c : Int)) = false := by simp; omega
        have m1 : ¬ c < a := by omega
        have m2 : b < d := by omega
        go_wp2_with fail
        go_ret
        exact .inr ⟨by omega, rfl, (((Upd.refl _ _).alloc _).setCell (.inl (by simp)) _).setCell (.inl (by simp)) _, by rw [show min a c = a by omega, show max b d = d by omega]; exact blk_set (blk_set (blk_alloc H.out _) _) _⟩
    · have q2 : decide ((b : Int) < (c : Int)) = false := by simp; omega
      by_cases m1 : c < a
      · by_cases m2 : b < d
        · skip
          go_wp2_with fail
          go_ret
          exact .inr ⟨by omega, rfl, (((Upd.refl _ _).alloc _).setCell (.inl (by simp)) _).setCell (.inl (by simp)) _, by rw [show min a c = c by omega, show max b d = d by omega]; exact blk_set (blk_set (blk_alloc H.out _) _) _⟩
        · skip
          go_wp2_with fail
          go_ret
          exact .inr ⟨by omega, rfl, (((Upd.refl _ _).alloc _).setCell (.inl (by simp)) _).setCell (.inl (by simp)) _, by rw [show min a c = c by omega, show max b d = b by omega]; exact blk_set (blk_set (blk_alloc H.out _) _) _⟩
      · by_cases m2 : b < d
        · skip
          go_wp2_with fail
          go_ret
          exact .inr ⟨by omega, rfl, (((Upd.refl _ _).alloc _).setCell (.inl (by simp)) _).setCell (.inl (by simp)) _, by rw [show min a c = a by omega, show max b d = d by omega]; exact blk_set (blk_set (blk_alloc H.out _) _) _⟩
        · skip
          go_wp2_with fail
          go_ret
          exact .inr ⟨by omega, rfl, (((Upd.refl _ _).alloc _).setCell (.inl (by simp)) _).setCell (.inl (by simp)) _, by rw [show min a c = a by omega, show max b d = b by omega]; exact blk_set (blk_set (blk_alloc H.out _) _) _⟩
end Go.Proofs.Ytmedpbpjjjhhiaa.Vot
