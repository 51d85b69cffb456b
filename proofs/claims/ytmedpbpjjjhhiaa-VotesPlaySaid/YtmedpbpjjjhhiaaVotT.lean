/- A tally in memory; its acts. -/
import Derived.Test.YtmedpbpjjjhhiaaVotZ
namespace Go.Proofs.Ytmedpbpjjjhhiaa.Vot
open Go.RowKit

structure TalAt (w : World) (B T C n floor K : Nat) (l : Nat → List Sp) : Prop where
  hT : w.heap[T]? = some (.cells #[.slice (some ⟨C, 0, none⟩) n n, .int .u64 (floor : Int)] TTal (0, 0))
  hC : ∃ cs, w.heap[C]? = some (.cells cs TSet (0, 0)) ∧ cs.size = n ∧ ∀ r, r < n → ∃ v, cs[r]? = some v ∧ SpRow w B v (l r)
  loT : B ≤ T
  loC : B ≤ C
  n1 : 1 ≤ n
  n7 : n ≤ 7
  fl : floor < 18446744073709551616
  norm : ∀ r, r < n → Norm (l r)
  bnd : ∀ r, r < n → ∀ p ∈ l r, p.2 < 18446744073709551616
  len : ∀ r, r < n → (l r).length ≤ K
namespace TalAt
variable {w w' : World} {B T C n floor K : Nat} {l : Nat → List Sp}
theorem upd {S : List Nat} (h : TalAt w B T C n floor K l) (hu : Upd S w w') (hT : T ∉ S) (hC : C ∉ S) (hS : ∀ k cs, k ∈ S → w.heap[k]? ≠ some (.cells cs TSp (0, 0))) : TalAt w' B T C n floor K l := by
  obtain ⟨cs, h1, h2, h3⟩ := h.hC
  refine ⟨hu.get h.hT hT, ⟨cs, hu.get h1 hC, h2, fun r hr => ?_⟩, h.loT, h.loC, h.n1, h.n7, h.fl, h.norm, h.bnd, h.len⟩
  obtain ⟨v, h4, h5⟩ := h3 r hr
  exact ⟨v, h4, h5.upd hu hS⟩
theorem quiet (h : TalAt w B T C n floor K l) (hu : Upd [] w w') : TalAt w' B T C n floor K l := h.upd hu (by simp) (by simp) (fun _ _ h => by simp at h)
/-- A set's own block is no row's, no tally's. -/
theorem setBlock (h : TalAt w B T C n floor K l) : ∀ k cs, k ∈ [C] → w.heap[k]? ≠ some (.cells cs TSp (0, 0)) := by
  obtain ⟨cs, h1, -⟩ := h.hC
  intro k cs' hk h2
  simp only [List.mem_singleton] at hk
  subst hk
  rw [h1] at h2
  injection h2 with h2
  injection h2 with h3 h4
  exact absurd h4 (by decide)
theorem ne (h : TalAt w B T C n floor K l) : T ≠ C := by
  obtain ⟨cs, h1, -⟩ := h.hC
  rintro rfl
  rw [h.hT] at h1
  injection h1 with h1
  injection h1 with h3 h4
  exact absurd h4 (by decide)
/-- Two tallies lie apart, or are one. -/
theorem apart' {T' C' n' floor' K' : Nat} {l' : Nat → List Sp} (h : TalAt w B T C n floor K l) (h' : TalAt w B T' C' n' floor' K' l') : T' ≠ C := by
  obtain ⟨cs, h1, -⟩ := h.hC
  rintro rfl
  rw [h'.hT] at h1
  injection h1 with h1
  injection h1 with h3 h4
  exact absurd h4 (by decide)
end TalAt
set_option maxHeartbeats 400000 in
theorem majority_any (n : Nat) (w : World) (hn : n ≤ 7) : Calls Try.prog 16 #[.int .i64 (n : Int)] w fun e w' => e = .returned (.int .i64 (maj n : Nat)) ∧ w = w' := by
  obtain ⟨h, hh⟩ : ∃ h, h = n / 2 := ⟨_, rfl⟩
  have q1 : (n : Int) / 2 = (h : Int) := by omega
  have w1 : IntKind.i64.wrap ((h : Int) + 1) = ((maj n : Nat) : Int) := by
    rw [IntWalk.i64_in _ (by omega)]; unfold maj; omega
  clear hh
  go_enter Try.func16, Try.ntmps16
  go_wp2_with fail
  go_ret
  exact ⟨rfl, rfl⟩
theorem made_nil (n : Nat) : ∀ r, r < n → (madeCells #[.slice none 0 0] (n * 1))[r]? = some (.slice none 0 0) := by
  intro r hr
  unfold madeCells
  rw [Array.getElem?_map, Array.getElem?_range, if_pos (by omega)]
  simp [Nat.mod_one]
theorem infoSet : (Try.prog.info? TSet).map (fun i => (i.zero, i.size, i.bytes)) = some (some (.agg #[.slice none 0 0]), 1, 24) := by kernel_rfl
set_option maxHeartbeats 400000 in
theorem new_bad {n : Int} (w : World) (h : n < 1 ∨ 7 < n) : Calls Try.prog 6 #[.int .i64 n] w fun e w' => e = .returned (.tuple #[.pointer none, .int .i64 1]) ∧ w = w' := by
  by_cases h1 : n < 1
  · have d1 : decide (n < 1) = true := by simpa using h1
    go_enter Try.func6, Try.ntmps6
    go_wp2_with fail
    go_ret2
    exact ⟨rfl, rfl⟩
  · have d1 : decide (n < 1) = false := by simpa using h1
    have d2 : decide (7 < n) = true := by simp; omega
    go_enter Try.func6, Try.ntmps6
    go_wp2_with fail
    go_ret2
    exact ⟨rfl, rfl⟩
set_option maxHeartbeats 400000 in
theorem new_any (n : Nat) (w : World) (h1 : 1 ≤ n) (h2 : n ≤ 7) : Calls Try.prog 6 #[.int .i64 (n : Int)] w fun e w' => ∃ T C, e = .returned (.tuple #[.pointer (some ⟨T, 0, none⟩), .int .i64 0]) ∧ Upd [] w w' ∧ w.heap.size ≤ C ∧ w.heap.size ≤ T ∧ TalAt w' w.heap.size T C n 0 0 (fun _ => []) := by
  obtain ⟨i0, hi, hz0, hz1, hz2⟩ := info_parts' infoSet
  have hmk := fun W => run_make_rowN (P := Try.prog) 55 TSet i0 (.agg #[.slice none 0 0]) Try.underlying55 hi hz0 .i64 .i64 n n (Nat.le_refl _) (by rw [hz2]; omega) (by omega) W
  rw [hz1] at hmk
  simp only [Value.cells] at hmk
  have hmd := made_nil n
  have hsz := size_madeCells #[.slice none 0 0] (n * 1)
  generalize madeCells #[.slice none 0 0] (n * 1) = M at hmk hmd hsz
  have hd : decide ((n : Int) < 1) = false := by simp; omega
  have hd2 : decide ((7 : Int) < n) = false := by simp; omega
  have MD := hide hmd; have MS := hide hsz
  clear hmd hsz
  go_enter Try.func6, Try.ntmps6
  go_wp2_with fail
  go_ret2
  refine ⟨_, _, rfl, ((Upd.refl [] w).alloc _).alloc _, Nat.le_refl _, by simp, ⟨blk_new2 _ _ _, ⟨M, blk_alloc (blk_new _ _) _, by have := MS.out; omega, fun r hr => ⟨_, MD.out r hr, SpRow.nil _ _⟩⟩, by simp, Nat.le_refl _, h1, h2, by omega, fun _ _ => norm_nil, fun _ _ p hp => by simp at hp, fun _ _ => by simp⟩⟩
/-- What an added span makes of a tally. -/
def Added (w : World) (B T C n floor K : Nat) (l : Nat → List Sp) (r : Nat) (x : Sp) (e : Ending) (w' : World) : Prop :=
  e = .returned (.int .i64 0) ∧ Upd [C] w w' ∧ ∃ d : List Sp, TalAt w' B T C n floor (K + 1) (fun k => if k = r then d else l k) ∧ ∀ m, inS d m ↔ inS (l r) m ∨ (max x.1 (floor + 1) ≤ m ∧ m ≤ x.2)
theorem TalAt.set {w w' : World} {B T C n floor K r : Nat} {l : Nat → List Sp} {v : Value} {cs : Array Value} {d : List Sp} (h : TalAt w B T C n floor K l) (hu : Upd [C] w w') (hr : r < n) (hC : w.heap[C]? = some (.cells cs TSet (0, 0))) (hC' : w'.heap[C]? = some (.cells (cs.setIfInBounds r v) TSet (0, 0)))
    (hv : SpRow w' B v d) (hd : Norm d) (hb : ∀ p ∈ d, p.2 < 18446744073709551616) (hl : d.length ≤ K + 1) : TalAt w' B T C n floor (K + 1) (fun k => if k = r then d else l k) := by
  obtain ⟨cs', h1, h2, h3⟩ := h.hC
  rw [hC] at h1
  injection h1 with h1
  injection h1 with h1
  subst h1
  refine ⟨hu.get h.hT (by simpa using h.ne), ⟨_, hC', by simpa using h2, fun k hk => ?_⟩, h.loT, h.loC, h.n1, h.n7, h.fl, fun k hk => ?_, fun k hk => ?_, fun k hk => ?_⟩
  · by_cases e : k = r
    · subst e
      rw [if_pos rfl]
      exact ⟨v, by rw [Array.getElem?_setIfInBounds, if_pos rfl, if_pos (by omega)], hv⟩
    · rw [if_neg e]
      obtain ⟨u, h4, h5⟩ := h3 k hk
      exact ⟨u, by rw [Array.getElem?_setIfInBounds, if_neg (fun h => e h.symm)]; exact h4, h5.upd hu h.setBlock⟩
  all_goals
    by_cases e : k = r
    · simp only [if_pos e]
      assumption
    · simp only [if_neg e]
      first
        | exact h.norm k hk
        | exact h.bnd k hk
        | exact Nat.le_trans (h.len k hk) (by omega)
end Go.Proofs.Ytmedpbpjjjhhiaa.Vot
