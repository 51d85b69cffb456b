/- Plain facts about a ring's row of cells: what lies in it, what a store makes of it, which slots a release clears. No program here. -/
import Derived.Test.YtmgdhloehkdffaaBase
namespace Go.Proofs.Ytmgdhloehkdffaa
open Go.RowKit

/-- A ring's cells: value and mark, place by place. -/
def rc (f : Nat → Value × Bool) (n : Nat) : Array Value := Array.ofFn (n := n * 2) fun i => if i.1 % 2 = 0 then (f (i.1 / 2)).1 else .bool (f (i.1 / 2)).2
theorem rc_size (f : Nat → Value × Bool) (n : Nat) : (rc f n).size = n * 2 := by simp [rc]
theorem rc_val (f : Nat → Value × Bool) {n i : Nat} (h : i < n) : (rc f n)[i * 2]? = some (f i).1 := by
  have h' : i * 2 < n * 2 := by omega
  have e : i * 2 / 2 = i := by omega
  simp [rc, h, e]
theorem rc_has (f : Nat → Value × Bool) {n i : Nat} (h : i < n) : (rc f n)[i * 2 + 1]? = some (.bool (f i).2) := by
  have h' : i * 2 + 1 < n * 2 := by omega
  have e : (i * 2 + 1) / 2 = i := by omega
  have e2 : (i * 2 + 1) % 2 = 1 := by omega
  simp [rc, h', e, e2]
def rput (f : Nat → Value × Bool) (i : Nat) (x : Value × Bool) : Nat → Value × Bool := fun j => if j = i then x else f j
theorem rc_set (f : Nat → Value × Bool) {n i : Nat} (h : i < n) (v : Value) (b : Bool) :
    ((rc f n).setIfInBounds (i * 2) v).setIfInBounds (i * 2 + 1) (.bool b) = rc (rput f i (v, b)) n := by
  apply Array.ext_getElem?
  intro j
  simp only [Array.getElem?_setIfInBounds, rc, rput, Array.size_ofFn, Array.size_setIfInBounds, Array.getElem?_ofFn]
  by_cases hj : j < n * 2
  · by_cases e1 : i * 2 + 1 = j
    · have a1 : j % 2 = 1 := by omega
      have a2 : j / 2 = i := by omega
      simp [e1, a1, a2, hj]
    · by_cases e2 : i * 2 = j
      · have a1 : j % 2 = 0 := by omega
        have a2 : j / 2 = i := by omega
        simp [e2, a1, a2, hj]
      · have a2 : j / 2 ≠ i := by omega
        simp [e1, e2, a2]
  · have e1 : i * 2 + 1 ≠ j := by omega
    have e2 : i * 2 ≠ j := by omega
    simp [e1, e2, hj]
theorem rc_made (z : Value) (n : Nat) : madeCells #[z, .bool false] (n * 2) = rc (fun _ => (z, false)) n := by
  apply Array.ext
  · simp [rc_size, size_madeCells]
  · intro j h1 h2
    simp only [madeCells, rc, Array.getElem_map, Array.getElem_range, Array.getElem_ofFn]
    have h : j % 2 = 0 ∨ j % 2 = 1 := by omega
    rcases h with h | h <;> simp [h]

/-- A ring in memory: its struct in block B, its cells in block C. -/
structure Ring (TR TC : TypeId) (w : World) (B C n base : Nat) (f : Nat → Value × Bool) : Prop where
  hB : w.heap[B]? = some (.cells #[.int .u64 base, .slice (some ⟨C, 0, none⟩) n n] TR (0, 0))
  hC : w.heap[C]? = some (.cells (rc f n) TC (0, 0))
  ne : B ≠ C
  lo : 1 ≤ n
  hi : n ≤ 4096
namespace Ring
variable {TR TC : TypeId} {w w' : World} {B C n base : Nat} {f : Nat → Value × Bool}
theorem c0 (h : Ring TR TC w B C n base f) : w.cell? ⟨B, 0, none⟩ = some (.int .u64 base) := blk_cell h.hB rfl
theorem c1 (h : Ring TR TC w B C n base f) : w.cell? ⟨B, 1, none⟩ = some (.slice (some ⟨C, 0, none⟩) n n) := blk_cell h.hB rfl
theorem fB (h : Ring TR TC w B C n base f) : w.frozen? ⟨B, 0, none⟩ = false := blk_free h.hB
theorem val (h : Ring TR TC w B C n base f) {i : Nat} (hi : i < n) : w.cell? ⟨C, i * 2, none⟩ = some (f i).1 := blk_cell h.hC (rc_val f hi)
theorem has (h : Ring TR TC w B C n base f) {i : Nat} (hi : i < n) : w.cell? ⟨C, i * 2 + 1, none⟩ = some (.bool (f i).2) := blk_cell h.hC (rc_has f hi)
theorem fC (h : Ring TR TC w B C n base f) (i : Nat) : w.frozen? ⟨C, i, none⟩ = false := blk_free h.hC
theorem upd {S : List Nat} (h : Ring TR TC w B C n base f) (hu : Upd S w w') (hB : B ∉ S) (hC : C ∉ S) : Ring TR TC w' B C n base f :=
  ⟨hu.get h.hB hB, hu.get h.hC hC, h.ne, h.lo, h.hi⟩
theorem drewN (h : Ring TR TC w B C n base f) (k : Nat) : Ring TR TC (w.drewN k) B C n base f := ⟨h.hB, h.hC, h.ne, h.lo, h.hi⟩
theorem ltB (h : Ring TR TC w B C n base f) : B < w.heap.size := blk_lt h.hB
theorem ltC (h : Ring TR TC w B C n base f) : C < w.heap.size := blk_lt h.hC
end Ring

theorem Ring.put {TR TC : TypeId} {w : World} {B C n base : Nat} {f : Nat → Value × Bool} (h : Ring TR TC w B C n base f) {i : Nat} (hi : i < n) (v : Value) (b : Bool) :
    Ring TR TC ((w.setCell ⟨C, i * 2, none⟩ v).setCell ⟨C, i * 2 + 1, none⟩ (.bool b)) B C n base (rput f i (v, b)) ∧ Upd [C] w ((w.setCell ⟨C, i * 2, none⟩ v).setCell ⟨C, i * 2 + 1, none⟩ (.bool b)) := by
  refine ⟨⟨?_, ?_, h.ne, h.lo, h.hi⟩, ((Upd.refl _ _).setCell (.inl (by simp)) _).setCell (.inl (by simp)) _⟩
  · exact blk_set_other (blk_set_other h.hB h.ne _) h.ne _
  · rw [← rc_set f hi]; exact blk_set (blk_set h.hC _) _
theorem Ring.rebase {TR TC : TypeId} {w : World} {B C n base : Nat} {f : Nat → Value × Bool} (h : Ring TR TC w B C n base f) (tt : Nat) :
    Ring TR TC (w.setCell ⟨B, 0, none⟩ (.int .u64 tt)) B C n tt f ∧ Upd [B] w (w.setCell ⟨B, 0, none⟩ (.int .u64 tt)) := by
  refine ⟨⟨?_, ?_, h.ne, h.lo, h.hi⟩, (Upd.refl _ _).setCell (.inl (by simp)) _⟩
  · exact blk_set h.hB _
  · exact blk_set_other h.hC (Ne.symm h.ne) _

/-- What Get tells. -/
def rget (n base : Nat) (f : Nat → Value × Bool) (z : Value) (slot : Nat) : Value × Bool := if base < slot ∧ slot - base ≤ n then f (slot % n) else (z, false)
theorem rget_in {n base : Nat} {f : Nat → Value × Bool} {z : Value} {slot : Nat} (h1 : base < slot) (h2 : slot ≤ base + n) : rget n base f z slot = f (slot % n) := by
  unfold rget; rw [if_pos ⟨h1, by omega⟩]
theorem rget_out {n base : Nat} {f : Nat → Value × Bool} {z : Value} {slot : Nat} (h : ¬ (base < slot ∧ slot ≤ base + n)) : rget n base f z slot = (z, false) := by
  unfold rget; rw [if_neg (by omega)]
/-- What a release leaves: the first k slots behind the base are cleared. -/
def rclear (n base : Nat) (f : Nat → Value × Bool) (z : Value) : Nat → Nat → Value × Bool
  | 0 => f
  | k + 1 => rput (rclear n base f z k) ((base + (k + 1)) % n) (z, false)
theorem mod_inj {n base i j : Nat} (hi : base < i) (hi' : i ≤ base + n) (hj : base < j) (hj' : j ≤ base + n) (h : i % n = j % n) : i = j := by
  have e1 := Nat.div_add_mod i n
  have e2 := Nat.div_add_mod j n
  rcases Nat.lt_trichotomy (i / n) (j / n) with hlt | heq | hgt
  · have hm : n * (i / n + 1) ≤ n * (j / n) := Nat.mul_le_mul_left n hlt
    rw [Nat.mul_add] at hm; omega
  · rw [heq] at e1; omega
  · have hm : n * (j / n + 1) ≤ n * (i / n) := Nat.mul_le_mul_left n hgt
    rw [Nat.mul_add] at hm; omega
theorem rclear_keeps {n base : Nat} {f : Nat → Value × Bool} {z : Value} : ∀ {k s : Nat}, k ≤ n → base + k < s → s ≤ base + n → rclear n base f z k (s % n) = f (s % n)
  | 0, _, _, _, _ => rfl
  | k + 1, s, hk, h1, h2 => by
    unfold rclear rput
    rw [if_neg]
    · exact rclear_keeps (by omega) (by omega) h2
    · intro e
      have := mod_inj (base := base) (n := n) (i := s) (j := base + (k + 1)) (by omega) h2 (by omega) (by omega) e
      omega
theorem rclear_gone {n base : Nat} {f : Nat → Value × Bool} {z : Value} : ∀ {k s : Nat}, k ≤ n → base < s → s ≤ base + k → rclear n base f z k (s % n) = (z, false)
  | 0, _, _, _, _ => by omega
  | k + 1, s, hk, h1, h2 => by
    unfold rclear rput
    by_cases e : s % n = (base + (k + 1)) % n
    · rw [if_pos e]
    · rw [if_neg e]
      exact rclear_gone (by omega) h1 (by
        have : s ≠ base + (k + 1) := fun h => e (by rw [h])
        omega)
/-- Slots that come into the window by a release are free. -/
theorem rclear_far {n base : Nat} {f : Nat → Value × Bool} {z : Value} {k s : Nat} (hn : 1 ≤ n) (hk : k ≤ n) (h1 : base + n < s) (h2 : k = n ∨ s ≤ base + k + n) : rclear n base f z k (s % n) = (z, false) := by
  obtain ⟨t, ht⟩ : ∃ t, t = base + 1 + (s - base - 1) % n := ⟨_, rfl⟩
  have hm : (s - base - 1) % n < n := Nat.mod_lt _ (by omega)
  have e : t % n = s % n := by
    rw [ht, Nat.add_mod_mod, show base + 1 + (s - base - 1) = s from by omega]
  rw [← e]
  refine rclear_gone hk (by omega) ?_
  rcases h2 with h2 | h2
  · omega
  · have e2 : (s - base - 1) % n = (s - base - 1 - n) % n := by
      rw [Nat.mod_eq_sub_mod (by omega)]
    by_cases hk2 : k = n
    · omega
    · rw [ht, e2, Nat.mod_eq_of_lt (by omega)]
      omega
/-- All that a ring tells, in order. -/
def rlistFrom (n base : Nat) (f : Nat → Value × Bool) (i : Nat) : Nat → List (Nat × Value)
  | 0 => []
  | k + 1 => (if (f ((base + i) % n)).2 then [(base + i, (f ((base + i) % n)).1)] else []) ++ rlistFrom n base f (i + 1) k
def rlist (n base : Nat) (f : Nat → Value × Bool) : List (Nat × Value) := rlistFrom n base f 1 n
def rlast (base : Nat) (l : List (Nat × Value)) : Nat := ((l.getLast?).map (·.1)).getD base
theorem rlast_snoc (base : Nat) (l : List (Nat × Value)) (x : Nat × Value) : rlast base (l ++ [x]) = x.1 := by simp [rlast]
theorem rlistFrom_full {n base : Nat} {f : Nat → Value × Bool} : ∀ (k i : Nat), (∀ s, base + i ≤ s → s < base + i + k → (f (s % n)).2 = true) →
    rlistFrom n base f i k = (List.range k).map fun j => (base + i + j, (f ((base + i + j) % n)).1)
  | 0, _, _ => rfl
  | k + 1, i, h => by
    rw [rlistFrom, h (base + i) (Nat.le_refl _) (by omega), if_pos rfl, rlistFrom_full k (i + 1) (fun s h1 h2 => h s (by omega) (by omega)), List.range_succ_eq_map]
    simp only [List.singleton_append, List.map_cons, List.map_map, Nat.add_zero]
    congr 1
    apply List.map_congr_left
    intro j _
    simp only [Function.comp]
    rw [show base + (i + 1) + j = base + i + (j + 1) from by omega]
theorem rlast_full {n base : Nat} {f : Nat → Value × Bool} (hn : 1 ≤ n) (h : ∀ s, base < s → s ≤ base + n → (f (s % n)).2 = true) : rlast base (rlist n base f) = base + n := by
  unfold rlist
  rw [rlistFrom_full n 1 (fun s h1 h2 => h s (by omega) (by omega))]
  obtain ⟨m, rfl⟩ : ∃ m, n = m + 1 := ⟨n - 1, by omega⟩
  rw [List.range_succ]
  simp [rlast]
  omega
theorem rlast_nil (base : Nat) : rlast base [] = base := rfl
end Go.Proofs.Ytmgdhloehkdffaa
