/- Frames that are cut, told, and turned; where a bit of an inside lies. No program here. -/
import Derived.Test.YtekbhfpdakhhkaaGreatDoorCrcAll
import Derived.Test.YtekbhfpdakhhkaaGreatDoorGenAll
namespace Go.Proofs.YtekbhfpdakhhkaaGreatDoor.Fr
open Go.RowKit Go.Proofs.YtekbhfpdakhhkaaGreatDoor.Var

theorem fr_short {x : List UInt8} (h : x.length < 128) : (fr x).length = 5 + x.length := by
  rw [fr_len, uv_last h]; simp
theorem frs_take_ends (l : List (List UInt8)) (k : Nat) : (frs l).take (ends l k) = frs (l.take k) := by
  have h : frs l = frs (l.take k) ++ frs (l.drop k) := by rw [← frs_append, List.take_append_drop]
  rw [h]
  unfold ends
  simp
theorem frs_drop_ends (l : List (List UInt8)) (k : Nat) : (frs l).drop (ends l k) = frs (l.drop k) := by
  have h : frs l = frs (l.take k) ++ frs (l.drop k) := by rw [← frs_append, List.take_append_drop]
  rw [h]
  unfold ends
  simp
theorem ends_add (l : List (List UInt8)) (k j : Nat) : ends l (k + j) = ends l k + ends (l.drop k) j := by
  unfold ends
  rw [List.take_add, frs_append, List.length_append]
theorem cut_at (l : List (List UInt8)) (n : Nat) : ∃ q, q ≤ l.length ∧ ends l q ≤ n ∧ (q < l.length → n < ends l (q + 1)) := by
  have h : ∀ m, m ≤ l.length → ends l m ≤ n ∨ ∃ q, q < m ∧ ends l q ≤ n ∧ n < ends l (q + 1) := by
    intro m
    induction m with
    | zero => intro _; left; rw [ends_zero]; omega
    | succ m ih =>
      intro hm
      rcases ih (by omega) with h1 | ⟨q, h1, h2⟩
      · by_cases h2 : ends l (m + 1) ≤ n
        · exact .inl h2
        · exact .inr ⟨m, by omega, h1, by omega⟩
      · exact .inr ⟨q, by omega, h2⟩
  rcases h _ (Nat.le_refl _) with h1 | ⟨q, h1, h2, h3⟩
  · exact ⟨l.length, Nat.le_refl _, h1, fun h => by omega⟩
  · exact ⟨q, by omega, h2, fun _ => h3⟩
theorem all_frs' {l : List (List UInt8)} (h : ∀ x ∈ l, Fit x) : all (frs l) = (l, (frs l).length, 0) := by
  have := all_frs h []
  rw [all_nil] at this
  simpa using this
/-- What is told of frames that are cut at p, s of them synced. -/
theorem told {l : List (List UInt8)} (h : ∀ x ∈ l, Fit x) {s p : Nat} (hs : s ≤ l.length) (h1 : ends l s ≤ p) (h2 : p ≤ (frs l).length) :
    ∃ q e, s ≤ q ∧ q ≤ l.length ∧ ends l q ≤ p ∧ all (((frs l).take p).take (ends l s)) = (l.take s, ends l s, 0) ∧ all (((frs l).take p).drop (ends l s)) = ((l.drop s).take (q - s), ends l q - ends l s, e) ∧
      l.take s ++ (l.drop s).take (q - s) = l.take q ∧ ends l s + (ends l q - ends l s) = ends l q ∧ ((frs l).take p).take (ends l q) = (frs l).take (ends l q) := by
  obtain ⟨q, h3, h4, h5⟩ := cut_at (l.drop s) (p - ends l s)
  have hl : (l.drop s).length = l.length - s := List.length_drop
  have he := ends_add l s q
  refine ⟨s + q, if p - ends l s = ends (l.drop s) q then 0 else 10, by omega, by omega, by omega, ?_, ?_, ?_, by omega, ?_⟩
  · rw [List.take_take, Nat.min_eq_left h1, frs_take_ends, all_frs' (fun x hx => h x (List.mem_of_mem_take hx))]
    rfl
  · have h6 : (frs (l.drop s)).length = (frs l).length - ends l s := by rw [← frs_drop_ends, List.length_drop]
    rw [List.drop_take, frs_drop_ends, all_cut_row (fun x hx => h x (List.mem_of_mem_drop hx)) h3 h4 h5 (by omega), he, Nat.add_sub_cancel_left, Nat.add_sub_cancel_left]
  · rw [Nat.add_sub_cancel_left, ← List.take_add]
  · rw [List.take_take, Nat.min_eq_left (by omega)]
/-- How many bits of sums and insides there are. -/
def bitsOf (l : List (List UInt8)) : Nat := (l.map fun x => 8 * (4 + x.length)).sum
theorem bits_nil : bitsOf [] = 0 := rfl
theorem bits_take_succ {l : List (List UInt8)} {k : Nat} (h : k < l.length) : bitsOf (l.take (k + 1)) = bitsOf (l.take k) + 8 * (4 + (l.getD k []).length) := by
  unfold bitsOf
  rw [List.take_succ_eq_append_getElem h, List.getD_eq_getElem?_getD, List.getElem?_eq_getElem h, List.map_append, List.sum_append]
  simp only [List.map_cons, List.map_nil, List.sum_cons, List.sum_nil, Option.getD_some, Nat.add_zero]
theorem bits_drop {l : List (List UInt8)} {k : Nat} (h : k < l.length) : bitsOf (l.drop k) = 8 * (4 + (l.getD k []).length) + bitsOf (l.drop (k + 1)) := by
  unfold bitsOf
  rw [List.drop_eq_getElem_cons h, List.getD_eq_getElem?_getD, List.getElem?_eq_getElem h, List.map_cons, List.sum_cons]
  rfl
theorem bits_le {l : List (List UInt8)} (h : ∀ x ∈ l, x.length ≤ 100) (k : Nat) : bitsOf (l.take k) ≤ 832 * l.length := by
  induction l generalizing k with
  | nil => simp [bitsOf]
  | cons x l ih =>
    have h1 := h x (by simp)
    cases k with
    | zero => simp [bitsOf]
    | succ k =>
      have h2 := ih (fun y hy => h y (by simp [hy])) k
      simp only [bitsOf, List.take_succ_cons, List.map_cons, List.sum_cons, List.length_cons] at h2 ⊢
      omega
theorem ends_short {l : List (List UInt8)} {k : Nat} (h : k < l.length) (h1 : (l.getD k []).length < 128) : ends l (k + 1) = ends l k + 5 + (l.getD k []).length := by
  rw [ends_succ h, fr_short h1]; omega
theorem getD_mem {l : List (List UInt8)} {k : Nat} (h : k < l.length) : l.getD k [] ∈ l := by
  rw [List.getD_eq_getElem?_getD, List.getElem?_eq_getElem h]
  exact List.getElem_mem h
theorem ends_le {l : List (List UInt8)} {k : Nat} (h : k ≤ l.length) : ends l k ≤ (frs l).length := by
  rw [← ends_all]; exact ends_mono h (Nat.le_refl _)
/-- A bit of a sum or an inside is turned: there are no frames any more. -/
theorem turned {l : List (List UInt8)} (h : ∀ x ∈ l, Fit x) (h1 : ∀ x ∈ l, x.length < 128) {i j s : Nat} (hi : i < l.length) (hj : j < 4 + (l.getD i []).length) (hs : s < 8) :
    ends l i + 1 + j < (frs l).length ∧ (all ((frs l).set (ends l i + 1 + j) ((frs l).getD (ends l i + 1 + j) 0 ^^^ (1 <<< UInt8.ofNat s)))).2.2 = 12 := by
  have he := ends_short hi (h1 _ (getD_mem hi))
  have hle := ends_le (l := l) (k := i + 1) (by omega)
  refine ⟨by omega, ?_⟩
  rw [all_flip h hi hj (by omega) (flip_ne hs)]
theorem turn_bit {l : List UInt8} {n p s : Nat} (hp : p < l.length) (hs : s < 8) : DS.turn ⟨l, n, true, -1⟩ ((8 * p + s : Nat) : Int) = (⟨l.set p (l.getD p 0 ^^^ (1 <<< UInt8.ofNat s)), n, true, -1⟩, 0) := by
  have e1 : (8 * p + s) / 8 = p := by omega
  have e2 : (8 * p + s) % 8 = s := by omega
  have e3 : ((8 * p + s : Nat) : Int) / 8 = (p : Int) := by omega
  unfold DS.turn
  rw [e3, if_neg (by simp only [Bool.true_eq_false, false_or]; omega)]
  simp only [Int.toNat_natCast, e1, e2]
end Go.Proofs.YtekbhfpdakhhkaaGreatDoor.Fr
