/- Frames as plain data. No program here. -/
import Derived.Test.YtmgdhloehkdffaaDoorVarM
import Derived.Test.YtmgdhloehkdffaaDoorCrcM
namespace Go.Proofs.YtmgdhloehkdffaaDoor.Fr
open Go.RowKit Go.Proofs.YtmgdhloehkdffaaDoor.Var

/-- A number's four bytes, the least first. -/
def le4 (s : Nat) : List UInt8 := [UInt8.ofNat (s % 256), UInt8.ofNat (s / 256 % 256), UInt8.ofNat (s / 65536 % 256), UInt8.ofNat (s / 16777216 % 256)]
def fr (bs : List UInt8) : List UInt8 := uv bs.length ++ le4 (Crc.sum bs) ++ bs
/-- The first frame: its inside, how long it is, the error. -/
def take (bs : List UInt8) : List UInt8 × Nat × Int :=
  if (rd bs).2.2 ≠ 0 then ([], 0, (rd bs).2.2)
  else if (rd bs).1 = 0 ∨ 65536 < (rd bs).1 then ([], 0, 11)
  else if bs.length < (rd bs).2.1 + 4 + (rd bs).1 then ([], 0, 10)
  else if le4 (Crc.sum ((bs.drop ((rd bs).2.1 + 4)).take (rd bs).1)) ≠ (bs.drop (rd bs).2.1).take 4 then ([], 0, 12)
  else ((bs.drop ((rd bs).2.1 + 4)).take (rd bs).1, (rd bs).2.1 + 4 + (rd bs).1, 0)
theorem le4_len (s : Nat) : (le4 s).length = 4 := rfl
theorem fr_len (bs : List UInt8) : (fr bs).length = (uv bs.length).length + 4 + bs.length := by simp [fr, le4_len]; omega
theorem le4_inj {s t : Nat} (hs : s < 4294967296) (ht : t < 4294967296) (h : le4 s = le4 t) : s = t := by
  simp only [le4, List.cons.injEq, and_true] at h
  obtain ⟨h1, h2, h3, h4⟩ := h
  have e := fun (a b : Nat) (h : UInt8.ofNat (a % 256) = UInt8.ofNat (b % 256)) => by
    have := congrArg UInt8.toNat h
    rw [ofNat8 (Nat.mod_lt _ (by decide)), ofNat8 (Nat.mod_lt _ (by decide))] at this
    exact this
  have e1 := e _ _ h1
  have e2 := e _ _ h2
  have e3 := e _ _ h3
  have e4 := e _ _ h4
  omega
/-- What was framed is told, whatever is behind it. -/
theorem take_fr {bs : List UInt8} (h1 : bs ≠ []) (h2 : bs.length ≤ 65536) (r : List UInt8) : take (fr bs ++ r) = (bs, (fr bs).length, 0) := by
  have hpos := List.length_pos_iff.2 h1
  have hrd : rd (fr bs ++ r) = (bs.length, (uv bs.length).length, 0) := by
    unfold fr
    rw [List.append_assoc, List.append_assoc]
    exact rd_uv (by omega) _
  have e1 : (fr bs ++ r).drop (uv bs.length).length = le4 (Crc.sum bs) ++ (bs ++ r) := by simp [fr]
  have e2 : (fr bs ++ r).drop ((uv bs.length).length + 4) = bs ++ r := by
    rw [← List.drop_drop, e1]
    rfl
  unfold take
  rw [hrd]
  simp only [ne_eq, not_true_eq_false, if_false]
  rw [if_neg (by omega), if_neg (by simp [fr_len]), e1, e2, List.take_left, if_neg (by simp; rfl), fr_len]
theorem take_ok {bs x : List UInt8} {n : Nat} (h : take bs = (x, n, 0)) : n ≤ bs.length ∧ x ≠ [] ∧ x.length ≤ 65536 ∧ bs.take n = fr x ∧ n = (fr x).length := by
  unfold take at h
  split at h
  · rename_i h0
    simp only [Prod.mk.injEq] at h
    exact absurd h.2.2 h0
  · rename_i h0
    simp only [ne_eq, Decidable.not_not] at h0
    split at h
    · simp at h
    · rename_i h1
      split at h
      · simp at h
      · rename_i h2
        split at h
        · simp at h
        · rename_i h3
          simp only [ne_eq, Decidable.not_not] at h3
          obtain ⟨hk1, hk2, hk3, hk4, hk5⟩ := rd_ok (bs := bs) (n := (rd bs).1) (k := (rd bs).2.1) (e := (rd bs).2.2) rfl h0
          generalize (rd bs).1 = m at *
          generalize (rd bs).2.1 = k at *
          simp only [Prod.mk.injEq, and_true] at h
          obtain ⟨rfl, rfl⟩ := h
          have hl : ((bs.drop (k + 4)).take m).length = m := by simp; omega
          have hfl : (fr ((bs.drop (k + 4)).take m)).length = k + 4 + m := by rw [fr_len, hl, hk4, List.length_take]; omega
          refine ⟨by omega, ?_, by omega, ?_, hfl.symm⟩
          · intro h; rw [h] at hl; simp at hl; omega
          · unfold fr
            rw [hl, hk4, h3]
            have e1 : bs.take (k + 4 + m) = bs.take k ++ ((bs.drop k).take (4 + m)) := by rw [Nat.add_assoc, List.take_add]
            have e2 : (bs.drop k).take (4 + m) = (bs.drop k).take 4 ++ ((bs.drop k).drop 4).take m := by rw [List.take_add]
            rw [e1, e2, List.drop_drop, List.append_assoc]
theorem take_fail {bs : List UInt8} (h : (take bs).2.2 ≠ 0) : (take bs).1 = [] ∧ (take bs).2.1 = 0 := by
  unfold take at h ⊢
  split
  · exact ⟨rfl, rfl⟩
  · rename_i h0
    rw [if_neg h0] at h
    split
    · exact ⟨rfl, rfl⟩
    · rename_i h1
      rw [if_neg h1] at h
      split
      · exact ⟨rfl, rfl⟩
      · rename_i h2
        rw [if_neg h2] at h
        split
        · exact ⟨rfl, rfl⟩
        · rename_i h3
          rw [if_neg h3] at h
          exact absurd rfl h
/-- All frames at the beginning: their insides, how far, the error. -/
def allF : Nat → List UInt8 → List (List UInt8) × Nat × Int
  | 0, _ => ([], 0, 0)
  | f + 1, bs =>
    if bs = [] then ([], 0, 0)
    else if (take bs).2.2 ≠ 0 then ([], 0, (take bs).2.2)
    else ((take bs).1 :: (allF f (bs.drop (take bs).2.1)).1, (take bs).2.1 + (allF f (bs.drop (take bs).2.1)).2.1, (allF f (bs.drop (take bs).2.1)).2.2)
def all (bs : List UInt8) : List (List UInt8) × Nat × Int := allF bs.length bs
theorem take_len {bs : List UInt8} (h : (take bs).2.2 = 0) : 0 < (take bs).2.1 ∧ (take bs).2.1 ≤ bs.length := by
  obtain ⟨h1, h2, h3, h4, h5⟩ := take_ok (bs := bs) (x := (take bs).1) (n := (take bs).2.1) (by rw [← h])
  rw [fr_len] at h5
  have := List.length_pos_iff.2 h2
  omega
theorem allF_more {f g : Nat} {bs : List UInt8} (hf : bs.length ≤ f) (hg : bs.length ≤ g) : allF f bs = allF g bs := by
  induction f generalizing g bs with
  | zero =>
    have : bs = [] := List.length_eq_zero_iff.1 (by omega)
    subst this
    cases g <;> simp [allF]
  | succ f ih =>
    cases g with
    | zero =>
      have : bs = [] := List.length_eq_zero_iff.1 (by omega)
      subst this
      simp [allF]
    | succ g =>
      unfold allF
      split
      · rfl
      · split
        · rfl
        · rename_i h1 h2
          simp only [ne_eq, Decidable.not_not] at h2
          have := take_len h2
          rw [ih (g := g) (by simp; omega) (by simp; omega)]
theorem all_nil : all [] = ([], 0, 0) := rfl
theorem all_err {bs : List UInt8} (h0 : bs ≠ []) (h : (take bs).2.2 ≠ 0) : all bs = ([], 0, (take bs).2.2) := by
  obtain ⟨f, hf⟩ : ∃ f, bs.length = f + 1 := ⟨bs.length - 1, by have := List.length_pos_iff.2 h0; omega⟩
  unfold all
  rw [hf, allF, if_neg h0, if_pos h]
theorem all_ok {bs : List UInt8} (h0 : bs ≠ []) (h : (take bs).2.2 = 0) :
    all bs = ((take bs).1 :: (all (bs.drop (take bs).2.1)).1, (take bs).2.1 + (all (bs.drop (take bs).2.1)).2.1, (all (bs.drop (take bs).2.1)).2.2) := by
  obtain ⟨f, hf⟩ : ∃ f, bs.length = f + 1 := ⟨bs.length - 1, by have := List.length_pos_iff.2 h0; omega⟩
  have hl := take_len h
  have e : all (bs.drop (take bs).2.1) = allF f (bs.drop (take bs).2.1) := allF_more (Nat.le_refl _) (by simp; omega)
  rw [e]
  unfold all
  rw [hf, allF, if_neg h0, if_neg (by simpa using h)]
end Go.Proofs.YtmgdhloehkdffaaDoor.Fr
