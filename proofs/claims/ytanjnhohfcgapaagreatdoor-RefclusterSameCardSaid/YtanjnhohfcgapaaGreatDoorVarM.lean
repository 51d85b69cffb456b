/- Variable-length numbers as plain data. No program here. -/
import Derived.Test.YtanjnhohfcgapaaGreatDoorGenAll
set_option linter.unusedSimpArgs false
set_option linter.unusedVariables false
set_option linter.unnecessarySimpa false
namespace Go.Proofs.YtanjnhohfcgapaaGreatDoor.Var
open Go.RowKit

/-- A number's groups of seven bits, the least first; the last is marked. -/
def groups (n : Nat) : List (Nat × Bool) := if n < 128 then [(n, true)] else (n % 128, false) :: groups (n / 128)
termination_by n
decreasing_by omega
def uv (n : Nat) : List UInt8 := if n < 128 then [UInt8.ofNat n] else UInt8.ofNat (128 + n % 128) :: uv (n / 128)
termination_by n
decreasing_by omega
theorem groups_last {n : Nat} (h : n < 128) : groups n = [(n, true)] := by rw [groups, if_pos h]
theorem groups_more {n : Nat} (h : 128 ≤ n) : groups n = (n % 128, false) :: groups (n / 128) := by rw [groups, if_neg (by omega)]
theorem uv_last {n : Nat} (h : n < 128) : uv n = [UInt8.ofNat n] := by rw [uv, if_pos h]
theorem uv_more {n : Nat} (h : 128 ≤ n) : uv n = UInt8.ofNat (128 + n % 128) :: uv (n / 128) := by rw [uv, if_neg (by omega)]
def gbyte (x : Nat × Bool) : UInt8 := UInt8.ofNat (if x.2 then x.1 else 128 + x.1)
theorem groups_uv (n : Nat) : (groups n).map gbyte = uv n := by
  induction n using Nat.strongRecOn with
  | _ n ih =>
    by_cases h : n < 128
    · rw [groups_last h, uv_last h]; rfl
    · rw [groups_more (by omega), uv_more (by omega), List.map_cons, ih (n / 128) (by omega)]; rfl
theorem groups_lt (n : Nat) : ∀ x ∈ groups n, x.1 < 128 := by
  induction n using Nat.strongRecOn with
  | _ n ih =>
    by_cases h : n < 128
    · rw [groups_last h]; simp [h]
    · rw [groups_more (by omega)]
      intro x hx
      rcases List.mem_cons.1 hx with rfl | hx
      · exact Nat.mod_lt _ (by decide)
      · exact ih (n / 128) (by omega) x hx
theorem uv_len_pos (n : Nat) : 0 < (uv n).length := by
  by_cases h : n < 128
  · rw [uv_last h]; simp
  · rw [uv_more (by omega)]; simp
/-- At most k bytes for a number below 128^k. -/
theorem uv_len (k n : Nat) (h : n < 128 ^ (k + 1)) : (uv n).length ≤ k + 1 := by
  induction k generalizing n with
  | zero => rw [uv_last (by simpa using h)]; simp
  | succ k ih =>
    by_cases h1 : n < 128
    · rw [uv_last h1]; simp
    · rw [uv_more (by omega)]
      have : n / 128 < 128 ^ (k + 1) := by
        rw [Nat.pow_succ] at h
        exact Nat.div_lt_of_lt_mul (by rw [Nat.mul_comm]; exact h)
      have := ih (n / 128) this
      simp; omega
theorem uv_len10 {n : Nat} (h : n < 18446744073709551616) : (uv n).length ≤ 10 := uv_len 9 n (Nat.lt_of_lt_of_le h (by decide))

/-! reading -/
/-- How many bytes at the beginning say that more follows. -/
def lead : List UInt8 → Nat
  | [] => 0
  | c :: r => if 128 ≤ c.toNat then lead r + 1 else 0
def val : List UInt8 → Nat
  | [] => 0
  | c :: r => c.toNat % 128 + 128 * val r
/-- The number, how many bytes it has, the error. -/
def rd (bs : List UInt8) : Nat × Nat × Int :=
  if 10 ≤ lead bs ∨ (lead bs = 9 ∧ 9 < bs.length ∧ 1 < (bs.getD 9 0).toNat) then (0, 0, 11)
  else if lead bs = bs.length then (0, 0, 10)
  else if 0 < lead bs ∧ (bs.getD (lead bs) 0).toNat = 0 then (0, 0, 11)
  else (val (bs.take (lead bs + 1)), lead bs + 1, 0)
theorem lead_le (bs : List UInt8) : lead bs ≤ bs.length := by
  induction bs with
  | nil => simp [lead]
  | cons c r ih => simp only [lead, List.length_cons]; split <;> omega
theorem lead_hi {bs : List UInt8} {i : Nat} (h : i < lead bs) : 128 ≤ (bs.getD i 0).toNat := by
  induction bs generalizing i with
  | nil => simp [lead] at h
  | cons c r ih =>
    simp only [lead] at h
    split at h
    · rename_i hc
      cases i with
      | zero => simpa using hc
      | succ i => simpa using ih (by omega)
    · omega
theorem lead_lo {bs : List UInt8} (h : lead bs < bs.length) : (bs.getD (lead bs) 0).toNat < 128 := by
  induction bs with
  | nil => simp at h
  | cons c r ih =>
    by_cases hc : 128 ≤ c.toNat
    · have e : lead (c :: r) = lead r + 1 := by simp [lead, hc]
      rw [e] at h ⊢
      simpa using ih (by simpa using h)
    · have e : lead (c :: r) = 0 := by simp [lead, hc]
      rw [e]
      simpa using hc
/-- The count is known at the first byte that says no more. -/
theorem lead_eq {bs : List UInt8} {k : Nat} (h1 : ∀ i, i < k → 128 ≤ (bs.getD i 0).toNat) (hk : k ≤ bs.length) (h2 : k < bs.length → (bs.getD k 0).toNat < 128) : lead bs = k := by
  rcases Nat.lt_trichotomy (lead bs) k with h | h | h
  · have := lead_lo (bs := bs) (by omega)
    have := h1 _ h
    omega
  · exact h
  · have := lead_hi h
    have := h2 (by have := lead_le bs; omega)
    omega
theorem lead_ge {bs : List UInt8} {k : Nat} (h1 : ∀ i, i < k → 128 ≤ (bs.getD i 0).toNat) (hk : k ≤ bs.length) : k ≤ lead bs := by
  rcases Nat.lt_or_ge (lead bs) k with h | h
  · have := lead_lo (bs := bs) (by omega)
    have := h1 _ h
    omega
  · exact h
theorem val_snoc (l : List UInt8) (c : UInt8) : val (l ++ [c]) = val l + c.toNat % 128 * 128 ^ l.length := by
  induction l with
  | nil => simp [val]
  | cons a l ih =>
    simp only [List.cons_append, val, ih, List.length_cons, Nat.pow_succ, Nat.mul_add]
    rw [← Nat.mul_assoc, Nat.mul_comm 128 (c.toNat % 128), Nat.mul_assoc, Nat.mul_comm 128 (128 ^ l.length)]
    omega
theorem val_lt (l : List UInt8) : val l < 128 ^ l.length := by
  induction l with
  | nil => simp [val]
  | cons a l ih =>
    simp only [val, List.length_cons, Nat.pow_succ]
    have : a.toNat % 128 < 128 := Nat.mod_lt _ (by decide)
    omega
/-- Whoever reads what was written has it, and its length. -/
theorem ofNat8 {n : Nat} (h : n < 256) : (UInt8.ofNat n).toNat = n := UInt8.toNat_ofNat_of_lt' h
theorem uv_val (n : Nat) : val (uv n) = n := by
  induction n using Nat.strongRecOn with
  | _ n ih =>
    by_cases h : n < 128
    · rw [uv_last h]
      simp only [val]
      rw [ofNat8 (by omega)]
      omega
    · rw [uv_more (by omega)]
      simp only [val]
      rw [ih _ (by omega), ofNat8 (by omega)]
      omega
theorem uv_lead (n : Nat) (r : List UInt8) : lead (uv n ++ r) + 1 = (uv n).length := by
  induction n using Nat.strongRecOn with
  | _ n ih =>
    by_cases h : n < 128
    · rw [uv_last h]
      simp only [lead, List.cons_append, List.nil_append]
      rw [if_neg (by rw [ofNat8 (by omega)]; omega)]
      rfl
    · rw [uv_more (by omega)]
      have := ih (n / 128) (by omega)
      simp only [lead, List.cons_append]
      rw [if_pos (by rw [ofNat8 (by omega)]; omega)]
      simp only [List.length_cons]
      omega
theorem uv_last_pos {n : Nat} (h : 128 ≤ n) : ((uv n).getD ((uv n).length - 1) 0).toNat ≠ 0 := by
  induction n using Nat.strongRecOn with
  | _ n ih =>
    rw [uv_more h]
    have hp := uv_len_pos (n / 128)
    simp only [List.length_cons, Nat.add_sub_cancel]
    obtain ⟨k, hk⟩ : ∃ k, (uv (n / 128)).length = k + 1 := ⟨_, (Nat.sub_add_cancel hp).symm⟩
    rw [hk, List.getD_cons_succ]
    by_cases h1 : n / 128 < 128
    · rw [uv_last h1] at hk ⊢
      simp at hk
      subst hk
      simp only [List.getD_cons_zero]
      rw [ofNat8 (by omega)]
      omega
    · have := ih (n / 128) (by omega) (by omega)
      rw [hk] at this
      simpa using this
theorem rd_uv {n : Nat} (h : n < 18446744073709551616) (r : List UInt8) : rd (uv n ++ r) = (n, (uv n).length, 0) := by
  have h10 := uv_len10 h
  have hl := uv_lead n r
  have hp := uv_len_pos n
  have hget : ∀ i, i < (uv n).length → (uv n ++ r).getD i 0 = (uv n).getD i 0 := fun i hi => by
    simp [List.getD_eq_getElem?_getD, List.getElem?_append_left hi]
  unfold rd
  rw [if_neg, if_neg, if_neg]
  · rw [hl, List.take_left, uv_val]
  · rintro ⟨h1, h2⟩
    have hn : 128 ≤ n := by
      rcases Nat.lt_or_ge n 128 with h3 | h3
      · rw [uv_last h3] at hl; simp only [List.length_cons, List.length_nil] at hl; rw [uv_last h3] at h1; omega
      · exact h3
    have := uv_last_pos hn
    rw [hget _ (by omega), show lead (uv n ++ r) = (uv n).length - 1 by omega] at h2
    exact this h2
  · simp; omega
  · rintro (h1 | ⟨h1, h2, h3⟩)
    · omega
    · have h9 : (uv n).length = 10 := by omega
      rw [hget _ (by omega)] at h3
      have hv := uv_val n
      obtain ⟨l, c, hlc⟩ : ∃ l c, uv n = l ++ [c] := ⟨(uv n).dropLast, _, (List.dropLast_concat_getLast (List.ne_nil_of_length_pos hp)).symm⟩
      have hll : l.length = 9 := by rw [hlc] at h9; simpa using h9
      have hg : (uv n).getD 9 0 = c := by rw [hlc, ← hll]; simp
      have hlo := lead_lo (bs := uv n) (by have := uv_lead n []; rw [List.append_nil] at this; omega)
      have hl9 : lead (uv n) = 9 := by have := uv_lead n []; rw [List.append_nil] at this; omega
      rw [hl9, hg] at hlo
      rw [hg] at h3
      rw [hlc, val_snoc, hll] at hv
      have : c.toNat % 128 = c.toNat := Nat.mod_eq_of_lt hlo
      rw [this] at hv
      have : 2 * 128 ^ 9 ≤ c.toNat * 128 ^ 9 := Nat.mul_le_mul_right _ h3
      have : (128 : Nat) ^ 9 = 9223372036854775808 := by decide
      omega
/-- What is read as a number begins with the bytes that the number is written with. -/
theorem val_uv {l : List UInt8} (hne : l ≠ []) (h1 : ∀ i, i + 1 < l.length → 128 ≤ (l.getD i 0).toNat) (h2 : (l.getD (l.length - 1) 0).toNat < 128) (h3 : 1 < l.length → (l.getD (l.length - 1) 0).toNat ≠ 0) : uv (val l) = l := by
  induction l with
  | nil => exact absurd rfl hne
  | cons a l ih =>
    cases l with
    | nil =>
      simp only [List.length_cons, List.length_nil, Nat.reduceAdd, Nat.sub_self, List.getD_cons_zero] at h2
      simp only [val, Nat.mul_zero, Nat.add_zero]
      rw [Nat.mod_eq_of_lt h2, uv_last h2]
      simp
    | cons b l =>
      have ha := h1 0 (by simp)
      simp only [List.getD_cons_zero] at ha
      have e1 : (a :: b :: l).length - 1 = (b :: l).length - 1 + 1 := by simp
      rw [e1, List.getD_cons_succ] at h2 h3
      have h3' := h3 (by simp)
      have hv := ih (by simp) (fun i hi => by have := h1 (i + 1) (by simpa using hi); simpa using this) h2 (fun _ => h3')
      have hpos : 0 < val (b :: l) := by
        rcases Nat.eq_zero_or_pos (val (b :: l)) with h0 | h0
        · rw [h0, uv_last (by decide)] at hv
          rw [← hv] at h3'
          simp at h3'
        · exact h0
      have al := a.toNat_lt
      show uv (a.toNat % 128 + 128 * val (b :: l)) = _
      rw [uv_more (by omega)]
      have e2 : (a.toNat % 128 + 128 * val (b :: l)) / 128 = val (b :: l) := by omega
      have e3 : (a.toNat % 128 + 128 * val (b :: l)) % 128 = a.toNat % 128 := by omega
      rw [e2, e3, hv]
      congr 1
      apply UInt8.toNat_inj.1
      rw [ofNat8 (by omega)]
      omega
theorem rd_ok {bs : List UInt8} {n k : Nat} {e : Int} (h : rd bs = (n, k, e)) (he : e = 0) : 0 < k ∧ k ≤ 10 ∧ k ≤ bs.length ∧ uv n = bs.take k ∧ n < 18446744073709551616 := by
  subst he
  unfold rd at h
  split at h
  · simp at h
  · rename_i h1
    split at h
    · simp at h
    · rename_i h2
      split at h
      · simp at h
      · rename_i h3
        simp only [Prod.mk.injEq] at h
        obtain ⟨rfl, rfl, -⟩ := h
        have hle := lead_le bs
        have hlt : lead bs < bs.length := by omega
        have hl : (bs.take (lead bs + 1)).length = lead bs + 1 := by simp; omega
        have hget : ∀ i, i < lead bs + 1 → (bs.take (lead bs + 1)).getD i 0 = bs.getD i 0 := fun i hi => by
          simp [List.getD_eq_getElem?_getD, hi]
        refine ⟨by omega, by omega, by omega, val_uv ?_ ?_ ?_ ?_, ?_⟩
        · intro h0; rw [h0] at hl; simp at hl
        · intro i hi; rw [hl] at hi; rw [hget i (by omega)]; exact lead_hi (by omega)
        · rw [hl, hget _ (by omega)]; exact lead_lo hlt
        · intro h4
          rw [hl] at h4 ⊢
          rw [hget _ (by omega)]
          intro h5
          exact h3 ⟨by omega, h5⟩
        · rcases Nat.lt_or_ge (lead bs) 9 with h4 | h4
          · have hv := val_lt (bs.take (lead bs + 1))
            rw [hl] at hv
            exact Nat.lt_of_lt_of_le (Nat.lt_of_lt_of_le hv (Nat.pow_le_pow_right (by decide) (show lead bs + 1 ≤ 9 by omega))) (by decide)
          · have h9 : lead bs = 9 := by omega
            have h6 : (bs.getD 9 0).toNat ≤ 1 := by
              rcases Nat.lt_or_ge 1 (bs.getD 9 0).toNat with h7 | h7
              · exact absurd (.inr ⟨h9, by omega, h7⟩) h1
              · exact h7
            rw [h9, List.take_succ_eq_append_getElem (by omega), val_snoc]
            have hv := val_lt (bs.take 9)
            have hl9 : (bs.take 9).length = 9 := by simp; omega
            rw [hl9] at hv ⊢
            have hg : bs.getD 9 0 = bs[9]'(by omega) := by rw [List.getD_eq_getElem?_getD, List.getElem?_eq_getElem (by omega)]; rfl
            rw [hg] at h6
            have : (bs[9]'(by omega)).toNat % 128 * 128 ^ 9 ≤ 1 * 128 ^ 9 := Nat.mul_le_mul_right _ (by omega)
            have : (128 : Nat) ^ 9 = 9223372036854775808 := by decide
            omega
theorem rd_take_lt {bs : List UInt8} (h1 : ¬ (10 ≤ lead bs ∨ (lead bs = 9 ∧ 9 < bs.length ∧ 1 < (bs.getD 9 0).toNat))) (hlt : lead bs < bs.length) : val (bs.take (lead bs + 1)) < 18446744073709551616 := by
  have hl : (bs.take (lead bs + 1)).length = lead bs + 1 := by simp; omega
  rcases Nat.lt_or_ge (lead bs) 9 with h4 | h4
  · have hv := val_lt (bs.take (lead bs + 1))
    rw [hl] at hv
    exact Nat.lt_of_lt_of_le (Nat.lt_of_lt_of_le hv (Nat.pow_le_pow_right (by decide) (show lead bs + 1 ≤ 9 by omega))) (by decide)
  · have h9 : lead bs = 9 := by omega
    have h6 : (bs.getD 9 0).toNat ≤ 1 := by
      rcases Nat.lt_or_ge 1 (bs.getD 9 0).toNat with h7 | h7
      · exact absurd (.inr ⟨h9, by omega, h7⟩) h1
      · exact h7
    rw [h9, List.take_succ_eq_append_getElem (by omega), val_snoc]
    have hv := val_lt (bs.take 9)
    have hl9 : (bs.take 9).length = 9 := by simp; omega
    rw [hl9] at hv ⊢
    have hg : bs.getD 9 0 = bs[9]'(by omega) := by rw [List.getD_eq_getElem?_getD, List.getElem?_eq_getElem (by omega)]; rfl
    rw [hg] at h6
    have : (bs[9]'(by omega)).toNat % 128 * 128 ^ 9 ≤ 1 * 128 ^ 9 := Nat.mul_le_mul_right _ (by omega)
    have : (128 : Nat) ^ 9 = 9223372036854775808 := by decide
    omega
/-- Whether what was read is written alike. -/
theorem rd_alike {bs : List UInt8} (hlt : lead bs < bs.length) : uv (val (bs.take (lead bs + 1))) = bs.take (lead bs + 1) ↔ ¬ (0 < lead bs ∧ (bs.getD (lead bs) 0).toNat = 0) := by
  have hl : (bs.take (lead bs + 1)).length = lead bs + 1 := by simp; omega
  have hget : ∀ i, i < lead bs + 1 → (bs.take (lead bs + 1)).getD i 0 = bs.getD i 0 := fun i hi => by
    simp [List.getD_eq_getElem?_getD, hi]
  constructor
  · rintro h ⟨h1, h2⟩
    have hv : 128 ≤ val (bs.take (lead bs + 1)) := by
      rcases Nat.lt_or_ge (val (bs.take (lead bs + 1))) 128 with h3 | h3
      · rw [uv_last h3] at h
        have := congrArg List.length h
        rw [hl] at this
        simp at this
        omega
      · exact h3
    have h4 := uv_last_pos hv
    rw [h, hl, Nat.add_sub_cancel, hget _ (by omega)] at h4
    exact h4 h2
  · intro h3
    refine val_uv ?_ ?_ ?_ ?_
    · intro h0; rw [h0] at hl; simp at hl
    · intro i hi; rw [hl] at hi; rw [hget i (by omega)]; exact lead_hi (by omega)
    · rw [hl, hget _ (by omega)]; exact lead_lo hlt
    · intro h4
      rw [hl] at h4 ⊢
      rw [hget _ (by omega)]
      intro h5
      exact h3 ⟨by omega, h5⟩
theorem val_drop (l : List UInt8) (i : Nat) (h : i < l.length) : val (l.drop i) = (l.getD i 0).toNat % 128 + 128 * val (l.drop (i + 1)) := by
  rw [List.drop_eq_getElem_cons h, List.getD_eq_getElem?_getD, List.getElem?_eq_getElem h]
  rfl
theorem val_drop_le (l : List UInt8) (i : Nat) : val (l.drop i) ≤ val l := by
  induction l generalizing i with
  | nil => simp
  | cons a l ih =>
    cases i with
    | zero => simp
    | succ i =>
      have := ih i
      simp only [List.drop_succ_cons, val]
      omega
theorem rd_err (bs : List UInt8) : (rd bs).2.2 = 0 ∨ ((rd bs).1 = 0 ∧ (rd bs).2.1 = 0 ∧ ((rd bs).2.2 = 10 ∨ (rd bs).2.2 = 11)) := by
  unfold rd
  split
  · exact .inr ⟨rfl, rfl, .inr rfl⟩
  · split
    · exact .inr ⟨rfl, rfl, .inl rfl⟩
    · split
      · exact .inr ⟨rfl, rfl, .inr rfl⟩
      · exact .inl rfl
end Go.Proofs.YtanjnhohfcgapaaGreatDoor.Var
