/- VarM, VarR, VarT, VarTs, VarX, VarY, VarYi, VarW, VarU in one text. -/
import Derived.Test.YtfmaflaoplkdbaaGreatDoorGenAll
import Derived.IntWalk
set_option linter.unusedSimpArgs false
set_option linter.unusedVariables false
set_option linter.unnecessarySimpa false
namespace Go.Proofs.YtfmaflaoplkdbaaGreatDoor.Var
open Go.RowKit

/-- A number's groups of seven bits, the least first; the last is marked. -/
def groups (n : Nat) : List (Nat × Bool) := if n < 128 then [(n, true)] else (n % 128, false) :: groups (n / 128)
termination_by n
decreasing_by omega
def uv (n : Nat) : List UInt8 := if n < 128 then [UInt8.ofNat n] else UInt8.ofNat (128 + n % 128) :: uv (n / 128)
termination_by n
decreasing_by omega
theorem groups_last {n : Nat} (h : n < 128) : groups n = [(n, true)] := by rw [groups, if_pos h]
theorem groups_more {n : Nat} (h : 128 ≤ n) : groups n = (n % 128, false) :: groups (n / 128) := by rw [groups, if_neg (by omega)]
theorem uv_last {n : Nat} (h : n < 128) : uv n = [UInt8.ofNat n] := by rw [uv, if_pos h]
theorem uv_more {n : Nat} (h : 128 ≤ n) : uv n = UInt8.ofNat (128 + n % 128) :: uv (n / 128) := by rw [uv, if_neg (by omega)]
def gbyte (x : Nat × Bool) : UInt8 := UInt8.ofNat (if x.2 then x.1 else 128 + x.1)
theorem groups_uv (n : Nat) : (groups n).map gbyte = uv n := by
  induction n using Nat.strongRecOn with
  | _ n ih =>
    by_cases h : n < 128
    · rw [groups_last h, uv_last h]; rfl
    · rw [groups_more (by omega), uv_more (by omega), List.map_cons, ih (n / 128) (by omega)]; rfl
theorem groups_lt (n : Nat) : ∀ x ∈ groups n, x.1 < 128 := by
  induction n using Nat.strongRecOn with
  | _ n ih =>
    by_cases h : n < 128
    · rw [groups_last h]; simp [h]
    · rw [groups_more (by omega)]
      intro x hx
      rcases List.mem_cons.1 hx with rfl | hx
      · exact Nat.mod_lt _ (by decide)
      · exact ih (n / 128) (by omega) x hx
theorem uv_len_pos (n : Nat) : 0 < (uv n).length := by
  by_cases h : n < 128
  · rw [uv_last h]; simp
  · rw [uv_more (by omega)]; simp
/-- At most k bytes for a number below 128^k. -/
theorem uv_len (k n : Nat) (h : n < 128 ^ (k + 1)) : (uv n).length ≤ k + 1 := by
  induction k generalizing n with
  | zero => rw [uv_last (by simpa using h)]; simp
  | succ k ih =>
    by_cases h1 : n < 128
    · rw [uv_last h1]; simp
    · rw [uv_more (by omega)]
      have : n / 128 < 128 ^ (k + 1) := by
        rw [Nat.pow_succ] at h
        exact Nat.div_lt_of_lt_mul (by rw [Nat.mul_comm]; exact h)
      have := ih (n / 128) this
      simp; omega
theorem uv_len10 {n : Nat} (h : n < 18446744073709551616) : (uv n).length ≤ 10 := uv_len 9 n (Nat.lt_of_lt_of_le h (by decide))

/-! reading -/
/-- How many bytes at the beginning say that more follows. -/
def lead : List UInt8 → Nat
  | [] => 0
  | c :: r => if 128 ≤ c.toNat then lead r + 1 else 0
def val : List UInt8 → Nat
  | [] => 0
  | c :: r => c.toNat % 128 + 128 * val r
/-- The number, how many bytes it has, the error. -/
def rd (bs : List UInt8) : Nat × Nat × Int :=
  if 10 ≤ lead bs ∨ (lead bs = 9 ∧ 9 < bs.length ∧ 1 < (bs.getD 9 0).toNat) then (0, 0, 11)
  else if lead bs = bs.length then (0, 0, 10)
  else if 0 < lead bs ∧ (bs.getD (lead bs) 0).toNat = 0 then (0, 0, 11)
  else (val (bs.take (lead bs + 1)), lead bs + 1, 0)
theorem lead_le (bs : List UInt8) : lead bs ≤ bs.length := by
  induction bs with
  | nil => simp [lead]
  | cons c r ih => simp only [lead, List.length_cons]; split <;> omega
theorem lead_hi {bs : List UInt8} {i : Nat} (h : i < lead bs) : 128 ≤ (bs.getD i 0).toNat := by
  induction bs generalizing i with
  | nil => simp [lead] at h
  | cons c r ih =>
    simp only [lead] at h
    split at h
    · rename_i hc
      cases i with
      | zero => simpa using hc
      | succ i => simpa using ih (by omega)
    · omega
theorem lead_lo {bs : List UInt8} (h : lead bs < bs.length) : (bs.getD (lead bs) 0).toNat < 128 := by
  induction bs with
  | nil => simp at h
  | cons c r ih =>
    by_cases hc : 128 ≤ c.toNat
    · have e : lead (c :: r) = lead r + 1 := by simp [lead, hc]
      rw [e] at h ⊢
      simpa using ih (by simpa using h)
    · have e : lead (c :: r) = 0 := by simp [lead, hc]
      rw [e]
      simpa using hc
/-- The count is known at the first byte that says no more. -/
theorem lead_eq {bs : List UInt8} {k : Nat} (h1 : ∀ i, i < k → 128 ≤ (bs.getD i 0).toNat) (hk : k ≤ bs.length) (h2 : k < bs.length → (bs.getD k 0).toNat < 128) : lead bs = k := by
  rcases Nat.lt_trichotomy (lead bs) k with h | h | h
  · have := lead_lo (bs := bs) (by omega)
    have := h1 _ h
    omega
  · exact h
  · have := lead_hi h
    have := h2 (by have := lead_le bs; omega)
    omega
theorem lead_ge {bs : List UInt8} {k : Nat} (h1 : ∀ i, i < k → 128 ≤ (bs.getD i 0).toNat) (hk : k ≤ bs.length) : k ≤ lead bs := by
  rcases Nat.lt_or_ge (lead bs) k with h | h
  · have := lead_lo (bs := bs) (by omega)
    have := h1 _ h
    omega
  · exact h
theorem val_snoc (l : List UInt8) (c : UInt8) : val (l ++ [c]) = val l + c.toNat % 128 * 128 ^ l.length := by
  induction l with
  | nil => simp [val]
  | cons a l ih =>
    simp only [List.cons_append, val, ih, List.length_cons, Nat.pow_succ, Nat.mul_add]
    rw [← Nat.mul_assoc, Nat.mul_comm 128 (c.toNat % 128), Nat.mul_assoc, Nat.mul_comm 128 (128 ^ l.length)]
    omega
theorem val_lt (l : List UInt8) : val l < 128 ^ l.length := by
  induction l with
  | nil => simp [val]
  | cons a l ih =>
    simp only [val, List.length_cons, Nat.pow_succ]
    have : a.toNat % 128 < 128 := Nat.mod_lt _ (by decide)
    omega
/-- Whoever reads what was written has it, and its length. -/
theorem ofNat8 {n : Nat} (h : n < 256) : (UInt8.ofNat n).toNat = n := UInt8.toNat_ofNat_of_lt' h
theorem uv_val (n : Nat) : val (uv n) = n := by
  induction n using Nat.strongRecOn with
  | _ n ih =>
    by_cases h : n < 128
    · rw [uv_last h]
      simp only [val]
      rw [ofNat8 (by omega)]
      omega
    · rw [uv_more (by omega)]
      simp only [val]
      rw [ih _ (by omega), ofNat8 (by omega)]
      omega
theorem uv_lead (n : Nat) (r : List UInt8) : lead (uv n ++ r) + 1 = (uv n).length := by
  induction n using Nat.strongRecOn with
  | _ n ih =>
    by_cases h : n < 128
    · rw [uv_last h]
      simp only [lead, List.cons_append, List.nil_append]
      rw [if_neg (by rw [ofNat8 (by omega)]; omega)]
      rfl
    · rw [uv_more (by omega)]
      have := ih (n / 128) (by omega)
      simp only [lead, List.cons_append]
      rw [if_pos (by rw [ofNat8 (by omega)]; omega)]
      simp only [List.length_cons]
      omega
theorem uv_last_pos {n : Nat} (h : 128 ≤ n) : ((uv n).getD ((uv n).length - 1) 0).toNat ≠ 0 := by
  induction n using Nat.strongRecOn with
  | _ n ih =>
    rw [uv_more h]
    have hp := uv_len_pos (n / 128)
    simp only [List.length_cons, Nat.add_sub_cancel]
    obtain ⟨k, hk⟩ : ∃ k, (uv (n / 128)).length = k + 1 := ⟨_, (Nat.sub_add_cancel hp).symm⟩
    rw [hk, List.getD_cons_succ]
    by_cases h1 : n / 128 < 128
    · rw [uv_last h1] at hk ⊢
      simp at hk
      subst hk
      simp only [List.getD_cons_zero]
      rw [ofNat8 (by omega)]
      omega
    · have := ih (n / 128) (by omega) (by omega)
      rw [hk] at this
      simpa using this
theorem rd_uv {n : Nat} (h : n < 18446744073709551616) (r : List UInt8) : rd (uv n ++ r) = (n, (uv n).length, 0) := by
  have h10 := uv_len10 h
  have hl := uv_lead n r
  have hp := uv_len_pos n
  have hget : ∀ i, i < (uv n).length → (uv n ++ r).getD i 0 = (uv n).getD i 0 := fun i hi => by
    simp [List.getD_eq_getElem?_getD, List.getElem?_append_left hi]
  unfold rd
  rw [if_neg, if_neg, if_neg]
  · rw [hl, List.take_left, uv_val]
  · rintro ⟨h1, h2⟩
    have hn : 128 ≤ n := by
      rcases Nat.lt_or_ge n 128 with h3 | h3
      · rw [uv_last h3] at hl; simp only [List.length_cons, List.length_nil] at hl; rw [uv_last h3] at h1; omega
      · exact h3
    have := uv_last_pos hn
    rw [hget _ (by omega), show lead (uv n ++ r) = (uv n).length - 1 by omega] at h2
    exact this h2
  · simp; omega
  · rintro (h1 | ⟨h1, h2, h3⟩)
    · omega
    · have h9 : (uv n).length = 10 := by omega
      rw [hget _ (by omega)] at h3
      have hv := uv_val n
      obtain ⟨l, c, hlc⟩ : ∃ l c, uv n = l ++ [c] := ⟨(uv n).dropLast, _, (List.dropLast_concat_getLast (List.ne_nil_of_length_pos hp)).symm⟩
      have hll : l.length = 9 := by rw [hlc] at h9; simpa using h9
      have hg : (uv n).getD 9 0 = c := by rw [hlc, ← hll]; simp
      have hlo := lead_lo (bs := uv n) (by have := uv_lead n []; rw [List.append_nil] at this; omega)
      have hl9 : lead (uv n) = 9 := by have := uv_lead n []; rw [List.append_nil] at this; omega
      rw [hl9, hg] at hlo
      rw [hg] at h3
      rw [hlc, val_snoc, hll] at hv
      have : c.toNat % 128 = c.toNat := Nat.mod_eq_of_lt hlo
      rw [this] at hv
      have : 2 * 128 ^ 9 ≤ c.toNat * 128 ^ 9 := Nat.mul_le_mul_right _ h3
      have : (128 : Nat) ^ 9 = 9223372036854775808 := by decide
      omega
/-- What is read as a number begins with the bytes that the number is written with. -/
theorem val_uv {l : List UInt8} (hne : l ≠ []) (h1 : ∀ i, i + 1 < l.length → 128 ≤ (l.getD i 0).toNat) (h2 : (l.getD (l.length - 1) 0).toNat < 128) (h3 : 1 < l.length → (l.getD (l.length - 1) 0).toNat ≠ 0) : uv (val l) = l := by
  induction l with
  | nil => exact absurd rfl hne
  | cons a l ih =>
    cases l with
    | nil =>
      simp only [List.length_cons, List.length_nil, Nat.reduceAdd, Nat.sub_self, List.getD_cons_zero] at h2
      simp only [val, Nat.mul_zero, Nat.add_zero]
      rw [Nat.mod_eq_of_lt h2, uv_last h2]
      simp
    | cons b l =>
      have ha := h1 0 (by simp)
      simp only [List.getD_cons_zero] at ha
      have e1 : (a :: b :: l).length - 1 = (b :: l).length - 1 + 1 := by simp
      rw [e1, List.getD_cons_succ] at h2 h3
      have h3' := h3 (by simp)
      have hv := ih (by simp) (fun i hi => by have := h1 (i + 1) (by simpa using hi); simpa using this) h2 (fun _ => h3')
      have hpos : 0 < val (b :: l) := by
        rcases Nat.eq_zero_or_pos (val (b :: l)) with h0 | h0
        · rw [h0, uv_last (by decide)] at hv
          rw [← hv] at h3'
          simp at h3'
        · exact h0
      have al := a.toNat_lt
      show uv (a.toNat % 128 + 128 * val (b :: l)) = _
      rw [uv_more (by omega)]
      have e2 : (a.toNat % 128 + 128 * val (b :: l)) / 128 = val (b :: l) := by omega
      have e3 : (a.toNat % 128 + 128 * val (b :: l)) % 128 = a.toNat % 128 := by omega
      rw [e2, e3, hv]
      congr 1
      apply UInt8.toNat_inj.1
      rw [ofNat8 (by omega)]
      omega
theorem rd_ok {bs : List UInt8} {n k : Nat} {e : Int} (h : rd bs = (n, k, e)) (he : e = 0) : 0 < k ∧ k ≤ 10 ∧ k ≤ bs.length ∧ uv n = bs.take k ∧ n < 18446744073709551616 := by
  subst he
  unfold rd at h
  split at h
  · simp at h
  · rename_i h1
    split at h
    · simp at h
    · rename_i h2
      split at h
      · simp at h
      · rename_i h3
        simp only [Prod.mk.injEq] at h
        obtain ⟨rfl, rfl, -⟩ := h
        have hle := lead_le bs
        have hlt : lead bs < bs.length := by omega
        have hl : (bs.take (lead bs + 1)).length = lead bs + 1 := by simp; omega
        have hget : ∀ i, i < lead bs + 1 → (bs.take (lead bs + 1)).getD i 0 = bs.getD i 0 := fun i hi => by
          simp [List.getD_eq_getElem?_getD, hi]
        refine ⟨by omega, by omega, by omega, val_uv ?_ ?_ ?_ ?_, ?_⟩
        · intro h0; rw [h0] at hl; simp at hl
        · intro i hi; rw [hl] at hi; rw [hget i (by omega)]; exact lead_hi (by omega)
        · rw [hl, hget _ (by omega)]; exact lead_lo hlt
        · intro h4
          rw [hl] at h4 ⊢
          rw [hget _ (by omega)]
          intro h5
          exact h3 ⟨by omega, h5⟩
        · rcases Nat.lt_or_ge (lead bs) 9 with h4 | h4
          · have hv := val_lt (bs.take (lead bs + 1))
            rw [hl] at hv
            exact Nat.lt_of_lt_of_le (Nat.lt_of_lt_of_le hv (Nat.pow_le_pow_right (by decide) (show lead bs + 1 ≤ 9 by omega))) (by decide)
          · have h9 : lead bs = 9 := by omega
            have h6 : (bs.getD 9 0).toNat ≤ 1 := by
              rcases Nat.lt_or_ge 1 (bs.getD 9 0).toNat with h7 | h7
              · exact absurd (.inr ⟨h9, by omega, h7⟩) h1
              · exact h7
            rw [h9, List.take_succ_eq_append_getElem (by omega), val_snoc]
            have hv := val_lt (bs.take 9)
            have hl9 : (bs.take 9).length = 9 := by simp; omega
            rw [hl9] at hv ⊢
            have hg : bs.getD 9 0 = bs[9]'(by omega) := by rw [List.getD_eq_getElem?_getD, List.getElem?_eq_getElem (by omega)]; rfl
            rw [hg] at h6
            have : (bs[9]'(by omega)).toNat % 128 * 128 ^ 9 ≤ 1 * 128 ^ 9 := Nat.mul_le_mul_right _ (by omega)
            have : (128 : Nat) ^ 9 = 9223372036854775808 := by decide
            omega
theorem rd_take_lt {bs : List UInt8} (h1 : ¬ (10 ≤ lead bs ∨ (lead bs = 9 ∧ 9 < bs.length ∧ 1 < (bs.getD 9 0).toNat))) (hlt : lead bs < bs.length) : val (bs.take (lead bs + 1)) < 18446744073709551616 := by
  have hl : (bs.take (lead bs + 1)).length = lead bs + 1 := by simp; omega
  rcases Nat.lt_or_ge (lead bs) 9 with h4 | h4
  · have hv := val_lt (bs.take (lead bs + 1))
    rw [hl] at hv
    exact Nat.lt_of_lt_of_le (Nat.lt_of_lt_of_le hv (Nat.pow_le_pow_right (by decide) (show lead bs + 1 ≤ 9 by omega))) (by decide)
  · have h9 : lead bs = 9 := by omega
    have h6 : (bs.getD 9 0).toNat ≤ 1 := by
      rcases Nat.lt_or_ge 1 (bs.getD 9 0).toNat with h7 | h7
      · exact absurd (.inr ⟨h9, by omega, h7⟩) h1
      · exact h7
    rw [h9, List.take_succ_eq_append_getElem (by omega), val_snoc]
    have hv := val_lt (bs.take 9)
    have hl9 : (bs.take 9).length = 9 := by simp; omega
    rw [hl9] at hv ⊢
    have hg : bs.getD 9 0 = bs[9]'(by omega) := by rw [List.getD_eq_getElem?_getD, List.getElem?_eq_getElem (by omega)]; rfl
    rw [hg] at h6
    have : (bs[9]'(by omega)).toNat % 128 * 128 ^ 9 ≤ 1 * 128 ^ 9 := Nat.mul_le_mul_right _ (by omega)
    have : (128 : Nat) ^ 9 = 9223372036854775808 := by decide
    omega
/-- Whether what was read is written alike. -/
theorem rd_alike {bs : List UInt8} (hlt : lead bs < bs.length) : uv (val (bs.take (lead bs + 1))) = bs.take (lead bs + 1) ↔ ¬ (0 < lead bs ∧ (bs.getD (lead bs) 0).toNat = 0) := by
  have hl : (bs.take (lead bs + 1)).length = lead bs + 1 := by simp; omega
  have hget : ∀ i, i < lead bs + 1 → (bs.take (lead bs + 1)).getD i 0 = bs.getD i 0 := fun i hi => by
    simp [List.getD_eq_getElem?_getD, hi]
  constructor
  · rintro h ⟨h1, h2⟩
    have hv : 128 ≤ val (bs.take (lead bs + 1)) := by
      rcases Nat.lt_or_ge (val (bs.take (lead bs + 1))) 128 with h3 | h3
      · rw [uv_last h3] at h
        have := congrArg List.length h
        rw [hl] at this
        simp at this
        omega
      · exact h3
    have h4 := uv_last_pos hv
    rw [h, hl, Nat.add_sub_cancel, hget _ (by omega)] at h4
    exact h4 h2
  · intro h3
    refine val_uv ?_ ?_ ?_ ?_
    · intro h0; rw [h0] at hl; simp at hl
    · intro i hi; rw [hl] at hi; rw [hget i (by omega)]; exact lead_hi (by omega)
    · rw [hl, hget _ (by omega)]; exact lead_lo hlt
    · intro h4
      rw [hl] at h4 ⊢
      rw [hget _ (by omega)]
      intro h5
      exact h3 ⟨by omega, h5⟩
theorem val_drop (l : List UInt8) (i : Nat) (h : i < l.length) : val (l.drop i) = (l.getD i 0).toNat % 128 + 128 * val (l.drop (i + 1)) := by
  rw [List.drop_eq_getElem_cons h, List.getD_eq_getElem?_getD, List.getElem?_eq_getElem h]
  rfl
theorem val_drop_le (l : List UInt8) (i : Nat) : val (l.drop i) ≤ val l := by
  induction l generalizing i with
  | nil => simp
  | cons a l ih =>
    cases i with
    | zero => simp
    | succ i =>
      have := ih i
      simp only [List.drop_succ_cons, val]
      omega
theorem rd_err (bs : List UInt8) : (rd bs).2.2 = 0 ∨ ((rd bs).1 = 0 ∧ (rd bs).2.1 = 0 ∧ ((rd bs).2.2 = 10 ∨ (rd bs).2.2 = 11)) := by
  unfold rd
  split
  · exact .inr ⟨rfl, rfl, .inr rfl⟩
  · split
    · exact .inr ⟨rfl, rfl, .inl rfl⟩
    · split
      · exact .inr ⟨rfl, rfl, .inr rfl⟩
      · exact .inl rfl
end Go.Proofs.YtfmaflaoplkdbaaGreatDoor.Var
namespace Go.Proofs.YtfmaflaoplkdbaaGreatDoor.Var
open Go.RowKit Go.Proofs.YtfmaflaoplkdbaaGreatDoor.Crc
abbrev TR : TypeId := 208

/-- A reader in memory: its error, and what is left to read. -/
structure RdAt (w : World) (R : Nat) (e : Int) (xo : Option Addr) (m c : Nat) (lim : Int) : Prop where
  hR : w.heap[R]? = some (.cells #[.int .i64 e, .slice xo m c, .int .i64 lim] TR (0, 0))
namespace RdAt
variable {w w' : World} {R m c : Nat} {e lim : Int} {xo : Option Addr}
theorem c0 (h : RdAt w R e xo m c lim) : w.cell? ⟨R, 0, none⟩ = some (.int .i64 e) := blk_cell h.hR rfl
theorem c1 (h : RdAt w R e xo m c lim) : w.cell? ⟨R, 1, none⟩ = some (.slice xo m c) := blk_cell h.hR rfl
theorem c2 (h : RdAt w R e xo m c lim) : w.cell? ⟨R, 2, none⟩ = some (.int .i64 lim) := blk_cell h.hR rfl
theorem fr (h : RdAt w R e xo m c lim) (i : Nat) : w.frozen? ⟨R, i, none⟩ = false := blk_free h.hR
theorem upd {S : List Nat} (h : RdAt w R e xo m c lim) (hu : Upd S w w') (h1 : R ∉ S) : RdAt w' R e xo m c lim := ⟨hu.get h.hR h1⟩
theorem setE (h : RdAt w R e xo m c lim) (x : Int) : RdAt (w.setCell ⟨R, 0, none⟩ (.int .i64 x)) R x xo m c lim := ⟨blk_set h.hR _⟩
theorem setB (h : RdAt w R e xo m c lim) (yo : Option Addr) (n d : Nat) : RdAt (w.setCell ⟨R, 1, none⟩ (.slice yo n d)) R e yo n d lim := ⟨blk_set h.hR _⟩
end RdAt

set_option maxHeartbeats 400000 in
theorem new_any {xo : Option Addr} {m c : Nat} {lim : Int} (w : World) :
    Calls Tryz.prog 68 #[.slice xo m c, .int .i64 lim] w fun e w' => ∃ v, e = .returned v ∧ v = .pointer (some ⟨w.heap.size, 0, none⟩) ∧ RdAt w' w.heap.size 0 xo m c lim ∧ Upd [] w w' := by
  go_enter Tryz.func68, Tryz.ntmps68
  go_wp2_with fail
  go_ret
  exact ⟨_, rfl, rfl, ⟨blk_new _ _⟩, (Upd.refl _ _).alloc _⟩
set_option maxHeartbeats 400000 in
theorem err_any {R m c : Nat} {e lim : Int} {xo : Option Addr} (w : World) (h : RdAt w R e xo m c lim) :
    Calls Tryz.prog 107 #[.pointer (some ⟨R, 0, none⟩)] w fun en w' => en = .returned (.int .i64 e) ∧ w = w' := by
  have hc := h.c0
  clear h
  go_enter Tryz.func107, Tryz.ntmps107
  go_wp2_with fail
  go_ret
  exact ⟨rfl, rfl⟩
set_option maxHeartbeats 400000 in
theorem fail_any {R m c : Nat} {lim x : Int} {xo : Option Addr} (w : World) (h : RdAt w R 0 xo m c lim) :
    Calls Tryz.prog 111 #[.pointer (some ⟨R, 0, none⟩), .int .i64 x] w fun en w' => en = .returned (.tuple #[]) ∧ RdAt w' R x xo m c lim ∧ Upd [R] w w' := by
  have hc := h.c0
  have hf := h.fr 0
  have H := hide h
  clear h
  go_enter Tryz.func111, Tryz.ntmps111
  go_wp2_with fail
  go_end0
  exact ⟨rfl, H.out.setE x, (Upd.refl _ _).setCell (.inl (by simp)) _⟩
set_option maxHeartbeats 400000 in
theorem byte_short {R c : Nat} {lim : Int} {xo : Option Addr} (w : World) (h : RdAt w R 0 xo 0 c lim) :
    Calls Tryz.prog 110 #[.pointer (some ⟨R, 0, none⟩)] w fun en w' => en = .returned (.int .u8 0) ∧ RdAt w' R 10 xo 0 c lim ∧ Upd [R] w w' := by
  have hc0 := h.c0
  have hc1 := h.c1
  have H := hide h
  clear h
  go_enter Tryz.func110, Tryz.ntmps110
  go_wp2_with fail
  refine (fail_any _ H.out).mono ?_
  rintro e w1 ⟨rfl, h1, hu1⟩
  have H1 := hide h1; have U1 := hide hu1
  clear h1 hu1
  go_wp2_with fail
  go_ret
  exact ⟨rfl, H1.out, U1.out⟩
set_option maxHeartbeats 400000 in
theorem byte_any {R m c : Nat} {lim : Int} {xo : Option Addr} {bs : List UInt8} (w : World) (h : RdAt w R 0 xo m c lim) (hs : SrcAt w xo m c (bs.map u8v) 1) (hm : 0 < m) :
    Calls Tryz.prog 110 #[.pointer (some ⟨R, 0, none⟩)] w fun en w' => en = .returned (.int .u8 ((bs.getD 0 0).toNat : Nat)) ∧ RdAt w' R 0 (cutAt xo 1 c) (m - 1) (c - 1) lim ∧ Upd [R] w w' := by
  have hc0 := h.c0
  have hc1 := h.c1
  have hf1 := h.fr 1
  have H := hide h
  obtain ⟨b, off, hxo, hcell⟩ := src_at hs hm
  have hsl := run_cut_l (P := Tryz.prog) 27 5 Tryz.underlying27 sizeB xo m c 1 1 rfl hm
  have hd : decide ((m : Int) = 0) = false := by simp; omega
  have hd2 : ((m : Int) == 0) = false := by simp; omega
  simp only [Nat.add_zero] at hcell
  subst hxo
  clear h hs
  go_enter Tryz.func110, Tryz.ntmps110
  go_wp2_with fail
  go_ret
  exact ⟨rfl, H.out.setB _ _ _, (Upd.refl _ _).setCell (.inl (by simp)) _⟩

/-- A cut lies in the block of what is cut. -/
theorem cut_block {Q : Nat → Prop} {yo : Option Addr} {l d : Nat} (h : ∀ a, yo = some a → Q a.block) : ∀ a, cutAt yo l d = some a → Q a.block := by
  intro a ha
  unfold cutAt at ha
  split at ha
  · exact h a ha
  · cases yo with
    | none => cases ha
    | some a0 =>
      cases ha
      have := h a0 rfl
      unfold Addr.add
      split <;> simpa using this
/-- How a number is read: what is answered, and how the reader stands. -/
structure Read (w : World) (R : Nat) (T : Nat → Prop) (bs : List UInt8) (lim : Int) (en : Ending) (w' : World) : Prop where
  ans : en = .returned (.int .u64 ((rd bs).1 : Nat))
  upd : Upd [R] w w'
  rdr : ∃ xo m c, RdAt w' R (rd bs).2.2 xo m c lim ∧ ((rd bs).2.2 = 0 → SrcAt w' xo m c ((bs.drop (rd bs).2.1).map u8v) 1 ∧ m ≤ c ∧ ∀ a, xo = some a → m ≠ 0 → T a.block)
set_option maxRecDepth 100000 in
set_option maxHeartbeats 4000000 in
theorem uint_read {R m c : Nat} {T : Nat → Prop} {lim : Int} {xo : Option Addr} {bs : List UInt8} (w : World) (h : RdAt w R 0 xo m c lim) (hs : SrcAt w xo m c (bs.map u8v) 1) (hmc : m ≤ c) (hR : ∀ a, xo = some a → m ≠ 0 → a.block ≠ R ∧ T a.block) :
    Calls Tryz.prog 69 #[.pointer (some ⟨R, 0, none⟩)] w fun en w' => Read w R T bs lim en w' := by
  have H := hide h; have HS := hide hs; have HRR := hide hR
  have hlen : bs.length = m := by have := hs.len; simpa using this
  have HL := hide hlen
  clear h hs hlen hR
  go_enter Tryz.func69, Tryz.ntmps69
  go_wp2_with fail
  go_loopw [3, 4] (fun sn si wr => ∃ (k n : Nat) (yo : Option Addr) (d : Nat), k ≤ m ∧ k ≤ 9 ∧ si = .int .i64 k ∧ sn = .int .u64 n ∧ n = val (bs.take k) ∧ (∀ i, i < k → 128 ≤ (bs.getD i 0).toNat) ∧ Upd [R] w wr ∧ RdAt wr R 0 yo (m - k) d lim ∧ SrcAt wr yo (m - k) d ((bs.drop k).map u8v) 1 ∧ m - k ≤ d ∧ (∀ a, yo = some a → m - k ≠ 0 → a.block ≠ R ∧ T a.block)) (fun _ si _ => 10 - (intOf si).toNat)
  case atStart => exact ⟨0, 0, xo, c, by omega, by omega, rfl, rfl, by simp [val], by omega, Upd.refl _ _, H.out, HS.out, by omega, HRR.out⟩
  case round =>
    obtain ⟨k, n, yo, d, hk, hk9, rfl, rfl, hn, hhi, hu, hr, hs, hd, hyR⟩ := hrel
    have hnl : n < 128 ^ k := by
      rw [hn]
      have := val_lt (bs.take k)
      rwa [List.length_take, Nat.min_eq_left (by rw [HL.out]; exact hk)] at this
    have HN := hide hn; have HHI := hide hhi; have HU := hide hu; have HR := hide hr; have HS2 := hide hs; have HY := hide hyR
    clear hn hhi hu hr hs hyR H HS HRR
    have hd0 : decide ((k : Int) < 10) = true := by simp; omega
    by_cases hkm : k = m
    · have HR' : Hid (RdAt wr R 0 yo 0 d lim) := by
        have := HR.out
        rw [show m - k = 0 by omega] at this
        exact this
      have hle : lead bs = k := lead_eq HHI.out (by rw [HL.out]; exact hk) (fun h => by rw [HL.out] at h; omega)
      have hrd : rd bs = (0, 0, 10) := by
        unfold rd
        rw [if_neg (by have := HL.out; rw [hle]; omega), if_pos (by rw [hle, HL.out]; exact hkm)]
      have RD := hide hrd
      clear hle hrd hkm
      go_wp2_with fail
      refine (byte_short _ HR'.out).mono ?_
      rintro e w1 ⟨rfl, h1, hu1⟩
      have H1 := hide h1; have U1 := hide (HU.out.trans hu1)
      clear h1 hu1
      go_wp2_with fail
      refine (err_any _ H1.out).mono ?_
      rintro e w2 ⟨rfl, rfl⟩
      go_wp2_with fail
      go_ret
      exact ⟨by rw [RD.out]; rfl, U1.out, _, _, _, by rw [RD.out]; exact H1.out, by rw [RD.out]; intro h; simp at h⟩
    · have hlt : k < m := by omega
      obtain ⟨x, hx⟩ : ∃ x, (bs.getD k 0).toNat = x := ⟨_, rfl⟩
      have hx2 : ((bs.drop k).getD 0 0).toNat = x := by simpa [List.getD_eq_getElem?_getD, List.getElem?_drop] using hx
      have hxl : x < 256 := by rw [← hx]; exact UInt8.toNat_lt _
      have HX := hide hx; have HX2 := hide hx2
      clear hx hx2
      go_wp2_with fail
      refine (byte_any _ HR.out HS2.out (by omega)).mono ?_
      rw [HX2.out]
      rintro e w1 ⟨rfl, h1, hu1⟩
      have hs1 := src_upd HS2.out hu1 (fun a e h0 => by simpa using (HY.out a e h0).1)
      have hs2 := src_cut (l := 1) (h := m - k) (q := d) hs1 (by omega) (Nat.le_refl _) hd (Nat.le_refl _)
      have H1 := hide h1; have U1 := hide (HU.out.trans hu1); have S1 := hide hs2
      clear h1 hu1 hs1 hs2 HR HS2 HU
      go_wp2_with fail
      refine (err_any _ H1.out).mono ?_
      rintro e w2 ⟨rfl, rfl⟩
      have e1 : Go.bits .and .u8 (x : Int) 127 = ((x % 128 : Nat) : Int) := by
        rw [show (127 : Int) = ((127 : Nat) : Int) from rfl, u8_and_nat _ _ hxl (by decide), nat_mask7]
      obtain ⟨y, hy⟩ : ∃ y, x % 128 = y := ⟨_, rfl⟩
      rw [hy] at e1
      have hyl : y < 128 := by omega
      have HYY := hide hy
      clear hy
      obtain ⟨v, hv, hv2⟩ : ∃ v : Nat, Go.bits .or .u64 (n : Int) (IntKind.u64.wrap ((y : Int) * 2 ^ (7 * k))) = (v : Int) ∧ (k < 9 ∨ x ≤ 1 → v = val (bs.take (k + 1))) := by
        have hb : n < 2 ^ (7 * k) := by rw [Nat.pow_mul]; exact hnl
        have hkp : (2 : Nat) ^ (7 * k) ≤ 2 ^ 63 := Nat.pow_le_pow_right (by decide) (by omega)
        refine ⟨n ||| (y * 2 ^ (7 * k)) % 18446744073709551616, ?_, fun h => ?_⟩
        · rw [IntKind.wrap_u64, show ((y : Int) * 2 ^ (7 * k)) % 18446744073709551616 = (((y * 2 ^ (7 * k)) % 18446744073709551616 : Nat) : Int) by rw [Int.natCast_emod, Int.natCast_mul, Int.natCast_pow]; rfl]
          exact u64_or_nat _ _ (by omega) (Nat.mod_lt _ (by decide))
        · have hsm : y * 2 ^ (7 * k) < 18446744073709551616 := by
            rcases h with h | h
            · have h1 : y * 2 ^ (7 * k) ≤ 127 * 2 ^ (7 * k) := Nat.mul_le_mul_right _ (by omega)
              have h2 : (2 : Nat) ^ (7 * k) ≤ 2 ^ 56 := Nat.pow_le_pow_right (by decide) (by omega)
              omega
            · have h1 : y * 2 ^ (7 * k) ≤ 1 * 2 ^ (7 * k) := Nat.mul_le_mul_right _ (by have := HYY.out; omega)
              omega
          rw [Nat.mod_eq_of_lt hsm, Nat.or_comm, nat_join (7 * k) _ _ (Nat.mul_mod_left _ _) hb]
          have hbl : k < bs.length := by rw [HL.out]; exact hlt
          rw [take_snoc8 _ _ hbl, val_snoc, ← HN.out, HX.out, HYY.out, List.length_take, Nat.min_eq_left (by omega), show (2 : Nat) ^ (7 * k) = 128 ^ k from by rw [Nat.pow_mul]]
          omega
      have HV2 := hide hv2
      clear hv2
      by_cases c1 : k = 9 ∧ 1 < x
      · obtain ⟨h9, h1x⟩ := c1
        have q1 : ((k : Int) == 9) = true := by simp; omega
        have q2 : decide ((1 : Int) < x) = true := by simp; omega
        have hrd : rd bs = (0, 0, 11) := by
          unfold rd
          have := HX.out
          subst h9
          have hg := lead_ge HHI.out (by rw [HL.out]; exact hk)
          rw [if_pos]
          rcases Nat.lt_or_ge (lead bs) 10 with h | h
          · exact .inr ⟨by omega, by have := HL.out; omega, by omega⟩
          · exact .inl h
        have RD := hide hrd
        clear hrd h9
        go_wp2_with fail
        refine (fail_any _ H1.out).mono ?_
        rintro e w2 ⟨rfl, h2, hu2⟩
        have H2 := hide h2; have U2 := hide (U1.out.trans hu2)
        clear h2 hu2
        go_wp2_with fail
        go_ret
        exact ⟨by rw [RD.out]; rfl, U2.out, _, _, _, by rw [RD.out]; exact H2.out, by rw [RD.out]; intro h; simp at h⟩
      · by_cases c2 : 0 < k ∧ x = 0
        · obtain ⟨h0k, h0x⟩ := c2
          have q2 : decide ((1 : Int) < x) = false := by simp; omega
          have q3 : decide ((0 : Int) < k) = true := by simp; omega
          have q4 : ((x : Int) == 0) = true := by simp; omega
          have hrd : rd bs = (0, 0, 11) := by
            unfold rd
            have hx := HX.out
            have hbl := HL.out
            have hle : lead bs = k := lead_eq HHI.out (by omega) (fun _ => by omega)
            rw [hle, if_neg (by rintro (h | ⟨h, -, h'⟩); omega; subst h; omega), if_neg (by omega), if_pos ⟨h0k, by omega⟩]
          have RD := hide hrd
          clear hrd c1
          rcases Bool.eq_false_or_eq_true ((k : Int) == 9) with qk | qk
          all_goals
            go_wp2_with fail
            refine (fail_any _ H1.out).mono ?_
            rintro e w2 ⟨rfl, h2, hu2⟩
            have H2 := hide h2; have U2 := hide (U1.out.trans hu2)
            clear h2 hu2
            go_wp2_with fail
            go_ret
            exact ⟨by rw [RD.out]; rfl, U2.out, _, _, _, by rw [RD.out]; exact H2.out, by rw [RD.out]; intro h; simp at h⟩
        · have q1 : ((k : Int) == 9) = false ∨ ((k : Int) == 9) = true ∧ decide ((1 : Int) < x) = false := by
            by_cases h : k = 9
            · exact .inr ⟨by simp; omega, by simp; omega⟩
            · exact .inl (by simp; omega)
          have q3 : decide (0 < k) = false ∨ decide (0 < k) = true ∧ ((x : Int) == 0) = false := by
            by_cases h : 0 < k
            · exact .inr ⟨by simp; omega, by simp; omega⟩
            · exact .inl (by simp; omega)
          by_cases c3 : x < 128
          · have q5 : decide ((x : Int) < 128) = true := by simp; omega
            have hrd : rd bs = (v, k + 1, 0) := by
              have hx := HX.out
              have hbl := HL.out
              have hle : lead bs = k := lead_eq HHI.out (by omega) (fun _ => by omega)
              unfold rd
              rw [hle, if_neg (by rintro (h | ⟨h, -, h'⟩); omega; subst h; omega), if_neg (by omega), if_neg (by omega), HV2.out (by omega)]
            have RD := hide hrd
            have C1 := hide c1
            have C2 := hide c2
            clear hrd c1 c2
            rcases q1 with q1 | ⟨q1, q2⟩ <;> rcases q3 with q3 | ⟨q3, q4⟩
            all_goals
              go_wp2_with fail
              go_ret
              refine ⟨by rw [RD.out]; rfl, U1.out, _, _, _, by rw [RD.out]; exact H1.out, fun _ => ⟨?_, by omega, ?_⟩⟩
              · rw [RD.out]
                have := S1.out
                rw [List.take_of_length_le (by simp; have := HL.out; omega), List.drop_drop] at this
                exact this
              · exact fun a ha h0 => (cut_block (Q := fun b => b ≠ R ∧ T b) (fun a h => HY.out a h (by omega)) a ha).2
          · have q5 : decide ((x : Int) < 128) = false := by simp; omega
            have C1 := hide c1
            have C2 := hide c2
            have C3 := hide c3
            clear c1 c2 c3
            rcases q1 with q1 | ⟨q1, q2⟩ <;> rcases q3 with q3 | ⟨q3, q4⟩
            all_goals
              go_wp2_with fail
              go_roundw
              case rel =>
                have hbl := HL.out
                have h1 := C1.out
                have h3 := C3.out
                have hS := S1.out
                rw [List.take_of_length_le (by simp; omega), List.drop_drop] at hS
                refine ⟨k + 1, v, cutAt yo 1 d, d - 1, by omega, by omega, by go_num, rfl, HV2.out (by omega), fun i hi => ?_, U1.out, ?_, ?_, by omega, ?_⟩
                · by_cases hik : i = k
                  · subst hik; have := HX.out; omega
                  · exact HHI.out i (by omega)
                · have := H1.out
                  rw [show m - k - 1 = m - (k + 1) by omega] at this
                  exact this
                · rw [show m - (k + 1) = m - k - 1 by omega]
                  exact hS
                · exact fun a ha h0 => cut_block (Q := fun b => b ≠ R ∧ T b) (fun a h => HY.out a h (by omega)) a ha
              case measure => simp [intOf]; omega
end Go.Proofs.YtfmaflaoplkdbaaGreatDoor.Var
namespace Go.Proofs.YtfmaflaoplkdbaaGreatDoor.Var
open Go.RowKit Go.Proofs.YtfmaflaoplkdbaaGreatDoor.Crc

/-- A reader's state: its error, and the bytes that are left. -/
def RdS (w : World) (T : Nat → Prop) (R : Nat) (lim : Int) (s : Int × List UInt8) : Prop :=
  ∃ xo m c, RdAt w R s.1 xo m c lim ∧ (s.1 = 0 → SrcAt w xo m c (s.2.map u8v) 1 ∧ m ≤ c ∧ ∀ a, xo = some a → m ≠ 0 → T a.block)
/-- What is read lies beside the reader. -/
theorem rd_apart {w : World} {R m c : Nat} {e lim : Int} {xo : Option Addr} {bs : List UInt8} (h : RdAt w R e xo m c lim) (hs : SrcAt w xo m c (bs.map u8v) 1) : ∀ a, xo = some a → m ≠ 0 → a.block ≠ R := by
  intro a ha hm hb
  obtain ⟨b, off, e1, h1⟩ := src_at hs (j := 0) (by omega)
  rw [ha] at e1
  cases e1
  simp only at hb
  subst hb
  rw [Nat.add_zero] at h1
  have hR := h.hR
  unfold World.cell? at h1
  simp only [hR] at h1
  match off with
  | 0 => simp at h1
  | 1 => simp at h1
  | 2 => simp at h1
  | k + 3 => simp at h1
theorem RdS.updS {w w' : World} {T : Nat → Prop} {S : List Nat} {R : Nat} {lim : Int} {s : Int × List UInt8} (h : RdS w T R lim s) (hu : Upd S w w') (hR : R ∉ S) (hT : ∀ k ∈ S, ¬ T k) : RdS w' T R lim s := by
  obtain ⟨xo, m, c, h1, h2⟩ := h
  exact ⟨xo, m, c, h1.upd hu hR, fun e => ⟨src_upd (h2 e).1 hu (fun a ha hm hb => hT _ hb ((h2 e).2.2 a ha hm)), (h2 e).2⟩⟩
theorem RdS.upd {w w' : World} {T : Nat → Prop} {R : Nat} {lim : Int} {s : Int × List UInt8} (h : RdS w T R lim s) (hu : Upd [] w w') : RdS w' T R lim s := h.updS hu (by simp) (by simp)
def uintM (s : Int × List UInt8) : Nat × (Int × List UInt8) :=
  if s.1 = 0 then ((rd s.2).1, ((rd s.2).2.2, s.2.drop (rd s.2).2.1)) else (0, s)
set_option maxHeartbeats 1000000 in
theorem byte_err {R m c : Nat} {e lim : Int} {xo : Option Addr} (w : World) (h : RdAt w R e xo m c lim) (he : e ≠ 0) :
    Calls Tryz.prog 110 #[.pointer (some ⟨R, 0, none⟩)] w fun en w' => en = .returned (.int .u8 0) ∧ w = w' := by
  have hc0 := h.c0
  have q1 : (e != 0) = true := by simpa using he
  have q2 : (e == 0) = false := by simpa using he
  clear h
  go_enter Tryz.func110, Tryz.ntmps110
  go_wp2_with fail
  go_ret
  exact ⟨rfl, rfl⟩
set_option maxHeartbeats 1000000 in
theorem uint_err {R m c : Nat} {e lim : Int} {xo : Option Addr} (w : World) (h : RdAt w R e xo m c lim) (he : e ≠ 0) :
    Calls Tryz.prog 69 #[.pointer (some ⟨R, 0, none⟩)] w fun en w' => en = .returned (.int .u64 0) ∧ w = w' := by
  have q1 : (e != 0) = true := by simpa using he
  have q2 : (e == 0) = false := by simpa using he
  have H := hide h; have HE := hide he
  clear h he
  go_enter Tryz.func69, Tryz.ntmps69
  go_wp2_with fail
  go_loopw [4] (fun si wr => si = .int .i64 0 ∧ wr = w) (fun _ _ => 0)
  case atStart => exact ⟨rfl, rfl⟩
  case round =>
    obtain ⟨rfl, rfl⟩ := hrel
    go_wp2_with fail
    refine (byte_err _ H.out HE.out).mono ?_
    rintro en w2 ⟨rfl, rfl⟩
    go_wp2_with fail
    refine (err_any _ H.out).mono ?_
    rintro en w2 ⟨rfl, rfl⟩
    go_wp2_with fail
    go_ret
    exact ⟨rfl, rfl⟩
theorem rd_lt (bs : List UInt8) : (rd bs).1 < 18446744073709551616 := by
  obtain ⟨n, k, e, h⟩ : ∃ n k e, rd bs = (n, k, e) := ⟨_, _, _, rfl⟩
  rw [h]
  by_cases he : e = 0
  · exact (rd_ok h he).2.2.2.2
  · unfold rd at h
    split at h
    · cases h; simp
    · split at h
      · cases h; simp
      · split at h
        · cases h; simp
        · cases h; exact absurd rfl he
/-- Uint, whatever the reader's state. -/
theorem uint_s {T : Nat → Prop} {R : Nat} {lim : Int} {s : Int × List UInt8} (w : World) (h : RdS w T R lim s) :
    Calls Tryz.prog 69 #[.pointer (some ⟨R, 0, none⟩)] w fun en w' => en = .returned (.int .u64 ((uintM s).1 : Int)) ∧ RdS w' T R lim (uintM s).2 ∧ Upd [R] w w' := by
  obtain ⟨xo, m, c, h1, h2⟩ := h
  by_cases he : s.1 = 0
  · obtain ⟨g1, g2, g3⟩ := h2 he
    rw [he] at h1
    refine (uint_read (T := T) w h1 g1 g2 (fun a ha hm => ⟨rd_apart h1 g1 a ha hm, g3 a ha hm⟩)).mono fun en w' hr => ?_
    unfold uintM
    rw [if_pos he]
    exact ⟨hr.ans, hr.rdr, hr.upd⟩
  · refine (uint_err w h1 he).mono ?_
    rintro en w' ⟨rfl, rfl⟩
    unfold uintM
    rw [if_neg he]
    exact ⟨rfl, ⟨xo, m, c, h1, h2⟩, Upd.refl _ _⟩
end Go.Proofs.YtfmaflaoplkdbaaGreatDoor.Var
namespace Go.Proofs.YtfmaflaoplkdbaaGreatDoor.Var
open Go.RowKit Go.Proofs.YtfmaflaoplkdbaaGreatDoor.Crc

set_option maxHeartbeats 1000000 in
/-- small: a number that is no more than another one. -/
theorem small_s {T : Nat → Prop} {R most : Nat} {lim : Int} {s : Int × List UInt8} (w : World) (h : RdS w T R lim s) :
    Calls Tryz.prog 106 #[.pointer (some ⟨R, 0, none⟩), .int .u64 (most : Int)] w fun en w' => en = .returned (.tuple #[.int .u64 ((uintM s).1 : Int), .bool (decide ((uintM s).1 ≤ most))]) ∧ RdS w' T R lim (uintM s).2 ∧ Upd [R] w w' := by
  have H := hide h
  clear h
  go_enter Tryz.func106, Tryz.ntmps106
  go_wp2_with fail
  refine (uint_s _ H.out).mono ?_
  rintro en w' ⟨rfl, h1, hu⟩
  have H1 := hide h1; have U1 := hide hu
  clear h1 hu
  go_wp2_with fail
  go_ret2
  exact ⟨by simp, H1.out, U1.out⟩
end Go.Proofs.YtfmaflaoplkdbaaGreatDoor.Var
namespace Go.Proofs.YtfmaflaoplkdbaaGreatDoor.Var
open Go.RowKit Go.Proofs.YtfmaflaoplkdbaaGreatDoor.Crc

section
variable {P : Program} (t e : TypeId) (ht : P.underlying t = some (.slice e)) (hz : ∀ w, (sizeOf e).run P w = .ok 1 w) (xo : Option Addr) (m c : Nat)
include ht hz
theorem run_cut_lu (l : Nat) (h : l ≤ m) (w : World) : (Instr.slice t (.slice xo m c) (some (.int .u64 (l : Int))) none none).run P w = .ok (.slice (cutAt xo l c) (m - l) (c - l)) w := by
  have hel : P.elem t = e := by simp [Program.elem, ht]
  rw [run_slice_l (P := P) w t xo m c (by rw [hel]; exact ht) .u64 l (by omega) (by omega), hel, hz]
  simp [Result.andThen, sliced, cutAt]
theorem run_cut_hu (h : Nat) (h2 : h ≤ c) (w : World) : (Instr.slice t (.slice xo m c) none (some (.int .u64 (h : Int))) none).run P w = .ok (.slice xo h c) w := by
  have hel : P.elem t = e := by simp [Program.elem, ht]
  rw [run_slice_h (P := P) w t xo m c (by rw [hel]; exact ht) .u64 h (by omega) (by omega), hel, hz]
  have := cutAt_zero xo c
  simp only [cutAt] at this
  simp [Result.andThen, sliced]
  rw [← this]
  split <;> simp_all
end
def textM (lim : Nat) (s : Int × List UInt8) : List UInt8 × (Int × List UInt8) :=
  if (uintM s).2.1 ≠ 0 then ([], (uintM s).2)
  else if lim < (uintM s).1 then ([], (11, (uintM s).2.2))
  else if (uintM s).2.2.length < (uintM s).1 then ([], (10, (uintM s).2.2))
  else ((uintM s).2.2.take (uintM s).1, (0, (uintM s).2.2.drop (uintM s).1))
theorem uintM_lt (s : Int × List UInt8) : (uintM s).1 < 18446744073709551616 := by
  unfold uintM
  split
  · exact rd_lt _
  · simp
theorem uintM_len (s : Int × List UInt8) : (uintM s).2.2.length ≤ s.2.length := by
  unfold uintM
  split
  · simp
  · exact Nat.le_refl _
set_option maxHeartbeats 2000000 in
theorem text_s {T : Nat → Prop} {R lim : Nat} {s : Int × List UInt8} (w : World) (h : RdS w T R (lim : Int) s) (hl : lim ≤ 1000000) (hB : s.2.length ≤ 1000000000000) :
    Calls Tryz.prog 112 #[.pointer (some ⟨R, 0, none⟩)] w fun en w' => en = .returned (.string (strOf (textM lim s).1)) ∧ RdS w' T R (lim : Int) (textM lim s).2 ∧ Upd [R] w w' := by
  have H := hide h
  have hn := uintM_lt s
  have hl2 := uintM_len s
  clear h
  obtain ⟨n, e, bs, hu⟩ : ∃ n e bs, uintM s = (n, e, bs) := ⟨_, _, _, rfl⟩
  have HU := hide hu
  rw [hu] at hn hl2
  simp only at hn hl2
  clear hu
  go_enter Tryz.func112, Tryz.ntmps112
  go_wp2_with fail
  refine (uint_s _ H.out).mono ?_
  rw [HU.out]
  rintro en w1 ⟨rfl, ⟨xo, m, c, hr, hs⟩, hu1⟩
  simp only at hr hs ⊢
  have U1 := hide hu1; have HR := hide hr; have HS := hide hs
  clear hu1 hr hs
  go_wp2_with fail
  refine (err_any _ HR.out).mono ?_
  rintro en w2 ⟨rfl, rfl⟩
  by_cases he : e = 0
  · subst he
    obtain ⟨g1, g2, g3⟩ := HS.out rfl
    have hbl : bs.length = m := by have := g1.len; simpa using this
    have c1 := HR.out.c1
    have c2 := HR.out.c2
    have f1 := HR.out.fr 1
    have mx : max (lim : Int) 0 = (lim : Int) := by omega
    have v1 : IntKind.u64.wrap (lim : Int) = (lim : Int) := IntWalk.u64_in _ (by omega)
    have v2 : IntKind.u64.wrap (m : Int) = (m : Int) := IntWalk.u64_in _ (by omega)
    have G1 := hide g1
    have BL := hide hbl
    clear g1 hbl
    by_cases h1 : lim < n
    · have d1 : decide ((lim : Int) < (n : Int)) = true := by simp; omega
      go_wp2_with fail
      refine (fail_any (x := 11) _ HR.out).mono ?_
      rintro en w3 ⟨rfl, hr3, hu3⟩
      have R3 := hide hr3; have U3 := hide (U1.out.trans hu3)
      clear hr3 hu3
      go_wp2_with fail
      go_ret
      unfold textM
      rw [HU.out]
      simp only [ne_eq, not_true_eq_false, if_false, h1, if_true]
      exact ⟨rfl, ⟨xo, m, c, R3.out, fun h => absurd h (by simp)⟩, U3.out⟩
    · have d1 : decide ((lim : Int) < (n : Int)) = false := by simp; omega
      by_cases h2 : m < n
      · have d2 : decide ((m : Int) < (n : Int)) = true := by simp; omega
        go_wp2_with fail
        refine (fail_any (x := 10) _ HR.out).mono ?_
        rintro en w3 ⟨rfl, hr3, hu3⟩
        have R3 := hide hr3; have U3 := hide (U1.out.trans hu3)
        clear hr3 hu3
        go_wp2_with fail
        go_ret
        unfold textM
        rw [HU.out]
        simp only [ne_eq, not_true_eq_false, if_false, h1, BL.out, h2, if_true]
        exact ⟨rfl, ⟨xo, m, c, R3.out, fun h => absurd h (by simp)⟩, U3.out⟩
      · have d2 : decide ((m : Int) < (n : Int)) = false := by simp; omega
        have k1 := run_cut_hu (P := Tryz.prog) 27 5 Tryz.underlying27 sizeB xo m c n (by omega)
        have k2 := run_cut_lu (P := Tryz.prog) 27 5 Tryz.underlying27 sizeB xo m c n (by omega)
        have k3 := run_str (src_head G1.out (h := n) (by omega) g2)
        go_wp2_with fail
        go_ret
        unfold textM
        rw [HU.out]
        simp only [ne_eq, not_true_eq_false, if_false, h1, BL.out, h2]
        refine ⟨rfl, ⟨_, _, _, HR.out.setB _ _ _, fun _ => ⟨?_, by omega, fun a ha h0 => cut_block (Q := T) (fun a h => g3 a h (by omega)) a ha⟩⟩, U1.out.setCell (.inl (by simp)) _⟩
        have hcut := src_cut G1.out (l := n) (h := m) (q := c) (by omega) (Nat.le_refl _) g2 (Nat.le_refl _)
        rw [List.take_of_length_le (by have := BL.out; simp; omega)] at hcut
        have hu2 : Upd [R] w1 (w1.setCell ⟨R, 1, none⟩ (.slice (cutAt xo n c) (m - n) (c - n))) := (Upd.refl _ _).setCell (.inl (by simp)) _
        exact src_upd hcut hu2 (fun a ha h0 => by
          have hne := rd_apart HR.out G1.out
          unfold cutAt at ha
          split at ha
          · have := hne a ha (by omega); simpa using this
          · cases xo with
            | none => cases ha
            | some a0 =>
              cases ha
              have := hne a0 rfl (by omega)
              unfold Addr.add
              split <;> simpa using this)
  · have q1 : (e != 0) = true := by simpa using he
    have q2 : (e == 0) = false := by simpa using he
    have HE := hide he
    clear he
    go_wp2_with fail
    go_ret
    unfold textM
    rw [HU.out]
    simp only [ne_eq, HE.out, not_false_eq_true, if_true]
    exact ⟨rfl, ⟨xo, m, c, HR.out, HS.out⟩, U1.out⟩
end Go.Proofs.YtfmaflaoplkdbaaGreatDoor.Var
namespace Go.Proofs.YtfmaflaoplkdbaaGreatDoor.Var
open Go.RowKit Go.Proofs.YtfmaflaoplkdbaaGreatDoor.Crc

def doneM (s : Int × List UInt8) : Int × (Int × List UInt8) := if s.1 ≠ 0 then (s.1, s) else if s.2.length ≠ 0 then (11, (11, s.2)) else (0, s)
set_option maxHeartbeats 1000000 in
theorem err_s {T : Nat → Prop} {R : Nat} {lim : Int} {s : Int × List UInt8} (w : World) (h : RdS w T R lim s) : Calls Tryz.prog 107 #[.pointer (some ⟨R, 0, none⟩)] w fun en w' => en = .returned (.int .i64 s.1) ∧ w = w' := by
  obtain ⟨xo, m, c, h1, -⟩ := h
  exact err_any w h1
set_option maxHeartbeats 1000000 in
theorem done_s {T : Nat → Prop} {R : Nat} {lim : Int} {s : Int × List UInt8} (w : World) (h : RdS w T R lim s) :
    Calls Tryz.prog 72 #[.pointer (some ⟨R, 0, none⟩)] w fun en w' => en = .returned (.int .i64 (doneM s).1) ∧ RdS w' T R lim (doneM s).2 ∧ Upd [R] w w' := by
  obtain ⟨e, bs⟩ := s
  obtain ⟨xo, m, c, hr, hs⟩ := h
  simp only at hr hs
  have HR := hide hr; have HS := hide hs
  clear hr hs
  by_cases he : e = 0
  · subst he
    obtain ⟨g1, g2, g3⟩ := HS.out rfl
    have hbl : bs.length = m := by have := g1.len; simpa using this
    have c0 := HR.out.c0
    have c1 := HR.out.c1
    have BL := hide hbl
    clear g1 hbl
    by_cases hm : 0 < m
    · have d1 : decide ((0 : Int) < (m : Int)) = true := by simp; omega
      go_enter Tryz.func72, Tryz.ntmps72
      go_wp2_with fail
      refine (err_any _ HR.out).mono ?_
      rintro en w2 ⟨rfl, rfl⟩
      go_wp2_with fail
      refine (fail_any (x := 11) _ HR.out).mono ?_
      rintro en w3 ⟨rfl, hr3, hu3⟩
      have c3 := hr3.c0
      have R3 := hide hr3; have U3 := hide hu3
      clear hr3 hu3
      go_wp2_with fail
      go_ret
      have hne : bs.length ≠ 0 := by have := BL.out; omega
      unfold doneM
      simp only [ne_eq, not_true_eq_false, if_false, hne, not_false_eq_true, if_true]
      exact ⟨rfl, ⟨xo, m, c, R3.out, fun h => absurd h (by simp)⟩, U3.out⟩
    · have d1 : decide ((0 : Int) < (m : Int)) = false := by simp; omega
      go_enter Tryz.func72, Tryz.ntmps72
      go_wp2_with fail
      refine (err_any _ HR.out).mono ?_
      rintro en w2 ⟨rfl, rfl⟩
      go_wp2_with fail
      go_ret
      have hne : bs.length = 0 := by have := BL.out; omega
      unfold doneM
      simp only [ne_eq, not_true_eq_false, if_false, hne]
      exact ⟨rfl, ⟨xo, m, c, HR.out, fun _ => HS.out trivial⟩, Upd.refl _ _⟩
  · have q1 : (e != 0) = true := by simpa using he
    have q2 : (e == 0) = false := by simpa using he
    have HE := hide he
    clear he
    go_enter Tryz.func72, Tryz.ntmps72
    go_wp2_with fail
    refine (err_any _ HR.out).mono ?_
    rintro en w2 ⟨rfl, rfl⟩
    go_wp2_with fail
    go_ret
    unfold doneM
    simp only [ne_eq, HE.out, not_false_eq_true, if_true]
    exact ⟨rfl, ⟨xo, m, c, HR.out, HS.out⟩, Upd.refl _ _⟩
end Go.Proofs.YtfmaflaoplkdbaaGreatDoor.Var
namespace Go.Proofs.YtfmaflaoplkdbaaGreatDoor.Var
open Go.RowKit Go.Proofs.YtfmaflaoplkdbaaGreatDoor.Crc

/-- A signed number out of a number: what the code reckons. -/
def intV (n : Nat) : Int := bits BinOp.xor IntKind.i64 ((n : Int) / 2) (wrap64 (-wrap64 (bits BinOp.and IntKind.u64 (n : Int) 1)))
set_option maxHeartbeats 1000000 in
theorem int_s {T : Nat → Prop} {R : Nat} {lim : Int} {s : Int × List UInt8} (w : World) (h : RdS w T R lim s) :
    Calls Tryz.prog 140 #[.pointer (some ⟨R, 0, none⟩)] w fun en w' => en = .returned (.int .i64 (intV (uintM s).1)) ∧ RdS w' T R lim (uintM s).2 ∧ Upd [R] w w' := by
  have H := hide h
  have hn := uintM_lt s
  clear h
  go_enter Tryz.func140, Tryz.ntmps140
  go_wp2_with fail
  refine (uint_s _ H.out).mono ?_
  rintro en w1 ⟨rfl, h1, hu1⟩
  have H1 := hide h1; have U1 := hide hu1
  clear h1 hu1
  go_wp2_with fail
  go_ret
  exact ⟨rfl, H1.out, U1.out⟩
end Go.Proofs.YtfmaflaoplkdbaaGreatDoor.Var
namespace Go.Proofs.YtfmaflaoplkdbaaGreatDoor.Var
open Go.RowKit Go.Proofs.YtfmaflaoplkdbaaGreatDoor.Crc

set_option maxHeartbeats 400000 in
theorem groups_any (n : Nat) (w : World) :
    Calls Tryz.prog 97 #[.int .u64 (n : Int)] w fun e w' => e = .returned (.func (.func 139) #[] #[.pointer (some ⟨w.heap.size, 0, none⟩)]) ∧
      w'.heap[w.heap.size]? = some (.cells #[.int .u64 (n : Int)] 32 (0, 0)) ∧ Upd [] w w' := by
  go_enter Tryz.func97, Tryz.ntmps97
  go_wp2_with fail
  go_ret
  exact ⟨rfl, blk_new _ _, (Upd.refl _ _).alloc _⟩

theorem and127 {n : Nat} (h : n < 18446744073709551616) : Go.bits .and .u64 (n : Int) 127 = ((n % 128 : Nat) : Int) := by
  rw [show (127 : Int) = ((127 : Nat) : Int) from rfl, u64_and_nat _ _ h (by decide), nat_mask7]

set_option maxHeartbeats 1000000 in
/-- groups' function, as an iterator. -/
theorem groups_iter {p n : Nat} (hn : n < 18446744073709551616) :
    Iter Tryz.prog 139 #[] #[.pointer (some ⟨p, 0, none⟩)] (fun x : Nat × Bool => #[.int .u8 (x.1 : Int), .bool x.2]) (groups n) [p] [p] (fun W => W.heap[p]? = some (.cells #[.int .u64 (n : Int)] 32 (0, 0))) := by
  intro nn l J Jx W hR hY hJ hJx hJ0
  refine callsIn_wide.2 ?_
  go_enter Tryz.func139, Tryz.ntmps139
  have HR := hide hR
  have HY := hide hY
  have HJ := hide hJ
  have HJx := hide hJx
  have HJ0 := hide hJ0
  clear hR hY hJ hJx hJ0
  go_wp2_with fail
  go_loopw [3] (fun _ wr => ∃ (k : Nat) (pre : List (Nat × Bool)), k < 18446744073709551616 ∧ groups n = pre ++ groups k ∧ wr.heap[p]? = some (.cells #[.int .u64 (k : Int)] 32 (0, 0)) ∧ J pre wr) (fun _ wr => match wr.cell? ⟨p, 0, none⟩ with | some v => (intOf v).toNat | none => 0)
  case atStart => exact ⟨n, [], hn, rfl, HR.out, HJ0.out⟩
  case round =>
    obtain ⟨k, pre, hk, hpre, hp, hj⟩ := hrel
    have hc := blk_cell (i := 0) hp rfl
    have hf := blk_free (i := 0) hp
    simp only [List.getElem_toArray, List.getElem_cons_zero] at hc
    have HP := hide hp; have HPRE := hide hpre; have HJ2 := hide hj
    clear hp hpre hj HR HJ0
    by_cases hg : 128 ≤ k
    · have hd : decide (128 ≤ (k : Int)) = true := by simp; omega
      have e1 := and127 hk
      have hl := Nat.mod_lt k (show 0 < 128 by decide)
      have HG := hide (groups_more hg)
      obtain ⟨z, hz⟩ : ∃ z, k % 128 = z := ⟨_, rfl⟩
      rw [hz] at e1 hl
      have HZ := hide hz
      clear hz
      go_upto_block 1 with fail
      obtain ⟨fn, tmps, assign, body, hy, hR⟩ := HY.out pre (z, false) wr HJ2.out (by rw [HPRE.out, HG.out, HZ.out]; simp)
      replace hy : (Instr.yield l #[.int .u8 (z : Int), .bool false]).run Tryz.prog wr = .ok (.round l fn tmps assign body) wr := hy
      have HRR := hide hR
      clear hR
      refine (wpIn_wide (n := nn + 1)).1 ?_
      gi_wp2
      refine HRR.out.mono ?_
      rintro e W' (⟨rfl, hj3, hk3⟩ | ⟨rfl, hjx3⟩)
      · have hp3 := hk3.get HP.out (by simp)
        have hc3 := blk_cell (i := 0) hp3 rfl
        have hf3 := blk_free (i := 0) hp3
        simp only [List.getElem_toArray, List.getElem_cons_zero] at hc3
        have HP3 := hide hp3; have HJ3 := hide hj3
        obtain ⟨q, hq⟩ : ∃ q, k / 128 = q := ⟨_, rfl⟩
        have e2 : (k : Int) / 128 = (q : Int) := by omega
        have hqk : q < k := by omega
        have HQ := hide hq
        have HC := hide hc
        clear hp3 hy HY hc hf hj3 hk3 hq
        gi_wp2
        go_wp2_with fail
        have hp4 := blk_set (i := 0) HP3.out (.int .u64 (q : Int))
        have hc4 := blk_cell (i := 0) hp4 rfl
        simp only [List.getElem_toArray, List.setIfInBounds_toArray, List.set_cons_zero, List.getElem_cons_zero] at hc4
        refine ⟨⟨q, pre ++ [(z, false)], by omega, by rw [HPRE.out, HG.out, HZ.out, HQ.out]; simp, hp4, HJ.out _ _ _ HJ3.out ((Upd.refl _ _).setCell (.inl (by simp)) _)⟩, ?_⟩
        rw [hc4, HC.out]
        simp [intOf]
        omega
      · clear hy HY
        gi_wp2
        go_wp2_with fail
        refine bodyPost_ret (results_none rfl _ _ _) rfl ?_
        exact ⟨⟨_, rfl⟩, .inr ⟨_, by rw [HPRE.out, HG.out, HZ.out]; simp, hjx3⟩⟩
    · have hd : decide (128 ≤ (k : Int)) = false := by simp; omega
      have hl : k < 128 := by omega
      have HG := hide (groups_last hl)
      clear hg
      go_upto_region 3 with fail
      obtain ⟨fn, tmps, assign, body, hy, hR⟩ := HY.out pre (k, true) wr HJ2.out (by rw [HPRE.out, HG.out]; exact List.prefix_refl _)
      replace hy : (Instr.yield l #[.int .u8 (k : Int), .bool true]).run Tryz.prog wr = .ok (.round l fn tmps assign body) wr := hy
      have HRR := hide hR
      clear hR
      refine (wpIn_wide (n := nn + 1)).1 ?_
      gi_wp2
      refine HRR.out.mono ?_
      rintro e W' (⟨rfl, hj3, hk3⟩ | ⟨rfl, hjx3⟩)
      · have HE := hide (show J (groups n) W' by rw [HPRE.out, HG.out]; exact hj3)
        clear hy HY hj3
        gi_wp2
        go_wp2_with fail
        go_end0
        exact ⟨⟨_, rfl⟩, .inl HE.out⟩
      · have HE := hide (show Jx (groups n) W' by rw [HPRE.out, HG.out]; exact hjx3)
        clear hy HY hjx3
        gi_wp2
        go_wp2_with fail
        go_end0
        exact ⟨⟨_, rfl⟩, .inr ⟨_, List.prefix_refl _, HE.out⟩⟩
end Go.Proofs.YtfmaflaoplkdbaaGreatDoor.Var
namespace Go.Proofs.YtfmaflaoplkdbaaGreatDoor.Var
open Go.RowKit Go.Proofs.YtfmaflaoplkdbaaGreatDoor.Crc
attribute [local go_sem] Oper.semAt_some
theorem infoB : (Tryz.prog.info? 5).map (fun i => (i.zero, i.size, i.bytes)) = some (some (.int .u8 0), 1, 1) := by kernel_rfl

/-- What an append has made: v' reads as bs, and lies where v lay, or in a new block. -/
structure Grew (w : World) (base : Nat) (v : Value) (bs : List UInt8) (v' : Value) (w' : World) : Prop where
  own : w'.ownsRow base 5 1 v' bs.length (bs.map u8v)
  upd : Upd v.ownBlock.toList w w'
  new : ∀ g, v'.ownBlock = some g → v.ownBlock = some g ∨ w.heap.size ≤ g
theorem or128 {n : Nat} (h : n < 128) : Go.bits .or .u8 (n : Int) 128 = ((128 + n : Nat) : Int) := by
  rw [show (128 : Int) = ((128 : Nat) : Int) from rfl, u8_or_nat _ _ (by omega) (by decide), Nat.or_comm, nat_join 7 128 n (by decide) (by omega)]

/-- A round of Uint's range is done: one byte more. -/
theorem round_done {w w1 W2 W3 : World} {base cap cap1 cap3 y : Nat} {ao ao1 ao3 : Option Addr} {bs : List UInt8} {pre : List (Nat × Bool)} {x : Nat × Bool} (hsz2 : w1.heap.size + 2 ≤ W2.heap.size) (hN : w.heap.size + 1 < w1.heap.size)
    (HLV : ∀ k, (Value.slice ao bs.length cap).ownBlock = some k → base ≤ k ∧ k < w.heap.size) (H1 : Upd (Value.slice ao bs.length cap).ownBlock.toList w W2) (H2 : W2.heap[w.heap.size]? = some (.cells #[.slice ao1 (bs.length + pre.length) cap1] 27 (0, 0)))
    (_ : W2.ownsRow base 5 1 (.slice ao1 (bs.length + pre.length) cap1) (bs.length + pre.length) ((bs ++ pre.map gbyte).map u8v))
    (H4 : ∀ g, (Value.slice ao1 (bs.length + pre.length) cap1).ownBlock = some g → (Value.slice ao bs.length cap).ownBlock = some g ∨ w1.heap.size + 2 ≤ g)
    {o : Obj} (U3 : Upd (Value.slice ao1 (bs.length + pre.length) cap1).ownBlock.toList (W2.alloc o) W3) (B3 : W3.heap[w.heap.size]? = some (.cells #[.slice ao1 (bs.length + pre.length) cap1] 27 (0, 0)))
    (O3 : W3.ownsRow base 5 1 (.slice ao3 (bs.length + pre.length + 1) cap3) (bs.length + pre.length + 1) ((bs ++ pre.map gbyte).map u8v ++ [.int .u8 (y : Int)]))
    (N3 : ∀ g, (Value.slice ao3 (bs.length + pre.length + 1) cap3).ownBlock = some g → (Value.slice ao1 (bs.length + pre.length) cap1).ownBlock = some g ∨ W2.heap.size + 1 ≤ g)
    (hy : (gbyte x).toNat = y) :
    Keeps [w1.heap.size, w1.heap.size + 1, w.heap.size + 1] W2 (W3.setCell ⟨w.heap.size, 0, none⟩ (.slice ao3 (bs.length + pre.length + 1) cap3)) ∧
      Upd (Value.slice ao bs.length cap).ownBlock.toList w (W3.setCell ⟨w.heap.size, 0, none⟩ (.slice ao3 (bs.length + pre.length + 1) cap3)) ∧ ∃ ao1 cap1, (W3.setCell ⟨w.heap.size, 0, none⟩ (.slice ao3 (bs.length + pre.length + 1) cap3)).heap[w.heap.size]? = some (.cells #[.slice ao1 (bs.length + (pre ++ [x]).length) cap1] 27 (0, 0)) ∧
      (W3.setCell ⟨w.heap.size, 0, none⟩ (.slice ao3 (bs.length + pre.length + 1) cap3)).ownsRow base 5 1 (.slice ao1 (bs.length + (pre ++ [x]).length) cap1) (bs.length + (pre ++ [x]).length) ((bs ++ (pre ++ [x]).map gbyte).map u8v) ∧
      (∀ g, (Value.slice ao1 (bs.length + (pre ++ [x]).length) cap1).ownBlock = some g → (Value.slice ao bs.length cap).ownBlock = some g ∨ w1.heap.size + 2 ≤ g) := by
  have hU : Upd (w.heap.size :: (Value.slice ao1 (bs.length + pre.length) cap1).ownBlock.toList) W2 (W3.setCell ⟨w.heap.size, 0, none⟩ (.slice ao3 (bs.length + pre.length + 1) cap3)) :=
    ((((Upd.refl _ W2).alloc o).trans (U3.mono (fun k hk => by simp at hk ⊢; exact .inr hk)))).setCell (.inl (by simp)) _
  have hn : ∀ g, (Value.slice ao3 (bs.length + pre.length + 1) cap3).ownBlock = some g → (Value.slice ao bs.length cap).ownBlock = some g ∨ w1.heap.size + 2 ≤ g := fun g hg => by
    rcases N3 g hg with h | h
    · exact H4 g h
    · exact .inr (by omega)
  have hlt2 := blk_lt H2
  refine ⟨Keeps.of_upd hU (fun k hk => ⟨fun hm => ?_, ?_⟩), H1.trans_new hU (fun k hk => ?_), ao3, cap3, ?_, ?_, fun g hg => hn g (by simpa [Nat.add_assoc] using hg)⟩
  · simp only [List.mem_cons, Option.mem_toList, List.not_mem_nil, or_false] at hk hm
    rcases hm with h5 | h5
    · omega
    · rcases H4 k h5 with h6 | h6
      · have := (HLV k h6).2; omega
      · omega
  · simp only [List.mem_cons, List.not_mem_nil, or_false] at hk
    omega
  · simp only [List.mem_cons, Option.mem_toList] at hk ⊢
    rcases hk with h5 | h5
    · exact .inr (by omega)
    · rcases H4 k h5 with h6 | h6
      · exact .inl h6
      · exact .inr (by omega)
  · have := blk_set (i := 0) B3 (.slice ao3 (bs.length + pre.length + 1) cap3)
    simpa [Nat.add_assoc] using this
  · have h7 := ownsRow_setCell_other O3 (a := ⟨w.heap.size, 0, none⟩) (by
      intro h5
      have h5' : (Value.slice ao3 (bs.length + pre.length + 1) cap3).ownBlock = some w.heap.size := h5
      rcases hn _ h5' with h6 | h6
      · have := (HLV _ h6).2; omega
      · omega) (.slice ao3 (bs.length + pre.length + 1) cap3)
    have e1 : (bs ++ (pre ++ [x]).map gbyte).map u8v = (bs ++ pre.map gbyte).map u8v ++ [.int .u8 (y : Int)] := by
      simp [u8v, hy]
    rw [e1]
    simpa [Nat.add_assoc] using h7

set_option maxHeartbeats 4000000 in
theorem uint_any {base n : Nat} {v : Value} {bs : List UInt8} (w : World) (hv : w.ownsRow base 5 1 v bs.length (bs.map u8v)) (hb : base ≤ w.heap.size) (hl : bs.length ≤ 1000000000000) (hn : n < 18446744073709551616) :
    Calls Tryz.prog 50 #[v, .int .u64 (n : Int)] w fun e w' => ∃ v', e = .returned v' ∧ Grew w base v (bs ++ uv n) v' w' := by
  have hlv := owns_lt hv
  obtain ⟨ao, cap, rfl, -, -, -⟩ := owns_slice hv
  obtain ⟨i0, hi, hz0, hz1, hz2⟩ := info_parts infoB
  have HV := hide hv; have HLV := hide hlv
  clear hv hlv
  refine calls_of_wp_marks Tryz.func50 rfl ?_
  simp only [Tryz.ntmps50, List.size_toArray, List.length_cons, List.length_nil, Nat.reduceAdd, Nat.reduceSub, Array.replicate_succ, Array.replicate_zero, List.push_toArray, List.append_toArray, List.nil_append, List.cons_append]
  go_wp2_with fail
  refine (groups_any n _).mono ?_
  rintro e w1 ⟨rfl, hp1, hu1⟩
  have hz : (w.alloc (.cells #[.slice ao bs.length cap] 27)).heap.size = w.heap.size + 1 := by simp
  rw [hz] at hp1 ⊢
  have hbx := hu1.get (blk_new w (.cells #[.slice ao bs.length cap] 27)) (by simp)
  have hs1 := (blk_lt hp1)
  have HU1 := hide (((Upd.refl [] w).alloc (.cells #[.slice ao bs.length cap] 27)).trans hu1); have HP1 := hide hp1; have HBX := hide hbx; have HS1 := hide hs1
  clear hu1 hp1 hbx hz
  go_wp2_with fail
  have hN := HS1.out
  have hgl : (groups n).length ≤ 10 := by have := congrArg List.length (groups_uv n); rw [List.length_map] at this; rw [this]; exact uv_len10 hn
  refine wp_range (gf := 139) rfl (enters_of Tryz.func139 (by kernel_rfl) rfl) (groups_iter (p := w.heap.size + 1) hn) (fun _ => rfl) (by simp; omega) (by simp; omega)
    (fun W hu => hu.get HP1.out (by simp))
    (fun pre W => Upd (Value.slice ao bs.length cap).ownBlock.toList w W ∧ ∃ ao1 cap1, W.heap[w.heap.size]? = some (.cells #[.slice ao1 (bs.length + pre.length) cap1] 27 (0, 0)) ∧
      W.ownsRow base 5 1 (.slice ao1 (bs.length + pre.length) cap1) (bs.length + pre.length) ((bs ++ pre.map gbyte).map u8v) ∧
      (∀ g, (Value.slice ao1 (bs.length + pre.length) cap1).ownBlock = some g → (Value.slice ao bs.length cap).ownBlock = some g ∨ w1.heap.size + 2 ≤ g)) (fun _ _ _ => False) ?hI (fun _ _ _ _ h _ => h) ?h0 ?hround ?hdone (fun _ _ _ _ h _ => h.elim)
  case hI =>
    rintro pre W1 W2 ⟨h1, ao1, cap1, h2, h3, h4⟩ hu
    refine ⟨h1.trans_new hu (by simp; omega), ao1, cap1, hu.get h2 (by simp; omega), owns_upd h3 hu (fun k hk hm => ?_), h4⟩
    simp at hm
    rcases h4 k hk with h5 | h5
    · have := (HLV.out k h5).2; omega
    · omega
  case h0 =>
    intro W hu hsz
    have hu2 := HU1.out.trans hu
    exact ⟨hu2.mono (by simp), ao, cap, hu.get HBX.out (by simp), by simpa using owns_upd HV.out hu2 (by simp), fun g hg => .inl hg⟩
  case hround =>
    rintro pre ⟨g, last⟩ W hpre hi hsz
    have hpl : pre.length + 1 ≤ (groups n).length := by have := hpre.length_le; simpa using this
    have hg : g < 128 := groups_lt n (g, last) (hpre.subset (by simp))
    have HPRE := hide hpre
    clear hpre
    gi_wp2
    refine ⟨Keeps.refl _ _, fun W2 hu hi2 => ?_⟩
    obtain ⟨h1, ao1, cap1, h2, h3, h4⟩ := hi2 hi
    have hsz2 : w1.heap.size + 2 ≤ W2.heap.size := Nat.le_trans hsz hu.size
    have hwz : w.heap.size ≤ W2.heap.size := h1.size
    obtain ⟨cur, hcur⟩ : ∃ cur, (bs ++ pre.map gbyte).map u8v = cur := ⟨_, rfl⟩
    rw [hcur] at h3
    have HCUR := hide hcur
    clear hcur
    have hc := blk_cell (i := 0) h2 rfl
    have hf := blk_free (i := 0) h2
    simp only [List.getElem_toArray, List.getElem_cons_zero] at hc
    have H1 := hide h1; have H2 := hide h2; have H3 := hide h3; have H4 := hide h4
    clear h1 h2 h3 h4 hi hi2 hu
    have e1 := or128 hg
    cases last with
    | false =>
      gi_wp2_with (gi_at_builtin; go_must (refine wpListIn_append_src _ rfl _ _ 27 rfl base 5 i0 (.int .u8 0) 1 1 Tryz.underlying27 hi hz0 hz1 hz2 rfl (by decide) (.slice ao1 (bs.length + pre.length) cap1) (bs.length + pre.length) cur rfl (H3.out.alloc _) (some ⟨W2.heap.size, 0, none⟩) 1 1 [.int .u8 ((128 + g : Nat) : Int)] rfl (src_one (cell_new1 rfl) rfl) (by unfold maxLen; omega) (by omega) (by simp; omega) ?_))
      intro ao3 cap3 W3 hown3 hU3 hn3
      have hN3 := hU3.get (b := w.heap.size) (blk_alloc H2.out _) (by
        simp only [Option.mem_toList]
        intro h5
        rcases H4.out _ h5 with h6 | h6
        · have := (HLV.out _ h6).2; omega
        · omega)
      have hc3 := blk_cell (i := 0) hN3 rfl
      have hf3 := blk_free (i := 0) hN3
      simp only [List.getElem_toArray, List.getElem_cons_zero] at hc3
      have U3 := hide hU3; have O3 := hide hown3; have B3 := hide hN3; have N3 := hide hn3
      have hb4 : gbyte (g, false) = UInt8.ofNat (128 + g) := rfl
      have HB4 := hide hb4
      clear hN3 hown3 hU3 hn3 hb4
      gi_wp2
      exact round_done hsz2 hN HLV.out H1.out H2.out (by rw [HCUR.out]; exact H3.out) H4.out U3.out B3.out (by rw [HCUR.out]; exact O3.out) N3.out (by rw [HB4.out, ofNat8 (by omega)])
    | true =>
      gi_wp2_with (gi_at_builtin; go_must (refine wpListIn_append_src _ rfl _ _ 27 rfl base 5 i0 (.int .u8 0) 1 1 Tryz.underlying27 hi hz0 hz1 hz2 rfl (by decide) (.slice ao1 (bs.length + pre.length) cap1) (bs.length + pre.length) cur rfl (H3.out.alloc _) (some ⟨W2.heap.size, 0, none⟩) 1 1 [.int .u8 (g : Int)] rfl (src_one (cell_new1 rfl) rfl) (by unfold maxLen; omega) (by omega) (by simp; omega) ?_))
      intro ao3 cap3 W3 hown3 hU3 hn3
      have hN3 := hU3.get (b := w.heap.size) (blk_alloc H2.out _) (by
        simp only [Option.mem_toList]
        intro h5
        rcases H4.out _ h5 with h6 | h6
        · have := (HLV.out _ h6).2; omega
        · omega)
      have hc3 := blk_cell (i := 0) hN3 rfl
      have hf3 := blk_free (i := 0) hN3
      simp only [List.getElem_toArray, List.getElem_cons_zero] at hc3
      have U3 := hide hU3; have O3 := hide hown3; have B3 := hide hN3; have N3 := hide hn3
      have hb4 : gbyte (g, true) = UInt8.ofNat g := rfl
      have HB4 := hide hb4
      clear hN3 hown3 hU3 hn3 hb4
      gi_wp2
      exact round_done hsz2 hN HLV.out H1.out H2.out (by rw [HCUR.out]; exact H3.out) H4.out U3.out B3.out (by rw [HCUR.out]; exact O3.out) N3.out (by rw [HB4.out, ofNat8 (by omega)])
  case hdone =>
    rintro W ⟨h1, ao1, cap1, h2, h3, h4⟩ hd
    have hc := blk_cell (i := 0) h2 rfl
    simp only [List.getElem_toArray, List.getElem_cons_zero] at hc
    go_wp2
    refine leaves_one hd (results_tmp rfl _ _ _) ⟨_, rfl, ?_, h1.putObj (l := w1.heap.size) (.inr (by omega)) _, fun g hg => ?_⟩
    · have := owns_upd h3 ((Upd.refl [w1.heap.size] W).putObj (l := w1.heap.size) (.inl (by simp)) (.deferred none)) (fun k hk hm => by
        simp at hm
        rcases h4 k hk with h5 | h5
        · have := (HLV.out k h5).2; omega
        · omega)
      have e2 : (bs ++ uv n).length = bs.length + (groups n).length := by rw [List.length_append, ← groups_uv, List.length_map]
      rw [e2, ← groups_uv]
      exact this
    · rcases h4 g hg with h5 | h5
      · exact .inl h5
      · exact .inr (by omega)
end Go.Proofs.YtfmaflaoplkdbaaGreatDoor.Var
