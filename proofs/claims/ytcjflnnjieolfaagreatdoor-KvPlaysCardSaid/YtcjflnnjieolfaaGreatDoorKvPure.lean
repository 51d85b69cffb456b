/- KvTkM, SeTkM, KvTb, NumM in one text. -/
import Derived.Test.YtcjflnnjieolfaaGreatDoorKvLaw
import Derived.Test.YtcjflnnjieolfaaGreatDoorKvTq
import Derived.Test.YtcjflnnjieolfaaGreatDoorVarAll
import Derived.Lib.ItoaMem
namespace Go.Proofs.YtcjflnnjieolfaaGreatDoor.Kv
set_option linter.unusedSimpArgs false
set_option linter.unusedVariables false
open Go.Lib

def isD (c : UInt8) : Prop := 48 ≤ c.toNat ∧ c.toNat ≤ 57
instance (c : UInt8) : Decidable (isD c) := by unfold isD; infer_instance
def valF (a : Nat) (l : List UInt8) : Nat := l.foldl (fun a c => a * 10 + (c.toNat - 48)) a
theorem valF_snoc (a : Nat) (l : List UInt8) (c : UInt8) : valF a (l ++ [c]) = valF a l * 10 + (c.toNat - 48) := by simp [valF, List.foldl_append]
theorem valF_le (a : Nat) (l : List UInt8) : a ≤ valF a l := by
  induction l generalizing a with
  | nil => exact Nat.le_refl _
  | cons c l ih => have := ih (a * 10 + (c.toNat - 48)); show a ≤ valF (a * 10 + (c.toNat - 48)) l; omega
structure Canon (d : List UInt8) : Prop where
  ne : d ≠ []
  all : ∀ c ∈ d, isD c
  head : d.head? ≠ some 48 ∨ d.length = 1
theorem Canon.front {d : List UInt8} {c : UInt8} (h : Canon (d ++ [c])) (hd : d ≠ []) : Canon d ∧ d.head? ≠ some 48 := by
  have hh : (d ++ [c]).head? = d.head? := by
    cases d with
    | nil => exact absurd rfl hd
    | cons x t => rfl
  have h1 : d.head? ≠ some 48 := by
    rcases h.head with h2 | h2
    · rwa [hh] at h2
    · simp at h2; exact absurd h2 hd
  exact ⟨⟨hd, fun x hx => h.all x (by simp [hx]), .inl h1⟩, h1⟩
theorem ofNat_dig {c : UInt8} (h : isD c) : UInt8.ofNat (48 + (c.toNat - 48)) = c := by
  obtain ⟨h1, h2⟩ := h
  rw [show 48 + (c.toNat - 48) = c.toNat by omega]
  simp
theorem snoc_ind {P : List UInt8 → Prop} (h0 : P []) (h1 : ∀ l c, P l → P (l ++ [c])) (l : List UInt8) : P l := by
  have key : ∀ r : List UInt8, P r.reverse := by
    intro r
    induction r with
    | nil => exact h0
    | cons c r ih => rw [List.reverse_cons]; exact h1 _ _ ih
  have := key l.reverse
  rwa [List.reverse_reverse] at this
theorem dec_val (d : List UInt8) : Canon d → decDigits (valF 0 d) = d := by
  refine snoc_ind (P := fun d => Canon d → decDigits (valF 0 d) = d) (fun h => absurd rfl h.ne) (fun l c ih h => ?_) d
  have hc := h.all c (by simp)
  rw [valF_snoc]
  by_cases hl : l = []
  · subst hl
    have : c.toNat - 48 < 10 := by have := hc.2; omega
    show decDigits (0 * 10 + (c.toNat - 48)) = [c]
    rw [Nat.zero_mul, Nat.zero_add, decDigits_one this, ofNat_dig hc]
  · obtain ⟨h1, h2⟩ := h.front hl
    have h3 := ih h1
    have h4 : 1 ≤ valF 0 l := by
      rcases Nat.eq_zero_or_pos (valF 0 l) with e | e
      · rw [e, decDigits_one (by omega)] at h3
        rw [← h3] at h2
        exact absurd rfl h2
      · exact e
    have h5 : c.toNat - 48 < 10 := by have := hc.2; omega
    rw [decDigits, dif_neg (by omega), show (valF 0 l * 10 + (c.toNat - 48)) / 10 = valF 0 l by omega, show (valF 0 l * 10 + (c.toNat - 48)) % 10 = c.toNat - 48 by omega, h3, ofNat_dig hc]
theorem dec_canon (u : Nat) : Canon (decDigits u) ∧ valF 0 (decDigits u) = u ∧ (1 ≤ u → (decDigits u).head? ≠ some 48) := by
  induction u using Nat.strongRecOn with
  | _ u ih =>
    by_cases h : u < 10
    · rw [decDigits_one h]
      have e : (UInt8.ofNat (48 + u)).toNat = 48 + u := by rw [UInt8.toNat_ofNat_of_lt' (by show 48 + u < 256; omega)]
      refine ⟨⟨by simp, fun c hc => ?_, .inr rfl⟩, ?_, fun h1 h2 => ?_⟩
      · rw [List.mem_singleton] at hc; subst hc; unfold isD; rw [e]; omega
      · show 0 * 10 + ((UInt8.ofNat (48 + u)).toNat - 48) = u; rw [e]; omega
      · have h3 := congrArg UInt8.toNat (Option.some.inj h2)
        rw [e] at h3
        have : (48 : UInt8).toNat = 48 := rfl
        omega
    · obtain ⟨h1, h2, h3⟩ := ih (u / 10) (by omega)
      have h4 := h3 (by omega)
      have e : (UInt8.ofNat (48 + u % 10)).toNat = 48 + u % 10 := by rw [UInt8.toNat_ofNat_of_lt' (by show 48 + u % 10 < 256; omega)]
      rw [decDigits, dif_neg h]
      have hh : (decDigits (u / 10) ++ [UInt8.ofNat (48 + u % 10)]).head? = (decDigits (u / 10)).head? := by
        have := h1.ne
        cases hx : decDigits (u / 10) with
        | nil => exact absurd hx this
        | cons x t => rfl
      refine ⟨⟨by simp, fun c hc => ?_, .inl (by rw [hh]; exact h4)⟩, ?_, fun _ => by rw [hh]; exact h4⟩
      · rcases List.mem_append.1 hc with hc | hc
        · exact h1.all c hc
        · rw [List.mem_singleton] at hc; subst hc; unfold isD; rw [e]; omega
      · rw [valF_snoc, h2, e]; omega
theorem dec_len {u : Nat} (h : u < 10000000000000000000) : (decDigits u).length ≤ 19 := by
  rw [decDigits_length]
  refine Classical.byContradiction fun hn => ?_
  have key : ∀ k u, u < 10 ^ (k + 1) → nDigits u ≤ k + 1 := by
    intro k
    induction k with
    | zero => intro u h; rw [nDigits_small (by simpa using h)]; omega
    | succ k ih =>
      intro u h
      by_cases h1 : u < 10
      · rw [nDigits_small h1]; omega
      · rw [nDigits_big h1]
        have := ih (u / 10) (by rw [Nat.pow_succ] at h; omega)
        omega
  have := key 18 u (by simpa using h)
  omega
theorem val_len : ∀ (l : List UInt8) (a k : Nat), (∀ c ∈ l, isD c) → a < 10 ^ k → valF a l < 10 ^ (k + l.length)
  | [], a, k, _, h => h
  | c :: l, a, k, hall, h => by
    have hc := hall c (by simp)
    have := val_len l (a * 10 + (c.toNat - 48)) (k + 1) (fun x hx => hall x (by simp [hx])) (by rw [Nat.pow_succ]; have := hc.2; omega)
    rw [List.length_cons, show k + (l.length + 1) = k + 1 + l.length by omega]
    exact this
theorem parseU_ok : ∀ (l : List UInt8) (a : Nat), (∀ c ∈ l, isD c) → valF a l < 18446744073709551616 → parseUintM (2 ^ 64 - 1) a l = .ok (valF a l)
  | [], a, _, _ => rfl
  | c :: l, a, hall, h => by
    have hc : 48 ≤ c.toNat ∧ c.toNat ≤ 57 := hall c (by simp)
    have h1 := valF_le (a * 10 + (c.toNat - 48)) l
    have h2 : valF a (c :: l) = valF (a * 10 + (c.toNat - 48)) l := rfl
    rw [h2] at h
    rw [parseUintM, if_pos hc, if_neg (by omega), if_neg (by omega), h2]
    exact parseU_ok l _ (fun x hx => hall x (by simp [hx])) h
theorem numM_itoa {n : Int} (h : fits n = true) : numM (itoa n) = some n := by
  simp only [fits, Bool.and_eq_true, decide_eq_true_eq] at h
  have key : parseIntB 64 (itoa n) = .ok n := by
    by_cases hn : n < 0
    · obtain ⟨u, hu⟩ : ∃ u : Nat, n = -(u : Int) := ⟨n.natAbs, by omega⟩
      subst hu
      obtain ⟨h1, h2, -⟩ := dec_canon u
      rw [itoa_neg u (by omega)]
      have hp := parseU_ok (decDigits u) 0 h1.all (by rw [h2]; omega)
      rw [h2] at hp
      have e45 : (45 : UInt8).toNat = 45 := rfl
      simp only [parseIntB, e45, or_true, if_true, parseUintB, if_neg h1.ne, hp, not_true_eq_false, false_and, if_false, true_and]
      rw [if_neg (by omega)]
    · obtain ⟨u, rfl⟩ : ∃ u : Nat, n = (u : Int) := ⟨n.toNat, by omega⟩
      obtain ⟨h1, h2, -⟩ := dec_canon u
      rw [itoa_nonneg u]
      have hp := parseU_ok (decDigits u) 0 h1.all (by rw [h2]; omega)
      rw [h2] at hp
      cases hx : decDigits u with
      | nil => exact absurd hx h1.ne
      | cons c r =>
        have hc : 48 ≤ c.toNat ∧ c.toNat ≤ 57 := h1.all c (by rw [hx]; simp)
        have hc1 : ¬ (c.toNat = 43 ∨ c.toNat = 45) := by omega
        have hc2 : (c.toNat = 45) = False := by simp; omega
        have hc3 : (c.toNat = 43) = False := by simp; omega
        rw [hx] at hp
        simp only [parseIntB, hc2, hc3, or_false, if_false, parseUintB, if_neg (List.cons_ne_nil c r), hp, not_false_eq_true, true_and, false_and]
        rw [if_neg (by omega)]
  unfold numM
  rw [key]
  simp
theorem numM_some {s : List UInt8} {n : Int} (h : numM s = some n) : s = itoa n ∧ ∃ m : Int, parseIntB 64 s = .ok m ∧ m = n := by
  unfold numM at h
  split at h
  · rename_i m hm
    split at h
    · rename_i he
      cases h
      exact ⟨he.symm, _, hm, rfl⟩
    · cases h
  · cases h
/-- The document's Number: how it goes on digits. -/
def negM (s : List UInt8) : Bool := decide (s.head? = some 45)
def digM (s : List UInt8) : List UInt8 := if negM s then s.tail else s
def badM (s : List UInt8) : Prop := digM s = [] ∨ 19 < (digM s).length ∨ ((digM s).head? = some 48 ∧ (1 < (digM s).length ∨ negM s = true))
theorem number_ok {s : List UInt8} (h1 : ¬ badM s) (h2 : ∀ c ∈ digM s, isD c) (h3 : if negM s then valF 0 (digM s) ≤ 9223372036854775808 else valF 0 (digM s) < 9223372036854775808) :
    numM s = some (if negM s then -(valF 0 (digM s) : Int) else (valF 0 (digM s) : Int)) := by
  unfold badM at h1
  have hc : Canon (digM s) := ⟨fun e => h1 (.inl e), h2, by
    by_cases hh : (digM s).head? = some 48
    · right
      have : ¬ 1 < (digM s).length := fun e => h1 (.inr (.inr ⟨hh, .inl e⟩))
      have h5 : (digM s).length ≠ 0 := fun e => h1 (.inl (List.eq_nil_of_length_eq_zero e))
      omega
    · exact .inl hh⟩
  have hd := dec_val _ hc
  by_cases hn : negM s = true
  · rw [if_pos hn] at h3 ⊢
    have hv : 1 ≤ valF 0 (digM s) := by
      rcases Nat.eq_zero_or_pos (valF 0 (digM s)) with e | e
      · rw [e, decDigits_one (by omega)] at hd
        exact absurd (.inr (.inr ⟨by rw [← hd]; rfl, .inr hn⟩)) h1
      · exact e
    have hs : s = itoa (-(valF 0 (digM s) : Int)) := by
      rw [itoa_neg _ hv, hd]
      unfold digM
      rw [if_pos hn]
      unfold negM at hn
      rw [decide_eq_true_eq] at hn
      cases s with
      | nil => cases hn
      | cons c r => cases hn; rfl
    have := numM_itoa (n := -(valF 0 (digM s) : Int)) (by simp [fits]; omega)
    rwa [← hs] at this
  · rw [if_neg hn] at h3 ⊢
    have hs : s = itoa (valF 0 (digM s) : Int) := by
      rw [itoa_nonneg, hd]
      unfold digM
      rw [if_neg hn]
    have := numM_itoa (n := (valF 0 (digM s) : Int)) (by simp [fits]; omega)
    rwa [← hs] at this
theorem number_no {s : List UInt8} {n : Int} (h : numM s = some n) (hb : -9223372036854775808 ≤ n ∧ n ≤ 9223372036854775807) : ¬ badM s ∧ (∀ c ∈ digM s, isD c) ∧ (if negM s then valF 0 (digM s) ≤ 9223372036854775808 else valF 0 (digM s) < 9223372036854775808) := by
  obtain ⟨hs, -⟩ := numM_some h
  by_cases hn : n < 0
  · obtain ⟨u, rfl⟩ : ∃ u : Nat, n = -(u : Int) := ⟨n.natAbs, by omega⟩
    rw [itoa_neg u (by omega)] at hs
    obtain ⟨h1, h2, h3⟩ := dec_canon u
    have hneg : negM s = true := by rw [hs]; rfl
    have hdig : digM s = decDigits u := by unfold digM; rw [if_pos hneg, hs]; rfl
    unfold badM
    rw [hdig, if_pos hneg, h2]
    refine ⟨?_, h1.all, by omega⟩
    rintro (e | e | ⟨e, -⟩)
    · exact h1.ne e
    · have := dec_len (u := u) (by omega); omega
    · exact h3 (by omega) e
  · obtain ⟨u, rfl⟩ : ∃ u : Nat, n = (u : Int) := ⟨n.toNat, by omega⟩
    rw [itoa_nonneg u] at hs
    obtain ⟨h1, h2, h3⟩ := dec_canon u
    have hneg : negM s = false := by
      rw [hs]
      unfold negM
      rw [decide_eq_false_iff_not]
      intro e
      cases hx : decDigits u with
      | nil => exact h1.ne hx
      | cons c r =>
        rw [hx] at e
        cases e
        have := (h1.all 45 (by rw [hx]; simp)).1
        exact absurd this (by decide)
    have hdig : digM s = decDigits u := by unfold digM; rw [hneg, hs]; rfl
    unfold badM
    rw [hdig, hneg, h2]
    refine ⟨?_, h1.all, by simp; omega⟩
    rintro (e | e | ⟨e, e2 | e2⟩)
    · exact h1.ne e
    · have := dec_len (u := u) (by omega); omega
    · rcases h1.head with h4 | h4
      · exact h4 e
      · omega
    · cases e2
end Go.Proofs.YtcjflnnjieolfaaGreatDoor.Kv
namespace Go.Proofs.YtcjflnnjieolfaaGreatDoor.Kv
set_option linter.unusedSimpArgs false
set_option linter.unusedVariables false
set_option linter.unnecessarySimpa false
open Go.RowKit Go.Proofs.YtcjflnnjieolfaaGreatDoor.Crc Go.Proofs.YtcjflnnjieolfaaGreatDoor.Cm Go.Proofs.YtcjflnnjieolfaaGreatDoor.Var

/-- A text's bytes. -/
def txB (t : List UInt8) : List UInt8 := uv t.length ++ t
def prB (p : List UInt8 × List UInt8) : List UInt8 := txB p.1 ++ txB p.2
def kvB (m : KM) : List UInt8 := uv m.length ++ m.flatMap prB
theorem text_ok {lim : Nat} {s : Int × List UInt8} {t r : List UInt8} (h : textM lim s = (t, (0, r))) : s.1 = 0 ∧ s.2 = txB t ++ r ∧ t.length ≤ lim := by
  unfold textM at h
  split at h
  · rename_i h1
    simp only [Prod.mk.injEq] at h
    exact absurd (by rw [h.2]) h1
  rename_i h1'
  have h1 : (uintM s).2.1 = 0 := by simpa using h1'
  clear h1'
  split at h
  · simp at h
  rename_i h2
  split at h
  · simp at h
  rename_i h3
  simp only [Prod.mk.injEq] at h
  obtain ⟨ht, -, hr⟩ := h
  by_cases h0 : s.1 = 0
  · obtain ⟨n, k, e, hrd⟩ : ∃ n k e, rd s.2 = (n, k, e) := ⟨_, _, _, rfl⟩
    have hU : uintM s = (n, (e, s.2.drop k)) := by unfold uintM; rw [if_pos h0, hrd]
    rw [hU] at h1 h2 h3 ht hr
    simp only at h1 h2 h3 ht hr
    obtain ⟨a, b, c, d, f⟩ := rd_ok hrd h1
    have hl : t.length = n := by rw [← ht, List.length_take]; omega
    refine ⟨h0, ?_, by omega⟩
    rw [txB, hl, d, ← ht, ← hr, List.append_assoc, List.take_append_drop, List.take_append_drop]
  · have hU : uintM s = (0, s) := by unfold uintM; rw [if_neg h0]
    rw [hU] at h1
    exact absurd h1 h0
theorem text_err {lim : Nat} {s : Int × List UInt8} (h : s.1 = 0 ∨ s.1 = 10 ∨ s.1 = 11) : (textM lim s).2.1 = 0 ∨ (textM lim s).2.1 = 10 ∨ (textM lim s).2.1 = 11 := by
  have hu : (uintM s).2.1 = 0 ∨ (uintM s).2.1 = 10 ∨ (uintM s).2.1 = 11 := by
    unfold uintM
    split
    · rcases rd_err s.2 with h | ⟨-, -, h | h⟩ <;> simp [h]
    · exact h
  unfold textM
  split
  · exact hu
  split
  · simp
  split <;> simp
theorem text_len {lim : Nat} (s : Int × List UInt8) : (textM lim s).2.2.length ≤ s.2.length := by
  have := uintM_len s
  unfold textM
  split
  · exact this
  split
  · exact this
  split
  · exact this
  · simp; omega
theorem text_le {lim : Nat} (s : Int × List UInt8) : (textM lim s).1.length ≤ lim := by
  unfold textM
  split
  · simp
  split
  · simp
  split
  · simp
  · rw [List.length_take]; omega
/-- kv.Take's loop: what it has at the end (none: the keys do not rise), the reader. -/
def takeL (lim : Nat) : Nat → (Int × List UInt8) → KM → List UInt8 → Option KM × (Int × List UInt8)
  | 0, s, m, _ => (some m, s)
  | n + 1, s, m, last => if s.1 ≠ 0 then (some m, s) else
    if (textM lim (textM lim s).2).2.1 = 0 ∧ (¬ last < (textM lim s).1 ∨ 32 < (textM lim s).1.length ∨ 64 < (textM lim (textM lim s).2).1.length) then (none, (textM lim (textM lim s).2).2)
    else takeL lim n (textM lim (textM lim s).2).2 (mput strK m (textM lim s).1 (textM lim (textM lim s).2).1) (textM lim s).1
theorem put_end {m : KM} {k v : List UInt8} (h : ∀ p ∈ m, p.1 < k) : mput strK m k v = m ++ [(k, v)] := by
  have hd : mdel m k = m := List.filter_eq_self.2 fun p hp => by
    have : p.1 ≠ k := fun e => lex_irrefl k (by have := h p hp; rwa [e] at this)
    simp [this]
  unfold mput
  rw [hd]
  clear hd
  induction m with
  | nil => rfl
  | cons p m ih =>
    have h1 := h p (by simp)
    have h2 : ¬ k < p.1 := fun h2 => lex_irrefl _ (lex_trans h1 h2)
    simp only [mins, strK_lt, h2, decide_false, Bool.false_eq_true, if_false, List.cons_append]
    rw [ih fun q hq => h q (by simp [hq])]
theorem takeL_err {lim : Nat} : ∀ (n : Nat) (s : Int × List UInt8) (m : KM) (last : List UInt8) , s.1 ≠ 0 → takeL lim n s m last = (some m, s)
  | 0, _, _, _, _ => rfl
  | n + 1, s, m, last, h => by rw [takeL, if_pos h]
theorem takeL_ok {lim : Nat} : ∀ (n : Nat) (s : Int × List UInt8) (m : KM) (last : List UInt8) (m' : KM) (r : List UInt8), takeL lim n s m last = (some m', (0, r)) → KvOk m → (∀ p ∈ m, p.1 < last ∨ p.1 = last) →
    ∃ l, m' = m ++ l ∧ l.length = n ∧ s.2 = l.flatMap prB ++ r ∧ KvOk m' := by
  intro n
  induction n with
  | zero =>
    intro s m last m' r h hm hl
    simp only [takeL, Prod.mk.injEq, Option.some.injEq] at h
    exact ⟨[], by simp [h.1], rfl, by simp [h.2], h.1 ▸ hm⟩
  | succ n ih =>
    intro s m last m' r h hm hl
    by_cases h0 : s.1 = 0
    · rw [takeL, if_neg (by simpa using h0)] at h
      obtain ⟨k, s1, h1⟩ : ∃ k s1, textM lim s = (k, s1) := ⟨_, _, rfl⟩
      obtain ⟨v, s2, h2⟩ : ∃ v s2, textM lim s1 = (v, s2) := ⟨_, _, rfl⟩
      simp only [h1, h2] at h
      by_cases h3 : s2.1 = 0
      · obtain ⟨e2, r2⟩ := s2
        obtain rfl : e2 = 0 := h3
        obtain ⟨a1, a2, a3⟩ := text_ok h2
        obtain ⟨e1, r1⟩ := s1
        obtain rfl : e1 = 0 := a1
        obtain ⟨b1, b2, b3⟩ := text_ok h1
        by_cases h4 : ¬ last < k ∨ 32 < k.length ∨ 64 < v.length
        · rw [if_pos ⟨rfl, h4⟩] at h; simp at h
        rw [if_neg (fun h => h4 h.2)] at h
        have h5 : last < k := Classical.byContradiction fun h => h4 (Or.inl h)
        have h6 : k.length ≤ 32 := by omega
        have h8 : v.length ≤ 64 := by omega
        have h7 : ∀ p ∈ m, p.1 < k := fun p hp => by
          rcases hl p hp with h | h
          · exact lex_trans h h5
          · rw [h]; exact h5
        obtain ⟨l, c1, c2, c3, c4⟩ := ih _ _ _ _ _ h (hm.put h6 h8) (fun p hp => by
          rcases mem_put hp with h | h
          · exact Or.inr (by rw [h])
          · exact Or.inl (h7 p h))
        refine ⟨(k, v) :: l, ?_, by simp [c2], ?_, c4⟩
        · rw [c1, put_end h7]; simp
        · rw [b2]
          simp only at a2 c3
          rw [a2, c3]
          simp [prB]
      · rw [if_neg (fun h => h3 h.1), takeL_err _ _ _ _ h3] at h
        simp only [Prod.mk.injEq] at h
        exact absurd (by rw [h.2]) h3
    · rw [takeL_err _ _ _ _ h0] at h
      simp only [Prod.mk.injEq] at h
      exact absurd (by rw [h.2]) h0
theorem takeL_bad {lim : Nat} : ∀ (n : Nat) (s : Int × List UInt8) (m : KM) (last : List UInt8), s.1 = 0 ∨ s.1 = 10 ∨ s.1 = 11 → ((takeL lim n s m last).2.1 = 0 ∨ (takeL lim n s m last).2.1 = 10 ∨ (takeL lim n s m last).2.1 = 11) := by
  intro n
  induction n with
  | zero => intro s m last h; exact h
  | succ n ih =>
    intro s m last h
    rw [takeL]
    split
    · exact h
    split
    · exact text_err (text_err h)
    · exact ih _ _ _ (text_err (text_err h))
/-- kv.Take: the store or none, the error, the reader. -/
def takeF : Option KM × (Int × List UInt8) → Option KM × Int × (Int × List UInt8)
  | (none, s') => (none, 11, s')
  | (some m, s') => if s'.1 ≠ 0 then (none, s'.1, s') else (some m, 0, s')
def takeK (lim : Nat) (s : Int × List UInt8) : Option KM × Int × (Int × List UInt8) := takeF (takeL lim (uintM s).1 (uintM s).2 [] [])
theorem takeK_bad {lim : Nat} {s : Int × List UInt8} (h : s.1 = 0 ∨ s.1 = 10 ∨ s.1 = 11) (he : (takeK lim s).2.1 ≠ 0) : (takeK lim s).1 = none ∧ ((takeK lim s).2.1 = 10 ∨ (takeK lim s).2.1 = 11) := by
  have hu : (uintM s).2.1 = 0 ∨ (uintM s).2.1 = 10 ∨ (uintM s).2.1 = 11 := by
    unfold uintM
    split
    · rcases rd_err s.2 with h | ⟨-, -, h | h⟩ <;> simp [h]
    · exact h
  have hb := takeL_bad (lim := lim) (uintM s).1 (uintM s).2 [] [] hu
  unfold takeK takeF at *
  rcases ht : takeL lim (uintM s).1 (uintM s).2 [] [] with ⟨_ | m, s'⟩
  · simp
  · rw [ht] at hb he
    simp only at hb he ⊢
    split at he
    · rename_i h1
      rw [if_pos h1]
      exact ⟨rfl, hb.resolve_left (by simpa using h1)⟩
    · simp at he
theorem takeK_ok {lim : Nat} {s : Int × List UInt8} {r : List UInt8} {m : KM} (h : takeK lim s = (some m, 0, (0, r))) : s.2 = kvB m ++ r ∧ KvOk m := by
  unfold takeK takeF at h
  rcases ht : takeL lim (uintM s).1 (uintM s).2 [] [] with ⟨_ | m', s'⟩
  · rw [ht] at h; simp at h
  rw [ht] at h
  simp only at h
  split at h
  · simp at h
  simp only [Prod.mk.injEq, Option.some.injEq] at h
  obtain ⟨rfl, -, rfl⟩ := h
  obtain ⟨l, c1, c2, c3, c4⟩ := takeL_ok _ _ _ _ _ _ ht KvOk.nil (by simp)
  have hu : (uintM s).2.1 = 0 := by
    by_cases h : (uintM s).2.1 = 0
    · exact h
    · rw [takeL_err _ _ _ _ h] at ht
      simp only [Prod.mk.injEq] at ht
      rw [ht.2]
  rw [List.nil_append] at c1
  subst c1
  refine ⟨?_, c4⟩
  by_cases h0 : s.1 = 0
  · obtain ⟨n, k, e, hrd⟩ : ∃ n k e, rd s.2 = (n, k, e) := ⟨_, _, _, rfl⟩
    have hU : uintM s = (n, (e, s.2.drop k)) := by unfold uintM; rw [if_pos h0, hrd]
    rw [hU] at hu c2 c3
    simp only at hu c2 c3
    obtain ⟨a, b, c, d, f⟩ := rd_ok hrd hu
    rw [kvB, c2, d, List.append_assoc, ← c3, List.take_append_drop]
  · have hU : uintM s = (0, s) := by unfold uintM; rw [if_neg h0]
    rw [hU] at hu
    exact absurd hu h0
/-- A store, and the same with one key more. -/
theorem put_other {m : KM} {k v : List UInt8} (h : mfind m k = none) : mput strK m k v ≠ m := fun e => by
  have := mfind_put (K := strK) (l := m) (k := k) (v := v) (j := k)
  rw [e, h, if_pos rfl] at this
  simp at this
/-- The keys of a store, in whatever order they came, sorted. -/
theorem keys_sort {m : KM} {ss : List (List UInt8)} (hr : Rise strK m) (hn : ss.Nodup) (hk : ∀ k, k ∈ ss ↔ ∃ v, mfind m k = some v) : ss.mergeSort (fun x y => decide (x ≤ y)) = m.map (·.1) := by
  have hp := List.mergeSort_perm ss fun x y => decide (x ≤ y)
  have hs : (ss.mergeSort fun x y => decide (x ≤ y)).Pairwise fun x y => decide (x ≤ y) = true := List.pairwise_mergeSort (fun a b c h1 h2 => by simp at *; exact List.le_trans h1 h2) (fun a b => by simp; exact List.le_total a b) ss
  have hnd : (ss.mergeSort fun x y => decide (x ≤ y)).Nodup := hp.nodup_iff.2 hn
  refine asc_ext ?_ ?_ fun x => ?_
  · have h2 := hs.and hnd
    refine h2.imp fun {a b} h => ?_
    obtain ⟨h3, h4⟩ := h
    rcases lex_total h4 with h5 | h5
    · exact h5
    · simp at h3
      exact absurd h5 h3
  · have := List.pairwise_map.2 (hr.imp fun {a b} h => (show a.1 < b.1 by simpa [strK_lt] using h))
    exact this
  · rw [hp.mem_iff, hk]
    constructor
    · rintro ⟨v, hv⟩
      exact List.mem_map.2 ⟨_, mfind_mem hv, rfl⟩
    · intro h
      obtain ⟨p, hp, rfl⟩ := List.mem_map.1 h
      exact mfind_of_mem hp
end Go.Proofs.YtcjflnnjieolfaaGreatDoor.Kv
namespace Go.Proofs.YtcjflnnjieolfaaGreatDoor.Kv
set_option linter.unusedSimpArgs false
set_option linter.unusedVariables false
set_option linter.unnecessarySimpa false
open Go.RowKit Go.Proofs.YtcjflnnjieolfaaGreatDoor.Crc Go.Proofs.YtcjflnnjieolfaaGreatDoor.Cm Go.Proofs.YtcjflnnjieolfaaGreatDoor.Var

/-- A client's bytes; a table's. -/
def laB (p : Nat × La) : List UInt8 := uv p.1 ++ (uv p.2.seq ++ (uv p.2.r.code ++ txB p.2.r.text))
def tbB (t : TM) : List UInt8 := uv t.length ++ t.flatMap laB
theorem uint_ok {s : Int × List UInt8} {n : Nat} {r : List UInt8} (h : uintM s = (n, (0, r))) : s.1 = 0 ∧ s.2 = uv n ++ r := by
  by_cases h0 : s.1 = 0
  · obtain ⟨n', k, e, hrd⟩ : ∃ n k e, rd s.2 = (n, k, e) := ⟨_, _, _, rfl⟩
    have hU : uintM s = (n', (e, s.2.drop k)) := by unfold uintM; rw [if_pos h0, hrd]
    rw [hU] at h
    simp only [Prod.mk.injEq] at h
    obtain ⟨rfl, rfl, rfl⟩ := h
    obtain ⟨a, b, c, d, f⟩ := rd_ok hrd rfl
    refine ⟨h0, ?_⟩
    rw [d, List.take_append_drop]
  · have hU : uintM s = (0, s) := by unfold uintM; rw [if_neg h0]
    rw [hU] at h
    simp only [Prod.mk.injEq] at h
    exact absurd (by rw [h.2]) h0
theorem uint_err {s : Int × List UInt8} (h : s.1 = 0 ∨ s.1 = 10 ∨ s.1 = 11) : (uintM s).2.1 = 0 ∨ (uintM s).2.1 = 10 ∨ (uintM s).2.1 = 11 := by
  unfold uintM
  split
  · rcases rd_err s.2 with h | ⟨-, -, h | h⟩ <;> simp [h]
  · exact h
theorem cliK_lt {a b : Nat} : cliK.lt a b = decide (a < b) := by
  show decide ((a : Int) < (b : Int)) = decide (a < b)
  simp
theorem put_endG {κ α : Type} [DecidableEq κ] {K : Kys κ} {m : List (κ × α)} {k : κ} {v : α} (h : ∀ p ∈ m, K.lt p.1 k = true) : mput K m k v = m ++ [(k, v)] := by
  have hd : mdel m k = m := List.filter_eq_self.2 fun p hp => by
    have : p.1 ≠ k := fun e => by have := h p hp; rw [e, K.lt_irrefl] at this; cases this
    simp [this]
  unfold mput
  rw [hd]
  clear hd
  induction m with
  | nil => rfl
  | cons p m ih =>
    have h1 := h p (by simp)
    have h2 : K.lt k p.1 = false := by
      cases h3 : K.lt k p.1 with
      | false => rfl
      | true => have := K.lt_trans h1 h3; rw [K.lt_irrefl] at this; cases this
    simp only [mins, h2, Bool.false_eq_true, if_false, List.cons_append]
    rw [ih fun q hq => h q (by simp [hq])]
/-- What there is in a table that was read. -/
def TbOk (lim : Nat) (t : TM) : Prop := Rise cliK t ∧ ∀ p ∈ t, 0 < p.1 ∧ p.1 < 4294967296 ∧ p.2.seq < 4294967296 ∧ p.2.r.code ≤ 2 ∧ p.2.r.text.length ≤ lim
theorem TbOk.nil (lim : Nat) : TbOk lim [] := ⟨rise_nil, by simp⟩
/-- session.Take's loop. -/
def sTakeL (lim : Nat) : Nat → (Int × List UInt8) → TM → Nat → Option TM × (Int × List UInt8)
  | 0, s, t, _ => (some t, s)
  | n + 1, s, t, before => if s.1 ≠ 0 then (some t, s) else
    if (textM lim (uintM (uintM (uintM s).2).2).2).2.1 = 0 ∧ ((uintM s).1 ≤ before ∨ 4294967296 ≤ (uintM s).1 ∨ 4294967296 ≤ (uintM (uintM s).2).1 ∨ 2 < (uintM (uintM (uintM s).2).2).1) then (none, (textM lim (uintM (uintM (uintM s).2).2).2).2)
    else sTakeL lim n (textM lim (uintM (uintM (uintM s).2).2).2).2
      (mput cliK t ((uintM s).1 % 4294967296) ⟨(uintM (uintM s).2).1 % 4294967296, ⟨(uintM (uintM (uintM s).2).2).1 % 256, (textM lim (uintM (uintM (uintM s).2).2).2).1⟩⟩) (uintM s).1
theorem sTakeL_err {lim : Nat} : ∀ (n : Nat) (s : Int × List UInt8) (t : TM) (b : Nat), s.1 ≠ 0 → sTakeL lim n s t b = (some t, s)
  | 0, _, _, _, _ => rfl
  | n + 1, s, t, b, h => by rw [sTakeL, if_pos h]
theorem sTakeL_ok {lim : Nat} : ∀ (n : Nat) (s : Int × List UInt8) (t : TM) (b : Nat) (t' : TM) (r : List UInt8), sTakeL lim n s t b = (some t', (0, r)) → TbOk lim t → (∀ p ∈ t, p.1 ≤ b) →
    ∃ l, t' = t ++ l ∧ l.length = n ∧ s.2 = l.flatMap laB ++ r ∧ TbOk lim t' := by
  intro n
  induction n with
  | zero =>
    intro s t b t' r h hm hl
    simp only [sTakeL, Prod.mk.injEq, Option.some.injEq] at h
    exact ⟨[], by simp [h.1], rfl, by simp [h.2], h.1 ▸ hm⟩
  | succ n ih =>
    intro s t b t' r h hm hl
    by_cases h0 : s.1 = 0
    · rw [sTakeL, if_neg (by simpa using h0)] at h
      obtain ⟨c, s1, h1⟩ : ∃ c s1, uintM s = (c, s1) := ⟨_, _, rfl⟩
      obtain ⟨q, s2, h2⟩ : ∃ q s2, uintM s1 = (q, s2) := ⟨_, _, rfl⟩
      obtain ⟨d, s3, h3⟩ : ∃ d s3, uintM s2 = (d, s3) := ⟨_, _, rfl⟩
      obtain ⟨x, s4, h4⟩ : ∃ x s4, textM lim s3 = (x, s4) := ⟨_, _, rfl⟩
      simp only [h1, h2, h3, h4] at h
      by_cases h5 : s4.1 = 0
      · obtain ⟨e4, r4⟩ := s4
        obtain rfl : e4 = 0 := h5
        obtain ⟨a1, a2, a3⟩ := text_ok h4
        obtain ⟨e3, r3⟩ := s3
        obtain rfl : e3 = 0 := a1
        obtain ⟨b1, b2⟩ := uint_ok h3
        obtain ⟨e2, r2⟩ := s2
        obtain rfl : e2 = 0 := b1
        obtain ⟨c1, c2⟩ := uint_ok h2
        obtain ⟨e1, r1⟩ := s1
        obtain rfl : e1 = 0 := c1
        obtain ⟨d1, d2⟩ := uint_ok h1
        by_cases h6 : c ≤ b ∨ 4294967296 ≤ c ∨ 4294967296 ≤ q ∨ 2 < d
        · rw [if_pos ⟨rfl, h6⟩] at h; simp at h
        rw [if_neg (fun h => h6 h.2), Nat.mod_eq_of_lt (by omega), Nat.mod_eq_of_lt (by omega), Nat.mod_eq_of_lt (by omega)] at h
        have hpe : mput cliK t c (⟨q, ⟨d, x⟩⟩ : La) = t ++ [(c, ⟨q, ⟨d, x⟩⟩)] := put_endG fun p hp => by rw [cliK_lt, decide_eq_true_eq]; have := hl p hp; omega
        have hok : TbOk lim (mput cliK t c (⟨q, ⟨d, x⟩⟩ : La)) := ⟨rise_put hm.1, fun p hp => by
          rcases mem_put hp with h | h
          · rw [h]; exact ⟨by simp only; omega, by simp only; omega, by simp only; omega, by simp only; omega, a3⟩
          · exact hm.2 p h⟩
        obtain ⟨l, k1, k2, k3, k4⟩ := ih _ _ _ _ _ h hok (fun p hp => by
          rcases mem_put hp with h | h
          · rw [h]; exact Nat.le_refl _
          · have := hl p h; omega)
        refine ⟨(c, ⟨q, ⟨d, x⟩⟩) :: l, ?_, by simp [k2], ?_, k4⟩
        · rw [k1, hpe]; simp
        · rw [d2]
          simp only at a2 b2 c2 k3
          rw [c2, b2, a2, k3]
          simp [laB]
      · rw [if_neg (fun h => h5 h.1), sTakeL_err _ _ _ _ h5] at h
        simp only [Prod.mk.injEq] at h
        exact absurd (by rw [h.2]) h5
    · rw [sTakeL_err _ _ _ _ h0] at h
      simp only [Prod.mk.injEq] at h
      exact absurd (by rw [h.2]) h0
theorem sTakeL_bad {lim : Nat} : ∀ (n : Nat) (s : Int × List UInt8) (t : TM) (b : Nat), s.1 = 0 ∨ s.1 = 10 ∨ s.1 = 11 → ((sTakeL lim n s t b).2.1 = 0 ∨ (sTakeL lim n s t b).2.1 = 10 ∨ (sTakeL lim n s t b).2.1 = 11) := by
  intro n
  induction n with
  | zero => intro s t b h; exact h
  | succ n ih =>
    intro s t b h
    rw [sTakeL]
    split
    · exact h
    split
    · exact text_err (uint_err (uint_err (uint_err h)))
    · exact ih _ _ _ (text_err (uint_err (uint_err (uint_err h))))
def sTakeF : Option TM × (Int × List UInt8) → Option TM × Int × (Int × List UInt8)
  | (none, s') => (none, 11, s')
  | (some t, s') => if s'.1 ≠ 0 then (none, s'.1, s') else (some t, 0, s')
def sTakeK (lim : Nat) (s : Int × List UInt8) : Option TM × Int × (Int × List UInt8) := sTakeF (sTakeL lim (uintM s).1 (uintM s).2 [] 0)
theorem sTakeK_bad {lim : Nat} {s : Int × List UInt8} (h : s.1 = 0 ∨ s.1 = 10 ∨ s.1 = 11) (he : (sTakeK lim s).2.1 ≠ 0) : (sTakeK lim s).1 = none ∧ ((sTakeK lim s).2.1 = 10 ∨ (sTakeK lim s).2.1 = 11) := by
  have hb := sTakeL_bad (lim := lim) (uintM s).1 (uintM s).2 [] 0 (uint_err h)
  unfold sTakeK sTakeF at *
  rcases ht : sTakeL lim (uintM s).1 (uintM s).2 [] 0 with ⟨_ | m, s'⟩
  · simp
  · rw [ht] at hb he
    simp only at hb he ⊢
    split at he
    · rename_i h1
      rw [if_pos h1]
      exact ⟨rfl, hb.resolve_left (by simpa using h1)⟩
    · simp at he
theorem sTakeK_ok {lim : Nat} {s : Int × List UInt8} {r : List UInt8} {t : TM} (h : sTakeK lim s = (some t, 0, (0, r))) : s.2 = tbB t ++ r ∧ TbOk lim t := by
  unfold sTakeK sTakeF at h
  rcases ht : sTakeL lim (uintM s).1 (uintM s).2 [] 0 with ⟨_ | m', s'⟩
  · rw [ht] at h; simp at h
  rw [ht] at h
  simp only at h
  split at h
  · simp at h
  simp only [Prod.mk.injEq, Option.some.injEq] at h
  obtain ⟨rfl, -, rfl⟩ := h
  obtain ⟨l, c1, c2, c3, c4⟩ := sTakeL_ok _ _ _ _ _ _ ht (TbOk.nil lim) (by simp)
  have hu : (uintM s).2.1 = 0 := by
    by_cases h : (uintM s).2.1 = 0
    · exact h
    · rw [sTakeL_err _ _ _ _ h] at ht
      simp only [Prod.mk.injEq] at ht
      rw [ht.2]
  rw [List.nil_append] at c1
  subst c1
  obtain ⟨n, ⟨e, r1⟩, h1⟩ : ∃ n s1, uintM s = (n, s1) := ⟨_, _, rfl⟩
  rw [h1] at hu c2 c3
  simp only at hu c2 c3
  subst hu
  obtain ⟨-, h3⟩ := uint_ok h1
  refine ⟨?_, c4⟩
  rw [h3, tbB, c2, c3, List.append_assoc]
end Go.Proofs.YtcjflnnjieolfaaGreatDoor.Kv
namespace Go.Proofs.YtcjflnnjieolfaaGreatDoor.Kv
set_option linter.unusedSimpArgs false
set_option linter.unusedVariables false
set_option linter.unnecessarySimpa false
open Go.RowKit Go.Proofs.YtcjflnnjieolfaaGreatDoor.Crc Go.Proofs.YtcjflnnjieolfaaGreatDoor.Cm Go.Proofs.YtcjflnnjieolfaaGreatDoor.Var

theorem uint_fwd {n : Nat} (h : n < 18446744073709551616) (r : List UInt8) : uintM (0, uv n ++ r) = (n, (0, r)) := by
  unfold uintM
  rw [if_pos rfl, rd_uv h]
  simp
theorem text_fwd {lim : Nat} {t : List UInt8} (h : t.length ≤ lim) (hl : lim < 18446744073709551616) (r : List UInt8) : textM lim (0, txB t ++ r) = (t, (0, r)) := by
  have e : txB t ++ r = uv t.length ++ (t ++ r) := by simp [txB]
  unfold textM
  rw [e, uint_fwd (by omega)]
  simp only [ne_eq, not_true_eq_false, if_false]
  rw [if_neg (by omega), if_neg (by simp)]
  simp
theorem rise_app {l m : KM} {p : List UInt8 × List UInt8} (h : Rise strK (m ++ p :: l)) : (∀ q ∈ m, q.1 < p.1) ∧ ∀ q ∈ l, p.1 < q.1 := by
  have h' := List.pairwise_append.1 h
  refine ⟨fun q hq => ?_, fun q hq => ?_⟩
  · have := h'.2.2 q hq p (by simp)
    simpa [strK_lt] using this
  · have := (List.pairwise_cons.1 h'.2.1).1 q hq
    simpa [strK_lt] using this
theorem takeL_fwd {lim : Nat} (h64 : 64 ≤ lim) (hl : lim < 18446744073709551616) : ∀ (l m : KM) (last r : List UInt8), (∀ p ∈ l, p.1.length ≤ 32 ∧ p.2.length ≤ 64) → Rise strK (m ++ l) → (∀ p ∈ l, last < p.1) →
    takeL lim l.length (0, l.flatMap prB ++ r) m last = (some (m ++ l), (0, r)) := by
  intro l
  induction l with
  | nil => intro m last r _ _ _; simp [takeL]
  | cons p l ih =>
    intro m last r hb hr hlast
    have hp := hb p (by simp)
    have e1 : (p :: l).flatMap prB ++ r = txB p.1 ++ (txB p.2 ++ (l.flatMap prB ++ r)) := by simp [prB]
    obtain ⟨h1, h2⟩ := rise_app hr
    rw [List.length_cons, takeL, if_neg (by simp), e1, text_fwd (by omega) hl]
    simp only
    rw [text_fwd (by omega) hl]
    simp only
    rw [if_neg (by
      rintro ⟨-, h | h | h⟩
      · exact h (hlast p (by simp))
      · omega
      · omega), put_end h1]
    have := ih (m ++ [p]) p.1 r (fun q hq => hb q (by simp [hq])) (by simpa using hr) h2
    rw [show (m ++ [(p.1, p.2)] : KM) = m ++ [p] from rfl, this]
    simp
def KvNe (m : KM) : Prop := ∀ p ∈ m, p.1 ≠ []
theorem nil_lt {k : List UInt8} (h : k ≠ []) : ([] : List UInt8) < k := by
  cases k with
  | nil => exact absurd rfl h
  | cons a t => exact List.nil_lt_cons _ _
theorem takeK_fwd {lim : Nat} {m : KM} (h64 : 64 ≤ lim) (hl : lim < 18446744073709551616) (hm : KvOk m) (hn : KvNe m) (hlen : m.length < 18446744073709551616) (r : List UInt8) : takeK lim (0, kvB m ++ r) = (some m, 0, (0, r)) := by
  have e : kvB m ++ r = uv m.length ++ (m.flatMap prB ++ r) := by simp [kvB]
  unfold takeK
  rw [e, uint_fwd hlen]
  simp only
  rw [takeL_fwd h64 hl m [] [] r hm.2 (by simpa using hm.1) (fun p hp => nil_lt (hn p hp))]
  simp [takeF]
theorem KvNe.put {m : KM} {k v : List UInt8} (h : KvNe m) (hk : k ≠ []) : KvNe (mput strK m k v) := fun p hp => by
  rcases mem_put hp with rfl | hp
  · exact hk
  · exact h p hp
theorem KvNe.del {m : KM} (h : KvNe m) (k : List UInt8) : KvNe (mdel m k) := fun p hp => h p (mem_del.1 hp).1
theorem KvNe.dels {m : KM} (h : KvNe m) (ks : List (List UInt8)) : KvNe (delsM m ks) := by
  induction ks generalizing m with
  | nil => exact h
  | cons k ks ih => exact ih (h.del k)
theorem KvNe.set {m : KM} {k : List UInt8} {o : Option (List UInt8)} (h : KvNe m) (hk : k ≠ []) : KvNe (mset m k o) := by
  cases o with
  | none => exact h.del k
  | some v => exact (h.del k).put hk
theorem good_ne {c : Cm} (h : Cm.Good c) : ∀ k ∈ c.keys, k ≠ [] := fun k hk e => by
  have := (h.2.2.2.2.2.1 k hk).1
  rw [e] at this
  simp at this
theorem keyA_ne {c : Cm} (h : Cm.Good c) : keyA c ≠ [] := by
  have h1 := (Good.keys h).2.1
  unfold keyA
  rw [List.getD_eq_getElem?_getD, List.getElem?_eq_getElem (by omega)]
  exact good_ne h _ (List.getElem_mem _)
theorem KvNe.do {m : KM} {c : Cm} (h : KvNe m) : KvNe (kvDo m c).1 := by
  unfold kvDo
  split
  · rename_i hg
    have hA := keyA_ne hg
    unfold doM
    split
    · exact h.put hA
    · exact h
    · exact h.del _
    · unfold addM
      split
      · exact h
      · split
        · exact h.put hA
        · exact h
    · unfold casM
      split
      · exact h
      · split
        · exact h.put hA
        · exact h
    · rename_i hk
      have h2 : 2 ≤ c.keys.length := by
        have := hg.2.2.2.1
        rw [hk] at this
        exact this
      have hB : keyB c ≠ [] := by
        unfold keyB
        rw [List.getD_eq_getElem?_getD, List.getElem?_eq_getElem (by omega)]
        exact good_ne hg _ (List.getElem_mem _)
      exact (h.set hA).set hB
    · exact h
    · exact h.dels _
  · exact h
/-- What commands come to. -/
def foldM (l : List Cm) : KM := l.foldl (fun m c => (kvDo m c).1) []
theorem fold_snoc (l : List Cm) (c : Cm) : foldM (l ++ [c]) = (kvDo (foldM l) c).1 := by unfold foldM; rw [List.foldl_append]; rfl
theorem fold_next {l : List Cm} {i : Nat} {c : Cm} (h : l[i]? = some c) : foldM (l.take (i + 1)) = (kvDo (foldM (l.take i)) c).1 := by
  rw [List.take_add_one, h]
  exact fold_snoc _ _
theorem fold_ok (l : List Cm) : ∀ i, i ≤ l.length → i ≤ 100000 → KvOk (foldM (l.take i)) ∧ KvNe (foldM (l.take i)) ∧ (foldM (l.take i)).length ≤ 2 * i := by
  intro i
  induction i with
  | zero => intro _ _; exact ⟨KvOk.nil, fun p hp => (by cases hp), by simp [foldM]⟩
  | succ i ih =>
    intro h1 h2
    obtain ⟨a, b, d⟩ := ih (by omega) (by omega)
    obtain ⟨c, hc⟩ : ∃ c, l[i]? = some c := ⟨_, List.getElem?_eq_getElem (by omega)⟩
    have hb := do_bound (c := c) a (by omega)
    rw [fold_next hc]
    exact ⟨hb.ok, b.do, by have := hb.len; omega⟩
end Go.Proofs.YtcjflnnjieolfaaGreatDoor.Kv
