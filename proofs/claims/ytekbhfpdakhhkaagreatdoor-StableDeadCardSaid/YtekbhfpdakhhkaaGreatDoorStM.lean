/- What a replica keeps: as plain data; what is wrong with a set, what it does; the law of rising. No program here. -/
import Derived.Test.YtekbhfpdakhhkaaGreatDoorGenAll
namespace Go.Proofs.YtekbhfpdakhhkaaGreatDoor.St
set_option linter.unusedSimpArgs false
set_option linter.unusedVariables false
open Go.RowKit

/-- A ballot. -/
structure Bal where
  n : Nat
  r : Int
deriving DecidableEq
def Bal.zero : Bal := ⟨0, 0⟩
/-- One is below another one. -/
def bLess (a b : Bal) : Prop := a.n < b.n ∨ a.n = b.n ∧ a.r < b.r
instance (a b : Bal) : Decidable (bLess a b) := by unfold bLess; infer_instance
theorem bLess_irrefl (a : Bal) : ¬ bLess a a := by unfold bLess; omega
theorem bLess_trans {a b c : Bal} (h : bLess a b) (k : bLess b c) : bLess a c := by unfold bLess at *; omega
/-- Not below, one behind the other. -/
theorem bLe_trans {a b c : Bal} (h : ¬ bLess b a) (k : ¬ bLess c b) : ¬ bLess c a := by unfold bLess at *; omega
/-- A slot's vote. -/
structure Vo where
  b : Bal
  batch : List UInt8
deriving DecidableEq
def slotK : Kys Nat := numK .u64
structure Sto where
  prom : Bal
  base : Nat
  snap : List UInt8
  votes : List (Nat × Vo)
def sto0 : Sto := ⟨Bal.zero, 0, [], []⟩
/-- A set: 1 a promise, 2 a vote, 3 a snapshot. -/
structure SetM where
  kind : Nat
  slot : Nat
  b : Bal
  bytes : List UInt8
/-- What is wrong with a set. -/
def mayM (s : Sto) (x : SetM) : Nat :=
  if x.kind ≠ 3 ∧ (x.b.r < 0 ∨ 7 ≤ x.b.r ∨ bLess x.b s.prom) then 1 else if x.kind ≠ 1 ∧ x.slot ≤ s.base then 31 else 0
/-- What a set does. -/
def doM (s : Sto) (x : SetM) : Sto :=
  if x.kind = 1 then { s with prom := x.b }
  else if x.kind = 2 then { s with prom := x.b, votes := mput slotK s.votes x.slot ⟨x.b, x.bytes⟩ }
  else { s with base := x.slot, snap := x.bytes, votes := s.votes.filter fun p => !decide (p.1 ≤ x.slot) }
def putM (s : Sto) (x : SetM) : Sto := if mayM s x = 0 then doM s x else s
/-- What holds of every store. -/
structure StoOk (s : Sto) (i : Nat) : Prop where
  rise : Rise slotK s.votes
  vote : ∀ p ∈ s.votes, s.base < p.1 ∧ ¬ bLess s.prom p.2.b ∧ 0 ≤ p.2.b.r ∧ p.2.b.r < 7 ∧ p.1 < 18446744073709551616 ∧ p.2.b.n < 18446744073709551616 ∧ p.2.batch.length ≤ 1000
  pr : 0 ≤ s.prom.r ∧ s.prom.r < 7
  pn : s.prom.n < 18446744073709551616
  bs : s.base < 18446744073709551616
  sn : s.snap.length ≤ 1000
  len : s.votes.length ≤ i
theorem StoOk.zero : StoOk sto0 0 := ⟨rise_nil, by simp [sto0], by simp [sto0, Bal.zero], by simp [sto0, Bal.zero], by simp [sto0], by simp [sto0], by simp [sto0]⟩
theorem StoOk.mono {s : Sto} {i j : Nat} (h : StoOk s i) (hij : i ≤ j) : StoOk s j := ⟨h.rise, h.vote, h.pr, h.pn, h.bs, h.sn, Nat.le_trans h.len hij⟩
structure SetOk (x : SetM) : Prop where
  kind : x.kind = 1 ∨ x.kind = 2 ∨ x.kind = 3
  slot : x.slot < 18446744073709551616
  n : x.b.n < 18446744073709551616
  len : x.bytes.length ≤ 1000
theorem may_ok {s : Sto} {x : SetM} (h : mayM s x = 0) : (x.kind ≠ 3 → 0 ≤ x.b.r ∧ x.b.r < 7 ∧ ¬ bLess x.b s.prom) ∧ (x.kind ≠ 1 → s.base < x.slot) := by
  unfold mayM at h
  split at h
  · cases h
  · rename_i h1
    split at h
    · cases h
    · rename_i h2
      refine ⟨fun hk => ?_, fun hk => ?_⟩
      · have h3 : ¬ (x.b.r < 0 ∨ 7 ≤ x.b.r ∨ bLess x.b s.prom) := fun hh => h1 ⟨hk, hh⟩
        simp only [not_or] at h3
        exact ⟨by omega, by omega, h3.2.2⟩
      · have h3 : ¬ x.slot ≤ s.base := fun hh => h2 ⟨hk, hh⟩
        omega
theorem StoOk.next {s : Sto} {x : SetM} {i : Nat} (h : StoOk s i) (hx : SetOk x) (hm : mayM s x = 0) : StoOk (doM s x) (i + 1) := by
  obtain ⟨m1, m2⟩ := may_ok hm
  unfold doM
  split
  · rename_i hk
    obtain ⟨h1, h2, h3⟩ := m1 (by omega)
    exact ⟨h.rise, fun p hp => by obtain ⟨v1, v2, v3⟩ := h.vote p hp; exact ⟨v1, bLe_trans v2 h3, v3⟩, ⟨h1, h2⟩, hx.n, h.bs, h.sn, by have := h.len; show s.votes.length ≤ _; omega⟩
  · rename_i hk1
    split
    · rename_i hk
      obtain ⟨h1, h2, h3⟩ := m1 (by omega)
      refine ⟨rise_put h.rise, fun p hp => ?_, ⟨h1, h2⟩, hx.n, h.bs, h.sn, ?_⟩
      · rcases mem_put hp with rfl | hp
        · exact ⟨m2 (by omega), bLess_irrefl _, h1, h2, hx.slot, hx.n, hx.len⟩
        · obtain ⟨v1, v2, v3⟩ := h.vote p hp
          exact ⟨v1, bLe_trans v2 h3, v3⟩
      · have := len_put_le (K := slotK) (l := s.votes) (k := x.slot) (v := (⟨x.b, x.bytes⟩ : Vo))
        have := h.len
        show (mput slotK s.votes x.slot ⟨x.b, x.bytes⟩).length ≤ _
        omega
    · refine ⟨h.rise.filter _, fun p hp => ?_, h.pr, h.pn, hx.slot, hx.len, ?_⟩
      · obtain ⟨h1, h2⟩ := List.mem_filter.1 hp
        obtain ⟨v1, v2⟩ := h.vote p h1
        exact ⟨by simpa using h2, v2⟩
      · have := List.length_filter_le (fun p : Nat × Vo => !decide (p.1 ≤ x.slot)) s.votes
        have := h.len
        show (s.votes.filter _).length ≤ _
        omega
theorem StoOk.put {s : Sto} {x : SetM} {i : Nat} (h : StoOk s i) (hx : SetOk x) : StoOk (putM s x) (i + 1) := by
  unfold putM
  split
  · exact h.next hx (by assumption)
  · exact h.mono (by omega)
/-- What a step does not let fall. -/
theorem put_rises {s : Sto} {x : SetM} {i : Nat} (h : StoOk s i) : ¬ bLess (putM s x).prom s.prom ∧ s.base ≤ (putM s x).base := by
  unfold putM
  split
  · rename_i hm
    obtain ⟨m1, m2⟩ := may_ok hm
    unfold doM
    split
    · rename_i hk
      exact ⟨(m1 (by omega)).2.2, Nat.le_refl _⟩
    · split
      · rename_i hk
        exact ⟨(m1 (by omega)).2.2, Nat.le_refl _⟩
      · exact ⟨bLess_irrefl _, Nat.le_of_lt (m2 (by omega))⟩
  · exact ⟨bLess_irrefl _, Nat.le_refl _⟩
theorem mfind_filter {l : List (Nat × Vo)} {f : Nat → Bool} {k : Nat} : mfind (l.filter fun p => f p.1) k = if f k = true then mfind l k else none := by
  induction l with
  | nil => simp [mfind_nil]
  | cons p l ih =>
    rw [List.filter_cons]
    by_cases hp : f p.1 = true
    · rw [if_pos hp, mfind_cons, mfind_cons, ih]
      by_cases e : p.1 = k
      · subst e; rw [if_pos rfl, if_pos hp, if_pos rfl]
      · rw [if_neg e, if_neg e]
    · rw [if_neg hp, ih, mfind_cons]
      by_cases e : p.1 = k
      · subst e; rw [if_neg hp, if_neg hp]
      · rw [if_neg e]
/-- A vote goes only by one of its slot, or by a snapshot. -/
theorem put_votes {s : Sto} {x : SetM} {k : Nat} {v : Vo} (hx : x.kind = 1 ∨ x.kind = 2 ∨ x.kind = 3) (hv : mfind s.votes k = some v) (hk : (putM s x).base < k) :
    ∃ u, mfind (putM s x).votes k = some u ∧ (¬ (mayM s x = 0 ∧ x.kind = 2 ∧ x.slot = k) → u = v) := by
  unfold putM at *
  split
  · rename_i hm
    rw [if_pos hm] at hk
    unfold doM at *
    split
    · exact ⟨v, hv, fun _ => rfl⟩
    · rename_i h1
      rw [if_neg h1] at hk
      split
      · rename_i h2
        show ∃ u, mfind (mput slotK s.votes x.slot ⟨x.b, x.bytes⟩) k = some u ∧ _
        rw [mfind_put]
        by_cases e : k = x.slot
        · rw [if_pos e]
          exact ⟨_, rfl, fun hn => absurd ⟨hm, h2, e.symm⟩ hn⟩
        · rw [if_neg e]
          exact ⟨v, hv, fun _ => rfl⟩
      · rename_i h2
        rw [if_neg h2] at hk
        refine ⟨v, ?_, fun _ => rfl⟩
        have := mfind_filter (l := s.votes) (f := fun q => !decide (q ≤ x.slot)) (k := k)
        show mfind (s.votes.filter fun p => !decide (p.1 ≤ x.slot)) k = some v
        rw [this, if_pos (by simpa using hk)]
        exact hv
  · exact ⟨v, hv, fun _ => rfl⟩
end Go.Proofs.YtekbhfpdakhhkaaGreatDoor.St
