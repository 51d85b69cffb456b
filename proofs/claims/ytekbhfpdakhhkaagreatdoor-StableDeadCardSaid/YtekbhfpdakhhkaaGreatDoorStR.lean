/- A set's record, and what is read of one: plain data. No program here. -/
import Derived.Test.YtekbhfpdakhhkaaGreatDoorStM
import Derived.Test.YtekbhfpdakhhkaaGreatDoorVarAll
namespace Go.Proofs.YtekbhfpdakhhkaaGreatDoor.St
set_option linter.unusedSimpArgs false
set_option linter.unusedVariables false
open Go.RowKit Go.Proofs.YtekbhfpdakhhkaaGreatDoor.Crc Go.Proofs.YtekbhfpdakhhkaaGreatDoor.Var

def ballB (b : Bal) : List UInt8 := uv b.n ++ uv b.r.toNat
def txB (s : List UInt8) : List UInt8 := uv s.length ++ s
/-- A set's record. -/
def recB (x : SetM) : List UInt8 := uv x.kind ++ (if x.kind ≠ 1 then uv x.slot else []) ++ (if x.kind ≠ 3 then ballB x.b else []) ++ (if x.kind ≠ 1 then txB x.bytes else [])
abbrev RS := Int × List UInt8
/-- A ballot is read: it, an error. -/
def takeB (s : RS) : (Bal × Int) × RS :=
  if (uintM (uintM s).2).2.1 ≠ 0 then ((Bal.zero, (uintM (uintM s).2).2.1), (uintM (uintM s).2).2)
  else if 7 ≤ (uintM (uintM s).2).1 then ((Bal.zero, 11), (uintM (uintM s).2).2)
  else ((⟨(uintM s).1, ((uintM (uintM s).2).1 : Int)⟩, 0), (uintM (uintM s).2).2)
/-- What is read, ahead of the end: a set, an error, what is left. -/
def readS (bs : List UInt8) : SetM × Int × RS :=
  let k := uintM (0, bs)
  let a := if k.1 ≠ 1 then uintM k.2 else (0, k.2)
  let b := if k.1 ≠ 3 then takeB a.2 else ((Bal.zero, 0), a.2)
  let t := if k.1 ≠ 1 then textM bs.length b.2 else ([], b.2)
  (⟨k.1, a.1, b.1.1, t.1⟩, b.1.2, t.2)
def readOk (r : SetM × Int × RS) : Bool := decide (r.2.1 = 0) && decide (r.1.kind = 1 ∨ r.1.kind = 2 ∨ r.1.kind = 3) && decide ((doneM r.2.2).1 = 0)
theorem uintM_uv {n : Nat} (h : n < 18446744073709551616) (r : List UInt8) : uintM (0, uv n ++ r) = (n, (0, r)) := by
  unfold uintM
  rw [if_pos rfl, rd_uv h r]
  simp
theorem textM_tx {s : List UInt8} {lim : Nat} (h : s.length ≤ lim) (hl : s.length < 18446744073709551616) (r : List UInt8) : textM lim (0, txB s ++ r) = (s, (0, r)) := by
  unfold textM txB
  rw [List.append_assoc, uintM_uv hl]
  simp only [ne_eq, not_true_eq_false, if_false]
  rw [if_neg (by omega), if_neg (by simp)]
  simp
theorem takeB_ball {b : Bal} (hn : b.n < 18446744073709551616) (h0 : 0 ≤ b.r) (h7 : b.r < 7) (r : List UInt8) : takeB (0, ballB b ++ r) = ((b, 0), (0, r)) := by
  unfold takeB ballB
  rw [List.append_assoc, uintM_uv hn]
  simp only
  rw [uintM_uv (by omega)]
  simp only [ne_eq, not_true_eq_false, if_false]
  rw [if_neg (by omega)]
  obtain ⟨n, r'⟩ := b
  simp only at h0
  rw [show ((r'.toNat : Nat) : Int) = r' by omega]
/-- What holds of a set whose record is read back. -/
structure Plain (x : SetM) : Prop where
  ok : SetOk x
  bal : x.kind ≠ 3 → 0 ≤ x.b.r ∧ x.b.r < 7
  b3 : x.kind = 3 → x.b = Bal.zero
  s1 : x.kind = 1 → x.slot = 0 ∧ x.bytes = []
theorem read_rec {x : SetM} (h : Plain x) : readS (recB x) = (x, 0, (0, [])) := by
  obtain ⟨k, slot, b, bytes⟩ := x
  have hk := h.ok.kind
  have hs := h.ok.slot
  have hn := h.ok.n
  have hl := h.ok.len
  have h1 := h.bal
  have h2 := h.b3
  have h3 := h.s1
  simp only at hk hs hn hl h1 h2 h3
  have hkl : k < 18446744073709551616 := by omega
  unfold readS recB
  simp only
  have hlen : bytes.length ≤ (uv k ++ (if k ≠ 1 then uv slot else []) ++ (if k ≠ 3 then ballB b else []) ++ (if k ≠ 1 then txB bytes else [])).length ∨ k = 1 := by
    by_cases e : k = 1
    · exact .inr e
    · left
      simp [e, txB]
      omega
  generalize hbs : (uv k ++ (if k ≠ 1 then uv slot else []) ++ (if k ≠ 3 then ballB b else []) ++ (if k ≠ 1 then txB bytes else [])).length = lim at hlen
  rw [List.append_assoc, List.append_assoc, uintM_uv hkl]
  simp only
  rcases hk with rfl | rfl | rfl
  · obtain ⟨e1, e2⟩ := h3 rfl
    subst e1; subst e2
    obtain ⟨g1, g2⟩ := h1 (by decide)
    simp only [ne_eq, not_true_eq_false, if_false, List.nil_append, show ¬ (1 : Nat) = 3 by decide, not_false_eq_true, if_true, List.append_nil]
    have := takeB_ball hn g1 g2 []
    rw [List.append_nil] at this
    rw [this]
  · obtain ⟨g1, g2⟩ := h1 (by decide)
    simp only [ne_eq, show ¬ (2 : Nat) = 1 by decide, show ¬ (2 : Nat) = 3 by decide, not_false_eq_true, if_true]
    rw [uintM_uv hs]
    simp only
    rw [takeB_ball hn g1 g2]
    simp only
    have := textM_tx (s := bytes) (lim := lim) (by omega) (by omega) []
    rw [List.append_nil] at this
    rw [this]
  · have e := h2 rfl
    subst e
    simp only [ne_eq, show ¬ (3 : Nat) = 1 by decide, not_true_eq_false, if_false, not_false_eq_true, if_true, List.nil_append]
    rw [uintM_uv hs]
    simp only
    have := textM_tx (s := bytes) (lim := lim) (by omega) (by omega) []
    rw [List.append_nil] at this
    rw [this]
theorem readOk_rec {x : SetM} (h : Plain x) : readOk (readS (recB x)) = true := by
  rw [read_rec h]
  have := h.ok.kind
  unfold readOk doneM
  simp [this]
theorem recB_len {x : SetM} (h : SetOk x) (hb : 0 ≤ x.b.r ∧ x.b.r < 7 ∨ x.kind = 3) : 0 < (recB x).length ∧ (recB x).length ≤ 2000 := by
  have h1 := uv_len_pos x.kind
  have h2 := uv_len10 h.slot
  have h3 := uv_len10 h.n
  have h4 := uv_len10 (n := x.bytes.length) (by have := h.len; omega)
  have h5 := uv_len10 (n := x.kind) (by have := h.kind; omega)
  have hl := h.len
  unfold recB
  constructor
  · simp; omega
  · rcases hb with hb | hb
    · have h6 := uv_len10 (n := x.b.r.toNat) (by omega)
      simp only [List.length_append]
      have a1 : (if x.kind ≠ 1 then uv x.slot else []).length ≤ 10 := by
        split
        · exact h2
        · simp
      have a2 : (if x.kind ≠ 3 then ballB x.b else []).length ≤ 20 := by split <;> simp [ballB] <;> omega
      have a3 : (if x.kind ≠ 1 then txB x.bytes else []).length ≤ 1010 := by split <;> simp [txB] <;> omega
      omega
    · simp only [List.length_append]
      have a1 : (if x.kind ≠ 1 then uv x.slot else []).length ≤ 10 := by
        split
        · exact h2
        · simp
      have a2 : (if x.kind ≠ 3 then ballB x.b else []).length ≤ 20 := by rw [if_neg (by simp [hb])]; simp
      have a3 : (if x.kind ≠ 1 then txB x.bytes else []).length ≤ 1010 := by split <;> simp [txB] <;> omega
      omega
end Go.Proofs.YtekbhfpdakhhkaaGreatDoor.St
