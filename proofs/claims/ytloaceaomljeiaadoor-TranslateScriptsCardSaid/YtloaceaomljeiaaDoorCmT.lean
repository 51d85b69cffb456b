/- Reading a command, and a batch of bytes, as plain data. -/
import Derived.Test.YtloaceaomljeiaaDoorCmM
import Derived.Test.YtloaceaomljeiaaDoorRowG
import Derived.Laws.Closers25b
namespace Go.Proofs.YtloaceaomljeiaaDoor.Cm
open Go.RowKit Go.Proofs.YtloaceaomljeiaaDoor.Crc Go.Proofs.YtloaceaomljeiaaDoor.Var

abbrev St := Int × List UInt8
/-- So many texts, one behind the other. -/
def textsM (lim : Nat) : Nat → St → List (List UInt8) × St
  | 0, s => ([], s)
  | k + 1, s => ((textsM lim k s).1 ++ [(textM lim (textsM lim k s).2).1], (textM lim (textsM lim k s).2).2)
theorem textsM_len (lim k : Nat) (s : St) : (textsM lim k s).1.length = k := by
  induction k with
  | zero => rfl
  | succ k ih => simp [textsM, ih]
theorem textM_len (lim : Nat) (s : St) : (textM lim s).1.length ≤ lim := by
  unfold textM
  split
  · simp
  · split
    · simp
    · split
      · simp
      · simp; omega
theorem textM_left (lim : Nat) (s : St) : (textM lim s).2.2.length ≤ s.2.length := by
  have := uintM_len s
  unfold textM
  split
  · exact this
  · split
    · exact this
    · split
      · exact this
      · simp; omega
theorem textsM_left (lim k : Nat) (s : St) : (textsM lim k s).2.2.length ≤ s.2.length := by
  induction k with
  | zero => exact Nat.le_refl _
  | succ k ih => exact Nat.le_trans (textM_left _ _) ih
theorem textsM_lens (lim k : Nat) (s : St) : ∀ t ∈ (textsM lim k s).1, t.length ≤ lim := by
  induction k with
  | zero => simp [textsM]
  | succ k ih =>
    intro t ht
    simp only [textsM, List.mem_append, List.mem_singleton] at ht
    rcases ht with ht | rfl
    · exact ih t ht
    · exact textM_len _ _
/-- The heads' numbers. -/
structure Heads where
  client : Nat
  seq : Nat
  kind : Nat
  n : Nat
  s : St
def headsM (s : St) : Heads :=
  let a := uintM s
  let b := uintM a.2
  let c := uintM b.2
  let d := uintM c.2
  ⟨a.1, b.1, c.1, d.1, d.2⟩
def Heads.ok (h : Heads) : Bool := decide (h.client ≤ 4294967295) && decide (h.seq ≤ 4294967295) && decide (h.kind ≤ 255) && decide (h.n ≤ 16)
/-- What is behind the heads. -/
def tailM (lim : Nat) (h : Heads) : Cm × St :=
  let ks := textsM lim h.n h.s
  let a := textM lim ks.2
  let b := textM lim a.2
  let c := uintM b.2
  (⟨h.client, h.seq, h.kind, ks.1, a.1, b.1, intV c.1⟩, c.2)
/-- take. -/
def takeM (lim : Nat) (s : St) : Cm × Bool × St := if (headsM s).ok then ((tailM lim (headsM s)).1, true, (tailM lim (headsM s)).2) else (Cm.zero, false, (headsM s).s)
/-- The end of a batch. -/
def endM (out : List Cm) (s : St) : List Cm × Int := if s.1 ≠ 0 then ([], s.1) else if (doneM s).1 ≠ 0 then ([], 11) else (out, 0)
/-- So many commands more. -/
def goM : Nat → List Cm → St → List Cm × Int
  | 0, out, s => endM out s
  | k + 1, out, s => if s.1 ≠ 0 then endM out s else if (takeM 64 s).2.2.1 = 0 ∧ ((takeM 64 s).2.1 = false ∨ ¬ Good (takeM 64 s).1) then ([], 11) else goM k (out ++ [(takeM 64 s).1]) (takeM 64 s).2.2
/-- Parse. -/
def parseM (b : List UInt8) : List Cm × Int :=
  if (uintM (0, b)).1 ≤ 8 then goM (uintM (0, b)).1 [] (uintM (0, b)).2 else if (uintM (0, b)).2.1 ≠ 0 then ([], (uintM (0, b)).2.1) else ([], 11)
theorem headsM_left (s : St) : (headsM s).s.2.length ≤ s.2.length := by
  unfold headsM
  exact Nat.le_trans (uintM_len _) (Nat.le_trans (uintM_len _) (Nat.le_trans (uintM_len _) (uintM_len _)))
theorem tailM_left (lim : Nat) (h : Heads) : (tailM lim h).2.2.length ≤ h.s.2.length := by
  unfold tailM
  exact Nat.le_trans (uintM_len _) (Nat.le_trans (textM_left _ _) (Nat.le_trans (textM_left _ _) (textsM_left _ _ _)))
theorem takeM_left (lim : Nat) (s : St) : (takeM lim s).2.2.2.length ≤ s.2.length := by
  unfold takeM
  split
  · exact Nat.le_trans (tailM_left _ _) (headsM_left _)
  · exact headsM_left _
theorem goM_says (k : Nat) : ∀ (out : List Cm) (s : St), out.length + k ≤ 8 → (s.1 = 0 → ∀ c ∈ out, Good c) → (goM k out s).1.length ≤ 8 ∧ ∀ c ∈ (goM k out s).1, Good c := by
  have hend : ∀ (out : List Cm) (s : St), out.length ≤ 8 → (s.1 = 0 → ∀ c ∈ out, Good c) → (endM out s).1.length ≤ 8 ∧ ∀ c ∈ (endM out s).1, Good c := by
    intro out s h1 h2
    unfold endM
    split
    · simp
    · split
      · simp
      · rename_i h _
        exact ⟨h1, h2 (by simpa using h)⟩
  induction k with
  | zero => exact fun out s h1 h2 => hend out s (by omega) h2
  | succ k ih =>
    intro out s h1 h2
    unfold goM
    split
    · exact hend out s (by omega) h2
    · rename_i h0
      split
      · simp
      · rename_i h3
        refine ih _ _ (by simp; omega) fun h4 c hc => ?_
        rcases List.mem_append.1 hc with h5 | h5
        · exact h2 (by simpa using h0) c h5
        · simp at h5
          subst h5
          exact Decidable.byContradiction fun h6 => h3 ⟨h4, .inr h6⟩
/-- What is parsed may be, and is no more than 8. -/
theorem parseM_says (b : List UInt8) : (parseM b).1.length ≤ 8 ∧ ∀ c ∈ (parseM b).1, Good c := by
  unfold parseM
  split
  · exact goM_says _ _ _ (by simpa) (by simp)
  · split <;> simp
theorem bits_i64 (op : BinOp) (a b : Int) : -9223372036854775808 ≤ Go.bits op .i64 a b ∧ Go.bits op .i64 a b ≤ 9223372036854775807 :=
  ⟨bits_lo_i64 op a b, bits_hi_i64 op a b⟩
theorem intV_in (n : Nat) : -9223372036854775808 ≤ intV n ∧ intV n ≤ 9223372036854775807 := bits_i64 _ _ _
theorem tailM_fits {h : Heads} (hk : h.ok = true) : (tailM 64 h).1.Fits := by
  unfold Heads.ok at hk
  simp only [Bool.and_eq_true, decide_eq_true_eq] at hk
  obtain ⟨⟨⟨h1, h2⟩, h3⟩, h4⟩ := hk
  have i := intV_in (uintM (textM 64 (textM 64 (textsM 64 h.n h.s).2).2).2).1
  refine ⟨by simp only [tailM]; omega, by simp only [tailM]; omega, by simp only [tailM]; omega, i.1, i.2, ?_, ?_, ?_, ?_⟩
  · simp only [tailM, textsM_len]; omega
  · exact Nat.le_trans (textM_len _ _) (by decide)
  · exact Nat.le_trans (textM_len _ _) (by decide)
  · exact fun k hk => Nat.le_trans (textsM_lens _ _ _ k hk) (by decide)
theorem zero_fits : Cm.zero.Fits := ⟨by decide, by decide, by decide, by decide, by decide, by decide, by decide, by decide, by simp [Cm.zero]⟩
theorem takeM_fits (s : St) : (takeM 64 s).1.Fits := by
  unfold takeM
  split
  · rename_i h; exact tailM_fits h
  · exact zero_fits
end Go.Proofs.YtloaceaomljeiaaDoor.Cm
