/- CrcM, FrM, FrRowM in one text. -/
import Derived.Test.YtekbhfpdakhhkaaGreatDoorBase
import Derived.Test.YtekbhfpdakhhkaaGreatDoorVarAll
namespace Go.Proofs.YtekbhfpdakhhkaaGreatDoor.Crc
open Go.RowKit

def P : Nat := 2197175160
def tab : List Nat := [0, 274646895, 549293790, 820201905, 1098587580, 1361435347, 1640403810, 1905808397, 2197175160, 2460548119, 2722870694, 2987750089, 3280807620, 3553878443, 3811616794, 4084100981]
def nib (c x : Nat) : Nat := c / 16 ^^^ tab.getD ((c ^^^ x) % 16) 0
def byte (c b : Nat) : Nat := nib (nib c (b % 16)) (b / 16)
def run (c : Nat) (bs : List UInt8) : Nat := bs.foldl (fun c b => byte c b.toNat) c
def sum (bs : List UInt8) : Nat := 4294967295 ^^^ run 4294967295 bs
def bit (c : Nat) : Nat := if c % 2 = 1 then c / 2 ^^^ P else c / 2
def bits : Nat → Nat → Nat
  | 0, c => c
  | k + 1, c => bit (bits k c)

theorem xor_half (a b : Nat) : (a ^^^ b) / 2 = a / 2 ^^^ b / 2 := by
  have h : ∀ n : Nat, n / 2 = n >>> 1 := fun n => by rw [Nat.shiftRight_succ]; rfl
  rw [h, h, h, Nat.shiftRight_xor_distrib]
theorem xor_sixteenth (a b : Nat) : (a ^^^ b) / 16 = a / 16 ^^^ b / 16 := by
  have h : ∀ n : Nat, n / 16 = n >>> 4 := fun n => by simp [Nat.shiftRight_eq_div_pow]
  rw [h, h, h, Nat.shiftRight_xor_distrib]
theorem xor_odd (a b : Nat) : (a ^^^ b) % 2 = (a + b) % 2 := by
  have h := Nat.testBit_xor a b 0
  simp only [Nat.testBit_zero] at h
  rcases Nat.mod_two_eq_zero_or_one a with ha | ha <;> rcases Nat.mod_two_eq_zero_or_one b with hb | hb <;> rcases Nat.mod_two_eq_zero_or_one (a ^^^ b) with hc | hc <;> simp [ha, hb, hc] at h <;> omega
theorem bit_xor (a b : Nat) : bit (a ^^^ b) = bit a ^^^ bit b := by
  unfold bit
  rw [xor_odd, xor_half]
  rcases Nat.mod_two_eq_zero_or_one a with ha | ha <;> rcases Nat.mod_two_eq_zero_or_one b with hb | hb
  · rw [if_neg (by omega), if_neg (by omega), if_neg (by omega)]
  · rw [if_pos (by omega), if_neg (by omega), if_pos (by omega), Nat.xor_assoc]
  · rw [if_pos (by omega), if_pos (by omega), if_neg (by omega), Nat.xor_assoc, Nat.xor_assoc, Nat.xor_comm P]
  · rw [if_neg (by omega), if_pos (by omega), if_pos (by omega), Nat.xor_assoc, Nat.xor_comm (b / 2), ← Nat.xor_assoc P, Nat.xor_self, Nat.zero_xor]
theorem bits_xor (k a b : Nat) : bits k (a ^^^ b) = bits k a ^^^ bits k b := by
  induction k with
  | zero => rfl
  | succ k ih => simp only [bits, ih, bit_xor]
theorem bits_add (j k c : Nat) : bits (j + k) c = bits j (bits k c) := by
  induction j with
  | zero => simp [bits]
  | succ j ih => rw [Nat.add_right_comm]; simp only [bits, ih]
theorem bit_even (a : Nat) : bit (2 * a) = a := by
  unfold bit
  rw [if_neg (by omega)]
  omega
theorem bits4_high (q : Nat) : bits 4 (16 * q) = q := by
  simp only [bits]
  rw [show 16 * q = 2 * (2 * (2 * (2 * q))) by omega, bit_even, bit_even, bit_even, bit_even]
theorem bits4_low : ∀ r, r < 16 → bits 4 r = tab.getD r 0 := by decide
theorem split_low (y : Nat) : y = 16 * (y / 16) ^^^ y % 16 := by
  have h := Nat.two_pow_add_eq_or_of_lt (i := 4) (b := y % 16) (by omega) (y / 16)
  have h0 : 16 * (y / 16) &&& y % 16 = 0 := by
    apply Nat.eq_of_testBit_eq
    intro i
    rw [Nat.testBit_and, Nat.zero_testBit]
    by_cases hi : i < 4
    · have : (16 * (y / 16)).testBit i = false := by
        have := Nat.testBit_two_pow_mul (i := 4) (a := y / 16) (j := i)
        simp at this
        rw [this]
        simp; omega
      rw [this]; rfl
    · have : (y % 16).testBit i = false := Nat.testBit_lt_two_pow (Nat.lt_of_lt_of_le (Nat.mod_lt y (show 0 < 16 by decide)) (show 2 ^ 4 ≤ 2 ^ i from Nat.pow_le_pow_right (by decide) (by omega : 4 ≤ i)))
      rw [this, Bool.and_false]
  apply Nat.eq_of_testBit_eq
  intro i
  have h1 : y = 16 * (y / 16) ||| y % 16 := by
    have e : y = 2 ^ 4 * (y / 16) + y % 16 := by omega
    rw [h] at e
    exact e
  have h2 : y.testBit i = ((16 * (y / 16)).testBit i || (y % 16).testBit i) := by
    rw [← Nat.testBit_or, ← h1]
  have h3 : ((16 * (y / 16)).testBit i && (y % 16).testBit i) = false := by
    rw [← Nat.testBit_and, h0, Nat.zero_testBit]
  rw [Nat.testBit_xor, h2]
  revert h3
  cases (16 * (y / 16)).testBit i <;> cases (y % 16).testBit i <;> simp
theorem nib_bits (c x : Nat) (hx : x < 16) : nib c x = bits 4 (c ^^^ x) := by
  have h := split_low (c ^^^ x)
  have h1 : (c ^^^ x) / 16 = c / 16 := by rw [xor_sixteenth, Nat.div_eq_of_lt hx, Nat.xor_zero]
  rw [h1] at h
  unfold nib
  conv => rhs; rw [h]
  rw [bits_xor, bits4_high, bits4_low _ (Nat.mod_lt _ (by decide))]
theorem byte_bits (c b : Nat) (hb : b < 256) : byte c b = bits 8 (c ^^^ b) := by
  unfold byte
  rw [nib_bits _ _ (Nat.mod_lt _ (by decide)), nib_bits _ _ (by omega), show (8 : Nat) = 4 + 4 from rfl, bits_add 4 4]
  have h := split_low b
  conv => rhs; rw [h]
  rw [Nat.xor_comm (16 * (b / 16)), ← Nat.xor_assoc, bits_xor 4 _ (16 * (b / 16)), bits4_high]
theorem bit_lt {c : Nat} (h : c < 4294967296) : bit c < 4294967296 := by
  unfold bit
  split
  · exact Nat.xor_lt_two_pow (n := 32) (by omega) (by decide)
  · omega
theorem bits_lt {c : Nat} (k : Nat) (h : c < 4294967296) : bits k c < 4294967296 := by
  induction k with
  | zero => exact h
  | succ k ih => exact bit_lt ih
theorem xor_lt {a b : Nat} (ha : a < 4294967296) (hb : b < 4294967296) : a ^^^ b < 4294967296 := Nat.xor_lt_two_pow (n := 32) ha hb
theorem nib_lt {c x : Nat} (h : c < 4294967296) (hx : x < 16) : nib c x < 4294967296 := by
  rw [nib_bits _ _ hx]
  exact bits_lt _ (xor_lt h (by omega))
theorem byte_lt {c b : Nat} (h : c < 4294967296) (hb : b < 256) : byte c b < 4294967296 :=
  nib_lt (nib_lt h (Nat.mod_lt _ (by decide))) (by omega)
theorem run_lt {c : Nat} (h : c < 4294967296) (bs : List UInt8) : run c bs < 4294967296 := by
  induction bs generalizing c with
  | nil => exact h
  | cons b bs ih => exact ih (byte_lt h b.toNat_lt)
theorem sum_lt (bs : List UInt8) : sum bs < 4294967296 := xor_lt (by decide) (run_lt (by decide) bs)
theorem run_append (c : Nat) (a b : List UInt8) : run c (a ++ b) = run (run c a) b := by simp [run]
theorem run_snoc (c : Nat) (a : List UInt8) (b : UInt8) : run c (a ++ [b]) = byte (run c a) b.toNat := by simp [run]
theorem run_cons (c : Nat) (b : UInt8) (bs : List UInt8) : run c (b :: bs) = run (byte c b.toNat) bs := rfl

/-! one turned bit -/
theorem bit_zero {y : Nat} (hy : y < 4294967296) (h : bit y = 0) : y = 0 := by
  unfold bit at h
  split at h
  · have h1 : y / 2 = P := by
      have := congrArg (· ^^^ P) h
      simp only [Nat.xor_assoc, Nat.xor_self, Nat.xor_zero, Nat.zero_xor] at this
      exact this
    unfold P at h1
    omega
  · omega
theorem bits_zero {y : Nat} (k : Nat) (hy : y < 4294967296) (h : bits k y = 0) : y = 0 := by
  induction k with
  | zero => exact h
  | succ k ih => exact ih (bit_zero (bits_lt k hy) h)
theorem xor_eq_zero {a b : Nat} (h : a ^^^ b = 0) : a = b := by
  have := congrArg (· ^^^ b) h
  simpa [Nat.xor_assoc] using this
theorem byte_inj {c d b e : Nat} (hc : c < 4294967296) (hd : d < 4294967296) (hb : b < 256) (he : e < 256) (h : byte c b = byte d e) : c ^^^ b = d ^^^ e := by
  rw [byte_bits _ _ hb, byte_bits _ _ he] at h
  have h1 : bits 8 ((c ^^^ b) ^^^ (d ^^^ e)) = 0 := by rw [bits_xor, h, Nat.xor_self]
  exact xor_eq_zero (bits_zero 8 (xor_lt (xor_lt hc (by omega)) (xor_lt hd (by omega))) h1)
theorem run_inj {c d : Nat} (hc : c < 4294967296) (hd : d < 4294967296) (bs : List UInt8) (h : run c bs = run d bs) : c = d := by
  induction bs generalizing c d with
  | nil => exact h
  | cons b bs ih =>
    have h1 := ih (byte_lt hc b.toNat_lt) (byte_lt hd b.toNat_lt) h
    have h2 := byte_inj hc hd b.toNat_lt b.toNat_lt h1
    have := congrArg (· ^^^ b.toNat) h2
    simpa [Nat.xor_assoc] using this
/-- One byte else: the sum is else. -/
theorem sum_ne {a b : List UInt8} {x y : UInt8} (hxy : x ≠ y) : sum (a ++ x :: b) ≠ sum (a ++ y :: b) := by
  intro h
  unfold sum at h
  have h1 : run 4294967295 (a ++ x :: b) = run 4294967295 (a ++ y :: b) := by
    have := congrArg (4294967295 ^^^ ·) h
    simpa [← Nat.xor_assoc] using this
  rw [run_append, run_append, run_cons, run_cons] at h1
  have hr := run_lt (c := 4294967295) (by decide) a
  have h2 := run_inj (byte_lt hr x.toNat_lt) (byte_lt hr y.toNat_lt) b h1
  have h3 := byte_inj hr hr x.toNat_lt y.toNat_lt h2
  have h4 : x.toNat = y.toNat := by
    have := congrArg (run 4294967295 a ^^^ ·) h3
    simpa [← Nat.xor_assoc] using this
  exact hxy (UInt8.toNat_inj.1 h4)
end Go.Proofs.YtekbhfpdakhhkaaGreatDoor.Crc
namespace Go.Proofs.YtekbhfpdakhhkaaGreatDoor.Fr
open Go.RowKit Go.Proofs.YtekbhfpdakhhkaaGreatDoor.Var

/-- A number's four bytes, the least first. -/
def le4 (s : Nat) : List UInt8 := [UInt8.ofNat (s % 256), UInt8.ofNat (s / 256 % 256), UInt8.ofNat (s / 65536 % 256), UInt8.ofNat (s / 16777216 % 256)]
def fr (bs : List UInt8) : List UInt8 := uv bs.length ++ le4 (Crc.sum bs) ++ bs
/-- The first frame: its inside, how long it is, the error. -/
def take (bs : List UInt8) : List UInt8 × Nat × Int :=
  if (rd bs).2.2 ≠ 0 then ([], 0, (rd bs).2.2)
  else if (rd bs).1 = 0 ∨ 65536 < (rd bs).1 then ([], 0, 11)
  else if bs.length < (rd bs).2.1 + 4 + (rd bs).1 then ([], 0, 10)
  else if le4 (Crc.sum ((bs.drop ((rd bs).2.1 + 4)).take (rd bs).1)) ≠ (bs.drop (rd bs).2.1).take 4 then ([], 0, 12)
  else ((bs.drop ((rd bs).2.1 + 4)).take (rd bs).1, (rd bs).2.1 + 4 + (rd bs).1, 0)
theorem le4_len (s : Nat) : (le4 s).length = 4 := rfl
theorem fr_len (bs : List UInt8) : (fr bs).length = (uv bs.length).length + 4 + bs.length := by simp [fr, le4_len]; omega
theorem le4_inj {s t : Nat} (hs : s < 4294967296) (ht : t < 4294967296) (h : le4 s = le4 t) : s = t := by
  simp only [le4, List.cons.injEq, and_true] at h
  obtain ⟨h1, h2, h3, h4⟩ := h
  have e := fun (a b : Nat) (h : UInt8.ofNat (a % 256) = UInt8.ofNat (b % 256)) => by
    have := congrArg UInt8.toNat h
    rw [ofNat8 (Nat.mod_lt _ (by decide)), ofNat8 (Nat.mod_lt _ (by decide))] at this
    exact this
  have e1 := e _ _ h1
  have e2 := e _ _ h2
  have e3 := e _ _ h3
  have e4 := e _ _ h4
  omega
/-- What was framed is told, whatever is behind it. -/
theorem take_fr {bs : List UInt8} (h1 : bs ≠ []) (h2 : bs.length ≤ 65536) (r : List UInt8) : take (fr bs ++ r) = (bs, (fr bs).length, 0) := by
  have hpos := List.length_pos_iff.2 h1
  have hrd : rd (fr bs ++ r) = (bs.length, (uv bs.length).length, 0) := by
    unfold fr
    rw [List.append_assoc, List.append_assoc]
    exact rd_uv (by omega) _
  have e1 : (fr bs ++ r).drop (uv bs.length).length = le4 (Crc.sum bs) ++ (bs ++ r) := by simp [fr]
  have e2 : (fr bs ++ r).drop ((uv bs.length).length + 4) = bs ++ r := by
    rw [← List.drop_drop, e1]
    rfl
  unfold take
  rw [hrd]
  simp only [ne_eq, not_true_eq_false, if_false]
  rw [if_neg (by omega), if_neg (by simp [fr_len]), e1, e2, List.take_left, if_neg (by simp; rfl), fr_len]
theorem take_ok {bs x : List UInt8} {n : Nat} (h : take bs = (x, n, 0)) : n ≤ bs.length ∧ x ≠ [] ∧ x.length ≤ 65536 ∧ bs.take n = fr x ∧ n = (fr x).length := by
  unfold take at h
  split at h
  · rename_i h0
    simp only [Prod.mk.injEq] at h
    exact absurd h.2.2 h0
  · rename_i h0
    simp only [ne_eq, Decidable.not_not] at h0
    split at h
    · simp at h
    · rename_i h1
      split at h
      · simp at h
      · rename_i h2
        split at h
        · simp at h
        · rename_i h3
          simp only [ne_eq, Decidable.not_not] at h3
          obtain ⟨hk1, hk2, hk3, hk4, hk5⟩ := rd_ok (bs := bs) (n := (rd bs).1) (k := (rd bs).2.1) (e := (rd bs).2.2) rfl h0
          generalize (rd bs).1 = m at *
          generalize (rd bs).2.1 = k at *
          simp only [Prod.mk.injEq, and_true] at h
          obtain ⟨rfl, rfl⟩ := h
          have hl : ((bs.drop (k + 4)).take m).length = m := by simp; omega
          have hfl : (fr ((bs.drop (k + 4)).take m)).length = k + 4 + m := by rw [fr_len, hl, hk4, List.length_take]; omega
          refine ⟨by omega, ?_, by omega, ?_, hfl.symm⟩
          · intro h; rw [h] at hl; simp at hl; omega
          · unfold fr
            rw [hl, hk4, h3]
            have e1 : bs.take (k + 4 + m) = bs.take k ++ ((bs.drop k).take (4 + m)) := by rw [Nat.add_assoc, List.take_add]
            have e2 : (bs.drop k).take (4 + m) = (bs.drop k).take 4 ++ ((bs.drop k).drop 4).take m := by rw [List.take_add]
            rw [e1, e2, List.drop_drop, List.append_assoc]
theorem take_fail {bs : List UInt8} (h : (take bs).2.2 ≠ 0) : (take bs).1 = [] ∧ (take bs).2.1 = 0 := by
  unfold take at h ⊢
  split
  · exact ⟨rfl, rfl⟩
  · rename_i h0
    rw [if_neg h0] at h
    split
    · exact ⟨rfl, rfl⟩
    · rename_i h1
      rw [if_neg h1] at h
      split
      · exact ⟨rfl, rfl⟩
      · rename_i h2
        rw [if_neg h2] at h
        split
        · exact ⟨rfl, rfl⟩
        · rename_i h3
          rw [if_neg h3] at h
          exact absurd rfl h
/-- All frames at the beginning: their insides, how far, the error. -/
def allF : Nat → List UInt8 → List (List UInt8) × Nat × Int
  | 0, _ => ([], 0, 0)
  | f + 1, bs =>
    if bs = [] then ([], 0, 0)
    else if (take bs).2.2 ≠ 0 then ([], 0, (take bs).2.2)
    else ((take bs).1 :: (allF f (bs.drop (take bs).2.1)).1, (take bs).2.1 + (allF f (bs.drop (take bs).2.1)).2.1, (allF f (bs.drop (take bs).2.1)).2.2)
def all (bs : List UInt8) : List (List UInt8) × Nat × Int := allF bs.length bs
theorem take_len {bs : List UInt8} (h : (take bs).2.2 = 0) : 0 < (take bs).2.1 ∧ (take bs).2.1 ≤ bs.length := by
  obtain ⟨h1, h2, h3, h4, h5⟩ := take_ok (bs := bs) (x := (take bs).1) (n := (take bs).2.1) (by rw [← h])
  rw [fr_len] at h5
  have := List.length_pos_iff.2 h2
  omega
theorem allF_more {f g : Nat} {bs : List UInt8} (hf : bs.length ≤ f) (hg : bs.length ≤ g) : allF f bs = allF g bs := by
  induction f generalizing g bs with
  | zero =>
    have : bs = [] := List.length_eq_zero_iff.1 (by omega)
    subst this
    cases g <;> simp [allF]
  | succ f ih =>
    cases g with
    | zero =>
      have : bs = [] := List.length_eq_zero_iff.1 (by omega)
      subst this
      simp [allF]
    | succ g =>
      unfold allF
      split
      · rfl
      · split
        · rfl
        · rename_i h1 h2
          simp only [ne_eq, Decidable.not_not] at h2
          have := take_len h2
          rw [ih (g := g) (by simp; omega) (by simp; omega)]
theorem all_nil : all [] = ([], 0, 0) := rfl
theorem all_err {bs : List UInt8} (h0 : bs ≠ []) (h : (take bs).2.2 ≠ 0) : all bs = ([], 0, (take bs).2.2) := by
  obtain ⟨f, hf⟩ : ∃ f, bs.length = f + 1 := ⟨bs.length - 1, by have := List.length_pos_iff.2 h0; omega⟩
  unfold all
  rw [hf, allF, if_neg h0, if_pos h]
theorem all_ok {bs : List UInt8} (h0 : bs ≠ []) (h : (take bs).2.2 = 0) :
    all bs = ((take bs).1 :: (all (bs.drop (take bs).2.1)).1, (take bs).2.1 + (all (bs.drop (take bs).2.1)).2.1, (all (bs.drop (take bs).2.1)).2.2) := by
  obtain ⟨f, hf⟩ : ∃ f, bs.length = f + 1 := ⟨bs.length - 1, by have := List.length_pos_iff.2 h0; omega⟩
  have hl := take_len h
  have e : all (bs.drop (take bs).2.1) = allF f (bs.drop (take bs).2.1) := allF_more (Nat.le_refl _) (by simp; omega)
  rw [e]
  unfold all
  rw [hf, allF, if_neg h0, if_neg (by simpa using h)]
end Go.Proofs.YtekbhfpdakhhkaaGreatDoor.Fr
namespace Go.Proofs.YtekbhfpdakhhkaaGreatDoor.Fr
open Go.RowKit Go.Proofs.YtekbhfpdakhhkaaGreatDoor.Var

/-- What may be framed. -/
def Fit (x : List UInt8) : Prop := x ≠ [] ∧ x.length ≤ 65536
def frs (l : List (List UInt8)) : List UInt8 := l.flatMap fr
theorem frs_nil : frs [] = [] := rfl
theorem frs_cons (x : List UInt8) (l : List (List UInt8)) : frs (x :: l) = fr x ++ frs l := rfl
theorem frs_append (a b : List (List UInt8)) : frs (a ++ b) = frs a ++ frs b := by simp [frs]
theorem fr_pos (x : List UInt8) : 0 < (fr x).length := by rw [fr_len]; omega
theorem all_fr {x : List UInt8} (h : Fit x) (r : List UInt8) : all (fr x ++ r) = (x :: (all r).1, (fr x).length + (all r).2.1, (all r).2.2) := by
  have ht := take_fr h.1 h.2 r
  have hne : fr x ++ r ≠ [] := fun e => by have h1 := congrArg List.length e; have h2 := fr_pos x; rw [List.length_append] at h1; simp only [List.length_nil] at h1; omega
  rw [all_ok hne (by rw [ht]), ht]
  simp only [List.drop_left]
theorem all_frs {l : List (List UInt8)} (h : ∀ x ∈ l, Fit x) (r : List UInt8) : all (frs l ++ r) = (l ++ (all r).1, (frs l).length + (all r).2.1, (all r).2.2) := by
  induction l with
  | nil => simp [frs_nil]
  | cons x l ih =>
    rw [frs_cons, List.append_assoc, all_fr (h x (by simp)), ih (fun y hy => h y (by simp [hy]))]
    simp [Nat.add_assoc]
/-- A frame that is cut ends too soon. -/
theorem take_cut {x : List UInt8} (h : Fit x) {k : Nat} (hk : k < (fr x).length) : (take ((fr x).take k)).2.2 = 10 := by
  have hn : x.length < 18446744073709551616 := by have := h.2; omega
  have hx := List.length_pos_iff.2 h.1
  have hul := uv_len10 hn
  have hup := uv_len_pos x.length
  have hle := uv_lead x.length []
  rw [List.append_nil] at hle
  rw [fr_len] at hk
  by_cases hs : k < (uv x.length).length
  · have e1 : (fr x).take k = (uv x.length).take k := by
      unfold fr
      rw [List.append_assoc, List.take_append_of_le_length (by omega)]
    have hl : ((uv x.length).take k).length = k := by rw [List.length_take]; omega
    have e2 : lead ((uv x.length).take k) = k := by
      refine lead_eq (fun i hi => ?_) (by omega) (fun h => by omega)
      have := lead_hi (bs := uv x.length) (i := i) (by omega)
      simpa [List.getD_eq_getElem?_getD, hi] using this
    have hrd : rd ((uv x.length).take k) = (0, 0, 10) := by
      unfold rd
      rw [e2, if_neg (by omega), if_pos (by omega)]
    unfold take
    rw [e1, hrd]
    simp
  · have e1 : (fr x).take k = uv x.length ++ (le4 (Crc.sum x) ++ x).take (k - (uv x.length).length) := by
      unfold fr
      rw [List.append_assoc, List.take_append, List.take_of_length_le (by omega)]
    have hrd : rd ((fr x).take k) = (x.length, (uv x.length).length, 0) := by rw [e1]; exact rd_uv hn _
    have hl : ((fr x).take k).length = k := by rw [List.length_take, fr_len]; omega
    unfold take
    rw [hrd]
    simp only [ne_eq, not_true_eq_false, if_false]
    rw [if_neg (by have := h.2; omega), if_pos (by omega)]
theorem all_cut {x : List UInt8} (h : Fit x) {k : Nat} (h0 : 0 < k) (hk : k < (fr x).length) : all ((fr x).take k) = ([], 0, 10) := by
  have hc := take_cut h hk
  have hne : (fr x).take k ≠ [] := fun e => by have h1 := congrArg List.length e; rw [List.length_take] at h1; simp only [List.length_nil] at h1; omega
  rw [all_err hne (by rw [hc]; decide), hc]
/-- Where the frames end. -/
def ends (l : List (List UInt8)) (k : Nat) : Nat := (frs (l.take k)).length
theorem ends_zero (l : List (List UInt8)) : ends l 0 = 0 := by simp [ends, frs_nil]
theorem ends_succ {l : List (List UInt8)} {k : Nat} (h : k < l.length) : ends l (k + 1) = ends l k + (fr (l.getD k [])).length := by
  unfold ends
  rw [List.take_succ_eq_append_getElem h, frs_append, List.length_append, List.getD_eq_getElem?_getD, List.getElem?_eq_getElem h]
  simp [frs]
theorem ends_all (l : List (List UInt8)) : ends l l.length = (frs l).length := by simp [ends]
theorem ends_mono {l : List (List UInt8)} {i j : Nat} (h : i ≤ j) (hj : j ≤ l.length) : ends l i ≤ ends l j := by
  induction j with
  | zero => rw [show i = 0 by omega]; exact Nat.le_refl _
  | succ j ih =>
    rcases Nat.lt_or_ge i (j + 1) with h1 | h1
    · rw [ends_succ (by omega)]
      exact Nat.le_trans (ih (by omega) (by omega)) (by omega)
    · rw [show i = j + 1 by omega]; exact Nat.le_refl _
/-- All of a row of frames that is cut at n, k of them whole. -/
theorem all_cut_row {l : List (List UInt8)} (h : ∀ x ∈ l, Fit x) {n k : Nat} (hk : k ≤ l.length) (h1 : ends l k ≤ n) (h2 : k < l.length → n < ends l (k + 1)) (hn : n ≤ (frs l).length) :
    all ((frs l).take n) = (l.take k, ends l k, if n = ends l k then 0 else 10) := by
  have hsp : l = l.take k ++ l.drop k := (List.take_append_drop k l).symm
  have e1 : (frs l).take n = frs (l.take k) ++ (frs (l.drop k)).take (n - ends l k) := by
    conv => lhs; rw [hsp, frs_append, List.take_append, List.take_of_length_le (by exact h1)]
    rfl
  rw [e1, all_frs (fun x hx => h x (List.mem_of_mem_take hx))]
  by_cases he : n = ends l k
  · rw [if_pos he, he, Nat.sub_self, List.take_zero, all_nil]
    simp [ends]
  · rw [if_neg he]
    have hkl : k < l.length := by
      rcases Nat.lt_or_ge k l.length with h3 | h3
      · exact h3
      · have : k = l.length := by omega
        rw [this, ends_all] at h1 he
        omega
    have h3 := h2 hkl
    rw [ends_succ hkl] at h3
    have hg : l.getD k [] = l[k] := by rw [List.getD_eq_getElem?_getD, List.getElem?_eq_getElem hkl]; rfl
    have e2 : (frs (l.drop k)).take (n - ends l k) = (fr l[k]).take (n - ends l k) := by
      rw [List.drop_eq_getElem_cons hkl, frs_cons, List.take_append_of_le_length (by rw [hg] at h3; omega)]
    rw [e2, all_cut (h _ (List.getElem_mem hkl)) (by omega) (by rw [hg] at h3; omega)]
    simp [ends]
theorem flip_ne {b : UInt8} {s : Nat} (hs : s < 8) : b ^^^ (1 <<< UInt8.ofNat s) ≠ b := by
  intro h
  have h1 : (1 : UInt8) <<< UInt8.ofNat s = 0 := by
    have := congrArg (b ^^^ ·) h
    simpa [← UInt8.xor_assoc] using this
  have : ∀ s, s < 8 → (1 : UInt8) <<< UInt8.ofNat s ≠ 0 := by decide
  exact this s hs h1
/-- A byte of the sum, or of the inside, that is else: the sum does not fit. -/
theorem take_flip {x : List UInt8} (h : Fit x) (r : List UInt8) {j : Nat} (hj : j < 4 + x.length) {y : UInt8} (hy : y ≠ (le4 (Crc.sum x) ++ x).getD j 0) :
    (take (uv x.length ++ (le4 (Crc.sum x) ++ x).set j y ++ r)).2.2 = 12 := by
  have hn : x.length < 18446744073709551616 := by have := h.2; omega
  have hx := List.length_pos_iff.2 h.1
  have hrd : rd (uv x.length ++ (le4 (Crc.sum x) ++ x).set j y ++ r) = (x.length, (uv x.length).length, 0) := by
    rw [List.append_assoc]; exact rd_uv hn _
  have hsl : ((le4 (Crc.sum x) ++ x).set j y).length = 4 + x.length := by rw [List.length_set, List.length_append]; rfl
  unfold take
  rw [hrd]
  simp only [ne_eq, not_true_eq_false, if_false]
  rw [if_neg (by have := h.2; omega), if_neg (by simp only [List.length_append, hsl]; omega)]
  have e1 : (uv x.length ++ (le4 (Crc.sum x) ++ x).set j y ++ r).drop (uv x.length).length = (le4 (Crc.sum x) ++ x).set j y ++ r := by
    rw [List.append_assoc, List.drop_left]
  have e2 : (uv x.length ++ (le4 (Crc.sum x) ++ x).set j y ++ r).drop ((uv x.length).length + 4) = ((le4 (Crc.sum x) ++ x).set j y).drop 4 ++ r := by
    rw [← List.drop_drop, e1, List.drop_append_of_le_length (by omega)]
  have f4 : (((le4 (Crc.sum x) ++ x).set j y).drop 4 ++ r).take x.length = ((le4 (Crc.sum x) ++ x).set j y).drop 4 := by
    rw [List.take_append_of_le_length (by rw [List.length_drop]; omega), List.take_of_length_le (by rw [List.length_drop]; omega)]
  have t4 : ((le4 (Crc.sum x) ++ x).set j y ++ r).take 4 = ((le4 (Crc.sum x) ++ x).set j y).take 4 := List.take_append_of_le_length (by omega)
  rw [e1, e2, f4, t4]
  rw [if_pos]
  by_cases h4 : j < 4
  · rw [List.set_append_left _ _ (by rw [le4_len]; exact h4)]
    have hl : ((le4 (Crc.sum x)).set j y).length = 4 := by rw [List.length_set]; rfl
    rw [List.drop_left' hl, List.take_left' hl]
    intro e
    have h5 := congrArg (fun l => l.getD j 0) e
    simp only [List.getD_eq_getElem?_getD] at h5 hy
    rw [List.getElem?_set_self (by rw [le4_len]; exact h4)] at h5
    rw [List.getElem?_append_left (by rw [le4_len]; exact h4)] at hy
    exact hy (by simpa using h5.symm)
  · rw [List.set_append_right _ _ (by rw [le4_len]; omega)]
    rw [List.drop_left' (le4_len _), List.take_left' (le4_len _)]
    have hjx : j - 4 < x.length := by omega
    intro e
    have hs := le4_inj (Crc.sum_lt _) (Crc.sum_lt _) e
    rw [le4_len] at hs
    have e3 : x = x.take (j - 4) ++ x.getD (j - 4) 0 :: x.drop (j - 4 + 1) := by
      rw [List.getD_eq_getElem?_getD, List.getElem?_eq_getElem hjx]
      simp
    have e4 : x.set (j - 4) y = x.take (j - 4) ++ y :: x.drop (j - 4 + 1) := List.set_eq_take_append_cons_drop.trans (by rw [if_pos hjx])
    have hy2 : y ≠ x.getD (j - 4) 0 := by
      intro h6
      apply hy
      rw [h6]
      simp only [List.getD_eq_getElem?_getD]
      rw [List.getElem?_append_right (by rw [le4_len]; omega), le4_len]
    rw [e4] at hs
    conv at hs => rhs; rw [e3]
    exact Crc.sum_ne hy2 hs
/-- A byte of frame i's sum or inside is turned: those ahead are told, and the sum does not fit. -/
theorem all_flip {l : List (List UInt8)} (h : ∀ x ∈ l, Fit x) {i j : Nat} (hi : i < l.length) (hj : j < 4 + (l.getD i []).length) {y : UInt8} {p : Nat} (hp : p + (l.getD i []).length + 4 = ends l (i + 1) + j) (hy : y ≠ (frs l).getD p 0) :
    all ((frs l).set p y) = (l.take i, ends l i, 12) := by
  have hg : l.getD i [] = l[i] := by rw [List.getD_eq_getElem?_getD, List.getElem?_eq_getElem hi]; rfl
  have hf : Fit l[i] := h _ (List.getElem_mem hi)
  have he := ends_succ hi
  rw [hg] at hj hp he
  rw [fr_len] at he
  have hsp : l = l.take i ++ l[i] :: l.drop (i + 1) := by simp
  have e1 : frs l = frs (l.take i) ++ (uv l[i].length ++ ((le4 (Crc.sum l[i]) ++ l[i]) ++ frs (l.drop (i + 1)))) := by
    conv => lhs; rw [hsp]
    rw [frs_append, frs_cons]
    unfold fr
    simp only [List.append_assoc]
  have hl1 : (frs (l.take i)).length = ends l i := rfl
  have hp2 : p = ends l i + ((uv l[i].length).length + j) := by omega
  have hsl : (le4 (Crc.sum l[i]) ++ l[i]).length = 4 + l[i].length := by rw [List.length_append]; rfl
  have e2 : (frs l).set p y = frs (l.take i) ++ (uv l[i].length ++ (le4 (Crc.sum l[i]) ++ l[i]).set j y ++ frs (l.drop (i + 1))) := by
    rw [e1, List.set_append_right _ _ (by omega), hl1, hp2, Nat.add_sub_cancel_left, List.set_append_right _ _ (by omega), Nat.add_sub_cancel_left, List.set_append_left _ _ (by omega), List.append_assoc]
  have hy2 : y ≠ (le4 (Crc.sum l[i]) ++ l[i]).getD j 0 := by
    intro h6
    apply hy
    have e3 : ∀ S R : List UInt8, j < S.length → (frs (l.take i) ++ (uv l[i].length ++ (S ++ R))).getD p 0 = S.getD j 0 := fun S R hS => by
      simp only [List.getD_eq_getElem?_getD]
      rw [List.getElem?_append_right (by omega), hl1, hp2, Nat.add_sub_cancel_left, List.getElem?_append_right (by omega), Nat.add_sub_cancel_left, List.getElem?_append_left hS]
    rw [h6, e1, e3 _ _ (by omega)]
  have ht := take_flip hf (frs (l.drop (i + 1))) hj hy2
  rw [e2, all_frs (fun x hx => h x (List.mem_of_mem_take hx))]
  have hne : uv l[i].length ++ (le4 (Crc.sum l[i]) ++ l[i]).set j y ++ frs (l.drop (i + 1)) ≠ [] := fun e => by
    have h1 := congrArg List.length e
    have h2 := uv_len_pos l[i].length
    simp only [List.length_append, List.length_nil] at h1
    omega
  rw [all_err hne (by rw [ht]; decide), ht]
  simp [ends]
theorem frs_len {l : List (List UInt8)} {b : Nat} (h : ∀ x ∈ l, x.length ≤ b) (hb : b < 18446744073709551616) : (frs l).length ≤ l.length * (14 + b) := by
  induction l with
  | nil => simp [frs_nil]
  | cons x l ih =>
    have h1 := h x (by simp)
    have h2 := uv_len10 (n := x.length) (by omega)
    have h3 := ih (fun y hy => h y (by simp [hy]))
    rw [frs_cons, List.length_append, fr_len, List.length_cons, Nat.add_mul]
    omega
end Go.Proofs.YtekbhfpdakhhkaaGreatDoor.Fr
