/- The checksum as plain data: by half bytes and a table, and bit by bit: the same. One turned bit changes it. No program here. -/
import Derived.Test.YtmgdhloehkdffaaDoorBase
namespace Go.Proofs.YtmgdhloehkdffaaDoor.Crc
open Go.RowKit

def P : Nat := 2197175160
def tab : List Nat := [0, 274646895, 549293790, 820201905, 1098587580, 1361435347, 1640403810, 1905808397, 2197175160, 2460548119, 2722870694, 2987750089, 3280807620, 3553878443, 3811616794, 4084100981]
def nib (c x : Nat) : Nat := c / 16 ^^^ tab.getD ((c ^^^ x) % 16) 0
def byte (c b : Nat) : Nat := nib (nib c (b % 16)) (b / 16)
def run (c : Nat) (bs : List UInt8) : Nat := bs.foldl (fun c b => byte c b.toNat) c
def sum (bs : List UInt8) : Nat := 4294967295 ^^^ run 4294967295 bs
def bit (c : Nat) : Nat := if c % 2 = 1 then c / 2 ^^^ P else c / 2
def bits : Nat → Nat → Nat
  | 0, c => c
  | k + 1, c => bit (bits k c)

theorem xor_half (a b : Nat) : (a ^^^ b) / 2 = a / 2 ^^^ b / 2 := by
  have h : ∀ n : Nat, n / 2 = n >>> 1 := fun n => by rw [Nat.shiftRight_succ]; rfl
  rw [h, h, h, Nat.shiftRight_xor_distrib]
theorem xor_sixteenth (a b : Nat) : (a ^^^ b) / 16 = a / 16 ^^^ b / 16 := by
  have h : ∀ n : Nat, n / 16 = n >>> 4 := fun n => by simp [Nat.shiftRight_eq_div_pow]
  rw [h, h, h, Nat.shiftRight_xor_distrib]
theorem xor_odd (a b : Nat) : (a ^^^ b) % 2 = (a + b) % 2 := by
  have h := Nat.testBit_xor a b 0
  simp only [Nat.testBit_zero] at h
  rcases Nat.mod_two_eq_zero_or_one a with ha | ha <;> rcases Nat.mod_two_eq_zero_or_one b with hb | hb <;> rcases Nat.mod_two_eq_zero_or_one (a ^^^ b) with hc | hc <;> simp [ha, hb, hc] at h <;> omega
theorem bit_xor (a b : Nat) : bit (a ^^^ b) = bit a ^^^ bit b := by
  unfold bit
  rw [xor_odd, xor_half]
  rcases Nat.mod_two_eq_zero_or_one a with ha | ha <;> rcases Nat.mod_two_eq_zero_or_one b with hb | hb
  · rw [if_neg (by omega), if_neg (by omega), if_neg (by omega)]
  · rw [if_pos (by omega), if_neg (by omega), if_pos (by omega), Nat.xor_assoc]
  · rw [if_pos (by omega), if_pos (by omega), if_neg (by omega), Nat.xor_assoc, Nat.xor_assoc, Nat.xor_comm P]
  · rw [if_neg (by omega), if_pos (by omega), if_pos (by omega), Nat.xor_assoc, Nat.xor_comm (b / 2), ← Nat.xor_assoc P, Nat.xor_self, Nat.zero_xor]
theorem bits_xor (k a b : Nat) : bits k (a ^^^ b) = bits k a ^^^ bits k b := by
  induction k with
  | zero => rfl
  | succ k ih => simp only [bits, ih, bit_xor]
theorem bits_add (j k c : Nat) : bits (j + k) c = bits j (bits k c) := by
  induction j with
  | zero => simp [bits]
  | succ j ih => rw [Nat.add_right_comm]; simp only [bits, ih]
theorem bit_even (a : Nat) : bit (2 * a) = a := by
  unfold bit
  rw [if_neg (by omega)]
  omega
theorem bits4_high (q : Nat) : bits 4 (16 * q) = q := by
  simp only [bits]
  rw [show 16 * q = 2 * (2 * (2 * (2 * q))) by omega, bit_even, bit_even, bit_even, bit_even]
theorem bits4_low : ∀ r, r < 16 → bits 4 r = tab.getD r 0 := by decide
theorem split_low (y : Nat) : y = 16 * (y / 16) ^^^ y % 16 := by
  have h := Nat.two_pow_add_eq_or_of_lt (i := 4) (b := y % 16) (by omega) (y / 16)
  have h0 : 16 * (y / 16) &&& y % 16 = 0 := by
    apply Nat.eq_of_testBit_eq
    intro i
    rw [Nat.testBit_and, Nat.zero_testBit]
    by_cases hi : i < 4
    · have : (16 * (y / 16)).testBit i = false := by
        have := Nat.testBit_two_pow_mul (i := 4) (a := y / 16) (j := i)
        simp at this
        rw [this]
        simp; omega
      rw [this]; rfl
    · have : (y % 16).testBit i = false := Nat.testBit_lt_two_pow (Nat.lt_of_lt_of_le (Nat.mod_lt y (show 0 < 16 by decide)) (show 2 ^ 4 ≤ 2 ^ i from Nat.pow_le_pow_right (by decide) (by omega : 4 ≤ i)))
      rw [this, Bool.and_false]
  apply Nat.eq_of_testBit_eq
  intro i
  have h1 : y = 16 * (y / 16) ||| y % 16 := by
    have e : y = 2 ^ 4 * (y / 16) + y % 16 := by omega
    rw [h] at e
    exact e
  have h2 : y.testBit i = ((16 * (y / 16)).testBit i || (y % 16).testBit i) := by
    rw [← Nat.testBit_or, ← h1]
  have h3 : ((16 * (y / 16)).testBit i && (y % 16).testBit i) = false := by
    rw [← Nat.testBit_and, h0, Nat.zero_testBit]
  rw [Nat.testBit_xor, h2]
  revert h3
  cases (16 * (y / 16)).testBit i <;> cases (y % 16).testBit i <;> simp
theorem nib_bits (c x : Nat) (hx : x < 16) : nib c x = bits 4 (c ^^^ x) := by
  have h := split_low (c ^^^ x)
  have h1 : (c ^^^ x) / 16 = c / 16 := by rw [xor_sixteenth, Nat.div_eq_of_lt hx, Nat.xor_zero]
  rw [h1] at h
  unfold nib
  conv => rhs; rw [h]
  rw [bits_xor, bits4_high, bits4_low _ (Nat.mod_lt _ (by decide))]
theorem byte_bits (c b : Nat) (hb : b < 256) : byte c b = bits 8 (c ^^^ b) := by
  unfold byte
  rw [nib_bits _ _ (Nat.mod_lt _ (by decide)), nib_bits _ _ (by omega), show (8 : Nat) = 4 + 4 from rfl, bits_add 4 4]
  have h := split_low b
  conv => rhs; rw [h]
  rw [Nat.xor_comm (16 * (b / 16)), ← Nat.xor_assoc, bits_xor 4 _ (16 * (b / 16)), bits4_high]
theorem bit_lt {c : Nat} (h : c < 4294967296) : bit c < 4294967296 := by
  unfold bit
  split
  · exact Nat.xor_lt_two_pow (n := 32) (by omega) (by decide)
  · omega
theorem bits_lt {c : Nat} (k : Nat) (h : c < 4294967296) : bits k c < 4294967296 := by
  induction k with
  | zero => exact h
  | succ k ih => exact bit_lt ih
theorem xor_lt {a b : Nat} (ha : a < 4294967296) (hb : b < 4294967296) : a ^^^ b < 4294967296 := Nat.xor_lt_two_pow (n := 32) ha hb
theorem nib_lt {c x : Nat} (h : c < 4294967296) (hx : x < 16) : nib c x < 4294967296 := by
  rw [nib_bits _ _ hx]
  exact bits_lt _ (xor_lt h (by omega))
theorem byte_lt {c b : Nat} (h : c < 4294967296) (hb : b < 256) : byte c b < 4294967296 :=
  nib_lt (nib_lt h (Nat.mod_lt _ (by decide))) (by omega)
theorem run_lt {c : Nat} (h : c < 4294967296) (bs : List UInt8) : run c bs < 4294967296 := by
  induction bs generalizing c with
  | nil => exact h
  | cons b bs ih => exact ih (byte_lt h b.toNat_lt)
theorem sum_lt (bs : List UInt8) : sum bs < 4294967296 := xor_lt (by decide) (run_lt (by decide) bs)
theorem run_append (c : Nat) (a b : List UInt8) : run c (a ++ b) = run (run c a) b := by simp [run]
theorem run_snoc (c : Nat) (a : List UInt8) (b : UInt8) : run c (a ++ [b]) = byte (run c a) b.toNat := by simp [run]
theorem run_cons (c : Nat) (b : UInt8) (bs : List UInt8) : run c (b :: bs) = run (byte c b.toNat) bs := rfl

/-! one turned bit -/
theorem bit_zero {y : Nat} (hy : y < 4294967296) (h : bit y = 0) : y = 0 := by
  unfold bit at h
  split at h
  · have h1 : y / 2 = P := by
      have := congrArg (· ^^^ P) h
      simp only [Nat.xor_assoc, Nat.xor_self, Nat.xor_zero, Nat.zero_xor] at this
      exact this
    unfold P at h1
    omega
  · omega
theorem bits_zero {y : Nat} (k : Nat) (hy : y < 4294967296) (h : bits k y = 0) : y = 0 := by
  induction k with
  | zero => exact h
  | succ k ih => exact ih (bit_zero (bits_lt k hy) h)
theorem xor_eq_zero {a b : Nat} (h : a ^^^ b = 0) : a = b := by
  have := congrArg (· ^^^ b) h
  simpa [Nat.xor_assoc] using this
theorem byte_inj {c d b e : Nat} (hc : c < 4294967296) (hd : d < 4294967296) (hb : b < 256) (he : e < 256) (h : byte c b = byte d e) : c ^^^ b = d ^^^ e := by
  rw [byte_bits _ _ hb, byte_bits _ _ he] at h
  have h1 : bits 8 ((c ^^^ b) ^^^ (d ^^^ e)) = 0 := by rw [bits_xor, h, Nat.xor_self]
  exact xor_eq_zero (bits_zero 8 (xor_lt (xor_lt hc (by omega)) (xor_lt hd (by omega))) h1)
theorem run_inj {c d : Nat} (hc : c < 4294967296) (hd : d < 4294967296) (bs : List UInt8) (h : run c bs = run d bs) : c = d := by
  induction bs generalizing c d with
  | nil => exact h
  | cons b bs ih =>
    have h1 := ih (byte_lt hc b.toNat_lt) (byte_lt hd b.toNat_lt) h
    have h2 := byte_inj hc hd b.toNat_lt b.toNat_lt h1
    have := congrArg (· ^^^ b.toNat) h2
    simpa [Nat.xor_assoc] using this
/-- One byte else: the sum is else. -/
theorem sum_ne {a b : List UInt8} {x y : UInt8} (hxy : x ≠ y) : sum (a ++ x :: b) ≠ sum (a ++ y :: b) := by
  intro h
  unfold sum at h
  have h1 : run 4294967295 (a ++ x :: b) = run 4294967295 (a ++ y :: b) := by
    have := congrArg (4294967295 ^^^ ·) h
    simpa [← Nat.xor_assoc] using this
  rw [run_append, run_append, run_cons, run_cons] at h1
  have hr := run_lt (c := 4294967295) (by decide) a
  have h2 := run_inj (byte_lt hr x.toNat_lt) (byte_lt hr y.toNat_lt) b h1
  have h3 := byte_inj hr hr x.toNat_lt y.toNat_lt h2
  have h4 : x.toNat = y.toNat := by
    have := congrArg (run 4294967295 a ^^^ ·) h3
    simpa [← Nat.xor_assoc] using this
  exact hxy (UInt8.toNat_inj.1 h4)
end Go.Proofs.YtmgdhloehkdffaaDoor.Crc
