/- The document's checksum, bit by bit, is the table's. -/
import Derived.Test.YtmgdhloehkdffaaDoorCrcW
namespace Go.Proofs.YtmgdhloehkdffaaDoor.Crc
open Go.RowKit

set_option maxHeartbeats 1000000 in
theorem ref_any {xo : Option Addr} {m cp : Nat} {bs : List UInt8} (w : World) (hs : SrcAt w xo m cp (bs.map u8v) 1) (hm : m ≤ maxLen) :
    Calls Tryd.prog 38 #[.slice xo m cp] w fun e w' => e = .returned (.int .u32 (sum bs : Nat)) ∧ w = w' := by
  have hlen : bs.length = m := by have := hs.len; simpa using this
  have HL := hide hlen
  have HS := hide hs
  unfold maxLen at hm
  clear hlen hs
  go_enter Tryd.func38, Tryd.ntmps38
  go_wp2_with fail
  go_loop [3, 4] (fun sc i => ∃ k : Nat, k ≤ m ∧ i = .int .i64 k ∧ sc = .int .u32 (run 4294967295 (bs.take k) : Nat)) (fun _ i => m - (intOf i).toNat)
  case atStart => exact ⟨0, by omega, rfl, rfl⟩
  case round =>
    obtain ⟨k, hk, rfl, rfl⟩ := hrel
    have hc1 : run 4294967295 (bs.take k) < 4294967296 := run_lt (by decide) _
    generalize hr : run 4294967295 (bs.take k) = c at *
    have HR := hide hr
    clear hr
    by_cases hlt : k < m
    · obtain ⟨b, off, rfl, hcell⟩ := src_at HS.out hlt
      generalize hx : bs.getD k 0 = x at *
      have HX := hide hx
      have hxl := x.toNat_lt
      have e2 : Go.bits .xor .u32 (c : Int) (x.toNat : Int) = ((c ^^^ x.toNat : Nat) : Int) := u32_xor_nat _ _ hc1 (by omega)
      have hd : decide ((k : Int) < m) = true := by simp; omega
      have hy1 : c ^^^ x.toNat < 4294967296 := xor_lt hc1 (by omega)
      generalize hy : c ^^^ x.toNat = y at *
      have HY := hide hy
      clear hx hy
      go_wp2_with fail
      go_loop [3, 5] (fun sc i => ∃ j : Nat, j ≤ 8 ∧ i = .int .i64 j ∧ sc = .int .u32 (bits j y : Nat)) (fun _ i => 8 - (intOf i).toNat)
      case atStart => exact ⟨0, by omega, rfl, rfl⟩
      case round =>
        obtain ⟨j, hj, rfl, rfl⟩ := hrel
        have hz1 : bits j y < 4294967296 := bits_lt j hy1
        generalize hz : bits j y = z at *
        have HZ := hide hz
        clear hz
        by_cases hj8 : j < 8
        · have hd2 : decide ((j : Int) < 8) = true := by simp; omega
          have e3 : Go.bits .and .u32 (z : Int) 1 = ((z % 2 : Nat) : Int) := by
            rw [show (1 : Int) = ((1 : Nat) : Int) from rfl, u32_and_nat _ _ hz1 (by decide), nat_mask1]
          obtain ⟨v, hv⟩ : ∃ v, z / 2 = v := ⟨_, rfl⟩
          have e4 : (z : Int) / 2 = (v : Int) := by omega
          have e5 : Go.bits .xor .u32 (v : Int) 2197175160 = ((v ^^^ P : Nat) : Int) := by
            rw [show (2197175160 : Int) = ((P : Nat) : Int) from rfl, u32_xor_nat _ _ (by omega) (by decide)]
          generalize hq : v ^^^ P = q at *
          have HV := hide hv; have HQ := hide hq
          clear hv hq
          rcases Nat.mod_two_eq_zero_or_one z with h2 | h2
          · rw [h2] at e3
            have HB : Hid (bits (j + 1) y = v) := by simp only [bits, HZ.out, bit, h2]; exact HV.out
            clear h2
            go_wp2_with fail
            go_round
            case rel => exact ⟨j + 1, by omega, by go_num, by rw [HB.out]⟩
            case measure => simp [intOf]; omega
          · rw [h2] at e3
            have HB : Hid (bits (j + 1) y = q) := by simp only [bits, HZ.out, bit, h2, if_true]; rw [HV.out]; exact HQ.out
            clear h2
            go_wp2_with fail
            go_round
            case rel => exact ⟨j + 1, by omega, by go_num, by rw [HB.out]⟩
            case measure => simp [intOf]; omega
        · have hd2 : decide ((j : Int) < 8) = false := by simp; omega
          have hj88 : j = 8 := by omega
          have HB : Hid (run 4294967295 (bs.take (k + 1)) = z) := by
            show run 4294967295 (bs.take (k + 1)) = z
            rw [take_snoc8 _ _ (by rw [HL.out]; exact hlt), run_snoc, HR.out, HX.out, byte_bits _ _ hxl, HY.out, ← HZ.out, hj88]
          clear hj88
          go_wp2_with fail
          go_round
          case rel => exact ⟨k + 1, by omega, by go_num, by rw [HB.out]⟩
          case measure => simp [intOf]; omega
    · have hd : decide ((k : Int) < m) = false := by simp; omega
      have e2 : Go.bits .xor .u32 (c : Int) 4294967295 = ((4294967295 ^^^ c : Nat) : Int) := by
        rw [show (4294967295 : Int) = ((4294967295 : Nat) : Int) from rfl, u32_xor_nat _ _ hc1 (by decide), Nat.xor_comm]
      have hrun : run 4294967295 bs = c := by rw [← HR.out, List.take_of_length_le (by have := HL.out; omega)]
      have HE := hide hrun
      clear hrun
      go_wp2_with fail
      go_ret
      rw [sum, HE.out]
      exact ⟨rfl, rfl⟩
end Go.Proofs.YtmgdhloehkdffaaDoor.Crc
