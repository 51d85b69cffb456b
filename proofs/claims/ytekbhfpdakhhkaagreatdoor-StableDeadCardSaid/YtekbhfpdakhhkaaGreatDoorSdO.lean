/- A ballot that came in, opened. -/
import Derived.Test.YtekbhfpdakhhkaaGreatDoorStArg
namespace Go.Proofs.YtekbhfpdakhhkaaGreatDoor.St
open Go.ChangeShapes Go.WideShapes Go.ChangeAt Go.RowKit Go.Deep
section
variable {H : Type} {enc : TypeId × Value → H} {w : World} {n : Nat} {cs : List Value} {y : DataW H × List MemPlace}
theorem open_bal (h3 : DataW.trod enc Tryz.prog w 0 (fun _ => true) true n 25 cs = some y) (l3 : Light Tryz.prog 25 y.1) : ∃ (m : Nat) (r : Int), cs = [.int .u64 (m : Int), .int .i64 r] ∧ m < 18446744073709551616 := by
  obtain ⟨hlen, m3, H3⟩ := open_fields Tryz.underlying25 h3 l3
  rw [show Tryz.prog.cellsOf 25 = 2 from by kernel_rfl] at hlen
  obtain ⟨c0, c1, rfl⟩ : ∃ c0 c1, cs = [c0, c1] := by
    match cs, hlen with
    | [c0, c1], _ => exact ⟨_, _, rfl⟩
  obtain ⟨v0, g0, -⟩ := H3 0 _ 23 0 1 rfl rfl rfl (by kernel_rfl)
  obtain ⟨v1, g1, -⟩ := H3 1 _ 3 1 1 rfl rfl rfl (by kernel_rfl)
  obtain ⟨m4, e4, w4⟩ := open_int1 (k := .u64) (by kernel_rfl) g0
  obtain ⟨m5, e5, w5⟩ := open_int1 (k := .i64) (by kernel_rfl) g1
  simp only [List.drop, List.take, List.cons.injEq, and_true] at e4 e5
  subst e4 e5
  have b4 := bounds_u64 w4
  obtain ⟨j4, rfl⟩ := Int.eq_ofNat_of_zero_le b4.1
  exact ⟨j4, m5, rfl, by have := b4.2; omega⟩
end
end Go.Proofs.YtekbhfpdakhhkaaGreatDoor.St
