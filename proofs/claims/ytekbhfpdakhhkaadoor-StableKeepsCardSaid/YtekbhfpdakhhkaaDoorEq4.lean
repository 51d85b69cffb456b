/- Two arrays of four bytes, compared. -/
import Derived.Test.YtekbhfpdakhhkaaDoorGenAll
namespace Go.Proofs.YtekbhfpdakhhkaaDoor
open Go.RowKit
theorem run_eq4 (d : Nat) (a0 a1 a2 a3 b0 b1 b2 b3 : Int) (w : World) :
    (Op.equalIn (d + 2) 141 (.agg #[.int .u8 a0, .int .u8 a1, .int .u8 a2, .int .u8 a3]) (.agg #[.int .u8 b0, .int .u8 b1, .int .u8 b2, .int .u8 b3])).run Tryd.prog w =
      .ok (a0 == b0 && a1 == b1 && a2 == b2 && a3 == b3) w := by
  have hp : ∀ (xs : Array Value) (i : Nat) (v : Value) w, xs[i]? = some v → (part 5 xs i).run Tryd.prog w = .ok v w := by
    intro xs i v w h
    have hagg : (isAgg 5).run Tryd.prog w = .ok false w := by
      unfold isAgg
      rw [Sem.run_bind, run_underlying Tryd.underlying5 w]
      rfl
    simp [part, Sem.run_bind, hagg, h]
  have he := fun (a b : Int) w => run_equalIn_int (P := Tryd.prog) w d 5 .u8 .u8 a b Tryd.underlying5
  unfold Op.equalIn
  rw [Sem.run_bind, run_underlying Tryd.underlying141]
  simp only [Result.andThen_ok, Sem.run_bind, sizeB, Std.Legacy.Range.forIn_eq_forIn_range']
  simp [List.range', Sem.run_bind, Sem.run_ite]
  rw [hp _ 0 (.int .u8 a0) _ rfl]
  simp only [Result.andThen_ok]
  rw [hp _ 0 (.int .u8 b0) _ rfl]
  rw [Result.andThen_ok, he]
  simp only [Result.andThen_ok]
  cases (a0 == b0)
  · simp
  simp
  rw [hp _ 1 (.int .u8 a1) _ rfl]
  simp only [Result.andThen_ok]
  rw [hp _ 1 (.int .u8 b1) _ rfl]
  rw [Result.andThen_ok, he]
  simp only [Result.andThen_ok]
  cases (a1 == b1)
  · simp
  simp
  rw [hp _ 2 (.int .u8 a2) _ rfl]
  simp only [Result.andThen_ok]
  rw [hp _ 2 (.int .u8 b2) _ rfl]
  rw [Result.andThen_ok, he]
  simp only [Result.andThen_ok]
  cases (a2 == b2)
  · simp
  simp
  rw [hp _ 3 (.int .u8 a3) _ rfl]
  simp only [Result.andThen_ok]
  rw [hp _ 3 (.int .u8 b3) _ rfl]
  rw [Result.andThen_ok, he]
  simp only [Result.andThen_ok]
  cases (a3 == b3) <;> simp
end Go.Proofs.YtekbhfpdakhhkaaDoor
