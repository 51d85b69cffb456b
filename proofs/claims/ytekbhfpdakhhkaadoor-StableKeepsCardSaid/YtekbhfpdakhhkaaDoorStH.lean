/- Helpers: the operations of a region; a result that lies in a cell. -/
import Derived.Test.YtekbhfpdakhhkaaDoorGenAll
import Derived.Laws.ResultCell
namespace Go.Proofs.YtekbhfpdakhhkaaDoor.St
open Go.RowKit
/-- The region of a number in a function's code. -/
def findOps (n : Nat) : Code → Array Oper
  | .region id ops _ => if id = n then ops else #[]
  | .seq a b => if (findOps n a).isEmpty then findOps n b else findOps n a
  | .cond _ a b => if (findOps n a).isEmpty then findOps n b else findOps n a
  | .block _ a => findOps n a
  | .loop a => findOps n a
  | _ => #[]
theorem results_cell1 {fn : Func} {p : Tmp} {ty : TypeId} (h : fn.results = #[.cell p ty]) (tmps : Array Value) (P : Program) (w : World) :
    (results fn tmps).run P w = ((asAddr (tmps.getD p undef)).run P w).andThen fun a w₁ => (loadVar ty a).run P w₁ := by
  simp only [results, h]
  simp [Sem.run_bind, Result.andThen]
end Go.Proofs.YtekbhfpdakhhkaaDoor.St
