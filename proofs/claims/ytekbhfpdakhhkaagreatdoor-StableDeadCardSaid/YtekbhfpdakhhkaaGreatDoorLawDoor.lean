/- From the row's list to the table in place, and a world for the witness. -/
import Derived.Test.YtekbhfpdakhhkaaGreatDoorLawAll
import Derived.Test.YtekbhfpdakhhkaaGreatDoorCards
import Derived.Test.YtekbhfpdakhhkaaGreatDoorTie
import Derived.Test.YtekbhfpdakhhkaaGreatDoorCrcW
import Derived.Deep.DeepHandedRow
import Derived.Lib.LaidTab
namespace Go.Proofs.YtekbhfpdakhhkaaGreatDoor.Door
open Go.ChangeShapes Go.WideShapes Go.ChangeAt Go.RowKit Go.Proofs.YtekbhfpdakhhkaaGreatDoor.Crc

theorem gTab : Tryz.prog.globalNamed "quorate/crc.steps" = some 0 := by kernel_rfl
theorem gTabType : (Tryz.prog.globals[0]?).map (·.type) = some 179 := by kernel_rfl
theorem cellsT : Tryz.prog.cellsOf 179 = 16 := by kernel_rfl
theorem cellsE : Tryz.prog.cellsOf 102 = 1 := by kernel_rfl
def nums : List Int := List.map (fun n : Nat => (n : Int)) tab
theorem laid_eq : (Rows.laid_quorate_crc_steps : DataW Unit) = Lib.tabData .u32 nums := rfl
theorem tabAt {W : World} (h : laidMet Tryz.prog [("quorate/crc.steps", Rows.laid_quorate_crc_steps)] W) : TabAt W := by
  have ht : Lib.TabIs Tryz.prog W "quorate/crc.steps" .u32 nums := Lib.tabIs_of_head (rest := []) gTab gTabType Tryz.underlying179 Tryz.underlying102 cellsE cellsT h
  intro i hi
  have h1 : nums.length = 16 := rfl
  have h2 := ht.cell gTab i (by omega)
  have h3 : nums.getD i 0 = ((tab.getD i 0 : Nat) : Int) := (by decide : ∀ i, i < 16 → nums.getD i 0 = ((tab.getD i 0 : Nat) : Int)) i hi
  rw [h2, h3]

/-- The settled world, the table holding what its initialiser lays. -/
noncomputable def laidWorld (os : Os) : World :=
  { World.holding Tryz.prog os ⟨#[], #[], []⟩ with heap := (World.holding Tryz.prog os ⟨#[], #[], []⟩).heap.modify 0 fun
      | .cells _ t frozen => .cells #[.int .u32 0, .int .u32 274646895, .int .u32 549293790, .int .u32 820201905, .int .u32 1098587580, .int .u32 1361435347, .int .u32 1640403810, .int .u32 1905808397, .int .u32 2197175160, .int .u32 2460548119, .int .u32 2722870694, .int .u32 2987750089, .int .u32 3280807620, .int .u32 3553878443, .int .u32 3811616794, .int .u32 4084100981] t frozen
      | o => o }
theorem laid_met (os : Os) (args : Array Value) : laidMet Tryz.prog [("quorate/crc.steps", Rows.laid_quorate_crc_steps)] ((laidWorld os).forCall (fun _ _ => 0) ⟨#[], args, []⟩).memory :=
  laidMet_of_run' 8 (by kernel_rfl) (by kernel_rfl)
end Go.Proofs.YtekbhfpdakhhkaaGreatDoor.Door
