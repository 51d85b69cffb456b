/- From the row's list to cmd.counts in place, and a world for the witness. -/
import Derived.Test.YtloaceaomljeiaaDoorLawKit
import Derived.Test.YtloaceaomljeiaaDoorCards
import Derived.Test.YtloaceaomljeiaaDoorTie
import Derived.Test.YtloaceaomljeiaaDoorCmM
import Derived.Deep.DeepHandedRow
import Derived.Lib.LaidTab
namespace Go.Proofs.YtloaceaomljeiaaDoor.Door
open Go.ChangeShapes Go.WideShapes Go.ChangeAt Go.RowKit Go.Proofs.YtloaceaomljeiaaDoor.Crc Go.Proofs.YtloaceaomljeiaaDoor.Cm

theorem rows_of_tab {H : Type} {enc : TypeId × Value → H} {P : Program} {w : World} {base : Nat} {sp : Nat → Bool} {held : Bool} {fuel : Nat} {t e : TypeId} {n z : Nat} {cs : List Value} {ds : List (DataW H)} {p : List MemPlace}
    (ht : P.underlying t = some (.array n e)) (hze : P.cellsOf e = z) (h : DataW.trod enc P w base sp held fuel t cs = some (.agg ds, p)) :
    ∀ i d, ds[i]? = some d → ∃ m q, DataW.trod enc P w base sp held m e ((cs.drop (i * z)).take z) = some (d, q) := by
  cases fuel with
  | zero => simp [DataW.trod] at h
  | succ fuel =>
    simp only [DataW.trod, ht, hze] at h
    split at h
    · obtain ⟨xs, hm, hx⟩ := Option.map_eq_some_iff.1 h
      have hxs : xs.map (·.1) = ds := by
        have := congrArg Prod.fst hx
        simpa using this
      subst hxs
      intro i d hi
      rw [List.getElem?_map] at hi
      obtain ⟨x, hx1, rfl⟩ := Option.map_eq_some_iff.1 hi
      have hil : i < n := by
        have := (List.getElem?_eq_some_iff.1 hx1).1
        have hl : xs.length = n := by simpa using Lib.mapM_length hm
        omega
      obtain ⟨b, hb, hf⟩ := Lib.mapM_at hm i i (by simp [hil])
      rw [hx1] at hb
      cases hb
      exact ⟨fuel, x.2, hf⟩
    · cases h
theorem gCnt : Tryd.prog.globalNamed "quorate/cmd.counts" = some 0 := by kernel_rfl
theorem gCntType : (Tryd.prog.globals[0]?).map (·.type) = some 90 := by kernel_rfl
theorem cells2 : Tryd.prog.cellsOf 89 = 2 := by kernel_rfl
theorem cells1 : Tryd.prog.cellsOf 3 = 1 := by kernel_rfl
theorem cntRow (k : Nat) (hk : k < 9) : (match (Rows.laid_quorate_cmd_counts : DataW Unit) with | .agg ds => ds | _ => [])[k]? = some (Lib.tabData .i64 [((lo k : Nat) : Int), ((hi k : Nat) : Int)]) := by
  match k, hk with
  | 0, _ => rfl
  | 1, _ => rfl
  | 2, _ => rfl
  | 3, _ => rfl
  | 4, _ => rfl
  | 5, _ => rfl
  | 6, _ => rfl
  | 7, _ => rfl
  | 8, _ => rfl
theorem cntAt {W : World} (h : laidMet Tryd.prog [("quorate/cmd.counts", Rows.laid_quorate_cmd_counts)] W) : CntAt W := by
  obtain ⟨ps, ⟨g', t', cs, fuel, p, q, hg', ht', hvar, hd, _, _⟩, _⟩ := h
  obtain rfl := Option.some.inj (gCnt.symm.trans hg')
  obtain rfl := Option.some.inj (gCntType.symm.trans ht')
  intro k hk
  obtain ⟨m, q', h1⟩ := rows_of_tab (ds := match (Rows.laid_quorate_cmd_counts : DataW Unit) with | .agg ds => ds | _ => []) Tryd.underlying90 cells2 hd k _ (cntRow k hk)
  have h2 := Lib.cells_of_tab Tryd.underlying89 Tryd.underlying3 cells1 cells2 h1
  have h3 : cs.toList[k * 2]? = some (.int .i64 ((lo k : Nat) : Int)) := by
    have := congrArg (·[0]?) h2
    simpa [List.getElem?_take, List.getElem?_drop] using this
  have h4 : cs.toList[k * 2 + 1]? = some (.int .i64 ((hi k : Nat) : Int)) := by
    have := congrArg (·[1]?) h2
    simpa [List.getElem?_take, List.getElem?_drop] using this
  exact ⟨by have := World.var?_cell gCnt hvar (k * 2); rw [this]; simpa using h3, by have := World.var?_cell gCnt hvar (k * 2 + 1); rw [this]; simpa using h4⟩

/-- The settled world, the table holding what its initialiser lays. -/
noncomputable def laidWorld (os : Os) : World :=
  { World.holding Tryd.prog os ⟨#[], #[], []⟩ with heap := (World.holding Tryd.prog os ⟨#[], #[], []⟩).heap.modify 0 fun
      | .cells _ t frozen => .cells #[.int .i64 0, .int .i64 0, .int .i64 1, .int .i64 1, .int .i64 1, .int .i64 1, .int .i64 1, .int .i64 1, .int .i64 1, .int .i64 1, .int .i64 1, .int .i64 1, .int .i64 2, .int .i64 2, .int .i64 1, .int .i64 16, .int .i64 1, .int .i64 16] t frozen
      | o => o }
theorem laid_met (os : Os) (args : Array Value) : laidMet Tryd.prog [("quorate/cmd.counts", Rows.laid_quorate_cmd_counts)] ((laidWorld os).forCall (fun _ _ => 0) ⟨#[], args, []⟩).memory :=
  laidMet_of_run' 8 (by kernel_rfl) (by kernel_rfl)
end Go.Proofs.YtloaceaomljeiaaDoor.Door
