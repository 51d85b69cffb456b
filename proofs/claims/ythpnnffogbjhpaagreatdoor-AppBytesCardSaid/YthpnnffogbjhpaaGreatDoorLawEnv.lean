/- From the row's list to the variables that the number parsing and cmd.Check read, in place; a world for the witness. -/
import Derived.Test.YthpnnffogbjhpaaGreatDoorLawAll
import Derived.Test.YthpnnffogbjhpaaGreatDoorCards
import Derived.Test.YthpnnffogbjhpaaGreatDoorTie
import Derived.Test.YthpnnffogbjhpaaGreatDoorKvV
import Derived.Deep.DeepHandedRow
import Derived.Lib.LaidTab
import Derived.Lay
set_option linter.unusedSimpArgs false
set_option linter.unusedVariables false
set_option linter.unnecessarySimpa false
namespace Go.Proofs.YthpnnffogbjhpaaGreatDoor.Door
open Go.ChangeShapes Go.WideShapes Go.ChangeAt Go.RowKit Go.Proofs.YthpnnffogbjhpaaGreatDoor.Crc Go.Proofs.YthpnnffogbjhpaaGreatDoor.Cm

theorem laid_mem {P : Program} {w : World} : ∀ {l : List (String × DataW Unit)} {ps : List MemPlace}, DataW.LaidVars P w l ps → ∀ n d, (n, d) ∈ l →
    ∃ g t cs fuel p, P.globalNamed n = some g ∧ (P.globals[g]?).map (·.type) = some t ∧ w.var? P n = some cs ∧ DataW.trod (fun _ => ()) P w 0 (fun _ => true) false fuel t cs.toList = some (d, p)
  | [], _, _, _, _, h => by cases h
  | (_, _) :: _, _, ⟨g, t, cs, fuel, p, _, h1, h2, h3, h4, h5, _⟩, n, d, h => by
    rcases List.mem_cons.1 h with e | h
    · cases e; exact ⟨g, t, cs, fuel, p, h1, h2, h3, h4⟩
    · exact laid_mem h5 n d h
theorem rows_of_tab {H : Type} {enc : TypeId × Value → H} {P : Program} {w : World} {base : Nat} {sp : Nat → Bool} {held : Bool} {fuel : Nat} {t e : TypeId} {n z : Nat} {cs : List Value} {ds : List (DataW H)} {p : List MemPlace}
    (ht : P.underlying t = some (.array n e)) (hze : P.cellsOf e = z) (h : DataW.trod enc P w base sp held fuel t cs = some (.agg ds, p)) :
    ∀ i d, ds[i]? = some d → ∃ m q, DataW.trod enc P w base sp held m e ((cs.drop (i * z)).take z) = some (d, q) := by
  cases fuel with
  | zero => simp [DataW.trod] at h
  | succ fuel =>
    simp only [DataW.trod, ht, hze] at h
    split at h
    · obtain ⟨xs, hm, hx⟩ := Option.map_eq_some_iff.1 h
      have hxs : xs.map (·.1) = ds := by
        have := congrArg Prod.fst hx
        simpa using this
      subst hxs
      intro i d hi
      rw [List.getElem?_map] at hi
      obtain ⟨x, hx1, rfl⟩ := Option.map_eq_some_iff.1 hi
      have hil : i < n := by
        have := (List.getElem?_eq_some_iff.1 hx1).1
        have hl : xs.length = n := by simpa using Lib.mapM_length hm
        omega
      obtain ⟨b, hb, hf⟩ := Lib.mapM_at hm i i (by simp [hil])
      rw [hx1] at hb
      cases hb
      exact ⟨fuel, x.2, hf⟩
    · cases h
theorem gCnt : Tryz.prog.globalNamed "quorate/cmd.counts" = some 0 := by kernel_rfl
theorem gCntType : (Tryz.prog.globals[0]?).map (·.type) = some 153 := by kernel_rfl
theorem cells2 : Tryz.prog.cellsOf 152 = 2 := by kernel_rfl
theorem cells1 : Tryz.prog.cellsOf 3 = 1 := by kernel_rfl
theorem cntRow (k : Nat) (hk : k < 9) : (match (Rows.laid_quorate_cmd_counts : DataW Unit) with | .agg ds => ds | _ => [])[k]? = some (Lib.tabData .i64 [((lo k : Nat) : Int), ((hi k : Nat) : Int)]) := by
  match k, hk with
  | 0, _ => rfl
  | 1, _ => rfl
  | 2, _ => rfl
  | 3, _ => rfl
  | 4, _ => rfl
  | 5, _ => rfl
  | 6, _ => rfl
  | 7, _ => rfl
  | 8, _ => rfl
abbrev laid6 : List (String × DataW Unit) := Rows.appBytesRow.laid
theorem met_of {W : World} (h : laidMetH Tryz.prog laid6 W) : laidMet Tryz.prog laid6 W := by
  have e : (laid6.filter fun x => x.2.handleName?.isSome) = [] := by kernel_rfl
  unfold laidMetH at h
  rw [e] at h
  exact h
theorem cntOf {W : World} (hp : ∃ ps, DataW.LaidVars Tryz.prog W laid6 ps) : CntAt W := by
  obtain ⟨ps, hp⟩ := hp
  obtain ⟨g', t', cs, fuel, p, hg', ht', hvar, hd⟩ := laid_mem hp "quorate/cmd.counts" Rows.laid_quorate_cmd_counts (by simp [laid6, Rows.appBytesRow])
  obtain rfl := Option.some.inj (gCnt.symm.trans hg')
  obtain rfl := Option.some.inj (gCntType.symm.trans ht')
  intro k hk
  obtain ⟨m, q', h1⟩ := rows_of_tab (ds := match (Rows.laid_quorate_cmd_counts : DataW Unit) with | .agg ds => ds | _ => []) Tryz.underlying153 cells2 hd k _ (cntRow k hk)
  have h2 := Lib.cells_of_tab Tryz.underlying152 Tryz.underlying3 cells1 cells2 h1
  have h3 : cs.toList[k * 2]? = some (.int .i64 ((lo k : Nat) : Int)) := by
    have := congrArg (·[0]?) h2
    simpa [List.getElem?_take, List.getElem?_drop] using this
  have h4 : cs.toList[k * 2 + 1]? = some (.int .i64 ((hi k : Nat) : Int)) := by
    have := congrArg (·[1]?) h2
    simpa [List.getElem?_take, List.getElem?_drop] using this
  exact ⟨by have := World.var?_cell gCnt hvar (k * 2); rw [this]; simpa using h3, by have := World.var?_cell gCnt hvar (k * 2 + 1); rw [this]; simpa using h4⟩
theorem iface_of_trod {H : Type} {enc : TypeId × Value → H} {P : Program} {w : World} {base : Nat} {sp : Nat → Bool} {held : Bool} {fuel : Nat} {t : TypeId} {ms : Array (String × TypeId)} {cs : List Value} {s : String} {d : DataW H} {p : List MemPlace}
    (ht : P.underlying t = some (.interface ms)) (h : DataW.trod enc P w base sp held fuel t cs = some (.iface s d, p)) : ∃ u v, cs = [.iface u v] := by
  cases fuel with
  | zero => simp [DataW.trod] at h
  | succ fuel =>
    simp only [DataW.trod, ht] at h
    split at h
    all_goals first
      | exact ⟨_, _, rfl⟩
      | simp_all
theorem gTabType : (Tryz.prog.globals[3]?).map (·.type) = some 245 := by kernel_rfl
theorem gSynType : (Tryz.prog.globals[1]?).map (·.type) = some 177 := by kernel_rfl
theorem gRanType : (Tryz.prog.globals[2]?).map (·.type) = some 177 := by kernel_rfl
theorem tab_is : (Rows.laid_internal_strconv_uint64pow10 : DataW Unit) = Lib.tabData .u64 Lib.pow10Tab := by kernel_rfl
theorem envAt {W : World} (h : laidMet Tryz.prog laid6 W) : Kv.EnvAt W := by
  obtain ⟨ps, hp, -⟩ := h
  refine ⟨cntOf ⟨ps, hp⟩, ?_, ?_, ?_⟩
  · obtain ⟨g', t', cs, fuel, p, hg', ht', hvar, hd⟩ := laid_mem hp "internal/strconv.uint64pow10" Rows.laid_internal_strconv_uint64pow10 (by simp [laid6, Rows.appBytesRow])
    obtain rfl := Option.some.inj (Kv.gTab.symm.trans hg')
    obtain rfl := Option.some.inj (gTabType.symm.trans ht')
    rw [tab_is] at hd
    unfold Lib.TabIs
    rw [hvar, ← Lib.cells_of_tab Tryz.underlying245 Tryz.underlying35 (by kernel_rfl) (by kernel_rfl) hd]
  · obtain ⟨g', t', cs, fuel, p, hg', ht', hvar, hd⟩ := laid_mem hp "strconv.ErrSyntax" Rows.laid_strconv_ErrSyntax (by simp [laid6, Rows.appBytesRow])
    obtain rfl := Option.some.inj (Kv.gSyn.symm.trans hg')
    obtain rfl := Option.some.inj (gSynType.symm.trans ht')
    obtain ⟨u, v, e⟩ := iface_of_trod Tryz.underlying177 hd
    refine ⟨u, v, ?_⟩
    rw [hvar]
    obtain ⟨l⟩ := cs
    simp only at e
    rw [e]
  · obtain ⟨g', t', cs, fuel, p, hg', ht', hvar, hd⟩ := laid_mem hp "strconv.ErrRange" Rows.laid_strconv_ErrRange (by simp [laid6, Rows.appBytesRow])
    obtain rfl := Option.some.inj (Kv.gRan.symm.trans hg')
    obtain rfl := Option.some.inj (gRanType.symm.trans ht')
    obtain ⟨u, v, e⟩ := iface_of_trod Tryz.underlying177 hd
    refine ⟨u, v, ?_⟩
    rw [hvar]
    obtain ⟨l⟩ := cs
    simp only at e
    rw [e]
/-- A world in which the listed variables hold what their initialisers lay. -/
noncomputable def laidWorld (os : Os) : World := World.laidAll Tryz.prog os laid6
theorem laid_met (os : Os) (args : Array Value) : laidMet Tryz.prog laid6 ((laidWorld os).forCall (fun _ _ => 0) ⟨#[], args, []⟩).memory :=
  laidMet_laidAll args (by kernel_rfl) (by kernel_rfl)
end Go.Proofs.YthpnnffogbjhpaaGreatDoor.Door
