/- Arguments that were told, opened with their errors. -/
import Derived.Test.YtfmaflaoplkdbaaGreatDoorLawAll
import Derived.Test.YtfmaflaoplkdbaaGreatDoorAuKH
set_option linter.unusedSimpArgs false
set_option linter.unusedVariables false
set_option linter.unnecessarySimpa false
namespace Go.Proofs.YtfmaflaoplkdbaaGreatDoor.Au
open Go.ChangeShapes Go.WideShapes Go.ChangeAt Go.RowKit Go.Deep Go.Proofs.YtfmaflaoplkdbaaGreatDoor.Crc Go.Proofs.YtfmaflaoplkdbaaGreatDoor.Cm Go.Proofs.YtfmaflaoplkdbaaGreatDoor.Tr

section
variable {H : Type} {enc : TypeId × Value → H} {w : World} {n : Nat} {cs : List Value} {y : DataW H × List MemPlace}
theorem open_toE (h : DataW.trod enc Tryz.prog w 0 (fun _ => true) true n 49 cs = some y) (hl : Light Tryz.prog 49 y.1) : ∃ t : To, toK.holds w (Old w) t cs := by
  obtain ⟨hlen, m, H⟩ := open_fields Tryz.underlying49 h hl
  rw [show Tryz.prog.cellsOf 49 = 5 from by kernel_rfl] at hlen
  obtain ⟨c0, c1, c2, c3, c4, rfl⟩ : ∃ c0 c1 c2 c3 c4, cs = [c0, c1, c2, c3, c4] := by
    match cs, hlen with
    | [c0, c1, c2, c3, c4], _ => exact ⟨_, _, _, _, _, rfl⟩
  obtain ⟨u0, h0, -⟩ := H 0 _ 3 0 1 rfl rfl rfl (by kernel_rfl)
  obtain ⟨u1, h1, -⟩ := H 1 _ 28 1 1 rfl rfl rfl (by kernel_rfl)
  obtain ⟨u2, h2, -⟩ := H 2 _ 3 2 1 rfl rfl rfl (by kernel_rfl)
  obtain ⟨u3, h3, l3⟩ := H 3 _ 46 3 1 rfl rfl rfl (by kernel_rfl)
  obtain ⟨u4, h4, l4⟩ := H 4 _ 47 4 1 rfl rfl rfl (by kernel_rfl)
  obtain ⟨m0, e0, -⟩ := open_int1 (k := .i64) (by kernel_rfl) h0
  obtain ⟨m1, e1, -⟩ := open_int1 (k := .i64) (by kernel_rfl) h1
  obtain ⟨m2, e2, -⟩ := open_int1 (k := .i64) (by kernel_rfl) h2
  simp only [List.drop, List.take, List.cons.injEq, and_true] at e0 e1 e2
  subst e0 e1 e2
  obtain ⟨la, ha⟩ := open_anss h3 l3
  obtain ⟨ld, hd⟩ := open_dones h4 l4
  exact ⟨⟨m1, la, ld⟩, m0, m2, c3, c4, rfl, ha, hd⟩
theorem open_toEs {v : Value} (h : DataW.trod enc Tryz.prog w 0 (fun _ => true) true n 43 [v] = some y) (hl : Light Tryz.prog 43 y.1) : ∃ l, toK.row w (Old w) v l := by
  obtain ⟨l, hr, -⟩ := open_row (X := To) (Q := toK.holds w (Old w)) Tryz.underlying43 (z := 5) (by kernel_rfl) (by decide) (fun n cs y hy hly _ => by
    obtain ⟨c, hc⟩ := open_toE hy hly
    exact ⟨c, hc, toK.one hc⟩) h hl
  exact ⟨l, hr⟩
end
end Go.Proofs.YtfmaflaoplkdbaaGreatDoor.Au
