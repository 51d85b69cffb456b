/- The law's first and great. -/
import Derived.Test.YtloaceaomljeiaaDoorTrA
import Derived.Test.YtloaceaomljeiaaDoorTrY
namespace Go.Proofs.YtloaceaomljeiaaDoor.Tr
open Go.RowKit Go.Proofs.YtloaceaomljeiaaDoor.Crc Go.Proofs.YtloaceaomljeiaaDoor.Cm Go.Proofs.YtloaceaomljeiaaDoor.Var

theorem cell_upd {w w' : World} {b i : Nat} {u : Value} {S : List Nat} (h : w.cell? ⟨b, i, none⟩ = some u) (hu : Upd S w w') (hS : b ∉ S) : w'.cell? ⟨b, i, none⟩ = some u := by
  have hb := World.block_lt_of_cell? w ⟨b, i, none⟩ h
  rw [← h]; have := hu.block b hb hS; simp only [World.cell?, this]
theorem td_get {w : World} {T : Nat → Prop} {v : Value} {l : List Td} (h : tdK.row w T v l) : ∃ (xo : Option Addr) (c : Nat), v = .slice xo l.length c ∧ l.length ≤ c ∧ c ≤ maxLen ∧
    ∀ i t, l[i]? = some t → ∃ b off xa ca xd cd, xo = some ⟨b, off, none⟩ ∧ b < w.heap.size ∧ w.cell? ⟨b, off + i * 5 + 3, none⟩ = some (.slice xa t.ans.length ca) ∧ w.cell? ⟨b, off + i * 5 + 4, none⟩ = some (.slice xd t.done.length cd) ∧
      anK.row w T (.slice xa t.ans.length ca) t.ans ∧ dnK.row w T (.slice xd t.done.length cd) t.done := by
  obtain ⟨xo, c, rfl, h1, h2, hg⟩ := Row.get tdK.hz h
  refine ⟨xo, c, rfl, h1, h2, fun i t hi => ?_⟩
  obtain ⟨b, off, cs, rfl, hb, hT, ⟨r, e, n, va, vd, rfl, hva, hvd⟩, -, hcell⟩ := hg i t hi
  obtain ⟨xa, ca, rfl, -, -⟩ := Row.slice hva
  obtain ⟨xd, cd, rfl, -, -⟩ := Row.slice hvd
  have cc : ∀ j u, ([Value.int .i64 r, .int .i64 e, .int .i64 n, .slice xa t.ans.length ca, .slice xd t.done.length cd] : List Value)[j]? = some u → w.cell? ⟨b, off + i * 5 + j, none⟩ = some u := fun j u hj => hcell j u hj
  exact ⟨b, off, xa, ca, xd, cd, rfl, hb, cc 3 _ rfl, cc 4 _ rfl, hva, hvd⟩
theorem dn_get {w : World} {T : Nat → Prop} {v : Value} {l : List Dn} (h : dnK.row w T v l) : ∃ (xo : Option Addr) (c : Nat), v = .slice xo l.length c ∧ l.length ≤ c ∧ c ≤ maxLen ∧
    ∀ i d, l[i]? = some d → ∃ b off yo ym yc, xo = some ⟨b, off, none⟩ ∧ b < w.heap.size ∧ w.cell? ⟨b, off + i * 2, none⟩ = some (.int .u64 (d.1 : Int)) ∧ w.cell? ⟨b, off + i * 2 + 1, none⟩ = some (.slice yo ym yc) ∧ SrcAt w yo ym yc (d.2.map u8v) 1 ∧ ym ≤ yc ∧ d.1 < 18446744073709551616 := by
  obtain ⟨xo, c, rfl, h1, h2, hg⟩ := Row.get dnK.hz h
  refine ⟨xo, c, rfl, h1, h2, fun i d hi => ?_⟩
  obtain ⟨b, off, cs, rfl, hb, hT, ⟨hs, v1, rfl, yo, ym, yc, rfl, hsb, hyc, -, -⟩, -, hcell⟩ := hg i d hi
  have cc : ∀ j u, ([Value.int .u64 (d.1 : Int), .slice yo ym yc] : List Value)[j]? = some u → w.cell? ⟨b, off + i * 2 + j, none⟩ = some u := fun j u hj => hcell j u hj
  exact ⟨b, off, yo, ym, yc, rfl, hb, cc 0 _ rfl, cc 1 _ rfl, hsb, hyc, hs⟩
/-- None of it is great. -/
def Small (told : List Td) : Prop := told.length ≤ 60 ∧ ∀ t ∈ told, t.done.length ≤ 20 ∧ t.ans.length ≤ 100 ∧ ∀ d ∈ t.done, d.2.length ≤ 2000
theorem all_of_get {X : Type} {P : X → Prop} {l : List X} (h : ∀ (i : Nat) (x : X), l[i]? = some x → P x) : ∀ x ∈ l, P x := fun x hx => by
  obtain ⟨i, hi⟩ := List.mem_iff_getElem?.1 hx
  exact h i x hi
def GreatIs (told : List Td) (e : Ending) : Prop := e = .returned (.bool true) ∨ (e = .returned (.bool false) ∧ Small told)
set_option maxRecDepth 100000 in
set_option maxHeartbeats 4000000 in
theorem great_any {T : Nat → Prop} {v : Value} {told : List Td} (w : World) (h : tdK.row w T v told) :
    Calls Tryd.prog 5 #[v] w fun e w' => GreatIs told e ∧ w = w' := by
  obtain ⟨xt, ct, rfl, hct, hcm, hg⟩ := td_get h
  have HG := hide hg
  simp only [maxLen] at hcm
  clear h hg
  go_enter Tryd.func5, Tryd.ntmps5
  by_cases h60 : 60 < told.length
  · have d1 : decide ((60 : Int) < (told.length : Int)) = true := by simp; omega
    go_wp2_with fail
    go_ret
    exact ⟨.inl rfl, rfl⟩
  · have d1 : decide ((60 : Int) < (told.length : Int)) = false := by simp; omega
    go_wp2_with fail
    go_loopw [3] (fun si wr => ∃ k : Nat, k ≤ told.length ∧ si = .int .i64 k ∧ wr = w ∧ ∀ i t, i < k → told[i]? = some t → t.done.length ≤ 20 ∧ t.ans.length ≤ 100 ∧ ∀ d ∈ t.done, d.2.length ≤ 2000) (fun si _ => told.length - (intOf si).toNat)
    case atStart => exact ⟨0, by omega, rfl, rfl, by omega⟩
    case round =>
      obtain ⟨k, hk, rfl, rfl, hall⟩ := hrel
      have HALL := hide hall
      clear hall
      by_cases hlt : k < told.length
      · have d5 : decide ((k : Int) < told.length) = true := by simp; omega
        have d5' : decide (k < told.length) = true := by simpa using hlt
        obtain ⟨t, hi⟩ : ∃ t, told[k]? = some t := ⟨_, List.getElem?_eq_getElem hlt⟩
        obtain ⟨b, off, xa, ca, xd, cd, rfl, hb, c3, c4, hva, hvd⟩ := HG.out k t hi
        have HI := hide hi
        obtain ⟨xd', cd', e1, hd1, hd2, hdg⟩ := dn_get hvd
        cases e1
        have HDG := hide hdg
        simp only [maxLen] at hd2
        clear hi hva hvd hdg
        by_cases h20 : 20 < t.done.length
        · have d2 : decide ((20 : Int) < (t.done.length : Int)) = true := by simp; omega
          go_wp2_with fail
          go_ret
          exact ⟨.inl rfl, rfl⟩
        have d2 : decide ((20 : Int) < (t.done.length : Int)) = false := by simp; omega
        by_cases h100 : 100 < t.ans.length
        · have d3 : decide ((100 : Int) < (t.ans.length : Int)) = true := by simp; omega
          go_wp2_with fail
          go_ret
          exact ⟨.inl rfl, rfl⟩
        have d3 : decide ((100 : Int) < (t.ans.length : Int)) = false := by simp; omega
        go_wp2_with fail
        go_loopw [4] (fun sj w' => ∃ j : Nat, j ≤ t.done.length ∧ sj = .int .i64 j ∧ w' = wr ∧ ∀ i d, i < j → t.done[i]? = some d → d.2.length ≤ 2000) (fun sj _ => t.done.length - (intOf sj).toNat)
        case atStart => exact ⟨0, by omega, rfl, rfl, by omega⟩
        case round =>
          obtain ⟨j, hj, rfl, rfl, hal2⟩ := hrel
          have HAL2 := hide hal2
          clear hal2
          by_cases hjl : j < t.done.length
          · have d6 : decide ((j : Int) < t.done.length) = true := by simp; omega
            have d6' : decide (j < t.done.length) = true := by simpa using hjl
            obtain ⟨d, hdi⟩ : ∃ d, t.done[j]? = some d := ⟨_, List.getElem?_eq_getElem hjl⟩
            obtain ⟨bd, od, yo, ym, yc, rfl, hbd, y0, y1, hsb, hyc, hds⟩ := HDG.out j d hdi
            have hdl : d.2.length = ym := by have := hsb.len; simpa using this
            have HDI := hide hdi; have HDL := hide hdl
            clear hdi hsb hdl
            by_cases h2k : 2000 < ym
            · have d7 : decide ((2000 : Int) < (ym : Int)) = true := by simp; omega
              go_wp2_with fail
              go_ret
              exact ⟨.inl rfl, rfl⟩
            have d7 : decide ((2000 : Int) < (ym : Int)) = false := by simp; omega
            go_wp2_with fail
            go_roundw
            case rel => exact ⟨j + 1, by omega, by go_num, by first | rfl | trivial, fun i d' hi hd' => by
              rcases Nat.lt_or_ge i j with h | h
              · exact HAL2.out i d' h hd'
              · rw [show i = j by omega, HDI.out] at hd'; cases hd'; have := HDL.out; omega⟩
            case measure => simp [intOf]; omega
          · have d6 : decide ((j : Int) < t.done.length) = false := by simp; omega
            have d6' : decide (j < t.done.length) = false := by simpa using hjl
            have hal3 : ∀ d ∈ t.done, d.2.length ≤ 2000 := all_of_get fun i d hd => HAL2.out i d (by have := (List.getElem?_eq_some_iff.1 hd).1; omega) hd
            have HAL3 := hide hal3
            clear hal3
            go_wp2_with fail
            go_roundw
            case rel => exact ⟨k + 1, by omega, by go_num, by first | rfl | trivial, fun i t' hi ht' => by
              rcases Nat.lt_or_ge i k with h | h
              · exact HALL.out i t' h ht'
              · rw [show i = k by omega, HI.out] at ht'; cases ht'; exact ⟨by omega, by omega, HAL3.out⟩⟩
            case measure => simp [intOf]; omega
      · have d5 : decide ((k : Int) < told.length) = false := by simp; omega
        have d5' : decide (k < told.length) = false := by simpa using hlt
        have hsm : Small told := ⟨by omega, all_of_get fun i t ht => HALL.out i t (by have := (List.getElem?_eq_some_iff.1 ht).1; omega) ht⟩
        have HSM := hide hsm
        clear hsm
        go_wp2_with fail
        go_ret
        exact ⟨.inr ⟨rfl, HSM.out⟩, rfl⟩
theorem cut_first {X : Type} (l : List X) (A p : Nat) : (l.drop (min A l.length)).take (min (min A l.length + p) l.length - min A l.length) = (l.drop A).take p := by
  by_cases h : A ≤ l.length
  · rw [Nat.min_eq_left h]
    by_cases h2 : A + p ≤ l.length
    · rw [Nat.min_eq_left h2, Nat.add_sub_cancel_left]
    · rw [Nat.min_eq_right (by omega), List.take_of_length_le (by rw [List.length_drop]; omega), List.take_of_length_le (by rw [List.length_drop]; omega)]
  · have e : min A l.length = l.length := by omega
    rw [e, List.drop_length, List.drop_eq_nil_of_le (by omega)]
    simp
def FirstSays (w : World) (T : Nat → Prop) (w0 : World) (o : Option Sl) (e : Ending) : Prop :=
  (o = none ∧ e = .returned (.tuple #[.slice none 0 0, .slice none 0 0, .bool false])) ∨
  ∃ x vc va, o = some x ∧ e = .returned (.tuple #[vc, va, .bool true]) ∧ cmK.row w (since w0.heap.size w) vc x.cmds ∧ anK.row w T va x.ans
set_option maxRecDepth 100000 in
set_option maxHeartbeats 4000000 in
theorem first_any {T : Nat → Prop} {v : Value} {told : List Td} {slot : Nat} (w : World) (hcnt : CntAt w) (h : tdK.row w T v told) (hb : ∀ t ∈ told, t.ans.length ≤ 1000000 ∧ ∀ d ∈ t.done, d.2.length ≤ 1000000000000) :
    Calls Tryd.prog 8 #[v, .int .u64 (slot : Int)] w fun e w' => FirstSays w' T w (findM (allM told) slot) e ∧ Upd [] w w' := by
  obtain ⟨xt, ct, rfl, hct, hcm, hg⟩ := td_get h
  have HG := hide hg; have HC := hide hcnt; have HB := hide hb
  simp only [maxLen] at hcm
  clear h hg hcnt hb
  go_enter Tryd.func8, Tryd.ntmps8
  go_wp2_with fail
  go_loopw [7] (fun si wr => ∃ k : Nat, k ≤ told.length ∧ si = .int .i64 k ∧ Upd [] w wr ∧ findM (allM (told.take k)) slot = none) (fun si _ => told.length - (intOf si).toNat)
  case atStart => exact ⟨0, by omega, rfl, Upd.refl _ _, rfl⟩
  case round =>
    obtain ⟨k, hk, rfl, hu, hno⟩ := hrel
    have HU := hide hu; have HNO := hide hno
    clear hu hno
    by_cases hlt : k < told.length
    · have d5 : decide ((k : Int) < told.length) = true := by simp; omega
      have d5' : decide (k < told.length) = true := by simpa using hlt
      obtain ⟨t, hi⟩ : ∃ t, told[k]? = some t := ⟨_, List.getElem?_eq_getElem hlt⟩
      obtain ⟨b, off, xa, ca, xd, cd, rfl, hb, c3', c4', hva, hvd⟩ := HG.out k t hi
      obtain ⟨hbn, hbd⟩ := HB.out t (List.mem_of_getElem? hi)
      have HI := hide hi; have HBD := hide hbd; have HVA := hide hva
      obtain ⟨xd', cd', e1, hd1, hd2, hdg⟩ := dn_get hvd
      cases e1
      obtain ⟨xa', ca', e1, ha1, ha2⟩ := Row.slice hva
      cases e1
      have HDG := hide hdg; have C3 := hide c3'; have C4 := hide c4'
      simp only [maxLen] at hd2
      clear hi hva hvd hdg c3' c4' hbd
      go_wp2_with fail
      go_loopw [8, 9] (fun sa sj wr => ∃ j : Nat, j ≤ t.done.length ∧ sj = .int .i64 j ∧ sa = .int .i64 ((min (ate (t.done.take j)) t.ans.length : Nat) : Int) ∧ Upd [] w wr ∧ findM (partedM (t.done.take j) t.ans) slot = none) (fun _ sj _ => t.done.length - (intOf sj).toNat)
      case atStart => exact ⟨0, by omega, rfl, by simp [ate], HU.out, rfl⟩
      case round =>
        obtain ⟨j, hj, rfl, rfl, hu2, hno2⟩ := hrel
        have HU2 := hide hu2; have HNO2 := hide hno2
        have c3 := cell_upd C3.out hu2 (by simp)
        have c4 := cell_upd C4.out hu2 (by simp)
        clear hu2 hno2
        obtain ⟨A, hA⟩ : ∃ A, min (ate (t.done.take j)) t.ans.length = A := ⟨_, rfl⟩
        have hAl : A ≤ t.ans.length := by omega
        rw [hA]
        have HA := hide hA
        clear hA
        by_cases hjl : j < t.done.length
        · have d6 : decide ((j : Int) < t.done.length) = true := by simp; omega
          have d6' : decide (j < t.done.length) = true := by simpa using hjl
          obtain ⟨d, hdi⟩ : ∃ d, t.done[j]? = some d := ⟨_, List.getElem?_eq_getElem hjl⟩
          obtain ⟨bd, od, yo, ym, yc, rfl, hbd, y0', y1', hsb, hyc, hds⟩ := HDG.out j d hdi
          have y0 := cell_upd y0' HU2.out (by simp)
          have y1 := cell_upd y1' HU2.out (by simp)
          have hdb := HBD.out d (List.mem_of_getElem? hdi)
          have hmore := ate_more hdi
          have HDI := hide hdi; have HSB := hide hsb; have HMO := hide hmore; have Y0 := hide y0'
          clear hdi hsb y0' y1' hmore
          go_wp2_with fail
          refine (parse_any (bs := d.2) _ (HC.out.upd_nil HU2.out) (src_upd_nil HSB.out HU2.out) hyc hdb).mono ?_
          obtain ⟨pl, pe, hpm⟩ : ∃ pl pe, parseM d.2 = (pl, pe) := ⟨_, _, rfl⟩
          have hpl := (parseM_says d.2).1
          have hmo := HMO.out
          rw [hpm] at hpl hmo ⊢
          simp only at hpl hmo ⊢
          rintro e1 w3 ⟨⟨v', rfl, hr1⟩, hu3⟩
          obtain ⟨pa, pc, rfl, hpc, hpcm⟩ := Row.slice hr1
          have U3 := hide (HU2.out.trans hu3); have PM := hide hpm; have R1 := hide hr1; have MO := hide hmo
          have hs3 := HU2.out.size
          have x0 := cell_upd Y0.out U3.out (by simp)
          have x3 := cell_upd C3.out U3.out (by simp)
          have x4 := cell_upd C4.out U3.out (by simp)
          clear hpm hr1 hu3 hmo c3 c4 y0 y1
          by_cases hm : t.ans.length < A + pl.length
          · have hmi : (t.ans.length : Int) < (A : Int) + (pl.length : Int) := by omega
            have hsl := run_cutz_lh (P := Tryd.prog) 28 62 4 Tryd.underlying28 sizeA xa t.ans.length ca A (t.ans.length) A (t.ans.length) rfl (by simp) (by omega) (by omega)
            by_cases hsd : d.1 = slot
            · have q1 : ((d.1 : Int) == (slot : Int)) = true := by simp; omega
              have hc := Row.cut (lo := A) (hi := t.ans.length) (q := ca) HVA.out (by omega) (by omega) (by omega) (Nat.le_refl _)
              have hcf := cut_first t.ans (ate (t.done.take j)) pl.length
              rw [HA.out, show min (A + pl.length) t.ans.length = t.ans.length by omega] at hcf
              have hf := findM_hit HI.out HDI.out HNO.out HNO2.out hsd
              rw [PM.out, ← hcf] at hf
              simp only at hf
              have HF := hide hf; have HCC := hide hc
              clear hf hcf hc hsd
              go_wp2_with fail
              go_quiet (fail)
              go_wp2_with fail
              go_ret3
              exact ⟨.inr ⟨_, _, _, HF.out, rfl, cmK.row_upd_nil (cmK.row_mono R1.out (fun g hg => ⟨by have := hg.1; omega, hg.2⟩)) ((Upd.refl _ _).drewN _), anK.row_upd_nil HCC.out (U3.out.drewN _)⟩, U3.out.drewN _⟩
            · have q1 : ((d.1 : Int) == (slot : Int)) = false := by simp; omega
              have hp := findM_pass HDI.out HNO2.out hsd
              have HP := hide hp
              clear hp hsd
              go_wp2_with fail
              go_roundw
              case rel => exact ⟨j + 1, by omega, by go_num, congrArg (Value.int .i64) (by have := HA.out; have := MO.out; omega), U3.out, HP.out⟩
              case measure => simp [intOf]; omega
          · have hmi : ¬ (t.ans.length : Int) < (A : Int) + (pl.length : Int) := by omega
            have hsl := run_cutz_lh (P := Tryd.prog) 28 62 4 Tryd.underlying28 sizeA xa t.ans.length ca A (A + pl.length) A ((A : Int) + (pl.length : Int)) rfl (by simp) (by omega) (by omega)
            by_cases hsd : d.1 = slot
            · have q1 : ((d.1 : Int) == (slot : Int)) = true := by simp; omega
              have hc := Row.cut (lo := A) (hi := A + pl.length) (q := ca) HVA.out (by omega) (by omega) (by omega) (Nat.le_refl _)
              have hcf := cut_first t.ans (ate (t.done.take j)) pl.length
              rw [HA.out, show min (A + pl.length) t.ans.length = A + pl.length by omega, Nat.add_sub_cancel_left] at hcf
              rw [Nat.add_sub_cancel_left] at hc
              have hf := findM_hit HI.out HDI.out HNO.out HNO2.out hsd
              rw [PM.out, ← hcf] at hf
              simp only at hf
              have HF := hide hf; have HCC := hide hc
              clear hf hcf hc hsd
              go_wp2_with fail
              go_quiet (fail)
              go_wp2_with fail
              go_ret3
              exact ⟨.inr ⟨_, _, _, HF.out, rfl, cmK.row_upd_nil (cmK.row_mono R1.out (fun g hg => ⟨by have := hg.1; omega, hg.2⟩)) ((Upd.refl _ _).drewN _), anK.row_upd_nil HCC.out (U3.out.drewN _)⟩, U3.out.drewN _⟩
            · have q1 : ((d.1 : Int) == (slot : Int)) = false := by simp; omega
              have hp := findM_pass HDI.out HNO2.out hsd
              have HP := hide hp
              clear hp hsd
              go_wp2_with fail
              go_roundw
              case rel => exact ⟨j + 1, by omega, by go_num, congrArg (Value.int .i64) (by have := HA.out; have := MO.out; omega), U3.out, HP.out⟩
              case measure => simp [intOf]; omega
        · have d6 : decide ((j : Int) < t.done.length) = false := by simp; omega
          have d6' : decide (j < t.done.length) = false := by simpa using hjl
          have hn2 := HNO2.out
          rw [List.take_of_length_le (by omega)] at hn2
          have hn3 := allM_take HI.out HNO.out hn2
          have HN3 := hide hn3
          clear hn2 hn3
          go_wp2_with fail
          go_roundw
          case rel => exact ⟨k + 1, by omega, by go_num, HU2.out, HN3.out⟩
          case measure => simp [intOf]; omega
    · have d5 : decide ((k : Int) < told.length) = false := by simp; omega
      have d5' : decide (k < told.length) = false := by simpa using hlt
      have hn := HNO.out
      rw [List.take_of_length_le (by omega)] at hn
      have HN := hide hn
      clear hn
      go_wp2_with fail
      go_ret3
      exact ⟨.inl ⟨HN.out, rfl⟩, HU.out⟩
end Go.Proofs.YtloaceaomljeiaaDoor.Tr
