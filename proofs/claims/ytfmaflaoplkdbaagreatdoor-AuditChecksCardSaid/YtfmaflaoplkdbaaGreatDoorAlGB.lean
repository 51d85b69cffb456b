/- AlG, AlB in one text. -/
import Derived.Test.YtfmaflaoplkdbaaGreatDoorAuKH
import Derived.Test.YtfmaflaoplkdbaaGreatDoorPureAll
import Derived.Test.YtfmaflaoplkdbaaGreatDoorAuBCDE
set_option linter.unusedSimpArgs false
set_option linter.unusedVariables false
set_option linter.unnecessarySimpa false
namespace Go.Proofs.YtfmaflaoplkdbaaGreatDoor.Au
open Go.RowKit Go.Proofs.YtfmaflaoplkdbaaGreatDoor.Crc Go.Proofs.YtfmaflaoplkdbaaGreatDoor.Cm Go.Proofs.YtfmaflaoplkdbaaGreatDoor.Tr
set_option linter.unusedSimpArgs false
set_option linter.unusedVariables false

def SmallT (told : List To) : Prop := told.length ≤ 40 ∧ ∀ t ∈ told, t.done.length ≤ 20 ∧ t.ans.length ≤ 60 ∧ ∀ d ∈ t.done, d.2.length ≤ 2000
def GreatA (told : List To) (e : Ending) : Prop := e = .returned (.bool true) ∨ (e = .returned (.bool false) ∧ SmallT told)
theorem all_get {X : Type} {P : X → Prop} {l : List X} (h : ∀ (i : Nat) (x : X), l[i]? = some x → P x) : ∀ x ∈ l, P x := fun x hx => by
  obtain ⟨i, hi⟩ := List.mem_iff_getElem?.1 hx
  exact h i x hi
set_option maxRecDepth 100000 in
set_option maxHeartbeats 4000000 in
theorem great_any {T U : Nat → Prop} {lv tv : Value} {l : List En} {told : List To} (w : World) (hl : enK.row w U lv l) (ht : toK.row w T tv told) :
    Calls Tryz.prog 13 #[lv, tv] w fun e w' => GreatA told e ∧ Upd [] w w' := by
  obtain ⟨xl, cpl, rfl, h1, h2⟩ := Row.slice hl
  obtain ⟨xo, cp, rfl, h3, h4⟩ := Row.slice ht
  have HL := hide hl; have HT := hide ht
  simp only [maxLen] at h2 h4
  clear hl ht
  go_enter Tryz.func13, Tryz.ntmps13
  by_cases g1 : 40 < l.length
  · have d1 : decide ((40 : Int) < (l.length : Int)) = true := by simp; omega
    go_wp2_with fail
    go_ret
    exact ⟨.inl rfl, Upd.refl _ _⟩
  have d1 : decide ((40 : Int) < (l.length : Int)) = false := by simp; omega
  by_cases g2 : 40 < told.length
  · have d2 : decide ((40 : Int) < (told.length : Int)) = true := by simp; omega
    go_wp2_with fail
    go_ret
    exact ⟨.inl rfl, Upd.refl _ _⟩
  have d2 : decide ((40 : Int) < (told.length : Int)) = false := by simp; omega
  go_wp2_with fail
  go_loopw [5] (fun si wr => ∃ k : Nat, k ≤ l.length ∧ si = .int .i64 k ∧ Upd [] w wr) (fun si _ => l.length - (intOf si).toNat)
  case atStart => exact ⟨0, by omega, rfl, Upd.refl _ _⟩
  case round =>
    obtain ⟨k, hk, rfl, hu⟩ := hrel
    have HU := hide hu
    clear hu
    by_cases hlt : k < l.length
    · have d5 : decide ((k : Int) < l.length) = true := by simp; omega
      have d5' : decide (k < l.length) = true := by simpa using hlt
      obtain ⟨e, hi⟩ : ∃ e, l[k]? = some e := ⟨_, List.getElem?_eq_getElem hlt⟩
      obtain ⟨b, off, xk, ck, rfl, fit, hks, -, c0, c1, c2, c3, c4, c5, c6⟩ := en_at (enK.row_upd_nil HL.out HU.out) hi
      obtain ⟨f0, f1, f2, f3, f4, f5, f6, f7, f8⟩ := fit
      obtain ⟨xk', ck', ek, k1, k2, hkg⟩ := hks.get
      cases ek
      simp only [maxLen] at k2
      have HKG := hide hkg
      have lo : (strOf e.cmd.old).size = e.cmd.old.length := by show e.cmd.old.toArray.size = _; simp
      have ln : (strOf e.cmd.new).size = e.cmd.new.length := by show e.cmd.new.toArray.size = _; simp
      clear hi hks hkg
      by_cases g3 : 20 < e.cmd.keys.length
      · have d3 : decide ((20 : Int) < (e.cmd.keys.length : Int)) = true := by simp; omega
        go_wp2_with fail
        go_ret
        exact ⟨.inl rfl, HU.out.trans ((Upd.refl _ _).alloc _)⟩
      have d3 : decide ((20 : Int) < (e.cmd.keys.length : Int)) = false := by simp; omega
      by_cases g4 : 80 < e.cmd.old.length
      · have d4 : decide ((80 : Int) < (e.cmd.old.length : Int)) = true := by simp; omega
        go_wp2_with fail
        go_ret
        exact ⟨.inl rfl, HU.out.trans ((Upd.refl _ _).alloc _)⟩
      have d4 : decide ((80 : Int) < (e.cmd.old.length : Int)) = false := by simp; omega
      by_cases g5 : 80 < e.cmd.new.length
      · have d8 : decide ((80 : Int) < (e.cmd.new.length : Int)) = true := by simp; omega
        go_wp2_with fail
        go_ret
        exact ⟨.inl rfl, HU.out.trans ((Upd.refl _ _).alloc _)⟩
      have d8 : decide ((80 : Int) < (e.cmd.new.length : Int)) = false := by simp; omega
      go_upto_region 10 with fail
      have hB := blk_new wr (.cells (cmc e.cmd (.slice xk e.cmd.keys.length ck)).toArray TCmd)
      have hal := (Upd.refl [] wr).alloc (.cells (cmc e.cmd (.slice xk e.cmd.keys.length ck)).toArray TCmd)
      change Code.wp _ _ _ _ (wr.alloc (.cells (cmc e.cmd (.slice xk e.cmd.keys.length ck)).toArray TCmd))
      generalize wr.alloc (.cells (cmc e.cmd (.slice xk e.cmd.keys.length ck)).toArray TCmd) = w3 at *
      obtain ⟨B, hBs⟩ : ∃ B, wr.heap.size = B := ⟨_, rfl⟩
      rw [hBs] at hB ⊢
      have HB := hide hB; have HA := hide hal
      clear hB hal hBs c0 c1 c2 c3 c4 c5 c6
      go_loopw [7] (fun sj wq => ∃ j : Nat, j ≤ e.cmd.keys.length ∧ sj = .int .i64 j ∧ Upd [] w3 wq) (fun sj _ => e.cmd.keys.length - (intOf sj).toNat)
      case atStart => exact ⟨0, by omega, rfl, Upd.refl _ _⟩
      case round =>
        obtain ⟨j, hj, rfl, hu⟩ := hrel
        have y3 : wr.cell? ⟨B, 3, none⟩ = some (.slice xk e.cmd.keys.length ck) := blk_cell (hu.get HB.out (by simp)) rfl
        have HU3 := hide hu
        clear hu
        by_cases hjl : j < e.cmd.keys.length
        · have d6 : decide ((j : Int) < e.cmd.keys.length) = true := by simp; omega
          have d6' : decide (j < e.cmd.keys.length) = true := by simpa using hjl
          obtain ⟨s, hs⟩ : ∃ s, e.cmd.keys[j]? = some s := ⟨_, List.getElem?_eq_getElem hjl⟩
          obtain ⟨bk, ok, rfl, hbk, hck⟩ := HKG.out j s hs
          have hck2 := cellU hck (HA.out.trans HU3.out) (by simp)
          have hsl := f8 s (List.mem_of_getElem? hs)
          have lk : (strOf s).size = s.length := by show s.toArray.size = _; simp
          clear hs hck
          by_cases g6 : 80 < s.length
          · have d7 : decide ((80 : Int) < (s.length : Int)) = true := by simp; omega
            go_wp2_with fail
            go_ret
            exact ⟨.inl rfl, HU.out.trans (HA.out.trans HU3.out)⟩
          have d7 : decide ((80 : Int) < (s.length : Int)) = false := by simp; omega
          go_wp2_with fail
          go_roundw
          case rel => exact ⟨j + 1, by omega, by go_num, HU3.out⟩
          case measure => simp [intOf]; omega
        · have d6 : decide ((j : Int) < e.cmd.keys.length) = false := by simp; omega
          have d6' : decide (j < e.cmd.keys.length) = false := by simpa using hjl
          go_wp2_with fail
          go_roundw
          case rel => exact ⟨k + 1, by omega, by go_num, HU.out.trans (HA.out.trans HU3.out)⟩
          case measure => simp [intOf]; omega
    · have d5 : decide ((k : Int) < l.length) = false := by simp; omega
      have d5' : decide (k < l.length) = false := by simpa using hlt
      go_wp2_with fail
      go_loopw [8] (fun si wq => ∃ k : Nat, k ≤ told.length ∧ si = .int .i64 k ∧ Upd [] w wq ∧ ∀ i t, i < k → told[i]? = some t → t.done.length ≤ 20 ∧ t.ans.length ≤ 60 ∧ ∀ d ∈ t.done, d.2.length ≤ 2000) (fun si _ => told.length - (intOf si).toNat)
      case atStart => exact ⟨0, by omega, rfl, HU.out, by omega⟩
      case round =>
        obtain ⟨k, hk, rfl, hu, hall⟩ := hrel
        have HALL := hide hall; have HU := hide hu
        clear hall hu
        by_cases hlt : k < told.length
        · have d5 : decide ((k : Int) < told.length) = true := by simp; omega
          have d5' : decide (k < told.length) = true := by simpa using hlt
          obtain ⟨t, hi⟩ : ∃ t, told[k]? = some t := ⟨_, List.getElem?_eq_getElem hlt⟩
          obtain ⟨b, off, xa, ca, xd, cd, rfl, -, c3, c4, -, hvd, -, hd2⟩ := to_at (toK.row_upd_nil HT.out HU.out) hi
          have HI := hide hi; have HVD := hide hvd
          clear hi hvd
          by_cases h20 : 20 < t.done.length
          · have d2 : decide ((20 : Int) < (t.done.length : Int)) = true := by simp; omega
            go_wp2_with fail
            go_ret
            exact ⟨.inl rfl, HU.out⟩
          have d2 : decide ((20 : Int) < (t.done.length : Int)) = false := by simp; omega
          by_cases h100 : 60 < t.ans.length
          · have d3 : decide ((60 : Int) < (t.ans.length : Int)) = true := by simp; omega
            go_wp2_with fail
            go_ret
            exact ⟨.inl rfl, HU.out⟩
          have d3 : decide ((60 : Int) < (t.ans.length : Int)) = false := by simp; omega
          go_wp2_with fail
          go_loopw [9] (fun sj wq2 => ∃ j : Nat, j ≤ t.done.length ∧ sj = .int .i64 j ∧ Upd [] wr wq2 ∧ ∀ i d, i < j → t.done[i]? = some d → d.2.length ≤ 2000) (fun sj _ => t.done.length - (intOf sj).toNat)
          case atStart => exact ⟨0, by omega, rfl, Upd.refl _ _, by omega⟩
          case round =>
            obtain ⟨j, hj, rfl, hu2, hal2⟩ := hrel
            have HAL2 := hide hal2; have HU2 := hide hu2
            have c4 := cellU c4 hu2 (by simp)
            clear hal2 hu2 c3
            by_cases hjl : j < t.done.length
            · have d6 : decide ((j : Int) < t.done.length) = true := by simp; omega
              have d6' : decide (j < t.done.length) = true := by simpa using hjl
              obtain ⟨d, hdi⟩ : ∃ d, t.done[j]? = some d := ⟨_, List.getElem?_eq_getElem hjl⟩
              obtain ⟨bd, od, yo, ym, yc, rfl, y0, y1, -, hmc, hcm, -, hdl⟩ := dn_at (dnK.row_upd_nil HVD.out HU2.out) hdi
              simp only [maxLen] at hcm
              have HDI := hide hdi; have HDL := hide hdl
              clear hdi hdl
              by_cases h2k : 2000 < ym
              · have d7 : decide ((2000 : Int) < (ym : Int)) = true := by simp; omega
                go_wp2_with fail
                go_ret
                exact ⟨.inl rfl, HU.out.trans HU2.out⟩
              have d7 : decide ((2000 : Int) < (ym : Int)) = false := by simp; omega
              go_wp2_with fail
              go_roundw
              case rel => exact ⟨j + 1, by omega, by go_num, HU2.out, fun i d' hi hd' => by
                rcases Nat.lt_or_ge i j with h | h
                · exact HAL2.out i d' h hd'
                · rw [show i = j by omega, HDI.out] at hd'; cases hd'; have := HDL.out; omega⟩
              case measure => simp [intOf]; omega
            · have d6 : decide ((j : Int) < t.done.length) = false := by simp; omega
              have d6' : decide (j < t.done.length) = false := by simpa using hjl
              have hal3 : ∀ d ∈ t.done, d.2.length ≤ 2000 := all_get fun i d hd => HAL2.out i d (by have := (List.getElem?_eq_some_iff.1 hd).1; omega) hd
              have HAL3 := hide hal3
              clear hal3
              go_wp2_with fail
              go_roundw
              case rel => exact ⟨k + 1, by omega, by go_num, HU.out.trans HU2.out, fun i t' hi ht' => by
                rcases Nat.lt_or_ge i k with h | h
                · exact HALL.out i t' h ht'
                · rw [show i = k by omega, HI.out] at ht'; cases ht'; exact ⟨by omega, by omega, HAL3.out⟩⟩
              case measure => simp [intOf]; omega
        · have d5 : decide ((k : Int) < told.length) = false := by simp; omega
          have d5' : decide (k < told.length) = false := by simpa using hlt
          have hsm : SmallT told := ⟨by omega, all_get fun i t ht => HALL.out i t (by have := (List.getElem?_eq_some_iff.1 ht).1; omega) ht⟩
          have HSM := hide hsm
          clear hsm
          go_wp2_with fail
          go_ret
          exact ⟨.inr ⟨rfl, HSM.out⟩, HU.out⟩
end Go.Proofs.YtfmaflaoplkdbaaGreatDoor.Au
namespace Go.Proofs.YtfmaflaoplkdbaaGreatDoor.Au
open Go.RowKit Go.Proofs.YtfmaflaoplkdbaaGreatDoor.Crc Go.Proofs.YtfmaflaoplkdbaaGreatDoor.Cm Go.Proofs.YtfmaflaoplkdbaaGreatDoor.Tr
set_option linter.unusedSimpArgs false
set_option linter.unusedVariables false

theorem dones_le {told : List To} {j n : Nat} (h : j ≤ n) : ∃ r, dones told n = dones told j ++ r := by
  unfold dones
  refine ⟨((told.take n).drop j).flatMap (·.done), ?_⟩
  rw [← List.flatMap_append]
  congr 1
  conv => lhs; rw [← List.take_append_drop j (told.take n)]
  rw [List.take_take, Nat.min_eq_left h]
theorem findD_le {told : List To} {j n s : Nat} {b : List UInt8} (hj : j ≤ n) (h : findD (dones told j) s = some b) : findD (dones told n) s = some b := by
  obtain ⟨r, e⟩ := dones_le (told := told) hj
  rw [e, findD_append, h, Option.some_or]
theorem findD_hit {told : List To} {i j q s : Nat} {t : To} {e : Dn} (hj : told[j]? = some t) (hji : j ≤ i) (h0 : findD (dones told j) s = none) (h1 : findD (t.done.take q) s = none) (hq : t.done[q]? = some e) (hs : e.1 = s) : findD (dones told (i + 1)) s = some e.2 := by
  refine findD_le (j := j + 1) (by omega) ?_
  rw [dones_next hj, findD_append, h0, Option.none_or]
  have e2 : t.done = t.done.take q ++ t.done.drop q := (List.take_append_drop q _).symm
  rw [e2, findD_append, h1, Option.none_or]
  obtain ⟨hlt, he⟩ := List.getElem?_eq_some_iff.1 hq
  rw [List.drop_eq_getElem_cons hlt, he]
  simp [findD, hs]
theorem findD_snoc {ds : List Dn} {k s : Nat} {d : Dn} (hd : ds[k]? = some d) : findD (ds.take (k + 1)) s = (findD (ds.take k) s).or (if s = d.1 then some d.2 else none) := by
  have := findD_seen (L := []) (s := s) hd
  simpa using this
theorem findD_own {told : List To} {i k : Nat} {t : To} {d : Dn} (hi : told[i]? = some t) (hd : t.done[k]? = some d) (h : findD (dones told (i + 1)) d.1 = none) : False := by
  rw [dones_next hi] at h
  exact findD_none.1 h d (List.mem_append_right _ (List.mem_of_getElem? hd)) rfl
set_option maxRecDepth 100000 in
set_option maxHeartbeats 8000000 in
theorem batches_any {T : Nat → Prop} {tv : Value} {told : List To} {t : To} {i : Nat} (w : World) (ht : toK.row w T tv told) (hi : told[i]? = some t) :
    Calls Tryz.prog 16 #[tv, .int .i64 (i : Int)] w fun e w' => e = .returned (.bool (b1 told i t)) ∧ Upd [] w w' := by
  obtain ⟨xo, cp, rfl, h3, h4⟩ := Row.slice ht
  have HT := hide ht; have HI := hide hi
  simp only [maxLen] at h4
  have hlt := (List.getElem?_eq_some_iff.1 hi).1
  have dI : decide ((i : Int) < told.length) = true := by simp; omega
  have dI' : decide (0 ≤ (i : Int)) = true := by simp
  obtain ⟨P, hP⟩ : ∃ P : Dn → Bool, P = fun d => !decide (findD (dones told (i + 1)) d.1 = some d.2) := ⟨_, rfl⟩
  have hb1 : b1 told i t = t.done.any P := by unfold b1; rw [hP, dones_next hi]
  rw [hb1]
  have HP := hide hP
  clear ht hi hP hb1
  go_enter Tryz.func16, Tryz.ntmps16
  go_wp2_with fail
  go_loopw [5] (fun si wr => ∃ k : Nat, k ≤ t.done.length ∧ si = .int .i64 k ∧ Upd [] w wr ∧ ∀ d ∈ t.done.take k, P d = false) (fun si _ => t.done.length - (intOf si).toNat)
  case atStart => exact ⟨0, by omega, rfl, Upd.refl _ _, by simp⟩
  case round =>
    obtain ⟨k, hk, rfl, hu, hall⟩ := hrel
    have HALL := hide hall; have HU := hide hu
    clear hall hu
    obtain ⟨b, off, xa, ca, xd, cd, rfl, -, -, c4, -, hvd, -, hd2⟩ := to_at (toK.row_upd_nil HT.out HU.out) HI.out
    have HVD := hide hvd
    clear hvd
    by_cases hkl : k < t.done.length
    · have d5 : decide ((k : Int) < t.done.length) = true := by simp; omega
      have d5' : decide (k < t.done.length) = true := by simpa using hkl
      obtain ⟨d, hd⟩ : ∃ d, t.done[k]? = some d := ⟨_, List.getElem?_eq_getElem hkl⟩
      obtain ⟨bd, od, xb, n, c, rfl, y0, y1, hsrc, hnc, hcm, hs, hdl⟩ := dn_at HVD.out hd
      have HD := hide hd; have SRC := hide hsrc
      have hk1 : k + 1 ≤ t.done.length := by omega
      clear hd hsrc
      go_upto_region 5 with fail
      have hB := blk_new wr (.cells #[.int .u64 (d.1 : Int), .slice xb n c] 34)
      have hal := (Upd.refl [] wr).alloc (.cells #[.int .u64 (d.1 : Int), .slice xb n c] 34)
      change Code.wp _ _ _ _ (wr.alloc (.cells #[.int .u64 (d.1 : Int), .slice xb n c] 34))
      generalize wr.alloc (.cells #[.int .u64 (d.1 : Int), .slice xb n c] 34) = w1 at *
      obtain ⟨B, hBs⟩ : ∃ B, wr.heap.size = B := ⟨_, rfl⟩
      rw [hBs] at hB ⊢
      have B1 := hide hB; have U1 := hide (HU.out.trans hal); have S1 := hide (src_upd_nil SRC.out hal)
      clear hB hal hBs y0 y1 c4 SRC HVD
      go_wp2_with fail
      go_loopw [7] (fun sj wq => ∃ j : Nat, j ≤ i + 1 ∧ sj = .int .i64 j ∧ Upd [] w1 wq ∧ findD (dones told j) d.1 = none) (fun sj _ => i + 1 - (intOf sj).toNat)
      case atStart => exact ⟨0, by omega, rfl, Upd.refl _ _, rfl⟩
      case round =>
        obtain ⟨j, hj, rfl, hu, hno⟩ := hrel
        have HU2 := hide hu; have NO := hide hno
        clear hu hno
        by_cases hji : j ≤ i
        · have d6 : decide ((j : Int) ≤ (i : Int)) = true := by simp; omega
          have d6' : decide (j ≤ i) = true := by simpa using hji
          have dj : decide ((j : Int) < told.length) = true := by simp; omega
          obtain ⟨tj, htj⟩ : ∃ tj, told[j]? = some tj := ⟨_, List.getElem?_eq_getElem (by omega)⟩
          obtain ⟨b', off', xa', ca', xe, ce, e1, -, -, c4, -, hvd, -, hd3⟩ := to_at (toK.row_upd_nil HT.out (U1.out.trans HU2.out)) htj
          cases e1
          have HVD := hide hvd; have HTJ := hide htj
          clear hvd htj
          go_wp2_with fail
          go_loopw [8, 9] (fun sf sm wx => ∃ m : Nat, m ≤ tj.done.length ∧ sm = .int .i64 m ∧ Upd [] wr wx ∧ ((sf = .int .i64 (-1) ∧ findD (tj.done.take m) d.1 = none) ∨ ∃ (q : Nat) (e : Dn), sf = .int .i64 q ∧ tj.done[q]? = some e ∧ e.1 = d.1 ∧ findD (tj.done.take q) d.1 = none)) (fun _ sm _ => tj.done.length - (intOf sm).toNat)
          case atStart => exact ⟨0, by omega, rfl, Upd.refl _ _, .inl ⟨rfl, rfl⟩⟩
          case round =>
            obtain ⟨m, hm, rfl, hu3, hcase⟩ := hrel
            have c4 := cellU c4 hu3 (by simp)
            have HU3 := hide hu3
            clear hu3
            rcases hcase with ⟨rfl, hnm⟩ | ⟨q, e, rfl, hq, heq, hnq⟩
            · have NM := hide hnm
              clear hnm
              by_cases hml : m < tj.done.length
              · have d7 : decide ((m : Int) < tj.done.length) = true := by simp; omega
                have d7' : decide (m < tj.done.length) = true := by simpa using hml
                obtain ⟨e, he⟩ : ∃ e, tj.done[m]? = some e := ⟨_, List.getElem?_eq_getElem hml⟩
                obtain ⟨be, oe, xc, nc, cc, rfl, z0, z1, -, -, -, -, -⟩ := dn_at (dnK.row_upd_nil HVD.out HU3.out) he
                have HE := hide he
                have hm1 : m + 1 ≤ tj.done.length := by omega
                clear he z1
                have b0 : wr.cell? ⟨B, 0, none⟩ = some (.int .u64 (d.1 : Int)) := blk_cell ((HU2.out.trans HU3.out).get B1.out (by simp)) rfl
                by_cases hes : e.1 = d.1
                · have d8 : ((e.1 : Int) == (d.1 : Int)) = true := by simp [hes]
                  have d8' : decide ((e.1 : Int) = (d.1 : Int)) = true := by simp [hes]
                  have HES := hide hes
                  clear hes
                  go_wp2_with fail
                  go_quiet (fail)
                  go_wp2_with fail
                  go_roundw
                  case rel => exact ⟨m + 1, hm1, by go_num, HU3.out.drewN _, .inr ⟨m, e, rfl, HE.out, HES.out, NM.out⟩⟩
                  case measure => simp [intOf]; omega
                · have d8 : ((e.1 : Int) == (d.1 : Int)) = false := by simp; omega
                  have d8' : decide ((e.1 : Int) = (d.1 : Int)) = false := by simp; omega
                  have hnn : findD (tj.done.take (m + 1)) d.1 = none := by
                    rw [findD_snoc HE.out, NM.out, if_neg (fun h => hes h.symm)]
                    rfl
                  have NN := hide hnn
                  clear hes hnn
                  go_wp2_with fail
                  go_quiet (fail)
                  go_wp2_with fail
                  go_roundw
                  case rel => exact ⟨m + 1, hm1, by go_num, HU3.out.drewN _, .inl ⟨rfl, NN.out⟩⟩
                  case measure => simp [intOf]; omega
              · have d7 : decide ((m : Int) < tj.done.length) = false := by simp; omega
                have d7' : decide (m < tj.done.length) = false := by simpa using hml
                have hnx : findD (dones told (j + 1)) d.1 = none := by
                  have h5 := NM.out
                  rw [List.take_of_length_le (by omega)] at h5
                  rw [dones_next HTJ.out, findD_append, NO.out, h5]
                  rfl
                have NX := hide hnx
                clear hnx
                go_wp2_with fail
                go_roundw
                case rel => exact ⟨j + 1, by omega, by go_num, HU2.out.trans HU3.out, NX.out⟩
                case measure => simp [intOf]; omega
            · have hql := (List.getElem?_eq_some_iff.1 hq).1
              have dq : decide ((q : Int) < 0) = false := by simp
              have dq' : decide (0 ≤ (q : Int)) = true := by simp
              have dql : decide ((q : Int) < tj.done.length) = true := by simp; omega
              have hfd := findD_hit HTJ.out hji NO.out hnq hq heq
              obtain ⟨be, oe, xc, nc, cc, rfl, z0, z1, zs, hcc, hcm2, -, hel⟩ := dn_at (dnK.row_upd_nil HVD.out HU3.out) hq
              have b1' : wr.cell? ⟨B, 1, none⟩ = some (.slice xb n c) := blk_cell ((HU2.out.trans HU3.out).get B1.out (by simp)) rfl
              have r1 := fun k => run_str (src_upd_nil zs ((Upd.refl [] _).drewN k))
              have r2 := fun k => run_str (src_upd_nil (src_upd_nil S1.out (HU2.out.trans HU3.out)) ((Upd.refl [] wr).drewN k))
              have HFD := hide hfd
              clear hfd hnq hq heq zs z0
              by_cases hbe : e.2 = d.2
              · have d8 : ((strOf e.2).toList != (strOf d.2).toList) = false := by simp [bne, strOf_eq, hbe]
                have d9 : ((strOf e.2).toList == (strOf d.2).toList) = true := by rw [strOf_eq, decide_eq_true hbe]
                have hPd : P d = false := by rw [HP.out]; simp [HFD.out, hbe]
                have PD := hide hPd
                clear hbe hPd
                by_cases hml : m < tj.done.length
                · have d7 : decide ((m : Int) < tj.done.length) = true := by simp; omega
                  go_wp2_with fail
                  go_quiet (fail)
                  go_wp2_with fail
                  go_roundw
                  case rel =>
                    refine ⟨k + 1, hk1, by go_num, U1.out.trans ((HU2.out.trans HU3.out).drewN _), fun x hx => ?_⟩
                    rw [show t.done.take (k + 1) = t.done.take k ++ [d] from by obtain ⟨hlt, he⟩ := List.getElem?_eq_some_iff.1 HD.out; rw [List.take_succ_eq_append_getElem hlt, he]] at hx
                    rcases List.mem_append.1 hx with h5 | h5
                    · exact HALL.out x h5
                    · simp only [List.mem_singleton] at h5; rw [h5]; exact PD.out
                  case measure => simp [intOf]; omega
                · have d7 : decide ((m : Int) < tj.done.length) = false := by simp; omega
                  go_wp2_with fail
                  go_quiet (fail)
                  go_wp2_with fail
                  go_roundw
                  case rel =>
                    refine ⟨k + 1, hk1, by go_num, U1.out.trans ((HU2.out.trans HU3.out).drewN _), fun x hx => ?_⟩
                    rw [show t.done.take (k + 1) = t.done.take k ++ [d] from by obtain ⟨hlt, he⟩ := List.getElem?_eq_some_iff.1 HD.out; rw [List.take_succ_eq_append_getElem hlt, he]] at hx
                    rcases List.mem_append.1 hx with h5 | h5
                    · exact HALL.out x h5
                    · simp only [List.mem_singleton] at h5; rw [h5]; exact PD.out
                  case measure => simp [intOf]; omega
              · have d8 : ((strOf e.2).toList != (strOf d.2).toList) = true := by simp [bne, strOf_eq, hbe]
                have d9 : ((strOf e.2).toList == (strOf d.2).toList) = false := by rw [strOf_eq, decide_eq_false hbe]
                have hPd : P d = true := by rw [HP.out]; simp [HFD.out, hbe]
                have hany : t.done.any P = true := List.any_eq_true.2 ⟨d, List.mem_of_getElem? HD.out, hPd⟩
                have PA := hide hany
                clear hbe hPd hany
                by_cases hml : m < tj.done.length
                · have d7 : decide ((m : Int) < tj.done.length) = true := by simp; omega
                  go_wp2_with fail
                  go_quiet (fail)
                  go_wp2_with fail
                  go_ret
                  rw [PA.out]
                  exact ⟨rfl, U1.out.trans ((HU2.out.trans HU3.out).drewN _)⟩
                · have d7 : decide ((m : Int) < tj.done.length) = false := by simp; omega
                  go_wp2_with fail
                  go_quiet (fail)
                  go_wp2_with fail
                  go_ret
                  rw [PA.out]
                  exact ⟨rfl, U1.out.trans ((HU2.out.trans HU3.out).drewN _)⟩
        · have d6 : decide ((j : Int) ≤ (i : Int)) = false := by simp; omega
          have hje : j = i + 1 := by omega
          exact (findD_own HI.out HD.out (by have := NO.out; rwa [hje] at this)).elim
    · have d5 : decide ((k : Int) < t.done.length) = false := by simp; omega
      have d5' : decide (k < t.done.length) = false := by simpa using hkl
      have hall := HALL.out
      rw [List.take_of_length_le (by omega)] at hall
      have hany : t.done.any P = false := List.any_eq_false.2 fun d hd => by rw [hall d hd]; simp
      have PA := hide hany
      clear hall hany
      go_wp2_with fail
      go_ret
      rw [PA.out]
      exact ⟨rfl, HU.out⟩
end Go.Proofs.YtfmaflaoplkdbaaGreatDoor.Au
