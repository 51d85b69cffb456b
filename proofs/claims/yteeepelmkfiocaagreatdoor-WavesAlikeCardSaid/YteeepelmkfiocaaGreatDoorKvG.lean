/- quoratelaw08.Great. -/
import Derived.Test.YteeepelmkfiocaaGreatDoorKvR
import Derived.Test.YteeepelmkfiocaaGreatDoorKvW
namespace Go.Proofs.YteeepelmkfiocaaGreatDoor.Kv
open Go.RowKit Go.Proofs.YteeepelmkfiocaaGreatDoor.Crc Go.Proofs.YteeepelmkfiocaaGreatDoor.Cm

def SmallC (c : Cm) : Prop := c.old.length ≤ 500 ∧ c.new.length ≤ 500 ∧ c.keys.length ≤ 100 ∧ ∀ k ∈ c.keys, k.length ≤ 500
def Small (l : List Cm) : Prop := l.length ≤ 100 ∧ ∀ c ∈ l, SmallC c
def GreatIs (l : List Cm) (e : Ending) : Prop := ∃ r, e = .returned (.bool r) ∧ (r = false → Small l)
theorem great_true (l : List Cm) : GreatIs l (.returned (.bool true)) := ⟨true, rfl, fun h => by cases h⟩
theorem great_false {l : List Cm} (h : Small l) : GreatIs l (.returned (.bool false)) := ⟨false, rfl, fun _ => h⟩
set_option maxRecDepth 100000 in
set_option maxHeartbeats 4000000 in
theorem great_any {T : Nat → Prop} {v : Value} {l : List Cm} (w : World) (h : cmK.row w T v l) :
    Calls Tryz.prog 5 #[v] w fun e w' => Upd [] w w' ∧ GreatIs l e := by
  obtain ⟨xo, cp, rfl, h1, h2, hg⟩ := cm_get h
  have HG := hide hg
  simp only [maxLen] at h2
  clear h hg
  go_enter Tryz.func5, Tryz.ntmps5
  by_cases hl : 100 < l.length
  · have d0 : decide ((100 : Int) < (l.length : Int)) = true := by simp; omega
    clear hl
    go_wp2_with fail
    go_ret
    exact ⟨Upd.refl _ _, great_true l⟩
  have d0 : decide ((100 : Int) < (l.length : Int)) = false := by simp; omega
  have HL := hide hl
  clear hl
  go_wp2_with fail
  go_loopw [3] (fun si wr => ∃ i : Nat, i ≤ l.length ∧ si = .int .i64 i ∧ Upd [] w wr ∧ ∀ j c, j < i → l[j]? = some c → SmallC c) (fun si _ => l.length - (RowKit.intOf si).toNat)
  case atStart => exact ⟨0, by omega, rfl, Upd.refl _ _, by omega⟩
  case round =>
    obtain ⟨i, hi, rfl, hu, hall⟩ := hrel
    have HALL := hide hall; have HU := hide hu
    clear hall hu
    by_cases hlt : i < l.length
    · have d5 : decide ((i : Int) < l.length) = true := by simp; omega
      have d5' : decide (i < l.length) = true := by simpa using hlt
      obtain ⟨c, hc⟩ : ∃ c, l[i]? = some c := ⟨_, List.getElem?_eq_getElem hlt⟩
      obtain ⟨b, off, ka, kc, rfl, hb, -, fit, hks, hcc⟩ := HG.out i c hc
      obtain ⟨c0, c1, c2, c3, c4, c5, c6⟩ := hcc.upd HU.out hb (by simp)
      obtain ⟨ka0, kc0, hka, hk1, hk2, hget⟩ := hks.get
      cases hka
      have so := strOf_size c.old
      have sn := strOf_size c.new
      have GK := hide hget; have HC := hide hc; have FIT := hide fit
      simp only [maxLen] at hk2
      clear hget hc fit hks hcc
      have hB := blk_new wr (.cells (cmc c (.slice ka c.keys.length kc)).toArray TCmd)
      have hU := HU.out.alloc (.cells (cmc c (.slice ka c.keys.length kc)).toArray TCmd)
      go_upto_region 7 with fail
      change Code.wp _ _ _ _ (wr.alloc (.cells (cmc c (.slice ka c.keys.length kc)).toArray TCmd))
      generalize wr.alloc (.cells (cmc c (.slice ka c.keys.length kc)).toArray TCmd) = W at *
      generalize wr.heap.size = B at *
      have UW := hide hU
      have x3 : W.cell? ⟨B, 3, none⟩ = some (.slice ka c.keys.length kc) := blk_cell hB rfl
      have x4 : W.cell? ⟨B, 4, none⟩ = some (.string (strOf c.old)) := blk_cell hB rfl
      have x5 : W.cell? ⟨B, 5, none⟩ = some (.string (strOf c.new)) := blk_cell hB rfl
      clear hB hU c0 c1 c2 c3 c4 c5 c6
      by_cases ho : 500 < c.old.length
      · have e1 : decide ((500 : Int) < (c.old.length : Int)) = true := by simp; omega
        clear ho
        go_wp2_with fail
        go_ret
        exact ⟨UW.out, great_true l⟩
      have e1 : decide ((500 : Int) < (c.old.length : Int)) = false := by simp; omega
      by_cases hn : 500 < c.new.length
      · have e2 : decide ((500 : Int) < (c.new.length : Int)) = true := by simp; omega
        clear ho hn
        go_wp2_with fail
        go_ret
        exact ⟨UW.out, great_true l⟩
      have e2 : decide ((500 : Int) < (c.new.length : Int)) = false := by simp; omega
      by_cases hk : 100 < c.keys.length
      · have e3 : decide ((100 : Int) < (c.keys.length : Int)) = true := by simp; omega
        clear ho hn hk
        go_wp2_with fail
        go_ret
        exact ⟨UW.out, great_true l⟩
      have e3 : decide ((100 : Int) < (c.keys.length : Int)) = false := by simp; omega
      have HO := hide ho; have HN := hide hn; have HK := hide hk
      clear ho hn hk
      go_wp2_with fail
      go_loop [5] (fun si => ∃ k : Nat, k ≤ c.keys.length ∧ si = .int .i64 k ∧ ∀ j x, j < k → c.keys[j]? = some x → x.length ≤ 500) (fun si => c.keys.length - (RowKit.intOf si).toNat)
      case atStart => exact ⟨0, by omega, rfl, by omega⟩
      case round =>
        obtain ⟨k, hk, rfl, hkl⟩ := hrel
        have HKL := hide hkl
        clear hkl
        by_cases hlk : k < c.keys.length
        · have d7 : decide ((k : Int) < c.keys.length) = true := by simp; omega
          have d7' : decide (k < c.keys.length) = true := by simpa using hlk
          obtain ⟨x, hx⟩ : ∃ x, c.keys[k]? = some x := ⟨_, List.getElem?_eq_getElem hlk⟩
          obtain ⟨b2, off2, rfl, hb2, hc2⟩ := GK.out k x hx
          have hc2' := (cell_upd hc2 UW.out (by simp))
          have sx := strOf_size x
          have HX := hide hx
          clear hx hc2
          by_cases hxl : 500 < x.length
          · have e4 : decide ((500 : Int) < (x.length : Int)) = true := by simp; omega
            clear hxl
            go_wp2_with fail
            go_ret
            exact ⟨UW.out, great_true l⟩
          · have e4 : decide ((500 : Int) < (x.length : Int)) = false := by simp; omega
            have HXL := hide hxl
            clear hxl
            go_wp2_with fail
            go_round
            case rel => exact ⟨k + 1, by omega, by go_num, fun j y hj hy => by
              rcases Nat.lt_or_ge j k with h | h
              · exact HKL.out j y h hy
              · rw [show j = k by omega, HX.out] at hy
                cases hy
                have := HXL.out
                omega⟩
            case measure => simp [RowKit.intOf]; omega
        · have d7 : decide ((k : Int) < c.keys.length) = false := by simp; omega
          have d7' : decide (k < c.keys.length) = false := by simpa using hlk
          have hsm : SmallC c := ⟨by have := HO.out; omega, by have := HN.out; omega, by have := HK.out; omega, fun x hx => by
            obtain ⟨j, hj⟩ := List.mem_iff_getElem?.1 hx
            have := (List.getElem?_eq_some_iff.1 hj).1
            exact HKL.out j x (by omega) hj⟩
          have SM := hide hsm
          clear hsm hlk
          go_wp2_with fail
          go_roundw
          case rel => exact ⟨i + 1, by omega, by go_num, UW.out, fun j y hj hy => by
            rcases Nat.lt_or_ge j i with h | h
            · exact HALL.out j y h hy
            · rw [show j = i by omega, HC.out] at hy
              cases hy
              exact SM.out⟩
          case measure => simp [RowKit.intOf]; omega
    · have d5 : decide ((i : Int) < l.length) = false := by simp; omega
      have d5' : decide (i < l.length) = false := by simpa using hlt
      have hsm : Small l := ⟨by have := HL.out; omega, fun c hc => by
        obtain ⟨j, hj⟩ := List.mem_iff_getElem?.1 hc
        have := (List.getElem?_eq_some_iff.1 hj).1
        exact HALL.out j c (by omega) hj⟩
      have SM := hide hsm
      clear hsm hlt
      go_wp2_with fail
      go_ret
      exact ⟨HU.out, great_false SM.out⟩
end Go.Proofs.YteeepelmkfiocaaGreatDoor.Kv
