/- The document's Same: two rows of records. -/
import Derived.Test.YtmgdhloehkdffaaDoorRecR
namespace Go.Proofs.YtmgdhloehkdffaaDoor.Ref
open Go.RowKit Go.Proofs.YtmgdhloehkdffaaDoor.Var Go.Proofs.YtmgdhloehkdffaaDoor.Crc Go.Proofs.YtmgdhloehkdffaaDoor.Fr

theorem same_take {la lb : List (List UInt8)} {i : Nat} {x y : List UInt8} (ha : la[i]? = some x) (hb : lb[i]? = some y) (h : la.take i = lb.take i) : (la.take (i + 1) = lb.take (i + 1)) ↔ x = y := by
  rw [List.take_add_one, List.take_add_one, ha, hb, h]
  simp
set_option maxHeartbeats 2000000 in
theorem rows_same {va vb : Value} {la lb : List (List UInt8)} (w : World) (ha : ReadsRows w va la) (hb : ReadsRows w vb lb) :
    Calls Tryd.prog 31 #[va, vb] w fun e w' => e = .returned (.bool (decide (la = lb))) ∧ Upd [] w w' := by
  obtain ⟨aa, ca, rfl, ha1, ha2, ha3⟩ := ha
  obtain ⟨ab, cb, rfl, hb1, hb2, hb3⟩ := hb
  simp only [maxLen] at ha2 hb2
  have HA := hide ha3; have HB := hide hb3
  clear ha3 hb3
  go_enter Tryd.func31, Tryd.ntmps31
  by_cases hll : la.length = lb.length
  · have z1 : ((la.length : Int) == (lb.length : Int)) = true := by simp; omega
    have z2 : ((la.length : Int) != (lb.length : Int)) = false := by simp; omega
    go_wp2_with fail
    go_loopw [5] (fun si wr => ∃ i : Nat, i ≤ la.length ∧ si = .int .i64 i ∧ la.take i = lb.take i ∧ Upd [] w wr) (fun si _ => la.length - (intOf si).toNat)
    case atStart => exact ⟨0, by omega, rfl, rfl, Upd.refl _ _⟩
    case round =>
      obtain ⟨i, hi, rfl, htk, hu⟩ := hrel
      have HU := hide hu; have HT := hide htk
      clear hu htk
      by_cases hlt : i < la.length
      · have d5 : decide ((i : Int) < la.length) = true := by simp; omega
        have d5' : decide (i < la.length) = true := by simpa using hlt
        obtain ⟨x, hx⟩ : ∃ x, la[i]? = some x := ⟨_, List.getElem?_eq_getElem hlt⟩
        obtain ⟨y, hy⟩ : ∃ y, lb[i]? = some y := ⟨_, List.getElem?_eq_getElem (by omega)⟩
        obtain ⟨b6, of6, xo6, n6, c6, e6, hcl6, hsr6, -⟩ := HA.out i x hx
        obtain ⟨b7, of7, xo7, n7, c7, e7, hcl7, hsr7, -⟩ := HB.out i y hy
        subst e6; subst e7
        have hcl6' := Rec.cell_keep HU.out hcl6 (by simp)
        have hcl7' := Rec.cell_keep HU.out hcl7 (by simp)
        have hcv6 := fun nq => run_str (src_upd_nil hsr6 (HU.out.drewN nq))
        have hcv7 := fun nq => run_str (src_upd_nil hsr7 (HU.out.drewN nq))
        have hq := strOf_eq x y
        have hit : i < lb.length := by omega
        have hst := same_take hx hy HT.out
        have HST := hide hst
        have hne : x ≠ y → la ≠ lb := fun h1 h2 => by
          subst h2
          rw [hx] at hy
          cases hy
          exact h1 rfl
        have HNE := hide hne
        clear hsr6 hsr7 hcl6 hcl7 hx hy hst hne
        by_cases hxy : x = y
        · rw [decide_eq_true hxy] at hq
          have hnx := HST.out.2 hxy
          have HNX := hide hnx
          clear hnx hxy
          go_wp2_with fail
          go_quiet (fail)
          go_wp2_with fail
          go_roundw
          case rel => exact ⟨i + 1, by omega, by go_num, HNX.out, HU.out.drewN _⟩
          case measure => simp [intOf]; omega
        · rw [decide_eq_false hxy] at hq
          have hnx := HNE.out hxy
          have HNX := hide hnx
          clear hnx hxy
          go_wp2_with fail
          go_quiet (fail)
          go_wp2_with fail
          go_ret
          exact ⟨by rw [decide_eq_false HNX.out]; rfl, HU.out.drewN _⟩
      · have d5 : decide ((i : Int) < la.length) = false := by simp; omega
        have d5' : decide (i < la.length) = false := by simpa using hlt
        have heq : la = lb := by
          have h := HT.out
          rw [List.take_of_length_le (by omega), List.take_of_length_le (by omega)] at h
          exact h
        have HEQ := hide heq
        clear heq
        go_wp2_with fail
        go_ret
        exact ⟨by rw [decide_eq_true HEQ.out]; rfl, HU.out⟩
  · have z1 : ((la.length : Int) == (lb.length : Int)) = false := by simp; omega
    have z2 : ((la.length : Int) != (lb.length : Int)) = true := by simp; omega
    have HN := hide (show la ≠ lb from fun h => hll (by rw [h]))
    clear hll
    go_wp2_with fail
    go_ret
    exact ⟨by rw [decide_eq_false HN.out]; rfl, Upd.refl _ _⟩
end Go.Proofs.YtmgdhloehkdffaaDoor.Ref
