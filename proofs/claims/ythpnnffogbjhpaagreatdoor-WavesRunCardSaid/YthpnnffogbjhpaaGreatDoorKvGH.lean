/- KvG, KvHp, KvP in one text. -/
import Derived.Test.YthpnnffogbjhpaaGreatDoorKvQD
import Derived.Test.YthpnnffogbjhpaaGreatDoorKvWH
import Derived.Test.YthpnnffogbjhpaaGreatDoorKvEE
import Derived.Test.YthpnnffogbjhpaaGreatDoorKvR
import Derived.Test.YthpnnffogbjhpaaGreatDoorKvN
import Derived.Test.YthpnnffogbjhpaaGreatDoorGenAll
set_option linter.unusedSimpArgs false
set_option linter.unusedVariables false
set_option linter.unnecessarySimpa false
namespace Go.Proofs.YthpnnffogbjhpaaGreatDoor.Kv
set_option linter.unusedSimpArgs false
set_option linter.unusedVariables false
set_option linter.unnecessarySimpa false
open Go.RowKit Go.Lib Go.Proofs.YthpnnffogbjhpaaGreatDoor.Crc Go.Proofs.YthpnnffogbjhpaaGreatDoor.Cm

end Go.Proofs.YthpnnffogbjhpaaGreatDoor.Kv
namespace Go.Proofs.YthpnnffogbjhpaaGreatDoor.Kv
open Go.RowKit Go.Proofs.YthpnnffogbjhpaaGreatDoor.Crc Go.Proofs.YthpnnffogbjhpaaGreatDoor.Cm

def SmallC (c : Cm) : Prop := c.old.length ≤ 500 ∧ c.new.length ≤ 500 ∧ c.keys.length ≤ 100 ∧ ∀ k ∈ c.keys, k.length ≤ 500
def Small (l : List Cm) : Prop := l.length ≤ 100 ∧ ∀ c ∈ l, SmallC c
def GreatIs (l : List Cm) (e : Ending) : Prop := ∃ r, e = .returned (.bool r) ∧ (r = false → Small l)
theorem great_true (l : List Cm) : GreatIs l (.returned (.bool true)) := ⟨true, rfl, fun h => by cases h⟩
theorem great_false {l : List Cm} (h : Small l) : GreatIs l (.returned (.bool false)) := ⟨false, rfl, fun _ => h⟩
set_option maxRecDepth 100000 in
set_option maxHeartbeats 4000000 in
theorem great_any {T : Nat → Prop} {v : Value} {l : List Cm} (w : World) (h : cmK.row w T v l) :
    Calls Tryz.prog 9 #[v] w fun e w' => Upd [] w w' ∧ GreatIs l e := by
  obtain ⟨xo, cp, rfl, h1, h2, hg⟩ := cm_get h
  have HG := hide hg
  simp only [maxLen] at h2
  clear h hg
  go_enter Tryz.func9, Tryz.ntmps9
  by_cases hl : 100 < l.length
  · have d0 : decide ((100 : Int) < (l.length : Int)) = true := by simp; omega
    clear hl
    go_wp2_with fail
    go_ret
    exact ⟨Upd.refl _ _, great_true l⟩
  have d0 : decide ((100 : Int) < (l.length : Int)) = false := by simp; omega
  have HL := hide hl
  clear hl
  go_wp2_with fail
  go_loopw [3] (fun si wr => ∃ i : Nat, i ≤ l.length ∧ si = .int .i64 i ∧ Upd [] w wr ∧ ∀ j c, j < i → l[j]? = some c → SmallC c) (fun si _ => l.length - (RowKit.intOf si).toNat)
  case atStart => exact ⟨0, by omega, rfl, Upd.refl _ _, by omega⟩
  case round =>
    obtain ⟨i, hi, rfl, hu, hall⟩ := hrel
    have HALL := hide hall; have HU := hide hu
    clear hall hu
    by_cases hlt : i < l.length
    · have d5 : decide ((i : Int) < l.length) = true := by simp; omega
      have d5' : decide (i < l.length) = true := by simpa using hlt
      obtain ⟨c, hc⟩ : ∃ c, l[i]? = some c := ⟨_, List.getElem?_eq_getElem hlt⟩
      obtain ⟨b, off, ka, kc, rfl, hb, -, fit, hks, hcc⟩ := HG.out i c hc
      obtain ⟨c0, c1, c2, c3, c4, c5, c6⟩ := hcc.upd HU.out hb (by simp)
      obtain ⟨ka0, kc0, hka, hk1, hk2, hget⟩ := hks.get
      cases hka
      have so := strOf_size c.old
      have sn := strOf_size c.new
      have GK := hide hget; have HC := hide hc; have FIT := hide fit
      simp only [maxLen] at hk2
      clear hget hc fit hks hcc
      have hB := blk_new wr (.cells (cmc c (.slice ka c.keys.length kc)).toArray TCmd)
      have hU := HU.out.alloc (.cells (cmc c (.slice ka c.keys.length kc)).toArray TCmd)
      go_upto_region 7 with fail
      change Code.wp _ _ _ _ (wr.alloc (.cells (cmc c (.slice ka c.keys.length kc)).toArray TCmd))
      generalize wr.alloc (.cells (cmc c (.slice ka c.keys.length kc)).toArray TCmd) = W at *
      generalize wr.heap.size = B at *
      have UW := hide hU
      have x3 : W.cell? ⟨B, 3, none⟩ = some (.slice ka c.keys.length kc) := blk_cell hB rfl
      have x4 : W.cell? ⟨B, 4, none⟩ = some (.string (strOf c.old)) := blk_cell hB rfl
      have x5 : W.cell? ⟨B, 5, none⟩ = some (.string (strOf c.new)) := blk_cell hB rfl
      clear hB hU c0 c1 c2 c3 c4 c5 c6
      by_cases ho : 500 < c.old.length
      · have e1 : decide ((500 : Int) < (c.old.length : Int)) = true := by simp; omega
        clear ho
        go_wp2_with fail
        go_ret
        exact ⟨UW.out, great_true l⟩
      have e1 : decide ((500 : Int) < (c.old.length : Int)) = false := by simp; omega
      by_cases hn : 500 < c.new.length
      · have e2 : decide ((500 : Int) < (c.new.length : Int)) = true := by simp; omega
        clear ho hn
        go_wp2_with fail
        go_ret
        exact ⟨UW.out, great_true l⟩
      have e2 : decide ((500 : Int) < (c.new.length : Int)) = false := by simp; omega
      by_cases hk : 100 < c.keys.length
      · have e3 : decide ((100 : Int) < (c.keys.length : Int)) = true := by simp; omega
        clear ho hn hk
        go_wp2_with fail
        go_ret
        exact ⟨UW.out, great_true l⟩
      have e3 : decide ((100 : Int) < (c.keys.length : Int)) = false := by simp; omega
      have HO := hide ho; have HN := hide hn; have HK := hide hk
      clear ho hn hk
      go_wp2_with fail
      go_loop [5] (fun si => ∃ k : Nat, k ≤ c.keys.length ∧ si = .int .i64 k ∧ ∀ j x, j < k → c.keys[j]? = some x → x.length ≤ 500) (fun si => c.keys.length - (RowKit.intOf si).toNat)
      case atStart => exact ⟨0, by omega, rfl, by omega⟩
      case round =>
        obtain ⟨k, hk, rfl, hkl⟩ := hrel
        have HKL := hide hkl
        clear hkl
        by_cases hlk : k < c.keys.length
        · have d7 : decide ((k : Int) < c.keys.length) = true := by simp; omega
          have d7' : decide (k < c.keys.length) = true := by simpa using hlk
          obtain ⟨x, hx⟩ : ∃ x, c.keys[k]? = some x := ⟨_, List.getElem?_eq_getElem hlk⟩
          obtain ⟨b2, off2, rfl, hb2, hc2⟩ := GK.out k x hx
          have hc2' := (cell_upd hc2 UW.out (by simp))
          have sx := strOf_size x
          have HX := hide hx
          clear hx hc2
          by_cases hxl : 500 < x.length
          · have e4 : decide ((500 : Int) < (x.length : Int)) = true := by simp; omega
            clear hxl
            go_wp2_with fail
            go_ret
            exact ⟨UW.out, great_true l⟩
          · have e4 : decide ((500 : Int) < (x.length : Int)) = false := by simp; omega
            have HXL := hide hxl
            clear hxl
            go_wp2_with fail
            go_round
            case rel => exact ⟨k + 1, by omega, by go_num, fun j y hj hy => by
              rcases Nat.lt_or_ge j k with h | h
              · exact HKL.out j y h hy
              · rw [show j = k by omega, HX.out] at hy
                cases hy
                have := HXL.out
                omega⟩
            case measure => simp [RowKit.intOf]; omega
        · have d7 : decide ((k : Int) < c.keys.length) = false := by simp; omega
          have d7' : decide (k < c.keys.length) = false := by simpa using hlk
          have hsm : SmallC c := ⟨by have := HO.out; omega, by have := HN.out; omega, by have := HK.out; omega, fun x hx => by
            obtain ⟨j, hj⟩ := List.mem_iff_getElem?.1 hx
            have := (List.getElem?_eq_some_iff.1 hj).1
            exact HKL.out j x (by omega) hj⟩
          have SM := hide hsm
          clear hsm hlk
          go_wp2_with fail
          go_roundw
          case rel => exact ⟨i + 1, by omega, by go_num, UW.out, fun j y hj hy => by
            rcases Nat.lt_or_ge j i with h | h
            · exact HALL.out j y h hy
            · rw [show j = i by omega, HC.out] at hy
              cases hy
              exact SM.out⟩
          case measure => simp [RowKit.intOf]; omega
    · have d5 : decide ((i : Int) < l.length) = false := by simp; omega
      have d5' : decide (i < l.length) = false := by simpa using hlt
      have hsm : Small l := ⟨by have := HL.out; omega, fun c hc => by
        obtain ⟨j, hj⟩ := List.mem_iff_getElem?.1 hc
        have := (List.getElem?_eq_some_iff.1 hj).1
        exact HALL.out j c (by omega) hj⟩
      have SM := hide hsm
      clear hsm hlt
      go_wp2_with fail
      go_ret
      exact ⟨HU.out, great_false SM.out⟩
end Go.Proofs.YthpnnffogbjhpaaGreatDoor.Kv
namespace Go.Proofs.YthpnnffogbjhpaaGreatDoor.Kv
set_option linter.unusedSimpArgs false
set_option linter.unusedVariables false
open Go.RowKit Go.Lib Go.Proofs.YthpnnffogbjhpaaGreatDoor.Crc Go.Proofs.YthpnnffogbjhpaaGreatDoor.Cm
set_option maxRecDepth 100000 in
set_option maxHeartbeats 2000000 in
theorem tsame_any {b1 c1 g1 b2 c2 g2 : Nat} {t1 t2 : TM} (w : World) (h1 : TbIs w b1 c1 g1 t1) (h2 : TbIs w b2 c2 g2 t2) (ht1 : Rise cliK t1) (ht2 : Rise cliK t2) (hk1 : ∀ p ∈ t1, p.1 < 4294967296) (hk2 : ∀ p ∈ t2, p.1 < 4294967296) (hl1 : t1.length ≤ 1000000) (hl2 : t2.length ≤ 1000000) :
    Calls Tryz.prog 48 #[.pointer (some ⟨b1, 0, none⟩), .pointer (some ⟨b2, 0, none⟩)] w fun e w' => e = .returned (.bool (decide (t1 = t2))) ∧ Upd [] w w' := by
  have T1 := hide h1; have T2 := hide h2
  clear h1 h2
  go_enter Tryz.func48, Tryz.ntmps48
  go_upto_region 1 with fail
  refine wp_region_z (fun w' => Upd [] w w') 99 (by kernel_rfl) ?_
  have s0 : Upd [] w (w.drewN 1) := (Upd.refl _ _).drewN 1
  refine zE 0 rfl (by kernel_rfl) (fun _ _ _ _ h => h) rfl (by exact s0) ?_
  apply Exists.intro
  refine ⟨fun wx hS => ?_, ?_⟩
  · go_simp; rfl
  simp only [Act.put, List.setIfInBounds_toArray, List.set_cons_succ, List.set_cons_zero, List.getElem_toArray, List.getElem_cons_zero]
  refine zE 8 rfl (by kernel_rfl) (fun _ _ _ _ h => h) rfl (by exact s0) ?_
  apply Exists.intro
  refine ⟨fun wx hS => ?_, ?_⟩
  · go_simp; rfl
  simp only [Act.put, zz1, zz2, zz3, zz4, zz5, zz6]
  refine wpAnyZ_one 1 (by kernel_rfl) rfl rfl (fun K hK => ?_)
  try simp only [List.getElem_toArray, List.getElem_cons_succ, List.getElem_cons_zero]
  go_simp
  refine (tcopy_any (w.drewN 1) (T1.out.upd_nil s0) ht1 hk1 hl1).mono ?_
  rintro e w1 ⟨⟨b3, c3, g3, rfl, h3, q1, q2, q3⟩, hu1⟩
  have T3 := hide h3; have U1 := hide (s0.trans hu1); have T2' := hide (T2.out.upd_nil (s0.trans hu1))
  clear h3 hu1 T2
  refine hK _ _ (.inr U1.out) ?_
  clear hK K
  try simp only [Act.put, zz1, zz2, zz3]
  refine wpAnyZ_strong (S' := fun w' => Upd [] w1 w') (fun w' h => U1.out.trans h) _ _ _ _ ?_
  have s1 : Upd [] w1 w1 := Upd.refl _ _
  refine zE 2 rfl (by kernel_rfl) (fun _ _ _ _ h => h) rfl (by exact s1) ?_
  apply Exists.intro
  refine ⟨fun wx hS => ?_, ?_⟩
  · go_simp; rfl
  simp only [Act.put, zz1, zz2, zz3, zz4, zz5, zz6]
  refine zE 3 rfl (by kernel_rfl) (fun _ _ _ _ h => h) rfl (by exact s1) ?_
  apply Exists.intro
  refine ⟨fun wx hS => ?_, ?_⟩
  · go_simp; rfl
  simp only [Act.put, zz1, zz2, zz3, zz4, zz5, zz6]
  refine zE 4 rfl (by kernel_rfl) (fun _ _ _ _ h => h) rfl (by exact s1) ?_
  apply Exists.intro
  refine ⟨fun wx hS => ?_, ?_⟩
  · have c0 : wx.cell? ⟨b3, 0, none⟩ = some (.pointer (some ⟨c3, 0, none⟩)) := blk_cell (Upd.get hS T3.out.blk (by simp)) rfl; go_simp; rfl
  simp only [Act.put, zz1, zz2, zz3, zz4, zz5, zz6]
  refine zE 5 rfl (by kernel_rfl) (fun _ _ _ _ h => h) rfl (by exact s1) ?_
  apply Exists.intro
  refine ⟨fun wx hS => ?_, ?_⟩
  · go_simp; rfl
  simp only [Act.put, zz1, zz2, zz3, zz4, zz5, zz6]
  refine zE 6 rfl (by kernel_rfl) (fun _ _ _ _ h => h) rfl (by exact s1) ?_
  apply Exists.intro
  refine ⟨fun wx hS => ?_, ?_⟩
  · go_simp; rfl
  simp only [Act.put, zz1, zz2, zz3, zz4, zz5, zz6]
  refine zE 7 rfl (by kernel_rfl) (fun _ _ _ _ h => h) rfl (by exact s1) ?_
  apply Exists.intro
  refine ⟨fun wx hS => ?_, ?_⟩
  · have c0 : wx.cell? ⟨c3, 0, none⟩ = some (.map (some g3)) := blk_cell (Upd.get hS T3.out.cli (by simp)) rfl; go_simp; rfl
  simp only [Act.put, zz1, zz2, zz3, zz4, zz5, zz6]
  refine wpAnyZ_one 9 (by kernel_rfl) rfl rfl (fun K hK => ?_)
  try simp only [List.getElem_toArray, List.getElem_cons_succ, List.getElem_cons_zero]
  go_simp
  refine (tcopy_any w1 T2'.out ht2 hk2 hl2).mono ?_
  rintro e w2 ⟨⟨b4, c4, g4, rfl, h4, q4, q5, q6⟩, hu2⟩
  have T4 := hide h4; have V2 := hide hu2; have U2 := hide (U1.out.trans hu2); have T3' := hide (T3.out.upd_nil hu2)
  clear h4 hu2 T3
  refine hK _ _ (.inr V2.out) ?_
  clear hK K
  try simp only [Act.put, zz1, zz2, zz3]
  refine wpAnyZ_strong (S' := fun w' => Upd [] w2 w') (fun w' h => V2.out.trans h) _ _ _ _ ?_
  have s2 : Upd [] w2 w2 := Upd.refl _ _
  refine zE 10 rfl (by kernel_rfl) (fun _ _ _ _ h => h) rfl (by exact s2) ?_
  apply Exists.intro
  refine ⟨fun wx hS => ?_, ?_⟩
  · go_simp; rfl
  simp only [Act.put, zz1, zz2, zz3, zz4, zz5, zz6]
  refine zE 11 rfl (by kernel_rfl) (fun _ _ _ _ h => h) rfl (by exact s2) ?_
  apply Exists.intro
  refine ⟨fun wx hS => ?_, ?_⟩
  · go_simp; rfl
  simp only [Act.put, zz1, zz2, zz3, zz4, zz5, zz6]
  refine zE 12 rfl (by kernel_rfl) (fun _ _ _ _ h => h) rfl (by exact s2) ?_
  apply Exists.intro
  refine ⟨fun wx hS => ?_, ?_⟩
  · have c0 : wx.cell? ⟨b4, 0, none⟩ = some (.pointer (some ⟨c4, 0, none⟩)) := blk_cell (Upd.get hS T4.out.blk (by simp)) rfl; go_simp; rfl
  simp only [Act.put, zz1, zz2, zz3, zz4, zz5, zz6]
  refine zE 13 rfl (by kernel_rfl) (fun _ _ _ _ h => h) rfl (by exact s2) ?_
  apply Exists.intro
  refine ⟨fun wx hS => ?_, ?_⟩
  · go_simp; rfl
  simp only [Act.put, zz1, zz2, zz3, zz4, zz5, zz6]
  refine zE 14 rfl (by kernel_rfl) (fun _ _ _ _ h => h) rfl (by exact s2) ?_
  apply Exists.intro
  refine ⟨fun wx hS => ?_, ?_⟩
  · go_simp; rfl
  simp only [Act.put, zz1, zz2, zz3, zz4, zz5, zz6]
  refine zE 15 rfl (by kernel_rfl) (fun _ _ _ _ h => h) rfl (by exact s2) ?_
  apply Exists.intro
  refine ⟨fun wx hS => ?_, ?_⟩
  · have c0 : wx.cell? ⟨c4, 0, none⟩ = some (.map (some g4)) := blk_cell (Upd.get hS T4.out.cli (by simp)) rfl; go_simp; rfl
  simp only [Act.put, zz1, zz2, zz3, zz4, zz5, zz6]
  refine wpAnyZ_one 16 (by kernel_rfl) rfl rfl (fun K hK => ?_)
  try simp only [List.getElem_toArray, List.getElem_cons_succ, List.getElem_cons_zero]
  go_simp
  refine (equalT_any w2 T3'.out.map T4.out.map ht1 ht2 hk1 hl1).mono ?_
  rintro e w3 ⟨rfl, hu3⟩
  have U3 := hide (U2.out.trans hu3)
  refine hK _ _ (.inr hu3) ?_
  clear hK K
  try simp only [Act.put, zz1, zz2, zz3]
  refine zE 17 rfl (by kernel_rfl) (fun _ _ _ _ h => h) rfl (by exact hu3) ?_
  apply Exists.intro
  refine ⟨fun wx hS => ?_, ?_⟩
  · go_simp; rfl
  simp only [Act.put, zz1, zz2, zz3, zz4, zz5, zz6]
  refine wpAnyZ_done (by kernel_rfl) ?_ _
  go_wp2_with fail
  go_ret
  exact ⟨rfl, U3.out⟩
end Go.Proofs.YthpnnffogbjhpaaGreatDoor.Kv
