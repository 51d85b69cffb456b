/- maps.Equal of a state's map. -/
import Derived.Test.YthpnnffogbjhpaaGreatDoorGenAll
import Derived.Test.YthpnnffogbjhpaaGreatDoorKvW
set_option linter.unusedSimpArgs false
set_option linter.unusedVariables false
set_option linter.unnecessarySimpa false
namespace Go.Proofs.YthpnnffogbjhpaaGreatDoor.Kv
set_option linter.unusedSimpArgs false
set_option linter.unusedVariables false
open Go.RowKit Go.Lib Go.Proofs.YthpnnffogbjhpaaGreatDoor.Crc Go.Proofs.YthpnnffogbjhpaaGreatDoor.Cm

theorem retSE_true {p : Prop} [Decidable p] (h : p) : Ending.returned (.bool true) = .returned (.bool (decide p)) := by rw [decide_eq_true h]
theorem retSE_false {p : Prop} [Decidable p] (h : ¬ p) : Ending.returned (.bool false) = .returned (.bool (decide p)) := by rw [decide_eq_false h]

set_option maxHeartbeats 2000000 in
theorem equalS_any {g1 g2 : Nat} {l m : KM} (w : World) (h1 : kvK.is w g1 l) (h2 : kvK.is w g2 m) (hr : Rise kvK.K l) (hr2 : Rise kvK.K m) (hok : ∀ p ∈ l, kvK.okk p.1) (hl : l.length ≤ 1000000) :
    Calls Tryz.prog 76 #[.map (some g1), .map (some g2)] w fun e w' => e = .returned (.bool (decide (l = m))) ∧ Upd [] w w' := by
  have hl1 := MapKind.is_lt h1
  have hl2 := MapKind.is_lt h2
  have HR := hide hr; have HR2 := hide hr2; have HOK := hide hok; have H2 := hide h2
  have n1 : ∀ ty, (Builtin.len_ #[113] ty #[.map (some g1)]).run Tryz.prog w = .ok (.int .i64 (l.length : Int)) w := fun ty => MapKind.len h1 ty
  have n2 : ∀ ty, (Builtin.len_ #[113] ty #[.map (some g2)]).run Tryz.prog w = .ok (.int .i64 (m.length : Int)) w := fun ty => MapKind.len h2 ty
  clear hr hr2 hok
  go_enter Tryz.func76, Tryz.ntmps76
  by_cases hlm : l.length = m.length
  · have q1 : ((l.length : Int) != (m.length : Int)) = false := by simp; omega
    have q2 : ((l.length : Int) == (m.length : Int)) = true := by simp; omega
    have HLM := hide hlm
    clear hlm h2
    go_wp2_with (first
      | (at_range; refine wpList_range_map (M := kvK) _ rfl _ rfl rfl h1 ?_; intro w0 hrg0 hg0 hs0)
      | go_in)
    go_frame
    go_loopw [16] (fun _ wr => ∃ (left : Lit → Bool) (cnt : Nat), kvK.rng wr g1 w.heap.size l left cnt ∧ (∀ k v, left (kvK.K.lit k) = false → mfind l k = some v → mfind m k = some v) ∧ Upd [] w wr ∧ w.heap.size < wr.heap.size) (fun _ wr => wr.rangeLeft g1 w.heap.size)
    case atStart =>
      refine ⟨_, _, hrg0, fun k v hk hv => ?_, hg0, by omega⟩
      rw [toD_has, hv] at hk
      cases hk
    case round =>
      obtain ⟨left, cnt, hrg, hall, hgw, hzw⟩ := hrel
      have HALL := hide hall; have GW := hide hgw
      clear hall hgw
      go_wp2_with (first
        | (at_next; refine wpList_next_map (M := kvK) _ rfl _ rfl rfl hrg (fun p hp => HOK.out p hp) ?_ ?_)
        | go_in)
      · intro hc0 hl0
        go_wp2
        go_ret
        have e : l = m := rise_eq HR.out HR2.out HLM.out fun k v hv => HALL.out k v (hl0 _) hv
        exact ⟨retSE_true e, GW.out⟩
      · intro k v w1 cnt1 hlk hv hrg1 hlt hu1 hs1 hen
        have hkk : kvK.okk k := HOK.out _ (mfind_mem hv)
        obtain ⟨o, ho⟩ : ∃ o, mfind m k = o := ⟨_, rfl⟩
        have u1 := GW.out.trans_new hu1 (fun g hg => .inr (by simp at hg; omega))
        obtain ⟨wa, hwa, hua, hsa⟩ : ∃ wa, wa = w1 ∧ Upd [] w1 wa ∧ w1.heap.size ≤ wa.heap.size := ⟨_, rfl, Upd.refl _ _, Nat.le_refl _⟩
        have hlo := MapKind.look (MapKind.is_upd_nil H2.out (u1.trans hua)) (k := k) hkk
        rw [ho] at hlo
        have hen' : (Instr.entry (.pointer (some ⟨w.heap.size, 0, none⟩))).run Tryz.prog w1 = .ok (.tuple #[(fun s => Value.string (strOf s)) k, (fun s => Value.string (strOf s)) v]) w1 := hen
        have hv' := HALL
        have HV := hide hv; have HO := hide ho; have RG := hide hrg1; have U1 := hide u1
        have hcnt := MapKind.rng_cnt hrg
        have hza : w1.heap.size = wr.heap.size := hs1
        clear hen hv ho hrg1 u1 hu1 hv'
        cases o with
        | none =>
          have hl' : (Instr.lookup 113 (.map (some g2)) ((fun s => Value.string (strOf s)) k) true).run Tryz.prog wa = .ok (.tuple #[.string (strOf []), .bool false]) wa := hlo
          have UA := hide (U1.out.trans hua)
          clear hlo hrg hua
          subst hwa
          go_wp2_with fail
          go_ret
          have hne : l ≠ m := fun e => by have h1 := HV.out; rw [e, HO.out] at h1; cases h1
          exact ⟨retSE_false hne, UA.out⟩
        | some u =>
          have hl' : (Instr.lookup 113 (.map (some g2)) ((fun s => Value.string (strOf s)) k) true).run Tryz.prog wa = .ok (.tuple #[(fun s => Value.string (strOf s)) u, .bool true]) wa := hlo
          have hrga := MapKind.rng_upd RG.out hua (by simp) (by simp)
          have UA := hide (U1.out.trans hua)
          by_cases hvu : v = u
          · have qe : ((strOf v).toList == (strOf u).toList) = true := by rw [strOf_eq, decide_eq_true hvu]
            have hall2 : ∀ k' v', (fun z => left z && !z.sameKey (kvK.K.lit k)) (kvK.K.lit k') = false → mfind l k' = some v' → mfind m k' = some v' := fun k' v' hk' hv' => by
              simp only [Kys.same] at hk'
              by_cases hkk' : k' = k
              · subst hkk'
                rw [HV.out] at hv'
                cases hv'
                rw [HO.out, hvu]
              · refine HALL.out k' v' ?_ hv'
                simpa [hkk'] using hk'
            have HALL2 := hide hall2
            clear hall2 hlo hrg hua hvu
            subst hwa
            have hrgb := hrga
            have hcnt2 := MapKind.rng_cnt hrgb
            have RGB := hide hrgb
            clear hrga hrgb
            go_wp2_with fail
            go_roundw
            case rel => exact ⟨_, cnt1, RGB.out, HALL2.out, UA.out, by first | omega | (simp; omega)⟩
            case measure => rw [hcnt, hcnt2]; exact hlt
          · have qe : ((strOf v).toList == (strOf u).toList) = false := by rw [strOf_eq, decide_eq_false hvu]
            have hne : l ≠ m := fun e => hvu (by have h1 := HV.out; rw [e, HO.out] at h1; cases h1; rfl)
            have HNE := hide hne
            clear hne hlo hrg hua hvu hrga
            subst hwa
            go_wp2_with fail
            go_ret
            exact ⟨retSE_false HNE.out, UA.out⟩
  · have q1 : ((l.length : Int) != (m.length : Int)) = true := by simp; omega
    have q2 : ((l.length : Int) == (m.length : Int)) = false := by simp; omega
    have HLM := hide hlm
    clear hlm
    go_wp2_with fail
    go_ret
    exact ⟨retSE_false (fun e => HLM.out (by rw [e])), Upd.refl _ _⟩
end Go.Proofs.YthpnnffogbjhpaaGreatDoor.Kv
