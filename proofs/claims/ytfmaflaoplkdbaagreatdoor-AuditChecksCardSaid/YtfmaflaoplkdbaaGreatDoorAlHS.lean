/- AlH, AlS in one text. -/
import Derived.Test.YtfmaflaoplkdbaaGreatDoorAuKH
import Derived.Test.YtfmaflaoplkdbaaGreatDoorPureAll
import Derived.Test.YtfmaflaoplkdbaaGreatDoorCmX
import Derived.Test.YtfmaflaoplkdbaaGreatDoorTrSA
import Derived.Test.YtfmaflaoplkdbaaGreatDoorKvW
import Derived.Test.YtfmaflaoplkdbaaGreatDoorGenAll
set_option linter.unusedSimpArgs false
set_option linter.unusedVariables false
set_option linter.unnecessarySimpa false
namespace Go.Proofs.YtfmaflaoplkdbaaGreatDoor.Au
open Go.RowKit Go.Proofs.YtfmaflaoplkdbaaGreatDoor.Crc Go.Proofs.YtfmaflaoplkdbaaGreatDoor.Cm Go.Proofs.YtfmaflaoplkdbaaGreatDoor.Tr
set_option linter.unusedSimpArgs false
set_option linter.unusedVariables false

set_option maxRecDepth 100000 in
set_option maxHeartbeats 2000000 in
theorem handed_any {T U : Nat → Prop} {lv tv : Value} {l : List En} {told : List To} {t : To} {i : Nat} (w : World) (hl : enK.row w U lv l) (ht : toK.row w T tv told) (hi : told[i]? = some t) :
    Calls Tryz.prog 64 #[lv, tv, .int .i64 (i : Int)] w fun e w' => e = .returned (.bool (handsM l t i)) ∧ w' = w := by
  obtain ⟨xo, cp, rfl, hcp, hcm, hg⟩ := to_get ht
  obtain ⟨xl, cl, rfl, hcl, hclm, hgl⟩ := Row.get enK.hz hl
  simp only [maxLen] at hcm hclm
  have hlt := (List.getElem?_eq_some_iff.1 hi).1
  obtain ⟨b, off, r, n, xa, ca, xd, cd, rfl, hb, hTb, -, -, -, z1, -⟩ := hg i t hi
  have d1 : decide ((i : Int) < told.length) = true := by simp; omega
  have d1' : decide (i < told.length) = true := by simpa using hlt
  clear hg hl ht hi
  by_cases hil : i < l.length
  · have d2 : decide ((i : Int) < l.length) = true := by simp; omega
    have d2' : decide (i < l.length) = true := by simpa using hil
    obtain ⟨e, he⟩ : ∃ e, l[i]? = some e := ⟨_, List.getElem?_eq_getElem hil⟩
    have hem : entM l i = e := by unfold entM; rw [he]; rfl
    obtain ⟨b2, o2, cs, rfl, hb2, hTb2, ⟨fit, torn, pick, ks, rfl, hks⟩, -, hcell⟩ := hgl i e he
    have y0 : w.cell? ⟨b2, o2 + i * 12, none⟩ = some (.int .u8 (e.kind : Int)) := hcell 0 _ rfl
    have hh : handsM l t i = (decide (e.kind = 1) && (decide (t.e = 0) || decide (t.e = 21))) := by unfold handsM; rw [hem]
    rw [hh]
    clear hgl hcell fit hks he hem hh
    by_cases hk : e.kind = 1
    · have d3 : ((e.kind : Int) == 1) = true := by simp [hk]
      have d3' : decide ((e.kind : Int) = 1) = true := by simp [hk]
      rw [decide_eq_true hk]
      clear hk
      by_cases h0 : t.e = 0
      · have d4 : (t.e == 0) = true := by simp [h0]
        rw [decide_eq_true h0]
        go_enter Tryz.func64, Tryz.ntmps64
        go_wp2_with fail
        go_ret
        exact ⟨rfl, rfl⟩
      · have d4 : (t.e == 0) = false := by simp [h0]
        rw [decide_eq_false h0]
        by_cases h1 : t.e = 21
        · have d5 : (t.e == 21) = true := by simp [h1]
          rw [decide_eq_true h1]
          go_enter Tryz.func64, Tryz.ntmps64
          go_wp2_with fail
          go_ret
          exact ⟨rfl, rfl⟩
        · have d5 : (t.e == 21) = false := by simp [h1]
          rw [decide_eq_false h1]
          go_enter Tryz.func64, Tryz.ntmps64
          go_wp2_with fail
          go_ret
          exact ⟨rfl, rfl⟩
    · have d3 : ((e.kind : Int) == 1) = false := by simp; omega
      have d3' : decide ((e.kind : Int) = 1) = false := by simp; omega
      rw [decide_eq_false hk]
      clear hk
      go_enter Tryz.func64, Tryz.ntmps64
      go_wp2_with fail
      go_ret
      exact ⟨rfl, rfl⟩
  · have d2 : decide ((i : Int) < l.length) = false := by simp; omega
    have d2' : decide (i < l.length) = false := by simpa using hil
    have hh : handsM l t i = false := by unfold handsM entM; rw [List.getElem?_eq_none (by omega)]; rfl
    rw [hh]
    clear hgl hh
    go_enter Tryz.func64, Tryz.ntmps64
    go_wp2_with fail
    go_ret
    exact ⟨rfl, rfl⟩
theorem place_hit {cs : List Cm} {k : Nu} {i : Nat} {c : Cm} (hno : ∀ x ∈ cs.take i, decide (cmNu x = k) = false) (hc : cs[i]? = some c) (h : cmNu c = k) : placeI cs k = (i : Int) := by
  unfold placeI placeN
  obtain ⟨hk, e⟩ := List.getElem?_eq_some_iff.1 hc
  have : cs.findIdx? (fun c => decide (cmNu c = k)) = some i := by
    rw [List.findIdx?_eq_some_iff_getElem]
    refine ⟨hk, by rw [e]; simpa using h, fun j hj => ?_⟩
    have := hno cs[j] (List.mem_iff_getElem?.2 ⟨j, by rw [List.getElem?_take, if_pos hj]; exact List.getElem?_eq_getElem (by omega)⟩)
    simp [this]
  rw [this]
theorem place_miss {cs : List Cm} {k : Nu} (h : ∀ x ∈ cs, decide (cmNu x = k) = false) : placeI cs k = -1 := by
  unfold placeI placeN
  have : cs.findIdx? (fun c => decide (cmNu c = k)) = none := by
    rw [List.findIdx?_eq_none_iff]
    exact h
  rw [this]
theorem take_snoc' {X : Type} {l : List X} {k : Nat} {c : X} (h : l[k]? = some c) : l.take (k + 1) = l.take k ++ [c] := by
  obtain ⟨hk, e⟩ := List.getElem?_eq_some_iff.1 h
  rw [List.take_succ_eq_append_getElem hk, e]
set_option maxRecDepth 100000 in
set_option maxHeartbeats 2000000 in
theorem place_any {T : Nat → Prop} {v : Value} {cs : List Cm} {c s : Nat} (w : World) (h : cmK.row w T v cs) :
    Calls Tryz.prog 67 #[v, .int .u32 (c : Int), .int .u32 (s : Int)] w fun e w' => e = .returned (.int .i64 (placeI cs (c, s))) ∧ w' = w := by
  obtain ⟨xo, cp, rfl, h1, h2, hg⟩ := cm_get h
  have HG := hide hg
  simp only [maxLen] at h2
  clear h hg
  go_enter Tryz.func67, Tryz.ntmps67
  go_wp2_with fail
  go_loopw [7] (fun si wr => ∃ k : Nat, k ≤ cs.length ∧ si = .int .i64 k ∧ wr = w ∧ ∀ x ∈ cs.take k, decide (cmNu x = (c, s)) = false) (fun si _ => cs.length - (intOf si).toNat)
  case atStart => exact ⟨0, by omega, rfl, rfl, by simp⟩
  case round =>
    obtain ⟨k, hk, rfl, rfl, hall⟩ := hrel
    have HALL := hide hall
    clear hall
    by_cases hlt : k < cs.length
    · have d5 : decide ((k : Int) < cs.length) = true := by simp; omega
      have d5' : decide (k < cs.length) = true := by simpa using hlt
      obtain ⟨p, hp⟩ : ∃ p, cs[k]? = some p := ⟨_, List.getElem?_eq_getElem hlt⟩
      obtain ⟨b, o, ka, kc, rfl, hb, hTb, fit, hks, hcells⟩ := HG.out k p hp
      obtain ⟨c0, c1, c2, c3, c4, c5, c6⟩ := hcells
      have HP := hide hp
      have hk1 : k + 1 ≤ cs.length := by omega
      clear hp hks fit
      by_cases hc : p.client = c
      · have q1 : ((p.client : Int) == (c : Int)) = true := by simp [hc]
        have q1' : decide ((p.client : Int) = (c : Int)) = true := by simp [hc]
        by_cases hs : p.seq = s
        · have q2 : ((p.seq : Int) == (s : Int)) = true := by simp [hs]
          have q2' : decide ((p.seq : Int) = (s : Int)) = true := by simp [hs]
          have hr : placeI cs (c, s) = (k : Int) := place_hit HALL.out HP.out (by unfold cmNu; rw [hc, hs])
          have HR := hide hr
          clear hc hs hr
          go_wp2_with fail
          go_ret
          rw [HR.out]
          exact ⟨rfl, rfl⟩
        · have q2 : ((p.seq : Int) == (s : Int)) = false := by simp; omega
          have q2' : decide ((p.seq : Int) = (s : Int)) = false := by simp; omega
          have hn : decide (cmNu p = (c, s)) = false := by unfold cmNu; simp [hs]
          have HN := hide hn
          clear hc hs hn
          go_wp2_with fail
          go_roundw
          case rel =>
            refine ⟨k + 1, hk1, by go_num, trivial, fun x hx => ?_⟩
            rw [take_snoc' HP.out] at hx
            rcases List.mem_append.1 hx with h5 | h5
            · exact HALL.out x h5
            · simp only [List.mem_singleton] at h5; rw [h5]; exact HN.out
          case measure => simp [intOf]; omega
      · have q1 : ((p.client : Int) == (c : Int)) = false := by simp; omega
        have q1' : decide ((p.client : Int) = (c : Int)) = false := by simp; omega
        have hn : decide (cmNu p = (c, s)) = false := by unfold cmNu; simp [hc]
        have HN := hide hn
        clear hc hn
        go_wp2_with fail
        go_roundw
        case rel =>
          refine ⟨k + 1, hk1, by go_num, trivial, fun x hx => ?_⟩
          rw [take_snoc' HP.out] at hx
          rcases List.mem_append.1 hx with h5 | h5
          · exact HALL.out x h5
          · simp only [List.mem_singleton] at h5; rw [h5]; exact HN.out
        case measure => simp [intOf]; omega
    · have d5 : decide ((k : Int) < cs.length) = false := by simp; omega
      have d5' : decide (k < cs.length) = false := by simpa using hlt
      have hall := HALL.out
      rw [List.take_of_length_le (by omega)] at hall
      have HA := hide hall
      clear hall
      go_wp2_with fail
      go_ret
      rw [place_miss HA.out]
      exact ⟨rfl, rfl⟩
end Go.Proofs.YtfmaflaoplkdbaaGreatDoor.Au
namespace Go.Proofs.YtfmaflaoplkdbaaGreatDoor.Au
open Go.RowKit Go.Proofs.YtfmaflaoplkdbaaGreatDoor.Crc Go.Proofs.YtfmaflaoplkdbaaGreatDoor.Cm Go.Proofs.YtfmaflaoplkdbaaGreatDoor.Tr
set_option linter.unusedSimpArgs false
set_option linter.unusedVariables false

theorem hands_lt {l : List En} {t : To} {j : Nat} (h : handsM l t j = true) : j < l.length := by
  rcases Nat.lt_or_ge j l.length with h1 | h1
  · exact h1
  · unfold handsM entM at h
    rw [List.getElem?_eq_none h1] at h
    simp at h
theorem handed_in {l : List En} {told : List To} {t : To} {j : Nat} (hj : told[j]? = some t) (c : Cm) : decide (c ∈ handedM l told (j + 1)) = (decide (c ∈ handedM l told j) || (handsM l t j && decide ((entM l j).cmd = c))) := by
  rw [handed_next hj]
  cases handsM l t j with
  | false => simp
  | true =>
    simp only [if_true, List.mem_append, List.mem_singleton, Bool.decide_or, Bool.true_and]
    congr 1
    by_cases e : c = (entM l j).cmd
    · simp [e]
    · have : ¬ (entM l j).cmd = c := fun h => e h.symm
      simp [e, this]
noncomputable def lsOps12 : Array Oper := Kv.findOps 12 ((Tryz.f18.body).getD .skip)
set_option maxRecDepth 100000 in
set_option maxHeartbeats 8000000 in
theorem strangers_any {T : Nat → Prop} {lv tv : Value} {l : List En} {told : List To} {t : To} {i : Nat} (w : World) (hcnt : CntAt w) (hl : enK.row w T lv l) (ht : toK.row w T tv told) (hi : told[i]? = some t) (hb : ∀ d ∈ t.done, d.2.length ≤ 1000000000000) :
    Calls Tryz.prog 18 #[lv, tv, .int .i64 (i : Int)] w fun e w' => e = .returned (.bool (b3 l told i t)) ∧ Upd [] w w' := by
  obtain ⟨xo, cp, rfl, h3, h4⟩ := Row.slice ht
  obtain ⟨xl, cl, rfl, hl3, hl4⟩ := Row.slice hl
  have HT := hide ht; have HI := hide hi; have HL := hide hl; have HC := hide hcnt; have HB := hide hb
  simp only [maxLen] at h4 hl4
  have hlt := (List.getElem?_eq_some_iff.1 hi).1
  have dI : decide ((i : Int) < told.length) = true := by simp; omega
  have dI' : decide (0 ≤ (i : Int)) = true := by simp
  obtain ⟨P, hP⟩ : ∃ P : Dn → Bool, P = fun d => (parseM d.2).1.any fun c => !decide (c ∈ handedM l told (i + 1)) := ⟨_, rfl⟩
  have hb1 : b3 l told i t = t.done.any P := by unfold b3; rw [hP]
  rw [hb1]
  have HP := hide hP
  clear ht hi hP hb1 hl hcnt hb
  go_enter Tryz.func18, Tryz.ntmps18
  go_wp2_with fail
  go_loopw [7] (fun si wr => ∃ k : Nat, k ≤ t.done.length ∧ si = .int .i64 k ∧ Upd [] w wr ∧ ∀ d ∈ t.done.take k, P d = false) (fun si _ => t.done.length - (intOf si).toNat)
  case atStart => exact ⟨0, by omega, rfl, Upd.refl _ _, by simp⟩
  case round =>
    obtain ⟨k, hk, rfl, hu, hall⟩ := hrel
    have HALL := hide hall; have HU := hide hu
    clear hall hu
    obtain ⟨b, off, xa, ca, xd, cd, rfl, -, -, c4, -, hvd, -, hd2⟩ := to_at (toK.row_upd_nil HT.out HU.out) HI.out
    have HVD := hide hvd
    clear hvd
    by_cases hkl : k < t.done.length
    · have d5 : decide ((k : Int) < t.done.length) = true := by simp; omega
      have d5' : decide (k < t.done.length) = true := by simpa using hkl
      obtain ⟨d, hd⟩ : ∃ d, t.done[k]? = some d := ⟨_, List.getElem?_eq_getElem hkl⟩
      obtain ⟨bd, od, xb, n, c, rfl, y0, y1, hsrc, hnc, hcm, hs, hdl⟩ := dn_at HVD.out hd
      have hdb := HB.out d (List.mem_of_getElem? hd)
      have HD := hide hd
      have hk1 : k + 1 ≤ t.done.length := by omega
      have hpa := parse_any (bs := d.2) wr (HC.out.upd_nil HU.out) hsrc hnc hdb
      have HPA := hide hpa
      clear hd hsrc hpa hdb
      go_wp2_with fail
      refine HPA.out.mono ?_
      clear HPA
      rintro e w2 ⟨⟨vc, rfl, hcr⟩, hu2⟩
      obtain ⟨cs, hcs⟩ : ∃ cs, (parseM d.2).1 = cs := ⟨_, rfl⟩
      rw [hcs] at hcr
      have hPd : P d = cs.any fun c => !decide (c ∈ handedM l told (i + 1)) := by rw [HP.out, ← hcs]
      obtain ⟨xo2, cp2, rfl, hcp2, hcm2, hg2⟩ := cm_get hcr
      simp only [maxLen] at hcm2
      have U2 := hide (HU.out.trans hu2); have G2 := hide hg2; have PD := hide hPd
      clear hu2 hg2 hPd hcr y0 y1 c4 hcs HVD
      go_wp2_with fail
      go_loopw [10] (fun sm wq => ∃ m : Nat, m ≤ cs.length ∧ sm = .int .i64 m ∧ Upd [] w2 wq ∧ ∀ c ∈ cs.take m, (!decide (c ∈ handedM l told (i + 1))) = false) (fun sm _ => cs.length - (intOf sm).toNat)
      case atStart => exact ⟨0, by omega, rfl, Upd.refl _ _, by simp⟩
      case round =>
        obtain ⟨m, hm, rfl, hu3, hal2⟩ := hrel
        have HU3 := hide hu3; have HAL2 := hide hal2
        clear hu3 hal2
        by_cases hml : m < cs.length
        · have d6 : decide ((m : Int) < cs.length) = true := by simp; omega
          have d6' : decide (m < cs.length) = true := by simpa using hml
          obtain ⟨p, hp⟩ : ∃ p, cs[m]? = some p := ⟨_, List.getElem?_eq_getElem hml⟩
          obtain ⟨b2, o2, ka, kc, rfl, hb2, hTb2, fit, hks, hcells⟩ := G2.out m p hp
          have HPP := hide hp; have KS := hide (hks.upd_nil HU3.out); have FIT := hide fit; have HCL := hide (hcells.upd HU3.out hb2 (by simp))
          have hb3 : b2 < wr.heap.size := by have := HU3.out.size; omega
          have hm1 : m + 1 ≤ cs.length := by omega
          clear hp hks fit hcells
          go_wp2_with fail
          go_loopw [11, 12] (fun ss sj wx => ∃ j : Nat, j ≤ i + 1 ∧ sj = .int .i64 j ∧ ss = .bool (decide (p ∈ handedM l told j)) ∧ Upd [] wr wx) (fun _ sj _ => i + 1 - (intOf sj).toNat)
          case atStart => exact ⟨0, by omega, rfl, rfl, Upd.refl _ _⟩
          case round =>
            obtain ⟨j, hj, rfl, rfl, hu4⟩ := hrel
            have HU4 := hide hu4
            clear hu4
            by_cases hji : j ≤ i
            · have d7 : decide ((j : Int) ≤ (i : Int)) = true := by simp; omega
              have d7' : decide (j ≤ i) = true := by simpa using hji
              obtain ⟨tj, htj⟩ : ∃ tj, told[j]? = some tj := ⟨_, List.getElem?_eq_getElem (by omega)⟩
              have hnx := handed_in (l := l) htj p
              obtain ⟨is, his⟩ : ∃ is, decide (p ∈ handedM l told j) = is := ⟨_, rfl⟩
              rw [his] at hnx ⊢
              have UU := U2.out.trans (HU3.out.trans HU4.out)
              cases is with
              | true =>
                rw [Bool.true_or] at hnx
                have NXT := hide hnx; have UX := hide (HU4.out.drewN 1)
                clear hnx his htj UU
                go_wp2_with fail
                go_quiet (fail)
                have UX := hide (HU4.out.drewN nq)
                go_wp2_with fail
                go_roundw
                case rel => exact ⟨j + 1, by omega, by go_num, by rw [NXT.out], UX.out⟩
                case measure => simp [intOf]; omega
              | false =>
                rw [Bool.false_or] at hnx
                have hha := handed_any (i := j) (wr.drewN 1) ((enK.row_upd_nil HL.out UU).upd ((Upd.refl [] wr).drewN 1) (by simp) (fun _ _ _ h => enK.upd h ((Upd.refl [] wr).drewN 1) (by simp))) (toK.row_upd_nil (toK.row_upd_nil HT.out UU) ((Upd.refl [] wr).drewN 1)) htj
                have EN := hide (enK.row_upd_nil HL.out UU)
                obtain ⟨ha, hhe⟩ : ∃ ha, handsM l tj j = ha := ⟨_, rfl⟩
                rw [hhe] at hnx hha
                have HHA := hide hha
                clear hha his htj
                go_upto_region 12 with fail
                cases ha with
                | false =>
                  rw [Bool.false_and] at hnx
                  have NXT := hide hnx
                  clear hnx hhe UU
                  refine wp_region_seqP lsOps12 (by kernel_rfl) [5, 16] [0, 1, 2, 3, 4, 5, 6, 7, 8, 9, 10, 11, 12, 13, 14, 15, 16, 17, 18, 19] (fun wx => Upd [] (wr.drewN 1) wx) (by kernel_rfl) (by kernel_rfl) (fun _ _ d _ _ h => by cases d <;> exact h) (Upd.refl _ _) ?_
                  simp only [pickO, List.filterMap_cons, List.filterMap_nil, List.getElem?_cons_succ, List.getElem?_cons_zero]
                  refine wpSeqP_take (by kernel_rfl) (by kernel_rfl) ?_
                  apply Exists.intro
                  refine ⟨fun wx hS => ?_, fun a' ha => ?_⟩
                  · go_simp; rfl
                  simp only [Act.put, List.setIfInBounds_toArray, List.set_cons_succ, List.set_cons_zero] at ha
                  subst ha
                  refine wpSeqP_take (by kernel_rfl) (by kernel_rfl) ?_
                  apply Exists.intro
                  refine ⟨fun wx hS => ?_, fun a' ha => ?_⟩
                  · go_simp; rfl
                  simp only [Act.put, List.setIfInBounds_toArray, List.set_cons_succ, List.set_cons_zero] at ha
                  subst ha
                  refine wpSeqP_take (by kernel_rfl) (by kernel_rfl) ?_
                  apply Exists.intro
                  refine ⟨fun wx hS => ?_, fun a' ha => ?_⟩
                  · go_simp; rfl
                  simp only [Act.put, List.setIfInBounds_toArray, List.set_cons_succ, List.set_cons_zero] at ha
                  subst ha
                  refine wpSeqP_take (by kernel_rfl) (by kernel_rfl) ?_
                  apply Exists.intro
                  refine ⟨fun wx hS => ?_, fun a' ha => ?_⟩
                  · go_simp; rfl
                  simp only [Act.put, List.setIfInBounds_toArray, List.set_cons_succ, List.set_cons_zero] at ha
                  subst ha
                  refine wpSeqP_take (by kernel_rfl) (by kernel_rfl) ?_
                  apply Exists.intro
                  refine ⟨fun wx hS => ?_, fun a' ha => ?_⟩
                  · go_simp; rfl
                  simp only [Act.put, List.setIfInBounds_toArray, List.set_cons_succ, List.set_cons_zero] at ha
                  subst ha
                  refine wpSeqP_one (by kernel_rfl) (by kernel_rfl) (fun K hK => ?_)
                  go_simp
                  refine HHA.out.mono ?_
                  rintro e w5 ⟨rfl, rfl⟩
                  refine hK _ _ (Upd.refl [] _) ?_
                  clear hK K
                  try simp only [Act.put, List.setIfInBounds_toArray, List.set_cons_succ, List.set_cons_zero]
                  refine wpSeqP_take (by kernel_rfl) (by kernel_rfl) ?_
                  apply Exists.intro
                  refine ⟨fun wx hS => ?_, fun a' ha => ?_⟩
                  · go_simp; rfl
                  simp only [Act.put, List.setIfInBounds_toArray, List.set_cons_succ, List.set_cons_zero] at ha
                  subst ha
                  refine wpSeqP_skip (by kernel_rfl) (fun a' ha => ?_)
                  simp only [Act.put, List.setIfInBounds_toArray, List.set_cons_succ, List.set_cons_zero] at ha
                  subst ha
                  refine wpSeqP_skip (by kernel_rfl) (fun a' ha => ?_)
                  simp only [Act.put, List.setIfInBounds_toArray, List.set_cons_succ, List.set_cons_zero] at ha
                  subst ha
                  refine wpSeqP_skip (by kernel_rfl) (fun a' ha => ?_)
                  simp only [Act.put, List.setIfInBounds_toArray, List.set_cons_succ, List.set_cons_zero] at ha
                  subst ha
                  refine wpSeqP_skip (by kernel_rfl) (fun a' ha => ?_)
                  simp only [Act.put, List.setIfInBounds_toArray, List.set_cons_succ, List.set_cons_zero] at ha
                  subst ha
                  refine wpSeqP_skip (by kernel_rfl) (fun a' ha => ?_)
                  simp only [Act.put, List.setIfInBounds_toArray, List.set_cons_succ, List.set_cons_zero] at ha
                  subst ha
                  refine wpSeqP_skip (by kernel_rfl) (fun a' ha => ?_)
                  simp only [Act.put, List.setIfInBounds_toArray, List.set_cons_succ, List.set_cons_zero] at ha
                  subst ha
                  refine wpSeqP_skip (by kernel_rfl) (fun a' ha => ?_)
                  simp only [Act.put, List.setIfInBounds_toArray, List.set_cons_succ, List.set_cons_zero] at ha
                  subst ha
                  refine wpSeqP_skip (by kernel_rfl) (fun a' ha => ?_)
                  simp only [Act.put, List.setIfInBounds_toArray, List.set_cons_succ, List.set_cons_zero] at ha
                  subst ha
                  refine wpSeqP_skip (by kernel_rfl) (fun a' ha => ?_)
                  simp only [Act.put, List.setIfInBounds_toArray, List.set_cons_succ, List.set_cons_zero] at ha
                  subst ha
                  refine wpSeqP_skip (by kernel_rfl) (fun a' ha => ?_)
                  simp only [Act.put, List.setIfInBounds_toArray, List.set_cons_succ, List.set_cons_zero] at ha
                  subst ha
                  refine wpSeqP_take (by kernel_rfl) (by kernel_rfl) ?_
                  apply Exists.intro
                  refine ⟨fun wx hS => ?_, fun a' ha => ?_⟩
                  · go_simp; rfl
                  simp only [Act.put, List.setIfInBounds_toArray, List.set_cons_succ, List.set_cons_zero] at ha
                  subst ha
                  refine wpSeqP_take (by kernel_rfl) (by kernel_rfl) ?_
                  apply Exists.intro
                  refine ⟨fun wx hS => ?_, fun a' ha => ?_⟩
                  · go_simp; rfl
                  simp only [Act.put, List.setIfInBounds_toArray, List.set_cons_succ, List.set_cons_zero] at ha
                  subst ha
                  refine wpSeqP_take (by kernel_rfl) (by kernel_rfl) ?_
                  apply Exists.intro
                  refine ⟨fun wx hS => ?_, fun a' ha => ?_⟩
                  · go_simp; rfl
                  simp only [Act.put, List.setIfInBounds_toArray, List.set_cons_succ, List.set_cons_zero] at ha
                  subst ha
                  unfold wpSeqP
                  have UX := hide (HU4.out.drewN 1)
                  go_wp2_with fail
                  go_roundw
                  case rel => exact ⟨j + 1, by omega, by go_num, by rw [NXT.out], UX.out⟩
                  case measure => simp [intOf]; omega
                | true =>
                  have hjl := hands_lt hhe
                  obtain ⟨e, hle⟩ : ∃ e, l[j]? = some e := ⟨_, List.getElem?_eq_getElem hjl⟩
                  have hem : entM l j = e := by unfold entM; rw [hle]; rfl
                  rw [Bool.true_and, hem] at hnx
                  obtain ⟨be, oe, xk, ck, rfl, fite, hkse, -, hce⟩ := en_at EN.out hle
                  have hbe : be < wr.heap.size := World.block_lt_of_cell? wr _ hce.1
                  have d8 : decide ((j : Int) < l.length) = true := by simp; omega
                  have CE := hide hce; have FE := hide fite; have KE := hide hkse; have NXT := hide hnx
                  clear hnx hhe hle hem hce fite hkse UU
                  refine wp_region_seqP lsOps12 (by kernel_rfl) [5, 16] [0, 1, 2, 3, 4, 5, 6, 7, 8, 9, 10, 11, 12, 13, 14, 15, 16, 17, 18, 19] (fun wx => Upd [] (wr.drewN 1) wx) (by kernel_rfl) (by kernel_rfl) (fun _ _ d _ _ h => by cases d <;> exact h) (Upd.refl _ _) ?_
                  simp only [pickO, List.filterMap_cons, List.filterMap_nil, List.getElem?_cons_succ, List.getElem?_cons_zero]
                  refine wpSeqP_take (by kernel_rfl) (by kernel_rfl) ?_
                  apply Exists.intro
                  refine ⟨fun wx hS => ?_, fun a' ha => ?_⟩
                  · go_simp; rfl
                  simp only [Act.put, List.setIfInBounds_toArray, List.set_cons_succ, List.set_cons_zero] at ha
                  subst ha
                  refine wpSeqP_take (by kernel_rfl) (by kernel_rfl) ?_
                  apply Exists.intro
                  refine ⟨fun wx hS => ?_, fun a' ha => ?_⟩
                  · go_simp; rfl
                  simp only [Act.put, List.setIfInBounds_toArray, List.set_cons_succ, List.set_cons_zero] at ha
                  subst ha
                  refine wpSeqP_take (by kernel_rfl) (by kernel_rfl) ?_
                  apply Exists.intro
                  refine ⟨fun wx hS => ?_, fun a' ha => ?_⟩
                  · go_simp; rfl
                  simp only [Act.put, List.setIfInBounds_toArray, List.set_cons_succ, List.set_cons_zero] at ha
                  subst ha
                  refine wpSeqP_take (by kernel_rfl) (by kernel_rfl) ?_
                  apply Exists.intro
                  refine ⟨fun wx hS => ?_, fun a' ha => ?_⟩
                  · go_simp; rfl
                  simp only [Act.put, List.setIfInBounds_toArray, List.set_cons_succ, List.set_cons_zero] at ha
                  subst ha
                  refine wpSeqP_take (by kernel_rfl) (by kernel_rfl) ?_
                  apply Exists.intro
                  refine ⟨fun wx hS => ?_, fun a' ha => ?_⟩
                  · go_simp; rfl
                  simp only [Act.put, List.setIfInBounds_toArray, List.set_cons_succ, List.set_cons_zero] at ha
                  subst ha
                  refine wpSeqP_one (by kernel_rfl) (by kernel_rfl) (fun K hK => ?_)
                  go_simp
                  refine HHA.out.mono ?_
                  rintro e5 w5 ⟨rfl, rfl⟩
                  refine hK _ _ (Upd.refl [] _) ?_
                  clear hK K
                  try simp only [Act.put, List.setIfInBounds_toArray, List.set_cons_succ, List.set_cons_zero]
                  refine wpSeqP_take (by kernel_rfl) (by kernel_rfl) ?_
                  apply Exists.intro
                  refine ⟨fun wx hS => ?_, fun a' ha => ?_⟩
                  · go_simp; rfl
                  simp only [Act.put, List.setIfInBounds_toArray, List.set_cons_succ, List.set_cons_zero] at ha
                  subst ha
                  refine wpSeqP_take (by kernel_rfl) (by kernel_rfl) ?_
                  apply Exists.intro
                  refine ⟨fun wx hS => ?_, fun a' ha => ?_⟩
                  · go_simp; rfl
                  simp only [Act.put, List.setIfInBounds_toArray, List.set_cons_succ, List.set_cons_zero] at ha
                  subst ha
                  refine wpSeqP_take (by kernel_rfl) (by kernel_rfl) ?_
                  apply Exists.intro
                  refine ⟨fun wx hS => ?_, fun a' ha => ?_⟩
                  · go_simp; rfl
                  simp only [Act.put, List.setIfInBounds_toArray, List.set_cons_succ, List.set_cons_zero] at ha
                  subst ha
                  refine wpSeqP_take (by kernel_rfl) (by kernel_rfl) ?_
                  apply Exists.intro
                  refine ⟨fun wx hS => ?_, fun a' ha => ?_⟩
                  · go_simp; rfl
                  simp only [Act.put, List.setIfInBounds_toArray, List.set_cons_succ, List.set_cons_zero] at ha
                  subst ha
                  refine wpSeqP_take (by kernel_rfl) (by kernel_rfl) ?_
                  apply Exists.intro
                  refine ⟨fun wx hS => ?_, fun a' ha => ?_⟩
                  · go_simp; rfl
                  simp only [Act.put, List.setIfInBounds_toArray, List.set_cons_succ, List.set_cons_zero] at ha
                  subst ha
                  refine wpSeqP_take (by kernel_rfl) (by kernel_rfl) ?_
                  apply Exists.intro
                  refine ⟨fun wx hS => ?_, fun a' ha => ?_⟩
                  · obtain ⟨g0, g1, g2, g3, g4, g5, g6⟩ := CE.out.upd (((Upd.refl [] wr).drewN 1).trans hS) hbe (by simp); go_simp; rfl
                  simp only [Act.put, List.setIfInBounds_toArray, List.set_cons_succ, List.set_cons_zero] at ha
                  subst ha
                  refine wpSeqP_take (by kernel_rfl) (by kernel_rfl) ?_
                  apply Exists.intro
                  refine ⟨fun wx hS => ?_, fun a' ha => ?_⟩
                  · go_simp; rfl
                  simp only [Act.put, List.setIfInBounds_toArray, List.set_cons_succ, List.set_cons_zero] at ha
                  subst ha
                  refine wpSeqP_take (by kernel_rfl) (by kernel_rfl) ?_
                  apply Exists.intro
                  refine ⟨fun wx hS => ?_, fun a' ha => ?_⟩
                  · go_simp; rfl
                  simp only [Act.put, List.setIfInBounds_toArray, List.set_cons_succ, List.set_cons_zero] at ha
                  subst ha
                  refine wpSeqP_take (by kernel_rfl) (by kernel_rfl) ?_
                  apply Exists.intro
                  refine ⟨fun wx hS => ?_, fun a' ha => ?_⟩
                  · go_simp; rfl
                  simp only [Act.put, List.setIfInBounds_toArray, List.set_cons_succ, List.set_cons_zero] at ha
                  subst ha
                  refine wpSeqP_take (by kernel_rfl) (by kernel_rfl) ?_
                  apply Exists.intro
                  refine ⟨fun wx hS => ?_, fun a' ha => ?_⟩
                  · obtain ⟨g0, g1, g2, g3, g4, g5, g6⟩ := HCL.out.upd (HU4.out.trans (((Upd.refl [] wr).drewN 1).trans hS)) hb3 (by simp); go_simp; rfl
                  simp only [Act.put, List.setIfInBounds_toArray, List.set_cons_succ, List.set_cons_zero] at ha
                  subst ha
                  refine wpSeqP_one (by kernel_rfl) (by kernel_rfl) (fun K hK => ?_)
                  go_simp
                  refine (csame_any (a := e.cmd) (b := p) (wr.drewN 1) ⟨FE.out, _, rfl, KE.out.upd_nil ((Upd.refl [] wr).drewN 1)⟩ ⟨FIT.out, _, rfl, KS.out.upd_nil (HU4.out.trans ((Upd.refl [] wr).drewN 1))⟩).mono ?_
                  rintro e6 w6 ⟨rfl, hu6⟩
                  have UX := hide (HU4.out.trans (((Upd.refl [] wr).drewN 1).trans hu6))
                  obtain ⟨bo, hbo⟩ : ∃ bo, decide (e.cmd = p) = bo := ⟨_, rfl⟩
                  rw [hbo]
                  have nxt := NXT.out
                  rw [hbo] at nxt
                  have NXT := hide nxt
                  refine hK _ _ (hu6) ?_
                  clear hK K
                  try simp only [Act.put, List.setIfInBounds_toArray, List.set_cons_succ, List.set_cons_zero]
                  clear hu6 hbo nxt CE FE KE
                  refine wpSeqP_take (by kernel_rfl) (by kernel_rfl) ?_
                  apply Exists.intro
                  refine ⟨fun wx hS => ?_, fun a' ha => ?_⟩
                  · go_simp; rfl
                  simp only [Act.put, List.setIfInBounds_toArray, List.set_cons_succ, List.set_cons_zero] at ha
                  subst ha
                  refine wpSeqP_take (by kernel_rfl) (by kernel_rfl) ?_
                  apply Exists.intro
                  refine ⟨fun wx hS => ?_, fun a' ha => ?_⟩
                  · go_simp; rfl
                  simp only [Act.put, List.setIfInBounds_toArray, List.set_cons_succ, List.set_cons_zero] at ha
                  subst ha
                  refine wpSeqP_take (by kernel_rfl) (by kernel_rfl) ?_
                  apply Exists.intro
                  refine ⟨fun wx hS => ?_, fun a' ha => ?_⟩
                  · go_simp; rfl
                  simp only [Act.put, List.setIfInBounds_toArray, List.set_cons_succ, List.set_cons_zero] at ha
                  subst ha
                  unfold wpSeqP
                  go_wp2_with fail
                  go_roundw
                  case rel => exact ⟨j + 1, by omega, by go_num, by rw [NXT.out], UX.out⟩
                  case measure => simp [intOf]; omega
            · have d7 : decide ((j : Int) ≤ (i : Int)) = false := by simp; omega
              have d7' : decide (j ≤ i) = false := by simpa using hji
              obtain rfl : j = i + 1 := by omega
              obtain ⟨is, his⟩ : ∃ is, decide (p ∈ handedM l told (i + 1)) = is := ⟨_, rfl⟩
              rw [his]
              have HIS := hide his
              clear his
              cases is with
              | true =>
                go_wp2_with fail
                go_roundw
                case rel =>
                  refine ⟨m + 1, hm1, by go_num, HU3.out.trans HU4.out, fun x hx => ?_⟩
                  rw [take_snoc' HPP.out] at hx
                  rcases List.mem_append.1 hx with h5 | h5
                  · exact HAL2.out x h5
                  · simp only [List.mem_singleton] at h5; rw [h5, HIS.out]; rfl
                case measure => simp [intOf]; omega
              | false =>
                have hPd : P d = true := by rw [PD.out, List.any_eq_true]; exact ⟨p, List.mem_of_getElem? HPP.out, by rw [HIS.out]; rfl⟩
                have hany : t.done.any P = true := List.any_eq_true.2 ⟨d, List.mem_of_getElem? HD.out, hPd⟩
                have PA := hide hany
                clear hPd hany
                go_wp2_with fail
                go_ret
                rw [PA.out]
                exact ⟨rfl, U2.out.trans (HU3.out.trans HU4.out)⟩
        · have d6 : decide ((m : Int) < cs.length) = false := by simp; omega
          have d6' : decide (m < cs.length) = false := by simpa using hml
          have hal := HAL2.out
          rw [List.take_of_length_le (by omega)] at hal
          have hPd : P d = false := by
            rw [PD.out, List.any_eq_false]
            exact fun c hc => by rw [hal c hc]; simp
          have HPD := hide hPd
          clear hal hPd
          go_wp2_with fail
          go_roundw
          case rel =>
            refine ⟨k + 1, hk1, by go_num, U2.out.trans HU3.out, fun x hx => ?_⟩
            rw [take_snoc' HD.out] at hx
            rcases List.mem_append.1 hx with h5 | h5
            · exact HALL.out x h5
            · simp only [List.mem_singleton] at h5; rw [h5]; exact HPD.out
          case measure => simp [intOf]; omega
    · have d5 : decide ((k : Int) < t.done.length) = false := by simp; omega
      have d5' : decide (k < t.done.length) = false := by simpa using hkl
      have hall := HALL.out
      rw [List.take_of_length_le (by omega)] at hall
      have hany : t.done.any P = false := List.any_eq_false.2 fun d hd => by rw [hall d hd]; simp
      have PA := hide hany
      clear hall hany
      go_wp2_with fail
      go_ret
      rw [PA.out]
      exact ⟨rfl, HU.out⟩
end Go.Proofs.YtfmaflaoplkdbaaGreatDoor.Au
