/- slices.IndexFunc, ContainsFunc over commands, as cmd.Batch asks. -/
import Derived.Test.YtfmaflaoplkdbaaGreatDoorCmP
import Derived.Test.YtfmaflaoplkdbaaGreatDoorCmK
set_option linter.unusedSimpArgs false
set_option linter.unusedVariables false
set_option linter.unnecessarySimpa false
namespace Go.Proofs.YtfmaflaoplkdbaaGreatDoor.Tr
open Go.RowKit Go.Lib Go.Proofs.YtfmaflaoplkdbaaGreatDoor.Crc Go.Proofs.YtfmaflaoplkdbaaGreatDoor.Cm Go.Proofs.YtfmaflaoplkdbaaGreatDoor.Var

def idxI : Option Nat → Int
  | none => -1
  | some k => (k : Int)
theorem idx_hit {l : List Cm} {p : Cm → Bool} {k : Nat} {c : Cm} (hno : ∀ x ∈ l.take k, p x = false) (hc : l[k]? = some c) (hp : p c = true) : l.findIdx? p = some k := by
  obtain ⟨hk, e⟩ := List.getElem?_eq_some_iff.1 hc
  rw [List.findIdx?_eq_some_iff_getElem]
  refine ⟨hk, by rw [e]; exact hp, fun j hj => ?_⟩
  have := hno l[j] (List.mem_iff_getElem?.2 ⟨j, by rw [List.getElem?_take, if_pos hj]; exact List.getElem?_eq_getElem (by omega)⟩)
  simp [this]
theorem idx_miss {l : List Cm} {p : Cm → Bool} (h : ∀ x ∈ l, p x = false) : l.findIdx? p = none := by
  rw [List.findIdx?_eq_none_iff]
  exact h
theorem take_snoc {X : Type} {l : List X} {k : Nat} {c : X} (h : l[k]? = some c) : l.take (k + 1) = l.take k ++ [c] := by
  obtain ⟨hk, e⟩ := List.getElem?_eq_some_iff.1 h
  rw [List.take_succ_eq_append_getElem hk, e]
set_option maxRecDepth 100000 in
set_option maxHeartbeats 1000000 in
theorem batch1_any {T : Nat → Prop} {v : Value} {c : Cm} (w : World) (hcnt : CntAt w) (hc : CmAt w T v c) :
    Calls Tryz.prog 48 #[v] w fun e w' => e = .returned (.bool (!decide (Cm.Good c))) ∧ Upd [] w w' := by
  obtain ⟨fit, ks, rfl, hks⟩ := hc
  obtain ⟨ka, kc, rfl, -, -, -⟩ := hks.get
  have KS := hide hks; have FIT := hide fit; have HC := hide hcnt
  clear hks fit hcnt
  unfold cmv
  simp only [strV]
  go_enter Tryz.func48, Tryz.ntmps48
  go_wp2_with fail
  refine (check_any (c := c) _ (HC.out.upd_nil ((Upd.refl _ _).alloc _)) ⟨FIT.out, _, rfl, KS.out.upd_nil ((Upd.refl _ _).alloc _)⟩).mono ?_
  rintro e w1 ⟨hu, rfl⟩
  have HU := hide (((Upd.refl [] w).alloc _).trans hu)
  clear hu
  by_cases hg : Cm.Good c
  · have hk : checkM c = 0 := by unfold checkM; rw [if_pos hg]
    rw [hk]
    have HG := hide hg
    clear hg hk
    go_wp2_with fail
    go_ret
    exact ⟨by simp [HG.out], HU.out⟩
  · have hk : checkM c = 1 := by unfold checkM; rw [if_neg hg]
    rw [hk]
    have HG := hide hg
    clear hg hk
    go_wp2_with fail
    go_ret
    exact ⟨by simp [HG.out], HU.out⟩
set_option maxRecDepth 100000 in
set_option maxHeartbeats 2000000 in
theorem idxb_any {T : Nat → Prop} {v : Value} {l : List Cm}  (w : World) (h : cmK.row w T v l) (hcnt : CntAt w) :
    Calls Tryz.prog 94 #[v, .func (.func 48) #[] #[]] w fun e w' => e = .returned (.int .i64 (idxI (l.findIdx? fun x => !decide (Cm.Good x)))) ∧ Upd [] w w' := by
  obtain ⟨xo, cp, rfl, h1, h2, hg⟩ := cm_get h
  have HG := hide hg; have HC := hide hcnt
  simp only [maxLen] at h2
  clear h hg hcnt
  go_enter Tryz.func94, Tryz.ntmps94
  go_wp2_with fail
  go_loopw [8] (fun si wr => ∃ k : Nat, k ≤ l.length ∧ si = .int .i64 k ∧ Upd [] w wr ∧ ∀ x ∈ l.take k, (!decide (Cm.Good x)) = false) (fun si _ => l.length - (intOf si).toNat)
  case atStart => exact ⟨0, by omega, rfl, Upd.refl _ _, by simp⟩
  case round =>
    obtain ⟨k, hk, rfl, hu, hall⟩ := hrel
    have HU := hide hu; have HALL := hide hall
    clear hu hall
    by_cases hlt : k < l.length
    · have d5 : decide ((k : Int) < l.length) = true := by simp; omega
      have d5' : decide (k < l.length) = true := by simpa using hlt
      obtain ⟨p, hp⟩ : ∃ p, l[k]? = some p := ⟨_, List.getElem?_eq_getElem hlt⟩
      obtain ⟨b, o, ka, kc, rfl, hb, hTb, fit, hks, hcells⟩ := HG.out k p hp
      obtain ⟨c0, c1, c2, c3, c4, c5, c6⟩ := hcells.upd HU.out hb (by simp)
      have HP := hide hp; have KS := hide (hks.upd_nil HU.out); have FIT := hide fit
      clear hp hks fit hcells
      go_wp2_with fail
      refine (batch1_any (c := p) _ (HC.out.upd_nil HU.out) ⟨FIT.out, _, rfl, KS.out⟩).mono ?_
      rintro e w2 ⟨rfl, hu2⟩
      have U2 := hide (HU.out.trans hu2)
      clear hu2
      obtain ⟨bo, hbo⟩ : ∃ bo, (!decide (Cm.Good p)) = bo := ⟨_, rfl⟩
      rw [hbo]
      have HBO := hide hbo
      clear hbo
      cases bo with
      | true =>
        go_wp2_with fail
        go_ret
        refine ⟨?_, U2.out⟩
        rw [idx_hit HALL.out HP.out HBO.out]
        rfl
      | false =>
        go_wp2_with fail
        go_roundw
        case rel =>
          refine ⟨k + 1, by omega, by go_num, U2.out, fun x hx => ?_⟩
          rw [take_snoc HP.out] at hx
          rcases List.mem_append.1 hx with h5 | h5
          · exact HALL.out x h5
          · simp only [List.mem_singleton] at h5; rw [h5]; exact HBO.out
        case measure => simp [intOf]; omega
    · have d5 : decide ((k : Int) < l.length) = false := by simp; omega
      have d5' : decide (k < l.length) = false := by simpa using hlt
      have hall := HALL.out
      rw [List.take_of_length_le (by omega)] at hall
      have HA := hide hall
      clear hall
      go_wp2_with fail
      go_ret
      refine ⟨?_, HU.out⟩
      rw [idx_miss HA.out]
      rfl
set_option maxRecDepth 100000 in
set_option maxHeartbeats 1000000 in
theorem anyb_any {T : Nat → Prop} {v : Value} {l : List Cm} (w : World) (h : cmK.row w T v l) (hcnt : CntAt w) (hg : ∀ c ∈ l, Cm.Good c) :
    Calls Tryz.prog 47 #[v, .func (.func 48) #[] #[]] w fun e w' => e = .returned (.bool false) ∧ Upd [] w w' := by
  have hi : (l.findIdx? fun x => !decide (Cm.Good x)) = none := idx_miss fun x hx => by simp [hg x hx]
  have H := hide h; have HC := hide hcnt; have HI := hide hi
  obtain ⟨xo, cp, rfl, -, -⟩ := Row.slice h
  clear h hcnt hi hg
  go_enter Tryz.func47, Tryz.ntmps47
  go_wp2_with fail
  refine (idxb_any _ H.out HC.out).mono ?_
  rw [HI.out]
  rintro e w1 ⟨rfl, hu⟩
  have HU := hide hu
  clear hu
  unfold idxI
  go_wp2_with fail
  go_ret
  exact ⟨rfl, HU.out⟩
end Go.Proofs.YtfmaflaoplkdbaaGreatDoor.Tr
