/- cmd.Check. -/
import Derived.Test.YthpnnffogbjhpaaGreatDoorCmM
set_option linter.unusedSimpArgs false
set_option linter.unusedVariables false
set_option linter.unnecessarySimpa false
namespace Go.Proofs.YthpnnffogbjhpaaGreatDoor.Cm
set_option linter.unusedSimpArgs false
set_option linter.unusedVariables false
open Go.RowKit Go.Proofs.YthpnnffogbjhpaaGreatDoor.Crc

def KeyOk (k : List UInt8) : Prop := k ≠ [] ∧ k.length ≤ 32
instance (k : List UInt8) : Decidable (KeyOk k) := by unfold KeyOk; infer_instance
theorem str_empty (k : List UInt8) : (strOf k).toList.isEmpty = decide (k = []) := by
  have h : (strOf k).toList = k := by
    simp [strOf]
  rw [h]
  cases k <;> simp
set_option maxHeartbeats 1000000 in
theorem long_any (w : World) (k : List UInt8) (hk : k.length ≤ 4611686018427387904) :
    Calls Tryz.prog 79 #[.string (strOf k)] w fun e w' => e = .returned (.bool (!decide (KeyOk k))) ∧ w = w' := by
  have hs := strOf_size k
  have q := str_empty k
  by_cases h : k = []
  · have q1 : (strOf k).toList.isEmpty = true := by rw [q]; simpa using h
    have H := hide h
    clear q h
    go_enter Tryz.func79, Tryz.ntmps79
    go_wp2_with fail
    go_ret
    have h := H.out
    exact ⟨by simp [KeyOk, h], rfl⟩
  · have q1 : (strOf k).toList.isEmpty = false := by rw [q]; simpa using h
    have H := hide h
    clear q h
    go_enter Tryz.func79, Tryz.ntmps79
    go_wp2_with fail
    go_ret
    have h := H.out
    have h2 : decide ((32 : Int) < (k.length : Int)) = decide (32 < k.length) := by simp; omega
    refine ⟨?_, rfl⟩
    simp only [go_sem]
    show Ending.returned (Value.bool (decide ((32 : Int) < (k.length : Int)))) = _
    rw [h2]
    unfold KeyOk
    by_cases h4 : 32 < k.length <;> simp [h, h4] <;> omega
set_option maxHeartbeats 1000000 in
theorem findk_any {T : Nat → Prop} {v : Value} {l : List (List UInt8)} (w : World) (hs : Strs w T v l) (hl : ∀ k ∈ l, k.length ≤ 4611686018427387904) :
    Calls Tryz.prog 101 #[v, .func (.func 79) #[] #[]] w fun e w' => Upd [] w w' ∧ ∃ r : Int, e = .returned (.int .i64 r) ∧ ((r = -1 ∧ ∀ k ∈ l, KeyOk k) ∨ (0 ≤ r ∧ ∃ k ∈ l, ¬ KeyOk k)) := by
  obtain ⟨xo, c, rfl, h2, h3, hg⟩ := hs.get
  have HG := hide hg; have HL := hide hl
  simp only [maxLen] at h3
  clear hs hg hl
  go_enter Tryz.func101, Tryz.ntmps101
  go_wp2_with fail
  go_loopw [8] (fun si wr => ∃ k : Nat, k ≤ l.length ∧ si = .int .i64 k ∧ Upd [] w wr ∧ ∀ q ∈ l.take k, KeyOk q) (fun si _ => l.length - (intOf si).toNat)
  case atStart => exact ⟨0, by omega, rfl, Upd.refl _ _, by simp⟩
  case round =>
    obtain ⟨k, hk, rfl, hu, hall⟩ := hrel
    have HU := hide hu; have HA := hide hall
    clear hu hall
    by_cases hlt : k < l.length
    · have d5 : decide ((k : Int) < l.length) = true := by simp; omega
      have d5' : decide (k < l.length) = true := by simpa using hlt
      obtain ⟨p, hp⟩ : ∃ p, l[k]? = some p := ⟨_, List.getElem?_eq_getElem hlt⟩
      obtain ⟨b, off, rfl, hb, hc⟩ := HG.out k p hp
      have hc' : wr.cell? ⟨b, off + k, none⟩ = some (.string (strOf p)) := by
        rw [← hc]; have := HU.out.block b hb (by simp); simp only [World.cell?, this]
      have hpl := HL.out p (List.mem_of_getElem? hp)
      have HP := hide hp
      clear hc hp
      go_wp2_with fail
      refine (long_any _ p hpl).mono ?_
      rintro e w2 ⟨rfl, rfl⟩
      by_cases hok : KeyOk p
      · have q : (!decide (KeyOk p)) = false := by simpa using hok
        have OK := hide hok
        clear hok
        simp only [q]
        go_wp2_with fail
        go_roundw
        case rel =>
          refine ⟨k + 1, by omega, by go_num, HU.out, fun q' hq => ?_⟩
          rw [List.take_add_one, HP.out] at hq
          rcases List.mem_append.1 hq with h5 | h5
          · exact HA.out q' h5
          · simp at h5; rw [h5]; exact OK.out
        case measure => simp [intOf] <;> omega
      · have q : (!decide (KeyOk p)) = true := by simpa using hok
        have OK := hide hok
        clear hok
        simp only [q]
        go_wp2_with fail
        go_ret
        exact ⟨HU.out, _, rfl, .inr ⟨by omega, p, List.mem_of_getElem? HP.out, OK.out⟩⟩
    · have d5 : decide ((k : Int) < l.length) = false := by simp; omega
      have d5' : decide (k < l.length) = false := by simpa using hlt
      have hall : ∀ q ∈ l, KeyOk q := by have := HA.out; rwa [List.take_of_length_le (by omega)] at this
      have HB := hide hall
      clear hall
      go_wp2_with fail
      go_ret
      exact ⟨HU.out, _, rfl, .inl ⟨rfl, HB.out⟩⟩
set_option maxHeartbeats 1000000 in
theorem anyk_any {T : Nat → Prop} {v : Value} {l : List (List UInt8)} (w : World) (hs : Strs w T v l) (hl : ∀ k ∈ l, k.length ≤ 4611686018427387904) :
    Calls Tryz.prog 80 #[v, .func (.func 79) #[] #[]] w fun e w' => Upd [] w w' ∧ e = .returned (.bool (!decide (∀ k ∈ l, KeyOk k))) := by
  have HS := hide hs
  obtain ⟨xo, c, rfl, -, -, -⟩ := hs.get
  clear hs
  go_enter Tryz.func80, Tryz.ntmps80
  go_wp2_with fail
  refine (findk_any _ HS.out hl).mono ?_
  rintro e w' ⟨hu, r, rfl, h⟩
  have HU := hide hu
  clear hu
  rcases h with ⟨rfl, h⟩ | ⟨h0, h⟩
  · have HH := hide h
    clear h
    go_wp2_with fail
    go_ret
    have : decide (∀ k ∈ l, KeyOk k) = true := by simpa using HH.out
    exact ⟨HU.out, by simp [this]⟩
  · have HH := hide h
    have d : decide ((0 : Int) ≤ r) = true := by simpa using h0
    clear h
    go_wp2_with fail
    go_ret
    have : decide (∀ k ∈ l, KeyOk k) = false := by
      have := HH.out
      simp only [decide_eq_false_iff_not]
      rintro h9
      obtain ⟨k, hk, hn⟩ := this
      exact hn (h9 k hk)
    exact ⟨HU.out, by simp [this]⟩
end Go.Proofs.YthpnnffogbjhpaaGreatDoor.Cm
