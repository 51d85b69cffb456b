/- The law AppBytes, walked. -/
import Derived.Test.YthpnnffogbjhpaaGreatDoorApOf
import Derived.Test.YthpnnffogbjhpaaGreatDoorKvWk
import Derived.Test.YthpnnffogbjhpaaGreatDoorGenAll
set_option linter.unusedSimpArgs false
set_option linter.unusedVariables false
set_option linter.unnecessarySimpa false
namespace Go.Proofs.YthpnnffogbjhpaaGreatDoor.Kv
set_option linter.unusedSimpArgs false
set_option linter.unusedVariables false
open Go.RowKit Go.Lib Go.Proofs.YthpnnffogbjhpaaGreatDoor.Crc Go.Proofs.YthpnnffogbjhpaaGreatDoor.Cm Go.Proofs.YthpnnffogbjhpaaGreatDoor.Var

set_option maxRecDepth 100000 in
set_option maxHeartbeats 8000000 in
theorem abytesL_any {bo : Option Addr} {bl bc : Nat} {bs : List UInt8} (w : World) (he : EnvAt w) (hs : SrcAt w bo bl bc (bs.map u8v) 1) (hc : bl ≤ bc) (hm : bc ≤ maxLen) :
    Calls Tryz.prog 3 #[.slice bo bl bc] w fun e w' => e = .returned (.bool true) ∧ Upd [] w w' := by
  have ENV := hide he; have SRC := hide hs
  have hlen : bs.length = bl := by have := hs.len; simpa using this
  simp only [maxLen] at hm
  clear he hs
  go_enter Tryz.func3, Tryz.ntmps3
  by_cases hbig : 3000 < bl
  · have d0 : decide ((3000 : Int) < (bl : Int)) = true := by simp; omega
    clear hbig
    go_wp2_with fail
    refine (wakes_any w ENV.out).mono ?_
    rintro e w1 ⟨rfl, hu⟩
    have U1 := hide hu
    clear hu
    go_wp2_with fail
    go_ret
    exact ⟨rfl, U1.out⟩
  have d0 : decide ((3000 : Int) < (bl : Int)) = false := by simp; omega
  have hbl : bs.length ≤ 3000 := by omega
  clear hbig
  go_wp2_with fail
  refine (aof_any w SRC.out hc (by omega)).mono ?_
  rintro e w1 ⟨⟨v1, rfl, hv1⟩, hu1⟩
  have U1 := hide hu1; have E1 := hide (ENV.out.upd_nil hu1)
  clear hu1
  by_cases h0 : (ofM bs).2 = 0
  · obtain ⟨a, ha, hba, hw⟩ := ofM_ok h0 hbl
    rw [ha] at hv1 ⊢
    obtain ⟨p, rfl, hp⟩ := hv1
    have AP := hide hp; have AW := hide hw; have HBA := hide hba
    clear ha hba hw hp h0
    simp only
    have s0 : Upd [] w1 (w1.drewN 1) := (Upd.refl _ _).drewN 1
    go_upto_region 6 with fail
    refine wp_region_z (fun wx => Upd [] w1 wx) 99 (by kernel_rfl) ?_
    refine zE 0 rfl (by kernel_rfl) (fun _ _ _ _ h => h) rfl (by exact s0) ?_
    apply Exists.intro
    refine ⟨fun wx hS => ?_, ?_⟩
    · go_simp; rfl
    simp only [Act.put, List.setIfInBounds_toArray, List.set_cons_succ, List.set_cons_zero, List.getElem_toArray, List.getElem_cons_zero]
    refine zE 3 rfl (by kernel_rfl) (fun _ _ _ _ h => h) rfl (by exact s0) ?_
    apply Exists.intro
    refine ⟨fun wx hS => ?_, ?_⟩
    · go_simp; rfl
    simp only [Act.put, zz1, zz2, zz3, zz4, zz5, zz6]
    refine zE 4 rfl (by kernel_rfl) (fun _ _ _ _ h => h) rfl (by exact s0) ?_
    apply Exists.intro
    refine ⟨fun wx hS => ?_, ?_⟩
    · have hq := run_str (src_upd SRC.out (U1.out.trans hS) (by simp)); go_simp; rfl
    simp only [Act.put, zz1, zz2, zz3, zz4, zz5, zz6]
    refine wpAnyZ_one 1 (by kernel_rfl) rfl rfl (fun K hK => ?_)
    try simp only [List.getElem_toArray, List.getElem_cons_succ, List.getElem_cons_zero]
    go_simp
    refine (abytes_any (w1.drewN 1) (AP.out.upd_nil s0) AW.out).mono ?_
    rw [← HBA.out]
    rintro e w7 ⟨v7, rfl, h7, hu7'⟩
    have hu7 : Upd [] w1 w7 := s0.trans hu7'
    obtain ⟨a7, c7, rfl, -, -, -⟩ := owns_slice h7
    have O7 := hide h7; have U17 := hide hu7; have U7 := hide (U1.out.trans hu7); have E7 := hide (E1.out.upd_nil hu7)
    have eqb : ((strOf bs).toList == (strOf bs).toList) = true := by simp
    clear h7 hu7'
    refine hK _ _ (.inr hu7) ?_
    clear hK K
    try simp only [Act.put, zz1, zz2, zz3]
    clear s0
    have sS : Upd [] w7 w7 := Upd.refl _ _
    refine wpAnyZ_strong (S' := fun wx => Upd [] w7 wx) (fun wx h => U17.out.trans h) _ _ _ _ ?_
    refine zE 2 rfl (by kernel_rfl) (fun _ _ _ _ h => h) rfl (by exact sS) ?_
    apply Exists.intro
    refine ⟨fun wx hS => ?_, ?_⟩
    · have hq := run_str (src_own (owns_upd O7.out hS (by simp)) (by simp [u8v, Value.oneCell'])) ; rw [hlen] at hq; go_simp; rfl
    simp only [Act.put, zz1, zz2, zz3, zz4, zz5, zz6]
    refine zE 5 rfl (by kernel_rfl) (fun _ _ _ _ h => h) rfl (by exact sS) ?_
    apply Exists.intro
    refine ⟨fun wx hS => ?_, ?_⟩
    · go_simp; rfl
    simp only [Act.put, zz1, zz2, zz3, zz4, zz5, zz6]
    refine zE 6 rfl (by kernel_rfl) (fun _ _ _ _ h => h) rfl (by exact sS) ?_
    apply Exists.intro
    refine ⟨fun wx hS => ?_, ?_⟩
    · go_simp; rfl
    simp only [Act.put, zz1, zz2, zz3, zz4, zz5, zz6]
    refine wpAnyZ_one 7 (by kernel_rfl) rfl rfl (fun K hK => ?_)
    try simp only [List.getElem_toArray, List.getElem_cons_succ, List.getElem_cons_zero]
    go_simp
    refine (wakes_any _ (E7.out.upd_nil sS)).mono ?_
    rintro e w9 ⟨rfl, hu9⟩
    have s9 := sS.trans hu9
    refine hK _ _ (.inr s9) ?_
    clear hK K
    try simp only [Act.put, zz1, zz2, zz3]
    refine zE 8 rfl (by kernel_rfl) (fun _ _ _ _ h => h) rfl (by exact s9) ?_
    apply Exists.intro
    refine ⟨fun wx hS => ?_, ?_⟩
    · go_simp; rfl
    simp only [Act.put, zz1, zz2, zz3, zz4, zz5, zz6]
    refine zE 9 rfl (by kernel_rfl) (fun _ _ _ _ h => h) rfl (by exact s9) ?_
    apply Exists.intro
    refine ⟨fun wx hS => ?_, ?_⟩
    · go_simp; rfl
    simp only [Act.put, zz1, zz2, zz3, zz4, zz5, zz6]
    refine wpAnyZ_done (by kernel_rfl) ?_ _
    have U9 := hide (U7.out.trans s9)
    clear s9 hu9
    go_wp2_with fail
    go_ret
    exact ⟨rfl, U9.out⟩
  · obtain ⟨h1, h2⟩ := ofM_bad h0
    rw [h1] at hv1
    obtain rfl : v1 = .pointer none := hv1
    clear h0 h1
    rcases h2 with h2 | h2
    · rw [h2]
      clear h2
      go_wp2_with fail
      refine (wakes_any _ E1.out).mono ?_
      rintro e w9 ⟨rfl, hu9⟩
      have U9 := hide (U1.out.trans hu9)
      clear hu9
      go_wp2_with fail
      go_ret
      exact ⟨rfl, U9.out⟩
    · rw [h2]
      clear h2
      go_wp2_with fail
      refine (wakes_any _ E1.out).mono ?_
      rintro e w9 ⟨rfl, hu9⟩
      have U9 := hide (U1.out.trans hu9)
      clear hu9
      go_wp2_with fail
      go_ret
      exact ⟨rfl, U9.out⟩
end Go.Proofs.YthpnnffogbjhpaaGreatDoor.Kv
