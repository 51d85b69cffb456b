/- quoratelaw07.wakes returns true, and turns nothing that was there. -/
import Derived.Test.YtmgdhloehkdffaaRingWS
namespace Go.Proofs.Ytmgdhloehkdffaa.RingWk
open Go.RowKit
set_option maxHeartbeats 1000000 in
theorem wakes_any (w : World) : Calls Try.prog 12 #[] w fun e w' => e = .returned (.bool true) ∧ Upd [] w w' := by
  go_enter Try.func12, Try.ntmps12
  go_wp2_with fail
  refine (RingS.new_any 2 _ (by omega) (by omega)).mono ?_
  rintro e w1 ⟨B, C, rfl, hu1, hr1, hB, hC⟩
  have U1 := hide hu1; have R1 := hide hr1; clear hu1 hr1
  go_wp2_with fail
  refine (RingS.set_any (slot := 1) w1 _ R1.out (by omega) (by omega) (by omega)).mono ?_
  rintro e w2 ⟨rfl, hu2, hr2⟩
  have U2 := hide hu2; have R2 := hide hr2; clear hu2 hr2
  go_wp2_with fail
  refine (RingS.set_full (slot := 3) w2 _ R2.out (by omega) (by omega)).mono ?_
  rintro e w3 ⟨rfl, k3, rfl⟩
  go_wp2_with fail
  refine (RingS.set_low (slot := 0) (w2.drewN k3) _ (R2.out.drewN k3) (by omega)).mono ?_
  rintro e w4 ⟨rfl, rfl⟩
  go_wp2_with fail
  refine (RingS.release_any (tt := 1) (w2.drewN k3) (R2.out.drewN k3) (by omega) (by omega)).mono ?_
  rintro e w5 ⟨rfl, hu5, hr5⟩
  have U5 := hide hu5; have R5 := hide hr5; clear hu5 hr5
  go_wp2_with fail
  refine (RingS.set_any (slot := 3) w5 _ R5.out (by omega) (by omega) (by omega)).mono ?_
  rintro e w6 ⟨rfl, hu6, hr6⟩
  have U6 := hide hu6; have R6 := hide hr6; clear hu6 hr6
  go_wp2_with fail
  refine (RingS.get_any (slot := 1) w6 R6.out (by omega) (by omega)).mono ?_
  rintro e w7 ⟨rfl, k7, rfl⟩
  rw [rget_out (by omega)]
  go_wp2_with fail
  refine (RingS.get_any (slot := 3) (w6.drewN k7) (R6.out.drewN k7) (by omega) (by omega)).mono ?_
  rintro e w8 ⟨rfl, k8, rfl⟩
  rw [rget_in (by omega) (by omega)]
  simp only [rput, ↓reduceIte]
  go_wp2_with fail
  refine (RingS.last_any (w6.drewN (k7 + k8)) (R6.out.drewN (k7 + k8)) (by omega)).mono ?_
  rintro e w9 ⟨rfl, hu9⟩
  have hl : ((rlast 1 (rlist 2 1 (rput (rclear 2 0 (rput (fun _ => (RingS.zero, false)) (1 % 2) (.string ⟨#[97]⟩, true)) RingS.zero (min 2 (1 - 0))) (3 % 2) (.string ⟨#[99]⟩, true))) : Nat) : Int) = 3 := by rfl
  rw [hl]
  have U9 := hide hu9; clear hu9
  have R9 := hide ((R6.out.drewN (k7 + k8)).upd U9.out (by simp) (by simp))
  have hc9 := R9.out.c0
  go_wp2_with fail
  refine (RingS.base_any _ (by exact hc9)).mono ?_
  rintro e w10 ⟨rfl, rfl⟩
  go_wp2_with fail
  go_ret
  refine ⟨rfl, ?_⟩
  have h1 := (U1.out.trans_new U2.out (by simp; omega)).drewN k3
  have h2 := ((h1.trans_new U5.out (by simp; omega)).trans_new U6.out (by simp; omega)).drewN (k7 + k8)
  exact h2.trans U9.out
end Go.Proofs.Ytmgdhloehkdffaa.RingWk
