/- Upto. -/
import Derived.Test.YtmedpbpjjjhhiaaVotR
namespace Go.Proofs.Ytmedpbpjjjhhiaa.Vot
open Go.RowKit

/-- Where the chosen slots reach to. -/
def UptoIs (n floor : Nat) (l : Nat → List Sp) (s u : Nat) : Prop :=
  max s floor ≤ u ∧ u < 18446744073709551616 ∧ (∀ k, max s floor < k → k ≤ u → maj n ≤ cnt (fun r => inb (l r) k) n) ∧ (u + 1 < 18446744073709551616 → cnt (fun r => inb (l r) (u + 1)) n < maj n)
theorem UptoIs.eq {n floor : Nat} {l : Nat → List Sp} {s u v : Nat} (h : UptoIs n floor l s u) (k : UptoIs n floor l s v) : u = v := by
  obtain ⟨h1, h2, h3, h4⟩ := h
  obtain ⟨k1, k2, k3, k4⟩ := k
  rcases Nat.lt_trichotomy u v with g | g | g
  · have := k3 (u + 1) (by omega) (by omega)
    have := h4 (by omega)
    omega
  · exact g
  · have := h3 (v + 1) (by omega) (by omega)
    have := k4 (by omega)
    omega
set_option maxRecDepth 100000 in
set_option maxHeartbeats 2000000 in
theorem upto_any {B T C n floor K s : Nat} {l : Nat → List Sp} (w : World) (h : TalAt w B T C n floor K l) (hs : s < 18446744073709551616) :
    Calls Try.prog 18 #[.pointer (some ⟨T, 0, none⟩), .int .u64 (s : Int)] w fun e w' => ∃ u : Nat, e = .returned (.int .u64 (u : Int)) ∧ UptoIs n floor l s u ∧ Upd [] w w' := by
  have h7 := h.n7
  have hfl := h.fl
  have hc1 : w.cell? ⟨T, 1, none⟩ = some (.int .u64 (floor : Int)) := blk_cell h.hT rfl
  obtain ⟨s0, hs0⟩ : ∃ s0, max s floor = s0 := ⟨_, rfl⟩
  have mx : max (s : Int) (floor : Int) = (s0 : Int) := by omega
  have hs1 : s0 < 18446744073709551616 := by omega
  have H := hide h; have HS := hide hs0
  clear h hs0
  go_enter Try.func18, Try.ntmps18
  go_wp2_with fail
  clear hc1
  go_loopw [1] (fun ss wr => ∃ u : Nat, ss = .int .u64 (u : Int) ∧ s0 ≤ u ∧ u < 18446744073709551616 ∧ (∀ k, s0 < k → k ≤ u → maj n ≤ cnt (fun r => inb (l r) k) n) ∧ Upd [] w wr) (fun ss _ => 18446744073709551616 - (intOf ss).toNat)
  case atStart => exact ⟨s0, by first | rfl | (rw [mx]), Nat.le_refl _, hs1, fun k h1 h2 => by omega, Upd.refl _ _⟩
  case round =>
    obtain ⟨u, rfl, hu1, hu2, hch, hu⟩ := hrel
    have HU := hide hu; have HC := hide hch
    clear hu hch
    by_cases hlt : u + 1 < 18446744073709551616
    · have w1 : IntKind.u64.wrap ((u : Int) + 1) = (u : Int) + 1 := IntWalk.u64_in _ (by omega)
      have d1 : decide ((u : Int) < (u : Int) + 1) = true := by simp; omega
      go_wp2_with fail
      refine (reach_any (s := u) _ (H.out.quiet HU.out) hlt).mono ?_
      rintro e w2 ⟨⟨hc, rfl⟩ | ⟨v, rfl, hv1, hv2, hv3⟩, hu3⟩
      · have U2 := hide (HU.out.trans hu3); have CC := hide hc
        have q1 : ((u : Int) == (u : Int)) = true := by simp
        clear hu3 hc
        go_wp2_with fail
        go_ret
        exact ⟨u, rfl, ⟨by rw [HS.out]; exact hu1, hu2, by rw [HS.out]; exact HC.out, fun _ => CC.out⟩, U2.out⟩
      · have U2 := hide (HU.out.trans hu3); have HV := hide hv3
        have q1 : ((v : Int) == (u : Int)) = false := by simp; omega
        clear hu3 hv3
        go_wp2_with fail
        go_roundw
        case rel =>
          refine ⟨v, by go_num, by omega, hv2, fun k h1 h2 => ?_, U2.out⟩
          rcases Nat.lt_or_ge u k with h3 | h3
          · exact HV.out k h3 h2
          · exact HC.out k h1 h3
        case measure => simp [intOf]; omega
    · have e1 : u = 18446744073709551615 := by omega
      subst e1
      have w1 : IntKind.u64.wrap (((18446744073709551615 : Nat) : Int) + 1) = 0 := by decide
      go_wp2_with fail
      go_ret
      exact ⟨18446744073709551615, rfl, ⟨by rw [HS.out]; exact hu1, hu2, by rw [HS.out]; exact HC.out, fun h => absurd h (by omega)⟩, HU.out⟩
set_option maxHeartbeats 400000 in
/-- span: from one to another one. -/
theorem span_any (a b : Nat) (w : World) : Calls Try.prog 13 #[.int .u64 (a : Int), .int .u64 (b : Int)] w fun e w' => e = .returned (.agg #[.int .u64 (a : Int), .int .u64 (b : Int)]) ∧ Upd [] w w' := by
  go_enter Try.func13, Try.ntmps13
  go_wp2_with fail
  go_returns
  exact ⟨rfl, (Upd.refl [] w).alloc _⟩
end Go.Proofs.Ytmedpbpjjjhhiaa.Vot
