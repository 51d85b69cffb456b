/- quoratelaw07.RingSlides returns true for every room, base and steps, and turns nothing that was there. -/
import Derived.Test.YtmgdhloehkdffaaRingWk
import Derived.Test.YtmgdhloehkdffaaRingWU
namespace Go.Proofs.Ytmgdhloehkdffaa.RingSl
open Go.RowKit
open RingU (TR TC zero)

/-- How many are looked at, and how great a base: else the known ring answers. -/
def big (len : Nat) (b0 : Nat) : Bool := decide (100 < len) || decide (1152921504606846976 < b0)

set_option maxHeartbeats 1000000 in
set_option maxRecDepth 100000 in
theorem slides_any (rm b0 : Nat) (ao : Option Addr) (len cap : Nat) (zs : Nat → Nat) (w : World) (hrm : rm < 256) (hb0 : b0 < 18446744073709551616) (hlen : len ≤ maxLen)
    (hcells : ∀ i, i < len → ∃ b off, ao = some ⟨b, off, none⟩ ∧ b < w.heap.size ∧ w.cell? ⟨b, off + i, none⟩ = some (.int .u8 (zs i)) ∧ zs i < 256) :
    Calls Try.prog 4 #[.int .u8 rm, .int .u64 b0, .slice ao len cap] w fun e w' => e = .returned (.bool true) ∧ Upd [] w w' := by
  unfold maxLen at hlen
  have HC := hide hcells
  clear hcells
  obtain ⟨n, hn⟩ : ∃ n : Nat, (n : Int) = 1 + (rm : Int) % 40 := ⟨1 + rm % 40, by omega⟩
  have hn1 : 1 ≤ n := by omega
  have hn40 : n ≤ 40 := by omega
  have HN := hide hn
  clear hn
  by_cases hbig : 100 < len
  · have hd : decide ((100 : Int) < len) = true := by simp; omega
    go_enter Try.func4, Try.ntmps4
    go_wp2_with fail
    rw [← HN.out]
    refine (RingU.new_any n _ (by omega) (by omega)).mono ?_
    rintro e w1 ⟨B, C, rfl, hu1, hr1, hB, hC⟩
    have U1 := hide hu1; clear hu1 hr1
    go_wp2_with fail
    refine (RingWk.wakes_any _).mono ?_
    rintro e w2 ⟨rfl, hu2⟩
    have U2 := hide hu2; clear hu2
    go_wp2_with fail
    go_ret
    exact ⟨rfl, U1.out.trans U2.out⟩
  by_cases hbig2 : 1152921504606846976 < b0
  · have hd : decide ((100 : Int) < len) = false := by simp; omega
    have hd2 : decide ((1152921504606846976 : Int) < b0) = true := by simp; omega
    go_enter Try.func4, Try.ntmps4
    go_wp2_with fail
    rw [← HN.out]
    refine (RingU.new_any n _ (by omega) (by omega)).mono ?_
    rintro e w1 ⟨B, C, rfl, hu1, hr1, hB, hC⟩
    have U1 := hide hu1; clear hu1 hr1
    go_wp2_with fail
    refine (RingWk.wakes_any _).mono ?_
    rintro e w2 ⟨rfl, hu2⟩
    have U2 := hide hu2; clear hu2
    go_wp2_with fail
    go_ret
    exact ⟨rfl, U1.out.trans U2.out⟩
  have hd : decide ((100 : Int) < len) = false := by simp; omega
  have hd2 : decide ((1152921504606846976 : Int) < b0) = false := by simp; omega
  go_enter Try.func4, Try.ntmps4
  go_wp2_with fail
  rw [← HN.out]
  refine (RingU.new_any n _ (by omega) (by omega)).mono ?_
  rintro e w1 ⟨B, C, rfl, hu1, hr1, hB, hC⟩
  have U1 := hide hu1; have R1 := hide hr1; clear hu1 hr1
  go_wp2_with fail
  refine (RingU.release_any (tt := b0) _ R1.out (by omega) (by omega)).mono ?_
  rintro e w2 ⟨rfl, hu2, hr2⟩
  have U2 := hide (U1.out.trans_new hu2 (by simp; omega)); have R2 := hide hr2; clear hu2 hr2 U1 R1
  go_wp2_with fail
  go_loopw [1, 10, 11] (fun sb sn si wr => ∃ (k base next : Nat) (f : Nat → Value × Bool), k ≤ len ∧ si = .int .i64 k ∧ sb = .int .u64 base ∧ sn = .int .u64 next ∧ base + 1 ≤ next ∧ next ≤ base + n + 1 ∧ base ≤ 1152921504606846976 + k * 40 ∧
      Ring TR TC wr B C n base f ∧ (∀ s, base < s → s < next → f (s % n) = (.int .u64 ((s * 7 : Nat) : Int), true)) ∧ Upd [] w wr) (fun _ _ i _ => len - (intOf i).toNat)
  case atStart => exact ⟨0, b0, b0 + 1, _, by omega, rfl, rfl, by go_num, by omega, by omega, by omega, R2.out, fun s h1 h2 => by omega, U2.out⟩
  case round =>
    obtain ⟨k, base, next, f, hk, rfl, rfl, rfl, hb1, hb2, hb3, hr, hf, hu⟩ := hrel
    have R := hide hr; have F := hide hf; have U := hide hu
    clear hr hf hu
    by_cases hlt : k < len
    · go_wp2_with fail
      -- fill
      go_loopw [10] (fun sn wr2 => ∃ (next : Nat) (f : Nat → Value × Bool), sn = .int .u64 next ∧ base + 1 ≤ next ∧ next ≤ base + n + 1 ∧
        Ring TR TC wr2 B C n base f ∧ (∀ s, base < s → s < next → f (s % n) = (.int .u64 ((s * 7 : Nat) : Int), true)) ∧ Upd [] w wr2) (fun sn _ => base + n + 1 - (intOf sn).toNat)
      case atStart => exact ⟨next, f, rfl, hb1, hb2, R.out, F.out, U.out⟩
      case round =>
        clear hb1 hb2 F R U
        obtain ⟨nx, f2, rfl, hb1, hb2, hr, hf, hu⟩ := hrel
        have R := hide hr; have F := hide hf; have U := hide hu
        clear hr hf hu
        by_cases hlt2 : nx ≤ base + n
        · have hd3 : decide ((nx : Int) ≤ base + n) = true := by simp; omega
          go_wp2_with fail
          refine (RingU.set_any (slot := nx) _ _ R.out (by omega) (by omega) (by omega)).mono ?_
          rintro e w3 ⟨rfl, hu3, hr3⟩
          have U3 := hide (U.out.trans_new hu3 (by simp; omega)); have R3 := hide hr3; clear hu3 hr3 R U
          go_wp2_with fail
          go_roundw
          case rel =>
            refine ⟨nx + 1, _, by go_num, by omega, by omega, R3.out, ?_, U3.out⟩
            intro s h1 h2
            unfold rput
            by_cases e : s = nx
            · subst e
              rw [if_pos rfl]
              simp
            · rw [if_neg (fun h => e (mod_inj (base := base) (n := n) h1 (by omega) (by omega) (by omega) h))]
              exact F.out s h1 (by omega)
          case measure => simp [intOf]; omega
        · have hd3 : decide ((nx : Int) ≤ base + n) = false := by simp; omega
          obtain rfl : nx = base + n + 1 := by omega
          go_wp2_with fail
          refine (RingU.set_full (slot := base + n + 1) _ _ R.out (by omega) (by omega)).mono ?_
          rintro e w3 ⟨rfl, k3, rfl⟩
          go_wp2_with fail
          refine (RingU.last_any _ (R.out.drewN k3) (by omega)).mono ?_
          rintro e w4 ⟨rfl, hu4⟩
          rw [rlast_full hn1 (fun s h1 h2 => by rw [F.out s h1 (by omega)])]
          have U4 := hide ((U.out.drewN k3).trans hu4); have R4 := hide ((R.out.drewN k3).upd hu4 (by simp) (by simp)); clear hu4 R U
          go_wp2_with fail
          -- all are there
          go_loopw [12] (fun sx wr3 => ∃ (x : Nat), sx = .int .u64 x ∧ base + 1 ≤ x ∧ x ≤ base + n + 1 ∧ Ring TR TC wr3 B C n base f2 ∧ Upd [] w wr3) (fun sx _ => base + n + 1 - (intOf sx).toNat)
          case atStart => exact ⟨base + 1, by go_num, by omega, by omega, R4.out, U4.out⟩
          case round =>
            clear R4 U4
            obtain ⟨x, rfl, hx1, hx2, hr, hu⟩ := hrel
            have R := hide hr; have U := hide hu
            clear hr hu
            by_cases hlt3 : x ≤ base + n
            · have hd4 : decide ((x : Int) ≤ base + n) = true := by simp; omega
              go_wp2_with fail
              refine (RingU.get_any (slot := x) _ R.out (by omega) (by omega)).mono ?_
              rw [rget_in (by omega) (by omega), F.out x (by omega) (by omega)]
              rintro e w5 ⟨rfl, k5, rfl⟩
              go_wp2_with fail
              go_roundw
              case rel => exact ⟨x + 1, by go_num, by omega, by omega, R.out.drewN k5, U.out.drewN k5⟩
              case measure => simp [intOf]; omega
            · have hd4 : decide ((x : Int) ≤ base + n) = false := by simp; omega
              obtain ⟨b, off, rfl, hb, hc, hz⟩ := HC.out k hlt
              have hc2 : wr.cell? ⟨b, off + k, none⟩ = some (.int .u8 (zs k)) := by rw [← hc]; exact U.out.below_nil.cell hb
              have hm1 : 0 ≤ (zs k : Int) % ((n : Int) + 1) := Int.emod_nonneg _ (by omega)
              have hm2 : (zs k : Int) % ((n : Int) + 1) ≤ n := by have := Int.emod_lt_of_pos (zs k : Int) (show 0 < (n : Int) + 1 by omega); omega
              obtain ⟨t, ht⟩ : ∃ t : Nat, (t : Int) = base + (zs k : Int) % ((n : Int) + 1) := ⟨(base + (zs k : Int) % ((n : Int) + 1)).toNat, by omega⟩
              have ht1 : base ≤ t := by omega
              have ht2 : t ≤ base + n := by omega
              have HT := hide ht
              clear ht hc HC
              go_wp2_with fail
              rw [← HT.out]
              clear HT hm1 hm2
              refine (RingU.release_any (tt := t) _ R.out (by omega) (by omega)).mono ?_
              rintro e w5 ⟨rfl, hu5, hr5⟩
              have U5 := hide (U.out.trans_new hu5 (by simp; omega)); have R5 := hide hr5; clear hu5 hr5 U R
              go_wp2_with fail
              refine (RingU.set_low (slot := t) _ _ R5.out (by omega)).mono ?_
              rintro e w6 ⟨rfl, rfl⟩
              go_wp2_with fail
              refine (RingU.get_any (slot := t) _ R5.out (by omega) (by omega)).mono ?_
              rw [rget_out (by omega)]
              rintro e w7 ⟨rfl, k7, rfl⟩
              go_wp2_with fail
              go_roundw
              case rel =>
                refine ⟨k + 1, t, base + n + 1, _, by omega, by go_num, rfl, by go_num, by omega, by omega, by omega, R5.out.drewN k7, ?_, U5.out.drewN k7⟩
                intro s h1 h2
                rw [rclear_keeps (by omega) (by omega) (by omega)]
                exact F.out s (by omega) h2
              case measure => simp [intOf]; omega
    · go_wp2_with fail
      refine (RingWk.wakes_any _).mono ?_
      rintro e w2 ⟨rfl, hu2⟩
      have U2 := hide hu2; clear hu2
      go_wp2_with fail
      go_ret
      exact ⟨rfl, U.out.trans U2.out⟩
end Go.Proofs.Ytmgdhloehkdffaa.RingSl
