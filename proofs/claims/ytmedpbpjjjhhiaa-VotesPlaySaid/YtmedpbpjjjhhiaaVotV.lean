/- Has, Chosen, Spans, Release. -/
import Derived.Test.YtmedpbpjjjhhiaaVotU
namespace Go.Proofs.Ytmedpbpjjjhhiaa.Vot
open Go.RowKit

/-- Has a replica a slot? -/
def hasB (floor : Nat) (l : List Sp) (m : Nat) : Bool := inb l m || decide (m ≤ floor)
theorem TalAt.cellC {w : World} {B T C n floor K : Nat} {l : Nat → List Sp} (h : TalAt w B T C n floor K l) {r : Nat} (hr : r < n) : ∃ v, w.cell? ⟨C, r, none⟩ = some v ∧ SpRow w B v (l r) := by
  obtain ⟨cs, h1, h2, h3⟩ := h.hC
  obtain ⟨v, h4, h5⟩ := h3 r hr
  exact ⟨v, blk_cell h1 h4, h5⟩
set_option maxRecDepth 100000 in
set_option maxHeartbeats 1000000 in
theorem thas_any {B T C n floor K r m : Nat} {l : Nat → List Sp} (w : World) (h : TalAt w B T C n floor K l) (hr : r < n) :
    Calls Try.prog 19 #[.pointer (some ⟨T, 0, none⟩), .int .i64 (r : Int), .int .u64 (m : Int)] w fun e w' => e = .returned (.bool (hasB floor (l r) m)) ∧ Upd [] w w' := by
  have h7 := h.n7
  have hc0 : w.cell? ⟨T, 0, none⟩ = some (.slice (some ⟨C, 0, none⟩) n n) := blk_cell h.hT rfl
  obtain ⟨v, hv, hrow⟩ := h.cellC hr
  have d1 : decide ((r : Int) < 0) = false := by simp
  have d2 : decide ((n : Int) ≤ (r : Int)) = false := by simp; omega
  have H := hide h; have HV := hide hv; have HR := hide hrow
  clear h hrow
  go_enter Try.func19, Try.ntmps19
  go_wp2_with fail
  refine (at_any (l := l r) (base := B) (m := m) _ HV.out HR.out).mono ?_
  rintro e w2 ⟨hat, hu⟩
  have HU := hide hu
  have hT2 := hu.get H.out.hT (by simp)
  have t1 : ∀ o, (w2.alloc o).cell? ⟨T, 1, none⟩ = some (.int .u64 (floor : Int)) := fun o => blk_cell (blk_alloc hT2 o) rfl
  clear hu hT2 hv
  rcases hat with ⟨p, hf, rfl⟩ | ⟨hf, rfl⟩
  · have e1 : inb (l r) m = true := by rw [← findS_is, hf]; rfl
    have E1 := hide e1
    clear e1 hf
    go_wp2_with fail
    go_ret
    exact ⟨by simp [hasB, E1.out], HU.out.alloc _⟩
  · have e1 : inb (l r) m = false := by rw [← findS_is, hf]; rfl
    have E1 := hide e1
    clear e1 hf
    by_cases hm : m ≤ floor
    · have d3 : decide ((m : Int) ≤ (floor : Int)) = true := by simp; omega
      go_wp2_with fail
      go_ret
      exact ⟨by simp [hasB, E1.out, hm], HU.out.alloc _⟩
    · have d3 : decide ((m : Int) ≤ (floor : Int)) = false := by simp; omega
      go_wp2_with fail
      go_ret
      exact ⟨by simp [hasB, E1.out]; omega, HU.out.alloc _⟩
/-- Is a slot chosen? -/
def chosenB (n floor : Nat) (l : Nat → List Sp) (m : Nat) : Bool := decide (maj n ≤ cnt (fun r => hasB floor (l r) m) n)
set_option maxHeartbeats 1000000 in
theorem chosen_any {B T C n floor K m : Nat} {l : Nat → List Sp} (w : World) (h : TalAt w B T C n floor K l) :
    Calls Try.prog 15 #[.pointer (some ⟨T, 0, none⟩), .int .u64 (m : Int)] w fun e w' => e = .returned (.bool (chosenB n floor l m)) ∧ Upd [] w w' := by
  have h7 := h.n7
  have hc0 : w.cell? ⟨T, 0, none⟩ = some (.slice (some ⟨C, 0, none⟩) n n) := blk_cell h.hT rfl
  have H := hide h
  clear h
  go_enter Try.func15, Try.ntmps15
  go_wp2_with fail
  clear hc0
  go_loopw [5, 14] (fun sn si wr => ∃ k : Nat, k ≤ n ∧ si = .int .i64 k ∧ sn = .int .i64 (cnt (fun r => hasB floor (l r) m) k : Nat) ∧ Upd [] w wr) (fun _ si _ => n - (intOf si).toNat)
  case atStart => exact ⟨0, by omega, rfl, rfl, Upd.refl _ _⟩
  case round =>
    obtain ⟨k, hk, rfl, rfl, hu⟩ := hrel
    have HU := hide hu
    clear hu
    have hcl := cnt_le (fun r => hasB floor (l r) m) k
    by_cases hlt : k < n
    · have d5 : decide ((k : Int) < (n : Int)) = true := by simp; omega
      have d5' : decide (k < n) = true := by simpa using hlt
      go_wp2_with fail
      refine (thas_any (m := m) _ (H.out.quiet HU.out) hlt).mono ?_
      rintro e w2 ⟨rfl, hu2⟩
      have U2 := hide (HU.out.trans hu2)
      clear hu2
      cases hb : hasB floor (l k) m with
      | true =>
        have w1 : IntKind.i64.wrap ((cnt (fun r => hasB floor (l r) m) k : Int) + 1) = ((cnt (fun r => hasB floor (l r) m) (k + 1) : Nat) : Int) := by
          rw [IntWalk.i64_in _ (by omega)]; simp only [cnt, hb, if_true]; omega
        clear hb
        go_wp2_with fail
        go_roundw
        case rel => exact ⟨k + 1, by omega, by go_num, by go_num, U2.out⟩
        case measure => simp [intOf]; omega
      | false =>
        have e1 : cnt (fun r => hasB floor (l r) m) (k + 1) = cnt (fun r => hasB floor (l r) m) k := by simp [cnt, hb]
        have E1 := hide e1
        clear hb e1
        go_wp2_with fail
        go_roundw
        case rel => exact ⟨k + 1, by omega, by go_num, by rw [E1.out], U2.out⟩
        case measure => simp [intOf]; omega
    · have d5 : decide ((k : Int) < (n : Int)) = false := by simp; omega
      have d5' : decide (k < n) = false := by simpa using hlt
      have e1 : k = n := by omega
      subst e1
      have hc0 : wr.cell? ⟨T, 0, none⟩ = some (.slice (some ⟨C, 0, none⟩) k k) := blk_cell (HU.out.get H.out.hT (by simp)) rfl
      go_wp2_with fail
      refine (majority_any k _ h7).mono ?_
      rintro e w2 ⟨rfl, rfl⟩
      go_wp2_with fail
      go_ret
      refine ⟨?_, HU.out⟩
      unfold chosenB
      simp
end Go.Proofs.Ytmedpbpjjjhhiaa.Vot
