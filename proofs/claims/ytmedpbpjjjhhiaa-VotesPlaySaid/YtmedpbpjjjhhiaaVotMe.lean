/- quoratelaw15.VotesMeet returns true, and turns nothing that was there. -/
import Derived.Test.YtmedpbpjjjhhiaaVotK
namespace Go.Proofs.Ytmedpbpjjjhhiaa.Vot
open Go.RowKit

/-- A slice of bools, as it reads. -/
def Bools (w : World) (ao : Option Addr) (len : Nat) (f : Nat → Bool) : Prop := ∀ i, i < len → ∃ b off, ao = some ⟨b, off, none⟩ ∧ w.cell? ⟨b, off + i, none⟩ = some (.bool (f i))
theorem Tal.more {w w' : World} {T C n floor K : Nat} {l : Nat → List Sp} (h : Tal w T C n floor K l w') : Tal w T C n floor (K + 1) l w' := ⟨h.at_.more, h.upd⟩
theorem Tal.other {w w1 w2 : World} {T C n floor K T' C' n' floor' K' : Nat} {l l' : Nat → List Sp} (h : Tal w T C n floor K l w1) (h' : Tal w T' C' n' floor' K' l' w1) (hu : Upd [C'] w1 w2) (hC : C ≠ C') : Tal w T C n floor K l w2 := by
  refine ⟨h.at_.upd hu ?_ (by simpa using hC) h'.at_.setBlock, h.upd.trans_new hu (fun k hk => ?_)⟩
  · simpa using TalAt.apart' h'.at_ h.at_
  · simp at hk; subst hk; exact .inr h'.at_.loC
/-- Those of the first i that voted on a side. -/
def sideL (s : Nat) (i : Nat) (side : Nat → Bool) : Nat → List Sp := fun r => if r < i ∧ side r = true then [(s, s)] else []
theorem sideL_zero (s : Nat) (side : Nat → Bool) : sideL s 0 side = fun _ => [] := funext fun r => if_neg (by omega)
theorem sideL_in {s i : Nat} {side : Nat → Bool} (h : side i = true) : (fun k => if k = i then [(s, s)] else sideL s i side k) = sideL s (i + 1) side := by
  funext k
  unfold sideL
  by_cases e : k = i
  · subst e
    rw [if_pos rfl, if_pos ⟨by omega, h⟩]
  · rw [if_neg e]
    by_cases e2 : k < i ∧ side k = true
    · rw [if_pos e2, if_pos ⟨by omega, e2.2⟩]
    · rw [if_neg e2, if_neg (fun h => e2 ⟨by omega, h.2⟩)]
theorem sideL_out {s i : Nat} {side : Nat → Bool} (h : side i = false) : sideL s (i + 1) side = sideL s i side := by
  funext k
  unfold sideL
  by_cases e2 : k < i ∧ side k = true
  · rw [if_pos e2, if_pos ⟨by omega, e2.2⟩]
  · rw [if_neg e2, if_neg]
    rintro ⟨h1, h2⟩
    by_cases e : k = i
    · subst e; rw [h] at h2; cases h2
    · exact e2 ⟨by omega, h2⟩
theorem sideL_has {s n : Nat} {side : Nat → Bool} (hs : 1 ≤ s) : cnt (fun r => hasB 0 (sideL s n side r) s) n = cnt side n := by
  refine cnt_congr fun r hr => ?_
  unfold hasB sideL
  by_cases h : side r = true
  · rw [if_pos ⟨hr, h⟩, h]
    simp [inb]
  · rw [if_neg (fun e => h e.2)]
    simp only [Bool.not_eq_true] at h
    rw [h]
    simp [inb]
    omega
theorem cnt_not (f : Nat → Bool) (n : Nat) : cnt (fun r => !(f r)) n = n - cnt f n := by
  induction n with
  | zero => rfl
  | succ n ih =>
    have h := cnt_le f n
    simp only [cnt, ih]
    by_cases hf : f n = true
    · simp [hf]
      try omega
    · simp [hf]
      try omega
/-- One more vote in a tally: what Add makes of it. -/
theorem Tal.vote {w w1 : World} {T C n i s : Nat} {side : Nat → Bool} (h : Tal w T C n 0 i (sideL s i side) w1) (hi : i < n) (hs : 1 ≤ s) (hs2 : s < 18446744073709551616) (hK : i ≤ 100000) (hside : side i = true) :
    Calls Try.prog 12 #[.pointer (some ⟨T, 0, none⟩), .int .i64 (i : Int), .agg #[.int .u64 (s : Int), .int .u64 (s : Int)]] w1 fun e w' =>
      e = .returned (.int .i64 0) ∧ Upd [C] w1 w' ∧ Tal w T C n 0 (i + 1) (sideL s (i + 1) side) w' := by
  refine (h.add (r := i) (s, s) hi (Nat.le_refl _) hs2 hK).mono ?_
  rintro e w' ⟨rfl, hu, d, hd, hm, ht⟩
  have e1 : d = [(s, s)] := norm_ext hd (norm1 _ _ (Nat.le_refl _)) fun m => by
    have h0 : sideL s i side i = [] := if_neg (by omega)
    rw [hm m, inS1, h0]
    have := @inS_nil m
    simp only [this, false_or]
    omega
  subst e1
  rw [sideL_in hside] at ht
  exact ⟨rfl, hu, ht⟩
set_option maxRecDepth 100000 in
set_option maxHeartbeats 4000000 in
theorem meet_any {ao : Option Addr} {len cap n8 s : Nat} {f : Nat → Bool} (w : World) (hb : Bools w ao len f) (hlen : len ≤ cap) (hcap : cap ≤ maxLen) (hn : n8 < 256) (hs : s < 18446744073709551616) :
    Calls Try.prog 4 #[.int .u8 (n8 : Int), .slice ao len cap, .int .u64 (s : Int)] w fun e w' => e = .returned (.bool true) ∧ Upd [] w w' := by
  obtain ⟨e8, he8⟩ : ∃ e8, e8 = n8 % 7 := ⟨_, rfl⟩
  have r1 : (n8 : Int) % 7 = (e8 : Int) := by omega
  obtain ⟨k, hk⟩ : ∃ k, k = 1 + e8 := ⟨_, rfl⟩
  have w1 : IntKind.i64.wrap (1 + (e8 : Int)) = (k : Int) := by rw [IntWalk.i64_in _ (by omega)]; omega
  have hk1 : 1 ≤ k := by omega
  have hk7 : k ≤ 7 := by omega
  have HB := hide hb
  simp only [maxLen] at hcap
  clear hb he8 hk
  go_enter Try.func4, Try.ntmps4
  go_wp2_with fail
  refine (Tal.new (w := w) k w (Upd.refl _ _) hk1 hk7).mono ?_
  rintro e w1 ⟨T1, C1, rfl, h1, -, -, -⟩
  have H1 := hide h1
  have hC1 : C1 < w1.heap.size := by obtain ⟨_, g, -⟩ := h1.at_.hC; exact blk_lt g
  clear h1
  go_wp2_with fail
  refine (Tal.new (w := w) k w1 H1.out.upd hk1 hk7).mono ?_
  rintro e w2 ⟨T2, C2, rfl, h2, hCC, -, hu2⟩
  have H2 := hide h2; have H1' := hide (H1.out.quiet hu2)
  have hne : C1 ≠ C2 := by omega
  clear h2 hu2 H1
  by_cases hs0 : s = 0
  · subst hs0
    have q1 : (((0 : Nat) : Int) == 0) = true := by simp
    go_wp2_with fail
    refine (wakes_any _).mono ?_
    rintro e w3 ⟨rfl, hu3⟩
    have U3 := hide (H2.out.upd.trans hu3)
    clear hu3
    go_wp2_with fail
    go_ret
    exact ⟨rfl, U3.out⟩
  have q1 : ((s : Int) == 0) = false := by simp; omega
  have hs1 : 1 ≤ s := by omega
  obtain ⟨side, hside⟩ : ∃ side : Nat → Bool, side = fun r => decide (r < len) && f r := ⟨_, rfl⟩
  have SD := hide hside
  rw [← sideL_zero s side] at H1'
  rw [← sideL_zero s (fun r => !(side r))] at H2
  clear hside
  go_upto_block 0 with fail
  go_cut [12] (fun sf wx => sf = .int .i64 (cnt side k : Nat) ∧ Tal w T1 C1 k 0 k (sideL s k side) wx ∧ Tal w T2 C2 k 0 k (sideL s k fun r => !(side r)) wx)
  case first =>
    as_aux_lemma =>
    go_wp2_with fail
    go_loopw [12, 13] (fun sf si wr => ∃ i : Nat, i ≤ k ∧ si = .int .i64 i ∧ sf = .int .i64 (cnt side i : Nat) ∧ Tal w T1 C1 k 0 i (sideL s i side) wr ∧ Tal w T2 C2 k 0 i (sideL s i fun r => !(side r)) wr) (fun _ si _ => k - (intOf si).toNat)
    case atStart => exact ⟨0, by omega, rfl, rfl, H1'.out, H2.out⟩
    case round =>
      obtain ⟨i, hi, rfl, rfl, ha, hb⟩ := hrel
      have HA := hide ha; have HBB := hide hb
      have hcl := cnt_le side i
      clear ha hb
      by_cases hlt : i < k
      · have d5 : decide ((i : Int) < (k : Int)) = true := by simp; omega
        have d5' : decide (i < k) = true := by simpa using hlt
        have ifb : side i = false → ∀ (e : Ending) (W W2 : World), Upd [] wr W → True := fun _ _ _ _ _ => trivial
        clear ifb
        by_cases hil : i < len
        · have d6 : decide ((i : Int) < (len : Int)) = true := by simp; omega
          have d6' : decide (i < len) = true := by simpa using hil
          obtain ⟨b, off, rfl, hcell⟩ := HB.out i hil
          have hcl2 := cell_keep' HA.out.upd hcell
          clear hcell
          cases hf : f i with
          | true =>
            have hsd : side i = true := by rw [SD.out]; simp [hil, hf]
            have hnd : (fun r => !(side r)) i = false := by simp [hsd]
            rw [hf] at hcl2
            have w3 : IntKind.i64.wrap ((cnt side i : Int) + 1) = ((cnt side (i + 1) : Nat) : Int) := by
              rw [IntWalk.i64_in _ (by omega)]; simp only [cnt, hsd, if_true]; omega
            have HSD := hide hsd; have HND := hide hnd
            clear hf hsd hnd
            go_wp2_with fail
            refine (span_any s s _).mono ?_
            rintro e w3 ⟨rfl, hu3⟩
            have A3 := hide (HA.out.quiet hu3); have B3 := hide (HBB.out.quiet hu3)
            clear hu3
            go_wp2_with fail
            refine (A3.out.vote hlt hs1 hs (by omega) HSD.out).mono ?_
            rintro e w4 ⟨rfl, hu4, ht4⟩
            have A4 := hide ht4
            have B4 := hide (B3.out.other A3.out hu4 hne.symm).more
            clear hu4 ht4
            go_wp2_with fail
            go_roundw
            case rel => exact ⟨i + 1, by omega, by go_num, by go_num, A4.out, by rw [sideL_out HND.out]; exact B4.out⟩
            case measure => simp [intOf]; omega
          | false =>
            have hsd : side i = false := by rw [SD.out]; simp [hf]
            have hnd : (fun r => !(side r)) i = true := by simp [hsd]
            rw [hf] at hcl2
            have e3 : cnt side (i + 1) = cnt side i := by simp [cnt, hsd]
            have HSD := hide hsd; have HND := hide hnd; have E3 := hide e3
            clear hf hsd hnd e3
            go_wp2_with fail
            refine (span_any s s _).mono ?_
            rintro e w3 ⟨rfl, hu3⟩
            have A3 := hide (HA.out.quiet hu3); have B3 := hide (HBB.out.quiet hu3)
            clear hu3
            go_wp2_with fail
            refine (B3.out.vote hlt hs1 hs (by omega) HND.out).mono ?_
            rintro e w4 ⟨rfl, hu4, ht4⟩
            have B4 := hide ht4
            have A4 := hide (A3.out.other B3.out hu4 hne).more
            clear hu4 ht4
            go_wp2_with fail
            go_roundw
            case rel => exact ⟨i + 1, by omega, by go_num, by rw [E3.out], by rw [sideL_out HSD.out]; exact A4.out, B4.out⟩
            case measure => simp [intOf]; omega
        · have d6 : decide ((i : Int) < (len : Int)) = false := by simp; omega
          have d6' : decide (i < len) = false := by simpa using hil
          have hsd : side i = false := by rw [SD.out]; simp [hil]
          have hnd : (fun r => !(side r)) i = true := by simp [hsd]
          have e3 : cnt side (i + 1) = cnt side i := by simp [cnt, hsd]
          have HSD := hide hsd; have HND := hide hnd; have E3 := hide e3
          clear hsd hnd e3
          go_wp2_with fail
          refine (span_any s s _).mono ?_
          rintro e w3 ⟨rfl, hu3⟩
          have A3 := hide (HA.out.quiet hu3); have B3 := hide (HBB.out.quiet hu3)
          clear hu3
          go_wp2_with fail
          refine (B3.out.vote hlt hs1 hs (by omega) HND.out).mono ?_
          rintro e w4 ⟨rfl, hu4, ht4⟩
          have B4 := hide ht4
          have A4 := hide (A3.out.other B3.out hu4 hne).more
          clear hu4 ht4
          go_wp2_with fail
          go_roundw
          case rel => exact ⟨i + 1, by omega, by go_num, by rw [E3.out], by rw [sideL_out HSD.out]; exact A4.out, B4.out⟩
          case measure => simp [intOf]; omega
      · have d5 : decide ((i : Int) < (k : Int)) = false := by simp; omega
        have d5' : decide (i < k) = false := by simpa using hlt
        have e1 : i = k := by omega
        subst e1
        go_wp2_with fail
        go_meet
        exact ⟨rfl, HA.out, HBB.out⟩
  case rest =>
  obtain ⟨rfl, ha, hb⟩ := hcut
  have hEA : chosenB k 0 (sideL s k side) s = decide (maj k ≤ cnt side k) := by unfold chosenB; rw [sideL_has hs1]
  have hEB : chosenB k 0 (sideL s k fun r => !(side r)) s = decide (maj k ≤ k - cnt side k) := by unfold chosenB; rw [sideL_has hs1, cnt_not]
  have hF := cnt_le side k
  obtain ⟨F, hF1⟩ : ∃ F, F = cnt side k := ⟨_, rfl⟩
  obtain ⟨G, hG1⟩ : ∃ G, G = k - F := ⟨_, rfl⟩
  rw [← hF1] at hF hEA hEB ⊢
  rw [← hG1] at hEB
  have w2 : IntKind.i64.wrap ((k : Int) - (F : Int)) = (G : Int) := by rw [IntWalk.i64_in _ (by omega)]; omega
  have hmj : maj k = k / 2 + 1 := rfl
  have A20 := hide ha; have B20 := hide hb
  clear ha hb HB SD H1' H2 hF1
  by_cases hA : maj k ≤ F
  · have hB : ¬ maj k ≤ G := by omega
    have EA : chosenB k 0 (sideL s k side) s = true := by rw [hEA]; simpa using hA
    have EB : chosenB k 0 (sideL s k fun r => !(side r)) s = false := by rw [hEB]; simpa using hB
    have dA : decide (((maj k : Nat) : Int) ≤ (F : Int)) = true := by simp; omega
    have dB : decide (((maj k : Nat) : Int) ≤ (G : Int)) = false := by simp; omega
    clear hEA hEB hG1 hmj
    by_cases hev : k % 2 = 0
    · have q2 : (k : Int) % 2 = 0 := by omega
      go_wp2_with fail
      refine (chosen_any (m := s) _ A20.out.at_).mono ?_
      rintro e w21 ⟨rfl, hu21⟩
      have A21 := hide (A20.out.quiet hu21); have B21 := hide (B20.out.quiet hu21)
      clear hu21 A20 B20
      rw [EA]
      go_wp2_with fail
      refine (chosen_any (m := s) _ B21.out.at_).mono ?_
      rintro e w22 ⟨rfl, hu22⟩
      have A22 := hide (A21.out.quiet hu22); have B22 := hide (B21.out.quiet hu22)
      clear hu22 A21 B21
      rw [EB]
      go_wp2_with fail
      refine (chosen_any (m := s) _ A22.out.at_).mono ?_
      rintro e w23 ⟨rfl, hu23⟩
      have A23 := hide (A22.out.quiet hu23); have B23 := hide (B22.out.quiet hu23)
      clear hu23 A22 B22
      rw [EA]
      go_wp2_with fail
      refine (majority_any k _ hk7).mono ?_
      rintro e wm ⟨rfl, rfl⟩
      go_wp2_with fail
      refine (chosen_any (m := s) _ B23.out.at_).mono ?_
      rintro e w24 ⟨rfl, hu24⟩
      have A24 := hide (A23.out.quiet hu24); have B24 := hide (B23.out.quiet hu24)
      clear hu24 A23 B23
      rw [EB]
      go_wp2_with fail
      refine (majority_any k _ hk7).mono ?_
      rintro e wm ⟨rfl, rfl⟩
      go_wp2_with fail
      refine (wakes_any _).mono ?_
      rintro e wz ⟨rfl, huz⟩
      have UZ := hide (A24.out.upd.trans huz)
      clear huz
      go_wp2_with fail
      go_ret
      exact ⟨rfl, UZ.out⟩
    · have q2 : (k : Int) % 2 = 1 := by omega
      go_wp2_with fail
      refine (chosen_any (m := s) _ A20.out.at_).mono ?_
      rintro e w21 ⟨rfl, hu21⟩
      have A21 := hide (A20.out.quiet hu21); have B21 := hide (B20.out.quiet hu21)
      clear hu21 A20 B20
      rw [EA]
      go_wp2_with fail
      refine (chosen_any (m := s) _ B21.out.at_).mono ?_
      rintro e w22 ⟨rfl, hu22⟩
      have A22 := hide (A21.out.quiet hu22); have B22 := hide (B21.out.quiet hu22)
      clear hu22 A21 B21
      rw [EB]
      go_wp2_with fail
      refine (chosen_any (m := s) _ A22.out.at_).mono ?_
      rintro e w23 ⟨rfl, hu23⟩
      have A23 := hide (A22.out.quiet hu23); have B23 := hide (B22.out.quiet hu23)
      clear hu23 A22 B22
      rw [EA]
      go_wp2_with fail
      refine (majority_any k _ hk7).mono ?_
      rintro e wm ⟨rfl, rfl⟩
      go_wp2_with fail
      refine (chosen_any (m := s) _ B23.out.at_).mono ?_
      rintro e w24 ⟨rfl, hu24⟩
      have A24 := hide (A23.out.quiet hu24); have B24 := hide (B23.out.quiet hu24)
      clear hu24 A23 B23
      rw [EB]
      go_wp2_with fail
      refine (majority_any k _ hk7).mono ?_
      rintro e wm ⟨rfl, rfl⟩
      go_wp2_with fail
      refine (chosen_any (m := s) _ A24.out.at_).mono ?_
      rintro e w25 ⟨rfl, hu25⟩
      have A25 := hide (A24.out.quiet hu25); have B25 := hide (B24.out.quiet hu25)
      clear hu25 A24 B24
      rw [EA]
      go_wp2_with fail
      refine (chosen_any (m := s) _ B25.out.at_).mono ?_
      rintro e w26 ⟨rfl, hu26⟩
      have A26 := hide (A25.out.quiet hu26); have B26 := hide (B25.out.quiet hu26)
      clear hu26 A25 B25
      rw [EB]
      go_wp2_with fail
      refine (wakes_any _).mono ?_
      rintro e wz ⟨rfl, huz⟩
      have UZ := hide (A26.out.upd.trans huz)
      clear huz
      go_wp2_with fail
      go_ret
      exact ⟨rfl, UZ.out⟩
  · by_cases hB : maj k ≤ G
    · have EA : chosenB k 0 (sideL s k side) s = false := by rw [hEA]; simpa using hA
      have EB : chosenB k 0 (sideL s k fun r => !(side r)) s = true := by rw [hEB]; simpa using hB
      have dA : decide (((maj k : Nat) : Int) ≤ (F : Int)) = false := by simp; omega
      have dB : decide (((maj k : Nat) : Int) ≤ (G : Int)) = true := by simp; omega
      clear hEA hEB hG1 hmj
      by_cases hev : k % 2 = 0
      · have q2 : (k : Int) % 2 = 0 := by omega
        go_wp2_with fail
        refine (chosen_any (m := s) _ A20.out.at_).mono ?_
        rintro e w21 ⟨rfl, hu21⟩
        have A21 := hide (A20.out.quiet hu21); have B21 := hide (B20.out.quiet hu21)
        clear hu21 A20 B20
        rw [EA]
        go_wp2_with fail
        refine (chosen_any (m := s) _ A21.out.at_).mono ?_
        rintro e w22 ⟨rfl, hu22⟩
        have A22 := hide (A21.out.quiet hu22); have B22 := hide (B21.out.quiet hu22)
        clear hu22 A21 B21
        rw [EA]
        go_wp2_with fail
        refine (majority_any k _ hk7).mono ?_
        rintro e wm ⟨rfl, rfl⟩
        go_wp2_with fail
        refine (chosen_any (m := s) _ B22.out.at_).mono ?_
        rintro e w23 ⟨rfl, hu23⟩
        have A23 := hide (A22.out.quiet hu23); have B23 := hide (B22.out.quiet hu23)
        clear hu23 A22 B22
        rw [EB]
        go_wp2_with fail
        refine (majority_any k _ hk7).mono ?_
        rintro e wm ⟨rfl, rfl⟩
        go_wp2_with fail
        refine (wakes_any _).mono ?_
        rintro e wz ⟨rfl, huz⟩
        have UZ := hide (A23.out.upd.trans huz)
        clear huz
        go_wp2_with fail
        go_ret
        exact ⟨rfl, UZ.out⟩
      · have q2 : (k : Int) % 2 = 1 := by omega
        go_wp2_with fail
        refine (chosen_any (m := s) _ A20.out.at_).mono ?_
        rintro e w21 ⟨rfl, hu21⟩
        have A21 := hide (A20.out.quiet hu21); have B21 := hide (B20.out.quiet hu21)
        clear hu21 A20 B20
        rw [EA]
        go_wp2_with fail
        refine (chosen_any (m := s) _ A21.out.at_).mono ?_
        rintro e w22 ⟨rfl, hu22⟩
        have A22 := hide (A21.out.quiet hu22); have B22 := hide (B21.out.quiet hu22)
        clear hu22 A21 B21
        rw [EA]
        go_wp2_with fail
        refine (majority_any k _ hk7).mono ?_
        rintro e wm ⟨rfl, rfl⟩
        go_wp2_with fail
        refine (chosen_any (m := s) _ B22.out.at_).mono ?_
        rintro e w23 ⟨rfl, hu23⟩
        have A23 := hide (A22.out.quiet hu23); have B23 := hide (B22.out.quiet hu23)
        clear hu23 A22 B22
        rw [EB]
        go_wp2_with fail
        refine (majority_any k _ hk7).mono ?_
        rintro e wm ⟨rfl, rfl⟩
        go_wp2_with fail
        refine (chosen_any (m := s) _ A23.out.at_).mono ?_
        rintro e w24 ⟨rfl, hu24⟩
        have A24 := hide (A23.out.quiet hu24); have B24 := hide (B23.out.quiet hu24)
        clear hu24 A23 B23
        rw [EA]
        go_wp2_with fail
        refine (chosen_any (m := s) _ B24.out.at_).mono ?_
        rintro e w25 ⟨rfl, hu25⟩
        have A25 := hide (A24.out.quiet hu25); have B25 := hide (B24.out.quiet hu25)
        clear hu25 A24 B24
        rw [EB]
        go_wp2_with fail
        refine (wakes_any _).mono ?_
        rintro e wz ⟨rfl, huz⟩
        have UZ := hide (A25.out.upd.trans huz)
        clear huz
        go_wp2_with fail
        go_ret
        exact ⟨rfl, UZ.out⟩
    · have hev : k % 2 = 0 := by omega
      have EA : chosenB k 0 (sideL s k side) s = false := by rw [hEA]; simpa using hA
      have EB : chosenB k 0 (sideL s k fun r => !(side r)) s = false := by rw [hEB]; simpa using hB
      have dA : decide (((maj k : Nat) : Int) ≤ (F : Int)) = false := by simp; omega
      have dB : decide (((maj k : Nat) : Int) ≤ (G : Int)) = false := by simp; omega
      have q2 : (k : Int) % 2 = 0 := by omega
      clear hEA hEB hG1 hmj
      go_wp2_with fail
      refine (chosen_any (m := s) _ A20.out.at_).mono ?_
      rintro e w21 ⟨rfl, hu21⟩
      have A21 := hide (A20.out.quiet hu21); have B21 := hide (B20.out.quiet hu21)
      clear hu21 A20 B20
      rw [EA]
      go_wp2_with fail
      refine (chosen_any (m := s) _ A21.out.at_).mono ?_
      rintro e w22 ⟨rfl, hu22⟩
      have A22 := hide (A21.out.quiet hu22); have B22 := hide (B21.out.quiet hu22)
      clear hu22 A21 B21
      rw [EA]
      go_wp2_with fail
      refine (majority_any k _ hk7).mono ?_
      rintro e wm ⟨rfl, rfl⟩
      go_wp2_with fail
      refine (chosen_any (m := s) _ B22.out.at_).mono ?_
      rintro e w23 ⟨rfl, hu23⟩
      have A23 := hide (A22.out.quiet hu23); have B23 := hide (B22.out.quiet hu23)
      clear hu23 A22 B22
      rw [EB]
      go_wp2_with fail
      refine (majority_any k _ hk7).mono ?_
      rintro e wm ⟨rfl, rfl⟩
      go_wp2_with fail
      refine (wakes_any _).mono ?_
      rintro e wz ⟨rfl, huz⟩
      have UZ := hide (A23.out.upd.trans huz)
      clear huz
      go_wp2_with fail
      go_ret
      exact ⟨rfl, UZ.out⟩
end Go.Proofs.Ytmedpbpjjjhhiaa.Vot
