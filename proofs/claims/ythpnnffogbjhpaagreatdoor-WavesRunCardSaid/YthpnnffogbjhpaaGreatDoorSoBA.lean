/- SoB, SoA in one text. -/
import Derived.Test.YthpnnffogbjhpaaGreatDoorSoNC
import Derived.Test.YthpnnffogbjhpaaGreatDoorSoUIH
import Derived.Sort.WalkA6
import Derived.Deep.CutBlock
set_option linter.unusedSimpArgs false
set_option linter.unusedVariables false
set_option linter.unnecessarySimpa false
namespace Go.Proofs.YthpnnffogbjhpaaGreatDoor.So
open Go.RowKit Go.Sort Go.Shelf
set_option linter.unusedVariables false
variable {w0 w w' : World} {blk off n cap : Nat} {c : Array Value} {e : TypeId} {d : Array Nat}
set_option maxHeartbeats 3200000 in
set_option maxRecDepth 1000000 in
theorem breakPatterns_any {a b : Nat} (hR : Rw w0 blk off n c e d w) (hbl : blk < w.heap.size) (hab : a ≤ b) (hb : b ≤ n) (hn : n < 4611686018427387904) :
    Calls Tryz.prog 114 #[.slice (some ⟨blk, off, none⟩) n cap, .int .i64 a, .int .i64 b] w fun ex w' => ex = .returned (.tuple #[]) ∧ Rw w0 blk off n c e (breakPatterns d a b) w' := by
  have hq0 : w0.heap.size ≤ w.heap.size := hR.upd.size
  have hbq : blk ≠ w.heap.size := by omega
  obtain ⟨L, hL⟩ : ∃ L, b - a = L := ⟨_, rfl⟩
  have eL : (b : Int) - (a : Int) = (L : Int) := by omega
  by_cases h8 : 8 ≤ L
  · have hbL : b = a + L := by omega
    have hbp : breakPatterns d a b = bpRest a L (1 <<< bitsLen L) (a + L / 4 * 2 - 1) 3 0 (UInt64.ofNat L, d) := by rw [hbL]; exact breakPatterns_eq d a L h8
    rw [hbp]
    clear hbp
    obtain ⟨M, hM⟩ : ∃ M : Nat, M = 1 <<< bitsLen L := ⟨_, rfl⟩
    have hM1 : 1 ≤ M := by rw [hM, Nat.one_shiftLeft]; exact Nat.two_pow_pos _
    have hM2 : M ≤ 2 * L := by rw [hM, Nat.one_shiftLeft]; exact two_pow_bitsLen_le (by omega)
    have hNP : ∀ w, Calls Tryz.prog 132 #[.int .i64 (L : Int)] w fun e w' => e = .returned (.int .u64 (M : Int)) ∧ w' = w := by rw [hM]; exact fun w => pow_any (by omega) w
    rw [← hM]
    clear hM
    obtain ⟨i0, hi0⟩ : ∃ i0, a + L / 4 * 2 - 1 = i0 := ⟨_, rfl⟩
    rw [hi0]
    have ei : (a : Int) + (L : Int) / 4 * 2 - 1 = (i0 : Int) := by omega
    have ei2 : (a : Int) + (L : Int) / 4 * 2 + 1 = (i0 : Int) + 2 := by omega
    have hi3 : i0 + 3 ≤ n := by omega
    have hia : a ≤ i0 := by omega
    have d1 : decide ((8 : Int) ≤ (L : Int)) = true := by simp; omega
    have d1' : decide (8 ≤ L) = true := by simpa using h8
    have HR := hide hR
    have HST : Hid (Rw w0 blk off n c e d (w.alloc (.cells #[.int .u64 (L : Int)] 210)) ∧ (w.alloc (.cells #[.int .u64 (L : Int)] 210)).heap[w.heap.size]? = some (.cells #[.int .u64 ((UInt64.ofNat L).toNat : Int)] 210 (0, 0))) :=
      ⟨hR.same ((Upd.refl [] w).alloc _), by rw [show (UInt64.ofNat L).toNat = L from by simp; omega]; exact blk_new w _⟩
    clear hR hi0 hbL
    go_enter Tryz.func114, Tryz.ntmps114
    go_wp2_with (first | (go_at_call 132; refine (hNP _).mono ?_; rintro e w' ⟨rfl, rfl⟩))
    go_loopw [9] (fun vi wr => ∃ (t : Nat) (r : UInt64) (dk : Array Nat), vi = .int .i64 ((i0 : Int) + (t : Int)) ∧ t ≤ 3 ∧ Rw w0 blk off n c e dk wr ∧
        wr.heap[w.heap.size]? = some (.cells #[.int .u64 (r.toNat : Int)] 210 (0, 0)) ∧
        Hid (bpRest a L M i0 (3 - t) t (r, dk) = bpRest a L M i0 3 0 (UInt64.ofNat L, d))) (fun vi _ => i0 + 3 - (intOf vi).toNat)
    case atStart => exact ⟨0, UInt64.ofNat L, d, by first | (congr 1; done) | (congr 1; omega), by omega, HST.out.1, HST.out.2, rfl⟩
    case round =>
      clear HST
      obtain ⟨t, r, dk, rfl, ht, hRk, hqk, HREST⟩ := hrel
      rcases Nat.lt_or_ge t 3 with ht3 | ht3
      · obtain ⟨R, hRr⟩ : ∃ R : Nat, R = r.toNat := ⟨_, rfl⟩
        have lR : R < 18446744073709551616 := by rw [hRr]; exact r.toNat_lt
        obtain ⟨R', hR'⟩ : ∃ R' : Nat, R' = xorNextN R := ⟨_, rfl⟩
        have lR' : R' < 18446744073709551616 := by rw [hR']; exact xorNextN_lt R lR
        obtain ⟨O, hO⟩ : ∃ O : Nat, O = R' &&& (M - 1) := ⟨_, rfl⟩
        have lO : O ≤ M - 1 := by rw [hO]; exact Nat.and_le_right
        have eAnd : bits .and .u64 (R' : Int) ((M : Int) - 1) = (O : Int) := by
          rw [show ((M : Int) - 1) = ((M - 1 : Nat) : Int) by omega, bits_and_u64_nat _ _ lR' (by omega), hO]
        have dle : decide ((i0 : Int) + (t : Int) ≤ (i0 : Int) + 2) = true := by simp; omega
        rw [← hRr] at hqk
        have HNext := hide (next_any lR hqk)
        rw [← hR'] at HNext
        have HN : Hid (R' = (xorNext r).toNat ∧ O = (xorNext r).toNat &&& (M - 1)) := by
          have e : R' = (xorNext r).toNat := by rw [hR', hRr, xorNext_toNat]
          exact ⟨e, by rw [hO, e]⟩
        obtain ⟨o, ho⟩ : ∃ o, (if O ≥ L then O - L else O) = o := ⟨_, rfl⟩
        have hol : o < L := by
          rw [← ho]
          split <;> omega
        have HS : Hid (bpRest a L M i0 (3 - t) t (r, dk) = bpRest a L M i0 (3 - (t + 1)) (t + 1) (xorNext r, swp dk (i0 + t) (a + o))) := bp_step a L M i0 t r dk o ht3 (by rw [← HN.out.2]; exact ho)
        have HRk := hide hRk
        have HO := hide ho
        clear hRk hqk hRr hR' hO ho
        go_wp2_with fail
        refine HNext.out.mono ?_
        rintro ex w1 ⟨rfl, hu1, hq1⟩
        have hR1 : Rw w0 blk off n c e dk w1 := ⟨HRk.out.upd.trans_new hu1 (fun k hk => .inr (by simp at hk; omega)), HRk.out.sz, HRk.out.fit, hu1.get HRk.out.blk (by simp; exact hbq)⟩
        obtain ⟨Gk, hG⟩ : ∃ G : Nat → Nat, ∀ t, G t = dk[t]! := ⟨fun t => dk[t]!, fun _ => rfl⟩
        have hcw : ∀ x, x < n → w1.cell? ⟨blk, off + x, none⟩ = some (.int .u32 (Gk x : Int)) := fun x hx => by rw [hG]; exact hR1.cell hx
        have hfw : ∀ x, x < n → w1.frozen? ⟨blk, off + x, none⟩ = false := fun x hx => hR1.frz
        have AG := hide hG; have HR1 := hide hR1; have HQ1 := hide hq1
        clear hG hR1 hq1 hu1 HNext HRk
        go_upto_if 43 with fail
        go_cut [10] (fun s10 wx => s10 = .int .i64 (o : Int) ∧ wx = w1)
        case first => as_aux_lemma =>
          by_cases hLO : L ≤ O
          · have f1 : decide ((L : Int) ≤ (O : Int)) = true := by simp; omega
            have f1' : decide (L ≤ O) = true := by simpa using hLO
            have ho2 := HO.out
            rw [if_pos hLO] at ho2
            have eo : (O : Int) - (L : Int) = (o : Int) := by omega
            clear ho2
            go_wp2_with fail
            go_meet
            exact ⟨rfl, rfl⟩
          · have f1 : decide ((L : Int) ≤ (O : Int)) = false := by simp; omega
            have f1' : decide (L ≤ O) = false := by simpa using hLO
            have ho2 := HO.out
            rw [if_neg hLO] at ho2
            subst ho2
            go_wp2_with fail
            go_meet
            exact ⟨rfl, rfl⟩
        case rest =>
        obtain ⟨rfl, rfl⟩ := hcut
        have ea : (a : Int) + (o : Int) = ((a + o : Nat) : Int) := by omega
        have et : (i0 : Int) + (t : Int) = ((i0 + t : Nat) : Int) := by omega
        obtain ⟨x, hx⟩ : ∃ x, i0 + t = x := ⟨_, rfl⟩
        obtain ⟨y, hy⟩ : ∃ y, a + o = y := ⟨_, rfl⟩
        rw [hx] at et HS
        rw [hy] at ea HS
        have hxn : x < n := by omega
        have hyn : y < n := by omega
        have ex2 : (x : Int) + 1 = (i0 : Int) + ((t + 1 : Nat) : Int) := by omega
        have HX := hide hx
        have HE := hide ex2
        clear hx hy ex2
        rcases Nat.lt_trichotomy x y with hxy | hxy | hxy
        rotate_left
        · subst hxy
          go_wp2_with fail
          go_region
          all_goals go_wp2_with fail
          all_goals go_roundw
          case rel =>
            refine ⟨t + 1, xorNext r, swp dk x x, by rw [← HE.out], by omega, ?_, ?_, HS.out.symm.trans HREST.out⟩
            · rw [AG.out]; exact (HR1.out.swp hxn hxn).drew1
            · rw [← HN.out.1]; exact (blk_set_other (blk_set_other HQ1.out (Ne.symm hbq) _) (Ne.symm hbq) _)
          case measure => simp [intOf]; omega
        all_goals
          go_wp2_with fail
          go_region
          all_goals go_wp2_with fail
          all_goals go_roundw
          case rel =>
            refine ⟨t + 1, xorNext r, swp dk x y, by rw [← HE.out], by omega, ?_, ?_, HS.out.symm.trans HREST.out⟩
            · rw [AG.out, AG.out]; exact (HR1.out.swp hxn hyn).drew1
            · rw [← HN.out.1]; exact (blk_set_other (blk_set_other HQ1.out (Ne.symm hbq) _) (Ne.symm hbq) _)
          case measure => simp [intOf]; omega
      · obtain rfl : t = 3 := by omega
        have dle : decide ((i0 : Int) + (3 : Int) ≤ (i0 : Int) + 2) = false := by simp
        have HRk := hide hRk
        clear hRk hqk
        go_wp2_with fail
        go_end0
        exact ⟨rfl, by rw [← HREST.out]; exact HRk.out⟩
  · have hbp : breakPatterns d a b = d := by unfold breakPatterns; simp only [hL, if_neg h8]
    rw [hbp]
    have d1 : decide ((8 : Int) ≤ (L : Int)) = false := by simp; omega
    have d1' : decide (8 ≤ L) = false := by simpa using h8
    have HR := hide hR
    clear hR hbp
    go_enter Tryz.func114, Tryz.ntmps114
    go_wp2_with fail
    go_end0
    exact ⟨rfl, HR.out⟩
end Go.Proofs.YthpnnffogbjhpaaGreatDoor.So
namespace Go.Proofs.YthpnnffogbjhpaaGreatDoor.So
open Go.RowKit Go.Sort Go.Shelf
set_option linter.unusedVariables false
variable {w0 w w' : World} {blk off n cap : Nat} {c : Array Value} {e : TypeId} {d : Array Nat}
set_option maxHeartbeats 6400000 in
set_option maxRecDepth 1000000 in
theorem partialInsertion_any {a b : Nat} (hR : Rw w0 blk off n c e d w) (hab : a < b) (hb : b ≤ n) (hn : n < 4611686018427387904) :
    Calls Tryz.prog 117 #[.slice (some ⟨blk, off, none⟩) n cap, .int .i64 a, .int .i64 b] w fun ex w' =>
      ex = .returned (.bool (Sort.partialInsertionSort ltU d a b).2) ∧ Rw w0 blk off n c e (Sort.partialInsertionSort ltU d a b).1 w' := by
  have HR := hide hR
  clear hR
  go_enter Tryz.func117, Tryz.ntmps117
  go_wp2_with fail
  go_loopw [7, 8] (fun vi vs wr => ∃ (i s : Nat) (dk : Array Nat), vi = .int .i64 i ∧ vs = .int .i64 s ∧ s ≤ 5 ∧ a < i ∧ i ≤ b ∧ Rw w0 blk off n c e dk wr ∧
      Hid (partialIns ltU a b (5 - s) i dk = partialIns ltU a b 5 (a + 1) d)) (fun _ vs _ => 5 - (intOf vs).toNat)
  case atStart => exact ⟨a + 1, 0, d, by go_num, rfl, by omega, by omega, by omega, HR.out, rfl⟩
  case round =>
    clear HR
    obtain ⟨i, s, dk, rfl, rfl, hs5, hai, hib, hRk, HO⟩ := hrel
    rcases Nat.lt_or_ge s 5 with hs | hs
    rotate_left
    · obtain rfl : s = 5 := by omega
      have HRk := hide hRk
      clear hRk
      have hv : Sort.partialInsertionSort ltU d a b = (dk, false) := by
        unfold Sort.partialInsertionSort
        rw [← HO.out]
        exact pi_end ltU a b i dk
      have HV := hide hv
      clear hv
      go_wp2_with fail
      go_ret
      exact ⟨by rw [HV.out]; rfl, by rw [HV.out]; exact HRk.out⟩
    · have d1 : decide ((s : Int) < 5) = true := by simp; omega
      have d1' : decide (s < 5) = true := by simpa using hs
      have HRk := hide hRk
      clear hRk
      go_upto_block 2 with fail
      go_cut [7] (fun vi wx => ∃ k : Nat, vi = .int .i64 k ∧ i ≤ k ∧ k ≤ b ∧ Rw w0 blk off n c e dk wx ∧ Hid (scanSorted ltU dk b i = k))
      case first => as_aux_lemma =>
        go_wp2_with fail
        go_loopw [7] (fun vi wr2 => ∃ k : Nat, vi = .int .i64 k ∧ i ≤ k ∧ k ≤ b ∧ Rw w0 blk off n c e dk wr2 ∧ Hid (scanSorted ltU dk b k = scanSorted ltU dk b i)) (fun vi _ => b - (intOf vi).toNat)
        case atStart => exact ⟨i, rfl, Nat.le_refl _, hib, HRk.out, rfl⟩
        case round =>
          clear HRk
          obtain ⟨k, rfl, hik, hkb, hRj, HS⟩ := hrel
          obtain ⟨G, hG⟩ : ∃ G : Nat → Nat, ∀ t, G t = dk[t]! := ⟨fun t => dk[t]!, fun _ => rfl⟩
          have AG := hide hG
          clear hG
          have hcw : ∀ t, t < n → wr.cell? ⟨blk, off + t, none⟩ = some (.int .u32 (G t : Int)) := fun t ht => by rw [AG.out]; exact hRj.cell ht
          have hfw : ∀ t, t < n → wr.frozen? ⟨blk, off + t, none⟩ = false := fun t ht => hRj.frz
          have HK2 := hide hRj
          clear hRj
          by_cases hkb2 : k < b
          · have f1 : decide ((k : Int) < (b : Int)) = true := by simp; omega
            have f1' : decide (k < b) = true := by simpa using hkb2
            go_wp2_with fail
            go_big_quiet (first | (go_at_call 118; refine Calls.quiet_of_same (less_any _ _ _)))
            go_wp2_with fail
            · have ht : (!ltU (G k) (G (k - 1))) = true := by first | assumption | (simp only [ltU, decide_eq_true_eq]; assumption) | (simp [ltU]; omega)
              go_roundw
              case rel => exact ⟨k + 1, by go_num, by omega, by omega, HK2.out.drew nq, (scanSorted_go ltU dk b k hkb2 (by rw [← AG.out, ← AG.out]; simpa using ht)).symm.trans HS.out⟩
              case measure => simp [intOf]; omega
            · have ht : (!ltU (G k) (G (k - 1))) = false := by first | assumption | (simp only [ltU, decide_eq_false_iff_not]; omega) | (simp [ltU]; omega)
              go_meet
              exact ⟨k, rfl, hik, hkb, HK2.out.drew nq, HS.out.symm.trans (scanSorted_stop ltU dk b k (Or.inr (by rw [← AG.out, ← AG.out]; simpa using ht)))⟩
          · have f1 : decide ((k : Int) < (b : Int)) = false := by simp; omega
            have f1' : decide (k < b) = false := by simpa using hkb2
            go_wp2_with fail
            go_big_quiet (first | (go_at_call 118; refine Calls.quiet_of_same (less_any _ _ _)))
            go_wp2_with fail
            go_meet
            exact ⟨k, rfl, hik, hkb, HK2.out.drew nq, HS.out.symm.trans (scanSorted_stop ltU dk b k (Or.inl hkb2))⟩
      case rest =>
      clear HRk
      obtain ⟨k, rfl, hik, hkb, hRk, HK⟩ := hcut
      by_cases hkb2 : k = b
      · have f1 : ((k : Int) == (b : Int)) = true := by simp; omega
        have HV : Hid (Sort.partialInsertionSort ltU d a b = (dk, true)) := by
          show _ = _
          unfold Sort.partialInsertionSort
          rw [← HO.out]
          exact pi_true ltU a b s i dk hs (by rw [HK.out]; exact hkb2)
        have HRk := hide hRk
        clear hRk hkb2
        go_wp2_with fail
        go_ret
        exact ⟨by rw [HV.out]; rfl, by rw [HV.out]; exact HRk.out⟩
      · have f1 : ((k : Int) == (b : Int)) = false := by simp; omega
        by_cases h50 : b - a < 50
        · have f2 : decide ((b : Int) - (a : Int) < 50) = true := by simp; omega
          have HV : Hid (Sort.partialInsertionSort ltU d a b = (dk, false)) := by
            show _ = _
            unfold Sort.partialInsertionSort
            rw [← HO.out]
            exact pi_short ltU a b s i dk hs (by rw [HK.out]; exact hkb2) h50
          have HRk := hide hRk
          clear hRk hkb2
          go_wp2_with fail
          go_ret
          exact ⟨by rw [HV.out]; rfl, by rw [HV.out]; exact HRk.out⟩
        · have f2 : decide ((b : Int) - (a : Int) < 50) = false := by simp; omega
          have HGO : Hid (partialIns ltU a b (5 - (s + 1)) k (fixUp ltU b k (fixDown ltU a k (Sort.swp dk k (k - 1)))) = partialIns ltU a b 5 (a + 1) d) := (pi_go ltU a b s i k dk hs HK.out hkb2 h50).symm.trans HO.out
          have hkb3 : k < b := by omega
          obtain ⟨G, hG⟩ : ∃ G : Nat → Nat, ∀ t, G t = dk[t]! := ⟨fun t => dk[t]!, fun _ => rfl⟩
          have AG := hide hG
          clear hG
          have hcw : ∀ t, t < n → wc.cell? ⟨blk, off + t, none⟩ = some (.int .u32 (G t : Int)) := fun t ht => by rw [AG.out]; exact hRk.cell ht
          have hfw : ∀ t, t < n → wc.frozen? ⟨blk, off + t, none⟩ = false := fun t ht => hRk.frz
          have HK2 := hide hRk
          clear hRk
          clear hkb2
          go_upto_region 11 with fail
          go_cut [] (fun wx => Rw w0 blk off n c e (Sort.swp dk k (k - 1)) wx)
          case first => as_aux_lemma =>
            have ek : (k : Int) - 1 = ((k - 1 : Nat) : Int) := by omega
            go_wp2_with fail
            go_region
            all_goals go_wp2_with fail
            all_goals go_meet
            all_goals (rw [AG.out, AG.out]; exact (HK2.out.swp (i := k) (j := k - 1) (by omega) (by omega)).drew1)
          case rest =>
          clear hcw hfw HK2 AG
          have HR1 := hide hcut
          clear hcut
          obtain ⟨d1a, hd1a⟩ : ∃ x, Sort.swp dk k (k - 1) = x := ⟨_, rfl⟩
          rw [hd1a] at HR1 HGO
          clear hd1a
          rename World => W2
          go_upto_if 61 with fail
          go_cut [] (fun wx => Rw w0 blk off n c e (fixDown ltU a k d1a) wx)
          case first => as_aux_lemma =>
            by_cases h2 : k - a ≥ 2
            · have f3 : decide ((2 : Int) ≤ (k : Int) - (a : Int)) = true := by simp; omega
              have HF : Hid (fixDown ltU a k d1a = shiftDown ltU (k - 1) d1a) := if_pos h2
              go_wp2_with fail
              go_loopw [9] (fun vj wr2 => ∃ (j : Nat) (dj : Array Nat), vj = .int .i64 j ∧ j < k ∧ Rw w0 blk off n c e dj wr2 ∧ Hid (shiftDown ltU j dj = shiftDown ltU (k - 1) d1a)) (fun vj _ => (intOf vj).toNat)
              case atStart => exact ⟨k - 1, d1a, by go_num, by omega, HR1.out, rfl⟩
              case round =>
                clear HR1
                obtain ⟨j, dj, rfl, hjk, hRj, HS⟩ := hrel
                obtain ⟨G, hG⟩ : ∃ G : Nat → Nat, ∀ t, G t = dj[t]! := ⟨fun t => dj[t]!, fun _ => rfl⟩
                have AG := hide hG
                clear hG
                have hcw : ∀ t, t < n → wr.cell? ⟨blk, off + t, none⟩ = some (.int .u32 (G t : Int)) := fun t ht => by rw [AG.out]; exact hRj.cell ht
                have hfw : ∀ t, t < n → wr.frozen? ⟨blk, off + t, none⟩ = false := fun t ht => hRj.frz
                have HK2 := hide hRj
                clear hRj
                by_cases hj1 : 1 ≤ j
                · have f4 : decide ((1 : Int) ≤ (j : Int)) = true := by simp; omega
                  have f4' : decide (1 ≤ j) = true := by simpa using hj1
                  go_wp2_with fail
                  go_big_quiet (first | (go_at_call 118; refine Calls.quiet_of_same (less_any _ _ _)))
                  go_wp2_with fail
                  · have ht : (!ltU (G j) (G (j - 1))) = true := by first | assumption | (simp only [ltU, decide_eq_true_eq]; assumption) | (simp [ltU]; omega)
                    go_meet
                    rw [HF.out, ← HS.out, shiftDown_stop ltU j dj (Or.inr (by rw [← AG.out, ← AG.out]; simpa using ht))]
                    exact HK2.out.drew nq
                  · have ht : (!ltU (G j) (G (j - 1))) = false := by first | assumption | (simp only [ltU, decide_eq_false_iff_not]; omega) | (simp [ltU]; omega)
                    have hs2 : Hid (shiftDown ltU (j - 1) (Sort.swp dj j (j - 1)) = shiftDown ltU (k - 1) d1a) := (shiftDown_go ltU j dj hj1 (by rw [← AG.out, ← AG.out]; simpa using ht)).symm.trans HS.out
                    go_region
                    all_goals go_wp2_with fail
                    all_goals go_roundw
                    case rel => exact ⟨j - 1, Sort.swp dj j (j - 1), by go_num, by omega, by rw [AG.out, AG.out]; exact (HK2.out.drew (nq + 1)).swp (i := j) (j := j - 1) (by omega) (by omega), hs2.out⟩
                    case measure => simp [intOf]; omega
                · have f4 : decide ((1 : Int) ≤ (j : Int)) = false := by simp; omega
                  have f4' : decide (1 ≤ j) = false := by simpa using hj1
                  go_wp2_with fail
                  go_meet
                  rw [HF.out, ← HS.out, shiftDown_stop ltU j dj (Or.inl (by omega))]
                  exact HK2.out
            · have f3 : decide ((2 : Int) ≤ (k : Int) - (a : Int)) = false := by simp; omega
              have HF : Hid (fixDown ltU a k d1a = d1a) := if_neg h2
              go_wp2_with fail
              go_meet
              rw [HF.out]
              exact HR1.out
          case rest =>
          clear HR1
          have HR2 := hide hcut
          clear hcut
          obtain ⟨d2a, hd2a⟩ : ∃ x, fixDown ltU a k d1a = x := ⟨_, rfl⟩
          rw [hd2a] at HR2 HGO
          clear hd2a
          rename World => W3
          go_upto_if 98 with fail
          · by_cases h2 : b - k ≥ 2
            · have f3 : decide ((2 : Int) ≤ (b : Int) - (k : Int)) = true := by simp; omega
              have HF : Hid (fixUp ltU b k d2a = shiftUp ltU b (k + 1) d2a) := if_pos h2
              go_wp2_with fail
              go_loopw [10] (fun vj wr2 => ∃ (j : Nat) (dj : Array Nat), vj = .int .i64 j ∧ k < j ∧ j ≤ b ∧ Rw w0 blk off n c e dj wr2 ∧ Hid (shiftUp ltU b j dj = shiftUp ltU b (k + 1) d2a)) (fun vj _ => b - (intOf vj).toNat)
              case atStart => exact ⟨k + 1, d2a, by go_num, by omega, by omega, HR2.out, rfl⟩
              case round =>
                clear HR2
                obtain ⟨j, dj, rfl, hjk, hjb, hRj, HS⟩ := hrel
                obtain ⟨G, hG⟩ : ∃ G : Nat → Nat, ∀ t, G t = dj[t]! := ⟨fun t => dj[t]!, fun _ => rfl⟩
                have AG := hide hG
                clear hG
                have hcw : ∀ t, t < n → wr.cell? ⟨blk, off + t, none⟩ = some (.int .u32 (G t : Int)) := fun t ht => by rw [AG.out]; exact hRj.cell ht
                have hfw : ∀ t, t < n → wr.frozen? ⟨blk, off + t, none⟩ = false := fun t ht => hRj.frz
                have HK2 := hide hRj
                clear hRj
                by_cases hj1 : j < b
                · have f4 : decide ((j : Int) < (b : Int)) = true := by simp; omega
                  have f4' : decide (j < b) = true := by simpa using hj1
                  go_wp2_with fail
                  go_big_quiet (first | (go_at_call 118; refine Calls.quiet_of_same (less_any _ _ _)))
                  go_wp2_with fail
                  · have ht : (!ltU (G j) (G (j - 1))) = true := by first | assumption | (simp only [ltU, decide_eq_true_eq]; assumption) | (simp [ltU]; omega)
                    have e1 : fixUp ltU b k d2a = dj := by rw [HF.out, ← HS.out, shiftUp_stop ltU b j dj (Or.inr (by rw [← AG.out, ← AG.out]; simpa using ht))]
                    have hgo := HGO.out
                    rw [e1] at hgo
                    have HGO2 := hide hgo
                    clear e1 hgo
                    go_roundw
                    case rel => exact ⟨k, s + 1, dj, rfl, by go_num, by omega, by omega, by omega, HK2.out.drew nq, HGO2.out⟩
                    case measure => simp [intOf]; omega
                  · have ht : (!ltU (G j) (G (j - 1))) = false := by first | assumption | (simp only [ltU, decide_eq_false_iff_not]; omega) | (simp [ltU]; omega)
                    have hs2 : Hid (shiftUp ltU b (j + 1) (Sort.swp dj j (j - 1)) = shiftUp ltU b (k + 1) d2a) := (shiftUp_go ltU b j dj hj1 (by rw [← AG.out, ← AG.out]; simpa using ht)).symm.trans HS.out
                    go_region
                    all_goals go_wp2_with fail
                    all_goals go_roundw
                    case rel => exact ⟨j + 1, Sort.swp dj j (j - 1), by go_num, by omega, by omega, by rw [AG.out, AG.out]; exact (HK2.out.drew (nq + 1)).swp (i := j) (j := j - 1) (by omega) (by omega), hs2.out⟩
                    case measure => simp [intOf]; omega
                · have f4 : decide ((j : Int) < (b : Int)) = false := by simp; omega
                  have f4' : decide (j < b) = false := by simpa using hj1
                  go_wp2_with fail
                  have e1 : fixUp ltU b k d2a = dj := by rw [HF.out, ← HS.out, shiftUp_stop ltU b j dj (Or.inl hj1)]
                  have hgo := HGO.out
                  rw [e1] at hgo
                  have HGO2 := hide hgo
                  clear e1 hgo
                  go_roundw
                  case rel => exact ⟨k, s + 1, dj, rfl, by go_num, by omega, by omega, by omega, HK2.out, HGO2.out⟩
                  case measure => simp [intOf]; omega
            · have f3 : decide ((2 : Int) ≤ (b : Int) - (k : Int)) = false := by simp; omega
              have HF : Hid (fixUp ltU b k d2a = d2a) := if_neg h2
              have hgo := HGO.out
              rw [HF.out] at hgo
              have HGO2 := hide hgo
              clear hgo
              go_wp2_with fail
              go_roundw
              case rel => exact ⟨k, s + 1, d2a, rfl, by go_num, by omega, by omega, by omega, HR2.out, HGO2.out⟩
              case measure => simp [intOf]; omega
end Go.Proofs.YthpnnffogbjhpaaGreatDoor.So
