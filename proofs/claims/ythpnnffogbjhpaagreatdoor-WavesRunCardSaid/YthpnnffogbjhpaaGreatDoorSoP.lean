/- slices.Sort at uint32: the partitions. -/
import Derived.Test.YthpnnffogbjhpaaGreatDoorSoUIH
import Derived.Sort.WalkC4
import Derived.Deep.CutBlock
set_option linter.unusedSimpArgs false
set_option linter.unusedVariables false
set_option linter.unnecessarySimpa false
namespace Go.Proofs.YthpnnffogbjhpaaGreatDoor.So
open Go.RowKit Go.Sort
set_option linter.unusedVariables false
variable {w0 w w' : World} {blk off n cap : Nat} {c : Array Value} {e : TypeId} {d : Array Nat}

set_option maxHeartbeats 6400000 in
set_option maxRecDepth 1000000 in
theorem partitionEqual_any {a b pivot : Nat} (hR : Rw w0 blk off n c e d w) (hap : a ≤ pivot) (hpb : pivot < b) (hb : b ≤ n) (hsz : n < 4611686018427387904) :
    Calls Tryz.prog 119 #[.slice (some ⟨blk, off, none⟩) n cap, .int .i64 a, .int .i64 b, .int .i64 pivot] w fun ex w' =>
      ex = .returned (.int .i64 (Sort.partitionEqual ltU d a b pivot).1) ∧ Rw w0 blk off n c e (Sort.partitionEqual ltU d a b pivot).2 w' := by
  obtain ⟨Gk, hG⟩ : ∃ G : Nat → Nat, ∀ t, G t = d[t]! := ⟨fun t => d[t]!, fun _ => rfl⟩
  have AG := hide hG
  clear hG
  have hcw : ∀ t, t < n → w.cell? ⟨blk, off + t, none⟩ = some (.int .u32 (Gk t : Int)) := fun t ht => by rw [AG.out]; exact hR.cell ht
  have hfw : ∀ t, t < n → w.frozen? ⟨blk, off + t, none⟩ = false := fun t ht => hR.frz
  have HR := hide hR
  clear hR
  go_enter Tryz.func119, Tryz.ntmps119
  go_upto_region 1 with fail
  go_cut [] (fun wx => Rw w0 blk off n c e (Sort.swp d a pivot) wx)
  case first => as_aux_lemma =>
    rcases Nat.eq_or_lt_of_le hap with hpa | hpa
    · subst hpa
      go_wp2_with fail
      go_region
      all_goals go_wp2_with fail
      all_goals go_meet
      all_goals (rw [AG.out a]; exact (HR.out.swp (i := a) (j := a) (by omega) (by omega)).drew1)
    · go_wp2_with fail
      go_region
      all_goals go_wp2_with fail
      all_goals go_meet
      all_goals (rw [AG.out a, AG.out pivot]; exact (HR.out.swp (i := a) (j := pivot) (by omega) (by omega)).drew1)
  case rest =>
  clear hcw hfw HR AG
  have HR := hide hcut
  clear hcut
  go_wp2_with fail
  go_loopw [9, 10] (fun vi vj wr => ∃ (i j : Nat) (dk : Array Nat), vi = .int .i64 i ∧ vj = .int .i64 j ∧ a < i ∧ i ≤ j + 1 ∧ j < b ∧ Rw w0 blk off n c e dk wr ∧
      Hid (Sort.partEqLoop ltU a i j dk = Sort.partEqLoop ltU a (a + 1) (b - 1) (Sort.swp d a pivot)))
    (fun vi vj _ => (intOf vj).toNat + 1 - (intOf vi).toNat)
  case atStart => exact ⟨a + 1, b - 1, Sort.swp d a pivot, by go_num, by go_num, by omega, by omega, by omega, HR.out, rfl⟩
  case round =>
    clear HR
    obtain ⟨i, j, dk, rfl, rfl, hai, hij, hjb, hRk, AE⟩ := hrel
    obtain ⟨Gk, hG⟩ : ∃ G : Nat → Nat, ∀ t, G t = dk[t]! := ⟨fun t => dk[t]!, fun _ => rfl⟩
    have AG := hide hG
    have HRk := hide hRk
    clear hG hRk
    go_upto_block 2 with fail
    go_cut [9] (fun vi wx => ∃ i2 : Nat, vi = .int .i64 i2 ∧ i ≤ i2 ∧ i2 ≤ j + 1 ∧ Rw w0 blk off n c e dk wx ∧ Hid (i2 = scanUp (fun x => !ltU dk[a]! x) dk j i))
    case first => as_aux_lemma =>
      go_wp2_with fail
      go_loopw [9] (fun vi wr => ∃ i' : Nat, vi = .int .i64 i' ∧ i ≤ i' ∧ i' ≤ j + 1 ∧ Rw w0 blk off n c e dk wr ∧ Hid (scanUp (fun x => !ltU dk[a]! x) dk j i' = scanUp (fun x => !ltU dk[a]! x) dk j i)) (fun vi _ => j + 1 - (intOf vi).toNat)
      case atStart => exact ⟨i, rfl, Nat.le_refl _, hij, HRk.out, rfl⟩
      case round =>
        clear HRk
        obtain ⟨i', rfl, hii, hij', hRk, hsc⟩ := hrel
        have hcw : ∀ t, t < n → wr.cell? ⟨blk, off + t, none⟩ = some (.int .u32 (Gk t : Int)) := fun t ht => by rw [AG.out]; exact hRk.cell ht
        have hfw : ∀ t, t < n → wr.frozen? ⟨blk, off + t, none⟩ = false := fun t ht => hRk.frz
        have HRk := hide hRk
        clear hRk
        by_cases hle : i' ≤ j
        · have d1 : decide ((i' : Int) ≤ (j : Int)) = true := by simp; omega
          go_wp2_with fail
          go_big_quiet (first | (go_at_call 118; refine Calls.quiet_of_same (less_any _ _ _)))
          go_wp2_with fail
          · have ht : (!ltU (Gk a) (Gk i')) = true := by first | assumption | (simp only [ltU, decide_eq_true_eq]; assumption) | (simp [ltU]; omega)
            go_roundw
            case rel => exact ⟨i' + 1, by go_num, by omega, by omega, HRk.out.drew nq, (scanUp_go (fun x => !ltU dk[a]! x) dk j i' hle (by rw [← AG.out a, ← AG.out i']; exact ht)).symm.trans hsc.out⟩
            case measure => simp [intOf]; omega
          · have ht : (!ltU (Gk a) (Gk i')) = false := by first | assumption | (simp only [ltU, decide_eq_false_iff_not]; omega) | (simp [ltU]; omega)
            go_meet
            exact ⟨i', rfl, hii, hij', HRk.out.drew nq, (scanUp_end (fun x => !ltU dk[a]! x) dk j i' (Or.inr (by rw [← AG.out a, ← AG.out i']; exact ht))).symm.trans hsc.out⟩
        · have d1 : decide ((i' : Int) ≤ (j : Int)) = false := by simp; omega
          go_wp2_with fail
          go_big_quiet (first | (go_at_call 118; refine Calls.quiet_of_same (less_any _ _ _)))
          go_wp2_with fail
          go_meet
          exact ⟨i', rfl, hii, hij', HRk.out.drew nq, (scanUp_end (fun x => !ltU dk[a]! x) dk j i' (Or.inl hle)).symm.trans hsc.out⟩
    case rest =>
    clear HRk
    obtain ⟨i2, rfl, hii, hij2, hRk, hi2⟩ := hcut
    have HRk := hide hRk
    clear hRk
    go_upto_block 4 with fail
    go_cut [10] (fun vj wx => ∃ j2 : Nat, vj = .int .i64 j2 ∧ j2 ≤ j ∧ i2 ≤ j2 + 1 ∧ Rw w0 blk off n c e dk wx ∧ Hid (j2 = scanDown (fun x => ltU dk[a]! x) dk i2 j))
    case first => as_aux_lemma =>
      go_wp2_with fail
      go_loopw [10] (fun vj wr => ∃ j' : Nat, vj = .int .i64 j' ∧ j' ≤ j ∧ i2 ≤ j' + 1 ∧ Rw w0 blk off n c e dk wr ∧ Hid (scanDown (fun x => ltU dk[a]! x) dk i2 j' = scanDown (fun x => ltU dk[a]! x) dk i2 j)) (fun vj _ => (intOf vj).toNat)
      case atStart => exact ⟨j, rfl, Nat.le_refl _, hij2, HRk.out, rfl⟩
      case round =>
        clear HRk
        obtain ⟨j', rfl, hjj, hij', hRk, hsd⟩ := hrel
        have hcw : ∀ t, t < n → wr.cell? ⟨blk, off + t, none⟩ = some (.int .u32 (Gk t : Int)) := fun t ht => by rw [AG.out]; exact hRk.cell ht
        have hfw : ∀ t, t < n → wr.frozen? ⟨blk, off + t, none⟩ = false := fun t ht => hRk.frz
        have HRk := hide hRk
        clear hRk
        by_cases hle : i2 ≤ j'
        · have d1 : decide ((i2 : Int) ≤ (j' : Int)) = true := by simp; omega
          go_wp2_with fail
          go_big_quiet (first | (go_at_call 118; refine Calls.quiet_of_same (less_any _ _ _)))
          go_wp2_with fail
          · have ht : ltU (Gk a) (Gk j') = true := by first | assumption | (simp only [ltU, decide_eq_true_eq]; assumption) | (simp [ltU]; omega)
            go_roundw
            case rel => exact ⟨j' - 1, by go_num, by omega, by omega, HRk.out.drew nq, (scanDown_go (fun x => ltU dk[a]! x) dk i2 j' hle (by omega) (by rw [← AG.out a, ← AG.out j']; exact ht)).symm.trans hsd.out⟩
            case measure => simp [intOf]; omega
          · have ht : ltU (Gk a) (Gk j') = false := by first | assumption | (simp only [ltU, decide_eq_false_iff_not]; omega) | (simp [ltU]; omega)
            go_meet
            exact ⟨j', rfl, hjj, hij', HRk.out.drew nq, (scanDown_end (fun x => ltU dk[a]! x) dk i2 j' (Or.inr (by rw [← AG.out a, ← AG.out j']; exact ht))).symm.trans hsd.out⟩
        · have d1 : decide ((i2 : Int) ≤ (j' : Int)) = false := by simp; omega
          go_wp2_with fail
          go_big_quiet (first | (go_at_call 118; refine Calls.quiet_of_same (less_any _ _ _)))
          go_wp2_with fail
          go_meet
          exact ⟨j', rfl, hjj, hij', HRk.out.drew nq, (scanDown_end (fun x => ltU dk[a]! x) dk i2 j' (Or.inl hle)).symm.trans hsd.out⟩
    case rest =>
    clear HRk
    obtain ⟨j2, rfl, hjj, hij3, hRk, hj2⟩ := hcut
    by_cases hle : i2 ≤ j2
    · have d1 : decide ((i2 : Int) > (j2 : Int)) = false := by simp; omega
      have hlt3 := scans_lt ltU a i j dk (by omega) hi2.out hj2.out hle
      have hcw : ∀ t, t < n → wc.cell? ⟨blk, off + t, none⟩ = some (.int .u32 (Gk t : Int)) := fun t ht => by rw [AG.out]; exact hRk.cell ht
      have hfw : ∀ t, t < n → wc.frozen? ⟨blk, off + t, none⟩ = false := fun t ht => hRk.frz
      have HRk := hide hRk
      clear hRk
      go_wp2_with fail
      go_region
      all_goals go_wp2_with fail
      all_goals go_roundw
      case rel =>
        refine ⟨i2 + 1, j2 - 1, Sort.swp dk i2 j2, by go_num, by go_num, by omega, by omega, by omega, ?_, ?_⟩
        · rw [AG.out i2, AG.out j2]
          exact (HRk.out.swp (by omega) (by omega)).drew1
        · exact (partEq_go ltU a i j dk hi2.out hj2.out (by omega)).symm.trans AE.out
      case measure => simp [intOf]; omega
    · have d1 : decide ((i2 : Int) > (j2 : Int)) = true := by simp; omega
      have HRk := hide hRk
      clear hRk
      go_wp2_with fail
      go_ret
      have e := partEq_break ltU a i j dk hi2.out hj2.out (by omega)
      refine ⟨?_, ?_⟩
      · unfold Sort.partitionEqual; rw [← AE.out, e]; rfl
      · unfold Sort.partitionEqual; rw [← AE.out, e]; exact HRk.out

set_option maxHeartbeats 6400000 in
set_option maxRecDepth 1000000 in
theorem partition_any {a b pivot : Nat} (hR : Rw w0 blk off n c e d w) (hap : a ≤ pivot) (hpb : pivot < b) (hb : b ≤ n) (hsz : n < 4611686018427387904) :
    Calls Tryz.prog 120 #[.slice (some ⟨blk, off, none⟩) n cap, .int .i64 a, .int .i64 b, .int .i64 pivot] w fun ex w' =>
      ex = .returned (.tuple #[.int .i64 (Sort.partition ltU d a b pivot).1, .bool (Sort.partition ltU d a b pivot).2.1]) ∧ Rw w0 blk off n c e (Sort.partition ltU d a b pivot).2.2 w' := by
  obtain ⟨Gk, hG⟩ : ∃ G : Nat → Nat, ∀ t, G t = d[t]! := ⟨fun t => d[t]!, fun _ => rfl⟩
  have AG := hide hG
  clear hG
  have hcw : ∀ t, t < n → w.cell? ⟨blk, off + t, none⟩ = some (.int .u32 (Gk t : Int)) := fun t ht => by rw [AG.out]; exact hR.cell ht
  have hfw : ∀ t, t < n → w.frozen? ⟨blk, off + t, none⟩ = false := fun t ht => hR.frz
  have HR := hide hR
  clear hR
  go_enter Tryz.func120, Tryz.ntmps120
  go_upto_region 1 with fail
  go_cut [] (fun wx => Rw w0 blk off n c e (Sort.swp d a pivot) wx)
  case first => as_aux_lemma =>
    rcases Nat.eq_or_lt_of_le hap with hpa | hpa
    · subst hpa
      go_wp2_with fail
      go_region
      all_goals go_wp2_with fail
      all_goals go_meet
      all_goals (rw [AG.out a]; exact (HR.out.swp (i := a) (j := a) (by omega) (by omega)).drew1)
    · go_wp2_with fail
      go_region
      all_goals go_wp2_with fail
      all_goals go_meet
      all_goals (rw [AG.out a, AG.out pivot]; exact (HR.out.swp (i := a) (j := pivot) (by omega) (by omega)).drew1)
  case rest =>
  clear hcw hfw HR AG

  obtain ⟨i, hi⟩ : ∃ i, i = a + 1 := ⟨_, rfl⟩
  obtain ⟨j, hj⟩ : ∃ j, j = b - 1 := ⟨_, rfl⟩
  obtain ⟨dk, hdk⟩ : ∃ dk, dk = Sort.swp d a pivot := ⟨_, rfl⟩
  rw [← hdk] at hcut
  have HRk := hide hcut; have HDK := hide hdk; have HI := hide hi; have HJ := hide hj
  have hij : i ≤ j + 1 := by omega
  have hai : a < i := by omega
  have hjb : j < b := by omega
  have ei : (a : Int) + 1 = (i : Int) := by omega
  have ej : (b : Int) - 1 = (j : Int) := by omega
  obtain ⟨Gk, hG⟩ : ∃ G : Nat → Nat, ∀ t, G t = dk[t]! := ⟨fun t => dk[t]!, fun _ => rfl⟩
  have AG := hide hG
  clear hG hcut hdk hi hj
  go_upto_block 0 with fail
  clear ei ej
  go_cut [10] (fun vi wx => ∃ i2 : Nat, vi = .int .i64 i2 ∧ i ≤ i2 ∧ i2 ≤ j + 1 ∧ Rw w0 blk off n c e dk wx ∧ Hid (i2 = scanUp (fun x => ltU x dk[a]!) dk j i))
  case first => as_aux_lemma =>
    go_wp2_with fail
    go_loopw [10] (fun vi wr => ∃ i' : Nat, vi = .int .i64 i' ∧ i ≤ i' ∧ i' ≤ j + 1 ∧ Rw w0 blk off n c e dk wr ∧ Hid (scanUp (fun x => ltU x dk[a]!) dk j i' = scanUp (fun x => ltU x dk[a]!) dk j i)) (fun vi _ => j + 1 - (intOf vi).toNat)
    case atStart => exact ⟨i, rfl, Nat.le_refl _, hij, HRk.out, rfl⟩
    case round =>
      clear HRk
      obtain ⟨i', rfl, hii, hij', hRk, hsc⟩ := hrel
      have hcw : ∀ t, t < n → wr.cell? ⟨blk, off + t, none⟩ = some (.int .u32 (Gk t : Int)) := fun t ht => by rw [AG.out]; exact hRk.cell ht
      have hfw : ∀ t, t < n → wr.frozen? ⟨blk, off + t, none⟩ = false := fun t ht => hRk.frz
      have HRk := hide hRk
      clear hRk
      by_cases hle : i' ≤ j
      · have d1 : decide ((i' : Int) ≤ (j : Int)) = true := by simp; omega
        go_wp2_with fail
        go_big_quiet (first | (go_at_call 118; refine Calls.quiet_of_same (less_any _ _ _)))
        go_wp2_with fail
        · have ht : ltU (Gk i') (Gk a) = true := by first | assumption | (simp only [ltU, decide_eq_true_eq]; assumption) | (simp [ltU]; omega)
          go_roundw
          case rel => exact ⟨i' + 1, by go_num, by omega, by omega, HRk.out.drew nq, (scanUp_go (fun x => ltU x dk[a]!) dk j i' hle (by rw [← AG.out a, ← AG.out i']; exact ht)).symm.trans hsc.out⟩
          case measure => simp [intOf]; omega
        · have ht : ltU (Gk i') (Gk a) = false := by first | assumption | (simp only [ltU, decide_eq_false_iff_not]; omega) | (simp [ltU]; omega)
          go_meet
          exact ⟨i', rfl, hii, hij', HRk.out.drew nq, (scanUp_end (fun x => ltU x dk[a]!) dk j i' (Or.inr (by rw [← AG.out a, ← AG.out i']; exact ht))).symm.trans hsc.out⟩
      · have d1 : decide ((i' : Int) ≤ (j : Int)) = false := by simp; omega
        go_wp2_with fail
        go_big_quiet (first | (go_at_call 118; refine Calls.quiet_of_same (less_any _ _ _)))
        go_wp2_with fail
        go_meet
        exact ⟨i', rfl, hii, hij', HRk.out.drew nq, (scanUp_end (fun x => ltU x dk[a]!) dk j i' (Or.inl hle)).symm.trans hsc.out⟩
  case rest =>
  clear HRk
  obtain ⟨i2, rfl, hii, hij2, hRk, hi2⟩ := hcut
  have HRk := hide hRk
  clear hRk
  go_upto_block 2 with fail
  go_cut [11] (fun vj wx => ∃ j2 : Nat, vj = .int .i64 j2 ∧ j2 ≤ j ∧ i2 ≤ j2 + 1 ∧ Rw w0 blk off n c e dk wx ∧ Hid (j2 = scanDown (fun x => !ltU x dk[a]!) dk i2 j))
  case first => as_aux_lemma =>
    go_wp2_with fail
    go_loopw [11] (fun vj wr => ∃ j' : Nat, vj = .int .i64 j' ∧ j' ≤ j ∧ i2 ≤ j' + 1 ∧ Rw w0 blk off n c e dk wr ∧ Hid (scanDown (fun x => !ltU x dk[a]!) dk i2 j' = scanDown (fun x => !ltU x dk[a]!) dk i2 j)) (fun vj _ => (intOf vj).toNat)
    case atStart => exact ⟨j, rfl, Nat.le_refl _, hij2, HRk.out, rfl⟩
    case round =>
      clear HRk
      obtain ⟨j', rfl, hjj, hij', hRk, hsd⟩ := hrel
      have hcw : ∀ t, t < n → wr.cell? ⟨blk, off + t, none⟩ = some (.int .u32 (Gk t : Int)) := fun t ht => by rw [AG.out]; exact hRk.cell ht
      have hfw : ∀ t, t < n → wr.frozen? ⟨blk, off + t, none⟩ = false := fun t ht => hRk.frz
      have HRk := hide hRk
      clear hRk
      by_cases hle : i2 ≤ j'
      · have d1 : decide ((i2 : Int) ≤ (j' : Int)) = true := by simp; omega
        go_wp2_with fail
        go_big_quiet (first | (go_at_call 118; refine Calls.quiet_of_same (less_any _ _ _)))
        go_wp2_with fail
        · have ht : (!ltU (Gk j') (Gk a)) = true := by first | assumption | (simp only [ltU, decide_eq_true_eq]; assumption) | (simp [ltU]; omega)
          go_roundw
          case rel => exact ⟨j' - 1, by go_num, by omega, by omega, HRk.out.drew nq, (scanDown_go (fun x => !ltU x dk[a]!) dk i2 j' hle (by omega) (by rw [← AG.out a, ← AG.out j']; exact ht)).symm.trans hsd.out⟩
          case measure => simp [intOf]; omega
        · have ht : (!ltU (Gk j') (Gk a)) = false := by first | assumption | (simp only [ltU, decide_eq_false_iff_not]; omega) | (simp [ltU]; omega)
          go_meet
          exact ⟨j', rfl, hjj, hij', HRk.out.drew nq, (scanDown_end (fun x => !ltU x dk[a]!) dk i2 j' (Or.inr (by rw [← AG.out a, ← AG.out j']; exact ht))).symm.trans hsd.out⟩
      · have d1 : decide ((i2 : Int) ≤ (j' : Int)) = false := by simp; omega
        go_wp2_with fail
        go_big_quiet (first | (go_at_call 118; refine Calls.quiet_of_same (less_any _ _ _)))
        go_wp2_with fail
        go_meet
        exact ⟨j', rfl, hjj, hij', HRk.out.drew nq, (scanDown_end (fun x => !ltU x dk[a]!) dk i2 j' (Or.inl hle)).symm.trans hsd.out⟩
  case rest =>
  clear HRk
  obtain ⟨j2, rfl, hjj, hij3, hRk, hj2⟩ := hcut
  by_cases hle : i2 ≤ j2
  · have d1 : decide ((i2 : Int) > (j2 : Int)) = false := by simp; omega
    have hlt3 := part_scans_lt ltU a i j dk (by omega) hi2.out hj2.out hle
    have hcw : ∀ t, t < n → wc.cell? ⟨blk, off + t, none⟩ = some (.int .u32 (Gk t : Int)) := fun t ht => by rw [AG.out]; exact hRk.cell ht
    have hfw : ∀ t, t < n → wc.frozen? ⟨blk, off + t, none⟩ = false := fun t ht => hRk.frz
    have HRk := hide hRk
    clear hRk
    go_upto_region 10 with fail
    go_cut [] (fun wx => Rw w0 blk off n c e (Sort.swp dk i2 j2) wx)
    case first => as_aux_lemma =>
      go_wp2_with fail
      go_region
      all_goals go_wp2_with fail
      all_goals go_meet
      all_goals (rw [AG.out i2, AG.out j2]; exact (HRk.out.swp (by omega) (by omega)).drew1)
    case rest =>
    have hgo := part_first_go ltU d a b pivot HI.out HJ.out HDK.out hi2.out hj2.out (by omega)
    clear hcw hfw HRk AG
    have HR := hide hcut; have HGO := hide hgo
    clear hcut hgo
    go_wp2_with fail
    go_loopw [10, 11] (fun vi vj wr => ∃ (i' j' : Nat) (dj : Array Nat), vi = .int .i64 i' ∧ vj = .int .i64 j' ∧ a + 1 < i' ∧ i' ≤ j' + 1 ∧ j' < b ∧ Rw w0 blk off n c e dj wr ∧
        Hid (Sort.partLoop ltU a i' j' dj = Sort.partLoop ltU a (i2 + 1) (j2 - 1) (Sort.swp dk i2 j2)))
      (fun vi vj _ => (intOf vj).toNat + 1 - (intOf vi).toNat)
    case atStart => exact ⟨i2 + 1, j2 - 1, Sort.swp dk i2 j2, by go_num, by go_num, by omega, by omega, by omega, HR.out, rfl⟩
    case round =>
      clear HR
      rename Nat → Nat => Gz
      obtain ⟨i, j, dj, rfl, rfl, hai, hij, hjb, hRk, AE⟩ := hrel
      clear Gz hi2 hj2 hlt3
      obtain ⟨Gk, hG⟩ : ∃ G : Nat → Nat, ∀ t, G t = dj[t]! := ⟨fun t => dj[t]!, fun _ => rfl⟩
      have AG := hide hG
      have HRk := hide hRk
      clear hG hRk
      go_upto_block 6 with fail
      go_cut [10] (fun vi wx => ∃ i3 : Nat, vi = .int .i64 i3 ∧ i ≤ i3 ∧ i3 ≤ j + 1 ∧ Rw w0 blk off n c e dj wx ∧ Hid (i3 = scanUp (fun x => ltU x dj[a]!) dj j i))
      case first => as_aux_lemma =>
        go_wp2_with fail
        go_loopw [10] (fun vi wr => ∃ i' : Nat, vi = .int .i64 i' ∧ i ≤ i' ∧ i' ≤ j + 1 ∧ Rw w0 blk off n c e dj wr ∧ Hid (scanUp (fun x => ltU x dj[a]!) dj j i' = scanUp (fun x => ltU x dj[a]!) dj j i)) (fun vi _ => j + 1 - (intOf vi).toNat)
        case atStart => exact ⟨i, rfl, Nat.le_refl _, hij, HRk.out, rfl⟩
        case round =>
          clear HRk
          obtain ⟨i', rfl, hii, hij', hRk, hsc⟩ := hrel
          have hcw : ∀ t, t < n → wr.cell? ⟨blk, off + t, none⟩ = some (.int .u32 (Gk t : Int)) := fun t ht => by rw [AG.out]; exact hRk.cell ht
          have hfw : ∀ t, t < n → wr.frozen? ⟨blk, off + t, none⟩ = false := fun t ht => hRk.frz
          have HRk := hide hRk
          clear hRk
          by_cases hle : i' ≤ j
          · have d1 : decide ((i' : Int) ≤ (j : Int)) = true := by simp; omega
            go_wp2_with fail
            go_big_quiet (first | (go_at_call 118; refine Calls.quiet_of_same (less_any _ _ _)))
            go_wp2_with fail
            · have ht : ltU (Gk i') (Gk a) = true := by first | assumption | (simp only [ltU, decide_eq_true_eq]; assumption) | (simp [ltU]; omega)
              go_roundw
              case rel => exact ⟨i' + 1, by go_num, by omega, by omega, HRk.out.drew nq, (scanUp_go (fun x => ltU x dj[a]!) dj j i' hle (by rw [← AG.out a, ← AG.out i']; exact ht)).symm.trans hsc.out⟩
              case measure => simp [intOf]; omega
            · have ht : ltU (Gk i') (Gk a) = false := by first | assumption | (simp only [ltU, decide_eq_false_iff_not]; omega) | (simp [ltU]; omega)
              go_meet
              exact ⟨i', rfl, hii, hij', HRk.out.drew nq, (scanUp_end (fun x => ltU x dj[a]!) dj j i' (Or.inr (by rw [← AG.out a, ← AG.out i']; exact ht))).symm.trans hsc.out⟩
          · have d1 : decide ((i' : Int) ≤ (j : Int)) = false := by simp; omega
            go_wp2_with fail
            go_big_quiet (first | (go_at_call 118; refine Calls.quiet_of_same (less_any _ _ _)))
            go_wp2_with fail
            go_meet
            exact ⟨i', rfl, hii, hij', HRk.out.drew nq, (scanUp_end (fun x => ltU x dj[a]!) dj j i' (Or.inl hle)).symm.trans hsc.out⟩
      case rest =>
      clear HRk
      obtain ⟨i3, rfl, hii, hij3, hRk, hi3⟩ := hcut
      have HRk := hide hRk
      clear hRk
      go_upto_block 8 with fail
      go_cut [11] (fun vj wx => ∃ j3 : Nat, vj = .int .i64 j3 ∧ j3 ≤ j ∧ i3 ≤ j3 + 1 ∧ Rw w0 blk off n c e dj wx ∧ Hid (j3 = scanDown (fun x => !ltU x dj[a]!) dj i3 j))
      case first => as_aux_lemma =>
        go_wp2_with fail
        go_loopw [11] (fun vj wr => ∃ j' : Nat, vj = .int .i64 j' ∧ j' ≤ j ∧ i3 ≤ j' + 1 ∧ Rw w0 blk off n c e dj wr ∧ Hid (scanDown (fun x => !ltU x dj[a]!) dj i3 j' = scanDown (fun x => !ltU x dj[a]!) dj i3 j)) (fun vj _ => (intOf vj).toNat)
        case atStart => exact ⟨j, rfl, Nat.le_refl _, hij3, HRk.out, rfl⟩
        case round =>
          clear HRk
          obtain ⟨j', rfl, hjj, hij', hRk, hsd⟩ := hrel
          have hcw : ∀ t, t < n → wr.cell? ⟨blk, off + t, none⟩ = some (.int .u32 (Gk t : Int)) := fun t ht => by rw [AG.out]; exact hRk.cell ht
          have hfw : ∀ t, t < n → wr.frozen? ⟨blk, off + t, none⟩ = false := fun t ht => hRk.frz
          have HRk := hide hRk
          clear hRk
          by_cases hle : i3 ≤ j'
          · have d1 : decide ((i3 : Int) ≤ (j' : Int)) = true := by simp; omega
            go_wp2_with fail
            go_big_quiet (first | (go_at_call 118; refine Calls.quiet_of_same (less_any _ _ _)))
            go_wp2_with fail
            · have ht : (!ltU (Gk j') (Gk a)) = true := by first | assumption | (simp only [ltU, decide_eq_true_eq]; assumption) | (simp [ltU]; omega)
              go_roundw
              case rel => exact ⟨j' - 1, by go_num, by omega, by omega, HRk.out.drew nq, (scanDown_go (fun x => !ltU x dj[a]!) dj i3 j' hle (by omega) (by rw [← AG.out a, ← AG.out j']; exact ht)).symm.trans hsd.out⟩
              case measure => simp [intOf]; omega
            · have ht : (!ltU (Gk j') (Gk a)) = false := by first | assumption | (simp only [ltU, decide_eq_false_iff_not]; omega) | (simp [ltU]; omega)
              go_meet
              exact ⟨j', rfl, hjj, hij', HRk.out.drew nq, (scanDown_end (fun x => !ltU x dj[a]!) dj i3 j' (Or.inr (by rw [← AG.out a, ← AG.out j']; exact ht))).symm.trans hsd.out⟩
          · have d1 : decide ((i3 : Int) ≤ (j' : Int)) = false := by simp; omega
            go_wp2_with fail
            go_big_quiet (first | (go_at_call 118; refine Calls.quiet_of_same (less_any _ _ _)))
            go_wp2_with fail
            go_meet
            exact ⟨j', rfl, hjj, hij', HRk.out.drew nq, (scanDown_end (fun x => !ltU x dj[a]!) dj i3 j' (Or.inl hle)).symm.trans hsd.out⟩
      case rest =>
      clear HRk
      obtain ⟨j3, rfl, hjj, hij3, hRk, hj3⟩ := hcut
      by_cases hle : i3 ≤ j3
      · have d1 : decide ((i3 : Int) > (j3 : Int)) = false := by simp; omega
        have hlt3 := part_scans_lt ltU a i j dj (by omega) hi3.out hj3.out hle
        have hcw : ∀ t, t < n → wc.cell? ⟨blk, off + t, none⟩ = some (.int .u32 (Gk t : Int)) := fun t ht => by rw [AG.out]; exact hRk.cell ht
        have hfw : ∀ t, t < n → wc.frozen? ⟨blk, off + t, none⟩ = false := fun t ht => hRk.frz
        have HRk := hide hRk
        clear hRk
        go_wp2_with fail
        go_region
        all_goals go_wp2_with fail
        all_goals go_roundw
        case rel =>
          refine ⟨i3 + 1, j3 - 1, Sort.swp dj i3 j3, by go_num, by go_num, by omega, by omega, by omega, ?_, ?_⟩
          · rw [AG.out i3, AG.out j3]
            exact (HRk.out.swp (by omega) (by omega)).drew1
          · exact (part_go ltU a i j dj hi3.out hj3.out (by omega)).symm.trans AE.out
        case measure => simp [intOf]; omega
      · have d1 : decide ((i3 : Int) > (j3 : Int)) = true := by simp; omega
        have hcw : ∀ t, t < n → wc.cell? ⟨blk, off + t, none⟩ = some (.int .u32 (Gk t : Int)) := fun t ht => by rw [AG.out]; exact hRk.cell ht
        have hfw : ∀ t, t < n → wc.frozen? ⟨blk, off + t, none⟩ = false := fun t ht => hRk.frz
        have HRk := hide hRk
        clear hRk
        have hja : a < j3 := by omega
        go_wp2_with fail
        go_region
        all_goals go_wp2_with fail
        all_goals go_ret2
        have e := part_break ltU a i j dj hi3.out hj3.out (by omega)
        have e2 := AE.out
        rw [e] at e2
        refine ⟨?_, ?_⟩
        · rw [HGO.out, ← e2]; rfl
        · rw [HGO.out, ← e2, AG.out a, AG.out j3]
          exact (HRk.out.swp (i := j3) (j := a) (by omega) (by omega)).drew1
  · have d1 : decide ((i2 : Int) > (j2 : Int)) = true := by simp; omega
    have hcw : ∀ t, t < n → wc.cell? ⟨blk, off + t, none⟩ = some (.int .u32 (Gk t : Int)) := fun t ht => by rw [AG.out]; exact hRk.cell ht
    have hfw : ∀ t, t < n → wc.frozen? ⟨blk, off + t, none⟩ = false := fun t ht => hRk.frz
    have HRk := hide hRk
    clear hRk
    have e := part_first_break ltU d a b pivot HI.out HJ.out HDK.out hi2.out hj2.out (by omega)
    have E := hide e
    clear e
    rcases Nat.eq_or_lt_of_le (show a ≤ j2 by omega) with hja | hja
    · subst hja
      go_wp2_with fail
      go_region
      all_goals go_wp2_with fail
      all_goals go_ret2
      rw [E.out]
      refine ⟨rfl, ?_⟩
      rw [AG.out a]
      exact (HRk.out.swp (i := a) (j := a) (by omega) (by omega)).drew1
    · go_wp2_with fail
      go_region
      all_goals go_wp2_with fail
      all_goals go_ret2
      rw [E.out]
      refine ⟨rfl, ?_⟩
      rw [AG.out a, AG.out j2]
      exact (HRk.out.swp (i := j2) (j := a) (by omega) (by omega)).drew1
end Go.Proofs.YthpnnffogbjhpaaGreatDoor.So
