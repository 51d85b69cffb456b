/- SoQ, SoT in one text. -/
import Derived.Test.YthpnnffogbjhpaaGreatDoorSoNC
import Derived.Test.YthpnnffogbjhpaaGreatDoorSoBA
import Derived.Sort.AssemblyPlain
set_option linter.unusedSimpArgs false
set_option linter.unusedVariables false
set_option linter.unnecessarySimpa false
namespace Go.Proofs.YthpnnffogbjhpaaGreatDoor.So
open Go.RowKit Go.Sort Go.Shelf
set_option linter.unusedVariables false
variable {w0 w w' : World} {blk off n cap : Nat} {c : Array Value} {e : TypeId} {d : Array Nat}
theorem Rw.lt (h : Rw w0 blk off n c e d w) : blk < w.heap.size := blk_lt h.blk
theorem Rw.size (h : Rw w0 blk off n c e d w) : d.size = n := h.sz
set_option maxHeartbeats 6400000 in
set_option maxRecDepth 1000000 in
theorem pdq_any (hsz : n < 4611686018427387904) : ∀ (N a b limit : Nat) (d : Array Nat) (w : World), b - a < N → Rw w0 blk off n c e d w → a ≤ b → b ≤ n → limit < 4611686018427387904 → Below ltU a b d →
    Calls Tryz.prog 94 #[.slice (some ⟨blk, off, none⟩) n cap, .int .i64 a, .int .i64 b, .int .i64 limit] w fun ex w' => ex = .returned (.tuple #[]) ∧ Rw w0 blk off n c e (pdq ltU d a b limit true true) w' := by
  intro N
  induction N with
  | zero => intro _ _ _ _ _ h; exact absurd h (Nat.not_lt_zero _)
  | succ N ih =>
    intro a b limit d w hN hR hab hb hlimit hBel0
    have IH := hide ih
    have HR := hide hR
    have hds0 := hR.sz
    have BEL0 := hide hBel0
    clear ih hR hBel0
    go_enter Tryz.func94, Tryz.ntmps94
    go_wp2_with fail
    go_loopg [1, 2, 3, 8, 9] (b - a) (fun k s1 s2 s3 s8 s9 wr => ∃ (a' b' lim : Nat) (wb wp : Bool) (dk : Array Nat), s1 = .int .i64 a' ∧ s2 = .int .i64 b' ∧ s3 = .int .i64 lim ∧ s8 = .bool wb ∧ s9 = .bool wp ∧
      a' ≤ b' ∧ b' ≤ n ∧ b' - a' ≤ k ∧ k ≤ b - a ∧ lim ≤ limit ∧ Rw w0 blk off n c e dk wr ∧ Hid (Below ltU a' b' dk) ∧ Hid (pdq ltU dk a' b' lim wb wp = pdq ltU d a b limit true true))
    case atStart => exact ⟨a, b, limit, true, true, d, rfl, rfl, rfl, rfl, rfl, hab, hb, Nat.le_refl _, Nat.le_refl _, Nat.le_refl _, HR.out, BEL0, rfl⟩
    case round =>
      clear HR BEL0 hds0
      obtain ⟨a', b', lim, wb, wp, dk, rfl, rfl, rfl, rfl, rfl, hab', hb', hk, hkN, hlim, hRk, BEL, A⟩ := hrel
      have hds := hRk.sz
      have hBel := BEL.out
      have HRk := hide hRk
      clear hRk
      by_cases h12 : b' - a' ≤ 12
      · have h12z : decide ((b' : Int) - (a' : Int) ≤ 12) = true := by simp; omega
        clear hds
        go_wp2_with fail
        refine (insertion_any HRk.out hab' hb' hsz).mono ?_
        rintro ex w1 ⟨rfl, hw1⟩
        have HW1 := hide hw1
        clear hw1
        go_wp2_with fail
        (try simp only [Exit.inBlock, Exit.then])
        refine bodyPost_ret (results_none rfl _ _ _) rfl ?_
        refine ⟨rfl, ?_⟩
        rw [← A.out, pdq_small h12]
        exact HW1.out
      · have h12z : decide ((b' : Int) - (a' : Int) ≤ 12) = false := by simp; omega
        by_cases hl0 : lim = 0
        · subst hl0
          clear hds
          go_wp2_with fail
          refine (heapSort_any HRk.out hab' hb' hsz).mono ?_
          rintro ex w1 ⟨rfl, hw1⟩
          have HW1 := hide hw1
          clear hw1
          go_wp2_with fail
          (try simp only [Exit.inBlock, Exit.then])
          refine bodyPost_ret (results_none rfl _ _ _) rfl ?_
          refine ⟨rfl, ?_⟩
          rw [← A.out, pdq_heap h12 rfl]
          exact HW1.out
        · have hl0z : ((lim : Int) == 0) = false := by simp; omega
          obtain ⟨s1, B1, hc1, s2, B2, hpv, s3, B3⟩ := rd_facts (limit := lim) (wb := wb) (wp := wp) swoU partialInsertionSort_holds reverseRange_holds (show a' < b' by omega) (show b' ≤ dk.size by omega) hBel
          obtain ⟨C1, D1, D2, P3, PV⟩ : Hid (a' ≤ (rd ltU dk a' b' lim wb wp).c.1 ∧ (rd ltU dk a' b' lim wb wp).c.1 < b') ∧ Hid ((rd ltU dk a' b' lim wb wp).d1.size = n) ∧ Hid ((rd ltU dk a' b' lim wb wp).d2.size = n) ∧ Hid ((rd ltU dk a' b' lim wb wp).pi.1.size = n) ∧ Hid (a' ≤ (rd ltU dk a' b' lim wb wp).pivot ∧ (rd ltU dk a' b' lim wb wp).pivot < b') :=
            ⟨hc1, s1.trans hds, s2.trans hds, s3.trans hds, hpv⟩
          have BB := hide B3
          clear s1 s2 s3 B1 B2 B3 hc1 hds hBel hpv
          go_upto_if 35 with fail
          go_cut [3] (fun s3 wx => s3 = .int .i64 ((rd ltU dk a' b' lim wb wp).lim : Nat) ∧ Rw w0 blk off n c e (rd ltU dk a' b' lim wb wp).d1 wx)
          case first => as_aux_lemma =>
            cases wb
            · go_wp2_with fail
              refine (breakPatterns_any HRk.out HRk.out.lt hab' hb' hsz).mono ?_
              rintro ex w1 ⟨rfl, hw1⟩
              have HW1 := hide hw1
              clear hw1
              go_wp2_with fail
              go_meet
              refine ⟨?_, HW1.out⟩
              show Value.int .i64 ((lim : Int) - 1) = Value.int .i64 ((lim - 1 : Nat) : Int)
              congr 1
              omega
            · go_wp2_with fail
              go_meet
              exact ⟨rfl, HRk.out⟩
          case rest =>
          clear HRk
          obtain ⟨rfl, hR1⟩ := hcut
          have HC : Hid (Calls Tryz.prog 115 #[.slice (some ⟨blk, off, none⟩) n cap, .int .i64 a', .int .i64 b'] wc fun ex w' => ex = .returned (.tuple #[.int .i64 ((rd ltU dk a' b' lim wb wp).c.1 : Nat), .int .i64 (hintCode (rd ltU dk a' b' lim wb wp).c.2)]) ∧ Rw w0 blk off n c e (rd ltU dk a' b' lim wb wp).d1 w') := choosePivot_any (cap := cap) hR1 hR1.lt (show a' < b' by omega) hb' hsz
          clear hR1
          go_upto_if 50 with (go_at_call 115; refine HC.out.mono ?_; rintro ex w2 ⟨rfl, hw2⟩)
          have HR2 : Hid (Rw w0 blk off n c e (rd ltU dk a' b' lim wb wp).d1 w2) := hw2
          clear hw2 HC
          go_cut [11, 12] (fun s11 s12 wx => s11 = .int .i64 ((rd ltU dk a' b' lim wb wp).pivot : Nat) ∧ s12 = .int .i64 (hintCode (rd ltU dk a' b' lim wb wp).hint) ∧ Rw w0 blk off n c e (rd ltU dk a' b' lim wb wp).d2 wx)
          case first => as_aux_lemma =>
            by_cases hh : (rd ltU dk a' b' lim wb wp).c.2 = .decreasing
            · have hcode : hintCode (rd ltU dk a' b' lim wb wp).c.2 = 2 := by rw [hh]; rfl
              obtain ⟨e2, epv, eht⟩ := rd_dec hh
              have E2 := hide e2; have EP := hide epv; have EH := hide eht
              clear e2 epv eht hh
              go_wp2_with fail
              refine (reverseRange_any HR2.out hab' hb' hsz).mono ?_
              rintro ex w3 ⟨rfl, hw3⟩
              have HW3 := hide hw3
              clear hw3
              obtain ⟨c1a, c1b⟩ := C1.out
              go_wp2_with fail
              go_meet
              refine ⟨?_, by rw [EH.out]; rfl, by rw [E2.out]; exact HW3.out⟩
              rw [EP.out]
              congr 1
              omega
            · have hcode : ¬ (hintCode (rd ltU dk a' b' lim wb wp).c.2 = 2) := fun h => hh (hintCode_two h)
              have hcode3 : (hintCode (rd ltU dk a' b' lim wb wp).c.2 == 2) = false := by simpa using hcode
              obtain ⟨e2, epv, eht⟩ := rd_not hh
              have E2 := hide e2; have EP := hide epv; have EH := hide eht
              clear e2 epv eht hh
              go_wp2_with fail
              go_meet
              exact ⟨by rw [EP.out], by rw [EH.out], by rw [E2.out]; exact HR2.out⟩
          case rest =>
          clear HR2
          obtain ⟨rfl, rfl, hR3⟩ := hcut
          have HR3 := hide hR3
          clear hR3
          go_upto_region 15 with fail
          go_cut [12, 68] (fun s12 s68 wx => s12 = .int .i64 (hintCode (rd ltU dk a' b' lim wb wp).hint) ∧ s68 = .bool (wb && wp && decide ((rd ltU dk a' b' lim wb wp).hint = .increasing)) ∧ wx = wc)
          case first => as_aux_lemma =>
            cases wb <;> cases wp <;> cases hh3 : (rd ltU dk a' b' lim _ _).hint <;>
              (have hcode3 := congrArg hintCode hh3
               simp only [hintCode] at hcode3
               go_wp2_with fail
               go_meet
               exact ⟨by simp [hh3, hintCode], by simp [hh3, hintCode], rfl⟩)
          case rest =>
          obtain ⟨rfl, rfl, rfl⟩ := hcut
          go_upto_if 68 with fail
          go_cut [] (fun wx => Hid ((rd ltU dk a' b' lim wb wp).pi.2 = false) ∧ Rw w0 blk off n c e (rd ltU dk a' b' lim wb wp).pi.1 wx)
          case first => as_aux_lemma =>
            cases h68 : (wb && wp && decide ((rd ltU dk a' b' lim wb wp).hint = .increasing))
            · have EPI := hide (rd_pi_no h68)
              go_wp2_with fail
              go_meet
              exact ⟨by show _ = _; rw [EPI.out], by rw [EPI.out]; exact HR3.out⟩
            · have epi := rd_pi_yes h68
              have HC := hide (partialInsertion_any (cap := cap) HR3.out (show a' < b' by omega) hb' hsz)
              rw [← epi] at HC
              clear epi
              go_wp2_with (go_at_call 117; refine HC.out.mono ?_; rintro ex w4 ⟨rfl, hw4⟩)
              all_goals first
                | (have hp2 : Hid ((rd ltU dk a' b' lim wb wp).pi.2 = false) := by assumption
                   go_meet
                   exact ⟨hp2, hw4⟩)
                | (have hp2 : (rd ltU dk a' b' lim wb wp).pi.2 = true := by assumption
                   (try simp only [Exit.inBlock, Exit.then])
                   refine bodyPost_ret (results_none rfl _ _ _) rfl ?_
                   refine ⟨rfl, ?_⟩
                   rw [← A.out, pdq_done h12 hl0 hp2]
                   exact hw4)
          case rest =>
          clear HR3
          obtain ⟨HP2, hR5⟩ := hcut
          obtain ⟨d3, hd3⟩ : ∃ x, (rd ltU dk a' b' lim wb wp).pi.1 = x := ⟨_, rfl⟩
          obtain ⟨pv, hpvx⟩ : ∃ x, (rd ltU dk a' b' lim wb wp).pivot = x := ⟨_, rfl⟩
          rw [hd3] at hR5
          obtain ⟨Gk, hG⟩ : ∃ G : Nat → Nat, ∀ t, G t = d3[t]! := ⟨fun t => d3[t]!, fun _ => rfl⟩
          have AG := hide hG
          have hcw : ∀ t, t < n → wc.cell? ⟨blk, off + t, none⟩ = some (.int .u32 (Gk t : Int)) := fun t ht => by rw [AG.out]; exact hR5.cell ht
          have hfw : ∀ t, t < n → wc.frozen? ⟨blk, off + t, none⟩ = false := fun t ht => hR5.frz
          obtain ⟨pv1, pv2⟩ := PV.out
          rw [hpvx] at pv1 pv2
          have ED := hide hd3; have EV := hide hpvx
          have HR5 := hide hR5
          rw [hpvx]
          clear hG hd3 hpvx hR5
          go_upto_region 17 with fail
          go_cut [87] (fun s87 wx => s87 = .bool (decide (a' > 0) && !ltU d3[a' - 1]! d3[pv]!) ∧ Rw w0 blk off n c e d3 wx)
          case first => as_aux_lemma =>
            rcases Nat.eq_zero_or_pos a' with ha0 | ha0
            · have ha0z : decide ((a' : Int) > 0) = false := decide_eq_false (by omega)
              have ha0y : decide ((0 : Int) < (a' : Int)) = false := decide_eq_false (by omega)
              have ha0x : decide (0 < a') = false := decide_eq_false (by omega)
              have HA0 := hide ha0
              clear ha0
              go_big_quiet (first | (go_at_call 118; refine Calls.quiet_of_same (less_any _ _ _)))
              go_wp2_with fail
              go_meet
              exact ⟨by simp [HA0.out], HR5.out.drew nq⟩
            · have ha0z : decide ((a' : Int) > 0) = true := decide_eq_true (by omega)
              have ha0y : decide ((0 : Int) < (a' : Int)) = true := decide_eq_true (by omega)
              have ha0x : decide (0 < a') = true := decide_eq_true ha0
              go_big_quiet (first | (go_at_call 118; refine Calls.quiet_of_same (less_any _ _ _)))
              go_wp2_with fail
              go_meet
              exact ⟨by rw [AG.out, AG.out]; simp [ha0], HR5.out.drew nq⟩
          case rest =>
          clear hcw hfw HR5 AG
          obtain ⟨rfl, hR6⟩ := hcut
          have hd3n := hR6.sz
          have hB3 := BB.out
          rw [ED.out] at hB3
          cases h87 : (decide (a' > 0) && !ltU d3[a' - 1]! d3[pv]!)
          · obtain ⟨mid, ap, d4, hx⟩ : ∃ mid ap d4, partition ltU d3 a' b' pv = (mid, ap, d4) := ⟨(partition ltU d3 a' b' pv).1, (partition ltU d3 a' b' pv).2.1, (partition ltU d3 a' b' pv).2.2, rfl⟩
            obtain ⟨r1, r2, r3, r4, r5, r6, r7⟩ := round_part swoU (partition_holds ltU) pv1 pv2 (show b' ≤ d3.size by omega) hB3 hx
            have HC := hide (partition_any (cap := cap) hR6 pv1 pv2 hb' hsz)
            rw [hx] at HC
            have X := hide hx; have R4 := hide r4; have R5 := hide r5; have R6 := hide r6; have R7 := hide r7; have R3 := hide r3; have H87 := hide h87
            clear hx r3 r4 r5 r6 r7 hR6 hB3 hd3n h87
            go_upto_if 113 with (go_at_call 120; refine HC.out.mono ?_; rintro ex w7 ⟨rfl, hw7⟩)
            have HR7 : Hid (Rw w0 blk off n c e d4 w7) := hw7
            clear hw7 HC
            have hd4 := HR7.out.sz
            by_cases h4 : mid - a' < b' - mid
            · have h4z : decide ((mid : Int) - (a' : Int) < (b' : Int) - (mid : Int)) = true := by simp; omega
              have HIH := hide (IH.out a' mid (rd ltU dk a' b' lim wb wp).lim d4 w7 (by omega) HR7.out (by omega) (by omega) (Nat.lt_of_le_of_lt (Nat.le_trans rd_lim_le hlim) hlimit) R4.out)
              have PS := hide (pdq_sorts ltU swoU d4 a' mid (rd ltU dk a' b' lim wb wp).lim true true (by omega) (by omega) R4.out)
              have HE : Hid (pdq ltU dk a' b' lim wb wp = pdq ltU (pdq ltU d4 a' mid (rd ltU dk a' b' lim wb wp).lim true true) (mid + 1) b' (rd ltU dk a' b' lim wb wp).lim (decide (mid - a' ≥ (b' - a') / 8)) ap) := by
                have := pdq_left h12 hl0 HP2.out (by rw [ED.out, EV.out]; exact H87.out) (by rw [ED.out, EV.out, X.out]; exact ⟨r1, r2⟩) (by rw [ED.out, EV.out, X.out]; exact h4)
                rw [ED.out, EV.out, X.out] at this
                exact this
              clear hd4
              go_wp2_with (go_at_call 94; refine HIH.out.mono ?_; rintro ex w8 ⟨rfl, hw8⟩)
              go_roundg (b' - (mid + 1))
              case measure => omega
              case rel =>
                refine ⟨mid + 1, b', (rd ltU dk a' b' lim wb wp).lim, decide (mid - a' ≥ (b' - a') / 8), ap, pdq ltU d4 a' mid (rd ltU dk a' b' lim wb wp).lim true true, by simp, rfl, rfl, ?_, rfl, by omega, by omega, Nat.le_refl _, by omega, Nat.le_trans rd_lim_le hlim, hw8, (R6.out _ PS.out.1 PS.out.2).1, HE.out.symm.trans A.out⟩
                exact congrArg Value.bool (eighth (by omega) (by omega))
            · have h4z : decide ((mid : Int) - (a' : Int) < (b' : Int) - (mid : Int)) = false := by simp; omega
              have HIH := hide (IH.out (mid + 1) b' (rd ltU dk a' b' lim wb wp).lim d4 w7 (by omega) HR7.out (by omega) (by omega) (Nat.lt_of_le_of_lt (Nat.le_trans rd_lim_le hlim) hlimit) R5.out)
              have PS := hide (pdq_sorts ltU swoU d4 (mid + 1) b' (rd ltU dk a' b' lim wb wp).lim true true (by omega) (by omega) R5.out)
              have HE : Hid (pdq ltU dk a' b' lim wb wp = pdq ltU (pdq ltU d4 (mid + 1) b' (rd ltU dk a' b' lim wb wp).lim true true) a' mid (rd ltU dk a' b' lim wb wp).lim (decide (b' - mid ≥ (b' - a') / 8)) ap) := by
                have := pdq_right h12 hl0 HP2.out (by rw [ED.out, EV.out]; exact H87.out) (by rw [ED.out, EV.out, X.out]; exact ⟨r1, r2⟩) (by rw [ED.out, EV.out, X.out]; exact h4)
                rw [ED.out, EV.out, X.out] at this
                exact this
              clear hd4
              rw [show ((mid + 1 : Nat) : Int) = (mid : Int) + 1 by omega] at HIH
              go_wp2_with (go_at_call 94; refine HIH.out.mono ?_; rintro ex w8 ⟨rfl, hw8⟩)
              go_roundg (mid - a')
              case measure => omega
              case rel =>
                refine ⟨a', mid, (rd ltU dk a' b' lim wb wp).lim, decide (b' - mid ≥ (b' - a') / 8), ap, pdq ltU d4 (mid + 1) b' (rd ltU dk a' b' lim wb wp).lim true true, rfl, rfl, rfl, ?_, rfl, by omega, by omega, Nat.le_refl _, by omega, Nat.le_trans rd_lim_le hlim, hw8, (R7.out _ PS.out.1 PS.out.2).1, HE.out.symm.trans A.out⟩
                exact congrArg Value.bool (eighth (by omega) (by omega))
          · have h87' := h87
            simp only [Bool.and_eq_true, decide_eq_true_eq, Bool.not_eq_true'] at h87'
            obtain ⟨mid, d4, hx⟩ : ∃ mid d4, partitionEqual ltU d3 a' b' pv = (mid, d4) := ⟨(partitionEqual ltU d3 a' b' pv).1, (partitionEqual ltU d3 a' b' pv).2, rfl⟩
            obtain ⟨r1, r2, r3, r4, _⟩ := round_eq swoU (partitionEqual_holds ltU) h87'.1 pv1 pv2 (show b' ≤ d3.size by omega) hB3 h87'.2 hx
            have HC := hide (partitionEqual_any (cap := cap) hR6 pv1 pv2 hb' hsz)
            rw [hx] at HC
            have HE : Hid (pdq ltU dk a' b' lim wb wp = pdq ltU d4 mid b' (rd ltU dk a' b' lim wb wp).lim wb wp) := by
              have := pdq_eq h12 hl0 HP2.out (by rw [ED.out, EV.out]; exact h87) (by rw [ED.out, EV.out, hx]; exact ⟨r1, r2⟩)
              rw [ED.out, EV.out, hx] at this
              exact this
            have R4 := hide r4
            clear hx r3 r4 hR6 hB3 hd3n h87 h87'
            go_wp2_with (go_at_call 119; refine HC.out.mono ?_; rintro ex w7 ⟨rfl, hw7⟩)
            go_roundg (b' - mid)
            case measure => omega
            case rel => exact ⟨mid, b', (rd ltU dk a' b' lim wb wp).lim, wb, wp, d4, rfl, rfl, rfl, rfl, rfl, r2, hb', Nat.le_refl _, by omega, Nat.le_trans rd_lim_le hlim, hw7, R4.out, HE.out.symm.trans A.out⟩
end Go.Proofs.YthpnnffogbjhpaaGreatDoor.So
namespace Go.Proofs.YthpnnffogbjhpaaGreatDoor.So
open Go.RowKit Go.Sort Go.Shelf
set_option linter.unusedVariables false
set_option maxHeartbeats 1000000 in
theorem sort_any {w0 w : World} {blk off n cap : Nat} {c : Array Value} {e : TypeId} {d : Array Nat} (hR : Rw w0 blk off n c e d w) (hsz : n < 4611686018427387904) :
    Calls Tryz.prog 65 #[.slice (some ⟨blk, off, none⟩) n cap] w fun ex w' =>
      ex = .returned (.tuple #[]) ∧ Rw w0 blk off n c e (pdq ltU d 0 n (bitsLen n) true true) w' := by
  have hk : bitsLen n ≤ 62 := (bitsLen_le_iff n 62).2 (by omega)
  have HP := hide (pdq_any (cap := cap) hsz (n + 1) 0 n (bitsLen n) d w (by omega) hR (by omega) (by omega) (by omega) (.inl rfl))
  have HL := hide (len_any hsz w)
  have wr : IntKind.u64.wrap (n : Int) = n := by rw [IntWalk.u64_in _ (by omega)]
  generalize pdq ltU d 0 n (bitsLen n) true true = r at HP ⊢
  generalize bitsLen n = bl at HP HL hk
  clear hR
  go_enter Tryz.func65, Tryz.ntmps65
  go_wp2_with fail
  refine Calls.mono HL.out ?_
  rintro ex w' ⟨rfl, rfl⟩
  go_wp2_with fail
  refine HP.out.mono ?_
  rintro ex w' ⟨rfl, hR⟩
  have HR := hide hR
  clear hR
  go_wp2_with fail
  go_end0
  exact ⟨rfl, HR.out⟩
/-- What is handed in is sorted in its place. -/
theorem sortU_any {base : Nat} {v : Value} {l : List Nat} (w : World) (hr : w.ownsRow base 42 1 v l.length (l.map enU)) (h0 : l ≠ []) (hsz : l.length < 4611686018427387904) :
    Calls Tryz.prog 65 #[v] w fun ex w' => ex = .returned (.tuple #[]) ∧ Upd v.ownBlock.toList w w' ∧ ∃ d : List Nat, w'.ownsRow base 42 1 v d.length (d.map enU) ∧ d.length = l.length ∧ d.Perm l ∧ d.Pairwise fun p q => p ≤ q := by
  rcases hr.2 with ⟨rfl, hn⟩ | ⟨g, cap, cur, rfl, hbg, hg, hnc, hcm, hcs, htk⟩
  · exact absurd (List.eq_nil_of_length_eq_zero hn) h0
  rw [Nat.mul_one] at hcs htk
  have hR : Rw w g 0 l.toArray.size cur 42 l.toArray w := by
    refine Rw.start hg (by simp; omega) fun t ht => ?_
    have ht2 : t < l.length := by simpa using ht
    have e2 : cur.toList[t]? = (l.map enU)[t]? := by rw [← htk, List.getElem?_take, if_pos ht2]
    rw [Array.getElem?_toList, List.getElem?_map, List.getElem?_eq_getElem ht2] at e2
    rw [Nat.zero_add, e2, getElem!_pos _ t ht]
    simp
  have hcon := sort_any (cap := cap) hR (by simpa using hsz)
  rw [List.size_toArray] at hcon
  refine Calls.mono hcon ?_
  rintro ex w' ⟨rfl, hR'⟩
  obtain ⟨⟨hs1, -, hs3⟩, hso⟩ := pdq_sorts ltU swoU l.toArray 0 l.length (bitsLen l.length) true true (Nat.zero_le _) (by simp) (.inl rfl)
  generalize pdq ltU l.toArray 0 l.length (bitsLen l.length) true true = d' at hs1 hs3 hso hR'
  replace hs1 : d'.size = l.length := by simpa using hs1
  have hdl : d'.toList.length = l.length := by simpa using hs1
  refine ⟨rfl, hR'.upd, d'.toList, ?_, hdl, ?_, ?_⟩
  · rw [hdl]
    refine ⟨by rw [List.length_map, hdl, Nat.mul_one], .inr ⟨g, cap, _, rfl, hbg, hR'.blk, hnc, hcm, by simp [putCells]; exact hcs, ?_⟩⟩
    apply List.ext_getElem?
    intro t
    by_cases ht : t < l.length
    · have h1 : t < cur.size := by omega
      have h2 : t < d'.size := by omega
      rw [List.getElem?_take, if_pos (by omega), List.getElem?_map, Array.getElem?_toList, Array.getElem?_toList, putCells, Array.getElem?_mapIdx, Array.getElem?_eq_getElem h1, Array.getElem?_eq_getElem h2, Option.map_some, if_pos ⟨Nat.zero_le _, by omega⟩, Nat.sub_zero, getElem!_pos _ t h2]
      rfl
    · rw [List.getElem?_eq_none (by simp; omega), List.getElem?_eq_none (by simp; omega)]
  · have e1 : d'.extract 0 l.length = d' := by rw [← hs1]; simp
    have e2 : l.toArray.extract 0 l.length = l.toArray := by simp
    rw [e1, e2] at hs3
    exact hs3
  · rw [List.pairwise_iff_getElem]
    intro i j hi hj hij
    have := hso i j (Nat.zero_le _) hij (by rw [← hdl]; exact hj)
    rw [getElem!_pos _ j (by simpa using hj), getElem!_pos _ i (by simpa using hi)] at this
    simp only [ltU, decide_eq_false_iff_not] at this
    simp only [Array.getElem_toList]
    omega
end Go.Proofs.YthpnnffogbjhpaaGreatDoor.So
