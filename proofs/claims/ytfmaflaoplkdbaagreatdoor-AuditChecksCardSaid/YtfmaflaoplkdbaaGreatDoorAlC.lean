/- The law AuditChecks: its walk, out of what wakes says. -/
import Derived.Test.YtfmaflaoplkdbaaGreatDoorAuSJ
import Derived.Test.YtfmaflaoplkdbaaGreatDoorAlMX
import Derived.Test.YtfmaflaoplkdbaaGreatDoorAlGB
import Derived.Test.YtfmaflaoplkdbaaGreatDoorAlA
import Derived.Test.YtfmaflaoplkdbaaGreatDoorAlHS
import Derived.Test.YtfmaflaoplkdbaaGreatDoorAlP
import Derived.Test.YtfmaflaoplkdbaaGreatDoorAlFD
import Derived.Test.YtfmaflaoplkdbaaGreatDoorTrXc
set_option linter.unusedSimpArgs false
set_option linter.unusedVariables false
set_option linter.unnecessarySimpa false
namespace Go.Proofs.YtfmaflaoplkdbaaGreatDoor.Au
open Go.RowKit Go.Proofs.YtfmaflaoplkdbaaGreatDoor.Crc Go.Proofs.YtfmaflaoplkdbaaGreatDoor.Cm Go.Proofs.YtfmaflaoplkdbaaGreatDoor.Tr Go.Proofs.YtfmaflaoplkdbaaGreatDoor.Kv
set_option linter.unusedSimpArgs false
set_option linter.unusedVariables false

theorem log_good {told : List Td} {out : List Sl} (h : LogTo (allM told) out) : ∀ s ∈ out, ∀ c ∈ s.cmds, c.keys.length * 16 ≤ 140737488355328 := fun s hs c hc => by
  obtain ⟨i, hi⟩ := List.mem_iff_getElem?.1 hs
  have h3 := findM_mem (h i s hi)
  unfold allM at h3
  obtain ⟨t, -, h4⟩ := List.mem_flatMap.1 h3
  have key : ∀ (ds : List Dn) (left : List An), s ∈ partedM ds left → ∀ c ∈ s.cmds, Cm.Good c := by
    intro ds
    induction ds with
    | nil => intro left h; cases h
    | cons d ds ih =>
      intro left h
      unfold partedM at h
      rcases List.mem_cons.1 h with rfl | h
      · exact (parseM_says d.2).2
      · exact ih _ h
  have hg := key _ _ h4 c hc
  have h5 : c.keys.length ≤ Cm.hi c.kind := hg.2.2.2.2.1
  have h6 : Cm.hi c.kind ≤ 16 := by
    have h7 : c.kind < 9 := hg.2.2.1
    revert h7
    generalize c.kind = q
    revert q
    decide
  omega
/-- What the rises so far are. -/
def RiseTo (ds : List Dn) (k : Nat) (v : Bool) : Prop := (v = true ∧ ∀ j d e, j + 1 < k → ds[j]? = some d → ds[j + 1]? = some e → nextB d e = true) ∨ (v = false ∧ risesM ds = false)
theorem RiseTo.all {ds : List Dn} {k : Nat} {v : Bool} (h : RiseTo ds k v) (hk : ds.length ≤ k) : v = risesM ds := by
  rcases h with ⟨rfl, h⟩ | ⟨rfl, h⟩
  · rw [rises_good fun j d e hd he => h j d e (by have := (List.getElem?_eq_some_iff.1 he).1; omega) hd he]
  · rw [h]
theorem RiseTo.next {ds : List Dn} {m : Nat} {d e : Dn} {b : Bool} (h : RiseTo ds (m + 1) b) (hd : ds[m]? = some d) (he : ds[m + 1]? = some e) : RiseTo ds (m + 1 + 1) (b && nextB d e) := by
  rcases h with ⟨rfl, h⟩ | ⟨rfl, h⟩
  · cases hn : nextB d e with
    | true => exact .inl ⟨rfl, fun j d' e' hj hd' he' => by
        rcases Nat.lt_or_ge (j + 1) (m + 1) with h7 | h7
        · exact h j d' e' h7 hd' he'
        · have hjm : j = m := by omega
          subst hjm
          rw [hd] at hd'
          rw [he] at he'
          cases hd'; cases he'
          exact hn⟩
    | false => exact .inr ⟨rfl, rises_bad hd he hn⟩
  · exact .inr ⟨rfl, h⟩
noncomputable def acOps13 : Array Oper := findOps 13 ((Tryz.f4.body).getD .skip)
set_option maxRecDepth 100000 in
set_option maxHeartbeats 16000000 in
theorem checks_any (wakes : WakesSays) {lv tv : Value} {l : List En} {told : List To} (w : World) (he : EnvAt w) (hl : enK.row w (fun k => k < w.heap.size) lv l) (ht : toK.row w (fun k => k < w.heap.size) tv told) :
    Calls Tryz.prog 4 #[lv, tv] w fun e w' => e = .returned (.bool true) ∧ Upd [] w w' := by
  obtain ⟨xo, cp, rfl, h3, h4⟩ := Row.slice ht
  obtain ⟨xl, cl, rfl, hl3, hl4⟩ := Row.slice hl
  have HT := hide ht; have HL := hide hl; have HE := hide he; have WK := hide wakes
  simp only [maxLen] at h4 hl4
  clear ht hl he wakes
  obtain ⟨i3, hi3, kz0, kz1, kz2⟩ := info_parts infoFn
  go_enter Tryz.func4, Tryz.ntmps4
  go_wp2_with fail
  refine (great_any w HL.out HT.out).mono ?_
  rintro e w1 ⟨hg, hu1⟩
  have U1 := hide hu1
  clear hu1
  rcases hg with rfl | ⟨rfl, hs⟩
  · go_wp2_with fail
    refine (WK.out w1 (HE.out.upd_nil U1.out)).mono ?_
    rintro e w2 ⟨rfl, hu⟩
    have U2 := hide (U1.out.trans hu)
    clear hu
    go_wp2_with fail
    go_ret
    exact ⟨rfl, U2.out⟩
  · have SM := hide hs
    have h40 := hs.1
    have hal := allM_len (fun t ht => (SM.out.2 t ht).1) h40
    clear hs
    have hbd : ∀ t ∈ told.map To.td, t.done.length ≤ 1000 ∧ t.ans.length ≤ 1000000 ∧ ∀ d ∈ t.done, d.2.length ≤ 1000000000000 := fun t ht => by
      obtain ⟨t', ht', rfl⟩ := List.mem_map.1 ht
      have h5 := SM.out.2 t' ht'
      exact ⟨Nat.le_trans h5.1 (by omega), Nat.le_trans h5.2.1 (by omega), fun d hd => Nat.le_trans (h5.2.2 d hd) (by omega)⟩
    have HBD := hide hbd
    clear hbd
    go_wp2_with fail
    refine (log_any (T := fun k => k < w.heap.size) (v := .slice xo told.length cp) w1 (HE.out.upd_nil U1.out).cnt (to_td (toK.row_upd_nil HT.out U1.out)) HBD.out (by omega)).mono ?_
    clear HBD
    rintro e w2 ⟨⟨v', out, rfl, hlog, hrow⟩, hu2⟩
    have hlc := log_cmds hlog.1 (fun t ht => by obtain ⟨t', ht', rfl⟩ := List.mem_map.1 ht; exact (SM.out.2 t' ht').1) (by simpa using h40)
    obtain ⟨xs, cs, rfl, hcs, hcsm⟩ := Row.slice hrow
    have LOG := hide hlog; have LC := hide hlc.2; have SR := hide (slK.row_mono hrow (fun k hk => hk.2)); have U2 := hide (U1.out.trans hu2); have GD := hide (log_good hlog.1); have ND := hide (log_nodup hlog.1)
    have hol := hlc.1
    clear hlog hlc hrow hu2 hal
    go_wp2_with fail
    have hca := cmds_any w2 SR.out (by have := LC.out out.length; rw [List.take_length] at this; omega) GD.out
    obtain ⟨CS, hCS⟩ : ∃ CS, out.flatMap (·.cmds) = CS := ⟨_, rfl⟩
    rw [hCS] at hca
    refine hca.mono ?_
    clear hca
    rintro e w3 ⟨⟨v3, rfl, h3'⟩, hu3⟩
    obtain ⟨xc, cc, rfl, hcc, hccm⟩ := Row.slice h3'
    obtain ⟨WM, hWM⟩ : ∃ WM, wrongM ap0 out = WM := ⟨_, rfl⟩
    have CR := hide h3'; have U3 := hide (U2.out.trans hu3); have U23 := hide hu3; have HCS := hide hCS; have HWM := hide hWM
    clear h3' hu3 hCS hWM
    go_wp2_with fail
    go_loopw [7, 8] (fun so si wr => ∃ i : Nat, i ≤ told.length ∧ si = .int .i64 i ∧ Own wr w3.heap.size TFn 2 fnP so (auditM out l told i) ∧ Upd [] w3 wr) (fun _ si _ => told.length - (RowKit.intOf si).toNat)
    case atStart => exact ⟨0, by omega, rfl, Own.nil _ _ _ _ _, Upd.refl _ _⟩
    case round =>
      obtain ⟨i, hi, rfl, how, hu4⟩ := hrel
      have OW := hide how; have U4 := hide hu4
      clear how hu4
      by_cases hil : i < told.length
      · have d5 : decide ((i : Int) < told.length) = true := by simp; omega
        have d5' : decide (i < told.length) = true := by simpa using hil
        obtain ⟨t, hti⟩ : ∃ t, told[i]? = some t := ⟨_, List.getElem?_eq_getElem hil⟩
        have TI := hide hti; have TB := hide (SM.out.2 t (List.mem_of_getElem? hti))
        clear hti
        go_wp2_with fail
        go_loopw [9, 10] (fun sr sk wq => ∃ (k : Nat) (b : Bool), 1 ≤ k ∧ k ≤ t.done.length + 1 ∧ sk = .int .i64 k ∧ sr = .bool b ∧ RiseTo t.done k b ∧ Upd [] wr wq) (fun _ sk _ => t.done.length + 1 - (RowKit.intOf sk).toNat)
        case atStart => exact ⟨1, true, by omega, by omega, rfl, rfl, .inl ⟨rfl, fun j d e hj => by omega⟩, Upd.refl _ _⟩
        case round =>
          obtain ⟨k, bo, hk0, hk, rfl, rfl, hri, hu5⟩ := hrel
          have RI := hide hri; have U5 := hide hu5
          clear hri hu5
          obtain ⟨b, off, xa, ca, xd, cd, rfl, -, -, c4, -, hvd, -, hd2⟩ := to_at (toK.row_upd_nil HT.out (U3.out.trans (U4.out.trans U5.out))) TI.out
          by_cases hkl : k < t.done.length
          · have d6 : decide ((k : Int) < t.done.length) = true := by simp; omega
            have d6' : decide (k < t.done.length) = true := by simpa using hkl
            obtain ⟨m, rfl⟩ : ∃ m, k = m + 1 := ⟨k - 1, by omega⟩
            obtain ⟨d, hd⟩ : ∃ d, t.done[m]? = some d := ⟨_, List.getElem?_eq_getElem (by omega)⟩
            obtain ⟨e, he⟩ : ∃ e, t.done[m + 1]? = some e := ⟨_, List.getElem?_eq_getElem hkl⟩
            obtain ⟨bd, od, xb, n, c, rfl, q0, -, -, -, -, hsd, -⟩ := dn_at hvd hd
            obtain ⟨bd', od', xb', n', c', e1, q1, -, -, -, -, hse, -⟩ := dn_at hvd he
            cases e1
            have i0 : decide (0 ≤ ((m + 1 : Nat) : Int)) = true := by simp; omega
            have i1 : decide ((m : Int) + 1 < (t.done.length : Int)) = true := by simp; omega
            have i2 : decide (0 ≤ (m : Int) + 1) = true := by simp; omega
            have i3 : decide ((m : Int) < (t.done.length : Int)) = true := by simp; omega
            have hml : m < t.done.length := by omega
            have i6 : ((m : Int) + 1).toNat = m + 1 := by omega
            have i9 : IntKind.i64.wrap (m : Int) = (m : Int) := IntWalk.i64_in _ (by omega)
            have i7 : (0 : Int) ≤ (m : Int) + 1 := by omega
            have i8 : (m : Int) + 1 < (t.done.length : Int) := by omega
            have i4 : decide (m < t.done.length) = true := by simpa using hml
            have i5 : decide (m + 1 < t.done.length) = true := by simpa using hkl
            have hnx := RI.out.next hd he
            have hm1 : m + 1 + 1 ≤ t.done.length + 1 := by omega
            clear hd he hvd
            cases bo with
            | false =>
              rw [Bool.false_and] at hnx
              have NX := hide hnx
              clear hnx
              go_wp2_with fail
              go_quiet (fail)
              go_wp2_with fail
              go_roundw
              case rel => exact ⟨m + 1 + 1, _, by omega, hm1, by go_num, rfl, NX.out, U5.out.drewN _⟩
              case measure => simp [RowKit.intOf]; omega
            | true =>
              rw [Bool.true_and] at hnx
              by_cases hz : e.1 = 0
              · have z1 : decide ((0 : Int) < (e.1 : Int)) = false := by simp [hz]
                have z2 : ¬ 0 < e.1 := by omega
                rw [show nextB d e = false from by simp [nextB, hz]] at hnx
                have NX := hide hnx
                clear hnx hz
                go_upto_region 13 with fail
                have hc4 := fun wx (hS : Upd [] (wr.drewN 1) wx) => cellU c4 (((Upd.refl [] wr).drewN 1).trans hS) (by simp)
                have hq0 := fun wx (hS : Upd [] (wr.drewN 1) wx) => cellU q0 (((Upd.refl [] wr).drewN 1).trans hS) (by simp)
                have hq1 := fun wx (hS : Upd [] (wr.drewN 1) wx) => cellU q1 (((Upd.refl [] wr).drewN 1).trans hS) (by simp)
                refine wp_region_seqP acOps13 (by kernel_rfl) [] [0, 1, 2, 3, 4, 5, 6, 7, 8, 9, 10, 11, 12, 13, 14, 15, 16, 17, 18, 19, 20, 21, 22, 23, 24, 25, 26, 27, 28, 29, 30, 31, 32, 33, 34, 35, 36] (fun wx => Upd [] (wr.drewN 1) wx) (by kernel_rfl) (by kernel_rfl) (fun _ _ d _ _ h => by cases d <;> exact h) (Upd.refl _ _) ?_
                simp only [pickO, List.filterMap_cons, List.filterMap_nil, List.getElem?_cons_succ, List.getElem?_cons_zero]
                refine wpSeqP_take (by kernel_rfl) (by kernel_rfl) ?_
                apply Exists.intro
                refine ⟨fun wx hS => ?_, fun a' ha => ?_⟩
                · go_simp; rfl
                simp only [Act.put, List.setIfInBounds_toArray, List.set_cons_succ, List.set_cons_zero] at ha
                subst ha
                refine wpSeqP_take (by kernel_rfl) (by kernel_rfl) ?_
                apply Exists.intro
                refine ⟨fun wx hS => ?_, fun a' ha => ?_⟩
                · go_simp; rfl
                simp only [Act.put, List.setIfInBounds_toArray, List.set_cons_succ, List.set_cons_zero] at ha
                subst ha
                refine wpSeqP_take (by kernel_rfl) (by kernel_rfl) ?_
                apply Exists.intro
                refine ⟨fun wx hS => ?_, fun a' ha => ?_⟩
                · go_simp; rfl
                simp only [Act.put, List.setIfInBounds_toArray, List.set_cons_succ, List.set_cons_zero] at ha
                subst ha
                refine wpSeqP_take (by kernel_rfl) (by kernel_rfl) ?_
                apply Exists.intro
                refine ⟨fun wx hS => ?_, fun a' ha => ?_⟩
                · go_simp; rfl
                simp only [Act.put, List.setIfInBounds_toArray, List.set_cons_succ, List.set_cons_zero] at ha
                subst ha
                refine wpSeqP_take (by kernel_rfl) (by kernel_rfl) ?_
                apply Exists.intro
                refine ⟨fun wx hS => ?_, fun a' ha => ?_⟩
                · go_simp; rfl
                simp only [Act.put, List.setIfInBounds_toArray, List.set_cons_succ, List.set_cons_zero] at ha
                subst ha
                refine wpSeqP_take (by kernel_rfl) (by kernel_rfl) ?_
                apply Exists.intro
                refine ⟨fun wx hS => ?_, fun a' ha => ?_⟩
                · go_simp; rfl
                simp only [Act.put, List.setIfInBounds_toArray, List.set_cons_succ, List.set_cons_zero] at ha
                subst ha
                refine wpSeqP_take (by kernel_rfl) (by kernel_rfl) ?_
                apply Exists.intro
                refine ⟨fun wx hS => ?_, fun a' ha => ?_⟩
                · have k0 := hc4 wx hS; go_simp; rfl
                simp only [Act.put, List.setIfInBounds_toArray, List.set_cons_succ, List.set_cons_zero] at ha
                subst ha
                refine wpSeqP_take (by kernel_rfl) (by kernel_rfl) ?_
                apply Exists.intro
                refine ⟨fun wx hS => ?_, fun a' ha => ?_⟩
                · go_simp; rfl
                simp only [Act.put, List.setIfInBounds_toArray, List.set_cons_succ, List.set_cons_zero] at ha
                subst ha
                refine wpSeqP_take (by kernel_rfl) (by kernel_rfl) ?_
                apply Exists.intro
                refine ⟨fun wx hS => ?_, fun a' ha => ?_⟩
                · go_simp; rfl
                simp only [Act.put, List.setIfInBounds_toArray, List.set_cons_succ, List.set_cons_zero] at ha
                subst ha
                refine wpSeqP_take (by kernel_rfl) (by kernel_rfl) ?_
                apply Exists.intro
                refine ⟨fun wx hS => ?_, fun a' ha => ?_⟩
                · go_simp; rfl
                simp only [Act.put, List.setIfInBounds_toArray, List.set_cons_succ, List.set_cons_zero] at ha
                subst ha
                refine wpSeqP_take (by kernel_rfl) (by kernel_rfl) ?_
                apply Exists.intro
                refine ⟨fun wx hS => ?_, fun a' ha => ?_⟩
                · have k0 := hq1 wx hS; go_simp; rfl
                simp only [Act.put, List.setIfInBounds_toArray, List.set_cons_succ, List.set_cons_zero] at ha
                subst ha
                refine wpSeqP_take (by kernel_rfl) (by kernel_rfl) ?_
                apply Exists.intro
                refine ⟨fun wx hS => ?_, fun a' ha => ?_⟩
                · go_simp; rfl
                simp only [Act.put, List.setIfInBounds_toArray, List.set_cons_succ, List.set_cons_zero] at ha
                subst ha
                refine wpSeqP_take (by kernel_rfl) (by kernel_rfl) ?_
                apply Exists.intro
                refine ⟨fun wx hS => ?_, fun a' ha => ?_⟩
                · go_simp; rfl
                simp only [Act.put, List.setIfInBounds_toArray, List.set_cons_succ, List.set_cons_zero] at ha
                subst ha
                refine wpSeqP_take (by kernel_rfl) (by kernel_rfl) ?_
                apply Exists.intro
                refine ⟨fun wx hS => ?_, fun a' ha => ?_⟩
                · go_simp; rfl
                simp only [Act.put, List.setIfInBounds_toArray, List.set_cons_succ, List.set_cons_zero] at ha
                subst ha
                refine wpSeqP_skip (by kernel_rfl) (fun a' ha => ?_)
                simp only [Act.put, List.setIfInBounds_toArray, List.set_cons_succ, List.set_cons_zero] at ha
                subst ha
                refine wpSeqP_skip (by kernel_rfl) (fun a' ha => ?_)
                simp only [Act.put, List.setIfInBounds_toArray, List.set_cons_succ, List.set_cons_zero] at ha
                subst ha
                refine wpSeqP_skip (by kernel_rfl) (fun a' ha => ?_)
                simp only [Act.put, List.setIfInBounds_toArray, List.set_cons_succ, List.set_cons_zero] at ha
                subst ha
                refine wpSeqP_skip (by kernel_rfl) (fun a' ha => ?_)
                simp only [Act.put, List.setIfInBounds_toArray, List.set_cons_succ, List.set_cons_zero] at ha
                subst ha
                refine wpSeqP_skip (by kernel_rfl) (fun a' ha => ?_)
                simp only [Act.put, List.setIfInBounds_toArray, List.set_cons_succ, List.set_cons_zero] at ha
                subst ha
                refine wpSeqP_skip (by kernel_rfl) (fun a' ha => ?_)
                simp only [Act.put, List.setIfInBounds_toArray, List.set_cons_succ, List.set_cons_zero] at ha
                subst ha
                refine wpSeqP_skip (by kernel_rfl) (fun a' ha => ?_)
                simp only [Act.put, List.setIfInBounds_toArray, List.set_cons_succ, List.set_cons_zero] at ha
                subst ha
                refine wpSeqP_skip (by kernel_rfl) (fun a' ha => ?_)
                simp only [Act.put, List.setIfInBounds_toArray, List.set_cons_succ, List.set_cons_zero] at ha
                subst ha
                refine wpSeqP_skip (by kernel_rfl) (fun a' ha => ?_)
                simp only [Act.put, List.setIfInBounds_toArray, List.set_cons_succ, List.set_cons_zero] at ha
                subst ha
                refine wpSeqP_skip (by kernel_rfl) (fun a' ha => ?_)
                simp only [Act.put, List.setIfInBounds_toArray, List.set_cons_succ, List.set_cons_zero] at ha
                subst ha
                refine wpSeqP_skip (by kernel_rfl) (fun a' ha => ?_)
                simp only [Act.put, List.setIfInBounds_toArray, List.set_cons_succ, List.set_cons_zero] at ha
                subst ha
                refine wpSeqP_skip (by kernel_rfl) (fun a' ha => ?_)
                simp only [Act.put, List.setIfInBounds_toArray, List.set_cons_succ, List.set_cons_zero] at ha
                subst ha
                refine wpSeqP_skip (by kernel_rfl) (fun a' ha => ?_)
                simp only [Act.put, List.setIfInBounds_toArray, List.set_cons_succ, List.set_cons_zero] at ha
                subst ha
                refine wpSeqP_skip (by kernel_rfl) (fun a' ha => ?_)
                simp only [Act.put, List.setIfInBounds_toArray, List.set_cons_succ, List.set_cons_zero] at ha
                subst ha
                refine wpSeqP_skip (by kernel_rfl) (fun a' ha => ?_)
                simp only [Act.put, List.setIfInBounds_toArray, List.set_cons_succ, List.set_cons_zero] at ha
                subst ha
                refine wpSeqP_skip (by kernel_rfl) (fun a' ha => ?_)
                simp only [Act.put, List.setIfInBounds_toArray, List.set_cons_succ, List.set_cons_zero] at ha
                subst ha
                refine wpSeqP_skip (by kernel_rfl) (fun a' ha => ?_)
                simp only [Act.put, List.setIfInBounds_toArray, List.set_cons_succ, List.set_cons_zero] at ha
                subst ha
                refine wpSeqP_skip (by kernel_rfl) (fun a' ha => ?_)
                simp only [Act.put, List.setIfInBounds_toArray, List.set_cons_succ, List.set_cons_zero] at ha
                subst ha
                refine wpSeqP_skip (by kernel_rfl) (fun a' ha => ?_)
                simp only [Act.put, List.setIfInBounds_toArray, List.set_cons_succ, List.set_cons_zero] at ha
                subst ha
                refine wpSeqP_skip (by kernel_rfl) (fun a' ha => ?_)
                simp only [Act.put, List.setIfInBounds_toArray, List.set_cons_succ, List.set_cons_zero] at ha
                subst ha
                refine wpSeqP_skip (by kernel_rfl) (fun a' ha => ?_)
                simp only [Act.put, List.setIfInBounds_toArray, List.set_cons_succ, List.set_cons_zero] at ha
                subst ha
                refine wpSeqP_take (by kernel_rfl) (by kernel_rfl) ?_
                apply Exists.intro
                refine ⟨fun wx hS => ?_, fun a' ha => ?_⟩
                · go_simp; rfl
                simp only [Act.put, List.setIfInBounds_toArray, List.set_cons_succ, List.set_cons_zero] at ha
                subst ha
                refine wpSeqP_take (by kernel_rfl) (by kernel_rfl) ?_
                apply Exists.intro
                refine ⟨fun wx hS => ?_, fun a' ha => ?_⟩
                · go_simp; rfl
                simp only [Act.put, List.setIfInBounds_toArray, List.set_cons_succ, List.set_cons_zero] at ha
                subst ha
                unfold wpSeqP
                go_wp2_with fail
                go_roundw
                case rel => exact ⟨m + 1 + 1, _, by omega, hm1, by go_num, rfl, NX.out, U5.out.drewN 1⟩
                case measure => simp [RowKit.intOf]; omega
              · have z1 : decide ((0 : Int) < (e.1 : Int)) = true := by simp; omega
                have z2 : 0 < e.1 := by omega
                obtain ⟨D, hD⟩ : ∃ D, (d.1 + 1) % 18446744073709551616 = D := ⟨_, rfl⟩
                have hw : IntKind.u64.wrap ((d.1 : Int) + 1) = (D : Int) := by rw [← hD, IntKind.wrap_u64]; omega
                by_cases hn : e.1 = D
                · have z3 : ((e.1 : Int) == (D : Int)) = true := by simp [hn]
                  rw [show nextB d e = true from by unfold nextB; rw [hD]; simp [hz, hn]; omega] at hnx
                  have NX := hide hnx
                  clear hnx hz hn hD
                  go_upto_region 13 with fail
                  have hc4 := fun wx (hS : Upd [] (wr.drewN 1) wx) => cellU c4 (((Upd.refl [] wr).drewN 1).trans hS) (by simp)
                  have hq0 := fun wx (hS : Upd [] (wr.drewN 1) wx) => cellU q0 (((Upd.refl [] wr).drewN 1).trans hS) (by simp)
                  have hq1 := fun wx (hS : Upd [] (wr.drewN 1) wx) => cellU q1 (((Upd.refl [] wr).drewN 1).trans hS) (by simp)
                  refine wp_region_seqP acOps13 (by kernel_rfl) [] [0, 1, 2, 3, 4, 5, 6, 7, 8, 9, 10, 11, 12, 13, 14, 15, 16, 17, 18, 19, 20, 21, 22, 23, 24, 25, 26, 27, 28, 29, 30, 31, 32, 33, 34, 35, 36] (fun wx => Upd [] (wr.drewN 1) wx) (by kernel_rfl) (by kernel_rfl) (fun _ _ d _ _ h => by cases d <;> exact h) (Upd.refl _ _) ?_
                  simp only [pickO, List.filterMap_cons, List.filterMap_nil, List.getElem?_cons_succ, List.getElem?_cons_zero]
                  refine wpSeqP_take (by kernel_rfl) (by kernel_rfl) ?_
                  apply Exists.intro
                  refine ⟨fun wx hS => ?_, fun a' ha => ?_⟩
                  · go_simp; rfl
                  simp only [Act.put, List.setIfInBounds_toArray, List.set_cons_succ, List.set_cons_zero] at ha
                  subst ha
                  refine wpSeqP_take (by kernel_rfl) (by kernel_rfl) ?_
                  apply Exists.intro
                  refine ⟨fun wx hS => ?_, fun a' ha => ?_⟩
                  · go_simp; rfl
                  simp only [Act.put, List.setIfInBounds_toArray, List.set_cons_succ, List.set_cons_zero] at ha
                  subst ha
                  refine wpSeqP_take (by kernel_rfl) (by kernel_rfl) ?_
                  apply Exists.intro
                  refine ⟨fun wx hS => ?_, fun a' ha => ?_⟩
                  · go_simp; rfl
                  simp only [Act.put, List.setIfInBounds_toArray, List.set_cons_succ, List.set_cons_zero] at ha
                  subst ha
                  refine wpSeqP_take (by kernel_rfl) (by kernel_rfl) ?_
                  apply Exists.intro
                  refine ⟨fun wx hS => ?_, fun a' ha => ?_⟩
                  · go_simp; rfl
                  simp only [Act.put, List.setIfInBounds_toArray, List.set_cons_succ, List.set_cons_zero] at ha
                  subst ha
                  refine wpSeqP_take (by kernel_rfl) (by kernel_rfl) ?_
                  apply Exists.intro
                  refine ⟨fun wx hS => ?_, fun a' ha => ?_⟩
                  · go_simp; rfl
                  simp only [Act.put, List.setIfInBounds_toArray, List.set_cons_succ, List.set_cons_zero] at ha
                  subst ha
                  refine wpSeqP_take (by kernel_rfl) (by kernel_rfl) ?_
                  apply Exists.intro
                  refine ⟨fun wx hS => ?_, fun a' ha => ?_⟩
                  · go_simp; rfl
                  simp only [Act.put, List.setIfInBounds_toArray, List.set_cons_succ, List.set_cons_zero] at ha
                  subst ha
                  refine wpSeqP_take (by kernel_rfl) (by kernel_rfl) ?_
                  apply Exists.intro
                  refine ⟨fun wx hS => ?_, fun a' ha => ?_⟩
                  · have k0 := hc4 wx hS; go_simp; rfl
                  simp only [Act.put, List.setIfInBounds_toArray, List.set_cons_succ, List.set_cons_zero] at ha
                  subst ha
                  refine wpSeqP_take (by kernel_rfl) (by kernel_rfl) ?_
                  apply Exists.intro
                  refine ⟨fun wx hS => ?_, fun a' ha => ?_⟩
                  · go_simp; rfl
                  simp only [Act.put, List.setIfInBounds_toArray, List.set_cons_succ, List.set_cons_zero] at ha
                  subst ha
                  refine wpSeqP_take (by kernel_rfl) (by kernel_rfl) ?_
                  apply Exists.intro
                  refine ⟨fun wx hS => ?_, fun a' ha => ?_⟩
                  · go_simp; rfl
                  simp only [Act.put, List.setIfInBounds_toArray, List.set_cons_succ, List.set_cons_zero] at ha
                  subst ha
                  refine wpSeqP_take (by kernel_rfl) (by kernel_rfl) ?_
                  apply Exists.intro
                  refine ⟨fun wx hS => ?_, fun a' ha => ?_⟩
                  · go_simp; rfl
                  simp only [Act.put, List.setIfInBounds_toArray, List.set_cons_succ, List.set_cons_zero] at ha
                  subst ha
                  refine wpSeqP_take (by kernel_rfl) (by kernel_rfl) ?_
                  apply Exists.intro
                  refine ⟨fun wx hS => ?_, fun a' ha => ?_⟩
                  · have k0 := hq1 wx hS; go_simp; rfl
                  simp only [Act.put, List.setIfInBounds_toArray, List.set_cons_succ, List.set_cons_zero] at ha
                  subst ha
                  refine wpSeqP_take (by kernel_rfl) (by kernel_rfl) ?_
                  apply Exists.intro
                  refine ⟨fun wx hS => ?_, fun a' ha => ?_⟩
                  · go_simp; rfl
                  simp only [Act.put, List.setIfInBounds_toArray, List.set_cons_succ, List.set_cons_zero] at ha
                  subst ha
                  refine wpSeqP_take (by kernel_rfl) (by kernel_rfl) ?_
                  apply Exists.intro
                  refine ⟨fun wx hS => ?_, fun a' ha => ?_⟩
                  · go_simp; rfl
                  simp only [Act.put, List.setIfInBounds_toArray, List.set_cons_succ, List.set_cons_zero] at ha
                  subst ha
                  refine wpSeqP_take (by kernel_rfl) (by kernel_rfl) ?_
                  apply Exists.intro
                  refine ⟨fun wx hS => ?_, fun a' ha => ?_⟩
                  · go_simp; rfl
                  simp only [Act.put, List.setIfInBounds_toArray, List.set_cons_succ, List.set_cons_zero] at ha
                  subst ha
                  refine wpSeqP_take (by kernel_rfl) (by kernel_rfl) ?_
                  apply Exists.intro
                  refine ⟨fun wx hS => ?_, fun a' ha => ?_⟩
                  · go_simp; rfl
                  simp only [Act.put, List.setIfInBounds_toArray, List.set_cons_succ, List.set_cons_zero] at ha
                  subst ha
                  refine wpSeqP_take (by kernel_rfl) (by kernel_rfl) ?_
                  apply Exists.intro
                  refine ⟨fun wx hS => ?_, fun a' ha => ?_⟩
                  · go_simp; rfl
                  simp only [Act.put, List.setIfInBounds_toArray, List.set_cons_succ, List.set_cons_zero] at ha
                  subst ha
                  refine wpSeqP_take (by kernel_rfl) (by kernel_rfl) ?_
                  apply Exists.intro
                  refine ⟨fun wx hS => ?_, fun a' ha => ?_⟩
                  · go_simp; rfl
                  simp only [Act.put, List.setIfInBounds_toArray, List.set_cons_succ, List.set_cons_zero] at ha
                  subst ha
                  refine wpSeqP_take (by kernel_rfl) (by kernel_rfl) ?_
                  apply Exists.intro
                  refine ⟨fun wx hS => ?_, fun a' ha => ?_⟩
                  · go_simp; rfl
                  simp only [Act.put, List.setIfInBounds_toArray, List.set_cons_succ, List.set_cons_zero] at ha
                  subst ha
                  refine wpSeqP_take (by kernel_rfl) (by kernel_rfl) ?_
                  apply Exists.intro
                  refine ⟨fun wx hS => ?_, fun a' ha => ?_⟩
                  · have k0 := hc4 wx hS; go_simp; rfl
                  simp only [Act.put, List.setIfInBounds_toArray, List.set_cons_succ, List.set_cons_zero] at ha
                  subst ha
                  refine wpSeqP_take (by kernel_rfl) (by kernel_rfl) ?_
                  apply Exists.intro
                  refine ⟨fun wx hS => ?_, fun a' ha => ?_⟩
                  · go_simp; rfl
                  simp only [Act.put, List.setIfInBounds_toArray, List.set_cons_succ, List.set_cons_zero] at ha
                  subst ha
                  refine wpSeqP_take (by kernel_rfl) (by kernel_rfl) ?_
                  apply Exists.intro
                  refine ⟨fun wx hS => ?_, fun a' ha => ?_⟩
                  · go_simp; rfl
                  simp only [Act.put, List.setIfInBounds_toArray, List.set_cons_succ, List.set_cons_zero] at ha
                  subst ha
                  refine wpSeqP_take (by kernel_rfl) (by kernel_rfl) ?_
                  apply Exists.intro
                  refine ⟨fun wx hS => ?_, fun a' ha => ?_⟩
                  · go_simp; rfl
                  simp only [Act.put, List.setIfInBounds_toArray, List.set_cons_succ, List.set_cons_zero] at ha
                  subst ha
                  refine wpSeqP_take (by kernel_rfl) (by kernel_rfl) ?_
                  apply Exists.intro
                  refine ⟨fun wx hS => ?_, fun a' ha => ?_⟩
                  · have k0 := hq1 wx hS; go_simp; rfl
                  simp only [Act.put, List.setIfInBounds_toArray, List.set_cons_succ, List.set_cons_zero] at ha
                  subst ha
                  refine wpSeqP_take (by kernel_rfl) (by kernel_rfl) ?_
                  apply Exists.intro
                  refine ⟨fun wx hS => ?_, fun a' ha => ?_⟩
                  · go_simp; rfl
                  simp only [Act.put, List.setIfInBounds_toArray, List.set_cons_succ, List.set_cons_zero] at ha
                  subst ha
                  refine wpSeqP_take (by kernel_rfl) (by kernel_rfl) ?_
                  apply Exists.intro
                  refine ⟨fun wx hS => ?_, fun a' ha => ?_⟩
                  · go_simp; rfl
                  simp only [Act.put, List.setIfInBounds_toArray, List.set_cons_succ, List.set_cons_zero] at ha
                  subst ha
                  refine wpSeqP_take (by kernel_rfl) (by kernel_rfl) ?_
                  apply Exists.intro
                  refine ⟨fun wx hS => ?_, fun a' ha => ?_⟩
                  · go_simp; rfl
                  simp only [Act.put, List.setIfInBounds_toArray, List.set_cons_succ, List.set_cons_zero] at ha
                  subst ha
                  refine wpSeqP_take (by kernel_rfl) (by kernel_rfl) ?_
                  apply Exists.intro
                  refine ⟨fun wx hS => ?_, fun a' ha => ?_⟩
                  · go_simp; rfl
                  simp only [Act.put, List.setIfInBounds_toArray, List.set_cons_succ, List.set_cons_zero] at ha
                  subst ha
                  refine wpSeqP_take (by kernel_rfl) (by kernel_rfl) ?_
                  apply Exists.intro
                  refine ⟨fun wx hS => ?_, fun a' ha => ?_⟩
                  · have k0 := hc4 wx hS; go_simp; rfl
                  simp only [Act.put, List.setIfInBounds_toArray, List.set_cons_succ, List.set_cons_zero] at ha
                  subst ha
                  refine wpSeqP_take (by kernel_rfl) (by kernel_rfl) ?_
                  apply Exists.intro
                  refine ⟨fun wx hS => ?_, fun a' ha => ?_⟩
                  · go_simp; rfl
                  simp only [Act.put, List.setIfInBounds_toArray, List.set_cons_succ, List.set_cons_zero] at ha
                  subst ha
                  refine wpSeqP_take (by kernel_rfl) (by kernel_rfl) ?_
                  apply Exists.intro
                  refine ⟨fun wx hS => ?_, fun a' ha => ?_⟩
                  · go_simp; rfl
                  simp only [Act.put, List.setIfInBounds_toArray, List.set_cons_succ, List.set_cons_zero] at ha
                  subst ha
                  refine wpSeqP_take (by kernel_rfl) (by kernel_rfl) ?_
                  apply Exists.intro
                  refine ⟨fun wx hS => ?_, fun a' ha => ?_⟩
                  · go_simp; rfl
                  simp only [Act.put, List.setIfInBounds_toArray, List.set_cons_succ, List.set_cons_zero] at ha
                  subst ha
                  refine wpSeqP_take (by kernel_rfl) (by kernel_rfl) ?_
                  apply Exists.intro
                  refine ⟨fun wx hS => ?_, fun a' ha => ?_⟩
                  · go_simp; rfl
                  simp only [Act.put, List.setIfInBounds_toArray, List.set_cons_succ, List.set_cons_zero] at ha
                  subst ha
                  refine wpSeqP_take (by kernel_rfl) (by kernel_rfl) ?_
                  apply Exists.intro
                  refine ⟨fun wx hS => ?_, fun a' ha => ?_⟩
                  · have k0 := hq0 wx hS; go_simp; rfl
                  simp only [Act.put, List.setIfInBounds_toArray, List.set_cons_succ, List.set_cons_zero] at ha
                  subst ha
                  refine wpSeqP_take (by kernel_rfl) (by kernel_rfl) ?_
                  apply Exists.intro
                  refine ⟨fun wx hS => ?_, fun a' ha => ?_⟩
                  · go_simp; rfl
                  simp only [Act.put, List.setIfInBounds_toArray, List.set_cons_succ, List.set_cons_zero] at ha
                  subst ha
                  refine wpSeqP_take (by kernel_rfl) (by kernel_rfl) ?_
                  apply Exists.intro
                  refine ⟨fun wx hS => ?_, fun a' ha => ?_⟩
                  · go_simp; rfl
                  simp only [Act.put, List.setIfInBounds_toArray, List.set_cons_succ, List.set_cons_zero] at ha
                  subst ha
                  refine wpSeqP_take (by kernel_rfl) (by kernel_rfl) ?_
                  apply Exists.intro
                  refine ⟨fun wx hS => ?_, fun a' ha => ?_⟩
                  · go_simp; rfl
                  simp only [Act.put, List.setIfInBounds_toArray, List.set_cons_succ, List.set_cons_zero] at ha
                  subst ha
                  refine wpSeqP_take (by kernel_rfl) (by kernel_rfl) ?_
                  apply Exists.intro
                  refine ⟨fun wx hS => ?_, fun a' ha => ?_⟩
                  · go_simp; rfl
                  simp only [Act.put, List.setIfInBounds_toArray, List.set_cons_succ, List.set_cons_zero] at ha
                  subst ha
                  unfold wpSeqP
                  go_wp2_with fail
                  go_roundw
                  case rel => exact ⟨m + 1 + 1, _, by omega, hm1, by go_num, rfl, NX.out, U5.out.drewN 1⟩
                  case measure => simp [RowKit.intOf]; omega
                · have z3 : ((e.1 : Int) == (D : Int)) = false := by simp; omega
                  rw [show nextB d e = false from by unfold nextB; rw [hD]; simp [hn]] at hnx
                  have NX := hide hnx
                  clear hnx hz hn hD
                  go_upto_region 13 with fail
                  have hc4 := fun wx (hS : Upd [] (wr.drewN 1) wx) => cellU c4 (((Upd.refl [] wr).drewN 1).trans hS) (by simp)
                  have hq0 := fun wx (hS : Upd [] (wr.drewN 1) wx) => cellU q0 (((Upd.refl [] wr).drewN 1).trans hS) (by simp)
                  have hq1 := fun wx (hS : Upd [] (wr.drewN 1) wx) => cellU q1 (((Upd.refl [] wr).drewN 1).trans hS) (by simp)
                  refine wp_region_seqP acOps13 (by kernel_rfl) [] [0, 1, 2, 3, 4, 5, 6, 7, 8, 9, 10, 11, 12, 13, 14, 15, 16, 17, 18, 19, 20, 21, 22, 23, 24, 25, 26, 27, 28, 29, 30, 31, 32, 33, 34, 35, 36] (fun wx => Upd [] (wr.drewN 1) wx) (by kernel_rfl) (by kernel_rfl) (fun _ _ d _ _ h => by cases d <;> exact h) (Upd.refl _ _) ?_
                  simp only [pickO, List.filterMap_cons, List.filterMap_nil, List.getElem?_cons_succ, List.getElem?_cons_zero]
                  refine wpSeqP_take (by kernel_rfl) (by kernel_rfl) ?_
                  apply Exists.intro
                  refine ⟨fun wx hS => ?_, fun a' ha => ?_⟩
                  · go_simp; rfl
                  simp only [Act.put, List.setIfInBounds_toArray, List.set_cons_succ, List.set_cons_zero] at ha
                  subst ha
                  refine wpSeqP_take (by kernel_rfl) (by kernel_rfl) ?_
                  apply Exists.intro
                  refine ⟨fun wx hS => ?_, fun a' ha => ?_⟩
                  · go_simp; rfl
                  simp only [Act.put, List.setIfInBounds_toArray, List.set_cons_succ, List.set_cons_zero] at ha
                  subst ha
                  refine wpSeqP_take (by kernel_rfl) (by kernel_rfl) ?_
                  apply Exists.intro
                  refine ⟨fun wx hS => ?_, fun a' ha => ?_⟩
                  · go_simp; rfl
                  simp only [Act.put, List.setIfInBounds_toArray, List.set_cons_succ, List.set_cons_zero] at ha
                  subst ha
                  refine wpSeqP_take (by kernel_rfl) (by kernel_rfl) ?_
                  apply Exists.intro
                  refine ⟨fun wx hS => ?_, fun a' ha => ?_⟩
                  · go_simp; rfl
                  simp only [Act.put, List.setIfInBounds_toArray, List.set_cons_succ, List.set_cons_zero] at ha
                  subst ha
                  refine wpSeqP_take (by kernel_rfl) (by kernel_rfl) ?_
                  apply Exists.intro
                  refine ⟨fun wx hS => ?_, fun a' ha => ?_⟩
                  · go_simp; rfl
                  simp only [Act.put, List.setIfInBounds_toArray, List.set_cons_succ, List.set_cons_zero] at ha
                  subst ha
                  refine wpSeqP_take (by kernel_rfl) (by kernel_rfl) ?_
                  apply Exists.intro
                  refine ⟨fun wx hS => ?_, fun a' ha => ?_⟩
                  · go_simp; rfl
                  simp only [Act.put, List.setIfInBounds_toArray, List.set_cons_succ, List.set_cons_zero] at ha
                  subst ha
                  refine wpSeqP_take (by kernel_rfl) (by kernel_rfl) ?_
                  apply Exists.intro
                  refine ⟨fun wx hS => ?_, fun a' ha => ?_⟩
                  · have k0 := hc4 wx hS; go_simp; rfl
                  simp only [Act.put, List.setIfInBounds_toArray, List.set_cons_succ, List.set_cons_zero] at ha
                  subst ha
                  refine wpSeqP_take (by kernel_rfl) (by kernel_rfl) ?_
                  apply Exists.intro
                  refine ⟨fun wx hS => ?_, fun a' ha => ?_⟩
                  · go_simp; rfl
                  simp only [Act.put, List.setIfInBounds_toArray, List.set_cons_succ, List.set_cons_zero] at ha
                  subst ha
                  refine wpSeqP_take (by kernel_rfl) (by kernel_rfl) ?_
                  apply Exists.intro
                  refine ⟨fun wx hS => ?_, fun a' ha => ?_⟩
                  · go_simp; rfl
                  simp only [Act.put, List.setIfInBounds_toArray, List.set_cons_succ, List.set_cons_zero] at ha
                  subst ha
                  refine wpSeqP_take (by kernel_rfl) (by kernel_rfl) ?_
                  apply Exists.intro
                  refine ⟨fun wx hS => ?_, fun a' ha => ?_⟩
                  · go_simp; rfl
                  simp only [Act.put, List.setIfInBounds_toArray, List.set_cons_succ, List.set_cons_zero] at ha
                  subst ha
                  refine wpSeqP_take (by kernel_rfl) (by kernel_rfl) ?_
                  apply Exists.intro
                  refine ⟨fun wx hS => ?_, fun a' ha => ?_⟩
                  · have k0 := hq1 wx hS; go_simp; rfl
                  simp only [Act.put, List.setIfInBounds_toArray, List.set_cons_succ, List.set_cons_zero] at ha
                  subst ha
                  refine wpSeqP_take (by kernel_rfl) (by kernel_rfl) ?_
                  apply Exists.intro
                  refine ⟨fun wx hS => ?_, fun a' ha => ?_⟩
                  · go_simp; rfl
                  simp only [Act.put, List.setIfInBounds_toArray, List.set_cons_succ, List.set_cons_zero] at ha
                  subst ha
                  refine wpSeqP_take (by kernel_rfl) (by kernel_rfl) ?_
                  apply Exists.intro
                  refine ⟨fun wx hS => ?_, fun a' ha => ?_⟩
                  · go_simp; rfl
                  simp only [Act.put, List.setIfInBounds_toArray, List.set_cons_succ, List.set_cons_zero] at ha
                  subst ha
                  refine wpSeqP_take (by kernel_rfl) (by kernel_rfl) ?_
                  apply Exists.intro
                  refine ⟨fun wx hS => ?_, fun a' ha => ?_⟩
                  · go_simp; rfl
                  simp only [Act.put, List.setIfInBounds_toArray, List.set_cons_succ, List.set_cons_zero] at ha
                  subst ha
                  refine wpSeqP_take (by kernel_rfl) (by kernel_rfl) ?_
                  apply Exists.intro
                  refine ⟨fun wx hS => ?_, fun a' ha => ?_⟩
                  · go_simp; rfl
                  simp only [Act.put, List.setIfInBounds_toArray, List.set_cons_succ, List.set_cons_zero] at ha
                  subst ha
                  refine wpSeqP_take (by kernel_rfl) (by kernel_rfl) ?_
                  apply Exists.intro
                  refine ⟨fun wx hS => ?_, fun a' ha => ?_⟩
                  · go_simp; rfl
                  simp only [Act.put, List.setIfInBounds_toArray, List.set_cons_succ, List.set_cons_zero] at ha
                  subst ha
                  refine wpSeqP_take (by kernel_rfl) (by kernel_rfl) ?_
                  apply Exists.intro
                  refine ⟨fun wx hS => ?_, fun a' ha => ?_⟩
                  · go_simp; rfl
                  simp only [Act.put, List.setIfInBounds_toArray, List.set_cons_succ, List.set_cons_zero] at ha
                  subst ha
                  refine wpSeqP_take (by kernel_rfl) (by kernel_rfl) ?_
                  apply Exists.intro
                  refine ⟨fun wx hS => ?_, fun a' ha => ?_⟩
                  · go_simp; rfl
                  simp only [Act.put, List.setIfInBounds_toArray, List.set_cons_succ, List.set_cons_zero] at ha
                  subst ha
                  refine wpSeqP_take (by kernel_rfl) (by kernel_rfl) ?_
                  apply Exists.intro
                  refine ⟨fun wx hS => ?_, fun a' ha => ?_⟩
                  · have k0 := hc4 wx hS; go_simp; rfl
                  simp only [Act.put, List.setIfInBounds_toArray, List.set_cons_succ, List.set_cons_zero] at ha
                  subst ha
                  refine wpSeqP_take (by kernel_rfl) (by kernel_rfl) ?_
                  apply Exists.intro
                  refine ⟨fun wx hS => ?_, fun a' ha => ?_⟩
                  · go_simp; rfl
                  simp only [Act.put, List.setIfInBounds_toArray, List.set_cons_succ, List.set_cons_zero] at ha
                  subst ha
                  refine wpSeqP_take (by kernel_rfl) (by kernel_rfl) ?_
                  apply Exists.intro
                  refine ⟨fun wx hS => ?_, fun a' ha => ?_⟩
                  · go_simp; rfl
                  simp only [Act.put, List.setIfInBounds_toArray, List.set_cons_succ, List.set_cons_zero] at ha
                  subst ha
                  refine wpSeqP_take (by kernel_rfl) (by kernel_rfl) ?_
                  apply Exists.intro
                  refine ⟨fun wx hS => ?_, fun a' ha => ?_⟩
                  · go_simp; rfl
                  simp only [Act.put, List.setIfInBounds_toArray, List.set_cons_succ, List.set_cons_zero] at ha
                  subst ha
                  refine wpSeqP_take (by kernel_rfl) (by kernel_rfl) ?_
                  apply Exists.intro
                  refine ⟨fun wx hS => ?_, fun a' ha => ?_⟩
                  · have k0 := hq1 wx hS; go_simp; rfl
                  simp only [Act.put, List.setIfInBounds_toArray, List.set_cons_succ, List.set_cons_zero] at ha
                  subst ha
                  refine wpSeqP_take (by kernel_rfl) (by kernel_rfl) ?_
                  apply Exists.intro
                  refine ⟨fun wx hS => ?_, fun a' ha => ?_⟩
                  · go_simp; rfl
                  simp only [Act.put, List.setIfInBounds_toArray, List.set_cons_succ, List.set_cons_zero] at ha
                  subst ha
                  refine wpSeqP_take (by kernel_rfl) (by kernel_rfl) ?_
                  apply Exists.intro
                  refine ⟨fun wx hS => ?_, fun a' ha => ?_⟩
                  · go_simp; rfl
                  simp only [Act.put, List.setIfInBounds_toArray, List.set_cons_succ, List.set_cons_zero] at ha
                  subst ha
                  refine wpSeqP_take (by kernel_rfl) (by kernel_rfl) ?_
                  apply Exists.intro
                  refine ⟨fun wx hS => ?_, fun a' ha => ?_⟩
                  · go_simp; rfl
                  simp only [Act.put, List.setIfInBounds_toArray, List.set_cons_succ, List.set_cons_zero] at ha
                  subst ha
                  refine wpSeqP_take (by kernel_rfl) (by kernel_rfl) ?_
                  apply Exists.intro
                  refine ⟨fun wx hS => ?_, fun a' ha => ?_⟩
                  · go_simp; rfl
                  simp only [Act.put, List.setIfInBounds_toArray, List.set_cons_succ, List.set_cons_zero] at ha
                  subst ha
                  refine wpSeqP_take (by kernel_rfl) (by kernel_rfl) ?_
                  apply Exists.intro
                  refine ⟨fun wx hS => ?_, fun a' ha => ?_⟩
                  · have k0 := hc4 wx hS; go_simp; rfl
                  simp only [Act.put, List.setIfInBounds_toArray, List.set_cons_succ, List.set_cons_zero] at ha
                  subst ha
                  refine wpSeqP_take (by kernel_rfl) (by kernel_rfl) ?_
                  apply Exists.intro
                  refine ⟨fun wx hS => ?_, fun a' ha => ?_⟩
                  · go_simp; rfl
                  simp only [Act.put, List.setIfInBounds_toArray, List.set_cons_succ, List.set_cons_zero] at ha
                  subst ha
                  refine wpSeqP_take (by kernel_rfl) (by kernel_rfl) ?_
                  apply Exists.intro
                  refine ⟨fun wx hS => ?_, fun a' ha => ?_⟩
                  · go_simp; rfl
                  simp only [Act.put, List.setIfInBounds_toArray, List.set_cons_succ, List.set_cons_zero] at ha
                  subst ha
                  refine wpSeqP_take (by kernel_rfl) (by kernel_rfl) ?_
                  apply Exists.intro
                  refine ⟨fun wx hS => ?_, fun a' ha => ?_⟩
                  · go_simp; rfl
                  simp only [Act.put, List.setIfInBounds_toArray, List.set_cons_succ, List.set_cons_zero] at ha
                  subst ha
                  refine wpSeqP_take (by kernel_rfl) (by kernel_rfl) ?_
                  apply Exists.intro
                  refine ⟨fun wx hS => ?_, fun a' ha => ?_⟩
                  · go_simp; rfl
                  simp only [Act.put, List.setIfInBounds_toArray, List.set_cons_succ, List.set_cons_zero] at ha
                  subst ha
                  refine wpSeqP_take (by kernel_rfl) (by kernel_rfl) ?_
                  apply Exists.intro
                  refine ⟨fun wx hS => ?_, fun a' ha => ?_⟩
                  · have k0 := hq0 wx hS; go_simp; rfl
                  simp only [Act.put, List.setIfInBounds_toArray, List.set_cons_succ, List.set_cons_zero] at ha
                  subst ha
                  refine wpSeqP_take (by kernel_rfl) (by kernel_rfl) ?_
                  apply Exists.intro
                  refine ⟨fun wx hS => ?_, fun a' ha => ?_⟩
                  · go_simp; rfl
                  simp only [Act.put, List.setIfInBounds_toArray, List.set_cons_succ, List.set_cons_zero] at ha
                  subst ha
                  refine wpSeqP_take (by kernel_rfl) (by kernel_rfl) ?_
                  apply Exists.intro
                  refine ⟨fun wx hS => ?_, fun a' ha => ?_⟩
                  · go_simp; rfl
                  simp only [Act.put, List.setIfInBounds_toArray, List.set_cons_succ, List.set_cons_zero] at ha
                  subst ha
                  refine wpSeqP_take (by kernel_rfl) (by kernel_rfl) ?_
                  apply Exists.intro
                  refine ⟨fun wx hS => ?_, fun a' ha => ?_⟩
                  · go_simp; rfl
                  simp only [Act.put, List.setIfInBounds_toArray, List.set_cons_succ, List.set_cons_zero] at ha
                  subst ha
                  refine wpSeqP_take (by kernel_rfl) (by kernel_rfl) ?_
                  apply Exists.intro
                  refine ⟨fun wx hS => ?_, fun a' ha => ?_⟩
                  · go_simp; rfl
                  simp only [Act.put, List.setIfInBounds_toArray, List.set_cons_succ, List.set_cons_zero] at ha
                  subst ha
                  unfold wpSeqP
                  go_wp2_with fail
                  go_roundw
                  case rel => exact ⟨m + 1 + 1, _, by omega, hm1, by go_num, rfl, NX.out, U5.out.drewN 1⟩
                  case measure => simp [RowKit.intOf]; omega
          · have d6 : decide ((k : Int) < t.done.length) = false := by simp; omega
            have d6' : decide (k < t.done.length) = false := by simpa using hkl
            have hre := RI.out.all (by omega)
            obtain ⟨rs, hrs⟩ : ∃ rs, risesM t.done = rs := ⟨_, rfl⟩
            rw [hrs] at hre
            subst hre
            have RS := hide hrs; have U45 := hide (U4.out.trans U5.out); have OW5 := hide (Own.upd OW.out U5.out (by simp) (fun _ _ _ h => h))
            clear hrs RI hvd U4 U5 OW
            have OW := OW5
            go_wp2_with fail
            refine (batches_any (i := i) wr (toK.row_upd_nil HT.out (U3.out.trans U45.out)) TI.out).mono ?_
            rintro e wa ⟨rfl, hua⟩
            have UA := hide (U45.out.trans hua); have WA := hide hua
            clear hua
            go_wp2_with fail
            refine (answers_any (i := i) wa (toK.row_upd_nil HT.out (U3.out.trans UA.out)) TI.out).mono ?_
            rintro e wb ⟨rfl, hub⟩
            have UB := hide (UA.out.trans hub); have WB := hide (WA.out.trans hub)
            clear hub
            go_wp2_with fail
            refine (strangers_any (i := i) wb (HE.out.upd_nil (U3.out.trans UB.out)).cnt (enK.row_upd_nil HL.out (U3.out.trans UB.out)) (toK.row_upd_nil HT.out (U3.out.trans UB.out)) TI.out (fun d hd => by have := TB.out.2.2 d hd; omega)).mono ?_
            rintro e wc ⟨rfl, huc⟩
            have UC := hide (UB.out.trans huc); have WC := hide (WB.out.trans huc)
            clear huc
            go_wp2_with fail
            refine (folds_any (i := i) (U := fun k => k < w2.heap.size) wc (HE.out.upd_nil (U3.out.trans UC.out)) (slK.row_upd_nil SR.out (U23.out.trans UC.out)) (fun g hg => Nat.lt_of_lt_of_le hg (U23.out.trans UC.out).size) LC.out ND.out (toK.row_upd_nil HT.out (U3.out.trans UC.out)) TI.out).mono ?_
            rw [HWM.out]
            rintro e wd ⟨rfl, hud⟩
            have UD := hide (UC.out.trans hud); have UW := hide (WC.out.trans hud)
            clear hud
            go_wp2_with fail
            refine (lates_any (i := i) wd (cmK.row_upd_nil CR.out UD.out) (enK.row_upd_nil HL.out (U3.out.trans UD.out)) (toK.row_upd_nil HT.out (U3.out.trans UD.out)) TI.out).mono ?_
            rintro e we ⟨rfl, hue⟩
            have UE := hide (UD.out.trans hue)
            have OWE := hide (Own.upd OW.out (UW.out.trans hue) (by simp) (fun _ _ _ h => h))
            clear hue
            obtain ⟨v1, h1⟩ : ∃ v1, b1 told i t = v1 := ⟨_, rfl⟩
            obtain ⟨v2, h2⟩ : ∃ v2, b2 told i t = v2 := ⟨_, rfl⟩
            obtain ⟨v3, h3'⟩ : ∃ v3, b3 l told i t = v3 := ⟨_, rfl⟩
            obtain ⟨v4, h4'⟩ : ∃ v4, (!bo) = v4 := ⟨_, rfl⟩
            obtain ⟨v5, h5⟩ : ∃ v5, b5 WM told i t = v5 := ⟨_, rfl⟩
            obtain ⟨v6, h6⟩ : ∃ v6, b6 CS l told i t = v6 := ⟨_, rfl⟩
            obtain ⟨bits, hbits⟩ : ∃ bits, bitsM CS WM l told i t = bits := ⟨_, rfl⟩
            have hbl : bits = [v1, v2, v3, v4, v5, v6] := by rw [← hbits, ← h1, ← h2, ← h3', ← h4', ← h5, ← h6, ← RS.out]; rfl
            rw [h1, h2, h3', h5, h6]
            have H4 := hide h4'
            have BITS := hide hbl; have HBITS := hide hbits
            clear h1 h2 h3' h5 h6 hbl hbits UA UB UC UD U45 OW5 RS
            go_upto_region 15 with fail
            clear H4
            have hB := blk_new we (.cells #[.bool v1, .bool v2, .bool v3, .bool v4, .bool v5, .bool v6] 4)
            have hal := (Upd.refl [] we).alloc (.cells #[.bool v1, .bool v2, .bool v3, .bool v4, .bool v5, .bool v6] 4)
            change Code.wp _ _ _ _ (we.alloc (.cells #[.bool v1, .bool v2, .bool v3, .bool v4, .bool v5, .bool v6] 4))
            generalize we.alloc (.cells #[.bool v1, .bool v2, .bool v3, .bool v4, .bool v5, .bool v6] 4) = wf at *
            obtain ⟨Bi, hBi⟩ : ∃ Bi, we.heap.size = Bi := ⟨_, rfl⟩
            have hol2 := Own.lt OWE.out
            rw [hBi] at hB hol2 ⊢
            have AF0 := hide hB; have OWF := hide (Own.upd OWE.out hal (by simp) (fun _ _ _ h => h)); have UF := hide (UE.out.trans hal)
            have NF0 := hide (show u7.ownBlock ≠ some Bi from fun h => by have := (hol2 _ h).2; omega)
            clear hB hal hBi hol2 OWE UE
            go_wp2_with fail
            go_loopw [7, 12] (fun so sk wq => ∃ q : Nat, q ≤ 6 ∧ sk = .int .i64 q ∧ Own wq w3.heap.size TFn 2 fnP so (auditM out l told i ++ foundK bits i q) ∧ Upd [] w3 wq ∧ wq.heap[Bi]? = some (.cells #[.bool v1, .bool v2, .bool v3, .bool v4, .bool v5, .bool v6] 4 (0, 0)) ∧ so.ownBlock ≠ some Bi) (fun _ sk _ => 6 - (RowKit.intOf sk).toNat)
            case atStart => exact ⟨0, by omega, rfl, by rw [show foundK bits i 0 = [] from rfl, List.append_nil]; exact OWF.out, UF.out, AF0.out, NF0.out⟩
            case round =>
              obtain ⟨q, hq, rfl, hoq, huq, haf, hnf⟩ := hrel
              have OQ := hide hoq; have UQ := hide huq; have AF := hide haf; have NF := hide hnf
              clear hoq huq haf hnf AF0 OWF UF NF0
              obtain rfl | rfl | rfl | rfl | rfl | rfl | rfl : q = 0 ∨ q = 1 ∨ q = 2 ∨ q = 3 ∨ q = 4 ∨ q = 5 ∨ q = 6 := by omega
              · have c0 : wr.cell? ⟨Bi, 0, none⟩ = some (.bool v1) := blk_cell AF.out rfl
                have HBIT : Hid (bits[0]? = some v1) := hide (by rw [BITS.out]; rfl)
                cases v1 with
                | false =>
                  have hfn := found_next (i := i) HBIT.out
                  rw [if_neg (by simp), List.append_nil] at hfn
                  have HFN := hide hfn
                  clear hfn
                  go_wp2_with fail
                  go_roundw
                  case rel => exact ⟨1, by omega, by go_num, by rw [HFN.out]; exact OQ.out, UQ.out, AF.out, NF.out⟩
                  case measure => simp [RowKit.intOf]
                | true =>
                  have hfn := found_next (i := i) HBIT.out
                  rw [if_pos rfl] at hfn
                  have HFN := hide hfn
                  have hfl := found_len (told := told) (log := out) (l := l) (bits := bits) (n := i) (k := 0) (by omega) (by omega)
                  obtain ⟨xf, cf, rfl, hcf, hcfm⟩ := Row.slice (Own.row OQ.out)
                  have hone := OQ.out
                  have hol := Own.lt OQ.out
                  have nf := NF.out
                  obtain ⟨FF, hFF⟩ : ∃ FF, auditM out l told i ++ foundK bits i 0 = FF := ⟨_, rfl⟩
                  rw [hFF] at hcf hfl hone hol nf ⊢
                  obtain ⟨css, q1, q2, q3⟩ := hone
                  have Q1 := hide q1; have Q2 := hide q2; have Q3 := hide q3
                  clear q1 q2 q3 hfn
                  have hz3 := UQ.out.size
                  go_wp2_with (at_builtin; go_must (refine wpList_append_src _ rfl _ _ 44 rfl w3.heap.size TFn i3 (.agg #[.int .i64 0, .int .u8 0]) 2 16 Tryz.underlying44 hi3 kz0 kz1 kz2 rfl (by decide) (.slice xf FF.length cf) FF.length css.flatten rfl (owns_upd Q3.out ((Upd.refl [] wr).alloc _) (by simp)) (some ⟨wr.heap.size, 0, none⟩) 1 1 [.int .i64 (i : Int), .int .u8 1] rfl (fn_src (blk_new _ _)) (by unfold maxLen; omega) (by omega) (by simp; omega) ?_))
                  intro ao6 cap6 w6 hown6 hU6 hn6
                  have hgr := grown_upd hU6
                  have hw6 : Own w6 w3.heap.size TFn 2 fnP (.slice ao6 (FF.length + 1) cap6) (FF ++ [(i, 1)]) :=
                    Own.more Q1.out Q2.out rfl rfl (by intro u hu; simp only [List.mem_cons, List.not_mem_nil, or_false] at hu; rcases hu with rfl | rfl <;> rfl) rfl hown6
                  have hfn : FF ++ [(i, 1)] = auditM out l told i ++ foundK bits i 1 := by rw [HFN.out, ← List.append_assoc, hFF]
                  rw [hfn] at hw6
                  have hn7 : ∀ g, (Value.slice ao6 (FF.length + 1) cap6).ownBlock = some g → (Value.slice xf FF.length cf).ownBlock = some g ∨ wr.heap.size ≤ g := fun g hg => (hn6 g hg).imp id fun h => by omega
                  have hBn := blk_lt AF.out
                  have OW6 := hide hw6; have UQ6 := hide (UQ.out.trans_new hgr (fun k hk => .inr (hol k (by simpa using hk)).1)); have AN6 := hide (hgr.get AF.out (fun hm => nf (by simpa using hm)))
                  have NF6 := hide (show (Value.slice ao6 (FF.length + 1) cap6).ownBlock ≠ some Bi from fun h => by
                    rcases hn7 _ h with h1 | h1
                    · exact nf h1
                    · omega)
                  clear hown6 hU6 hn6 hgr hw6 hol nf hn7 Q1 Q2 Q3 OQ UQ AF NF hfn
                  go_wp2_with fail
                  go_roundw
                  case rel => exact ⟨1, by omega, by go_num, OW6.out, UQ6.out, AN6.out, NF6.out⟩
                  case measure => simp [RowKit.intOf]
              · have c0 : wr.cell? ⟨Bi, 1, none⟩ = some (.bool v2) := blk_cell AF.out rfl
                have HBIT : Hid (bits[1]? = some v2) := hide (by rw [BITS.out]; rfl)
                cases v2 with
                | false =>
                  have hfn := found_next (i := i) HBIT.out
                  rw [if_neg (by simp), List.append_nil] at hfn
                  have HFN := hide hfn
                  clear hfn
                  go_wp2_with fail
                  go_roundw
                  case rel => exact ⟨2, by omega, by go_num, by rw [HFN.out]; exact OQ.out, UQ.out, AF.out, NF.out⟩
                  case measure => simp [RowKit.intOf]
                | true =>
                  have hfn := found_next (i := i) HBIT.out
                  rw [if_pos rfl] at hfn
                  have HFN := hide hfn
                  have hfl := found_len (told := told) (log := out) (l := l) (bits := bits) (n := i) (k := 1) (by omega) (by omega)
                  obtain ⟨xf, cf, rfl, hcf, hcfm⟩ := Row.slice (Own.row OQ.out)
                  have hone := OQ.out
                  have hol := Own.lt OQ.out
                  have nf := NF.out
                  obtain ⟨FF, hFF⟩ : ∃ FF, auditM out l told i ++ foundK bits i 1 = FF := ⟨_, rfl⟩
                  rw [hFF] at hcf hfl hone hol nf ⊢
                  obtain ⟨css, q1, q2, q3⟩ := hone
                  have Q1 := hide q1; have Q2 := hide q2; have Q3 := hide q3
                  clear q1 q2 q3 hfn
                  have hz3 := UQ.out.size
                  go_wp2_with (at_builtin; go_must (refine wpList_append_src _ rfl _ _ 44 rfl w3.heap.size TFn i3 (.agg #[.int .i64 0, .int .u8 0]) 2 16 Tryz.underlying44 hi3 kz0 kz1 kz2 rfl (by decide) (.slice xf FF.length cf) FF.length css.flatten rfl (owns_upd Q3.out ((Upd.refl [] wr).alloc _) (by simp)) (some ⟨wr.heap.size, 0, none⟩) 1 1 [.int .i64 (i : Int), .int .u8 2] rfl (fn_src (blk_new _ _)) (by unfold maxLen; omega) (by omega) (by simp; omega) ?_))
                  intro ao6 cap6 w6 hown6 hU6 hn6
                  have hgr := grown_upd hU6
                  have hw6 : Own w6 w3.heap.size TFn 2 fnP (.slice ao6 (FF.length + 1) cap6) (FF ++ [(i, 2)]) :=
                    Own.more Q1.out Q2.out rfl rfl (by intro u hu; simp only [List.mem_cons, List.not_mem_nil, or_false] at hu; rcases hu with rfl | rfl <;> rfl) rfl hown6
                  have hfn : FF ++ [(i, 2)] = auditM out l told i ++ foundK bits i 2 := by rw [HFN.out, ← List.append_assoc, hFF]
                  rw [hfn] at hw6
                  have hn7 : ∀ g, (Value.slice ao6 (FF.length + 1) cap6).ownBlock = some g → (Value.slice xf FF.length cf).ownBlock = some g ∨ wr.heap.size ≤ g := fun g hg => (hn6 g hg).imp id fun h => by omega
                  have hBn := blk_lt AF.out
                  have OW6 := hide hw6; have UQ6 := hide (UQ.out.trans_new hgr (fun k hk => .inr (hol k (by simpa using hk)).1)); have AN6 := hide (hgr.get AF.out (fun hm => nf (by simpa using hm)))
                  have NF6 := hide (show (Value.slice ao6 (FF.length + 1) cap6).ownBlock ≠ some Bi from fun h => by
                    rcases hn7 _ h with h1 | h1
                    · exact nf h1
                    · omega)
                  clear hown6 hU6 hn6 hgr hw6 hol nf hn7 Q1 Q2 Q3 OQ UQ AF NF hfn
                  go_wp2_with fail
                  go_roundw
                  case rel => exact ⟨2, by omega, by go_num, OW6.out, UQ6.out, AN6.out, NF6.out⟩
                  case measure => simp [RowKit.intOf]
              · have c0 : wr.cell? ⟨Bi, 2, none⟩ = some (.bool v3) := blk_cell AF.out rfl
                have HBIT : Hid (bits[2]? = some v3) := hide (by rw [BITS.out]; rfl)
                cases v3 with
                | false =>
                  have hfn := found_next (i := i) HBIT.out
                  rw [if_neg (by simp), List.append_nil] at hfn
                  have HFN := hide hfn
                  clear hfn
                  go_wp2_with fail
                  go_roundw
                  case rel => exact ⟨3, by omega, by go_num, by rw [HFN.out]; exact OQ.out, UQ.out, AF.out, NF.out⟩
                  case measure => simp [RowKit.intOf]
                | true =>
                  have hfn := found_next (i := i) HBIT.out
                  rw [if_pos rfl] at hfn
                  have HFN := hide hfn
                  have hfl := found_len (told := told) (log := out) (l := l) (bits := bits) (n := i) (k := 2) (by omega) (by omega)
                  obtain ⟨xf, cf, rfl, hcf, hcfm⟩ := Row.slice (Own.row OQ.out)
                  have hone := OQ.out
                  have hol := Own.lt OQ.out
                  have nf := NF.out
                  obtain ⟨FF, hFF⟩ : ∃ FF, auditM out l told i ++ foundK bits i 2 = FF := ⟨_, rfl⟩
                  rw [hFF] at hcf hfl hone hol nf ⊢
                  obtain ⟨css, q1, q2, q3⟩ := hone
                  have Q1 := hide q1; have Q2 := hide q2; have Q3 := hide q3
                  clear q1 q2 q3 hfn
                  have hz3 := UQ.out.size
                  go_wp2_with (at_builtin; go_must (refine wpList_append_src _ rfl _ _ 44 rfl w3.heap.size TFn i3 (.agg #[.int .i64 0, .int .u8 0]) 2 16 Tryz.underlying44 hi3 kz0 kz1 kz2 rfl (by decide) (.slice xf FF.length cf) FF.length css.flatten rfl (owns_upd Q3.out ((Upd.refl [] wr).alloc _) (by simp)) (some ⟨wr.heap.size, 0, none⟩) 1 1 [.int .i64 (i : Int), .int .u8 3] rfl (fn_src (blk_new _ _)) (by unfold maxLen; omega) (by omega) (by simp; omega) ?_))
                  intro ao6 cap6 w6 hown6 hU6 hn6
                  have hgr := grown_upd hU6
                  have hw6 : Own w6 w3.heap.size TFn 2 fnP (.slice ao6 (FF.length + 1) cap6) (FF ++ [(i, 3)]) :=
                    Own.more Q1.out Q2.out rfl rfl (by intro u hu; simp only [List.mem_cons, List.not_mem_nil, or_false] at hu; rcases hu with rfl | rfl <;> rfl) rfl hown6
                  have hfn : FF ++ [(i, 3)] = auditM out l told i ++ foundK bits i 3 := by rw [HFN.out, ← List.append_assoc, hFF]
                  rw [hfn] at hw6
                  have hn7 : ∀ g, (Value.slice ao6 (FF.length + 1) cap6).ownBlock = some g → (Value.slice xf FF.length cf).ownBlock = some g ∨ wr.heap.size ≤ g := fun g hg => (hn6 g hg).imp id fun h => by omega
                  have hBn := blk_lt AF.out
                  have OW6 := hide hw6; have UQ6 := hide (UQ.out.trans_new hgr (fun k hk => .inr (hol k (by simpa using hk)).1)); have AN6 := hide (hgr.get AF.out (fun hm => nf (by simpa using hm)))
                  have NF6 := hide (show (Value.slice ao6 (FF.length + 1) cap6).ownBlock ≠ some Bi from fun h => by
                    rcases hn7 _ h with h1 | h1
                    · exact nf h1
                    · omega)
                  clear hown6 hU6 hn6 hgr hw6 hol nf hn7 Q1 Q2 Q3 OQ UQ AF NF hfn
                  go_wp2_with fail
                  go_roundw
                  case rel => exact ⟨3, by omega, by go_num, OW6.out, UQ6.out, AN6.out, NF6.out⟩
                  case measure => simp [RowKit.intOf]
              · have c0 : wr.cell? ⟨Bi, 3, none⟩ = some (.bool v4) := blk_cell AF.out rfl
                have HBIT : Hid (bits[3]? = some v4) := hide (by rw [BITS.out]; rfl)
                cases v4 with
                | false =>
                  have hfn := found_next (i := i) HBIT.out
                  rw [if_neg (by simp), List.append_nil] at hfn
                  have HFN := hide hfn
                  clear hfn
                  go_wp2_with fail
                  go_roundw
                  case rel => exact ⟨4, by omega, by go_num, by rw [HFN.out]; exact OQ.out, UQ.out, AF.out, NF.out⟩
                  case measure => simp [RowKit.intOf]
                | true =>
                  have hfn := found_next (i := i) HBIT.out
                  rw [if_pos rfl] at hfn
                  have HFN := hide hfn
                  have hfl := found_len (told := told) (log := out) (l := l) (bits := bits) (n := i) (k := 3) (by omega) (by omega)
                  obtain ⟨xf, cf, rfl, hcf, hcfm⟩ := Row.slice (Own.row OQ.out)
                  have hone := OQ.out
                  have hol := Own.lt OQ.out
                  have nf := NF.out
                  obtain ⟨FF, hFF⟩ : ∃ FF, auditM out l told i ++ foundK bits i 3 = FF := ⟨_, rfl⟩
                  rw [hFF] at hcf hfl hone hol nf ⊢
                  obtain ⟨css, q1, q2, q3⟩ := hone
                  have Q1 := hide q1; have Q2 := hide q2; have Q3 := hide q3
                  clear q1 q2 q3 hfn
                  have hz3 := UQ.out.size
                  go_wp2_with (at_builtin; go_must (refine wpList_append_src _ rfl _ _ 44 rfl w3.heap.size TFn i3 (.agg #[.int .i64 0, .int .u8 0]) 2 16 Tryz.underlying44 hi3 kz0 kz1 kz2 rfl (by decide) (.slice xf FF.length cf) FF.length css.flatten rfl (owns_upd Q3.out ((Upd.refl [] wr).alloc _) (by simp)) (some ⟨wr.heap.size, 0, none⟩) 1 1 [.int .i64 (i : Int), .int .u8 4] rfl (fn_src (blk_new _ _)) (by unfold maxLen; omega) (by omega) (by simp; omega) ?_))
                  intro ao6 cap6 w6 hown6 hU6 hn6
                  have hgr := grown_upd hU6
                  have hw6 : Own w6 w3.heap.size TFn 2 fnP (.slice ao6 (FF.length + 1) cap6) (FF ++ [(i, 4)]) :=
                    Own.more Q1.out Q2.out rfl rfl (by intro u hu; simp only [List.mem_cons, List.not_mem_nil, or_false] at hu; rcases hu with rfl | rfl <;> rfl) rfl hown6
                  have hfn : FF ++ [(i, 4)] = auditM out l told i ++ foundK bits i 4 := by rw [HFN.out, ← List.append_assoc, hFF]
                  rw [hfn] at hw6
                  have hn7 : ∀ g, (Value.slice ao6 (FF.length + 1) cap6).ownBlock = some g → (Value.slice xf FF.length cf).ownBlock = some g ∨ wr.heap.size ≤ g := fun g hg => (hn6 g hg).imp id fun h => by omega
                  have hBn := blk_lt AF.out
                  have OW6 := hide hw6; have UQ6 := hide (UQ.out.trans_new hgr (fun k hk => .inr (hol k (by simpa using hk)).1)); have AN6 := hide (hgr.get AF.out (fun hm => nf (by simpa using hm)))
                  have NF6 := hide (show (Value.slice ao6 (FF.length + 1) cap6).ownBlock ≠ some Bi from fun h => by
                    rcases hn7 _ h with h1 | h1
                    · exact nf h1
                    · omega)
                  clear hown6 hU6 hn6 hgr hw6 hol nf hn7 Q1 Q2 Q3 OQ UQ AF NF hfn
                  go_wp2_with fail
                  go_roundw
                  case rel => exact ⟨4, by omega, by go_num, OW6.out, UQ6.out, AN6.out, NF6.out⟩
                  case measure => simp [RowKit.intOf]
              · have c0 : wr.cell? ⟨Bi, 4, none⟩ = some (.bool v5) := blk_cell AF.out rfl
                have HBIT : Hid (bits[4]? = some v5) := hide (by rw [BITS.out]; rfl)
                cases v5 with
                | false =>
                  have hfn := found_next (i := i) HBIT.out
                  rw [if_neg (by simp), List.append_nil] at hfn
                  have HFN := hide hfn
                  clear hfn
                  go_wp2_with fail
                  go_roundw
                  case rel => exact ⟨5, by omega, by go_num, by rw [HFN.out]; exact OQ.out, UQ.out, AF.out, NF.out⟩
                  case measure => simp [RowKit.intOf]
                | true =>
                  have hfn := found_next (i := i) HBIT.out
                  rw [if_pos rfl] at hfn
                  have HFN := hide hfn
                  have hfl := found_len (told := told) (log := out) (l := l) (bits := bits) (n := i) (k := 4) (by omega) (by omega)
                  obtain ⟨xf, cf, rfl, hcf, hcfm⟩ := Row.slice (Own.row OQ.out)
                  have hone := OQ.out
                  have hol := Own.lt OQ.out
                  have nf := NF.out
                  obtain ⟨FF, hFF⟩ : ∃ FF, auditM out l told i ++ foundK bits i 4 = FF := ⟨_, rfl⟩
                  rw [hFF] at hcf hfl hone hol nf ⊢
                  obtain ⟨css, q1, q2, q3⟩ := hone
                  have Q1 := hide q1; have Q2 := hide q2; have Q3 := hide q3
                  clear q1 q2 q3 hfn
                  have hz3 := UQ.out.size
                  go_wp2_with (at_builtin; go_must (refine wpList_append_src _ rfl _ _ 44 rfl w3.heap.size TFn i3 (.agg #[.int .i64 0, .int .u8 0]) 2 16 Tryz.underlying44 hi3 kz0 kz1 kz2 rfl (by decide) (.slice xf FF.length cf) FF.length css.flatten rfl (owns_upd Q3.out ((Upd.refl [] wr).alloc _) (by simp)) (some ⟨wr.heap.size, 0, none⟩) 1 1 [.int .i64 (i : Int), .int .u8 5] rfl (fn_src (blk_new _ _)) (by unfold maxLen; omega) (by omega) (by simp; omega) ?_))
                  intro ao6 cap6 w6 hown6 hU6 hn6
                  have hgr := grown_upd hU6
                  have hw6 : Own w6 w3.heap.size TFn 2 fnP (.slice ao6 (FF.length + 1) cap6) (FF ++ [(i, 5)]) :=
                    Own.more Q1.out Q2.out rfl rfl (by intro u hu; simp only [List.mem_cons, List.not_mem_nil, or_false] at hu; rcases hu with rfl | rfl <;> rfl) rfl hown6
                  have hfn : FF ++ [(i, 5)] = auditM out l told i ++ foundK bits i 5 := by rw [HFN.out, ← List.append_assoc, hFF]
                  rw [hfn] at hw6
                  have hn7 : ∀ g, (Value.slice ao6 (FF.length + 1) cap6).ownBlock = some g → (Value.slice xf FF.length cf).ownBlock = some g ∨ wr.heap.size ≤ g := fun g hg => (hn6 g hg).imp id fun h => by omega
                  have hBn := blk_lt AF.out
                  have OW6 := hide hw6; have UQ6 := hide (UQ.out.trans_new hgr (fun k hk => .inr (hol k (by simpa using hk)).1)); have AN6 := hide (hgr.get AF.out (fun hm => nf (by simpa using hm)))
                  have NF6 := hide (show (Value.slice ao6 (FF.length + 1) cap6).ownBlock ≠ some Bi from fun h => by
                    rcases hn7 _ h with h1 | h1
                    · exact nf h1
                    · omega)
                  clear hown6 hU6 hn6 hgr hw6 hol nf hn7 Q1 Q2 Q3 OQ UQ AF NF hfn
                  go_wp2_with fail
                  go_roundw
                  case rel => exact ⟨5, by omega, by go_num, OW6.out, UQ6.out, AN6.out, NF6.out⟩
                  case measure => simp [RowKit.intOf]
              · have c0 : wr.cell? ⟨Bi, 5, none⟩ = some (.bool v6) := blk_cell AF.out rfl
                have HBIT : Hid (bits[5]? = some v6) := hide (by rw [BITS.out]; rfl)
                cases v6 with
                | false =>
                  have hfn := found_next (i := i) HBIT.out
                  rw [if_neg (by simp), List.append_nil] at hfn
                  have HFN := hide hfn
                  clear hfn
                  go_wp2_with fail
                  go_roundw
                  case rel => exact ⟨6, by omega, by go_num, by rw [HFN.out]; exact OQ.out, UQ.out, AF.out, NF.out⟩
                  case measure => simp [RowKit.intOf]
                | true =>
                  have hfn := found_next (i := i) HBIT.out
                  rw [if_pos rfl] at hfn
                  have HFN := hide hfn
                  have hfl := found_len (told := told) (log := out) (l := l) (bits := bits) (n := i) (k := 5) (by omega) (by omega)
                  obtain ⟨xf, cf, rfl, hcf, hcfm⟩ := Row.slice (Own.row OQ.out)
                  have hone := OQ.out
                  have hol := Own.lt OQ.out
                  have nf := NF.out
                  obtain ⟨FF, hFF⟩ : ∃ FF, auditM out l told i ++ foundK bits i 5 = FF := ⟨_, rfl⟩
                  rw [hFF] at hcf hfl hone hol nf ⊢
                  obtain ⟨css, q1, q2, q3⟩ := hone
                  have Q1 := hide q1; have Q2 := hide q2; have Q3 := hide q3
                  clear q1 q2 q3 hfn
                  have hz3 := UQ.out.size
                  go_wp2_with (at_builtin; go_must (refine wpList_append_src _ rfl _ _ 44 rfl w3.heap.size TFn i3 (.agg #[.int .i64 0, .int .u8 0]) 2 16 Tryz.underlying44 hi3 kz0 kz1 kz2 rfl (by decide) (.slice xf FF.length cf) FF.length css.flatten rfl (owns_upd Q3.out ((Upd.refl [] wr).alloc _) (by simp)) (some ⟨wr.heap.size, 0, none⟩) 1 1 [.int .i64 (i : Int), .int .u8 6] rfl (fn_src (blk_new _ _)) (by unfold maxLen; omega) (by omega) (by simp; omega) ?_))
                  intro ao6 cap6 w6 hown6 hU6 hn6
                  have hgr := grown_upd hU6
                  have hw6 : Own w6 w3.heap.size TFn 2 fnP (.slice ao6 (FF.length + 1) cap6) (FF ++ [(i, 6)]) :=
                    Own.more Q1.out Q2.out rfl rfl (by intro u hu; simp only [List.mem_cons, List.not_mem_nil, or_false] at hu; rcases hu with rfl | rfl <;> rfl) rfl hown6
                  have hfn : FF ++ [(i, 6)] = auditM out l told i ++ foundK bits i 6 := by rw [HFN.out, ← List.append_assoc, hFF]
                  rw [hfn] at hw6
                  have hn7 : ∀ g, (Value.slice ao6 (FF.length + 1) cap6).ownBlock = some g → (Value.slice xf FF.length cf).ownBlock = some g ∨ wr.heap.size ≤ g := fun g hg => (hn6 g hg).imp id fun h => by omega
                  have hBn := blk_lt AF.out
                  have OW6 := hide hw6; have UQ6 := hide (UQ.out.trans_new hgr (fun k hk => .inr (hol k (by simpa using hk)).1)); have AN6 := hide (hgr.get AF.out (fun hm => nf (by simpa using hm)))
                  have NF6 := hide (show (Value.slice ao6 (FF.length + 1) cap6).ownBlock ≠ some Bi from fun h => by
                    rcases hn7 _ h with h1 | h1
                    · exact nf h1
                    · omega)
                  clear hown6 hU6 hn6 hgr hw6 hol nf hn7 Q1 Q2 Q3 OQ UQ AF NF hfn
                  go_wp2_with fail
                  go_roundw
                  case rel => exact ⟨6, by omega, by go_num, OW6.out, UQ6.out, AN6.out, NF6.out⟩
                  case measure => simp [RowKit.intOf]
              · go_wp2_with fail
                go_roundw
                case rel =>
                  refine ⟨i + 1, by omega, by go_num, ?_, UQ.out⟩
                  have hn := audit_next (log := out) (l := l) TI.out
                  rw [HCS.out, HWM.out, HBITS.out] at hn
                  rw [hn]
                  exact OQ.out
                case measure => simp [RowKit.intOf]; omega
      · have d5 : decide ((i : Int) < told.length) = false := by simp; omega
        have d5' : decide (i < told.length) = false := by simpa using hil
        have hie : i = told.length := by omega
        have how := OW.out
        rw [hie] at how
        have OWZ := hide how
        clear how hie OW
        go_wp2_with fail
        refine (check_any' (T := fun k => k < w.heap.size) wr (HE.out.upd_nil (U3.out.trans U4.out)) (enK.row_upd_nil HL.out (U3.out.trans U4.out)) (toK.row_upd_nil HT.out (U3.out.trans U4.out)) (fun k hk => Nat.lt_of_lt_of_le hk (U3.out.trans U4.out).size) (fun t ht => SM.out.2 t ht) h40).mono ?_
        rintro e wa ⟨⟨out', gv, rfl, hlog, hgr⟩, hua⟩
        rw [LogIs.unique hlog LOG.out] at hgr
        obtain ⟨F, hF⟩ : ∃ F, auditM out l told told.length = F := ⟨_, rfl⟩
        have how := OWZ.out
        rw [hF] at hgr how
        obtain ⟨xg, cg, rfl, hcg, hcgm, hgg⟩ := fn_at (show Row wa (since wr.heap.size wa) 2 fnP gv F from hgr)
        obtain ⟨xw, cw, rfl, hcw, hcwm, hgw⟩ := fn_at (Own.row (Own.upd how hua (by simp) (fun _ _ _ h => h)))
        have UA := hide (U3.out.trans (U4.out.trans hua)); have GG := hide hgg; have GW := hide hgw
        simp only [maxLen] at hcgm hcwm
        clear hlog hgr how hF hgg hgw hua OWZ
        go_wp2_with fail
        go_loopw [14] (fun sj wq => ∃ j : Nat, j ≤ F.length ∧ sj = .int .i64 j ∧ Upd [] wa wq) (fun sj _ => F.length - (RowKit.intOf sj).toNat)
        case atStart => exact ⟨0, by omega, rfl, Upd.refl _ _⟩
        case round =>
          obtain ⟨j, hj, rfl, huj⟩ := hrel
          have UJ := hide huj
          clear huj
          by_cases hjl : j < F.length
          · have d6 : decide ((j : Int) < F.length) = true := by simp; omega
            have d6' : decide (j < F.length) = true := by simpa using hjl
            obtain ⟨f, hf⟩ : ∃ f, F[j]? = some f := ⟨_, List.getElem?_eq_getElem hjl⟩
            obtain ⟨b1, o1, rfl, z0', z1'⟩ := GG.out j f hf
            obtain ⟨b2, o2, rfl, z2', z3'⟩ := GW.out j f hf
            have z0 := cellU z0' UJ.out (by simp)
            have z1 := cellU z1' UJ.out (by simp)
            have z2 := cellU z2' UJ.out (by simp)
            have z3 := cellU z3' UJ.out (by simp)
            clear hf z0' z1' z2' z3'
            go_wp2_with fail
            go_quiet (fail)
            go_wp2_with fail
            go_roundw
            case rel => exact ⟨j + 1, by omega, by go_num, UJ.out.drewN _⟩
            case measure => simp [RowKit.intOf]; omega
          · have d6 : decide ((j : Int) < F.length) = false := by simp; omega
            have d6' : decide (j < F.length) = false := by simpa using hjl
            go_wp2_with fail
            refine (WK.out wr (HE.out.upd_nil (UA.out.trans UJ.out))).mono ?_
            rintro e wz ⟨rfl, huz⟩
            have UZ := hide ((UA.out.trans UJ.out).trans huz)
            clear huz
            go_wp2_with fail
            go_ret
            exact ⟨rfl, UZ.out⟩
end Go.Proofs.YtfmaflaoplkdbaaGreatDoor.Au
