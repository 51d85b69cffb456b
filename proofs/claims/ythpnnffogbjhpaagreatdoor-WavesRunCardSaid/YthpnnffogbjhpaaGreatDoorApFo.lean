/- app.Fold. -/
import Derived.Test.YthpnnffogbjhpaaGreatDoorKvTU
import Derived.Test.YthpnnffogbjhpaaGreatDoorKvR
import Derived.Test.YthpnnffogbjhpaaGreatDoorKvPure
set_option linter.unusedSimpArgs false
set_option linter.unusedVariables false
set_option linter.unnecessarySimpa false
namespace Go.Proofs.YthpnnffogbjhpaaGreatDoor.Kv
set_option linter.unusedSimpArgs false
set_option linter.unusedVariables false
set_option linter.unnecessarySimpa false
open Go.RowKit Go.Lib Go.Proofs.YthpnnffogbjhpaaGreatDoor.Crc Go.Proofs.YthpnnffogbjhpaaGreatDoor.Cm

set_option maxRecDepth 100000 in
set_option maxHeartbeats 2000000 in
theorem fold2_any {T : Nat → Prop} {v : Value} {c : Cm} {lo hi p A i : Nat} {a : Ap} (w : World) (he : EnvAt w) (h : ApIs w lo hi p a) (hh : hi ≤ w.heap.size) (hA : w.heap[A]? = some (.cells #[.pointer (some ⟨p, 0, none⟩)] 24 (0, 0))) (ho : ApOk a i) (hi4 : i ≤ 10000) (hc : CmAt w T v c) :
    Calls Tryz.prog 54 #[v, .pointer (some ⟨A, 0, none⟩)] w fun e w' => (∃ u, e = .returned u) ∧ ApIs w' lo hi p (apDo a c).1 ∧ Turned lo hi w w' := by
  obtain ⟨fit, ks, rfl, hks⟩ := hc
  obtain ⟨xo, cp, rfl, h1, h2, hget⟩ := hks.get
  have KS := hide hks; have FIT := hide fit; have AW := hide h; have HE := hide he; have HO := hide ho
  obtain ⟨r, hr⟩ : ∃ r, apDo a c = r := ⟨_, rfl⟩
  rw [hr]
  have HR := hide hr
  clear hget hks fit h he ho hr
  unfold cmv
  simp only [strV]
  go_enter Tryz.func54, Tryz.ntmps54
  go_upto_region 1 with fail
  have hB := blk_new w (.cells (cmc c (.slice xo c.keys.length cp)).toArray TCmd)
  have hu := (Upd.refl [] w).alloc (.cells (cmc c (.slice xo c.keys.length cp)).toArray TCmd)
  change Code.wp _ _ _ _ (w.alloc (.cells (cmc c (.slice xo c.keys.length cp)).toArray TCmd))
  generalize w.alloc (.cells (cmc c (.slice xo c.keys.length cp)).toArray TCmd) = w1 at *
  have CB := hide hB; have U1 := hide hu
  have y0 : w1.cell? ⟨A, 0, none⟩ = some (.pointer (some ⟨p, 0, none⟩)) := blk_cell (hu.get hA (by simp)) rfl
  clear hB hu hA
  obtain ⟨b0, b1, b2, b3, b4, b5, b6⟩ := cell7 CB.out
  go_wp2_with fail
  have hda := ado_any (c := c) (T := T) (v := cmv c (.slice xo c.keys.length cp)) w1 (HE.out.upd_nil U1.out) (AW.out.upd_nil U1.out) HO.out hi4 ⟨FIT.out, _, rfl, KS.out.upd_nil U1.out⟩
  rw [HR.out] at hda
  simp only [cmv, strV] at hda
  refine hda.mono ?_
  rintro e w2 ⟨rfl, ha2, ht2⟩
  have A2 := hide ha2; have T2 := hide ((Turned.of_nil U1.out lo hi).trans ht2)
  clear hda ha2 ht2 b0 b1 b2 b3 b4 b5 b6 y0
  go_wp2_with fail
  first
    | (refine bodyPost_ret (results_none rfl _ _ _) rfl ?_; exact ⟨⟨_, rfl⟩, A2.out, T2.out⟩)
    | (go_end0; exact ⟨⟨_, rfl⟩, A2.out, T2.out⟩)
set_option maxRecDepth 100000 in
set_option maxHeartbeats 2000000 in
theorem fold1_any {T : Nat → Prop} {v : Value} {cl : List Cm} {lo hi p A L : Nat} (w0 w : World) (he : EnvAt w0) (h : cmK.row w0 T v cl) (hl100 : cl.length ≤ 100) (hu0 : Upd [] w0 w) (hlo : w0.heap.size ≤ lo) (hhi : hi ≤ w.heap.size)
    (hA : w.heap[A]? = some (.cells #[.pointer (some ⟨p, 0, none⟩)] 24 (0, 0))) (hAn : A < lo ∨ hi ≤ A) (hL : w.heap[L]? = some (.cells #[v] 30 (0, 0))) (ha : ApIs w lo hi p ap0) :
    Calls Tryz.prog 53 #[.func (.func 54) #[] #[.pointer (some ⟨A, 0, none⟩)], .pointer (some ⟨L, 0, none⟩)] w fun e w' => (∃ u, e = .returned u) ∧ ApIs w' lo hi p (foldA cl) ∧ ApOk (foldA cl) cl.length ∧ Turned lo hi w w' := by
  obtain ⟨xo, cp, rfl, h1, h2, hg⟩ := cm_get h
  have HG := hide hg; have HE := hide he; have HU0 := hide hu0; have HA := hide ha; have HAA := hide hA
  simp only [maxLen] at h2
  have y0 : w.cell? ⟨L, 0, none⟩ = some (.slice xo cl.length cp) := blk_cell hL rfl
  clear h hg he hu0 ha hA hL
  go_enter Tryz.func53, Tryz.ntmps53
  go_wp2_with fail
  clear y0
  go_loopw [7] (fun si wr => ∃ i : Nat, i ≤ cl.length ∧ si = .int .i64 i ∧ ApIs wr lo hi p (foldA (cl.take i)) ∧ ApOk (foldA (cl.take i)) i ∧ Turned lo hi w wr) (fun si _ => cl.length - (RowKit.intOf si).toNat)
  case atStart => exact ⟨0, by omega, rfl, HA.out, ApOk.zero, Turned.of_nil (Upd.refl _ _) lo hi⟩
  case round =>
    obtain ⟨i, hi2, rfl, hap, hok, htu⟩ := hrel
    have AW := hide hap; have OK := hide hok; have TU := hide htu
    clear hap hok htu
    by_cases hlt : i < cl.length
    · have d5 : decide ((i : Int) < cl.length) = true := by simp; omega
      have d5' : decide (i < cl.length) = true := by simpa using hlt
      obtain ⟨c, hc⟩ : ∃ c, cl[i]? = some c := ⟨_, List.getElem?_eq_getElem hlt⟩
      obtain ⟨bc, oc, ka, kc, rfl, hbc, -, fit, hks, hcc⟩ := HG.out i c hc
      have hup := TU.out.upd_new HU0.out hlo
      have HC := hide hc; have FIT := hide fit; have KS := hide hks; have UP := hide hup
      obtain ⟨c0, c1, c2, c3, c4, c5, c6⟩ := hcc.upd UP.out hbc (by simp)
      have hB := blk_new wr (.cells (cmc c (.slice ka c.keys.length kc)).toArray TCmd)
      have hU := (Upd.refl [] wr).alloc (.cells (cmc c (.slice ka c.keys.length kc)).toArray TCmd)
      clear hc fit hks hcc hup
      go_upto_region 3 with fail
      change Code.wp _ _ _ _ (wr.alloc (.cells (cmc c (.slice ka c.keys.length kc)).toArray TCmd))
      generalize wr.alloc (.cells (cmc c (.slice ka c.keys.length kc)).toArray TCmd) = W at *
      obtain ⟨C, hCs⟩ : ∃ C, wr.heap.size = C := ⟨_, rfl⟩
      have hzw := TU.out.size
      rw [hCs] at hB hzw ⊢
      have hzW := hU.size
      rw [hCs] at hzW
      have CB := hide hB; have AW2 := hide (AW.out.upd_nil hU); have TU2 := hide (TU.out.trans (Turned.of_nil hU lo hi)); have UP2 := hide (UP.out.trans hU)
      have HA2 := hide (TU2.out.get HAA.out hAn)
      clear hB hU c0 c1 c2 c3 c4 c5 c6 AW hCs TU UP
      obtain ⟨b0, b1, b2, b3, b4, b5, b6⟩ := cell7 CB.out
      go_wp2_with fail
      have hok2 := OK.out.next (c := c) (by omega) FIT.out.1 FIT.out.2.1
      have hn2 := foldA_next HC.out
      have hda := fold2_any (c := c) (T := T) (v := cmv c (.slice ka c.keys.length kc)) W (HE.out.upd_nil UP2.out) AW2.out (by omega) HA2.out OK.out (by omega) ⟨FIT.out, _, rfl, KS.out.upd_nil UP2.out⟩
      rw [← hn2] at hda hok2
      simp only [cmv, strV] at hda
      have OK2 := hide hok2
      clear hok2 hn2
      refine hda.mono ?_
      rintro e w3 ⟨⟨u, rfl⟩, ha3, ht3⟩
      have A3 := hide ha3; have T3 := hide (TU2.out.trans ht3)
      clear hda ha3 ht3 b0 b1 b2 b3 b4 b5 b6 CB AW2 TU2 UP2 OK KS HA2
      go_wp2_with fail
      go_roundw
      case rel => exact ⟨i + 1, by omega, by go_num, A3.out, OK2.out, T3.out⟩
      case measure => simp [RowKit.intOf]; omega
    · have d5 : decide ((i : Int) < cl.length) = false := by simp; omega
      have d5' : decide (i < cl.length) = false := by simpa using hlt
      have hie : i = cl.length := by omega
      subst hie
      rw [List.take_length] at AW OK
      go_wp2_with fail
      first
        | (refine bodyPost_ret (results_none rfl _ _ _) rfl ?_; exact ⟨⟨_, rfl⟩, AW.out, OK.out, TU.out⟩)
        | (go_end0; exact ⟨⟨_, rfl⟩, AW.out, OK.out, TU.out⟩)
set_option maxRecDepth 100000 in
set_option maxHeartbeats 2000000 in
theorem fold_any {T : Nat → Prop} {v : Value} {cl : List Cm} (w : World) (he : EnvAt w) (h : cmK.row w T v cl) (hl100 : cl.length ≤ 100) :
    Calls Tryz.prog 21 #[v] w fun e w' => (∃ lo hi p, e = .returned (.pointer (some ⟨p, 0, none⟩)) ∧ ApIs w' lo hi p (foldA cl) ∧ w.heap.size ≤ lo ∧ hi ≤ w'.heap.size) ∧ ApOk (foldA cl) cl.length ∧ Upd [] w w' := by
  have HE := hide he; have HROW := hide h
  obtain ⟨xo, cp, rfl, h1, h2, hg⟩ := cm_get h
  clear h he hg
  go_enter Tryz.func21, Tryz.ntmps21
  have hL := blk_new w (.cells #[.slice xo cl.length cp] 30)
  have hu := (Upd.refl [] w).alloc (.cells #[.slice xo cl.length cp] 30)
  go_upto_region 1 with fail
  generalize w.alloc (.cells #[.slice xo cl.length cp] 30) = w1 at *
  have LL := hide hL; have U1 := hide hu
  have hz1 := blk_lt hL
  clear hL hu
  go_wp2_with fail
  refine (anew_any w1).mono ?_
  rintro e w2 ⟨⟨p, rfl, ha2⟩, hu2⟩
  have A2 := hide ha2; have U2 := hide (U1.out.trans hu2); have L2 := hide (hu2.get LL.out (by simp))
  have hz2 := hu2.size
  clear ha2 hu2 LL
  go_upto_region 2 with fail
  have hA := blk_new w2 (.cells #[.pointer (some ⟨p, 0, none⟩)] 24)
  have hu := (Upd.refl [] w2).alloc (.cells #[.pointer (some ⟨p, 0, none⟩)] 24)
  change Code.wp _ _ _ _ (w2.alloc (.cells #[.pointer (some ⟨p, 0, none⟩)] 24))
  generalize w2.alloc (.cells #[.pointer (some ⟨p, 0, none⟩)] 24) = w3 at *
  have A3 := hide (A2.out.upd_nil hu); have U3 := hide (U2.out.trans hu); have L3 := hide (hu.get L2.out (by simp)); have P3 := hide hA
  have hz3 := hu.size
  clear hA hu A2 U2 L2
  go_wp2_with fail
  refine (fold1_any (T := T) w w3 HE.out HROW.out hl100 U3.out (by omega) (by omega) P3.out (.inr (by omega)) L3.out A3.out).mono ?_
  rintro e w4 ⟨⟨u, rfl⟩, ha4, hok4, ht4⟩
  have y0 : w4.cell? ⟨w2.heap.size, 0, none⟩ = some (.pointer (some ⟨p, 0, none⟩)) := blk_cell (ht4.get P3.out (.inr (by omega))) rfl
  have A4 := hide ha4; have OK4 := hide hok4; have U4 := hide (ht4.upd_new U3.out (by omega))
  have hz4 := ht4.size
  clear ha4 hok4 ht4
  go_wp2_with fail
  go_ret
  exact ⟨⟨_, _, p, rfl, A4.out, by omega, by omega⟩, OK4.out, U4.out⟩
end Go.Proofs.YthpnnffogbjhpaaGreatDoor.Kv
