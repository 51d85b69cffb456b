/- WvE, WvFo in one text. -/
import Derived.Test.YteeepelmkfiocaaGreatDoorWvR
namespace Go.Proofs.YteeepelmkfiocaaGreatDoor.Kv
set_option linter.unusedSimpArgs false
set_option linter.unusedVariables false
set_option linter.unnecessarySimpa false
open Go.RowKit Go.Lib Go.Proofs.YteeepelmkfiocaaGreatDoor.Crc Go.Proofs.YteeepelmkfiocaaGreatDoor.Cm

theorem srcD_blk {w : World} {b n z c : Nat} {cs : List Value} {t : TypeId} (h : w.heap[b]? = some (.cells cs.toArray t (0, 0))) (hn : cs.length = n * z) (h1 : ∀ u ∈ cs, u.oneCell' = true) : SrcAt w (some ⟨b, 0, none⟩) n c cs z := by
  refine ⟨hn, h1, by simp, fun a e j u hj => ?_⟩
  cases e
  rw [show (⟨b, 0, none⟩ : Addr).add j = ⟨b, j, none⟩ by unfold Addr.add; split <;> simp_all]
  simp only [World.cell?, h]
  simpa using hj
theorem dncs_one (d : Dn) : dncs [d] = dnc d := by simp [dncs]
/-- What one by one comes to. -/
def oneD (l : List Cm) (a : Ap) (n : Nat) : List Dn := (runM l a (List.range n)).2.map fun t => ⟨t.2.1, t.2.2, 0, t.1⟩
theorem oneD_len (l : List Cm) (a : Ap) (n : Nat) : (oneD l a n).length = n := by
  have h := congrArg List.length (run_places l (List.range n) a)
  simp at h
  simp [oneD, h]
theorem oneD_next (l : List Cm) (a : Ap) (n : Nat) : oneD l a (n + 1) = oneD l a n ++ [⟨(apDo (runM l a (List.range n)).1 (l.getD n cm0)).2.1, (apDo (runM l a (List.range n)).1 (l.getD n cm0)).2.2, 0, n⟩] := by
  unfold oneD
  rw [(run_range l a n).2, List.map_append]
  rfl
set_option maxRecDepth 100000 in
set_option maxHeartbeats 4000000 in
theorem one_any {T : Nat → Prop} {v : Value} {cl : List Cm} {lo hi p k : Nat} {a : Ap} (w0 w : World) (he : EnvAt w0) (h : cmK.row w0 T v cl) (hl100 : cl.length ≤ 100)
    (hu0 : Upd [] w0 w) (hlo : w0.heap.size ≤ lo) (hhi : hi ≤ w.heap.size) (ha : ApIs w lo hi p a) (ho : ApOk a k) (hk : k ≤ 5000) :
    Calls Tryz.prog 13 #[.pointer (some ⟨p, 0, none⟩), v] w fun e w' =>
      (∃ ao cap, e = .returned (.slice ao cl.length cap) ∧ w'.ownsRow w.heap.size TDone 5 (.slice ao cl.length cap) cl.length (dncs (oneD cl a cl.length))) ∧
      ApIs w' lo hi p (runM cl a (List.range cl.length)).1 ∧ ApOk (runM cl a (List.range cl.length)).1 (k + cl.length) ∧ Turned lo hi w w' := by
  obtain ⟨i1, hi1, iz0, iz1, iz2⟩ := partsI infoDn
  obtain ⟨xo, cp, rfl, h1, h2, hg⟩ := cm_get h
  have HROW := hide h; have HG := hide hg; have HE := hide he; have HU0 := hide hu0; have HA := hide ha; have HO := hide ho
  simp only [maxLen] at h2
  obtain ⟨B, hB⟩ : ∃ B, w.heap.size = B := ⟨_, rfl⟩
  have HB := hide hB
  rw [hB] at hhi
  clear h hg he hu0 ha ho hB
  go_enter Tryz.func13, Tryz.ntmps13
  go_wp2_with fail
  go_loopw [5, 12] (fun so si wr => ∃ (i : Nat) (ao : Option Addr) (cap : Nat), i ≤ cl.length ∧ so = .slice ao i cap ∧ si = .int .i64 i ∧ wr.ownsRow B TDone 5 (.slice ao i cap) i (dncs (oneD cl a i)) ∧ ApIs wr lo hi p (runM cl a (List.range i)).1 ∧ ApOk (runM cl a (List.range i)).1 (k + i) ∧ Turned lo hi w wr) (fun _ si _ => cl.length - (RowKit.intOf si).toNat)
  case atStart => exact ⟨0, none, 0, by omega, rfl, rfl, World.ownsRow_nil _ _ _ _, HA.out, HO.out, Turned.of_nil (Upd.refl _ _) lo hi⟩
  case round =>
    obtain ⟨i, ao, cap, hi2, rfl, rfl, hown, hap, hok, htu⟩ := hrel
    have OW := hide hown; have AW := hide hap; have OK := hide hok; have TU := hide htu
    clear hown hap hok htu
    by_cases hlt : i < cl.length
    · have d5 : decide ((i : Int) < cl.length) = true := by simp; omega
      have d5' : decide (i < cl.length) = true := by simpa using hlt
      obtain ⟨c, hc⟩ : ∃ c, cl[i]? = some c := ⟨_, List.getElem?_eq_getElem hlt⟩
      obtain ⟨bc, oc, ka, kc, rfl, hbc, -, fit, hks, hcc⟩ := HG.out i c hc
      have hup := TU.out.upd_new HU0.out hlo
      have HC := hide hc; have FIT := hide fit; have KS := hide hks; have UP := hide hup
      obtain ⟨c0, c1, c2, c3, c4, c5, c6⟩ := hcc.upd UP.out hbc (by simp)
      have hB := blk_new wr (.cells (cmc c (.slice ka c.keys.length kc)).toArray TCmd)
      have hU := (Upd.refl [] wr).alloc (.cells (cmc c (.slice ka c.keys.length kc)).toArray TCmd)
      clear hc fit hks hcc hup
      go_upto_region 5 with fail
      change Code.wp _ _ _ _ (wr.alloc (.cells (cmc c (.slice ka c.keys.length kc)).toArray TCmd))
      generalize wr.alloc (.cells (cmc c (.slice ka c.keys.length kc)).toArray TCmd) = W at *
      obtain ⟨C, hCs⟩ : ∃ C, wr.heap.size = C := ⟨_, rfl⟩
      have hzw := TU.out.size
      rw [HB.out] at hzw
      rw [hCs] at hB hzw ⊢
      have CB := hide hB; have UW := hide hU; have OW2 := hide (owns_upd OW.out hU (by simp)); have AW2 := hide (AW.out.upd_nil hU); have TU2 := hide (TU.out.trans (Turned.of_nil hU lo hi)); have UP2 := hide (UP.out.trans hU)
      have hzW := hU.size
      rw [hCs] at hzW
      clear hB hU c0 c1 c2 c3 c4 c5 c6 OW AW hCs TU UP
      obtain ⟨b0, b1, b2, b3, b4, b5, b6⟩ := cell7 CB.out
      go_wp2_with fail
      obtain ⟨a2, r, f, hd⟩ : ∃ a2 r f, apDo (runM cl a (List.range i)).1 c = (a2, r, f) := ⟨_, _, _, rfl⟩
      have hda := ado_any (c := c) (T := T) (v := cmv c (.slice ka c.keys.length kc)) W (HE.out.upd_nil UP2.out) AW2.out OK.out (by omega) ⟨FIT.out, _, rfl, KS.out.upd_nil UP2.out⟩
      have hok2 := OK.out.next (c := c) (by omega) FIT.out.1 FIT.out.2.1
      have hgd : cl.getD i cm0 = c := by simp [List.getD, HC.out]
      have hn1 := oneD_next cl a i
      have hn2 := (run_range cl a i).1
      rw [hgd, hd] at hn1 hn2
      rw [hd] at hda hok2
      simp only [cmv, strV] at hda
      unfold rpv at hda
      have N1 := hide hn1; have N2 := hide hn2; have OK2 := hide hok2
      clear hn1 hn2 hok2 hgd hd
      refine hda.mono ?_
      rintro e w3 ⟨rfl, ha3, ht3⟩
      have A3 := hide ha3; have T3 := hide (TU2.out.trans ht3)
      have hzt := ht3.size
      have OW3 := hide (show w3.ownsRow B TDone 5 (.slice ao i cap) i (dncs (oneD cl a i)) from by
        obtain ⟨SS, hS1, hS2⟩ := ht3
        exact owns_upd OW2.out hS2 (fun q hq hm => by have := (owns_lt OW2.out q hq).1; have := hS1 q hm; omega))
      clear hda ha3 ht3 b0 b1 b2 b3 b4 b5 b6 CB UW OW2 AW2 TU2 UP2 OK KS
      go_upto_region 7 with fail
      have hR := blk_new w3 (.cells #[.int .u8 (r.code : Int), .string (strOf r.text)] TRp)
      have hal := (Upd.refl [] w3).alloc (.cells #[.int .u8 (r.code : Int), .string (strOf r.text)] TRp)
      change Code.wp _ _ _ _ (w3.alloc (.cells #[.int .u8 (r.code : Int), .string (strOf r.text)] TRp))
      generalize w3.alloc (.cells #[.int .u8 (r.code : Int), .string (strOf r.text)] TRp) = w4 at *
      obtain ⟨R, hRs⟩ : ∃ R, w3.heap.size = R := ⟨_, rfl⟩
      rw [hRs] at hR hzt ⊢
      have A4 := hide (A3.out.upd_nil hal); have T4 := hide (T3.out.trans (Turned.of_nil hal lo hi)); have OW4 := hide (owns_upd OW3.out hal (by simp))
      have hz4 := hal.size
      rw [hRs] at hz4
      have x0 : w4.cell? ⟨R, 0, none⟩ = some (.int .u8 (r.code : Int)) := blk_cell hR rfl
      have x1 : w4.cell? ⟨R, 1, none⟩ = some (.string (strOf r.text)) := blk_cell hR rfl
      obtain ⟨cur, hcur⟩ : ∃ cur, dncs (oneD cl a i) = cur := ⟨_, rfl⟩
      rw [hcur] at OW4
      have HCU := hide hcur
      clear hR hal hRs A3 T3 OW3 hcur
      go_wp2_with (at_builtin; go_must (refine wpList_append_src _ rfl _ _ 28 rfl B 35 i1 (.agg #[.int .u8 0, .string ByteArray.empty, .bool false, .int .i64 0, .int .i64 0]) 5 48 Tryz.underlying28 hi1 iz0 iz1 iz2 rfl (by decide) (.slice ao i cap) i cur rfl (by exact owns_upd OW4.out ((Upd.refl [] w4).alloc _) (by simp)) (some ⟨w4.heap.size, 0, none⟩) 1 1 (dnc ⟨r, f, 0, i⟩) rfl (srcD_blk (cs := dnc ⟨r, f, 0, i⟩) (blk_new _ _) rfl (by simp [dnc, Value.oneCell'])) (by unfold maxLen; omega) (by omega) (by simp; omega) ?_))
      intro ao7 cap7 w7 hown7 hU7 hn7
      have hU7' := grown_upd hU7
      have hnot : ∀ q, q ∈ (Value.slice ao i cap).ownBlock.toList → B ≤ q := fun q hm => (owns_lt OW4.out q (by simpa using hm)).1
      have A7 := hide (A4.out.far hU7' (fun q hm => by have := hnot q hm; omega))
      have T7 := hide (T4.out.new hU7' (fun q hm => by have := hnot q hm; have := HB.out; omega))
      have OW7 := hide hown7
      clear hown7 hU7 hU7' hn7 hnot A4 T4 OW4 x0 x1
      go_wp2_with fail
      go_roundw
      case rel => exact ⟨i + 1, ao7, cap7, by omega, rfl, by go_num, by rw [N1.out, dncs_app, HCU.out, dncs_one]; exact OW7.out, by rw [N2.out]; exact A7.out, by rw [N2.out]; exact OK2.out, T7.out⟩
      case measure => simp [RowKit.intOf]; omega
    · have d5 : decide ((i : Int) < cl.length) = false := by simp; omega
      have d5' : decide (i < cl.length) = false := by simpa using hlt
      have hie : i = cl.length := by omega
      subst hie
      go_wp2_with fail
      go_ret
      refine ⟨⟨ao, cap, rfl, ?_⟩, AW.out, OK.out, TU.out⟩
      rw [HB.out]
      exact OW.out
end Go.Proofs.YteeepelmkfiocaaGreatDoor.Kv
namespace Go.Proofs.YteeepelmkfiocaaGreatDoor.Kv
set_option linter.unusedSimpArgs false
set_option linter.unusedVariables false
set_option linter.unnecessarySimpa false
open Go.RowKit Go.Lib Go.Proofs.YteeepelmkfiocaaGreatDoor.Crc Go.Proofs.YteeepelmkfiocaaGreatDoor.Cm

set_option maxRecDepth 100000 in
set_option maxHeartbeats 2000000 in
theorem fold2_any {T : Nat → Prop} {v : Value} {c : Cm} {lo hi p A i : Nat} {a : Ap} (w : World) (he : EnvAt w) (h : ApIs w lo hi p a) (hh : hi ≤ w.heap.size) (hA : w.heap[A]? = some (.cells #[.pointer (some ⟨p, 0, none⟩)] 26 (0, 0))) (ho : ApOk a i) (hi4 : i ≤ 10000) (hc : CmAt w T v c) :
    Calls Tryz.prog 25 #[v, .pointer (some ⟨A, 0, none⟩)] w fun e w' => (∃ u, e = .returned u) ∧ ApIs w' lo hi p (apDo a c).1 ∧ Turned lo hi w w' := by
  obtain ⟨fit, ks, rfl, hks⟩ := hc
  obtain ⟨xo, cp, rfl, h1, h2, hget⟩ := hks.get
  have KS := hide hks; have FIT := hide fit; have AW := hide h; have HE := hide he; have HO := hide ho
  obtain ⟨r, hr⟩ : ∃ r, apDo a c = r := ⟨_, rfl⟩
  rw [hr]
  have HR := hide hr
  clear hget hks fit h he ho hr
  unfold cmv
  simp only [strV]
  go_enter Tryz.func25, Tryz.ntmps25
  go_upto_region 1 with fail
  have hB := blk_new w (.cells (cmc c (.slice xo c.keys.length cp)).toArray TCmd)
  have hu := (Upd.refl [] w).alloc (.cells (cmc c (.slice xo c.keys.length cp)).toArray TCmd)
  change Code.wp _ _ _ _ (w.alloc (.cells (cmc c (.slice xo c.keys.length cp)).toArray TCmd))
  generalize w.alloc (.cells (cmc c (.slice xo c.keys.length cp)).toArray TCmd) = w1 at *
  have CB := hide hB; have U1 := hide hu
  have y0 : w1.cell? ⟨A, 0, none⟩ = some (.pointer (some ⟨p, 0, none⟩)) := blk_cell (hu.get hA (by simp)) rfl
  clear hB hu hA
  obtain ⟨b0, b1, b2, b3, b4, b5, b6⟩ := cell7 CB.out
  go_wp2_with fail
  have hda := ado_any (c := c) (T := T) (v := cmv c (.slice xo c.keys.length cp)) w1 (HE.out.upd_nil U1.out) (AW.out.upd_nil U1.out) HO.out hi4 ⟨FIT.out, _, rfl, KS.out.upd_nil U1.out⟩
  rw [HR.out] at hda
  simp only [cmv, strV] at hda
  refine hda.mono ?_
  rintro e w2 ⟨rfl, ha2, ht2⟩
  have A2 := hide ha2; have T2 := hide ((Turned.of_nil U1.out lo hi).trans ht2)
  clear hda ha2 ht2 b0 b1 b2 b3 b4 b5 b6 y0
  go_wp2_with fail
  first
    | (refine bodyPost_ret (results_none rfl _ _ _) rfl ?_; exact ⟨⟨_, rfl⟩, A2.out, T2.out⟩)
    | (go_end0; exact ⟨⟨_, rfl⟩, A2.out, T2.out⟩)
def foldA (l : List Cm) (i : Nat) : Ap := (runM l ap0 (List.range i)).1
theorem foldA_next {l : List Cm} {i : Nat} {c : Cm} (h : l[i]? = some c) : foldA l (i + 1) = (apDo (foldA l i) c).1 := by
  unfold foldA
  rw [(run_range l ap0 i).1]
  have : l.getD i cm0 = c := by simp [List.getD, h]
  rw [this]
set_option maxRecDepth 100000 in
set_option maxHeartbeats 2000000 in
theorem fold1_any {T : Nat → Prop} {v : Value} {cl : List Cm} {lo hi p A L : Nat} (w0 w : World) (he : EnvAt w0) (h : cmK.row w0 T v cl) (hl100 : cl.length ≤ 100) (hu0 : Upd [] w0 w) (hlo : w0.heap.size ≤ lo) (hhi : hi ≤ w.heap.size)
    (hA : w.heap[A]? = some (.cells #[.pointer (some ⟨p, 0, none⟩)] 26 (0, 0))) (hAn : A < lo ∨ hi ≤ A) (hL : w.heap[L]? = some (.cells #[v] 22 (0, 0))) (ha : ApIs w lo hi p ap0) :
    Calls Tryz.prog 24 #[.func (.func 25) #[] #[.pointer (some ⟨A, 0, none⟩)], .pointer (some ⟨L, 0, none⟩)] w fun e w' => (∃ u, e = .returned u) ∧ ApIs w' lo hi p (foldA cl cl.length) ∧ ApOk (foldA cl cl.length) cl.length ∧ Turned lo hi w w' := by
  obtain ⟨xo, cp, rfl, h1, h2, hg⟩ := cm_get h
  have HG := hide hg; have HE := hide he; have HU0 := hide hu0; have HA := hide ha; have HAA := hide hA
  simp only [maxLen] at h2
  have y0 : w.cell? ⟨L, 0, none⟩ = some (.slice xo cl.length cp) := blk_cell hL rfl
  clear h hg he hu0 ha hA hL
  go_enter Tryz.func24, Tryz.ntmps24
  go_wp2_with fail
  clear y0
  go_loopw [7] (fun si wr => ∃ i : Nat, i ≤ cl.length ∧ si = .int .i64 i ∧ ApIs wr lo hi p (foldA cl i) ∧ ApOk (foldA cl i) i ∧ Turned lo hi w wr) (fun si _ => cl.length - (RowKit.intOf si).toNat)
  case atStart => exact ⟨0, by omega, rfl, HA.out, ApOk.zero, Turned.of_nil (Upd.refl _ _) lo hi⟩
  case round =>
    obtain ⟨i, hi2, rfl, hap, hok, htu⟩ := hrel
    have AW := hide hap; have OK := hide hok; have TU := hide htu
    clear hap hok htu
    by_cases hlt : i < cl.length
    · have d5 : decide ((i : Int) < cl.length) = true := by simp; omega
      have d5' : decide (i < cl.length) = true := by simpa using hlt
      obtain ⟨c, hc⟩ : ∃ c, cl[i]? = some c := ⟨_, List.getElem?_eq_getElem hlt⟩
      obtain ⟨bc, oc, ka, kc, rfl, hbc, -, fit, hks, hcc⟩ := HG.out i c hc
      have hup := TU.out.upd_new HU0.out hlo
      have HC := hide hc; have FIT := hide fit; have KS := hide hks; have UP := hide hup
      obtain ⟨c0, c1, c2, c3, c4, c5, c6⟩ := hcc.upd UP.out hbc (by simp)
      have hB := blk_new wr (.cells (cmc c (.slice ka c.keys.length kc)).toArray TCmd)
      have hU := (Upd.refl [] wr).alloc (.cells (cmc c (.slice ka c.keys.length kc)).toArray TCmd)
      clear hc fit hks hcc hup
      go_upto_region 3 with fail
      change Code.wp _ _ _ _ (wr.alloc (.cells (cmc c (.slice ka c.keys.length kc)).toArray TCmd))
      generalize wr.alloc (.cells (cmc c (.slice ka c.keys.length kc)).toArray TCmd) = W at *
      obtain ⟨C, hCs⟩ : ∃ C, wr.heap.size = C := ⟨_, rfl⟩
      have hzw := TU.out.size
      rw [hCs] at hB hzw ⊢
      have hzW := hU.size
      rw [hCs] at hzW
      have CB := hide hB; have AW2 := hide (AW.out.upd_nil hU); have TU2 := hide (TU.out.trans (Turned.of_nil hU lo hi)); have UP2 := hide (UP.out.trans hU)
      have HA2 := hide (TU2.out.get HAA.out hAn)
      clear hB hU c0 c1 c2 c3 c4 c5 c6 AW hCs TU UP
      obtain ⟨b0, b1, b2, b3, b4, b5, b6⟩ := cell7 CB.out
      go_wp2_with fail
      have hok2 := OK.out.next (c := c) (by omega) FIT.out.1 FIT.out.2.1
      have hn2 := foldA_next HC.out
      have hda := fold2_any (c := c) (T := T) (v := cmv c (.slice ka c.keys.length kc)) W (HE.out.upd_nil UP2.out) AW2.out (by omega) HA2.out OK.out (by omega) ⟨FIT.out, _, rfl, KS.out.upd_nil UP2.out⟩
      rw [← hn2] at hda hok2
      simp only [cmv, strV] at hda
      have OK2 := hide hok2
      clear hok2 hn2
      refine hda.mono ?_
      rintro e w3 ⟨⟨u, rfl⟩, ha3, ht3⟩
      have A3 := hide ha3; have T3 := hide (TU2.out.trans ht3)
      clear hda ha3 ht3 b0 b1 b2 b3 b4 b5 b6 CB AW2 TU2 UP2 OK KS HA2
      go_wp2_with fail
      go_roundw
      case rel => exact ⟨i + 1, by omega, by go_num, A3.out, OK2.out, T3.out⟩
      case measure => simp [RowKit.intOf]; omega
    · have d5 : decide ((i : Int) < cl.length) = false := by simp; omega
      have d5' : decide (i < cl.length) = false := by simpa using hlt
      have hie : i = cl.length := by omega
      subst hie
      go_wp2_with fail
      first
        | (refine bodyPost_ret (results_none rfl _ _ _) rfl ?_; exact ⟨⟨_, rfl⟩, AW.out, OK.out, TU.out⟩)
        | (go_end0; exact ⟨⟨_, rfl⟩, AW.out, OK.out, TU.out⟩)
set_option maxRecDepth 100000 in
set_option maxHeartbeats 2000000 in
theorem fold_any {T : Nat → Prop} {v : Value} {cl : List Cm} (w : World) (he : EnvAt w) (h : cmK.row w T v cl) (hl100 : cl.length ≤ 100) :
    Calls Tryz.prog 12 #[v] w fun e w' => (∃ lo hi p, e = .returned (.pointer (some ⟨p, 0, none⟩)) ∧ ApIs w' lo hi p (foldA cl cl.length) ∧ w.heap.size ≤ lo ∧ hi ≤ w'.heap.size) ∧ ApOk (foldA cl cl.length) cl.length ∧ Upd [] w w' := by
  have HE := hide he; have HROW := hide h
  obtain ⟨xo, cp, rfl, h1, h2, hg⟩ := cm_get h
  clear h he hg
  go_enter Tryz.func12, Tryz.ntmps12
  have hL := blk_new w (.cells #[.slice xo cl.length cp] 22)
  have hu := (Upd.refl [] w).alloc (.cells #[.slice xo cl.length cp] 22)
  go_upto_region 1 with fail
  generalize w.alloc (.cells #[.slice xo cl.length cp] 22) = w1 at *
  have LL := hide hL; have U1 := hide hu
  have hz1 := blk_lt hL
  clear hL hu
  go_wp2_with fail
  refine (anew_any w1).mono ?_
  rintro e w2 ⟨⟨p, rfl, ha2⟩, hu2⟩
  have A2 := hide ha2; have U2 := hide (U1.out.trans hu2); have L2 := hide (hu2.get LL.out (by simp))
  have hz2 := hu2.size
  clear ha2 hu2 LL
  go_upto_region 2 with fail
  have hA := blk_new w2 (.cells #[.pointer (some ⟨p, 0, none⟩)] 26)
  have hu := (Upd.refl [] w2).alloc (.cells #[.pointer (some ⟨p, 0, none⟩)] 26)
  change Code.wp _ _ _ _ (w2.alloc (.cells #[.pointer (some ⟨p, 0, none⟩)] 26))
  generalize w2.alloc (.cells #[.pointer (some ⟨p, 0, none⟩)] 26) = w3 at *
  have A3 := hide (A2.out.upd_nil hu); have U3 := hide (U2.out.trans hu); have L3 := hide (hu.get L2.out (by simp)); have P3 := hide hA
  have hz3 := hu.size
  clear hA hu A2 U2 L2
  go_wp2_with fail
  refine (fold1_any (T := T) w w3 HE.out HROW.out hl100 U3.out (by omega) (by omega) P3.out (.inr (by omega)) L3.out A3.out).mono ?_
  rintro e w4 ⟨⟨u, rfl⟩, ha4, hok4, ht4⟩
  have y0 : w4.cell? ⟨w2.heap.size, 0, none⟩ = some (.pointer (some ⟨p, 0, none⟩)) := blk_cell (ht4.get P3.out (.inr (by omega))) rfl
  have A4 := hide ha4; have OK4 := hide hok4; have U4 := hide (ht4.upd_new U3.out (by omega))
  have hz4 := ht4.size
  clear ha4 hok4 ht4
  go_wp2_with fail
  go_ret
  exact ⟨⟨_, _, p, rfl, A4.out, by omega, by omega⟩, OK4.out, U4.out⟩
end Go.Proofs.YteeepelmkfiocaaGreatDoor.Kv
