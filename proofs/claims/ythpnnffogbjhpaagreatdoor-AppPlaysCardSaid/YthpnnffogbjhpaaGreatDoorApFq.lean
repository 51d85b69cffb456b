/- R11q, ApFo in one text. -/
import Derived.Test.YthpnnffogbjhpaaGreatDoorKvPure
import Derived.Test.YthpnnffogbjhpaaGreatDoorApOf
import Derived.Test.YthpnnffogbjhpaaGreatDoorKvU
import Derived.Test.YthpnnffogbjhpaaGreatDoorKvR
set_option linter.unusedSimpArgs false
set_option linter.unusedVariables false
set_option linter.unnecessarySimpa false
namespace Go.Proofs.YthpnnffogbjhpaaGreatDoor.Kv
set_option linter.unusedSimpArgs false
set_option linter.unusedVariables false
open Go.RowKit Go.Proofs.YthpnnffogbjhpaaGreatDoor.Crc Go.Proofs.YthpnnffogbjhpaaGreatDoor.Cm Go.Proofs.YthpnnffogbjhpaaGreatDoor.Var

theorem riseU_app {l m : TM} {p : Nat × La} (h : Rise cliK (m ++ p :: l)) : (∀ q ∈ m, q.1 < p.1) ∧ ∀ q ∈ l, p.1 < q.1 := by
  have h' := List.pairwise_append.1 h
  refine ⟨fun q hq => ?_, fun q hq => ?_⟩
  · have := h'.2.2 q hq p (by simp)
    rwa [cliK_lt, decide_eq_true_eq] at this
  · have := (List.pairwise_cons.1 h'.2.1).1 q hq
    rwa [cliK_lt, decide_eq_true_eq] at this
theorem sTakeL_fwd {lim : Nat} (hl : lim < 18446744073709551616) : ∀ (l m : TM) (last : Nat) (r : List UInt8), (∀ p ∈ l, p.1 < 4294967296 ∧ p.2.seq < 4294967296 ∧ p.2.r.code ≤ 3 ∧ p.2.r.text.length ≤ lim) → Rise cliK (m ++ l) → (∀ p ∈ l, last < p.1) →
    sTakeL lim l.length (0, l.flatMap laB ++ r) m last = (some (m ++ l), (0, r)) := by
  intro l
  induction l with
  | nil => intro m last r _ _ _; simp [sTakeL]
  | cons p l ih =>
    intro m last r hb hr hlast
    obtain ⟨p1, p2, p3, p4⟩ := hb p (by simp)
    obtain ⟨ky, ⟨sq, ⟨cd, tx⟩⟩⟩ := p
    simp only at p1 p2 p3 p4
    have e1 : ((ky, (⟨sq, ⟨cd, tx⟩⟩ : La)) :: l).flatMap laB ++ r = uv ky ++ (uv sq ++ (uv cd ++ (txB tx ++ (l.flatMap laB ++ r)))) := by simp [laB]
    obtain ⟨h1, h2⟩ := riseU_app hr
    rw [List.length_cons, sTakeL, if_neg (by simp), e1, uint_fwd (by omega)]
    simp only
    rw [uint_fwd (by omega)]
    simp only
    rw [uint_fwd (by omega)]
    simp only
    rw [text_fwd p4 hl]
    simp only
    have hla := hlast _ (List.mem_cons_self)
    simp only at hla
    rw [if_neg (by rintro ⟨-, h⟩; omega), Nat.mod_eq_of_lt (by omega), Nat.mod_eq_of_lt (by omega), Nat.mod_eq_of_lt (by omega),
      put_endG (fun q hq => by rw [cliK_lt, decide_eq_true_eq]; exact h1 q hq)]
    rw [ih _ ky r (fun q hq => hb q (by simp [hq])) (by simpa using hr) h2]
    simp
theorem sTakeK_fwd {lim : Nat} {t : TM} (hl : lim < 18446744073709551616) (hr : Rise cliK t) (hb : ∀ p ∈ t, p.1 < 4294967296 ∧ p.2.seq < 4294967296 ∧ p.2.r.code ≤ 3 ∧ p.2.r.text.length ≤ lim) (h0 : ∀ p ∈ t, 0 < p.1) (hlen : t.length < 18446744073709551616) (r : List UInt8) :
    sTakeK lim (0, tbB t ++ r) = (some t, 0, (0, r)) := by
  have e : tbB t ++ r = uv t.length ++ (t.flatMap laB ++ r) := by simp [tbB]
  unfold sTakeK
  rw [e, uint_fwd hlen]
  simp only
  rw [sTakeL_fwd hl t [] 0 r hb (by simpa using hr) h0]
  simp [sTakeF]
theorem ofM_fwd {a : Ap} {i : Nat} (h : ApOk a i) (hi : i ≤ 10000) (hne : KvNe a.m) (h0 : ∀ p ∈ a.t, 0 < p.1) : ofM (apB a) = (some a, 0) := by
  have h1 := h.n; have h2 := h.len; have h3 := h.tab
  have e1 : uintM (0, apB a) = (a.n, (0, kvB a.m ++ tbB a.t)) := by rw [apB, uint_fwd (by omega)]
  have e2 : takeK 4096 (0, kvB a.m ++ tbB a.t) = (some a.m, 0, (0, tbB a.t)) := takeK_fwd (by omega) (by omega) h.kv hne (by omega) _
  have e3 : sTakeK 4096 (0, tbB a.t) = (some a.t, 0, (0, [])) := by
    have := sTakeK_fwd (lim := 4096) (t := a.t) (by omega) h.rise (fun p hp => by obtain ⟨q1, q2, q3, q4⟩ := h.row p hp; exact ⟨q1, q2, q3, by omega⟩) h0 (by omega) []
    rwa [List.append_nil] at this
  unfold ofM
  rw [e1]
  simp only
  rw [e2]
  simp only
  rw [e3]
  simp [doneM]
theorem mem_mput {t : TM} {k : Nat} {x : La} {p : Nat × La} (h : p ∈ mput cliK t k x) : p = (k, x) ∨ p ∈ t := mem_put h
structure ApG (a : Ap) (i : Nat) : Prop where
  ok : ApOk a i
  ne : KvNe a.m
  pos : ∀ p ∈ a.t, 0 < p.1
theorem ApG.zero : ApG ap0 0 := ⟨ApOk.zero, fun p hp => (by cases hp), fun p hp => (by cases hp)⟩
theorem ApG.next {a : Ap} {i : Nat} {c : Cm} (h : ApG a i) (hi : i ≤ 9000) (h1 : c.client < 4294967296) (h2 : c.seq < 4294967296) : ApG (apDo a c).1 (i + 1) := by
  refine ⟨h.ok.next (by omega) h1 h2, ?_, ?_⟩
  · unfold apDo
    split
    · exact h.ne
    · split
      · exact h.ne.do
      · exact h.ne
  · unfold apDo
    split
    · exact h.pos
    · split
      · intro p hp
        rcases mem_mput hp with rfl | hp
        · simp only; omega
        · exact h.pos p hp
      · exact h.pos
theorem ApG.fold {l : List Cm} (h : ∀ c ∈ l, c.client < 4294967296 ∧ c.seq < 4294967296) : ∀ i, i ≤ l.length → i ≤ 9000 → ApG (foldA (l.take i)) i := by
  intro i
  induction i with
  | zero => intro _ _; exact ApG.zero
  | succ i ih =>
    intro h1 h2
    obtain ⟨c, hc⟩ : ∃ c, l[i]? = some c := ⟨_, List.getElem?_eq_getElem (by omega)⟩
    obtain ⟨q1, q2⟩ := h c (List.mem_of_getElem? hc)
    rw [foldA_next hc]
    exact (ih (by omega) (by omega)).next (by omega) q1 q2
end Go.Proofs.YthpnnffogbjhpaaGreatDoor.Kv
namespace Go.Proofs.YthpnnffogbjhpaaGreatDoor.Kv
set_option linter.unusedSimpArgs false
set_option linter.unusedVariables false
set_option linter.unnecessarySimpa false
open Go.RowKit Go.Lib Go.Proofs.YthpnnffogbjhpaaGreatDoor.Crc Go.Proofs.YthpnnffogbjhpaaGreatDoor.Cm

set_option maxRecDepth 100000 in
set_option maxHeartbeats 2000000 in
theorem fold2_any {T : Nat → Prop} {v : Value} {c : Cm} {lo hi p A i : Nat} {a : Ap} (w : World) (he : EnvAt w) (h : ApIs w lo hi p a) (hh : hi ≤ w.heap.size) (hA : w.heap[A]? = some (.cells #[.pointer (some ⟨p, 0, none⟩)] 24 (0, 0))) (ho : ApOk a i) (hi4 : i ≤ 10000) (hc : CmAt w T v c) :
    Calls Tryz.prog 54 #[v, .pointer (some ⟨A, 0, none⟩)] w fun e w' => (∃ u, e = .returned u) ∧ ApIs w' lo hi p (apDo a c).1 ∧ Turned lo hi w w' := by
  obtain ⟨fit, ks, rfl, hks⟩ := hc
  obtain ⟨xo, cp, rfl, h1, h2, hget⟩ := hks.get
  have KS := hide hks; have FIT := hide fit; have AW := hide h; have HE := hide he; have HO := hide ho
  obtain ⟨r, hr⟩ : ∃ r, apDo a c = r := ⟨_, rfl⟩
  rw [hr]
  have HR := hide hr
  clear hget hks fit h he ho hr
  unfold cmv
  simp only [strV]
  go_enter Tryz.func54, Tryz.ntmps54
  go_upto_region 1 with fail
  have hB := blk_new w (.cells (cmc c (.slice xo c.keys.length cp)).toArray TCmd)
  have hu := (Upd.refl [] w).alloc (.cells (cmc c (.slice xo c.keys.length cp)).toArray TCmd)
  change Code.wp _ _ _ _ (w.alloc (.cells (cmc c (.slice xo c.keys.length cp)).toArray TCmd))
  generalize w.alloc (.cells (cmc c (.slice xo c.keys.length cp)).toArray TCmd) = w1 at *
  have CB := hide hB; have U1 := hide hu
  have y0 : w1.cell? ⟨A, 0, none⟩ = some (.pointer (some ⟨p, 0, none⟩)) := blk_cell (hu.get hA (by simp)) rfl
  clear hB hu hA
  obtain ⟨b0, b1, b2, b3, b4, b5, b6⟩ := cell7 CB.out
  go_wp2_with fail
  have hda := ado_any (c := c) (T := T) (v := cmv c (.slice xo c.keys.length cp)) w1 (HE.out.upd_nil U1.out) (AW.out.upd_nil U1.out) HO.out hi4 ⟨FIT.out, _, rfl, KS.out.upd_nil U1.out⟩
  rw [HR.out] at hda
  simp only [cmv, strV] at hda
  refine hda.mono ?_
  rintro e w2 ⟨rfl, ha2, ht2⟩
  have A2 := hide ha2; have T2 := hide ((Turned.of_nil U1.out lo hi).trans ht2)
  clear hda ha2 ht2 b0 b1 b2 b3 b4 b5 b6 y0
  go_wp2_with fail
  first
    | (refine bodyPost_ret (results_none rfl _ _ _) rfl ?_; exact ⟨⟨_, rfl⟩, A2.out, T2.out⟩)
    | (go_end0; exact ⟨⟨_, rfl⟩, A2.out, T2.out⟩)
set_option maxRecDepth 100000 in
set_option maxHeartbeats 2000000 in
theorem fold1_any {T : Nat → Prop} {v : Value} {cl : List Cm} {lo hi p A L : Nat} (w0 w : World) (he : EnvAt w0) (h : cmK.row w0 T v cl) (hl100 : cl.length ≤ 100) (hu0 : Upd [] w0 w) (hlo : w0.heap.size ≤ lo) (hhi : hi ≤ w.heap.size)
    (hA : w.heap[A]? = some (.cells #[.pointer (some ⟨p, 0, none⟩)] 24 (0, 0))) (hAn : A < lo ∨ hi ≤ A) (hL : w.heap[L]? = some (.cells #[v] 30 (0, 0))) (ha : ApIs w lo hi p ap0) :
    Calls Tryz.prog 53 #[.func (.func 54) #[] #[.pointer (some ⟨A, 0, none⟩)], .pointer (some ⟨L, 0, none⟩)] w fun e w' => (∃ u, e = .returned u) ∧ ApIs w' lo hi p (foldA cl) ∧ ApOk (foldA cl) cl.length ∧ Turned lo hi w w' := by
  obtain ⟨xo, cp, rfl, h1, h2, hg⟩ := cm_get h
  have HG := hide hg; have HE := hide he; have HU0 := hide hu0; have HA := hide ha; have HAA := hide hA
  simp only [maxLen] at h2
  have y0 : w.cell? ⟨L, 0, none⟩ = some (.slice xo cl.length cp) := blk_cell hL rfl
  clear h hg he hu0 ha hA hL
  go_enter Tryz.func53, Tryz.ntmps53
  go_wp2_with fail
  clear y0
  go_loopw [7] (fun si wr => ∃ i : Nat, i ≤ cl.length ∧ si = .int .i64 i ∧ ApIs wr lo hi p (foldA (cl.take i)) ∧ ApOk (foldA (cl.take i)) i ∧ Turned lo hi w wr) (fun si _ => cl.length - (RowKit.intOf si).toNat)
  case atStart => exact ⟨0, by omega, rfl, HA.out, ApOk.zero, Turned.of_nil (Upd.refl _ _) lo hi⟩
  case round =>
    obtain ⟨i, hi2, rfl, hap, hok, htu⟩ := hrel
    have AW := hide hap; have OK := hide hok; have TU := hide htu
    clear hap hok htu
    by_cases hlt : i < cl.length
    · have d5 : decide ((i : Int) < cl.length) = true := by simp; omega
      have d5' : decide (i < cl.length) = true := by simpa using hlt
      obtain ⟨c, hc⟩ : ∃ c, cl[i]? = some c := ⟨_, List.getElem?_eq_getElem hlt⟩
      obtain ⟨bc, oc, ka, kc, rfl, hbc, -, fit, hks, hcc⟩ := HG.out i c hc
      have hup := TU.out.upd_new HU0.out hlo
      have HC := hide hc; have FIT := hide fit; have KS := hide hks; have UP := hide hup
      obtain ⟨c0, c1, c2, c3, c4, c5, c6⟩ := hcc.upd UP.out hbc (by simp)
      have hB := blk_new wr (.cells (cmc c (.slice ka c.keys.length kc)).toArray TCmd)
      have hU := (Upd.refl [] wr).alloc (.cells (cmc c (.slice ka c.keys.length kc)).toArray TCmd)
      clear hc fit hks hcc hup
      go_upto_region 3 with fail
      change Code.wp _ _ _ _ (wr.alloc (.cells (cmc c (.slice ka c.keys.length kc)).toArray TCmd))
      generalize wr.alloc (.cells (cmc c (.slice ka c.keys.length kc)).toArray TCmd) = W at *
      obtain ⟨C, hCs⟩ : ∃ C, wr.heap.size = C := ⟨_, rfl⟩
      have hzw := TU.out.size
      rw [hCs] at hB hzw ⊢
      have hzW := hU.size
      rw [hCs] at hzW
      have CB := hide hB; have AW2 := hide (AW.out.upd_nil hU); have TU2 := hide (TU.out.trans (Turned.of_nil hU lo hi)); have UP2 := hide (UP.out.trans hU)
      have HA2 := hide (TU2.out.get HAA.out hAn)
      clear hB hU c0 c1 c2 c3 c4 c5 c6 AW hCs TU UP
      obtain ⟨b0, b1, b2, b3, b4, b5, b6⟩ := cell7 CB.out
      go_wp2_with fail
      have hok2 := OK.out.next (c := c) (by omega) FIT.out.1 FIT.out.2.1
      have hn2 := foldA_next HC.out
      have hda := fold2_any (c := c) (T := T) (v := cmv c (.slice ka c.keys.length kc)) W (HE.out.upd_nil UP2.out) AW2.out (by omega) HA2.out OK.out (by omega) ⟨FIT.out, _, rfl, KS.out.upd_nil UP2.out⟩
      rw [← hn2] at hda hok2
      simp only [cmv, strV] at hda
      have OK2 := hide hok2
      clear hok2 hn2
      refine hda.mono ?_
      rintro e w3 ⟨⟨u, rfl⟩, ha3, ht3⟩
      have A3 := hide ha3; have T3 := hide (TU2.out.trans ht3)
      clear hda ha3 ht3 b0 b1 b2 b3 b4 b5 b6 CB AW2 TU2 UP2 OK KS HA2
      go_wp2_with fail
      go_roundw
      case rel => exact ⟨i + 1, by omega, by go_num, A3.out, OK2.out, T3.out⟩
      case measure => simp [RowKit.intOf]; omega
    · have d5 : decide ((i : Int) < cl.length) = false := by simp; omega
      have d5' : decide (i < cl.length) = false := by simpa using hlt
      have hie : i = cl.length := by omega
      subst hie
      rw [List.take_length] at AW OK
      go_wp2_with fail
      first
        | (refine bodyPost_ret (results_none rfl _ _ _) rfl ?_; exact ⟨⟨_, rfl⟩, AW.out, OK.out, TU.out⟩)
        | (go_end0; exact ⟨⟨_, rfl⟩, AW.out, OK.out, TU.out⟩)
set_option maxRecDepth 100000 in
set_option maxHeartbeats 2000000 in
theorem fold_any {T : Nat → Prop} {v : Value} {cl : List Cm} (w : World) (he : EnvAt w) (h : cmK.row w T v cl) (hl100 : cl.length ≤ 100) :
    Calls Tryz.prog 21 #[v] w fun e w' => (∃ lo hi p, e = .returned (.pointer (some ⟨p, 0, none⟩)) ∧ ApIs w' lo hi p (foldA cl) ∧ w.heap.size ≤ lo ∧ hi ≤ w'.heap.size) ∧ ApOk (foldA cl) cl.length ∧ Upd [] w w' := by
  have HE := hide he; have HROW := hide h
  obtain ⟨xo, cp, rfl, h1, h2, hg⟩ := cm_get h
  clear h he hg
  go_enter Tryz.func21, Tryz.ntmps21
  have hL := blk_new w (.cells #[.slice xo cl.length cp] 30)
  have hu := (Upd.refl [] w).alloc (.cells #[.slice xo cl.length cp] 30)
  go_upto_region 1 with fail
  generalize w.alloc (.cells #[.slice xo cl.length cp] 30) = w1 at *
  have LL := hide hL; have U1 := hide hu
  have hz1 := blk_lt hL
  clear hL hu
  go_wp2_with fail
  refine (anew_any w1).mono ?_
  rintro e w2 ⟨⟨p, rfl, ha2⟩, hu2⟩
  have A2 := hide ha2; have U2 := hide (U1.out.trans hu2); have L2 := hide (hu2.get LL.out (by simp))
  have hz2 := hu2.size
  clear ha2 hu2 LL
  go_upto_region 2 with fail
  have hA := blk_new w2 (.cells #[.pointer (some ⟨p, 0, none⟩)] 24)
  have hu := (Upd.refl [] w2).alloc (.cells #[.pointer (some ⟨p, 0, none⟩)] 24)
  change Code.wp _ _ _ _ (w2.alloc (.cells #[.pointer (some ⟨p, 0, none⟩)] 24))
  generalize w2.alloc (.cells #[.pointer (some ⟨p, 0, none⟩)] 24) = w3 at *
  have A3 := hide (A2.out.upd_nil hu); have U3 := hide (U2.out.trans hu); have L3 := hide (hu.get L2.out (by simp)); have P3 := hide hA
  have hz3 := hu.size
  clear hA hu A2 U2 L2
  go_wp2_with fail
  refine (fold1_any (T := T) w w3 HE.out HROW.out hl100 U3.out (by omega) (by omega) P3.out (.inr (by omega)) L3.out A3.out).mono ?_
  rintro e w4 ⟨⟨u, rfl⟩, ha4, hok4, ht4⟩
  have y0 : w4.cell? ⟨w2.heap.size, 0, none⟩ = some (.pointer (some ⟨p, 0, none⟩)) := blk_cell (ht4.get P3.out (.inr (by omega))) rfl
  have A4 := hide ha4; have OK4 := hide hok4; have U4 := hide (ht4.upd_new U3.out (by omega))
  have hz4 := ht4.size
  clear ha4 hok4 ht4
  go_wp2_with fail
  go_ret
  exact ⟨⟨_, _, p, rfl, A4.out, by omega, by omega⟩, OK4.out, U4.out⟩
end Go.Proofs.YthpnnffogbjhpaaGreatDoor.Kv
