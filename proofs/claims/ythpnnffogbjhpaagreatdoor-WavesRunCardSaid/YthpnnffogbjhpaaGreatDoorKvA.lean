/- kv.State.add. -/
import Derived.Test.YthpnnffogbjhpaaGreatDoorKvWH
import Derived.Test.YthpnnffogbjhpaaGreatDoorKvLV
set_option linter.unusedSimpArgs false
set_option linter.unusedVariables false
set_option linter.unnecessarySimpa false
namespace Go.Proofs.YthpnnffogbjhpaaGreatDoor.Kv
set_option linter.unusedSimpArgs false
set_option linter.unusedVariables false
open Go.RowKit Go.Lib Go.Proofs.YthpnnffogbjhpaaGreatDoor.Crc Go.Proofs.YthpnnffogbjhpaaGreatDoor.Cm
theorem old_len {m : KM} {k y : List UInt8} (h : KvOk m) (hy : (mfind m k).getD [48] = y) : y.length ≤ 64 := by
  rw [← hy]
  cases ho : mfind m k with
  | none => decide
  | some q => exact (h.2 _ (mfind_mem ho)).2
theorem old_y0 {m : KM} {k y : List UInt8} {o : Option (List UInt8)} (hy : (mfind m k).getD [48] = y) (ho : mfind m k = o) (hs : o.isSome = false) : y = [48] := by
  rw [← hy, ho]
  cases o with
  | none => rfl
  | some q => cases hs
theorem old_y1 {m : KM} {k y x : List UInt8} {o : Option (List UInt8)} (hy : (mfind m k).getD [48] = y) (ho : mfind m k = o) (hx : o.getD [] = x) (hs : o.isSome = true) : x = y := by
  rw [← hy, ho, ← hx]
  cases o with
  | none => cases hs
  | some q => rfl
theorem addM_bad {m : KM} {k y : List UInt8} {z : Int} {r : KM × Rp} (hr : addM m k z = r) (hy : (mfind m k).getD [48] = y) (hp : ¬ ∃ n, Lib.parseIntB 64 y = .ok n) : r = (m, ⟨2, []⟩) := by
  rw [← hr]
  unfold addM numM
  rw [hy]
  cases hq : Lib.parseIntB 64 y with
  | ok n => exact absurd ⟨n, hq⟩ hp
  | _ => rfl
theorem parse_bounds {y : List UInt8} {n : Int} (h : Lib.parseIntB 64 y = .ok n) : -9223372036854775808 ≤ n ∧ n ≤ 9223372036854775807 := by
  unfold Lib.parseIntB at h
  split at h
  · cases h
  · simp only at h
    split at h
    · cases h
    · cases h
    · simp only [Nat.reduceSub, Nat.reducePow] at h
      split at h
      · cases h
      · split at h
        · cases h
        · simp only [Lib.NumEnd.ok.injEq] at h
          split at h <;> omega
theorem addM_bad2 {m : KM} {k y : List UInt8} {z n : Int} {r : KM × Rp} (hr : addM m k z = r) (hy : (mfind m k).getD [48] = y) (hp : Lib.parseIntB 64 y = .ok n) (h1 : ¬ Lib.itoa n = y) : r = (m, ⟨2, []⟩) := by
  rw [← hr]
  unfold addM numM
  rw [hy, hp]
  simp only [h1, if_false]
theorem strOf_tl {a b : List UInt8} (h : (strOf a).toList = (strOf b).toList) : a = b := by
  have := strOf_eq a b
  rw [h] at this
  simpa using this.symm
theorem sum_ok {n z s : Int} {q1 q2 : Bool} (hn : -9223372036854775808 ≤ n ∧ n ≤ 9223372036854775807) (hz : -9223372036854775808 ≤ z ∧ z ≤ 9223372036854775807) (hs : RowKit.wrap64 (n + z) = s)
    (h1 : decide (n < s) = q1) (h2 : decide (0 < z) = q2) (h : q1 = q2) : fits (n + z) = true ∧ s = n + z := by
  rw [← h1, ← h2, decide_eq_decide] at h
  unfold RowKit.wrap64 at hs
  unfold fits
  simp only [Bool.and_eq_true, decide_eq_true_eq]
  omega
theorem sum_bad {n z s : Int} {q1 q2 : Bool} (hn : -9223372036854775808 ≤ n ∧ n ≤ 9223372036854775807) (hz : -9223372036854775808 ≤ z ∧ z ≤ 9223372036854775807) (hs : RowKit.wrap64 (n + z) = s)
    (h1 : decide (n < s) = q1) (h2 : decide (0 < z) = q2) (h : q1 ≠ q2) : fits (n + z) = false ∧ (z != 0) = true := by
  rw [← h1, ← h2, ne_eq, decide_eq_decide] at h
  unfold RowKit.wrap64 at hs
  unfold fits
  simp only [Bool.and_eq_false_iff, decide_eq_false_iff_not, bne_iff_ne]
  omega
theorem addM_bad3 {m : KM} {k y : List UInt8} {z n : Int} {r : KM × Rp} (hr : addM m k z = r) (hy : (mfind m k).getD [48] = y) (hp : Lib.parseIntB 64 y = .ok n) (h1 : Lib.itoa n = y) (hf : fits (n + z) = false) : r = (m, ⟨2, []⟩) := by
  rw [← hr]
  unfold addM numM
  rw [hy, hp]
  simp only [h1, if_true, hf, Bool.false_eq_true, if_false]
theorem addM_good {m : KM} {k y : List UInt8} {z n : Int} {r : KM × Rp} (hr : addM m k z = r) (hy : (mfind m k).getD [48] = y) (hp : Lib.parseIntB 64 y = .ok n) (h1 : Lib.itoa n = y) (hf : fits (n + z) = true) : r = (mput strK m k (Lib.itoa (n + z)), ⟨0, Lib.itoa (n + z)⟩) := by
  rw [← hr]
  unfold addM numM
  rw [hy, hp]
  simp only [h1, if_true, hf]
theorem add_good1 {r : KM × Rp} {m : KM} {k : List UInt8} {n z s : Int} (h : r = (mput strK m k (Lib.itoa (n + z)), ⟨0, Lib.itoa (n + z)⟩)) (hs : s = n + z) : rpv r.2 = .agg #[.int .u8 0, .string (strOf (Lib.itoa s))] := by
  subst hs
  rw [h]
  rfl
theorem add_good2 {r : KM × Rp} {m : KM} {k : List UInt8} {n z s : Int} (h : r = (mput strK m k (Lib.itoa (n + z)), ⟨0, Lib.itoa (n + z)⟩)) (hs : s = n + z) : r.1 = mput kvK.K m k (Lib.itoa s) := by
  subst hs
  rw [h]
  rfl
noncomputable def add8 : Array Oper := findOps 8 ((Tryz.f84.body).getD .skip)
noncomputable def add9 : Array Oper := findOps 9 ((Tryz.f84.body).getD .skip)
noncomputable def addOps : Array Oper := findOps 1 ((Tryz.f84.body).getD .skip)
set_option maxRecDepth 100000 in
set_option maxHeartbeats 4000000 in
theorem add_any {T : Nat → Prop} {v : Value} {c : Cm} {b g : Nat} {m : KM} (w : World) (he : EnvAt w) (h : StIs w b g m) (hm : KvOk m) (hc : CmAt w T v c) (hk : Cm.Good c) (hl : m.length ≤ 1000000) :
    Calls Tryz.prog 84 #[.pointer (some ⟨b, 0, none⟩), v] w fun e w' => e = .returned (rpv (addM m (keyA c) c.n).2) ∧ StIs w' b g (addM m (keyA c) c.n).1 ∧ Upd [g] w w' := by
  have ENV := hide he; have OK := hide hm
  clear he hm
  obtain ⟨fit, ks, rfl, hks⟩ := hc
  obtain ⟨xo, cp, rfl, h1, h2, hget⟩ := hks.get
  obtain ⟨k, hk0⟩ : ∃ k, c.keys[0]? = some k := ⟨_, List.getElem?_eq_getElem (Good.keys hk).2.1⟩
  have hkA : keyA c = k := by unfold keyA; rw [List.getD_eq_getElem?_getD, hk0]; rfl
  have hkl := keyA_len hk
  have hnl : c.new.length ≤ 64 := hk.2.2.2.2.2.2.2.1
  rw [hkA] at hkl ⊢
  have hkm : k.length ≤ maxLen := by unfold maxLen; omega
  have hnm : c.new.length ≤ maxLen := by unfold maxLen; omega
  obtain ⟨bk, ok, rfl, hbk, hkc⟩ := hget 0 k hk0
  rw [Nat.add_zero] at hkc
  have hpos : 0 < c.keys.length := (Good.keys hk).2.1
  have ST := hide h; have KC := hide hkc; have KS := hide hks; have FIT := hide fit; have GK := hide hk; have HKA := hide hkA
  have hneK : bk ≠ g := cell_ne hkc h.map
  have hgl := MapKind.is_lt h.map
  have hbl := blk_lt h.blk
  simp only [maxLen] at h2
  clear h hget hks hk hk0 hkA hkc fit
  unfold cmv
  simp only [strV]
  obtain ⟨r, hr⟩ : ∃ r, addM m k c.n = r := ⟨_, rfl⟩
  rw [hr]
  have HR := hide hr
  clear hr
  go_enter Tryz.func84, Tryz.ntmps84
  go_wp2_with fail
  have hB := blk_alloc (blk_new w (.cells (cmc c (.slice (some ⟨bk, ok, none⟩) c.keys.length cp)).toArray TCmd)) (.cells #[.int .u8 0, .string ⟨#[]⟩] TRp)
  have hR := blk_new (w.alloc (.cells (cmc c (.slice (some ⟨bk, ok, none⟩) c.keys.length cp)).toArray TCmd)) (.cells #[.int .u8 0, .string ⟨#[]⟩] TRp)
  have hu := ((Upd.refl [] w).alloc (.cells (cmc c (.slice (some ⟨bk, ok, none⟩) c.keys.length cp)).toArray TCmd)).alloc (.cells #[.int .u8 0, .string ⟨#[]⟩] TRp)
  rw [World.size_alloc] at hR
  have hsz : ((w.alloc (.cells (cmc c (.slice (some ⟨bk, ok, none⟩) c.keys.length cp)).toArray TCmd)).alloc (.cells #[.int .u8 0, .string ⟨#[]⟩] TRp)).heap.size = w.heap.size + 2 := by simp
  change Code.wp _ _ _ _ ((w.alloc (.cells (cmc c (.slice (some ⟨bk, ok, none⟩) c.keys.length cp)).toArray TCmd)).alloc (.cells #[.int .u8 0, .string ⟨#[]⟩] TRp))
  generalize (w.alloc (.cells (cmc c (.slice (some ⟨bk, ok, none⟩) c.keys.length cp)).toArray TCmd)).alloc (.cells #[.int .u8 0, .string ⟨#[]⟩] TRp) = w1 at *
  have CB := hide hB; have CR := hide hR; have U1 := hide hu
  obtain ⟨B, hBs⟩ : ∃ B, w.heap.size = B := ⟨_, rfl⟩
  have KB := hide hBs
  rw [hBs] at hsz CB CR ⊢
  have S1 := hide (ST.out.upd_nil (hu.drewN 1)); have K1 := hide (cell_upd KC.out (hu.drewN 1) (by simp))
  have hne := ST.out.ne
  have hneB : B ≠ g := by have := KB.out; omega
  have hneR : B + 1 ≠ g := by have := KB.out; omega
  clear hB hR hu hBs
  obtain ⟨o, ho⟩ : ∃ o, mfind m k = o := ⟨_, rfl⟩
  obtain ⟨x, hx⟩ : ∃ x, o.getD [] = x := ⟨_, rfl⟩
  obtain ⟨is, his⟩ : ∃ q, o.isSome = q := ⟨_, rfl⟩
  have hlk : ∀ wx, Upd [] (w1.drewN 1) wx → (Instr.lookup 113 (.map (some g)) (.string (strOf k)) true).run Tryz.prog wx = .ok (.tuple #[.string (strOf x), .bool is]) wx := fun wx hS => by
    have := MapKind.look (MapKind.is_upd_nil S1.out.map hS) (k := k) hkm
    rw [ho] at this
    rw [← hx, ← his]
    exact this
  have LK := hide hlk; have HO := hide ho; have HX := hide hx; have HIS := hide his
  clear hlk ho hx his
  refine wp_region_seq addOps (by kernel_rfl) [] (Upd [] (w1.drewN 1)) (by kernel_rfl) (by kernel_rfl) (fun _ _ d _ _ h => by cases d <;> exact h) (Upd.refl _ _) ?_
  refine wpSeq_take (by kernel_rfl) (by kernel_rfl) ?_
  apply Exists.intro
  refine ⟨fun wx hS => ?_, fun a' ha => ?_⟩
  · go_simp; rfl
  simp only [Act.put, List.setIfInBounds_toArray, List.set_cons_succ, List.set_cons_zero] at ha
  subst ha
  refine wpSeq_take (by kernel_rfl) (by kernel_rfl) ?_
  apply Exists.intro
  refine ⟨fun wx hS => ?_, fun a' ha => ?_⟩
  · go_simp; rfl
  simp only [Act.put, List.setIfInBounds_toArray, List.set_cons_succ, List.set_cons_zero] at ha
  subst ha
  refine wpSeq_take (by kernel_rfl) (by kernel_rfl) ?_
  apply Exists.intro
  refine ⟨fun wx hS => ?_, fun a' ha => ?_⟩
  · go_simp; rfl
  simp only [Act.put, List.setIfInBounds_toArray, List.set_cons_succ, List.set_cons_zero] at ha
  subst ha
  refine wpSeq_take (by kernel_rfl) (by kernel_rfl) ?_
  apply Exists.intro
  refine ⟨fun wx hS => ?_, fun a' ha => ?_⟩
  · have c0 : wx.cell? ⟨b, 0, none⟩ = some (.map (some g)) := blk_cell (hS.get S1.out.blk (by simp)) rfl; go_simp; rfl
  simp only [Act.put, List.setIfInBounds_toArray, List.set_cons_succ, List.set_cons_zero] at ha
  subst ha
  refine wpSeq_take (by kernel_rfl) (by kernel_rfl) ?_
  apply Exists.intro
  refine ⟨fun wx hS => ?_, fun a' ha => ?_⟩
  · go_simp; rfl
  simp only [Act.put, List.setIfInBounds_toArray, List.set_cons_succ, List.set_cons_zero] at ha
  subst ha
  refine wpSeq_take (by kernel_rfl) (by kernel_rfl) ?_
  apply Exists.intro
  refine ⟨fun wx hS => ?_, fun a' ha => ?_⟩
  · have c0 : wx.cell? ⟨B, 3, none⟩ = some (.slice (some ⟨bk, ok, none⟩) c.keys.length cp) := blk_cell (hS.get CB.out (by simp)) rfl; go_simp; rfl
  simp only [Act.put, List.setIfInBounds_toArray, List.set_cons_succ, List.set_cons_zero] at ha
  subst ha
  refine wpSeq_take (by kernel_rfl) (by kernel_rfl) ?_
  apply Exists.intro
  refine ⟨fun wx hS => ?_, fun a' ha => ?_⟩
  · go_simp; rfl
  simp only [Act.put, List.setIfInBounds_toArray, List.set_cons_succ, List.set_cons_zero] at ha
  subst ha
  refine wpSeq_take (by kernel_rfl) (by kernel_rfl) ?_
  apply Exists.intro
  refine ⟨fun wx hS => ?_, fun a' ha => ?_⟩
  · have c0 := cell_upd K1.out hS (by simp); go_simp; rfl
  simp only [Act.put, List.setIfInBounds_toArray, List.set_cons_succ, List.set_cons_zero] at ha
  subst ha
  refine wpSeq_take (by kernel_rfl) (by kernel_rfl) ?_
  apply Exists.intro
  refine ⟨fun wx hS => ?_, fun a' ha => ?_⟩
  · have c0 := LK.out wx hS; go_simp; rfl
  simp only [Act.put, List.setIfInBounds_toArray, List.set_cons_succ, List.set_cons_zero] at ha
  subst ha
  refine wpSeq_take (by kernel_rfl) (by kernel_rfl) ?_
  apply Exists.intro
  refine ⟨fun wx hS => ?_, fun a' ha => ?_⟩
  · go_simp; rfl
  simp only [Act.put, List.setIfInBounds_toArray, List.set_cons_succ, List.set_cons_zero] at ha
  subst ha
  refine wpSeq_take (by kernel_rfl) (by kernel_rfl) ?_
  apply Exists.intro
  refine ⟨fun wx hS => ?_, fun a' ha => ?_⟩
  · go_simp; rfl
  simp only [Act.put, List.setIfInBounds_toArray, List.set_cons_succ, List.set_cons_zero] at ha
  subst ha
  refine wpSeq_take (by kernel_rfl) (by kernel_rfl) ?_
  apply Exists.intro
  refine ⟨fun wx hS => ?_, fun a' ha => ?_⟩
  · go_simp; rfl
  simp only [Act.put, List.setIfInBounds_toArray, List.set_cons_succ, List.set_cons_zero] at ha
  subst ha
  refine wpSeq_take (by kernel_rfl) (by kernel_rfl) ?_
  apply Exists.intro
  refine ⟨fun wx hS => ?_, fun a' ha => ?_⟩
  · go_simp; rfl
  simp only [Act.put, List.setIfInBounds_toArray, List.set_cons_succ, List.set_cons_zero] at ha
  subst ha
  refine wpSeq_take (by kernel_rfl) (by kernel_rfl) ?_
  apply Exists.intro
  refine ⟨fun wx hS => ?_, fun a' ha => ?_⟩
  · go_simp; rfl
  simp only [Act.put, List.setIfInBounds_toArray, List.set_cons_succ, List.set_cons_zero] at ha
  subst ha
  unfold wpSeq
  have CR1 : Hid ((w1.drewN 1).heap[B + 1]? = some (.cells #[.int .u8 0, .string ⟨#[]⟩] TRp (0, 0))) := CR
  obtain ⟨y, hy⟩ : ∃ y, (mfind m k).getD [48] = y := ⟨_, rfl⟩
  have HY := hide hy
  have hyl := old_len OK.out hy
  clear hy
  go_upto_if 23 with fail
  go_cut [5] (fun s wx => s = .string (strOf y) ∧ wx = w1.drewN 1)
  case first =>
    cases is with
    | false =>
      have hs : (⟨#[48]⟩ : ByteArray) = strOf y := by rw [old_y0 HY.out HO.out HIS.out]; rfl
      have HS := hide hs
      clear hs
      go_wp2_with fail
      go_meet
      exact ⟨by rw [HS.out], rfl⟩
    | true =>
      have HS := hide (old_y1 HY.out HO.out HX.out HIS.out)
      go_wp2_with fail
      go_meet
      exact ⟨by rw [HS.out], rfl⟩
  case rest =>
    obtain ⟨rfl, rfl⟩ := hcut
    go_wp2_with fail
    by_cases hp : ∃ n, Lib.parseIntB 64 y = .ok n
    · obtain ⟨n, hn⟩ := hp
      refine (parse_ok (w1.drewN 1) (by omega) hn).mono ?_
      rintro e w2 ⟨rfl, hu2⟩
      have S2 := hide (S1.out.upd_nil hu2); have CB2 := hide (hu2.get (show (w1.drewN 1).heap[B]? = _ from CB.out) (by simp)); have CR2 := hide (hu2.get CR1.out (by simp)); have K2 := hide (cell_upd K1.out hu2 (by simp))
      have U2 := hide ((U1.out.drewN 1).trans hu2); have HN := hide hn; have ENV2 := hide (ENV.out.upd_nil ((U1.out.drewN 1).trans hu2))
      have b6 : w2.cell? ⟨B, 6, none⟩ = some (.int .i64 c.n) := blk_cell CB2.out rfl
      have hnb := parse_bounds HN.out
      clear hu2 hn
      go_wp2_with fail
      refine (fmt_any w2 ENV2.out hnb.1 hnb.2).mono ?_
      rintro e w3 ⟨rfl, hu3⟩
      have S3 := hide (S2.out.upd_nil hu3); have CB3 := hide (hu3.get CB2.out (by simp)); have CR3 := hide (hu3.get CR2.out (by simp)); have K3 := hide (cell_upd K2.out hu3 (by simp))
      have U3 := hide (U2.out.trans hu3); have ENV3 := hide (ENV2.out.upd_nil hu3)
      have b6 : w3.cell? ⟨B, 6, none⟩ = some (.int .i64 c.n) := blk_cell CB3.out rfl
      clear hu3
      by_cases h1 : Lib.itoa n = y
      · have e1 : ((strOf (Lib.itoa n)).toList == (strOf y).toList) = true := by rw [h1]; simp
        have HE := hide h1
        clear h1
        obtain ⟨s, hs⟩ : ∃ s, RowKit.wrap64 (n + c.n) = s := ⟨_, rfl⟩
        rw [hs]
        have HS := hide hs
        clear hs
        obtain ⟨q1, p1⟩ : ∃ q, decide (n < s) = q := ⟨_, rfl⟩
        obtain ⟨q2, p2⟩ : ∃ q, decide (0 < c.n) = q := ⟨_, rfl⟩
        have H1 := hide p1; have H2 := hide p2
        cases q1 with
        | false => cases q2 with
          | false =>
            have hb := sum_ok hnb (by have := FIT.out; exact ⟨this.2.2.2.1, this.2.2.2.2.1⟩) HS.out H1.out H2.out rfl
            have HG := hide (addM_good HR.out HY.out HN.out HE.out hb.1)
            have HSS := hide hb.2
            have hsb : -9223372036854775808 ≤ s ∧ s ≤ 9223372036854775807 := by
              have h1 := hb.1
              unfold fits at h1
              rw [← hb.2] at h1
              simpa using h1
            have HSB := hide hsb
            clear hb hsb
            go_upto_region 8 with fail
            refine wp_region_seq add8 (by kernel_rfl) [9, 10] (Upd [g] (w3.drewN 1)) (by kernel_rfl) (by kernel_rfl) (fun _ _ d _ _ h => by cases d <;> exact h) (Upd.refl _ _) ?_
            refine wpSeq_take (by kernel_rfl) (by kernel_rfl) ?_
            apply Exists.intro
            refine ⟨fun wx hS => ?_, fun a' ha => ?_⟩
            · go_simp; rfl
            simp only [Act.put, List.setIfInBounds_toArray, List.set_cons_succ, List.set_cons_zero] at ha
            subst ha
            refine wpSeq_take (by kernel_rfl) (by kernel_rfl) ?_
            apply Exists.intro
            refine ⟨fun wx hS => ?_, fun a' ha => ?_⟩
            · go_simp; rfl
            simp only [Act.put, List.setIfInBounds_toArray, List.set_cons_succ, List.set_cons_zero] at ha
            subst ha
            refine wpSeq_take (by kernel_rfl) (by kernel_rfl) ?_
            apply Exists.intro
            refine ⟨fun wx hS => ?_, fun a' ha => ?_⟩
            · go_simp; rfl
            simp only [Act.put, List.setIfInBounds_toArray, List.set_cons_succ, List.set_cons_zero] at ha
            subst ha
            refine wpSeq_take (by kernel_rfl) (by kernel_rfl) ?_
            apply Exists.intro
            refine ⟨fun wx hS => ?_, fun a' ha => ?_⟩
            · have c0 : wx.cell? ⟨b, 0, none⟩ = some (.map (some g)) := blk_cell (hS.get (show (w3.drewN 1).heap[b]? = _ from S3.out.blk) (by simpa using hne)) rfl; go_simp; rfl
            simp only [Act.put, List.setIfInBounds_toArray, List.set_cons_succ, List.set_cons_zero] at ha
            subst ha
            refine wpSeq_take (by kernel_rfl) (by kernel_rfl) ?_
            apply Exists.intro
            refine ⟨fun wx hS => ?_, fun a' ha => ?_⟩
            · go_simp; rfl
            simp only [Act.put, List.setIfInBounds_toArray, List.set_cons_succ, List.set_cons_zero] at ha
            subst ha
            refine wpSeq_take (by kernel_rfl) (by kernel_rfl) ?_
            apply Exists.intro
            refine ⟨fun wx hS => ?_, fun a' ha => ?_⟩
            · have c0 : wx.cell? ⟨B, 3, none⟩ = some (.slice (some ⟨bk, ok, none⟩) c.keys.length cp) := blk_cell (hS.get (show (w3.drewN 1).heap[B]? = _ from CB3.out) (by simpa using hneB)) rfl; go_simp; rfl
            simp only [Act.put, List.setIfInBounds_toArray, List.set_cons_succ, List.set_cons_zero] at ha
            subst ha
            refine wpSeq_take (by kernel_rfl) (by kernel_rfl) ?_
            apply Exists.intro
            refine ⟨fun wx hS => ?_, fun a' ha => ?_⟩
            · go_simp; rfl
            simp only [Act.put, List.setIfInBounds_toArray, List.set_cons_succ, List.set_cons_zero] at ha
            subst ha
            refine wpSeq_take (by kernel_rfl) (by kernel_rfl) ?_
            apply Exists.intro
            refine ⟨fun wx hS => ?_, fun a' ha => ?_⟩
            · have c0 := cell_upd (w := w3.drewN 1) K3.out hS (by simpa using hneK); go_simp; rfl
            simp only [Act.put, List.setIfInBounds_toArray, List.set_cons_succ, List.set_cons_zero] at ha
            subst ha
            refine wpSeq_take (by kernel_rfl) (by kernel_rfl) ?_
            apply Exists.intro
            refine ⟨fun wx hS => ?_, fun a' ha => ?_⟩
            · go_simp; rfl
            simp only [Act.put, List.setIfInBounds_toArray, List.set_cons_succ, List.set_cons_zero] at ha
            subst ha
            refine wpSeq_one (by kernel_rfl) (by kernel_rfl) (fun K hK => ?_)
            go_simp
            refine (fmt_any (w3.drewN 1) (ENV3.out.upd_nil ((Upd.refl [] w3).drewN 1)) HSB.out.1 HSB.out.2).mono ?_
            rintro e w4 ⟨rfl, hu4⟩
            have hv4 : Upd [g] (w3.drewN 1) w4 := hu4.mono (by simp)
            have S4 := hide (S3.out.upd_nil (((Upd.refl [] w3).drewN 1).trans hu4)); have V4 := hide hv4
            clear hu4
            refine hK _ _ (hv4) ?_
            clear hK K
            try simp only [Act.put, List.setIfInBounds_toArray, List.set_cons_succ, List.set_cons_zero]
            clear hv4
            refine wpSeq_one (by kernel_rfl) (by kernel_rfl) (fun K hK => ?_)
            obtain ⟨w5, hr, hm, hu5⟩ := MapKind.store S4.out.map (k := k) (v := Lib.itoa s) hkm (by have := Lib.itoa_length_le s HSB.out.1 HSB.out.2; show _ ≤ maxLen; unfold maxLen; omega) (by unfold maxLen; omega)
            have hr' : (Instr.mapUpdate 113 (.map (some g)) (.string (strOf k)) (.string (strOf (Lib.itoa s)))).run Tryz.prog w4 = .ok () w5 := hr
            go_simp
            have hv5 : Upd [g] w3 w5 := ((Upd.refl [g] w3).drewN 1).trans (V4.out.trans hu5)
            have S5 := hide (S4.out.turn hu5 hm); have V5 := hide hv5
            have CB5 := hide (hv5.get CB3.out (by simpa using hneB)); have CR5 := hide (hv5.get CR3.out (by simpa using hneR)); have K5 := hide (cell_upd K3.out hv5 (by simpa using hneK))
            clear hr hr' hm hv5
            refine hK _ _ (V4.out.trans hu5) ?_
            clear hK K
            try simp only [Act.put, List.setIfInBounds_toArray, List.set_cons_succ, List.set_cons_zero]
            clear hu5
            unfold wpSeq
            go_upto_region 9 with fail
            have hbkl := World.block_lt_of_cell? w _ KC.out
            have hBs := KB.out
            have hlk : ∀ wx, Upd [B + 1] (w5.drewN 1) wx → (Instr.lookup 113 (.map (some g)) (.string (strOf k)) false).run Tryz.prog wx = .ok (.string (strOf (Lib.itoa s))) wx := fun wx hS => by
              have := MapKind.look1 (MapKind.is_upd (MapKind.is_upd_nil S5.out.map ((Upd.refl [] w5).drewN 1)) hS (by simp; omega)) (k := k) hkm
              rw [mfind_put, if_pos rfl] at this
              exact this
            have LK5 := hide hlk
            clear hlk hBs
            refine wp_region_seq add9 (by kernel_rfl) [9, 10] (Upd [B + 1] (w5.drewN 1)) (by kernel_rfl) (by kernel_rfl) (fun _ _ d _ _ h => by cases d <;> exact h) (Upd.refl _ _) ?_
            refine wpSeq_take (by kernel_rfl) (by kernel_rfl) ?_
            apply Exists.intro
            refine ⟨fun wx hS => ?_, fun a' ha => ?_⟩
            · go_simp; rfl
            simp only [Act.put, List.setIfInBounds_toArray, List.set_cons_succ, List.set_cons_zero] at ha
            subst ha
            refine wpSeq_take (by kernel_rfl) (by kernel_rfl) ?_
            apply Exists.intro
            refine ⟨fun wx hS => ?_, fun a' ha => ?_⟩
            · go_simp; rfl
            simp only [Act.put, List.setIfInBounds_toArray, List.set_cons_succ, List.set_cons_zero] at ha
            subst ha
            refine wpSeq_take (by kernel_rfl) (by kernel_rfl) ?_
            apply Exists.intro
            refine ⟨fun wx hS => ?_, fun a' ha => ?_⟩
            · go_simp; rfl
            simp only [Act.put, List.setIfInBounds_toArray, List.set_cons_succ, List.set_cons_zero] at ha
            subst ha
            refine wpSeq_take (by kernel_rfl) (by kernel_rfl) ?_
            apply Exists.intro
            refine ⟨fun wx hS => ?_, fun a' ha => ?_⟩
            · have c0 : wx.cell? ⟨b, 0, none⟩ = some (.map (some g)) := blk_cell (hS.get (show (w5.drewN 1).heap[b]? = _ from S5.out.blk) (by have := KB.out; simp; omega)) rfl; go_simp; rfl
            simp only [Act.put, List.setIfInBounds_toArray, List.set_cons_succ, List.set_cons_zero] at ha
            subst ha
            refine wpSeq_take (by kernel_rfl) (by kernel_rfl) ?_
            apply Exists.intro
            refine ⟨fun wx hS => ?_, fun a' ha => ?_⟩
            · go_simp; rfl
            simp only [Act.put, List.setIfInBounds_toArray, List.set_cons_succ, List.set_cons_zero] at ha
            subst ha
            refine wpSeq_take (by kernel_rfl) (by kernel_rfl) ?_
            apply Exists.intro
            refine ⟨fun wx hS => ?_, fun a' ha => ?_⟩
            · have c0 : wx.cell? ⟨B, 3, none⟩ = some (.slice (some ⟨bk, ok, none⟩) c.keys.length cp) := blk_cell (hS.get (show (w5.drewN 1).heap[B]? = _ from CB5.out) (by simp)) rfl; go_simp; rfl
            simp only [Act.put, List.setIfInBounds_toArray, List.set_cons_succ, List.set_cons_zero] at ha
            subst ha
            refine wpSeq_take (by kernel_rfl) (by kernel_rfl) ?_
            apply Exists.intro
            refine ⟨fun wx hS => ?_, fun a' ha => ?_⟩
            · go_simp; rfl
            simp only [Act.put, List.setIfInBounds_toArray, List.set_cons_succ, List.set_cons_zero] at ha
            subst ha
            refine wpSeq_take (by kernel_rfl) (by kernel_rfl) ?_
            apply Exists.intro
            refine ⟨fun wx hS => ?_, fun a' ha => ?_⟩
            · have c0 := cell_upd (w := w5.drewN 1) K5.out hS (by have := KB.out; simp; omega); go_simp; rfl
            simp only [Act.put, List.setIfInBounds_toArray, List.set_cons_succ, List.set_cons_zero] at ha
            subst ha
            refine wpSeq_take (by kernel_rfl) (by kernel_rfl) ?_
            apply Exists.intro
            refine ⟨fun wx hS => ?_, fun a' ha => ?_⟩
            · have c0 := LK5.out wx hS; go_simp; rfl
            simp only [Act.put, List.setIfInBounds_toArray, List.set_cons_succ, List.set_cons_zero] at ha
            subst ha
            refine wpSeq_one (by kernel_rfl) (by kernel_rfl) (fun K hK => ?_)
            go_simp
            refine (done_any (Lib.itoa s) (w5.drewN 1)).mono ?_
            rintro e w6 ⟨rfl, hu6⟩
            unfold rpv
            have hv6 : Upd [B + 1] (w5.drewN 1) w6 := hu6.mono (by simp)
            have S6 := hide (S5.out.upd_nil (((Upd.refl [] w5).drewN 1).trans hu6)); have V6 := hide (((Upd.refl [] w5).drewN 1).trans hu6); have CR6 := hide ((((Upd.refl [] w5).drewN 1).trans hu6).get CR5.out (by simp))
            have HV6 := hide hv6
            clear hu6
            refine hK _ _ (hv6) ?_
            clear hK K
            try simp only [Act.put, List.setIfInBounds_toArray, List.set_cons_succ, List.set_cons_zero]
            clear hv6
            refine wpSeq_one (by kernel_rfl) (by kernel_rfl) (fun K hK => ?_)
            obtain ⟨z0, z1, f0, f1, z2, f2⟩ := res_facts CR6.out
            go_simp
            have hW := upd2 w6 (B + 1) (.int .u8 0) (.string (strOf (Lib.itoa s)))
            refine hK _ _ (HV6.out.trans hW) ?_
            clear hK K
            try simp only [Act.put, List.setIfInBounds_toArray, List.set_cons_succ, List.set_cons_zero]
            unfold wpSeq
            clear z0 z1 f0 f1 z2 f2
            go_wp2_with fail
            have hBs := KB.out
            have hr1 : rpv r.2 = .agg #[.int .u8 0, .string (strOf (Lib.itoa s))] := add_good1 HG.out HSS.out
            have hr2 : r.1 = mput kvK.K m k (Lib.itoa s) := add_good2 HG.out HSS.out
            have hS7 := S6.out.upd hW (by simp; omega) (by simp; omega)
            have hU7 := (((U3.out.mono (by simp)).trans V5.out).trans (V6.out.mono (by simp))).trans_new hW (fun k hk => .inr (by simp at hk; omega))
            have hW7 := stored2 (v0 := .int .u8 0) (v1 := .string (strOf (Lib.itoa s))) CR6.out
            generalize (w6.setCell ⟨B + 1, 0, none⟩ (.int .u8 0)).setCell ⟨B + 1, 1, none⟩ (.string (strOf (Lib.itoa s))) = w7 at *
            rw [hr1, hr2]
            exact ret_rp hW7 rfl rfl rfl ⟨rfl, hS7, hU7⟩
          | true =>
            have hb := sum_bad hnb (by have := FIT.out; exact ⟨this.2.2.2.1, this.2.2.2.2.1⟩) HS.out H1.out H2.out (by decide)
            have n0 := hb.2
            have HG := hide (addM_bad3 HR.out HY.out HN.out HE.out hb.1)
            obtain ⟨z0, z1, f0, f1, z2, f2⟩ := res_facts CR3.out
            clear hb
            go_wp2_with fail
            have hW := upd2 w3 (B + 1) (.int .u8 2) (.string ⟨#[]⟩)
            have hBs := KB.out
            exact ret_rp (stored2 CR3.out) rfl rfl rfl ⟨by rw [HG.out]; rfl, by rw [HG.out]; exact S3.out.upd hW (by simp; omega) (by simp; omega), (U3.out.mono (by simp)).trans_new hW (fun k hk => .inr (by simp at hk; omega))⟩
        | true => cases q2 with
          | false =>
            have hb := sum_bad hnb (by have := FIT.out; exact ⟨this.2.2.2.1, this.2.2.2.2.1⟩) HS.out H1.out H2.out (by decide)
            have n0 := hb.2
            have HG := hide (addM_bad3 HR.out HY.out HN.out HE.out hb.1)
            obtain ⟨z0, z1, f0, f1, z2, f2⟩ := res_facts CR3.out
            clear hb
            go_wp2_with fail
            have hW := upd2 w3 (B + 1) (.int .u8 2) (.string ⟨#[]⟩)
            have hBs := KB.out
            exact ret_rp (stored2 CR3.out) rfl rfl rfl ⟨by rw [HG.out]; rfl, by rw [HG.out]; exact S3.out.upd hW (by simp; omega) (by simp; omega), (U3.out.mono (by simp)).trans_new hW (fun k hk => .inr (by simp at hk; omega))⟩
          | true =>
            have hb := sum_ok hnb (by have := FIT.out; exact ⟨this.2.2.2.1, this.2.2.2.2.1⟩) HS.out H1.out H2.out rfl
            have HG := hide (addM_good HR.out HY.out HN.out HE.out hb.1)
            have HSS := hide hb.2
            have hsb : -9223372036854775808 ≤ s ∧ s ≤ 9223372036854775807 := by
              have h1 := hb.1
              unfold fits at h1
              rw [← hb.2] at h1
              simpa using h1
            have HSB := hide hsb
            clear hb hsb
            go_upto_region 8 with fail
            refine wp_region_seq add8 (by kernel_rfl) [9, 10] (Upd [g] (w3.drewN 1)) (by kernel_rfl) (by kernel_rfl) (fun _ _ d _ _ h => by cases d <;> exact h) (Upd.refl _ _) ?_
            refine wpSeq_take (by kernel_rfl) (by kernel_rfl) ?_
            apply Exists.intro
            refine ⟨fun wx hS => ?_, fun a' ha => ?_⟩
            · go_simp; rfl
            simp only [Act.put, List.setIfInBounds_toArray, List.set_cons_succ, List.set_cons_zero] at ha
            subst ha
            refine wpSeq_take (by kernel_rfl) (by kernel_rfl) ?_
            apply Exists.intro
            refine ⟨fun wx hS => ?_, fun a' ha => ?_⟩
            · go_simp; rfl
            simp only [Act.put, List.setIfInBounds_toArray, List.set_cons_succ, List.set_cons_zero] at ha
            subst ha
            refine wpSeq_take (by kernel_rfl) (by kernel_rfl) ?_
            apply Exists.intro
            refine ⟨fun wx hS => ?_, fun a' ha => ?_⟩
            · go_simp; rfl
            simp only [Act.put, List.setIfInBounds_toArray, List.set_cons_succ, List.set_cons_zero] at ha
            subst ha
            refine wpSeq_take (by kernel_rfl) (by kernel_rfl) ?_
            apply Exists.intro
            refine ⟨fun wx hS => ?_, fun a' ha => ?_⟩
            · have c0 : wx.cell? ⟨b, 0, none⟩ = some (.map (some g)) := blk_cell (hS.get (show (w3.drewN 1).heap[b]? = _ from S3.out.blk) (by simpa using hne)) rfl; go_simp; rfl
            simp only [Act.put, List.setIfInBounds_toArray, List.set_cons_succ, List.set_cons_zero] at ha
            subst ha
            refine wpSeq_take (by kernel_rfl) (by kernel_rfl) ?_
            apply Exists.intro
            refine ⟨fun wx hS => ?_, fun a' ha => ?_⟩
            · go_simp; rfl
            simp only [Act.put, List.setIfInBounds_toArray, List.set_cons_succ, List.set_cons_zero] at ha
            subst ha
            refine wpSeq_take (by kernel_rfl) (by kernel_rfl) ?_
            apply Exists.intro
            refine ⟨fun wx hS => ?_, fun a' ha => ?_⟩
            · have c0 : wx.cell? ⟨B, 3, none⟩ = some (.slice (some ⟨bk, ok, none⟩) c.keys.length cp) := blk_cell (hS.get (show (w3.drewN 1).heap[B]? = _ from CB3.out) (by simpa using hneB)) rfl; go_simp; rfl
            simp only [Act.put, List.setIfInBounds_toArray, List.set_cons_succ, List.set_cons_zero] at ha
            subst ha
            refine wpSeq_take (by kernel_rfl) (by kernel_rfl) ?_
            apply Exists.intro
            refine ⟨fun wx hS => ?_, fun a' ha => ?_⟩
            · go_simp; rfl
            simp only [Act.put, List.setIfInBounds_toArray, List.set_cons_succ, List.set_cons_zero] at ha
            subst ha
            refine wpSeq_take (by kernel_rfl) (by kernel_rfl) ?_
            apply Exists.intro
            refine ⟨fun wx hS => ?_, fun a' ha => ?_⟩
            · have c0 := cell_upd (w := w3.drewN 1) K3.out hS (by simpa using hneK); go_simp; rfl
            simp only [Act.put, List.setIfInBounds_toArray, List.set_cons_succ, List.set_cons_zero] at ha
            subst ha
            refine wpSeq_take (by kernel_rfl) (by kernel_rfl) ?_
            apply Exists.intro
            refine ⟨fun wx hS => ?_, fun a' ha => ?_⟩
            · go_simp; rfl
            simp only [Act.put, List.setIfInBounds_toArray, List.set_cons_succ, List.set_cons_zero] at ha
            subst ha
            refine wpSeq_one (by kernel_rfl) (by kernel_rfl) (fun K hK => ?_)
            go_simp
            refine (fmt_any (w3.drewN 1) (ENV3.out.upd_nil ((Upd.refl [] w3).drewN 1)) HSB.out.1 HSB.out.2).mono ?_
            rintro e w4 ⟨rfl, hu4⟩
            have hv4 : Upd [g] (w3.drewN 1) w4 := hu4.mono (by simp)
            have S4 := hide (S3.out.upd_nil (((Upd.refl [] w3).drewN 1).trans hu4)); have V4 := hide hv4
            clear hu4
            refine hK _ _ (hv4) ?_
            clear hK K
            try simp only [Act.put, List.setIfInBounds_toArray, List.set_cons_succ, List.set_cons_zero]
            clear hv4
            refine wpSeq_one (by kernel_rfl) (by kernel_rfl) (fun K hK => ?_)
            obtain ⟨w5, hr, hm, hu5⟩ := MapKind.store S4.out.map (k := k) (v := Lib.itoa s) hkm (by have := Lib.itoa_length_le s HSB.out.1 HSB.out.2; show _ ≤ maxLen; unfold maxLen; omega) (by unfold maxLen; omega)
            have hr' : (Instr.mapUpdate 113 (.map (some g)) (.string (strOf k)) (.string (strOf (Lib.itoa s)))).run Tryz.prog w4 = .ok () w5 := hr
            go_simp
            have hv5 : Upd [g] w3 w5 := ((Upd.refl [g] w3).drewN 1).trans (V4.out.trans hu5)
            have S5 := hide (S4.out.turn hu5 hm); have V5 := hide hv5
            have CB5 := hide (hv5.get CB3.out (by simpa using hneB)); have CR5 := hide (hv5.get CR3.out (by simpa using hneR)); have K5 := hide (cell_upd K3.out hv5 (by simpa using hneK))
            clear hr hr' hm hv5
            refine hK _ _ (V4.out.trans hu5) ?_
            clear hK K
            try simp only [Act.put, List.setIfInBounds_toArray, List.set_cons_succ, List.set_cons_zero]
            clear hu5
            unfold wpSeq
            go_upto_region 9 with fail
            have hbkl := World.block_lt_of_cell? w _ KC.out
            have hBs := KB.out
            have hlk : ∀ wx, Upd [B + 1] (w5.drewN 1) wx → (Instr.lookup 113 (.map (some g)) (.string (strOf k)) false).run Tryz.prog wx = .ok (.string (strOf (Lib.itoa s))) wx := fun wx hS => by
              have := MapKind.look1 (MapKind.is_upd (MapKind.is_upd_nil S5.out.map ((Upd.refl [] w5).drewN 1)) hS (by simp; omega)) (k := k) hkm
              rw [mfind_put, if_pos rfl] at this
              exact this
            have LK5 := hide hlk
            clear hlk hBs
            refine wp_region_seq add9 (by kernel_rfl) [9, 10] (Upd [B + 1] (w5.drewN 1)) (by kernel_rfl) (by kernel_rfl) (fun _ _ d _ _ h => by cases d <;> exact h) (Upd.refl _ _) ?_
            refine wpSeq_take (by kernel_rfl) (by kernel_rfl) ?_
            apply Exists.intro
            refine ⟨fun wx hS => ?_, fun a' ha => ?_⟩
            · go_simp; rfl
            simp only [Act.put, List.setIfInBounds_toArray, List.set_cons_succ, List.set_cons_zero] at ha
            subst ha
            refine wpSeq_take (by kernel_rfl) (by kernel_rfl) ?_
            apply Exists.intro
            refine ⟨fun wx hS => ?_, fun a' ha => ?_⟩
            · go_simp; rfl
            simp only [Act.put, List.setIfInBounds_toArray, List.set_cons_succ, List.set_cons_zero] at ha
            subst ha
            refine wpSeq_take (by kernel_rfl) (by kernel_rfl) ?_
            apply Exists.intro
            refine ⟨fun wx hS => ?_, fun a' ha => ?_⟩
            · go_simp; rfl
            simp only [Act.put, List.setIfInBounds_toArray, List.set_cons_succ, List.set_cons_zero] at ha
            subst ha
            refine wpSeq_take (by kernel_rfl) (by kernel_rfl) ?_
            apply Exists.intro
            refine ⟨fun wx hS => ?_, fun a' ha => ?_⟩
            · have c0 : wx.cell? ⟨b, 0, none⟩ = some (.map (some g)) := blk_cell (hS.get (show (w5.drewN 1).heap[b]? = _ from S5.out.blk) (by have := KB.out; simp; omega)) rfl; go_simp; rfl
            simp only [Act.put, List.setIfInBounds_toArray, List.set_cons_succ, List.set_cons_zero] at ha
            subst ha
            refine wpSeq_take (by kernel_rfl) (by kernel_rfl) ?_
            apply Exists.intro
            refine ⟨fun wx hS => ?_, fun a' ha => ?_⟩
            · go_simp; rfl
            simp only [Act.put, List.setIfInBounds_toArray, List.set_cons_succ, List.set_cons_zero] at ha
            subst ha
            refine wpSeq_take (by kernel_rfl) (by kernel_rfl) ?_
            apply Exists.intro
            refine ⟨fun wx hS => ?_, fun a' ha => ?_⟩
            · have c0 : wx.cell? ⟨B, 3, none⟩ = some (.slice (some ⟨bk, ok, none⟩) c.keys.length cp) := blk_cell (hS.get (show (w5.drewN 1).heap[B]? = _ from CB5.out) (by simp)) rfl; go_simp; rfl
            simp only [Act.put, List.setIfInBounds_toArray, List.set_cons_succ, List.set_cons_zero] at ha
            subst ha
            refine wpSeq_take (by kernel_rfl) (by kernel_rfl) ?_
            apply Exists.intro
            refine ⟨fun wx hS => ?_, fun a' ha => ?_⟩
            · go_simp; rfl
            simp only [Act.put, List.setIfInBounds_toArray, List.set_cons_succ, List.set_cons_zero] at ha
            subst ha
            refine wpSeq_take (by kernel_rfl) (by kernel_rfl) ?_
            apply Exists.intro
            refine ⟨fun wx hS => ?_, fun a' ha => ?_⟩
            · have c0 := cell_upd (w := w5.drewN 1) K5.out hS (by have := KB.out; simp; omega); go_simp; rfl
            simp only [Act.put, List.setIfInBounds_toArray, List.set_cons_succ, List.set_cons_zero] at ha
            subst ha
            refine wpSeq_take (by kernel_rfl) (by kernel_rfl) ?_
            apply Exists.intro
            refine ⟨fun wx hS => ?_, fun a' ha => ?_⟩
            · have c0 := LK5.out wx hS; go_simp; rfl
            simp only [Act.put, List.setIfInBounds_toArray, List.set_cons_succ, List.set_cons_zero] at ha
            subst ha
            refine wpSeq_one (by kernel_rfl) (by kernel_rfl) (fun K hK => ?_)
            go_simp
            refine (done_any (Lib.itoa s) (w5.drewN 1)).mono ?_
            rintro e w6 ⟨rfl, hu6⟩
            unfold rpv
            have hv6 : Upd [B + 1] (w5.drewN 1) w6 := hu6.mono (by simp)
            have S6 := hide (S5.out.upd_nil (((Upd.refl [] w5).drewN 1).trans hu6)); have V6 := hide (((Upd.refl [] w5).drewN 1).trans hu6); have CR6 := hide ((((Upd.refl [] w5).drewN 1).trans hu6).get CR5.out (by simp))
            have HV6 := hide hv6
            clear hu6
            refine hK _ _ (hv6) ?_
            clear hK K
            try simp only [Act.put, List.setIfInBounds_toArray, List.set_cons_succ, List.set_cons_zero]
            clear hv6
            refine wpSeq_one (by kernel_rfl) (by kernel_rfl) (fun K hK => ?_)
            obtain ⟨z0, z1, f0, f1, z2, f2⟩ := res_facts CR6.out
            go_simp
            have hW := upd2 w6 (B + 1) (.int .u8 0) (.string (strOf (Lib.itoa s)))
            refine hK _ _ (HV6.out.trans hW) ?_
            clear hK K
            try simp only [Act.put, List.setIfInBounds_toArray, List.set_cons_succ, List.set_cons_zero]
            unfold wpSeq
            clear z0 z1 f0 f1 z2 f2
            go_wp2_with fail
            have hBs := KB.out
            have hr1 : rpv r.2 = .agg #[.int .u8 0, .string (strOf (Lib.itoa s))] := add_good1 HG.out HSS.out
            have hr2 : r.1 = mput kvK.K m k (Lib.itoa s) := add_good2 HG.out HSS.out
            have hS7 := S6.out.upd hW (by simp; omega) (by simp; omega)
            have hU7 := (((U3.out.mono (by simp)).trans V5.out).trans (V6.out.mono (by simp))).trans_new hW (fun k hk => .inr (by simp at hk; omega))
            have hW7 := stored2 (v0 := .int .u8 0) (v1 := .string (strOf (Lib.itoa s))) CR6.out
            generalize (w6.setCell ⟨B + 1, 0, none⟩ (.int .u8 0)).setCell ⟨B + 1, 1, none⟩ (.string (strOf (Lib.itoa s))) = w7 at *
            rw [hr1, hr2]
            exact ret_rp hW7 rfl rfl rfl ⟨rfl, hS7, hU7⟩
      · have e1 : ((strOf (Lib.itoa n)).toList == (strOf y).toList) = false := by simpa using fun e => h1 (strOf_tl e)
        have HG := hide (addM_bad2 HR.out HY.out HN.out h1)
        obtain ⟨z0, z1, f0, f1, z2, f2⟩ := res_facts CR3.out
        clear h1
        go_wp2_with fail
        have hW := upd2 w3 (B + 1) (.int .u8 2) (.string ⟨#[]⟩)
        have hBs := KB.out
        exact ret_rp (stored2 CR3.out) rfl rfl rfl ⟨by rw [HG.out]; rfl, by rw [HG.out]; exact S3.out.upd hW (by simp; omega) (by simp; omega), (U3.out.mono (by simp)).trans_new hW (fun k hk => .inr (by simp at hk; omega))⟩
    · refine (parse_bad (w1.drewN 1) (ENV.out.upd_nil (U1.out.drewN 1)) (by omega) (fun n hn => hp ⟨n, hn⟩)).mono ?_
      rintro e w2 ⟨⟨z, ty, q, rfl, z1, z2⟩, hu2⟩
      have S2 := hide (S1.out.upd_nil hu2); have CB2 := hide (hu2.get (show (w1.drewN 1).heap[B]? = _ from CB.out) (by simp)); have CR2 := hide (hu2.get CR1.out (by simp))
      have U2 := hide ((U1.out.drewN 1).trans hu2)
      have b6 : w2.cell? ⟨B, 6, none⟩ = some (.int .i64 c.n) := blk_cell CB2.out rfl
      have HG := hide (addM_bad HR.out HY.out hp)
      obtain ⟨z0, z1, f0, f1, z2, f2⟩ := res_facts CR2.out
      clear hu2
      go_wp2_with fail
      have hW := upd2 w2 (B + 1) (.int .u8 2) (.string ⟨#[]⟩)
      have hBs := KB.out
      exact ret_rp (stored2 CR2.out) rfl rfl rfl ⟨by rw [HG.out]; rfl, by rw [HG.out]; exact S2.out.upd hW (by simp; omega) (by simp; omega), (U2.out.mono (by simp)).trans_new hW (fun k hk => .inr (by simp at hk; omega))⟩
end Go.Proofs.YthpnnffogbjhpaaGreatDoor.Kv
