/- audit.history.stranger. -/
import Derived.Test.YtfmaflaoplkdbaaGreatDoorAuBCDE
import Derived.Test.YtfmaflaoplkdbaaGreatDoorTrIb
set_option linter.unusedSimpArgs false
set_option linter.unusedVariables false
set_option linter.unnecessarySimpa false
namespace Go.Proofs.YtfmaflaoplkdbaaGreatDoor.Au
open Go.RowKit Go.Lib Go.Proofs.YtfmaflaoplkdbaaGreatDoor.Crc Go.Proofs.YtfmaflaoplkdbaaGreatDoor.Cm Go.Proofs.YtfmaflaoplkdbaaGreatDoor.Tr
set_option linter.unusedSimpArgs false
set_option linter.unusedVariables false

set_option maxRecDepth 100000 in
set_option maxHeartbeats 2000000 in
theorem str1_any {T U : Nat → Prop} {v : Value} {a c : Cm} {D : Nat} {xc : Option Addr} {nc : Nat} (w : World) (ha : CmAt w T v a) (hD : w.heap[D]? = some (.cells #[.int .u32 (c.client : Int), .int .u32 (c.seq : Int), .int .u8 (c.kind : Int), .slice xc c.keys.length nc, .string (strOf c.old), .string (strOf c.new), .int .i64 c.n] TCmd (0, 0))) (hf : c.Fits) (hk : Strs w U (.slice xc c.keys.length nc) c.keys) :
    Calls Tryz.prog 103 #[v, .pointer (some ⟨D, 0, none⟩)] w fun e w' => e = .returned (.bool (decide (a = c))) ∧ Upd [] w w' := by
  obtain ⟨fit, ks, rfl, hks⟩ := ha
  obtain ⟨ka, kc, rfl, -, -, -⟩ := hks.get
  have KS := hide hks; have FIT := hide fit; have HK := hide hk; have HF := hide hf
  have hl := blk_lt hD
  have hx : ∀ o i v, (#[Value.int .u32 (c.client : Int), .int .u32 (c.seq : Int), .int .u8 (c.kind : Int), .slice xc c.keys.length nc, .string (strOf c.old), .string (strOf c.new), .int .i64 c.n] : Array Value)[i]? = some v → (w.alloc o).cell? ⟨D, i, none⟩ = some v := fun o i v hv => blk_cell (blk_alloc hD o) hv
  have x0 := fun o => hx o 0 _ rfl
  have x1 := fun o => hx o 1 _ rfl
  have x2 := fun o => hx o 2 _ rfl
  have x3 := fun o => hx o 3 _ rfl
  have x4 := fun o => hx o 4 _ rfl
  have x5 := fun o => hx o 5 _ rfl
  have x6 := fun o => hx o 6 _ rfl
  clear hks fit hk hf hx
  unfold cmv
  simp only [strV]
  go_enter Tryz.func103, Tryz.ntmps103
  go_wp2_with fail
  refine (csame_any (a := a) (b := c) _ ⟨FIT.out, _, rfl, KS.out.upd_nil ((Upd.refl _ _).alloc _)⟩ ⟨HF.out, _, rfl, HK.out.upd_nil ((Upd.refl _ _).alloc _)⟩).mono ?_
  rintro e w1 ⟨rfl, hu⟩
  have HU := hide (((Upd.refl [] w).alloc _).trans hu)
  clear hu
  go_wp2_with fail
  go_ret
  exact ⟨rfl, HU.out⟩
set_option maxRecDepth 100000 in
set_option maxHeartbeats 2000000 in
theorem idxh_any {T : Nat → Prop} {v : Value} {l : List Cm} {U : Nat → Prop} {c : Cm} {D : Nat} {xc : Option Addr} {nc : Nat} (w : World) (h : cmK.row w T v l) (hD : w.heap[D]? = some (.cells #[.int .u32 (c.client : Int), .int .u32 (c.seq : Int), .int .u8 (c.kind : Int), .slice xc c.keys.length nc, .string (strOf c.old), .string (strOf c.new), .int .i64 c.n] TCmd (0, 0))) (hf : c.Fits) (hkc : Strs w U (.slice xc c.keys.length nc) c.keys) :
    Calls Tryz.prog 94 #[v, .func (.func 103) #[] #[.pointer (some ⟨D, 0, none⟩)]] w fun e w' => e = .returned (.int .i64 (idxI (l.findIdx? fun x => decide (x = c)))) ∧ Upd [] w w' := by
  obtain ⟨xo, cp, rfl, h1, h2, hg⟩ := cm_get h
  have HG := hide hg; have HD := hide hD; have HF := hide hf; have HKC := hide hkc
  simp only [maxLen] at h2
  clear h hg hD hf hkc
  go_enter Tryz.func94, Tryz.ntmps94
  go_wp2_with fail
  go_loopw [8] (fun si wr => ∃ k : Nat, k ≤ l.length ∧ si = .int .i64 k ∧ Upd [] w wr ∧ ∀ x ∈ l.take k, (decide (x = c)) = false) (fun si _ => l.length - (intOf si).toNat)
  case atStart => exact ⟨0, by omega, rfl, Upd.refl _ _, by simp⟩
  case round =>
    obtain ⟨k, hk, rfl, hu, hall⟩ := hrel
    have HU := hide hu; have HALL := hide hall
    clear hu hall
    by_cases hlt : k < l.length
    · have d5 : decide ((k : Int) < l.length) = true := by simp; omega
      have d5' : decide (k < l.length) = true := by simpa using hlt
      obtain ⟨p, hp⟩ : ∃ p, l[k]? = some p := ⟨_, List.getElem?_eq_getElem hlt⟩
      obtain ⟨b, o, ka, kc, rfl, hb, hTb, fit, hks, hcells⟩ := HG.out k p hp
      obtain ⟨c0, c1, c2, c3, c4, c5, c6⟩ := hcells.upd HU.out hb (by simp)
      have HP := hide hp; have KS := hide (hks.upd_nil HU.out); have FIT := hide fit
      clear hp hks fit hcells
      go_wp2_with fail
      refine (str1_any (a := p) (c := c) _ ⟨FIT.out, _, rfl, KS.out⟩ (HU.out.get HD.out (by simp)) HF.out (HKC.out.upd_nil HU.out)).mono ?_
      rintro e w2 ⟨rfl, hu2⟩
      have U2 := hide (HU.out.trans hu2)
      clear hu2
      obtain ⟨bo, hbo⟩ : ∃ bo, decide (p = c) = bo := ⟨_, rfl⟩
      rw [hbo]
      have HBO := hide hbo
      clear hbo
      cases bo with
      | true =>
        go_wp2_with fail
        go_ret
        refine ⟨?_, U2.out⟩
        rw [idx_hit HALL.out HP.out HBO.out]
        rfl
      | false =>
        go_wp2_with fail
        go_roundw
        case rel =>
          refine ⟨k + 1, by omega, by go_num, U2.out, fun x hx => ?_⟩
          rw [take_snoc HP.out] at hx
          rcases List.mem_append.1 hx with h5 | h5
          · exact HALL.out x h5
          · simp only [List.mem_singleton] at h5; rw [h5]; exact HBO.out
        case measure => simp [intOf]; omega
    · have d5 : decide ((k : Int) < l.length) = false := by simp; omega
      have d5' : decide (k < l.length) = false := by simpa using hlt
      have hall := HALL.out
      rw [List.take_of_length_le (by omega)] at hall
      have HA := hide hall
      clear hall
      go_wp2_with fail
      go_ret
      refine ⟨?_, HU.out⟩
      rw [idx_miss HA.out]
      rfl
theorem idx_mem {l : List Cm} {c : Cm} : decide (0 ≤ idxI (l.findIdx? fun x => decide (x = c))) = decide (c ∈ l) := by
  cases h : l.findIdx? fun x => decide (x = c) with
  | none =>
    rw [List.findIdx?_eq_none_iff] at h
    have : c ∉ l := fun hc => by have := h c hc; simp at this
    simp [idxI, this]
  | some k =>
    obtain ⟨hk, h1, -⟩ := List.findIdx?_eq_some_iff_getElem.1 h
    have h2 : l[k] = c := by simpa using h1
    have : c ∈ l := by rw [← h2]; exact List.getElem_mem hk
    have h3 : 0 ≤ idxI (some k) := Int.natCast_nonneg k
    rw [decide_eq_true h3, decide_eq_true this]
set_option maxRecDepth 100000 in
set_option maxHeartbeats 1000000 in
theorem anyh_any {T U : Nat → Prop} {v : Value} {l : List Cm} {c : Cm} {D : Nat} {xc : Option Addr} {nc : Nat} (w : World) (h : cmK.row w T v l) (hD : w.heap[D]? = some (.cells #[.int .u32 (c.client : Int), .int .u32 (c.seq : Int), .int .u8 (c.kind : Int), .slice xc c.keys.length nc, .string (strOf c.old), .string (strOf c.new), .int .i64 c.n] TCmd (0, 0))) (hf : c.Fits) (hkc : Strs w U (.slice xc c.keys.length nc) c.keys) :
    Calls Tryz.prog 47 #[v, .func (.func 103) #[] #[.pointer (some ⟨D, 0, none⟩)]] w fun e w' => e = .returned (.bool (decide (c ∈ l))) ∧ Upd [] w w' := by
  have H := hide h; have HD := hide hD; have HF := hide hf; have HK := hide hkc
  obtain ⟨xo, cp, rfl, -, -⟩ := Row.slice h
  have hm := idx_mem (l := l) (c := c)
  obtain ⟨z, hz⟩ : ∃ z, idxI (l.findIdx? fun x => decide (x = c)) = z := ⟨_, rfl⟩
  rw [hz] at hm
  have HZ := hide hz
  have hm2 : decide (z ≥ 0) = decide (c ∈ l) := hm
  obtain ⟨bo, hbo⟩ : ∃ bo, decide (c ∈ l) = bo := ⟨_, rfl⟩
  rw [hbo] at hm hm2 ⊢
  clear h hD hf hkc hz hbo
  go_enter Tryz.func47, Tryz.ntmps47
  go_wp2_with fail
  refine (idxh_any _ H.out HD.out HF.out HK.out).mono ?_
  rw [HZ.out]
  rintro e w1 ⟨rfl, hu⟩
  have HU := hide hu
  clear hu
  go_wp2_with fail
  go_ret
  exact ⟨rfl, HU.out⟩
section
variable {w w' : World} {T : Nat → Prop} {H mb ma mn ms mw mp : Nat} {lv tv hv hv' : Value} {x : Hs} {L : List Cm} {S : List Nat}
theorem HAt.hand (h : HAt w T H mb ma mn ms mw mp lv tv hv x) (hu : Upd S w w') (hS : ∀ k ∈ S, H ≤ k)
    (hb : w'.heap[H]? = some (.cells #[lv, tv, .map (some mb), .map (some ma), hv', .map (some mn), .map (some ms), .map (some mw), .map (some mp), .int .i64 x.last] THi (0, 0))) (hd : Own w' (H + 1) TCmd 7 (cmK.holds w' T) hv' L) :
    HAt w' T H mb ma mn ms mw mp lv tv hv' { x with handed := L } := by
  have ho := h.ord
  have ne : ∀ k, k < H → k ∉ S := fun k hk hm => by have := hS k hm; omega
  exact ⟨hb, ho, h.old, h.bat.upd hu (ne _ (by omega)), h.ans.upd hu (ne _ (by omega)), h.num.upd hu (ne _ (by omega)), h.seen.upd hu (ne _ (by omega)), h.wrong.upd hu (ne _ (by omega)), h.pl.upd hu (ne _ (by omega)), hd⟩
end
noncomputable def sgOps2 : Array Oper := Kv.findOps 2 ((Tryz.f55.body).getD .skip)
set_option maxRecDepth 100000 in
set_option maxHeartbeats 4000000 in
theorem stranger_any {T : Nat → Prop} {H mb ma mn ms mw mp : Nat} {lv tv hv : Value} {x : Hs} {l : List En} {told : List To} {t : To} {i : Nat} {L : List Cm} (w : World) (h : HAt w T H mb ma mn ms mw mp lv tv hv x) (hcnt : CntAt w) (hcb : 0 < mb) (hl : enK.row w T lv l) (ht : toK.row w T tv told) (hi : told[i]? = some t)
    (hL : x.handed ++ (if handsM l t i then [(entM l i).cmd] else []) = L) (hxl : x.handed.length ≤ 1000000) (hb : ∀ d ∈ t.done, d.2.length ≤ 1000000000000) :
    Calls Tryz.prog 55 #[.pointer (some ⟨H, 0, none⟩), .int .i64 (i : Int)] w fun e w' => e = .returned (.bool (t.done.any fun d => (parseM d.2).1.any fun c => !decide (c ∈ L))) ∧
      ∃ hz, HAt w' T H mb ma mn ms mw mp lv tv hz { x with handed := L } ∧ Upd (H :: hv.ownBlock.toList) w w' ∧ ∀ g, hz.ownBlock = some g → hv.ownBlock = some g ∨ w.heap.size ≤ g := by
  obtain ⟨xo, cp, rfl, hcp, hcm, hg⟩ := to_get ht
  simp only [maxLen] at hcm
  have hlt := (List.getElem?_eq_some_iff.1 hi).1
  obtain ⟨b, off, r, n, xa, ca, xd, cd, rfl, hb', hTb, -, hdn, -, -, -, -, z4⟩ := hg i t hi
  obtain ⟨xd', cd', he, hcd, hcdm, hdg⟩ := Row.get dnK.hz hdn
  cases he
  simp only [maxLen] at hcdm
  have d1 : decide (0 ≤ (i : Int)) = true := by simp
  have hmb := h.ord
  obtain ⟨P, hP⟩ : ∃ P : Dn → Bool, P = fun d => (parseM d.2).1.any fun c => !decide (c ∈ L) := ⟨_, rfl⟩
  rw [← hP]
  obtain ⟨S, hS⟩ : ∃ S, H :: hv.ownBlock.toList = S := ⟨_, rfl⟩
  have hnew : ∀ k ∈ S, H ≤ k := fun k hk => by
    rw [← hS] at hk
    rcases List.mem_cons.1 hk with rfl | hk
    · exact Nat.le_refl _
    · have := (Own.lt h.hd k (by simpa using hk)).1; omega
  rw [hS]
  have NEW := hide hnew; have HS := hide hS
  have HAL := hide h; have HG := hide hdg; have HL := hide hl; have HT := hide ht; have HI := hide hi; have HP := hide hP; have HC := hide hcnt; have HB := hide hb
  clear hg h ht hi hdn hdg hl hP hcnt hb hb' hnew hS
  obtain ⟨i1, hi1, iz0, iz1, iz2⟩ := info_parts infoC
  go_enter Tryz.func55, Tryz.ntmps55
  go_wp2_with fail
  refine (hands_any (i := i) w HAL.out HL.out HT.out HI.out).mono ?_
  rintro e w1 ⟨rfl, hu1⟩
  obtain ⟨ha, hha⟩ : ∃ ha, handsM l t i = ha := ⟨_, rfl⟩
  rw [hha] at hL ⊢
  have U1 := hide hu1; have H1 := hide (HAL.out.upd_nil hu1); have L1 := hide (enK.row_upd_nil HL.out hu1)
  clear hu1 hha
  cases ha with
  | false =>
    rw [if_neg (by simp), List.append_nil] at hL
    subst hL
    obtain ⟨hz, hzz⟩ : ∃ hz, hv = hz := ⟨_, rfl⟩
    have RW : Hid (cmK.row w1 (fun k => hz.ownBlock = some k ∨ T k) hz x.handed) := hide (by
      rw [← hzz]
      exact Row.mono (Own.row H1.out.hd) (fun k hk => .inl hk) fun y cs _ hy => cmK.mono hy fun k hk => .inr hk)
    have HZ : Hid (HAt w1 T H mb ma mn ms mw mp lv (.slice (some ⟨b, off, none⟩) told.length cp) hz { x with handed := x.handed }) := hide (by rw [← hzz]; exact H1.out)
    have UZ : Hid (Upd S w w1) := hide (U1.out.mono (by simp))
    have OB : Hid (∀ g, hz.ownBlock = some g → hv.ownBlock = some g ∨ w.heap.size ≤ g) := hide (by rw [← hzz]; exact fun g hg => .inl hg)
    have CN := hide (HC.out.upd_nil U1.out)
    clear hzz H1 L1 U1
    generalize w1 = wz at *
    generalize x.handed = L at *
    have y1 : wz.cell? ⟨H, 1, none⟩ = some (.slice (some ⟨b, off, none⟩) told.length cp) := blk_cell HZ.out.blk rfl
    have z4' : wz.cell? ⟨b, off + i * 5 + 4, none⟩ = some (.slice xd t.done.length cd) := cellU z4 UZ.out (by have := HAL.out.old _ hTb; intro hm; have := NEW.out _ hm; omega)
    go_wp2_with fail
    go_loopw [36] (fun si wr => ∃ k : Nat, k ≤ t.done.length ∧ si = .int .i64 k ∧ Upd [] wz wr ∧ ∀ d ∈ t.done.take k, P d = false) (fun si _ => t.done.length - (intOf si).toNat)
    case atStart => exact ⟨0, by omega, rfl, Upd.refl _ _, by simp⟩
    case round =>
      obtain ⟨k, hk, rfl, hu, hall⟩ := hrel
      have HU := hide hu; have HALL := hide hall
      clear hu hall
      by_cases hkl : k < t.done.length
      · have d5 : decide ((k : Int) < t.done.length) = true := by simp; omega
        have d5' : decide (k < t.done.length) = true := by simpa using hkl
        obtain ⟨d, hd⟩ : ∃ d, t.done[k]? = some d := ⟨_, List.getElem?_eq_getElem hkl⟩
        obtain ⟨bd, od, cs, rfl, hbd, hTd, ⟨hs, v, rfl, hby⟩, -, hcd2⟩ := HG.out k d hd
        obtain ⟨xb, m, c, rfl, hsrc, hmc, hcmx, hTx⟩ := hby
        have hnd : bd ∉ S := fun hm => by have := HAL.out.old _ hTd; have := NEW.out _ hm; omega
        have q0 : wr.cell? ⟨bd, od + k * 2, none⟩ = some (.int .u64 (d.1 : Int)) := cellU (cellU (hcd2 0 _ rfl) UZ.out hnd) HU.out (by simp)
        have q1 : wr.cell? ⟨bd, od + k * 2 + 1, none⟩ = some (.slice xb m c) := cellU (cellU (hcd2 1 _ rfl) UZ.out hnd) HU.out (by simp)
        have hsr : SrcAt wr xb m c (d.2.map u8v) 1 := src_upd_nil (src_upd hsrc UZ.out (fun a ha hm hb => by have := HAL.out.old _ (hTx a ha hm); have := NEW.out _ hb; omega)) HU.out
        have hdl := HB.out d (List.mem_of_getElem? hd)
        have HD := hide hd; have SRC := hide hsr; have DL := hide hdl
        have hk1 : k + 1 ≤ t.done.length := by omega
        clear hcd2 hd hsrc hsr hTx hdl hnd
        go_upto_region 6 with fail
        have hB := blk_new wr (.cells #[.int .u64 (d.1 : Int), .slice xb m c] 34)
        have hal := (Upd.refl [] wr).alloc (.cells #[.int .u64 (d.1 : Int), .slice xb m c] 34)
        change Code.wp _ _ _ _ (wr.alloc (.cells #[.int .u64 (d.1 : Int), .slice xb m c] 34))
        generalize wr.alloc (.cells #[.int .u64 (d.1 : Int), .slice xb m c] 34) = w1 at *
        obtain ⟨B, hBs⟩ : ∃ B, wr.heap.size = B := ⟨_, rfl⟩
        rw [hBs] at hB ⊢
        have c1 : w1.cell? ⟨B, 1, none⟩ = some (.slice xb m c) := blk_cell hB rfl
        have U1 := hide (HU.out.trans hal); have S1 := hide (src_upd_nil SRC.out hal)
        clear hB hal SRC q0 q1 hBs
        go_wp2_with fail
        refine (parse_any (bs := d.2) w1 (CN.out.upd_nil U1.out) S1.out hmc DL.out).mono ?_
        rintro e w2 ⟨⟨vc, rfl, hcr⟩, hu2⟩
        obtain ⟨cl, hcl⟩ : ∃ cl, (parseM d.2).1 = cl := ⟨_, rfl⟩
        rw [hcl] at hcr
        have hPd : P d = cl.any fun c => !decide (c ∈ L) := by rw [HP.out, ← hcl]
        obtain ⟨xo2, cp2, rfl, hcp2, hcm2, hg2⟩ := cm_get hcr
        simp only [maxLen] at hcm2
        have U2 := hide (U1.out.trans hu2); have G2 := hide hg2; have PD := hide hPd
        clear hu2 hg2 hPd hcl hcr c1 S1 U1
        go_wp2_with fail
        go_loopw [48] (fun si wq => ∃ n : Nat, n ≤ cl.length ∧ si = .int .i64 n ∧ Upd [] w2 wq ∧ ∀ c ∈ cl.take n, (!decide (c ∈ L)) = false) (fun si _ => cl.length - (intOf si).toNat)
        case atStart => exact ⟨0, by omega, rfl, Upd.refl _ _, by simp⟩
        case round =>
          obtain ⟨n, hn, rfl, hu, hall⟩ := hrel
          have HU2 := hide hu; have HALL2 := hide hall
          clear hu hall
          by_cases hnl : n < cl.length
          · have d6 : decide ((n : Int) < cl.length) = true := by simp; omega
            have d6' : decide (n < cl.length) = true := by simpa using hnl
            obtain ⟨p, hp⟩ : ∃ p, cl[n]? = some p := ⟨_, List.getElem?_eq_getElem hnl⟩
            obtain ⟨b2, o2, ka, kc, rfl, hb2, hTb2, fit, hks, hcells⟩ := G2.out n p hp
            obtain ⟨c0, c1, c2, c3, c4, c5, c6⟩ := hcells.upd HU2.out hb2 (by simp)
            have HPP := hide hp; have KS := hide (hks.upd_nil HU2.out); have FIT := hide fit
            have hn1 : n + 1 ≤ cl.length := by omega
            clear hp hks fit hcells
            go_upto_region 10 with fail
            have hB := blk_new wr (.cells (cmc p (.slice ka p.keys.length kc)).toArray TCmd)
            have hal := (Upd.refl [] wr).alloc (.cells (cmc p (.slice ka p.keys.length kc)).toArray TCmd)
            change Code.wp _ _ _ _ (wr.alloc (.cells (cmc p (.slice ka p.keys.length kc)).toArray TCmd))
            generalize wr.alloc (.cells (cmc p (.slice ka p.keys.length kc)).toArray TCmd) = w3 at *
            obtain ⟨D, hDs⟩ : ∃ D, wr.heap.size = D := ⟨_, rfl⟩
            rw [hDs] at hB ⊢
            have U3 := hide (HU2.out.trans hal); have B3 := hide hB; have K3 := hide (KS.out.upd_nil hal)
            have h4 : w3.cell? ⟨H, 4, none⟩ = some hz := blk_cell ((U2.out.trans U3.out).get HZ.out.blk (by simp)) rfl
            clear hB hal hDs c0 c1 c2 c3 c4 c5 c6 KS
            go_wp2_with fail
            refine (anyh_any (c := p) w3 (cmK.row_upd_nil RW.out (U2.out.trans U3.out)) B3.out FIT.out K3.out).mono ?_
            rintro e w4 ⟨rfl, hu4⟩
            have U4 := hide (U3.out.trans hu4)
            clear hu4 h4 U3 B3 K3
            obtain ⟨bo, hbo⟩ : ∃ bo, decide (p ∈ L) = bo := ⟨_, rfl⟩
            rw [hbo]
            have HBO := hide hbo
            clear hbo
            cases bo with
            | true =>
              go_wp2_with fail
              go_roundw
              case rel =>
                refine ⟨n + 1, hn1, by go_num, U4.out, fun x hx => ?_⟩
                rw [take_snoc HPP.out] at hx
                rcases List.mem_append.1 hx with h5 | h5
                · exact HALL2.out x h5
                · simp only [List.mem_singleton] at h5; rw [h5, HBO.out]; rfl
              case measure => simp [intOf]; omega
            | false =>
              go_wp2_with fail
              go_ret
              have r1 : P d = true := by
                rw [PD.out, List.any_eq_true]
                exact ⟨p, List.mem_of_getElem? HPP.out, by rw [HBO.out]; rfl⟩
              have r2 : t.done.any P = true := List.any_eq_true.2 ⟨d, List.mem_of_getElem? HD.out, r1⟩
              exact ⟨by rw [r2]; rfl, hz, HZ.out.upd_nil (U2.out.trans U4.out), UZ.out.trans ((U2.out.trans U4.out).mono (by simp)), OB.out⟩
          · have d6 : decide ((n : Int) < cl.length) = false := by simp; omega
            have d6' : decide (n < cl.length) = false := by simpa using hnl
            have hall := HALL2.out
            rw [List.take_of_length_le (by omega)] at hall
            have HA := hide hall
            clear hall
            go_wp2_with fail
            go_roundw
            case rel =>
              refine ⟨k + 1, hk1, by go_num, U2.out.trans HU2.out, fun x hx => ?_⟩
              rw [take_snoc HD.out] at hx
              rcases List.mem_append.1 hx with h5 | h5
              · exact HALL.out x h5
              · simp only [List.mem_singleton] at h5
                rw [h5, PD.out, List.any_eq_false]
                exact fun c hc => by rw [HA.out c hc]; simp
            case measure => simp [intOf]; omega
      · have d5 : decide ((k : Int) < t.done.length) = false := by simp; omega
        have d5' : decide (k < t.done.length) = false := by simpa using hkl
        have hall := HALL.out
        rw [List.take_of_length_le (by omega)] at hall
        have HA := hide hall
        clear hall
        go_wp2_with fail
        go_ret
        have r2 : t.done.any P = false := List.any_eq_false.2 fun d hd => by rw [HA.out d hd]; simp
        exact ⟨by rw [r2]; rfl, hz, HZ.out.upd_nil HU.out, UZ.out.trans (HU.out.mono (by simp)), OB.out⟩
  | true =>
    rw [if_pos rfl] at hL
    go_upto_region 2 with fail
    obtain ⟨css, he1, he2, hown⟩ := H1.out.hd
    obtain ⟨ao, cap, rfl, hcap1, hcap2, -⟩ := owns_slice hown
    have hol := Own.lt HAL.out.hd
    have hHo : H ∉ (Value.slice ao x.handed.length cap).ownBlock.toList := fun hm => by have := (hol H (by simpa using hm)).1; omega
    have HOL := hide hol; have OWN := hide hown; have E1 := hide he1; have E2 := hide he2; have HHO := hide hHo
    clear hol hown he1 he2 hHo
    have y4 : (w1.drewN 1).cell? ⟨H, 4, none⟩ = some (.slice ao x.handed.length cap) := blk_cell (show (w1.drewN 1).heap[H]? = _ from H1.out.blk) rfl
    refine wp_region_z (fun wx => wx.cell? ⟨H, 4, none⟩ = some (.slice ao x.handed.length cap)) 13 (by kernel_rfl) ?_
    refine wpAnyZ_takeE 0 rfl (by kernel_rfl) (by kernel_rfl) (by kernel_rfl) (by kernel_rfl) (fun _ _ _ _ h => h) rfl (by exact y4) ?_
    apply Exists.intro
    refine ⟨fun wx hS => ?_, ?_⟩
    · have c0 := hS; go_simp; rfl
    simp only [Act.put, List.setIfInBounds_toArray, List.set_cons_succ, List.set_cons_zero, List.getElem_toArray, List.getElem_cons_zero]
    refine wpAnyZ_takeE 1 rfl (by kernel_rfl) (by kernel_rfl) (by kernel_rfl) (by kernel_rfl) (fun _ _ _ _ h => h) rfl (by exact y4) ?_
    apply Exists.intro
    refine ⟨fun wx hS => ?_, ?_⟩
    · have c0 := hS; go_simp; rfl
    simp only [Act.put, List.setIfInBounds_toArray, List.set_cons_succ, List.set_cons_zero, List.getElem_toArray, List.getElem_cons_succ, List.getElem_cons_zero]
    refine wpAnyZ_takeE 2 rfl (by kernel_rfl) (by kernel_rfl) (by kernel_rfl) (by kernel_rfl) (fun _ _ _ _ h => h) rfl (by exact y4) ?_
    apply Exists.intro
    refine ⟨fun wx hS => ?_, ?_⟩
    · have c0 := hS; go_simp; rfl
    simp only [Act.put, List.setIfInBounds_toArray, List.set_cons_succ, List.set_cons_zero, List.getElem_toArray, List.getElem_cons_succ, List.getElem_cons_zero]
    refine wpAnyZ_takeE 3 rfl (by kernel_rfl) (by kernel_rfl) (by kernel_rfl) (by kernel_rfl) (fun _ _ _ _ h => h) rfl (by exact y4) ?_
    apply Exists.intro
    refine ⟨fun wx hS => ?_, ?_⟩
    · have c0 := hS; go_simp; rfl
    simp only [Act.put, List.setIfInBounds_toArray, List.set_cons_succ, List.set_cons_zero, List.getElem_toArray, List.getElem_cons_succ, List.getElem_cons_zero]
    refine wpAnyZ_takeE 4 rfl (by kernel_rfl) (by kernel_rfl) (by kernel_rfl) (by kernel_rfl) (fun _ _ _ _ h => h) rfl (by exact y4) ?_
    apply Exists.intro
    refine ⟨fun wx hS => ?_, ?_⟩
    · have c0 := hS; go_simp; rfl
    simp only [Act.put, List.setIfInBounds_toArray, List.set_cons_succ, List.set_cons_zero, List.getElem_toArray, List.getElem_cons_succ, List.getElem_cons_zero]
    refine wpAnyZ_takeE 5 rfl (by kernel_rfl) (by kernel_rfl) (by kernel_rfl) (by kernel_rfl) (fun _ _ _ _ h => h) rfl (by exact y4) ?_
    apply Exists.intro
    refine ⟨fun wx hS => ?_, ?_⟩
    · have c0 := hS; go_simp; rfl
    simp only [Act.put, List.setIfInBounds_toArray, List.set_cons_succ, List.set_cons_zero, List.getElem_toArray, List.getElem_cons_succ, List.getElem_cons_zero]
    refine wpAnyZ_takeE 6 rfl (by kernel_rfl) (by kernel_rfl) (by kernel_rfl) (by kernel_rfl) (fun _ _ _ _ h => h) rfl (by exact y4) ?_
    apply Exists.intro
    refine ⟨fun wx hS => ?_, ?_⟩
    · have c0 := hS; go_simp; rfl
    simp only [Act.put, List.setIfInBounds_toArray, List.set_cons_succ, List.set_cons_zero, List.getElem_toArray, List.getElem_cons_succ, List.getElem_cons_zero]
    clear y4
    refine wpAnyZ_one 7 (by kernel_rfl) rfl rfl (fun K hK => ?_)
    try simp only [List.getElem_toArray, List.getElem_cons_succ, List.getElem_cons_zero]
    go_simp
    refine (entry_any (i := i) (w1.drewN 1) (H1.out.upd_nil ((Upd.refl [] w1).drewN 1)) (enK.row_upd_nil L1.out ((Upd.refl [] w1).drewN 1))).mono ?_
    rintro e w2 ⟨⟨v, rfl, hE⟩, hu2⟩
    obtain ⟨fit, torn, pick, xk, ck, rfl, hks⟩ := hE
    have f5 := fun v0 v1 v2 v3 v4 v5 v6 v7 v8 v9 v10 v11 w => field_en5 v0 v1 v2 v3 v4 v5 v6 v7 v8 v9 v10 v11 w
    generalize entM l i = E at *
    have H2 := hide (H1.out.upd_nil (((Upd.refl [] w1).drewN 1).trans hu2)); have U2 := hide (U1.out.trans (((Upd.refl [] w1).drewN 1).trans hu2)); have KS := hide hks; have FIT := hide fit
    have OWN2 := hide (owns_upd OWN.out (((Upd.refl [] w1).drewN 1).trans hu2) (by simp))
    have E12 := hide (E1.out.mono (Q := cmK.holds w2 T) fun y cs _ hy => cmK.upd hy (((Upd.refl [] w1).drewN 1).trans hu2) (by simp))
    clear hks fit E1 OWN U1 L1 H1
    have y4 : w2.cell? ⟨H, 4, none⟩ = some (.slice ao x.handed.length cap) := blk_cell H2.out.blk rfl
    clear hu2
    refine hK _ _ (.inr y4) ?_
    clear hK K
    try simp only [Act.put, List.setIfInBounds_toArray, List.set_cons_succ, List.set_cons_zero]
    refine wpAnyZ_takeE 8 rfl (by kernel_rfl) (by kernel_rfl) (by kernel_rfl) (by kernel_rfl) (fun _ _ _ _ h => h) rfl (by exact y4) ?_
    apply Exists.intro
    refine ⟨fun wx hS => ?_, ?_⟩
    · go_simp; rfl
    simp only [Act.put, List.setIfInBounds_toArray, List.set_cons_succ, List.set_cons_zero, List.getElem_toArray, List.getElem_cons_succ, List.getElem_cons_zero]
    clear y4
    refine wpAnyZ_one 9 (by kernel_rfl) rfl rfl (fun K hK => ?_)
    try simp only [List.getElem_toArray, List.getElem_cons_succ, List.getElem_cons_zero]
    go_simp
    have hB := blk_new w2 (.cells (cmc E.cmd (.slice xk E.cmd.keys.length ck)).toArray TCmd)
    have hal := (Upd.refl [] w2).alloc (.cells (cmc E.cmd (.slice xk E.cmd.keys.length ck)).toArray TCmd)
    change K _ (w2.alloc (.cells (cmc E.cmd (.slice xk E.cmd.keys.length ck)).toArray TCmd))
    generalize w2.alloc (.cells (cmc E.cmd (.slice xk E.cmd.keys.length ck)).toArray TCmd) = w3 at *
    obtain ⟨B2, hBs⟩ : ∃ B2, w2.heap.size = B2 := ⟨_, rfl⟩
    rw [hBs] at hB ⊢
    have H3 := hide (H2.out.upd_nil hal); have U3 := hide (U2.out.trans hal); have K3 := hide (KS.out.upd_nil hal); have OWN3 := hide (owns_upd OWN2.out hal (by simp))
    have E13 := hide (E12.out.mono (Q := cmK.holds w3 T) fun y cs _ hy => cmK.upd hy hal (by simp))
    have SR := hide (cmc_src hB rfl)
    have hw3 := hal.size
    clear hB hal H2 U2 KS OWN2 E12
    have y4 : w3.cell? ⟨H, 4, none⟩ = some (.slice ao x.handed.length cap) := blk_cell H3.out.blk rfl
    refine hK _ _ (.inr y4) ?_
    clear hK K
    try simp only [Act.put, List.setIfInBounds_toArray, List.set_cons_succ, List.set_cons_zero]
    clear y4
    refine wpAnyZ_one 10 (by kernel_rfl) rfl rfl (fun K hK => ?_)
    try simp only [List.getElem_toArray, List.getElem_cons_succ, List.getElem_cons_zero]
    refine wp_append_src _ _ _ 31 rfl (H + 1) TCmd i1 (.agg ZA) 7 80 Tryz.underlying31 hi1 iz0 iz1 iz2 rfl (by decide) (.slice ao x.handed.length cap) x.handed.length css.flatten rfl (by exact OWN3.out) (some ⟨B2, 0, none⟩) 1 1 (cmc E.cmd (.slice xk E.cmd.keys.length ck)) rfl (by exact SR.out) (by unfold maxLen; omega) (by omega) (by have := blk_lt H3.out.blk; omega) ?_
    intro ao6 cap6 w4 hown6 hU6 hn6
    have hb4 := hU6.get H3.out.blk HHO.out
    have y4 : w4.cell? ⟨H, 4, none⟩ = some (.slice ao x.handed.length cap) := blk_cell hb4 rfl
    have far : ∀ k ∈ (Value.slice ao x.handed.length cap).ownBlock.toList, ¬ T k := fun k hk hT => by
      have h5 := (HOL.out k (by simpa using hk)).1; have h6 := HAL.out.old k hT; omega
    have hk4 : cmK.holds w3 T E.cmd (cmc E.cmd (.slice xk E.cmd.keys.length ck)) := ⟨FIT.out, _, rfl, K3.out⟩
    have hown4 : Own w4 (H + 1) TCmd 7 (cmK.holds w4 T) (.slice ao6 (x.handed.length + 1) cap6) (x.handed ++ [E.cmd]) :=
      Own.more (E13.out.mono (Q := cmK.holds w4 T) fun y cs _ hy => cmK.upd hy hU6 far) E2.out (cmK.upd hk4 hU6 far) rfl (cmK.one hk4) rfl hown6
    rw [hL] at hown4
    have hln : x.handed.length + 1 = L.length := by rw [← hL]; simp
    rw [hln] at hown4 hn6 ⊢
    have U4 : Hid (Upd S w w4) := hide ((U3.out.mono (by simp)).trans (hU6.mono (fun k hk => by rw [← HS.out]; exact List.mem_cons_of_mem _ hk))); have OW4 := hide hown4; have H4 := hide hb4; have N4 := hide hn6
    have f4 : w4.frozen? ⟨H, 4, none⟩ = false := blk_free hb4
    clear hb4 hk4 hown6 hU6 E13 E2 OWN3 K3 SR hown4 hn6 far
    refine hK _ _ (.inr y4) ?_
    clear hK K
    try simp only [Act.put, List.setIfInBounds_toArray, List.set_cons_succ, List.set_cons_zero]
    refine wpAnyZ_one 11 (by kernel_rfl) rfl rfl (fun K hK => ?_)
    try simp only [List.getElem_toArray, List.getElem_cons_succ, List.getElem_cons_zero]
    go_simp
    refine hK _ _ (.inr y4) ?_
    clear hK K
    try simp only [Act.put, List.setIfInBounds_toArray, List.set_cons_succ, List.set_cons_zero]
    refine wpAnyZ_one 12 (by kernel_rfl) rfl rfl (fun K hK => ?_)
    try simp only [List.getElem_toArray, List.getElem_cons_succ, List.getElem_cons_zero]
    go_simp
    refine hK _ _ (.inr y4) ?_
    clear hK K
    try simp only [Act.put, List.setIfInBounds_toArray, List.set_cons_succ, List.set_cons_zero]
    refine wpAnyZ_one 13 (by kernel_rfl) rfl rfl (fun K hK => ?_)
    try simp only [List.getElem_toArray, List.getElem_cons_succ, List.getElem_cons_zero]
    go_simp
    refine hK _ _ (.inl rfl) ?_
    clear hK K
    try simp only [Act.put, List.setIfInBounds_toArray, List.set_cons_succ, List.set_cons_zero]
    clear f4 y4
    refine wpAnyZ_done (by kernel_rfl) ?_ _
    have b5 := blk_set (i := 4) H4.out (.slice ao6 L.length cap6)
    simp only [List.setIfInBounds_toArray, List.set_cons_succ, List.set_cons_zero] at b5
    have us : Upd [H] w4 (w4.setCell ⟨H, 4, none⟩ (.slice ao6 L.length cap6)) := (Upd.refl [H] w4).setCell (p := ⟨H, 4, none⟩) (.inl (by simp)) _
    generalize w4.setCell ⟨H, 4, none⟩ (.slice ao6 L.length cap6) = wz at *
    have hol4 := Own.lt OW4.out
    have hown5 : Own wz (H + 1) TCmd 7 (cmK.holds wz T) (.slice ao6 L.length cap6) L := Own.upd OW4.out us (fun k hk hm => by have := (hol4 k hk).1; simp at hm; omega) fun y cs _ hy => cmK.upd hy us (fun k hk hT => by have := HAL.out.old k hT; simp at hk; omega)
    have uz : Upd S w wz := U4.out.trans (us.mono (fun k hk => by rw [← HS.out]; simp at hk; rw [hk]; simp))
    obtain ⟨hz, hzz⟩ : ∃ hz, Value.slice ao6 L.length cap6 = hz := ⟨_, rfl⟩
    rw [hzz] at hown5 b5
    have n4 := N4.out
    rw [hzz] at n4
    have HZ : Hid (HAt wz T H mb ma mn ms mw mp lv (.slice (some ⟨b, off, none⟩) told.length cp) hz { x with handed := L }) := hide (HAL.out.hand uz NEW.out b5 hown5)
    have RW : Hid (cmK.row wz (fun k => hz.ownBlock = some k ∨ T k) hz L) := hide (Row.mono (Own.row hown5) (fun k hk => .inl hk) fun y cs _ hy => cmK.mono hy fun k hk => .inr hk)
    have UZ := hide uz
    have OB : Hid (∀ g, hz.ownBlock = some g → (Value.slice ao x.handed.length cap).ownBlock = some g ∨ w.heap.size ≤ g) := hide (fun g hg => (n4 g hg).imp id fun h => by have := U3.out.size; omega)
    have CN := hide (HC.out.upd uz (fun hm => by have := NEW.out _ hm; omega))
    clear b5 us hol4 hown5 uz n4 hzz H4 U4 OW4 N4 H3 U3 HOL HHO
    have y1 : wz.cell? ⟨H, 1, none⟩ = some (.slice (some ⟨b, off, none⟩) told.length cp) := blk_cell HZ.out.blk rfl
    have z4' : wz.cell? ⟨b, off + i * 5 + 4, none⟩ = some (.slice xd t.done.length cd) := cellU z4 UZ.out (by have := HAL.out.old _ hTb; intro hm; have := NEW.out _ hm; omega)
    go_wp2_with fail
    go_loopw [36] (fun si wr => ∃ k : Nat, k ≤ t.done.length ∧ si = .int .i64 k ∧ Upd [] wz wr ∧ ∀ d ∈ t.done.take k, P d = false) (fun si _ => t.done.length - (intOf si).toNat)
    case atStart => exact ⟨0, by omega, rfl, Upd.refl _ _, by simp⟩
    case round =>
      obtain ⟨k, hk, rfl, hu, hall⟩ := hrel
      have HU := hide hu; have HALL := hide hall
      clear hu hall
      by_cases hkl : k < t.done.length
      · have d5 : decide ((k : Int) < t.done.length) = true := by simp; omega
        have d5' : decide (k < t.done.length) = true := by simpa using hkl
        obtain ⟨d, hd⟩ : ∃ d, t.done[k]? = some d := ⟨_, List.getElem?_eq_getElem hkl⟩
        obtain ⟨bd, od, cs, rfl, hbd, hTd, ⟨hs, v, rfl, hby⟩, -, hcd2⟩ := HG.out k d hd
        obtain ⟨xb, m, c, rfl, hsrc, hmc, hcmx, hTx⟩ := hby
        have hnd : bd ∉ S := fun hm => by have := HAL.out.old _ hTd; have := NEW.out _ hm; omega
        have q0 : wr.cell? ⟨bd, od + k * 2, none⟩ = some (.int .u64 (d.1 : Int)) := cellU (cellU (hcd2 0 _ rfl) UZ.out hnd) HU.out (by simp)
        have q1 : wr.cell? ⟨bd, od + k * 2 + 1, none⟩ = some (.slice xb m c) := cellU (cellU (hcd2 1 _ rfl) UZ.out hnd) HU.out (by simp)
        have hsr : SrcAt wr xb m c (d.2.map u8v) 1 := src_upd_nil (src_upd hsrc UZ.out (fun a ha hm hb => by have := HAL.out.old _ (hTx a ha hm); have := NEW.out _ hb; omega)) HU.out
        have hdl := HB.out d (List.mem_of_getElem? hd)
        have HD := hide hd; have SRC := hide hsr; have DL := hide hdl
        have hk1 : k + 1 ≤ t.done.length := by omega
        clear hcd2 hd hsrc hsr hTx hdl hnd
        go_upto_region 6 with fail
        have hB := blk_new wr (.cells #[.int .u64 (d.1 : Int), .slice xb m c] 34)
        have hal := (Upd.refl [] wr).alloc (.cells #[.int .u64 (d.1 : Int), .slice xb m c] 34)
        change Code.wp _ _ _ _ (wr.alloc (.cells #[.int .u64 (d.1 : Int), .slice xb m c] 34))
        generalize wr.alloc (.cells #[.int .u64 (d.1 : Int), .slice xb m c] 34) = w1 at *
        obtain ⟨B, hBs⟩ : ∃ B, wr.heap.size = B := ⟨_, rfl⟩
        rw [hBs] at hB ⊢
        have c1 : w1.cell? ⟨B, 1, none⟩ = some (.slice xb m c) := blk_cell hB rfl
        have U1 := hide (HU.out.trans hal); have S1 := hide (src_upd_nil SRC.out hal)
        clear hB hal SRC q0 q1 hBs
        go_wp2_with fail
        refine (parse_any (bs := d.2) w1 (CN.out.upd_nil U1.out) S1.out hmc DL.out).mono ?_
        rintro e w2 ⟨⟨vc, rfl, hcr⟩, hu2⟩
        obtain ⟨cl, hcl⟩ : ∃ cl, (parseM d.2).1 = cl := ⟨_, rfl⟩
        rw [hcl] at hcr
        have hPd : P d = cl.any fun c => !decide (c ∈ L) := by rw [HP.out, ← hcl]
        obtain ⟨xo2, cp2, rfl, hcp2, hcm2, hg2⟩ := cm_get hcr
        simp only [maxLen] at hcm2
        have U2 := hide (U1.out.trans hu2); have G2 := hide hg2; have PD := hide hPd
        clear hu2 hg2 hPd hcl hcr c1 S1 U1
        go_wp2_with fail
        go_loopw [48] (fun si wq => ∃ n : Nat, n ≤ cl.length ∧ si = .int .i64 n ∧ Upd [] w2 wq ∧ ∀ c ∈ cl.take n, (!decide (c ∈ L)) = false) (fun si _ => cl.length - (intOf si).toNat)
        case atStart => exact ⟨0, by omega, rfl, Upd.refl _ _, by simp⟩
        case round =>
          obtain ⟨n, hn, rfl, hu, hall⟩ := hrel
          have HU2 := hide hu; have HALL2 := hide hall
          clear hu hall
          by_cases hnl : n < cl.length
          · have d6 : decide ((n : Int) < cl.length) = true := by simp; omega
            have d6' : decide (n < cl.length) = true := by simpa using hnl
            obtain ⟨p, hp⟩ : ∃ p, cl[n]? = some p := ⟨_, List.getElem?_eq_getElem hnl⟩
            obtain ⟨b2, o2, ka, kc, rfl, hb2, hTb2, fit, hks, hcells⟩ := G2.out n p hp
            obtain ⟨c0, c1, c2, c3, c4, c5, c6⟩ := hcells.upd HU2.out hb2 (by simp)
            have HPP := hide hp; have KS := hide (hks.upd_nil HU2.out); have FIT := hide fit
            have hn1 : n + 1 ≤ cl.length := by omega
            clear hp hks fit hcells
            go_upto_region 10 with fail
            have hB := blk_new wr (.cells (cmc p (.slice ka p.keys.length kc)).toArray TCmd)
            have hal := (Upd.refl [] wr).alloc (.cells (cmc p (.slice ka p.keys.length kc)).toArray TCmd)
            change Code.wp _ _ _ _ (wr.alloc (.cells (cmc p (.slice ka p.keys.length kc)).toArray TCmd))
            generalize wr.alloc (.cells (cmc p (.slice ka p.keys.length kc)).toArray TCmd) = w3 at *
            obtain ⟨D, hDs⟩ : ∃ D, wr.heap.size = D := ⟨_, rfl⟩
            rw [hDs] at hB ⊢
            have U3 := hide (HU2.out.trans hal); have B3 := hide hB; have K3 := hide (KS.out.upd_nil hal)
            have h4 : w3.cell? ⟨H, 4, none⟩ = some hz := blk_cell ((U2.out.trans U3.out).get HZ.out.blk (by simp)) rfl
            clear hB hal hDs c0 c1 c2 c3 c4 c5 c6 KS
            go_wp2_with fail
            refine (anyh_any (c := p) w3 (cmK.row_upd_nil RW.out (U2.out.trans U3.out)) B3.out FIT.out K3.out).mono ?_
            rintro e w4 ⟨rfl, hu4⟩
            have U4 := hide (U3.out.trans hu4)
            clear hu4 h4 U3 B3 K3
            obtain ⟨bo, hbo⟩ : ∃ bo, decide (p ∈ L) = bo := ⟨_, rfl⟩
            rw [hbo]
            have HBO := hide hbo
            clear hbo
            cases bo with
            | true =>
              go_wp2_with fail
              go_roundw
              case rel =>
                refine ⟨n + 1, hn1, by go_num, U4.out, fun x hx => ?_⟩
                rw [take_snoc HPP.out] at hx
                rcases List.mem_append.1 hx with h5 | h5
                · exact HALL2.out x h5
                · simp only [List.mem_singleton] at h5; rw [h5, HBO.out]; rfl
              case measure => simp [intOf]; omega
            | false =>
              go_wp2_with fail
              go_ret
              have r1 : P d = true := by
                rw [PD.out, List.any_eq_true]
                exact ⟨p, List.mem_of_getElem? HPP.out, by rw [HBO.out]; rfl⟩
              have r2 : t.done.any P = true := List.any_eq_true.2 ⟨d, List.mem_of_getElem? HD.out, r1⟩
              exact ⟨by rw [r2]; rfl, hz, HZ.out.upd_nil (U2.out.trans U4.out), UZ.out.trans ((U2.out.trans U4.out).mono (by simp)), OB.out⟩
          · have d6 : decide ((n : Int) < cl.length) = false := by simp; omega
            have d6' : decide (n < cl.length) = false := by simpa using hnl
            have hall := HALL2.out
            rw [List.take_of_length_le (by omega)] at hall
            have HA := hide hall
            clear hall
            go_wp2_with fail
            go_roundw
            case rel =>
              refine ⟨k + 1, hk1, by go_num, U2.out.trans HU2.out, fun x hx => ?_⟩
              rw [take_snoc HD.out] at hx
              rcases List.mem_append.1 hx with h5 | h5
              · exact HALL.out x h5
              · simp only [List.mem_singleton] at h5
                rw [h5, PD.out, List.any_eq_false]
                exact fun c hc => by rw [HA.out c hc]; simp
            case measure => simp [intOf]; omega
      · have d5 : decide ((k : Int) < t.done.length) = false := by simp; omega
        have d5' : decide (k < t.done.length) = false := by simpa using hkl
        have hall := HALL.out
        rw [List.take_of_length_le (by omega)] at hall
        have HA := hide hall
        clear hall
        go_wp2_with fail
        go_ret
        have r2 : t.done.any P = false := List.any_eq_false.2 fun d hd => by rw [HA.out d hd]; simp
        exact ⟨by rw [r2]; rfl, hz, HZ.out.upd_nil HU.out, UZ.out.trans (HU.out.mono (by simp)), OB.out⟩
end Go.Proofs.YtfmaflaoplkdbaaGreatDoor.Au
