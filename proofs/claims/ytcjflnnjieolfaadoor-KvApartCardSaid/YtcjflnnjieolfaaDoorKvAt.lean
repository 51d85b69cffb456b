/- The law KvApart, walked (printed by kat.py). -/
import Derived.Test.YtcjflnnjieolfaaDoorKvTwo
import Derived.Test.YtcjflnnjieolfaaDoorKvG
namespace Go.Proofs.YtcjflnnjieolfaaDoor.Kv
set_option linter.unusedSimpArgs false
set_option linter.unusedVariables false
set_option linter.unnecessarySimpa false
open Go.RowKit Go.Lib Go.Proofs.YtcjflnnjieolfaaDoor.Crc Go.Proofs.YtcjflnnjieolfaaDoor.Cm

theorem row_blk {X : Type} {K : Kind X} {w : World} {T : Nat → Prop} {b : Nat} {l : List X} {css : List (List Value)} {t : TypeId} (h : Each (K.holds w T) l css) (hg : w.heap[b]? = some (.cells css.flatten.toArray t (0, 0))) (hT : T b) (hm : l.length ≤ maxLen) : K.row w T (.slice (some ⟨b, 0, none⟩) l.length l.length) l :=
  have hz : ∀ cs ∈ css, cs.length = K.z := fun cs hc => by obtain ⟨x, -, h2⟩ := h.mem hc; exact K.len h2
  ⟨_, _, css, rfl, h, hz, srcB_blk hg (by rw [flat_len hz, h.len]) (fun u hu => by
    obtain ⟨cs, hc, hu'⟩ := List.mem_flatten.1 hu
    obtain ⟨x, -, h2⟩ := h.mem hc
    exact K.one h2 u hu'), Nat.le_refl _, hm, fun a ha _ => by cases ha; exact hT⟩
theorem both_row {w : World} {B : Nat} {a b : Cm} {xa xb : Option Addr} {ca cb : Nat} {T : Nat → Prop} (fa : a.Fits) (fb : b.Fits) (ha : Strs w T (.slice xa a.keys.length ca) a.keys) (hb : Strs w T (.slice xb b.keys.length cb) b.keys)
    (h : w.heap[B]? = some (.cells (cmc a (.slice xa a.keys.length ca) ++ cmc b (.slice xb b.keys.length cb)).toArray TCmd (0, 0))) : cmK.row w (fun _ => True) (.slice (some ⟨B, 0, none⟩) 2 2) [a, b] :=
  row_blk (K := cmK) (l := [a, b]) (css := [cmc a (.slice xa a.keys.length ca), cmc b (.slice xb b.keys.length cb)]) (.cons ⟨fa, _, rfl, ha.mono (fun _ _ => trivial)⟩ (.cons ⟨fb, _, rfl, hb.mono (fun _ _ => trivial)⟩ .nil)) (by simpa using h) trivial (by simp [maxLen])
def chg : List UInt8 := [99, 104, 97, 110, 103, 101, 100]
def putC (other : List UInt8) : Cm := ⟨1, 0, 1, [other], [], chg, 0⟩
theorem put_good {other : List UInt8} (h0 : other ≠ []) (h1 : other.length ≤ 32) : Cm.Good (putC other) := by
  refine ⟨?_, ?_, ?_, ?_, ?_, ?_, ?_, ?_, .inl rfl, .inr (.inr rfl), .inl rfl⟩
  · show (1 : Nat) ≠ 0; decide
  · show (1 : Nat) ≠ 0; decide
  · show (1 : Nat) < 9; decide
  · show lo 1 ≤ 1; decide
  · show 1 ≤ hi 1; decide
  · intro k hk
    have : k = other := by simpa [putC] using hk
    subst this
    exact ⟨h0, h1⟩
  · show 0 ≤ 64; decide
  · show chg.length ≤ 64; decide
theorem put_do {m : KM} {other : List UInt8} (h : Cm.Good (putC other)) : kvDo m (putC other) = (mput strK m other chg, ⟨0, []⟩) := by
  unfold kvDo
  rw [if_pos h]
  rfl
theorem put_fits {other : List UInt8} (h1 : other.length ≤ 32) : (putC other).Fits := by
  refine fits_small ?_ ?_ ?_ ?_ ?_ ?_ ?_ ?_
  · show 1 < 1000; decide
  · show 0 < 1000; decide
  · show 1 < 100; decide
  · show -1000 ≤ (0 : Int) ∧ (0 : Int) ≤ 1000; decide
  · show 1 < 1000; decide
  · show 0 < 1000; decide
  · show chg.length < 1000; decide
  · intro k hk
    have : k = other := by simpa [putC] using hk
    subst this
    omega
set_option maxRecDepth 100000 in
set_option maxHeartbeats 64000000 in
theorem apart_any {v0 v1 v2 : Value} {l : List Cm} {a b : Cm} {other : List UInt8} (w : World) (he : EnvAt w) (hl : cmK.row w (fun k => k < w.heap.size) v0 l) (ha : CmAt w (fun k => k < w.heap.size) v1 a) (hb : CmAt w (fun k => k < w.heap.size) v2 b) :
    Calls Tryd.prog 4 #[v0, v1, v2, .string (strOf other)] w fun e w' => e = .returned (.bool true) ∧ Upd [] w w' := by
  have ENV := hide he; have CRW := hide hl
  obtain ⟨fa, ka, rfl, hka⟩ := ha
  obtain ⟨fb, kb, rfl, hkb⟩ := hb
  obtain ⟨xa, ca, rfl, a1, a2, -⟩ := hka.get
  obtain ⟨xb, cb, rfl, b1, b2, -⟩ := hkb.get
  obtain ⟨xo, cp, rfl, h1, h2, hg⟩ := cm_get hl
  have KA := hide hka; have KB := hide hkb; have FA := hide fa; have FB := hide fb; have HG := hide hg
  have so := strOf_size other
  simp only [maxLen] at a2 b2 h2
  clear he hl hka hkb fa fb hg
  unfold cmv
  simp only [strV]
  go_enter Tryd.func4, Tryd.ntmps4
  go_upto_region 1 with fail
  have hA := blk_alloc (blk_new w (.cells (cmc a (.slice xa a.keys.length ca)).toArray TCmd)) (.cells (cmc b (.slice xb b.keys.length cb)).toArray TCmd)
  have hB := blk_new (w.alloc (.cells (cmc a (.slice xa a.keys.length ca)).toArray TCmd)) (.cells (cmc b (.slice xb b.keys.length cb)).toArray TCmd)
  have hu := ((Upd.refl [] w).alloc (.cells (cmc a (.slice xa a.keys.length ca)).toArray TCmd)).alloc (.cells (cmc b (.slice xb b.keys.length cb)).toArray TCmd)
  simp only [World.size_alloc] at hB
  change Code.wp _ _ _ _ ((w.alloc (.cells (cmc a (.slice xa a.keys.length ca)).toArray TCmd)).alloc (.cells (cmc b (.slice xb b.keys.length cb)).toArray TCmd))
  have hsz : ((w.alloc (.cells (cmc a (.slice xa a.keys.length ca)).toArray TCmd)).alloc (.cells (cmc b (.slice xb b.keys.length cb)).toArray TCmd)).heap.size = w.heap.size + 2 := by simp
  generalize (w.alloc (.cells (cmc a (.slice xa a.keys.length ca)).toArray TCmd)).alloc (.cells (cmc b (.slice xb b.keys.length cb)).toArray TCmd) = w1 at *
  obtain ⟨B, hBs⟩ : ∃ B, w.heap.size = B := ⟨_, rfl⟩
  rw [hBs] at hA hB hsz ⊢
  have CA := hide hA; have CB := hide hB; have U1 := hide hu; have KBS := hide hBs
  clear hA hB hu hBs
  go_wp2_with fail
  refine (great_any w1 (cmK.row_upd_nil CRW.out U1.out)).mono ?_
  rintro e w3 ⟨hu3, r0, rfl, hr0⟩
  have U3 := hide (U1.out.trans hu3); have R0 := hide hr0; have CA3 := hide (hu3.get CA.out (by simp)); have CB3 := hide (hu3.get CB.out (by simp))
  have hz3 := hu3.size
  clear hu3 hr0
  cases r0 with
  | true =>
    go_wp2_with fail
    refine (wakes9_any w3 (ENV.out.upd_nil U3.out)).mono ?_
    rintro e w4 ⟨rfl, hu4⟩
    have U4 := hide (U3.out.trans hu4)
    clear hu4
    go_wp2_with fail
    go_ret
    exact ⟨rfl, U4.out⟩
  | false =>
  have SML := hide (R0.out rfl)
  clear R0 U1 CA CB
  obtain ⟨p0, p1, p2, p3, p4, p5, p6⟩ := cell7 CA3.out
  obtain ⟨q0, q1, q2, q3, q4, q5, q6⟩ := cell7 CB3.out
  have hrw := blk_new w3 (.cells (cmc a (.slice xa a.keys.length ca) ++ cmc b (.slice xb b.keys.length cb)).toArray TCmd)
  have hal := (Upd.refl [] w3).alloc (.cells (cmc a (.slice xa a.keys.length ca) ++ cmc b (.slice xb b.keys.length cb)).toArray TCmd)
  have hbr := both_row FA.out FB.out (KA.out.upd_nil (U3.out.trans hal)) (KB.out.upd_nil (U3.out.trans hal)) hrw
  have hga := great_any _ hbr
  have HGA := hide hga
  have HAL := hide hal
  clear hrw hal hbr hga
  go_wp2_with fail
  refine HGA.out.mono ?_
  rintro e w5 ⟨hu5, r1, rfl, hr1⟩
  have hu5' := HAL.out.trans hu5
  have U5 := hide (U3.out.trans hu5'); have R1 := hide hr1; have CA5 := hide (hu5'.get CA3.out (by simp)); have CB5 := hide (hu5'.get CB3.out (by simp))
  have hz5 := hu5'.size
  clear hu5 hu5' hr1 HGA HAL p0 p1 p2 p3 p4 p5 p6 q0 q1 q2 q3 q4 q5 q6 U3 CA3 CB3
  cases r1 with
  | true =>
    go_wp2_with fail
    refine (wakes9_any w5 (ENV.out.upd_nil U5.out)).mono ?_
    rintro e w6 ⟨rfl, hu6⟩
    have U6 := hide (U5.out.trans hu6)
    clear hu6
    go_wp2_with fail
    go_ret
    exact ⟨rfl, U6.out⟩
  | false =>
  have hsm := R1.out rfl
  have hka : a.keys.length ≤ 100 := (hsm.2 a (by simp)).2.2.1
  have hkb : b.keys.length ≤ 100 := (hsm.2 b (by simp)).2.2.1
  clear R1 hsm
  by_cases hol : 32 < other.length
  · have d0 : decide ((32 : Int) < (other.length : Int)) = true := by simp; omega
    clear hol
    go_wp2_with fail
    refine (wakes9_any w5 (ENV.out.upd_nil U5.out)).mono ?_
    rintro e w6 ⟨rfl, hu6⟩
    have U6 := hide (U5.out.trans hu6)
    clear hu6
    go_wp2_with fail
    go_ret
    exact ⟨rfl, U6.out⟩
  have d0 : decide ((32 : Int) < (other.length : Int)) = false := by simp; omega
  obtain ⟨X, hX⟩ : ∃ X, sortM a.keys = X := ⟨_, rfl⟩
  obtain ⟨Y, hY⟩ : ∃ Y, sortM b.keys = Y := ⟨_, rfl⟩
  have hXl := sortM_len a.keys
  have hYl := sortM_len b.keys
  rw [hX] at hXl
  rw [hY] at hYl
  have SX := hide hX; have SY := hide hY
  clear hX hY
  go_upto_region 3 with fail
  have s0 : (w5.drewN 1).heap[B]? = some (.cells (cmc a (.slice xa a.keys.length ca)).toArray TCmd (0, 0)) ∧ (w5.drewN 1).heap[B + 1]? = some (.cells (cmc b (.slice xb b.keys.length cb)).toArray TCmd (0, 0)) := ⟨CA5.out, CB5.out⟩
  refine wp_region_z (fun wx => wx.heap[B]? = some (.cells (cmc a (.slice xa a.keys.length ca)).toArray TCmd (0, 0)) ∧ wx.heap[B + 1]? = some (.cells (cmc b (.slice xb b.keys.length cb)).toArray TCmd (0, 0))) 99 (by kernel_rfl) ?_
  refine wpAnyZ_takeE 0 rfl (by kernel_rfl) (by kernel_rfl) (by kernel_rfl) (by kernel_rfl) (fun _ _ _ _ h => h) rfl (by exact s0) ?_
  apply Exists.intro
  refine ⟨fun wx hS => ?_, ?_⟩
  · obtain ⟨p0, p1, p2, p3, p4, p5, p6⟩ := cell7 hS.1; go_simp; rfl
  simp only [Act.put, List.setIfInBounds_toArray, List.set_cons_succ, List.set_cons_zero, List.getElem_toArray, List.getElem_cons_zero]
  refine wpAnyZ_takeE 2 rfl (by kernel_rfl) (by kernel_rfl) (by kernel_rfl) (by kernel_rfl) (fun _ _ _ _ h => h) rfl (by exact s0) ?_
  apply Exists.intro
  refine ⟨fun wx hS => ?_, ?_⟩
  · obtain ⟨p0, p1, p2, p3, p4, p5, p6⟩ := cell7 hS.2; go_simp; rfl
  simp only [Act.put, List.setIfInBounds_toArray, List.set_cons_succ, List.set_cons_zero, List.getElem_toArray, List.getElem_cons_succ, List.getElem_cons_zero]
  refine wpAnyZ_one 1 (by kernel_rfl) rfl rfl (fun K hK => ?_)
  try simp only [List.getElem_toArray, List.getElem_cons_succ, List.getElem_cons_zero]
  go_simp
  have hta := touches_any (c := a) (v := cmv a (.slice xa a.keys.length ca)) (w5.drewN 1) ⟨FA.out, _, rfl, KA.out.upd_nil (U5.out.drewN 1)⟩ (by omega)
  simp only [cmv, strV] at hta
  refine hta.mono ?_
  rintro e w6 ⟨⟨vx, rfl, hx⟩, hu6⟩
  rw [SX.out] at hx
  obtain ⟨ox, cx, rfl, hx1, hx2, -⟩ := hx.get
  have s6 := And.intro (hu6.get s0.1 (by simp)) (hu6.get s0.2 (by simp))
  have hu6' := ((Upd.refl [] w5).drewN 1).trans hu6
  have U6 := hide (U5.out.trans hu6'); have S6 := hide s6; have X6 := hide hx
  have hz6 := hu6'.size
  clear hta hu6 hu6' hx
  refine hK _ _ (.inr s6) ?_
  clear hK K
  try simp only [Act.put, List.setIfInBounds_toArray, List.set_cons_succ, List.set_cons_zero]
  clear s0
  refine wpAnyZ_one 3 (by kernel_rfl) rfl rfl (fun K hK => ?_)
  try simp only [List.getElem_toArray, List.getElem_cons_succ, List.getElem_cons_zero]
  go_simp
  have htb := touches_any (c := b) (v := cmv b (.slice xb b.keys.length cb)) w6 ⟨FB.out, _, rfl, KB.out.upd_nil U6.out⟩ (by omega)
  simp only [cmv, strV] at htb
  refine htb.mono ?_
  rintro e w7 ⟨⟨vy, rfl, hy⟩, hu7⟩
  rw [SY.out] at hy
  obtain ⟨oy, cy, rfl, hy1, hy2, -⟩ := hy.get
  have s7 := And.intro (hu7.get S6.out.1 (by simp)) (hu7.get S6.out.2 (by simp))
  have U7 := hide (U6.out.trans hu7); have S7 := hide s7; have X7 := hide (X6.out.upd_nil hu7); have Y7 := hide hy
  have hz7 := hu7.size
  clear htb hu7 hy s6 X6 U6 S6
  refine hK _ _ (.inr s7) ?_
  clear hK K
  try simp only [Act.put, List.setIfInBounds_toArray, List.set_cons_succ, List.set_cons_zero]
  refine wpAnyZ_takeE 4 rfl (by kernel_rfl) (by kernel_rfl) (by kernel_rfl) (by kernel_rfl) (fun _ _ _ _ h => h) rfl (by exact s7) ?_
  apply Exists.intro
  refine ⟨fun wx hS => ?_, ?_⟩
  · go_simp; rfl
  simp only [Act.put, List.setIfInBounds_toArray, List.set_cons_succ, List.set_cons_zero, List.getElem_toArray, List.getElem_cons_succ, List.getElem_cons_zero]
  refine wpAnyZ_takeE 5 rfl (by kernel_rfl) (by kernel_rfl) (by kernel_rfl) (by kernel_rfl) (fun _ _ _ _ h => h) rfl (by exact s7) ?_
  apply Exists.intro
  refine ⟨fun wx hS => ?_, ?_⟩
  · go_simp; rfl
  simp only [Act.put, List.setIfInBounds_toArray, List.set_cons_succ, List.set_cons_zero, List.getElem_toArray, List.getElem_cons_succ, List.getElem_cons_zero]
  refine wpAnyZ_done (by kernel_rfl) ?_ _
  obtain ⟨p0, p1, p2, p3, p4, p5, p6⟩ := cell7 S7.out.1
  have htr := rtouch_any (c := a) (v := cmv a (.slice xa a.keys.length ca)) w7 ⟨FA.out, _, rfl, KA.out.upd_nil U7.out⟩ (by omega)
  simp only [cmv, strV] at htr
  have HTR := hide htr
  clear htr s7
  go_wp2_with fail
  refine HTR.out.mono ?_
  rintro e w8 ⟨⟨vz, rfl, hz⟩, hu8⟩
  rw [SX.out] at hz
  obtain ⟨oz, cz, rfl, hz1, hz2, hzg⟩ := hz.get
  obtain ⟨ox', cx', hxe, -, -, hxg⟩ := (X7.out.upd_nil hu8).get
  cases hxe
  have U8 := hide (U7.out.trans hu8); have S8 := hide (And.intro (hu8.get S7.out.1 (by simp)) (hu8.get S7.out.2 (by simp))); have X8 := hide (X7.out.upd_nil hu8); have Y8 := hide (Y7.out.upd_nil hu8)
  have HXG := hide hxg; have HZG := hide hzg
  have hz8 := hu8.size
  have n1 : ((X.length : Int) != (X.length : Int)) = false := by simp
  clear hu8 hz hzg hxg HTR p0 p1 p2 p3 p4 p5 p6 U7 S7 X7 Y7
  simp only [maxLen] at hx2 hy2 hz2
  go_wp2_with fail
  go_loopw [12] (fun si wr => ∃ i : Nat, i ≤ X.length ∧ si = .int .i64 i ∧ Upd [] w8 wr) (fun si _ => X.length - (RowKit.intOf si).toNat)
  case atStart => exact ⟨0, by omega, rfl, Upd.refl _ _⟩
  case round =>
    obtain ⟨i, hi, rfl, hur⟩ := hrel
    have UR := hide hur
    have hzr := hur.size
    clear hur
    by_cases hlt : i < X.length
    · have d5 : decide ((i : Int) < X.length) = true := by simp; omega
      have d5' : decide (i < X.length) = true := by simpa using hlt
      obtain ⟨k, hk⟩ : ∃ k, X[i]? = some k := ⟨_, List.getElem?_eq_getElem hlt⟩
      obtain ⟨bx, fx, rfl, -, hcx⟩ := HXG.out i k hk
      obtain ⟨bz, fz, rfl, -, hcz⟩ := HZG.out i k hk
      have c0 := cell_upd hcx UR.out (by simp)
      have c1 := cell_upd hcz UR.out (by simp)
      have e1 : ((strOf k).toList == (strOf k).toList) = true := by simp
      clear hk hcx hcz
      go_wp2_with fail
      go_quiet (fail)
      go_wp2_with fail
      go_roundw
      case rel => exact ⟨i + 1, by omega, by go_num, UR.out.drewN _⟩
      case measure => simp [RowKit.intOf]; omega
    · have d5 : decide ((i : Int) < X.length) = false := by simp; omega
      have d5' : decide (i < X.length) = false := by simpa using hlt
      clear hlt
      have U9 := hide (U8.out.trans UR.out); have S9 := hide (And.intro (UR.out.get S8.out.1 (by simp)) (UR.out.get S8.out.2 (by simp))); have X9 := hide (X8.out.upd_nil UR.out); have Y9 := hide (Y8.out.upd_nil UR.out)
      obtain ⟨w9, hw9⟩ : ∃ x, x = wr := ⟨_, rfl⟩
      rw [← hw9] at U9 S9 X9 Y9 hzr ⊢
      clear hw9 UR U8 S8 X8 Y8 HXG HZG
      go_wp2_with fail
      refine (new_any w9).mono ?_
      rintro e w10 ⟨rfl, hs10, hu10⟩
      obtain ⟨sg, hsg⟩ : ∃ g, w9.heap.size = g := ⟨_, rfl⟩
      rw [hsg] at hs10 ⊢
      have U10 := hide (U9.out.trans hu10); have S10 := hide (And.intro (hu10.get S9.out.1 (by simp)) (hu10.get S9.out.2 (by simp))); have X10 := hide (X9.out.upd_nil hu10); have Y10 := hide (Y9.out.upd_nil hu10); have ST10 := hide hs10
      have hz10 := hu10.size
      rw [hsg] at hzr hz10
      have hBsg : B + 1 < sg := by omega
      clear hs10 hu10 hsg U9 S9 X9 Y9
      go_wp2_with fail
      go_loopw [14] (fun si wr => ∃ (i : Nat) (m : KM), i ≤ l.length ∧ si = .int .i64 i ∧ StIs wr (sg + 1) sg m ∧ KvOk m ∧ m.length ≤ 2 * i ∧ Upd [sg] w10 wr) (fun si _ => l.length - (RowKit.intOf si).toNat)
      case atStart => exact ⟨0, [], by omega, rfl, ST10.out, KvOk.nil, by simp, Upd.refl _ _⟩
      case round =>
        obtain ⟨j, m, hj, rfl, hst, hok, hml, hur⟩ := hrel
        have STR := hide hst; have OK := hide hok; have UR := hide hur
        have UWR := hide (U10.out.trans_new hur (fun k hk => .inr (by have := KBS.out; simp at hk; omega)))
        have hl100 := SML.out.1
        have hzr2 := hur.size
        clear hst hok hur
        by_cases hlj : j < l.length
        · have d6 : decide ((j : Int) < l.length) = true := by simp; omega
          have d6' : decide (j < l.length) = true := by simpa using hlj
          obtain ⟨c, hc⟩ : ∃ c, l[j]? = some c := ⟨_, List.getElem?_eq_getElem hlj⟩
          obtain ⟨bc, oc, kc, cc, rfl, hbc, -, fit, hks, hcc⟩ := HG.out j c hc
          obtain ⟨c0, c1, c2, c3, c4, c5, c6⟩ := hcc.upd UWR.out hbc (by simp)
          have hdo := do_any (c := c) (v := cmv c (.slice kc c.keys.length cc)) wr (ENV.out.upd_nil UWR.out) STR.out OK.out ⟨fit, _, rfl, hks.upd_nil UWR.out⟩ (by omega)
          simp only [cmv, strV] at hdo
          have HDO := hide hdo
          have hbd := do_bound (c := c) OK.out (by omega)
          have HBD := hide hbd
          clear hc fit hks hcc hdo hbd
          go_wp2_with fail
          refine HDO.out.mono ?_
          rintro e w11 ⟨rfl, hs11, hu11⟩
          have S11 := hide hs11; have U11 := hide (UR.out.trans hu11)
          clear hs11 hu11 c0 c1 c2 c3 c4 c5 c6
          unfold rpv
          go_wp2_with fail
          go_roundw
          case rel => exact ⟨j + 1, _, by omega, by go_num, S11.out, HBD.out.ok, by have := HBD.out.len; omega, U11.out⟩
          case measure => simp [RowKit.intOf]; omega
        · have d6 : decide ((j : Int) < l.length) = false := by simp; omega
          have d6' : decide (j < l.length) = false := by simpa using hlj
          clear hlj
          have S12 := hide (And.intro (UR.out.get S10.out.1 (by simp; omega)) (UR.out.get S10.out.2 (by simp; omega)))
          have X12 := hide (X10.out.upd UR.out (by intro k hk; simp at hk; subst hk; rintro ⟨-, h⟩; omega)); have Y12 := hide (Y10.out.upd UR.out (by intro k hk; simp at hk; subst hk; rintro ⟨-, h⟩; omega))
          have hsz10 : sg + 1 < w10.heap.size := blk_lt ST10.out.blk
          obtain ⟨w11, hw11⟩ : ∃ x, x = wr := ⟨_, rfl⟩
          rw [← hw11] at STR S12 X12 Y12 UWR hzr2 ⊢
          clear hw11 UR S10 X10 Y10 ST10 U10 HG CRW SML
          have hm9 : m.length ≤ 200 := by omega
          go_upto_region 17 with fail
          go_cut [92] (fun s wx => s = .bool (!decide (other ∈ X) && !decide (other = [])) ∧ w11 = wx)
          case first =>
            have hin := in_any (k := other) w11 X12.out
            have eo := str_empty other
            by_cases hmX : other ∈ X
            · rw [decide_eq_true hmX] at hin
              have HIN := hide hin
              have HMX := hide hmX
              clear hin hmX
              go_wp2_with fail
              refine HIN.out.mono ?_
              rintro e wq ⟨rfl, rfl⟩
              go_wp2_with fail
              go_meet
              exact ⟨by simp [HMX.out], rfl⟩
            · rw [decide_eq_false hmX] at hin
              have HIN := hide hin
              have HMX := hide hmX
              clear hin hmX
              obtain ⟨qe, hqe⟩ : ∃ q, decide (other = []) = q := ⟨_, rfl⟩
              rw [hqe] at eo
              have HQE := hide hqe
              clear hqe
              cases qe with
              | true =>
                go_wp2_with fail
                refine HIN.out.mono ?_
                rintro e wq ⟨rfl, rfl⟩
                go_wp2_with fail
                go_meet
                exact ⟨by rw [decide_eq_false HMX.out, HQE.out]; rfl, rfl⟩
              | false =>
                go_wp2_with fail
                refine HIN.out.mono ?_
                rintro e wq ⟨rfl, rfl⟩
                go_wp2_with fail
                go_meet
                exact ⟨by rw [decide_eq_false HMX.out, HQE.out]; rfl, rfl⟩
          case rest =>
            obtain ⟨rfl, rfl⟩ := hcut
            obtain ⟨qb, hqb⟩ : ∃ q, (!decide (other ∈ X) && !decide (other = [])) = q := ⟨_, rfl⟩
            rw [hqb]
            have HQB := hide hqb
            clear hqb
            go_upto_if 92 with fail
            go_cut [] (fun wx => StIs wx (sg + 1) sg m ∧ Upd [] w11 wx)
            case first =>
              cases qb with
              | false =>
                go_wp2_with fail
                go_meet
                exact ⟨STR.out, Upd.refl _ _⟩
              | true =>
                have hq : other ∉ X ∧ other ≠ [] := by have := HQB.out; simpa using this
                have hoa : other ∉ a.keys := fun h => hq.1 (by rw [← SX.out]; exact (sortM_says _).2 _ |>.2 h)
                have hpg := put_good (other := other) hq.2 (by omega)
                obtain ⟨do1, do2, do3⟩ := do_other (c := a) (v := chg) OK.out.1 hoa
                obtain ⟨n1, hn1⟩ : ∃ n1, mput strK m other chg = n1 := ⟨_, rfl⟩
                have hokn : KvOk n1 := by rw [← hn1]; exact OK.out.put (by omega) (by decide)
                have hnl : n1.length ≤ 300 := by have := len_put_le (K := strK) (l := m) (k := other) (v := chg); rw [← hn1]; omega
                have hpd : kvDo m (putC other) = (n1, ⟨0, []⟩) := by rw [← hn1]; exact put_do hpg
                rw [hn1] at do1 do2
                obtain ⟨ma, ra, hka2⟩ : ∃ m' r, kvDo m a = (m', r) := ⟨_, _, rfl⟩
                obtain ⟨na, ra', hkn⟩ : ∃ m' r, kvDo n1 a = (m', r) := ⟨_, _, rfl⟩
                rw [hka2] at do1 do3
                rw [hkn] at do1 do2
                simp only at do1 do2 do3
                subst do1
                obtain ⟨gx, hgx⟩ : ∃ x, (mfind m other).getD [] = x := ⟨_, rfl⟩
                obtain ⟨gs, hgs⟩ : ∃ x, (mfind m other).isSome = x := ⟨_, rfl⟩
                have hom : other.length ≤ maxLen := by unfold maxLen; omega
                have PD := hide hpd; have OKN := hide hokn; have KA2 := hide hka2; have KN := hide hkn; have D2 := hide do2; have D3 := hide do3; have GX := hide hgx; have GS := hide hgs; have PF := hide (put_fits (other := other) (by omega))
                clear hq hoa hpg do2 do3 hn1 hokn hpd hka2 hkn hgx hgs HQB
                go_wp2_with fail
                refine (kcopy_any w11 STR.out OK.out (by omega)).mono ?_
                rintro e w15 ⟨⟨tb, tg, rfl, ht, htb, htg⟩, hu15⟩
                have T15 := hide ht; have ST15 := hide (STR.out.upd_nil hu15); have U15 := hide hu15
                have l1 := blk_lt ht.blk; have l2 := MapKind.is_lt ht.map; have hz15 := hu15.size
                clear ht hu15
                go_wp2_with fail
                refine (kcopy_any w15 ST15.out OK.out (by omega)).mono ?_
                rintro e w16 ⟨⟨ub, ug, rfl, hu, hub, hug⟩, hu16⟩
                have T16 := hide (T15.out.upd_nil hu16); have V16 := hide hu; have U16 := hide (U15.out.trans hu16)
                have l3 := blk_lt hu.blk; have l4 := MapKind.is_lt hu.map; have hz16 := hu16.size
                have hK := blk_new w16 (.cells #[.string (strOf other)] 9)
                have hal := (Upd.refl [] w16).alloc (.cells #[.string (strOf other)] 9)
                have hzal : (w16.alloc (.cells #[.string (strOf other)] 9)).heap.size = w16.heap.size + 1 := by simp
                have HK := hide hK; have HAL := hide hal; have HZAL := hide hzal
                clear hu hu16 T15 ST15 U15 hK hal hzal
                go_wp2_with fail
                refine (kstep PD.out (w16.alloc (.cells #[.string (strOf other)] 9)) (ENV.out.upd_nil (UWR.out.trans (U16.out.trans HAL.out))) (V16.out.upd_nil HAL.out) OK.out ⟨PF.out, _, rfl, strs1 (s := other) HK.out⟩ (by omega)).mono ?_
                rintro e w17 ⟨rfl, hv17, hu17⟩
                unfold rpv
                have hug7 : Upd [ug] w16 w17 := (HAL.out.mono (by simp)).trans hu17
                have V17 := hide hv17; have T17 := hide (T16.out.upd hug7 (by simp; omega) (by simp; omega)); have U17 := hide (U16.out.trans_new hug7 (fun k hk => .inr (by simp at hk; omega)))
                have hz17 := hug7.size
                clear hv17 hu17 hug7 HK HAL HZAL V16 T16 U16
                have ST17 := hide (STR.out.upd_nil U17.out); have SB := hide (And.intro (U17.out.get S12.out.1 (by simp)) (U17.out.get S12.out.2 (by simp)))
                have hsg1 := sget_any (k := other) w17 ST17.out hom
                rw [GX.out, GS.out] at hsg1
                have HSG1 := hide hsg1
                clear hsg1
                go_wp2_with fail
                refine HSG1.out.mono ?_
                rintro e wq ⟨rfl, rfl⟩
                have TOK := hide (show TwoOk w w17 [tg, ug] tb tg ub ug from ⟨UWR.out.trans U17.out, fun k hk => by have := UWR.out.size; simp at hk; rcases hk with rfl | rfl <;> omega, by simp, by simp, by omega, by omega, by omega⟩)
                have TBB := hide (show TwoB w17 [tg, ug] tb tg ub ug from ⟨by omega, by omega, by omega, by omega⟩)
                have hBl := blk_lt S12.out.1; have hBl2 := blk_lt S12.out.2
                have hnB := hide (show B ∉ [tg, ug] ∧ B + 1 ∉ [tg, ug] by constructor <;> simp <;> omega)
                have HC1 := hide (show ∀ o6 o7 wx, TwoG w17 [tg, ug] tb tg ub ug m n1 o6 o7 wx → Calls Tryd.prog 16 #[.pointer (some ⟨tb, 0, none⟩), (.agg #[.int .u32 (a.client : Int), .int .u32 (a.seq : Int), .int .u8 (a.kind : Int), .slice xa a.keys.length ca, .string (strOf a.old), .string (strOf a.new), .int .i64 a.n])] wx fun e w' => e = .returned (rpv ra') ∧ TwoG w17 [tg, ug] tb tg ub ug ma n1 o6 o7 w' from fun o6 o7 wx h => by
                  have := h.do_t TOK.out ENV.out OK.out (by omega) (v := cmv a (.slice xa a.keys.length ca)) (c := a) ⟨FA.out, _, rfl, KA.out⟩
                  rw [KA2.out] at this
                  simp only [cmv, strV] at this
                  exact this)
                have HC2 := hide (show ∀ o6 o7 wx, TwoG w17 [tg, ug] tb tg ub ug ma n1 o6 o7 wx → Calls Tryd.prog 16 #[.pointer (some ⟨ub, 0, none⟩), (.agg #[.int .u32 (a.client : Int), .int .u32 (a.seq : Int), .int .u8 (a.kind : Int), .slice xa a.keys.length ca, .string (strOf a.old), .string (strOf a.new), .int .i64 a.n])] wx fun e w' => e = .returned (rpv ra') ∧ TwoG w17 [tg, ug] tb tg ub ug ma na o6 o7 w' from fun o6 o7 wx h => by
                  have := h.do_u TOK.out ENV.out OKN.out (by omega) (v := cmv a (.slice xa a.keys.length ca)) (c := a) ⟨FA.out, _, rfl, KA.out⟩
                  rw [KN.out] at this
                  simp only [cmv, strV] at this
                  exact this)
                have hz0 := TwoG.start (w0 := w17) (U := [tg, ug]) (T17.out.upd_nil ((Upd.refl [] w17).drewN 1)) (V17.out.upd_nil ((Upd.refl [] w17).drewN 1)) ((Upd.refl _ w17).drewN 1)
                go_upto_region 21 with fail
                go_cut [19, 20] (fun s1 s2 wx => TwoR w17 [tg, ug] tb tg ub ug ma na ra' ra' s1 s2 wx)
                case first =>
                  as_aux_lemma =>
                  refine wp_region_z (fun wx => Upd [tg, ug] w17 wx) 99 (by kernel_rfl) ?_
                  refine wpAnyZ_takeE 0 rfl (by kernel_rfl) (by kernel_rfl) (by kernel_rfl) (by kernel_rfl) (fun _ _ _ _ h => h) rfl (by exact hz0.s) ?_
                  apply Exists.intro
                  refine ⟨fun wx hS => ?_, ?_⟩
                  · go_simp; rfl
                  simp only [Act.put, List.setIfInBounds_toArray, List.set_cons_succ, List.set_cons_zero, List.getElem_toArray, List.getElem_cons_zero]
                  refine wpAnyZ_takeE 1 rfl (by kernel_rfl) (by kernel_rfl) (by kernel_rfl) (by kernel_rfl) (fun _ _ _ _ h => h) rfl (by exact hz0.s) ?_
                  apply Exists.intro
                  refine ⟨fun wx hS => ?_, ?_⟩
                  · obtain ⟨p0, p1, p2, p3, p4, p5, p6⟩ := cell7 (hS.get SB.out.1 hnB.out.1); go_simp; rfl
                  simp only [Act.put, List.setIfInBounds_toArray, List.set_cons_succ, List.set_cons_zero, List.getElem_toArray, List.getElem_cons_succ, List.getElem_cons_zero]
                  refine wpAnyZ_takeE 3 rfl (by kernel_rfl) (by kernel_rfl) (by kernel_rfl) (by kernel_rfl) (fun _ _ _ _ h => h) rfl (by exact hz0.s) ?_
                  apply Exists.intro
                  refine ⟨fun wx hS => ?_, ?_⟩
                  · go_simp; rfl
                  simp only [Act.put, List.setIfInBounds_toArray, List.set_cons_succ, List.set_cons_zero, List.getElem_toArray, List.getElem_cons_succ, List.getElem_cons_zero]
                  refine wpAnyZ_takeE 4 rfl (by kernel_rfl) (by kernel_rfl) (by kernel_rfl) (by kernel_rfl) (fun _ _ _ _ h => h) rfl (by exact hz0.s) ?_
                  apply Exists.intro
                  refine ⟨fun wx hS => ?_, ?_⟩
                  · obtain ⟨p0, p1, p2, p3, p4, p5, p6⟩ := cell7 (hS.get SB.out.1 hnB.out.1); go_simp; rfl
                  simp only [Act.put, List.setIfInBounds_toArray, List.set_cons_succ, List.set_cons_zero, List.getElem_toArray, List.getElem_cons_succ, List.getElem_cons_zero]
                  refine wpAnyZ_three 2 6 7 (by kernel_rfl) rfl rfl rfl rfl rfl rfl (fun K hK => ?_) (fun K hK => ?_) (fun K hK => ?_)
                  · try simp only [List.getElem_toArray, List.getElem_cons_succ, List.getElem_cons_zero]
                    go_simp
                    refine (HC1.out _ _ _ hz0).mono ?_
                    rintro e wz1 ⟨rfl, hz1⟩
                    unfold rpv
                    refine hK _ _ (.inr hz1.s) ?_
                    clear hK K
                    try simp only [Act.put, List.setIfInBounds_toArray, List.set_cons_succ, List.set_cons_zero]
                    refine wpAnyZ_three 5 6 7 (by kernel_rfl) rfl rfl rfl rfl rfl rfl (fun K hK => ?_) (fun K hK => ?_) (fun K hK => ?_)
                    · try simp only [List.getElem_toArray, List.getElem_cons_succ, List.getElem_cons_zero]
                      go_simp
                      refine (HC2.out _ _ _ hz1).mono ?_
                      rintro e wz2 ⟨rfl, hz2⟩
                      unfold rpv
                      refine hK _ _ (.inr hz2.s) ?_
                      clear hK K
                      try simp only [Act.put, List.setIfInBounds_toArray, List.set_cons_succ, List.set_cons_zero]
                      refine wpAnyZ_two 6 7 (by kernel_rfl) rfl rfl rfl rfl (fun K hK => ?_) (fun K hK => ?_)
                      · try simp only [List.getElem_toArray, List.getElem_cons_succ, List.getElem_cons_zero]
                        go_simp
                        obtain ⟨wz3, hwn, hz3⟩ : ∃ wn, wn = wz2.alloc (.cells #[.int .u8 0, .string ⟨#[]⟩] TRp) ∧ _ := ⟨_, rfl, TwoG.alloc6 hz2⟩
                        rw [← hwn]
                        obtain ⟨R6, hRR⟩ : ∃ R, wz2.heap.size = R := ⟨_, rfl⟩
                        rw [hRR] at hz3 ⊢
                        clear hwn hRR
                        refine hK _ _ (.inr hz3.s) ?_
                        clear hK K
                        try simp only [Act.put, List.setIfInBounds_toArray, List.set_cons_succ, List.set_cons_zero]
                        refine wpAnyZ_one 7 (by kernel_rfl) rfl rfl (fun K hK => ?_)
                        try simp only [List.getElem_toArray, List.getElem_cons_succ, List.getElem_cons_zero]
                        go_simp
                        obtain ⟨wz4, hwn, hz4⟩ : ∃ wn, wn = wz3.alloc (.cells #[.int .u8 0, .string ⟨#[]⟩] TRp) ∧ _ := ⟨_, rfl, TwoG.alloc7 hz3⟩
                        rw [← hwn]
                        obtain ⟨R7, hRR⟩ : ∃ R, wz3.heap.size = R := ⟨_, rfl⟩
                        rw [hRR] at hz4 ⊢
                        clear hwn hRR
                        refine hK _ _ (.inr hz4.s) ?_
                        clear hK K
                        try simp only [Act.put, List.setIfInBounds_toArray, List.set_cons_succ, List.set_cons_zero]
                        obtain ⟨f6, f7, f8, f9⟩ := TwoG.facts hz4 ra'
                        have fin := TwoG.fin (r1 := ra') (r2 := ra') hz4 TBB.out
                        refine wpAnyZ_one 8 (by kernel_rfl) rfl rfl (fun K hK => ?_)
                        try simp only [List.getElem_toArray, List.getElem_cons_succ, List.getElem_cons_zero]
                        obtain ⟨z0, z1, y0, y1, z2, y2⟩ := res_facts f6
                        go_simp
                        refine hK _ _ (.inr f8) ?_
                        clear hK K
                        try simp only [Act.put, List.setIfInBounds_toArray, List.set_cons_succ, List.set_cons_zero]
                        clear z0 z1 y0 y1 z2 y2
                        refine wpAnyZ_one 9 (by kernel_rfl) rfl rfl (fun K hK => ?_)
                        try simp only [List.getElem_toArray, List.getElem_cons_succ, List.getElem_cons_zero]
                        obtain ⟨z0, z1, y0, y1, z2, y2⟩ := res_facts f7
                        go_simp
                        refine hK _ _ (.inr (f9 ra')) ?_
                        clear hK K
                        try simp only [Act.put, List.setIfInBounds_toArray, List.set_cons_succ, List.set_cons_zero]
                        refine wpAnyZ_done (by kernel_rfl) ?_ _
                        clear z0 z1 y0 y1 z2 y2
                        go_wp2_with fail
                        go_meet
                        exact fin
                      · try simp only [List.getElem_toArray, List.getElem_cons_succ, List.getElem_cons_zero]
                        go_simp
                        obtain ⟨wz3, hwn, hz3⟩ : ∃ wn, wn = wz2.alloc (.cells #[.int .u8 0, .string ⟨#[]⟩] TRp) ∧ _ := ⟨_, rfl, TwoG.alloc7 hz2⟩
                        rw [← hwn]
                        obtain ⟨R7, hRR⟩ : ∃ R, wz2.heap.size = R := ⟨_, rfl⟩
                        rw [hRR] at hz3 ⊢
                        clear hwn hRR
                        refine hK _ _ (.inr hz3.s) ?_
                        clear hK K
                        try simp only [Act.put, List.setIfInBounds_toArray, List.set_cons_succ, List.set_cons_zero]
                        refine wpAnyZ_one 6 (by kernel_rfl) rfl rfl (fun K hK => ?_)
                        try simp only [List.getElem_toArray, List.getElem_cons_succ, List.getElem_cons_zero]
                        go_simp
                        obtain ⟨wz4, hwn, hz4⟩ : ∃ wn, wn = wz3.alloc (.cells #[.int .u8 0, .string ⟨#[]⟩] TRp) ∧ _ := ⟨_, rfl, TwoG.alloc6 hz3⟩
                        rw [← hwn]
                        obtain ⟨R6, hRR⟩ : ∃ R, wz3.heap.size = R := ⟨_, rfl⟩
                        rw [hRR] at hz4 ⊢
                        clear hwn hRR
                        refine hK _ _ (.inr hz4.s) ?_
                        clear hK K
                        try simp only [Act.put, List.setIfInBounds_toArray, List.set_cons_succ, List.set_cons_zero]
                        obtain ⟨f6, f7, f8, f9⟩ := TwoG.facts hz4 ra'
                        have fin := TwoG.fin (r1 := ra') (r2 := ra') hz4 TBB.out
                        refine wpAnyZ_one 8 (by kernel_rfl) rfl rfl (fun K hK => ?_)
                        try simp only [List.getElem_toArray, List.getElem_cons_succ, List.getElem_cons_zero]
                        obtain ⟨z0, z1, y0, y1, z2, y2⟩ := res_facts f6
                        go_simp
                        refine hK _ _ (.inr f8) ?_
                        clear hK K
                        try simp only [Act.put, List.setIfInBounds_toArray, List.set_cons_succ, List.set_cons_zero]
                        clear z0 z1 y0 y1 z2 y2
                        refine wpAnyZ_one 9 (by kernel_rfl) rfl rfl (fun K hK => ?_)
                        try simp only [List.getElem_toArray, List.getElem_cons_succ, List.getElem_cons_zero]
                        obtain ⟨z0, z1, y0, y1, z2, y2⟩ := res_facts f7
                        go_simp
                        refine hK _ _ (.inr (f9 ra')) ?_
                        clear hK K
                        try simp only [Act.put, List.setIfInBounds_toArray, List.set_cons_succ, List.set_cons_zero]
                        refine wpAnyZ_done (by kernel_rfl) ?_ _
                        clear z0 z1 y0 y1 z2 y2
                        go_wp2_with fail
                        go_meet
                        exact fin
                    · try simp only [List.getElem_toArray, List.getElem_cons_succ, List.getElem_cons_zero]
                      go_simp
                      obtain ⟨wz2, hwn, hz2⟩ : ∃ wn, wn = wz1.alloc (.cells #[.int .u8 0, .string ⟨#[]⟩] TRp) ∧ _ := ⟨_, rfl, TwoG.alloc6 hz1⟩
                      rw [← hwn]
                      obtain ⟨R6, hRR⟩ : ∃ R, wz1.heap.size = R := ⟨_, rfl⟩
                      rw [hRR] at hz2 ⊢
                      clear hwn hRR
                      refine hK _ _ (.inr hz2.s) ?_
                      clear hK K
                      try simp only [Act.put, List.setIfInBounds_toArray, List.set_cons_succ, List.set_cons_zero]
                      refine wpAnyZ_two 5 7 (by kernel_rfl) rfl rfl rfl rfl (fun K hK => ?_) (fun K hK => ?_)
                      · try simp only [List.getElem_toArray, List.getElem_cons_succ, List.getElem_cons_zero]
                        go_simp
                        refine (HC2.out _ _ _ hz2).mono ?_
                        rintro e wz3 ⟨rfl, hz3⟩
                        unfold rpv
                        refine hK _ _ (.inr hz3.s) ?_
                        clear hK K
                        try simp only [Act.put, List.setIfInBounds_toArray, List.set_cons_succ, List.set_cons_zero]
                        refine wpAnyZ_one 7 (by kernel_rfl) rfl rfl (fun K hK => ?_)
                        try simp only [List.getElem_toArray, List.getElem_cons_succ, List.getElem_cons_zero]
                        go_simp
                        obtain ⟨wz4, hwn, hz4⟩ : ∃ wn, wn = wz3.alloc (.cells #[.int .u8 0, .string ⟨#[]⟩] TRp) ∧ _ := ⟨_, rfl, TwoG.alloc7 hz3⟩
                        rw [← hwn]
                        obtain ⟨R7, hRR⟩ : ∃ R, wz3.heap.size = R := ⟨_, rfl⟩
                        rw [hRR] at hz4 ⊢
                        clear hwn hRR
                        refine hK _ _ (.inr hz4.s) ?_
                        clear hK K
                        try simp only [Act.put, List.setIfInBounds_toArray, List.set_cons_succ, List.set_cons_zero]
                        obtain ⟨f6, f7, f8, f9⟩ := TwoG.facts hz4 ra'
                        have fin := TwoG.fin (r1 := ra') (r2 := ra') hz4 TBB.out
                        refine wpAnyZ_one 8 (by kernel_rfl) rfl rfl (fun K hK => ?_)
                        try simp only [List.getElem_toArray, List.getElem_cons_succ, List.getElem_cons_zero]
                        obtain ⟨z0, z1, y0, y1, z2, y2⟩ := res_facts f6
                        go_simp
                        refine hK _ _ (.inr f8) ?_
                        clear hK K
                        try simp only [Act.put, List.setIfInBounds_toArray, List.set_cons_succ, List.set_cons_zero]
                        clear z0 z1 y0 y1 z2 y2
                        refine wpAnyZ_one 9 (by kernel_rfl) rfl rfl (fun K hK => ?_)
                        try simp only [List.getElem_toArray, List.getElem_cons_succ, List.getElem_cons_zero]
                        obtain ⟨z0, z1, y0, y1, z2, y2⟩ := res_facts f7
                        go_simp
                        refine hK _ _ (.inr (f9 ra')) ?_
                        clear hK K
                        try simp only [Act.put, List.setIfInBounds_toArray, List.set_cons_succ, List.set_cons_zero]
                        refine wpAnyZ_done (by kernel_rfl) ?_ _
                        clear z0 z1 y0 y1 z2 y2
                        go_wp2_with fail
                        go_meet
                        exact fin
                      · try simp only [List.getElem_toArray, List.getElem_cons_succ, List.getElem_cons_zero]
                        go_simp
                        obtain ⟨wz3, hwn, hz3⟩ : ∃ wn, wn = wz2.alloc (.cells #[.int .u8 0, .string ⟨#[]⟩] TRp) ∧ _ := ⟨_, rfl, TwoG.alloc7 hz2⟩
                        rw [← hwn]
                        obtain ⟨R7, hRR⟩ : ∃ R, wz2.heap.size = R := ⟨_, rfl⟩
                        rw [hRR] at hz3 ⊢
                        clear hwn hRR
                        refine hK _ _ (.inr hz3.s) ?_
                        clear hK K
                        try simp only [Act.put, List.setIfInBounds_toArray, List.set_cons_succ, List.set_cons_zero]
                        refine wpAnyZ_one 5 (by kernel_rfl) rfl rfl (fun K hK => ?_)
                        try simp only [List.getElem_toArray, List.getElem_cons_succ, List.getElem_cons_zero]
                        go_simp
                        refine (HC2.out _ _ _ hz3).mono ?_
                        rintro e wz4 ⟨rfl, hz4⟩
                        unfold rpv
                        refine hK _ _ (.inr hz4.s) ?_
                        clear hK K
                        try simp only [Act.put, List.setIfInBounds_toArray, List.set_cons_succ, List.set_cons_zero]
                        obtain ⟨f6, f7, f8, f9⟩ := TwoG.facts hz4 ra'
                        have fin := TwoG.fin (r1 := ra') (r2 := ra') hz4 TBB.out
                        refine wpAnyZ_one 8 (by kernel_rfl) rfl rfl (fun K hK => ?_)
                        try simp only [List.getElem_toArray, List.getElem_cons_succ, List.getElem_cons_zero]
                        obtain ⟨z0, z1, y0, y1, z2, y2⟩ := res_facts f6
                        go_simp
                        refine hK _ _ (.inr f8) ?_
                        clear hK K
                        try simp only [Act.put, List.setIfInBounds_toArray, List.set_cons_succ, List.set_cons_zero]
                        clear z0 z1 y0 y1 z2 y2
                        refine wpAnyZ_one 9 (by kernel_rfl) rfl rfl (fun K hK => ?_)
                        try simp only [List.getElem_toArray, List.getElem_cons_succ, List.getElem_cons_zero]
                        obtain ⟨z0, z1, y0, y1, z2, y2⟩ := res_facts f7
                        go_simp
                        refine hK _ _ (.inr (f9 ra')) ?_
                        clear hK K
                        try simp only [Act.put, List.setIfInBounds_toArray, List.set_cons_succ, List.set_cons_zero]
                        refine wpAnyZ_done (by kernel_rfl) ?_ _
                        clear z0 z1 y0 y1 z2 y2
                        go_wp2_with fail
                        go_meet
                        exact fin
                    · try simp only [List.getElem_toArray, List.getElem_cons_succ, List.getElem_cons_zero]
                      go_simp
                      obtain ⟨wz2, hwn, hz2⟩ : ∃ wn, wn = wz1.alloc (.cells #[.int .u8 0, .string ⟨#[]⟩] TRp) ∧ _ := ⟨_, rfl, TwoG.alloc7 hz1⟩
                      rw [← hwn]
                      obtain ⟨R7, hRR⟩ : ∃ R, wz1.heap.size = R := ⟨_, rfl⟩
                      rw [hRR] at hz2 ⊢
                      clear hwn hRR
                      refine hK _ _ (.inr hz2.s) ?_
                      clear hK K
                      try simp only [Act.put, List.setIfInBounds_toArray, List.set_cons_succ, List.set_cons_zero]
                      refine wpAnyZ_two 5 6 (by kernel_rfl) rfl rfl rfl rfl (fun K hK => ?_) (fun K hK => ?_)
                      · try simp only [List.getElem_toArray, List.getElem_cons_succ, List.getElem_cons_zero]
                        go_simp
                        refine (HC2.out _ _ _ hz2).mono ?_
                        rintro e wz3 ⟨rfl, hz3⟩
                        unfold rpv
                        refine hK _ _ (.inr hz3.s) ?_
                        clear hK K
                        try simp only [Act.put, List.setIfInBounds_toArray, List.set_cons_succ, List.set_cons_zero]
                        refine wpAnyZ_one 6 (by kernel_rfl) rfl rfl (fun K hK => ?_)
                        try simp only [List.getElem_toArray, List.getElem_cons_succ, List.getElem_cons_zero]
                        go_simp
                        obtain ⟨wz4, hwn, hz4⟩ : ∃ wn, wn = wz3.alloc (.cells #[.int .u8 0, .string ⟨#[]⟩] TRp) ∧ _ := ⟨_, rfl, TwoG.alloc6 hz3⟩
                        rw [← hwn]
                        obtain ⟨R6, hRR⟩ : ∃ R, wz3.heap.size = R := ⟨_, rfl⟩
                        rw [hRR] at hz4 ⊢
                        clear hwn hRR
                        refine hK _ _ (.inr hz4.s) ?_
                        clear hK K
                        try simp only [Act.put, List.setIfInBounds_toArray, List.set_cons_succ, List.set_cons_zero]
                        obtain ⟨f6, f7, f8, f9⟩ := TwoG.facts hz4 ra'
                        have fin := TwoG.fin (r1 := ra') (r2 := ra') hz4 TBB.out
                        refine wpAnyZ_one 8 (by kernel_rfl) rfl rfl (fun K hK => ?_)
                        try simp only [List.getElem_toArray, List.getElem_cons_succ, List.getElem_cons_zero]
                        obtain ⟨z0, z1, y0, y1, z2, y2⟩ := res_facts f6
                        go_simp
                        refine hK _ _ (.inr f8) ?_
                        clear hK K
                        try simp only [Act.put, List.setIfInBounds_toArray, List.set_cons_succ, List.set_cons_zero]
                        clear z0 z1 y0 y1 z2 y2
                        refine wpAnyZ_one 9 (by kernel_rfl) rfl rfl (fun K hK => ?_)
                        try simp only [List.getElem_toArray, List.getElem_cons_succ, List.getElem_cons_zero]
                        obtain ⟨z0, z1, y0, y1, z2, y2⟩ := res_facts f7
                        go_simp
                        refine hK _ _ (.inr (f9 ra')) ?_
                        clear hK K
                        try simp only [Act.put, List.setIfInBounds_toArray, List.set_cons_succ, List.set_cons_zero]
                        refine wpAnyZ_done (by kernel_rfl) ?_ _
                        clear z0 z1 y0 y1 z2 y2
                        go_wp2_with fail
                        go_meet
                        exact fin
                      · try simp only [List.getElem_toArray, List.getElem_cons_succ, List.getElem_cons_zero]
                        go_simp
                        obtain ⟨wz3, hwn, hz3⟩ : ∃ wn, wn = wz2.alloc (.cells #[.int .u8 0, .string ⟨#[]⟩] TRp) ∧ _ := ⟨_, rfl, TwoG.alloc6 hz2⟩
                        rw [← hwn]
                        obtain ⟨R6, hRR⟩ : ∃ R, wz2.heap.size = R := ⟨_, rfl⟩
                        rw [hRR] at hz3 ⊢
                        clear hwn hRR
                        refine hK _ _ (.inr hz3.s) ?_
                        clear hK K
                        try simp only [Act.put, List.setIfInBounds_toArray, List.set_cons_succ, List.set_cons_zero]
                        refine wpAnyZ_one 5 (by kernel_rfl) rfl rfl (fun K hK => ?_)
                        try simp only [List.getElem_toArray, List.getElem_cons_succ, List.getElem_cons_zero]
                        go_simp
                        refine (HC2.out _ _ _ hz3).mono ?_
                        rintro e wz4 ⟨rfl, hz4⟩
                        unfold rpv
                        refine hK _ _ (.inr hz4.s) ?_
                        clear hK K
                        try simp only [Act.put, List.setIfInBounds_toArray, List.set_cons_succ, List.set_cons_zero]
                        obtain ⟨f6, f7, f8, f9⟩ := TwoG.facts hz4 ra'
                        have fin := TwoG.fin (r1 := ra') (r2 := ra') hz4 TBB.out
                        refine wpAnyZ_one 8 (by kernel_rfl) rfl rfl (fun K hK => ?_)
                        try simp only [List.getElem_toArray, List.getElem_cons_succ, List.getElem_cons_zero]
                        obtain ⟨z0, z1, y0, y1, z2, y2⟩ := res_facts f6
                        go_simp
                        refine hK _ _ (.inr f8) ?_
                        clear hK K
                        try simp only [Act.put, List.setIfInBounds_toArray, List.set_cons_succ, List.set_cons_zero]
                        clear z0 z1 y0 y1 z2 y2
                        refine wpAnyZ_one 9 (by kernel_rfl) rfl rfl (fun K hK => ?_)
                        try simp only [List.getElem_toArray, List.getElem_cons_succ, List.getElem_cons_zero]
                        obtain ⟨z0, z1, y0, y1, z2, y2⟩ := res_facts f7
                        go_simp
                        refine hK _ _ (.inr (f9 ra')) ?_
                        clear hK K
                        try simp only [Act.put, List.setIfInBounds_toArray, List.set_cons_succ, List.set_cons_zero]
                        refine wpAnyZ_done (by kernel_rfl) ?_ _
                        clear z0 z1 y0 y1 z2 y2
                        go_wp2_with fail
                        go_meet
                        exact fin
                  · try simp only [List.getElem_toArray, List.getElem_cons_succ, List.getElem_cons_zero]
                    go_simp
                    obtain ⟨wz1, hwn, hz1⟩ : ∃ wn, wn = (w17.drewN 1).alloc (.cells #[.int .u8 0, .string ⟨#[]⟩] TRp) ∧ _ := ⟨_, rfl, TwoG.alloc6 hz0⟩
                    rw [← hwn]
                    obtain ⟨R6, hRR⟩ : ∃ R, w17.heap.size = R := ⟨_, rfl⟩
                    rw [show (w17.drewN 1).heap.size = R6 from hRR] at hz1
                    rw [hRR]
                    clear hwn hRR
                    refine hK _ _ (.inr hz1.s) ?_
                    clear hK K
                    try simp only [Act.put, List.setIfInBounds_toArray, List.set_cons_succ, List.set_cons_zero]
                    refine wpAnyZ_two 2 7 (by kernel_rfl) rfl rfl rfl rfl (fun K hK => ?_) (fun K hK => ?_)
                    · try simp only [List.getElem_toArray, List.getElem_cons_succ, List.getElem_cons_zero]
                      go_simp
                      refine (HC1.out _ _ _ hz1).mono ?_
                      rintro e wz2 ⟨rfl, hz2⟩
                      unfold rpv
                      refine hK _ _ (.inr hz2.s) ?_
                      clear hK K
                      try simp only [Act.put, List.setIfInBounds_toArray, List.set_cons_succ, List.set_cons_zero]
                      refine wpAnyZ_two 5 7 (by kernel_rfl) rfl rfl rfl rfl (fun K hK => ?_) (fun K hK => ?_)
                      · try simp only [List.getElem_toArray, List.getElem_cons_succ, List.getElem_cons_zero]
                        go_simp
                        refine (HC2.out _ _ _ hz2).mono ?_
                        rintro e wz3 ⟨rfl, hz3⟩
                        unfold rpv
                        refine hK _ _ (.inr hz3.s) ?_
                        clear hK K
                        try simp only [Act.put, List.setIfInBounds_toArray, List.set_cons_succ, List.set_cons_zero]
                        refine wpAnyZ_one 7 (by kernel_rfl) rfl rfl (fun K hK => ?_)
                        try simp only [List.getElem_toArray, List.getElem_cons_succ, List.getElem_cons_zero]
                        go_simp
                        obtain ⟨wz4, hwn, hz4⟩ : ∃ wn, wn = wz3.alloc (.cells #[.int .u8 0, .string ⟨#[]⟩] TRp) ∧ _ := ⟨_, rfl, TwoG.alloc7 hz3⟩
                        rw [← hwn]
                        obtain ⟨R7, hRR⟩ : ∃ R, wz3.heap.size = R := ⟨_, rfl⟩
                        rw [hRR] at hz4 ⊢
                        clear hwn hRR
                        refine hK _ _ (.inr hz4.s) ?_
                        clear hK K
                        try simp only [Act.put, List.setIfInBounds_toArray, List.set_cons_succ, List.set_cons_zero]
                        obtain ⟨f6, f7, f8, f9⟩ := TwoG.facts hz4 ra'
                        have fin := TwoG.fin (r1 := ra') (r2 := ra') hz4 TBB.out
                        refine wpAnyZ_one 8 (by kernel_rfl) rfl rfl (fun K hK => ?_)
                        try simp only [List.getElem_toArray, List.getElem_cons_succ, List.getElem_cons_zero]
                        obtain ⟨z0, z1, y0, y1, z2, y2⟩ := res_facts f6
                        go_simp
                        refine hK _ _ (.inr f8) ?_
                        clear hK K
                        try simp only [Act.put, List.setIfInBounds_toArray, List.set_cons_succ, List.set_cons_zero]
                        clear z0 z1 y0 y1 z2 y2
                        refine wpAnyZ_one 9 (by kernel_rfl) rfl rfl (fun K hK => ?_)
                        try simp only [List.getElem_toArray, List.getElem_cons_succ, List.getElem_cons_zero]
                        obtain ⟨z0, z1, y0, y1, z2, y2⟩ := res_facts f7
                        go_simp
                        refine hK _ _ (.inr (f9 ra')) ?_
                        clear hK K
                        try simp only [Act.put, List.setIfInBounds_toArray, List.set_cons_succ, List.set_cons_zero]
                        refine wpAnyZ_done (by kernel_rfl) ?_ _
                        clear z0 z1 y0 y1 z2 y2
                        go_wp2_with fail
                        go_meet
                        exact fin
                      · try simp only [List.getElem_toArray, List.getElem_cons_succ, List.getElem_cons_zero]
                        go_simp
                        obtain ⟨wz3, hwn, hz3⟩ : ∃ wn, wn = wz2.alloc (.cells #[.int .u8 0, .string ⟨#[]⟩] TRp) ∧ _ := ⟨_, rfl, TwoG.alloc7 hz2⟩
                        rw [← hwn]
                        obtain ⟨R7, hRR⟩ : ∃ R, wz2.heap.size = R := ⟨_, rfl⟩
                        rw [hRR] at hz3 ⊢
                        clear hwn hRR
                        refine hK _ _ (.inr hz3.s) ?_
                        clear hK K
                        try simp only [Act.put, List.setIfInBounds_toArray, List.set_cons_succ, List.set_cons_zero]
                        refine wpAnyZ_one 5 (by kernel_rfl) rfl rfl (fun K hK => ?_)
                        try simp only [List.getElem_toArray, List.getElem_cons_succ, List.getElem_cons_zero]
                        go_simp
                        refine (HC2.out _ _ _ hz3).mono ?_
                        rintro e wz4 ⟨rfl, hz4⟩
                        unfold rpv
                        refine hK _ _ (.inr hz4.s) ?_
                        clear hK K
                        try simp only [Act.put, List.setIfInBounds_toArray, List.set_cons_succ, List.set_cons_zero]
                        obtain ⟨f6, f7, f8, f9⟩ := TwoG.facts hz4 ra'
                        have fin := TwoG.fin (r1 := ra') (r2 := ra') hz4 TBB.out
                        refine wpAnyZ_one 8 (by kernel_rfl) rfl rfl (fun K hK => ?_)
                        try simp only [List.getElem_toArray, List.getElem_cons_succ, List.getElem_cons_zero]
                        obtain ⟨z0, z1, y0, y1, z2, y2⟩ := res_facts f6
                        go_simp
                        refine hK _ _ (.inr f8) ?_
                        clear hK K
                        try simp only [Act.put, List.setIfInBounds_toArray, List.set_cons_succ, List.set_cons_zero]
                        clear z0 z1 y0 y1 z2 y2
                        refine wpAnyZ_one 9 (by kernel_rfl) rfl rfl (fun K hK => ?_)
                        try simp only [List.getElem_toArray, List.getElem_cons_succ, List.getElem_cons_zero]
                        obtain ⟨z0, z1, y0, y1, z2, y2⟩ := res_facts f7
                        go_simp
                        refine hK _ _ (.inr (f9 ra')) ?_
                        clear hK K
                        try simp only [Act.put, List.setIfInBounds_toArray, List.set_cons_succ, List.set_cons_zero]
                        refine wpAnyZ_done (by kernel_rfl) ?_ _
                        clear z0 z1 y0 y1 z2 y2
                        go_wp2_with fail
                        go_meet
                        exact fin
                    · try simp only [List.getElem_toArray, List.getElem_cons_succ, List.getElem_cons_zero]
                      go_simp
                      obtain ⟨wz2, hwn, hz2⟩ : ∃ wn, wn = wz1.alloc (.cells #[.int .u8 0, .string ⟨#[]⟩] TRp) ∧ _ := ⟨_, rfl, TwoG.alloc7 hz1⟩
                      rw [← hwn]
                      obtain ⟨R7, hRR⟩ : ∃ R, wz1.heap.size = R := ⟨_, rfl⟩
                      rw [hRR] at hz2 ⊢
                      clear hwn hRR
                      refine hK _ _ (.inr hz2.s) ?_
                      clear hK K
                      try simp only [Act.put, List.setIfInBounds_toArray, List.set_cons_succ, List.set_cons_zero]
                      refine wpAnyZ_one 2 (by kernel_rfl) rfl rfl (fun K hK => ?_)
                      try simp only [List.getElem_toArray, List.getElem_cons_succ, List.getElem_cons_zero]
                      go_simp
                      refine (HC1.out _ _ _ hz2).mono ?_
                      rintro e wz3 ⟨rfl, hz3⟩
                      unfold rpv
                      refine hK _ _ (.inr hz3.s) ?_
                      clear hK K
                      try simp only [Act.put, List.setIfInBounds_toArray, List.set_cons_succ, List.set_cons_zero]
                      refine wpAnyZ_one 5 (by kernel_rfl) rfl rfl (fun K hK => ?_)
                      try simp only [List.getElem_toArray, List.getElem_cons_succ, List.getElem_cons_zero]
                      go_simp
                      refine (HC2.out _ _ _ hz3).mono ?_
                      rintro e wz4 ⟨rfl, hz4⟩
                      unfold rpv
                      refine hK _ _ (.inr hz4.s) ?_
                      clear hK K
                      try simp only [Act.put, List.setIfInBounds_toArray, List.set_cons_succ, List.set_cons_zero]
                      obtain ⟨f6, f7, f8, f9⟩ := TwoG.facts hz4 ra'
                      have fin := TwoG.fin (r1 := ra') (r2 := ra') hz4 TBB.out
                      refine wpAnyZ_one 8 (by kernel_rfl) rfl rfl (fun K hK => ?_)
                      try simp only [List.getElem_toArray, List.getElem_cons_succ, List.getElem_cons_zero]
                      obtain ⟨z0, z1, y0, y1, z2, y2⟩ := res_facts f6
                      go_simp
                      refine hK _ _ (.inr f8) ?_
                      clear hK K
                      try simp only [Act.put, List.setIfInBounds_toArray, List.set_cons_succ, List.set_cons_zero]
                      clear z0 z1 y0 y1 z2 y2
                      refine wpAnyZ_one 9 (by kernel_rfl) rfl rfl (fun K hK => ?_)
                      try simp only [List.getElem_toArray, List.getElem_cons_succ, List.getElem_cons_zero]
                      obtain ⟨z0, z1, y0, y1, z2, y2⟩ := res_facts f7
                      go_simp
                      refine hK _ _ (.inr (f9 ra')) ?_
                      clear hK K
                      try simp only [Act.put, List.setIfInBounds_toArray, List.set_cons_succ, List.set_cons_zero]
                      refine wpAnyZ_done (by kernel_rfl) ?_ _
                      clear z0 z1 y0 y1 z2 y2
                      go_wp2_with fail
                      go_meet
                      exact fin
                  · try simp only [List.getElem_toArray, List.getElem_cons_succ, List.getElem_cons_zero]
                    go_simp
                    obtain ⟨wz1, hwn, hz1⟩ : ∃ wn, wn = (w17.drewN 1).alloc (.cells #[.int .u8 0, .string ⟨#[]⟩] TRp) ∧ _ := ⟨_, rfl, TwoG.alloc7 hz0⟩
                    rw [← hwn]
                    obtain ⟨R7, hRR⟩ : ∃ R, w17.heap.size = R := ⟨_, rfl⟩
                    rw [show (w17.drewN 1).heap.size = R7 from hRR] at hz1
                    rw [hRR]
                    clear hwn hRR
                    refine hK _ _ (.inr hz1.s) ?_
                    clear hK K
                    try simp only [Act.put, List.setIfInBounds_toArray, List.set_cons_succ, List.set_cons_zero]
                    refine wpAnyZ_two 2 6 (by kernel_rfl) rfl rfl rfl rfl (fun K hK => ?_) (fun K hK => ?_)
                    · try simp only [List.getElem_toArray, List.getElem_cons_succ, List.getElem_cons_zero]
                      go_simp
                      refine (HC1.out _ _ _ hz1).mono ?_
                      rintro e wz2 ⟨rfl, hz2⟩
                      unfold rpv
                      refine hK _ _ (.inr hz2.s) ?_
                      clear hK K
                      try simp only [Act.put, List.setIfInBounds_toArray, List.set_cons_succ, List.set_cons_zero]
                      refine wpAnyZ_two 5 6 (by kernel_rfl) rfl rfl rfl rfl (fun K hK => ?_) (fun K hK => ?_)
                      · try simp only [List.getElem_toArray, List.getElem_cons_succ, List.getElem_cons_zero]
                        go_simp
                        refine (HC2.out _ _ _ hz2).mono ?_
                        rintro e wz3 ⟨rfl, hz3⟩
                        unfold rpv
                        refine hK _ _ (.inr hz3.s) ?_
                        clear hK K
                        try simp only [Act.put, List.setIfInBounds_toArray, List.set_cons_succ, List.set_cons_zero]
                        refine wpAnyZ_one 6 (by kernel_rfl) rfl rfl (fun K hK => ?_)
                        try simp only [List.getElem_toArray, List.getElem_cons_succ, List.getElem_cons_zero]
                        go_simp
                        obtain ⟨wz4, hwn, hz4⟩ : ∃ wn, wn = wz3.alloc (.cells #[.int .u8 0, .string ⟨#[]⟩] TRp) ∧ _ := ⟨_, rfl, TwoG.alloc6 hz3⟩
                        rw [← hwn]
                        obtain ⟨R6, hRR⟩ : ∃ R, wz3.heap.size = R := ⟨_, rfl⟩
                        rw [hRR] at hz4 ⊢
                        clear hwn hRR
                        refine hK _ _ (.inr hz4.s) ?_
                        clear hK K
                        try simp only [Act.put, List.setIfInBounds_toArray, List.set_cons_succ, List.set_cons_zero]
                        obtain ⟨f6, f7, f8, f9⟩ := TwoG.facts hz4 ra'
                        have fin := TwoG.fin (r1 := ra') (r2 := ra') hz4 TBB.out
                        refine wpAnyZ_one 8 (by kernel_rfl) rfl rfl (fun K hK => ?_)
                        try simp only [List.getElem_toArray, List.getElem_cons_succ, List.getElem_cons_zero]
                        obtain ⟨z0, z1, y0, y1, z2, y2⟩ := res_facts f6
                        go_simp
                        refine hK _ _ (.inr f8) ?_
                        clear hK K
                        try simp only [Act.put, List.setIfInBounds_toArray, List.set_cons_succ, List.set_cons_zero]
                        clear z0 z1 y0 y1 z2 y2
                        refine wpAnyZ_one 9 (by kernel_rfl) rfl rfl (fun K hK => ?_)
                        try simp only [List.getElem_toArray, List.getElem_cons_succ, List.getElem_cons_zero]
                        obtain ⟨z0, z1, y0, y1, z2, y2⟩ := res_facts f7
                        go_simp
                        refine hK _ _ (.inr (f9 ra')) ?_
                        clear hK K
                        try simp only [Act.put, List.setIfInBounds_toArray, List.set_cons_succ, List.set_cons_zero]
                        refine wpAnyZ_done (by kernel_rfl) ?_ _
                        clear z0 z1 y0 y1 z2 y2
                        go_wp2_with fail
                        go_meet
                        exact fin
                      · try simp only [List.getElem_toArray, List.getElem_cons_succ, List.getElem_cons_zero]
                        go_simp
                        obtain ⟨wz3, hwn, hz3⟩ : ∃ wn, wn = wz2.alloc (.cells #[.int .u8 0, .string ⟨#[]⟩] TRp) ∧ _ := ⟨_, rfl, TwoG.alloc6 hz2⟩
                        rw [← hwn]
                        obtain ⟨R6, hRR⟩ : ∃ R, wz2.heap.size = R := ⟨_, rfl⟩
                        rw [hRR] at hz3 ⊢
                        clear hwn hRR
                        refine hK _ _ (.inr hz3.s) ?_
                        clear hK K
                        try simp only [Act.put, List.setIfInBounds_toArray, List.set_cons_succ, List.set_cons_zero]
                        refine wpAnyZ_one 5 (by kernel_rfl) rfl rfl (fun K hK => ?_)
                        try simp only [List.getElem_toArray, List.getElem_cons_succ, List.getElem_cons_zero]
                        go_simp
                        refine (HC2.out _ _ _ hz3).mono ?_
                        rintro e wz4 ⟨rfl, hz4⟩
                        unfold rpv
                        refine hK _ _ (.inr hz4.s) ?_
                        clear hK K
                        try simp only [Act.put, List.setIfInBounds_toArray, List.set_cons_succ, List.set_cons_zero]
                        obtain ⟨f6, f7, f8, f9⟩ := TwoG.facts hz4 ra'
                        have fin := TwoG.fin (r1 := ra') (r2 := ra') hz4 TBB.out
                        refine wpAnyZ_one 8 (by kernel_rfl) rfl rfl (fun K hK => ?_)
                        try simp only [List.getElem_toArray, List.getElem_cons_succ, List.getElem_cons_zero]
                        obtain ⟨z0, z1, y0, y1, z2, y2⟩ := res_facts f6
                        go_simp
                        refine hK _ _ (.inr f8) ?_
                        clear hK K
                        try simp only [Act.put, List.setIfInBounds_toArray, List.set_cons_succ, List.set_cons_zero]
                        clear z0 z1 y0 y1 z2 y2
                        refine wpAnyZ_one 9 (by kernel_rfl) rfl rfl (fun K hK => ?_)
                        try simp only [List.getElem_toArray, List.getElem_cons_succ, List.getElem_cons_zero]
                        obtain ⟨z0, z1, y0, y1, z2, y2⟩ := res_facts f7
                        go_simp
                        refine hK _ _ (.inr (f9 ra')) ?_
                        clear hK K
                        try simp only [Act.put, List.setIfInBounds_toArray, List.set_cons_succ, List.set_cons_zero]
                        refine wpAnyZ_done (by kernel_rfl) ?_ _
                        clear z0 z1 y0 y1 z2 y2
                        go_wp2_with fail
                        go_meet
                        exact fin
                    · try simp only [List.getElem_toArray, List.getElem_cons_succ, List.getElem_cons_zero]
                      go_simp
                      obtain ⟨wz2, hwn, hz2⟩ : ∃ wn, wn = wz1.alloc (.cells #[.int .u8 0, .string ⟨#[]⟩] TRp) ∧ _ := ⟨_, rfl, TwoG.alloc6 hz1⟩
                      rw [← hwn]
                      obtain ⟨R6, hRR⟩ : ∃ R, wz1.heap.size = R := ⟨_, rfl⟩
                      rw [hRR] at hz2 ⊢
                      clear hwn hRR
                      refine hK _ _ (.inr hz2.s) ?_
                      clear hK K
                      try simp only [Act.put, List.setIfInBounds_toArray, List.set_cons_succ, List.set_cons_zero]
                      refine wpAnyZ_one 2 (by kernel_rfl) rfl rfl (fun K hK => ?_)
                      try simp only [List.getElem_toArray, List.getElem_cons_succ, List.getElem_cons_zero]
                      go_simp
                      refine (HC1.out _ _ _ hz2).mono ?_
                      rintro e wz3 ⟨rfl, hz3⟩
                      unfold rpv
                      refine hK _ _ (.inr hz3.s) ?_
                      clear hK K
                      try simp only [Act.put, List.setIfInBounds_toArray, List.set_cons_succ, List.set_cons_zero]
                      refine wpAnyZ_one 5 (by kernel_rfl) rfl rfl (fun K hK => ?_)
                      try simp only [List.getElem_toArray, List.getElem_cons_succ, List.getElem_cons_zero]
                      go_simp
                      refine (HC2.out _ _ _ hz3).mono ?_
                      rintro e wz4 ⟨rfl, hz4⟩
                      unfold rpv
                      refine hK _ _ (.inr hz4.s) ?_
                      clear hK K
                      try simp only [Act.put, List.setIfInBounds_toArray, List.set_cons_succ, List.set_cons_zero]
                      obtain ⟨f6, f7, f8, f9⟩ := TwoG.facts hz4 ra'
                      have fin := TwoG.fin (r1 := ra') (r2 := ra') hz4 TBB.out
                      refine wpAnyZ_one 8 (by kernel_rfl) rfl rfl (fun K hK => ?_)
                      try simp only [List.getElem_toArray, List.getElem_cons_succ, List.getElem_cons_zero]
                      obtain ⟨z0, z1, y0, y1, z2, y2⟩ := res_facts f6
                      go_simp
                      refine hK _ _ (.inr f8) ?_
                      clear hK K
                      try simp only [Act.put, List.setIfInBounds_toArray, List.set_cons_succ, List.set_cons_zero]
                      clear z0 z1 y0 y1 z2 y2
                      refine wpAnyZ_one 9 (by kernel_rfl) rfl rfl (fun K hK => ?_)
                      try simp only [List.getElem_toArray, List.getElem_cons_succ, List.getElem_cons_zero]
                      obtain ⟨z0, z1, y0, y1, z2, y2⟩ := res_facts f7
                      go_simp
                      refine hK _ _ (.inr (f9 ra')) ?_
                      clear hK K
                      try simp only [Act.put, List.setIfInBounds_toArray, List.set_cons_succ, List.set_cons_zero]
                      refine wpAnyZ_done (by kernel_rfl) ?_ _
                      clear z0 z1 y0 y1 z2 y2
                      go_wp2_with fail
                      go_meet
                      exact fin
                case rest =>
                  obtain ⟨R1, R2, rfl, rfl, hR1, hR2, hx1, hx2, ht2, hv2, hu2⟩ := hcut
                  have HX1 := hide hx1; have HX2 := hide hx2; have T20 := hide ht2; have V20 := hide hv2; have U20 := hide (U17.out.trans_new hu2 (fun k hk => .inr (by simp at hk; omega)))
                  clear hx1 hx2 ht2 hv2 hu2 HC1 HC2 hz0 TBB TOK
                  have hsg2 := sget_any (k := other) wc T20.out hom
                  rw [D3.out, GX.out, GS.out] at hsg2
                  have hsg3 := sget_any (k := other) wc V20.out hom
                  rw [D2.out] at hsg3
                  have HSG2 := hide hsg2; have HSG3 := hide hsg3
                  clear hsg2 hsg3
                  go_wp2_with fail
                  refine HSG2.out.mono ?_
                  rintro e wq ⟨rfl, rfl⟩
                  go_wp2_with fail
                  refine HSG3.out.mono ?_
                  rintro e wq ⟨rfl, rfl⟩
                  rw [show (Option.some chg).getD [] = chg from rfl, show strOf chg = ⟨#[99, 104, 97, 110, 103, 101, 100]⟩ from rfl]
                  obtain ⟨y0, y1, -, -, -, -⟩ := res_facts HX1.out
                  obtain ⟨y2, y3, -, -, -, -⟩ := res_facts HX2.out
                  have q1 := neq_rp ra' ra' wc
                  rw [decide_eq_true rfl] at q1
                  have e1 : ((strOf gx).toList == (strOf gx).toList) = true := by simp
                  have e2 : (gs != gs) = false := by simp
                  have e3 : ((⟨#[99, 104, 97, 110, 103, 101, 100]⟩ : ByteArray).toList == (⟨#[99, 104, 97, 110, 103, 101, 100]⟩ : ByteArray).toList) = true := by simp
                  go_wp2_with fail
                  go_meet
                  exact ⟨STR.out.upd_nil U20.out, U20.out⟩
            case rest =>
              obtain ⟨hs13, hu13⟩ := hcut
              have ST13 := hide hs13; have S13 := hide (And.intro (hu13.get S12.out.1 (by simp)) (hu13.get S12.out.2 (by simp))); have U13 := hide (UWR.out.trans hu13); have X13 := hide (X12.out.upd_nil hu13); have Y13 := hide (Y12.out.upd_nil hu13)
              have hz13 := hu13.size
              obtain ⟨oy', cy', hye, -, -, hyg⟩ := (Y12.out.upd_nil hu13).get
              cases hye
              have HYG := hide hyg
              clear hs13 hu13 hyg STR S12 X12 Y12 UWR
              go_wp2_with fail
              go_loop [25] (fun si => ∃ i : Nat, i ≤ Y.length ∧ si = .int .i64 i ∧ ∀ j x, j < i → Y[j]? = some x → x ∉ X) (fun si => Y.length - (RowKit.intOf si).toNat)
              case atStart => exact ⟨0, by omega, rfl, by omega⟩
              case round =>
                obtain ⟨i, hi, rfl, hall⟩ := hrel
                have HALL := hide hall
                clear hall
                by_cases hlt : i < Y.length
                · have d7 : decide ((i : Int) < Y.length) = true := by simp; omega
                  have d7' : decide (i < Y.length) = true := by simpa using hlt
                  obtain ⟨k, hk⟩ : ∃ k, Y[i]? = some k := ⟨_, List.getElem?_eq_getElem hlt⟩
                  obtain ⟨by', fy, rfl, -, hcy⟩ := HYG.out i k hk
                  have hin := in_any (k := k) wc X13.out
                  have HK := hide hk
                  clear hk
                  by_cases hmX : k ∈ X
                  · rw [decide_eq_true hmX] at hin
                    have HIN := hide hin
                    clear hin hmX
                    go_wp2_with fail
                    refine HIN.out.mono ?_
                    rintro e wq ⟨rfl, rfl⟩
                    go_wp2_with fail
                    refine (wakes9_any wc (ENV.out.upd_nil U13.out)).mono ?_
                    rintro e w14 ⟨rfl, hu14⟩
                    have U14 := hide (U13.out.trans hu14)
                    clear hu14
                    go_wp2_with fail
                    go_ret
                    exact ⟨rfl, U14.out⟩
                  · rw [decide_eq_false hmX] at hin
                    have HIN := hide hin; have HMX := hide hmX
                    clear hin hmX
                    go_wp2_with fail
                    refine HIN.out.mono ?_
                    rintro e wq ⟨rfl, rfl⟩
                    go_wp2_with fail
                    go_round
                    case rel => exact ⟨i + 1, by omega, by go_num, fun j y hj hy => by
                      rcases Nat.lt_or_ge j i with h | h
                      · exact HALL.out j y h hy
                      · rw [show j = i by omega, HK.out] at hy
                        cases hy
                        exact HMX.out⟩
                    case measure => simp [RowKit.intOf]; omega
                · have d7 : decide ((i : Int) < Y.length) = false := by simp; omega
                  have d7' : decide (i < Y.length) = false := by simpa using hlt
                  have hab : ∀ k ∈ b.keys, k ∉ a.keys := fun k hk hka' => by
                    have h1 : k ∈ Y := by rw [← SY.out]; exact (sortM_says _).2 k |>.2 hk
                    have h2 : k ∈ X := by rw [← SX.out]; exact (sortM_says _).2 k |>.2 hka'
                    obtain ⟨j, hj⟩ := List.mem_iff_getElem?.1 h1
                    have := (List.getElem?_eq_some_iff.1 hj).1
                    exact HALL.out j k (by omega) hj h2
                  have HAB := hide hab
                  clear hab hlt HALL
                  go_wp2_with fail
                  refine (kcopy_any wc ST13.out OK.out (by omega)).mono ?_
                  rintro e w15 ⟨⟨tb, tg, rfl, ht, htb, htg⟩, hu15⟩
                  have T15 := hide ht; have ST15 := hide (ST13.out.upd_nil hu15); have U15 := hide hu15
                  have l1 := blk_lt ht.blk; have l2 := MapKind.is_lt ht.map; have hz15 := hu15.size
                  clear ht hu15
                  go_wp2_with fail
                  refine (kcopy_any w15 ST15.out OK.out (by omega)).mono ?_
                  rintro e w16 ⟨⟨ub, ug, rfl, hu, hub, hug⟩, hu16⟩
                  have T16 := hide (T15.out.upd_nil hu16); have V16 := hide hu; have UU := hide (U15.out.trans hu16)
                  have l3 := blk_lt hu.blk; have l4 := MapKind.is_lt hu.map; have hz16 := hu16.size
                  have SB := hide (And.intro (UU.out.get S13.out.1 (by simp)) (UU.out.get S13.out.2 (by simp)))
                  have hBl := blk_lt S13.out.1; have hBl2 := blk_lt S13.out.2
                  have U16 := hide (U13.out.trans UU.out)
                  have hwc := U13.out.size
                  have TOK := hide (show TwoOk w w16 [tg, ug] tb tg ub ug from ⟨U16.out, fun k hk => by simp at hk; rcases hk with rfl | rfl <;> omega, by simp, by simp, by omega, by omega, by omega⟩)
                  have TBB := hide (show TwoB w16 [tg, ug] tb tg ub ug from ⟨by omega, by omega, by omega, by omega⟩)
                  have hnB := hide (show B ∉ [tg, ug] ∧ B + 1 ∉ [tg, ug] by constructor <;> simp <;> omega)
                  clear hu hu16 T15 ST15 U15
                  obtain ⟨ma, ra, hka2⟩ : ∃ m' r, kvDo m a = (m', r) := ⟨_, _, rfl⟩
                  obtain ⟨mb, rb, hkb2⟩ : ∃ m' r, kvDo m b = (m', r) := ⟨_, _, rfl⟩
                  obtain ⟨mab, rab, hkab⟩ : ∃ m' r, kvDo ma b = (m', r) := ⟨_, _, rfl⟩
                  obtain ⟨mba, rba, hkba⟩ : ∃ m' r, kvDo mb a = (m', r) := ⟨_, _, rfl⟩
                  have hbA := do_bound (c := a) OK.out (by omega)
                  have hbB := do_bound (c := b) OK.out (by omega)
                  rw [hka2] at hbA
                  rw [hkb2] at hbB
                  have oka := hbA.ok; have lna := hbA.len; have okb := hbB.ok; have lnb := hbB.len
                  simp only at oka lna okb lnb
                  have hbAB := do_bound (c := b) oka (by omega)
                  have hbBA := do_bound (c := a) okb (by omega)
                  rw [hkab] at hbAB
                  rw [hkba] at hbBA
                  have okab := hbAB.ok; have lnab := hbAB.len; have okba := hbBA.ok
                  simp only at okab lnab okba
                  obtain ⟨ap1, ap2, ap3⟩ := do_apart (a := a) (b := b) OK.out.1 HAB.out
                  rw [hka2, hkb2] at ap1 ap2 ap3
                  simp only at ap1 ap2 ap3
                  rw [hkab] at ap1 ap3
                  rw [hkba] at ap2 ap3
                  simp only at ap1 ap2 ap3
                  subst ap1 ap2 ap3
                  have KA2 := hide hka2; have KB2 := hide hkb2; have KAB := hide hkab; have KBA := hide hkba; have OKa := hide oka; have OKb := hide okb; have OKab := hide okab
                  clear hka2 hkb2 hkab hkba hbA hbB hbAB hbBA oka okb okab okba
                  have HC1 := hide (show ∀ o6 o7 wx, TwoG w16 [tg, ug] tb tg ub ug m m o6 o7 wx → Calls Tryd.prog 16 #[.pointer (some ⟨tb, 0, none⟩), (.agg #[.int .u32 (a.client : Int), .int .u32 (a.seq : Int), .int .u8 (a.kind : Int), .slice xa a.keys.length ca, .string (strOf a.old), .string (strOf a.new), .int .i64 a.n])] wx fun e w' => e = .returned (rpv rba) ∧ TwoG w16 [tg, ug] tb tg ub ug ma m o6 o7 w' from fun o6 o7 wx h => by
                    have := h.do_t TOK.out ENV.out OK.out (by omega) (v := cmv a (.slice xa a.keys.length ca)) (c := a) ⟨FA.out, _, rfl, KA.out⟩
                    rw [KA2.out] at this
                    simp only [cmv, strV] at this
                    exact this)
                  have HC2 := hide (show ∀ o6 o7 wx, TwoG w16 [tg, ug] tb tg ub ug ma m o6 o7 wx → Calls Tryd.prog 16 #[.pointer (some ⟨tb, 0, none⟩), (.agg #[.int .u32 (b.client : Int), .int .u32 (b.seq : Int), .int .u8 (b.kind : Int), .slice xb b.keys.length cb, .string (strOf b.old), .string (strOf b.new), .int .i64 b.n])] wx fun e w' => e = .returned (rpv rab) ∧ TwoG w16 [tg, ug] tb tg ub ug mab m o6 o7 w' from fun o6 o7 wx h => by
                    have := h.do_t TOK.out ENV.out OKa.out (by omega) (v := cmv b (.slice xb b.keys.length cb)) (c := b) ⟨FB.out, _, rfl, KB.out⟩
                    rw [KAB.out] at this
                    simp only [cmv, strV] at this
                    exact this)
                  have hz0 := TwoG.start (w0 := w16) (U := [tg, ug]) (T16.out.upd_nil ((Upd.refl [] w16).drewN 1)) (V16.out.upd_nil ((Upd.refl [] w16).drewN 1)) ((Upd.refl _ w16).drewN 1)
                  go_upto_region 32 with fail
                  go_cut [28, 29] (fun s1 s2 wx => TwoR w16 [tg, ug] tb tg ub ug mab m rba rab s1 s2 wx)
                  case first =>
                    as_aux_lemma =>
                    refine wp_region_z (fun wx => Upd [tg, ug] w16 wx) 99 (by kernel_rfl) ?_
                    refine wpAnyZ_takeE 0 rfl (by kernel_rfl) (by kernel_rfl) (by kernel_rfl) (by kernel_rfl) (fun _ _ _ _ h => h) rfl (by exact hz0.s) ?_
                    apply Exists.intro
                    refine ⟨fun wx hS => ?_, ?_⟩
                    · go_simp; rfl
                    simp only [Act.put, List.setIfInBounds_toArray, List.set_cons_succ, List.set_cons_zero, List.getElem_toArray, List.getElem_cons_zero]
                    refine wpAnyZ_takeE 1 rfl (by kernel_rfl) (by kernel_rfl) (by kernel_rfl) (by kernel_rfl) (fun _ _ _ _ h => h) rfl (by exact hz0.s) ?_
                    apply Exists.intro
                    refine ⟨fun wx hS => ?_, ?_⟩
                    · obtain ⟨p0, p1, p2, p3, p4, p5, p6⟩ := cell7 (hS.get SB.out.1 hnB.out.1); go_simp; rfl
                    simp only [Act.put, List.setIfInBounds_toArray, List.set_cons_succ, List.set_cons_zero, List.getElem_toArray, List.getElem_cons_succ, List.getElem_cons_zero]
                    refine wpAnyZ_takeE 3 rfl (by kernel_rfl) (by kernel_rfl) (by kernel_rfl) (by kernel_rfl) (fun _ _ _ _ h => h) rfl (by exact hz0.s) ?_
                    apply Exists.intro
                    refine ⟨fun wx hS => ?_, ?_⟩
                    · go_simp; rfl
                    simp only [Act.put, List.setIfInBounds_toArray, List.set_cons_succ, List.set_cons_zero, List.getElem_toArray, List.getElem_cons_succ, List.getElem_cons_zero]
                    refine wpAnyZ_takeE 4 rfl (by kernel_rfl) (by kernel_rfl) (by kernel_rfl) (by kernel_rfl) (fun _ _ _ _ h => h) rfl (by exact hz0.s) ?_
                    apply Exists.intro
                    refine ⟨fun wx hS => ?_, ?_⟩
                    · obtain ⟨p0, p1, p2, p3, p4, p5, p6⟩ := cell7 (hS.get SB.out.2 hnB.out.2); go_simp; rfl
                    simp only [Act.put, List.setIfInBounds_toArray, List.set_cons_succ, List.set_cons_zero, List.getElem_toArray, List.getElem_cons_succ, List.getElem_cons_zero]
                    refine wpAnyZ_three 2 6 7 (by kernel_rfl) rfl rfl rfl rfl rfl rfl (fun K hK => ?_) (fun K hK => ?_) (fun K hK => ?_)
                    · try simp only [List.getElem_toArray, List.getElem_cons_succ, List.getElem_cons_zero]
                      go_simp
                      refine (HC1.out _ _ _ hz0).mono ?_
                      rintro e wz1 ⟨rfl, hz1⟩
                      unfold rpv
                      refine hK _ _ (.inr hz1.s) ?_
                      clear hK K
                      try simp only [Act.put, List.setIfInBounds_toArray, List.set_cons_succ, List.set_cons_zero]
                      refine wpAnyZ_three 5 6 7 (by kernel_rfl) rfl rfl rfl rfl rfl rfl (fun K hK => ?_) (fun K hK => ?_) (fun K hK => ?_)
                      · try simp only [List.getElem_toArray, List.getElem_cons_succ, List.getElem_cons_zero]
                        go_simp
                        refine (HC2.out _ _ _ hz1).mono ?_
                        rintro e wz2 ⟨rfl, hz2⟩
                        unfold rpv
                        refine hK _ _ (.inr hz2.s) ?_
                        clear hK K
                        try simp only [Act.put, List.setIfInBounds_toArray, List.set_cons_succ, List.set_cons_zero]
                        refine wpAnyZ_two 6 7 (by kernel_rfl) rfl rfl rfl rfl (fun K hK => ?_) (fun K hK => ?_)
                        · try simp only [List.getElem_toArray, List.getElem_cons_succ, List.getElem_cons_zero]
                          go_simp
                          obtain ⟨wz3, hwn, hz3⟩ : ∃ wn, wn = wz2.alloc (.cells #[.int .u8 0, .string ⟨#[]⟩] TRp) ∧ _ := ⟨_, rfl, TwoG.alloc6 hz2⟩
                          rw [← hwn]
                          obtain ⟨R6, hRR⟩ : ∃ R, wz2.heap.size = R := ⟨_, rfl⟩
                          rw [hRR] at hz3 ⊢
                          clear hwn hRR
                          refine hK _ _ (.inr hz3.s) ?_
                          clear hK K
                          try simp only [Act.put, List.setIfInBounds_toArray, List.set_cons_succ, List.set_cons_zero]
                          refine wpAnyZ_one 7 (by kernel_rfl) rfl rfl (fun K hK => ?_)
                          try simp only [List.getElem_toArray, List.getElem_cons_succ, List.getElem_cons_zero]
                          go_simp
                          obtain ⟨wz4, hwn, hz4⟩ : ∃ wn, wn = wz3.alloc (.cells #[.int .u8 0, .string ⟨#[]⟩] TRp) ∧ _ := ⟨_, rfl, TwoG.alloc7 hz3⟩
                          rw [← hwn]
                          obtain ⟨R7, hRR⟩ : ∃ R, wz3.heap.size = R := ⟨_, rfl⟩
                          rw [hRR] at hz4 ⊢
                          clear hwn hRR
                          refine hK _ _ (.inr hz4.s) ?_
                          clear hK K
                          try simp only [Act.put, List.setIfInBounds_toArray, List.set_cons_succ, List.set_cons_zero]
                          obtain ⟨f6, f7, f8, f9⟩ := TwoG.facts hz4 rba
                          have fin := TwoG.fin (r1 := rba) (r2 := rab) hz4 TBB.out
                          refine wpAnyZ_one 8 (by kernel_rfl) rfl rfl (fun K hK => ?_)
                          try simp only [List.getElem_toArray, List.getElem_cons_succ, List.getElem_cons_zero]
                          obtain ⟨z0, z1, y0, y1, z2, y2⟩ := res_facts f6
                          go_simp
                          refine hK _ _ (.inr f8) ?_
                          clear hK K
                          try simp only [Act.put, List.setIfInBounds_toArray, List.set_cons_succ, List.set_cons_zero]
                          clear z0 z1 y0 y1 z2 y2
                          refine wpAnyZ_one 9 (by kernel_rfl) rfl rfl (fun K hK => ?_)
                          try simp only [List.getElem_toArray, List.getElem_cons_succ, List.getElem_cons_zero]
                          obtain ⟨z0, z1, y0, y1, z2, y2⟩ := res_facts f7
                          go_simp
                          refine hK _ _ (.inr (f9 rab)) ?_
                          clear hK K
                          try simp only [Act.put, List.setIfInBounds_toArray, List.set_cons_succ, List.set_cons_zero]
                          refine wpAnyZ_done (by kernel_rfl) ?_ _
                          clear z0 z1 y0 y1 z2 y2
                          go_wp2_with fail
                          go_meet
                          exact fin
                        · try simp only [List.getElem_toArray, List.getElem_cons_succ, List.getElem_cons_zero]
                          go_simp
                          obtain ⟨wz3, hwn, hz3⟩ : ∃ wn, wn = wz2.alloc (.cells #[.int .u8 0, .string ⟨#[]⟩] TRp) ∧ _ := ⟨_, rfl, TwoG.alloc7 hz2⟩
                          rw [← hwn]
                          obtain ⟨R7, hRR⟩ : ∃ R, wz2.heap.size = R := ⟨_, rfl⟩
                          rw [hRR] at hz3 ⊢
                          clear hwn hRR
                          refine hK _ _ (.inr hz3.s) ?_
                          clear hK K
                          try simp only [Act.put, List.setIfInBounds_toArray, List.set_cons_succ, List.set_cons_zero]
                          refine wpAnyZ_one 6 (by kernel_rfl) rfl rfl (fun K hK => ?_)
                          try simp only [List.getElem_toArray, List.getElem_cons_succ, List.getElem_cons_zero]
                          go_simp
                          obtain ⟨wz4, hwn, hz4⟩ : ∃ wn, wn = wz3.alloc (.cells #[.int .u8 0, .string ⟨#[]⟩] TRp) ∧ _ := ⟨_, rfl, TwoG.alloc6 hz3⟩
                          rw [← hwn]
                          obtain ⟨R6, hRR⟩ : ∃ R, wz3.heap.size = R := ⟨_, rfl⟩
                          rw [hRR] at hz4 ⊢
                          clear hwn hRR
                          refine hK _ _ (.inr hz4.s) ?_
                          clear hK K
                          try simp only [Act.put, List.setIfInBounds_toArray, List.set_cons_succ, List.set_cons_zero]
                          obtain ⟨f6, f7, f8, f9⟩ := TwoG.facts hz4 rba
                          have fin := TwoG.fin (r1 := rba) (r2 := rab) hz4 TBB.out
                          refine wpAnyZ_one 8 (by kernel_rfl) rfl rfl (fun K hK => ?_)
                          try simp only [List.getElem_toArray, List.getElem_cons_succ, List.getElem_cons_zero]
                          obtain ⟨z0, z1, y0, y1, z2, y2⟩ := res_facts f6
                          go_simp
                          refine hK _ _ (.inr f8) ?_
                          clear hK K
                          try simp only [Act.put, List.setIfInBounds_toArray, List.set_cons_succ, List.set_cons_zero]
                          clear z0 z1 y0 y1 z2 y2
                          refine wpAnyZ_one 9 (by kernel_rfl) rfl rfl (fun K hK => ?_)
                          try simp only [List.getElem_toArray, List.getElem_cons_succ, List.getElem_cons_zero]
                          obtain ⟨z0, z1, y0, y1, z2, y2⟩ := res_facts f7
                          go_simp
                          refine hK _ _ (.inr (f9 rab)) ?_
                          clear hK K
                          try simp only [Act.put, List.setIfInBounds_toArray, List.set_cons_succ, List.set_cons_zero]
                          refine wpAnyZ_done (by kernel_rfl) ?_ _
                          clear z0 z1 y0 y1 z2 y2
                          go_wp2_with fail
                          go_meet
                          exact fin
                      · try simp only [List.getElem_toArray, List.getElem_cons_succ, List.getElem_cons_zero]
                        go_simp
                        obtain ⟨wz2, hwn, hz2⟩ : ∃ wn, wn = wz1.alloc (.cells #[.int .u8 0, .string ⟨#[]⟩] TRp) ∧ _ := ⟨_, rfl, TwoG.alloc6 hz1⟩
                        rw [← hwn]
                        obtain ⟨R6, hRR⟩ : ∃ R, wz1.heap.size = R := ⟨_, rfl⟩
                        rw [hRR] at hz2 ⊢
                        clear hwn hRR
                        refine hK _ _ (.inr hz2.s) ?_
                        clear hK K
                        try simp only [Act.put, List.setIfInBounds_toArray, List.set_cons_succ, List.set_cons_zero]
                        refine wpAnyZ_two 5 7 (by kernel_rfl) rfl rfl rfl rfl (fun K hK => ?_) (fun K hK => ?_)
                        · try simp only [List.getElem_toArray, List.getElem_cons_succ, List.getElem_cons_zero]
                          go_simp
                          refine (HC2.out _ _ _ hz2).mono ?_
                          rintro e wz3 ⟨rfl, hz3⟩
                          unfold rpv
                          refine hK _ _ (.inr hz3.s) ?_
                          clear hK K
                          try simp only [Act.put, List.setIfInBounds_toArray, List.set_cons_succ, List.set_cons_zero]
                          refine wpAnyZ_one 7 (by kernel_rfl) rfl rfl (fun K hK => ?_)
                          try simp only [List.getElem_toArray, List.getElem_cons_succ, List.getElem_cons_zero]
                          go_simp
                          obtain ⟨wz4, hwn, hz4⟩ : ∃ wn, wn = wz3.alloc (.cells #[.int .u8 0, .string ⟨#[]⟩] TRp) ∧ _ := ⟨_, rfl, TwoG.alloc7 hz3⟩
                          rw [← hwn]
                          obtain ⟨R7, hRR⟩ : ∃ R, wz3.heap.size = R := ⟨_, rfl⟩
                          rw [hRR] at hz4 ⊢
                          clear hwn hRR
                          refine hK _ _ (.inr hz4.s) ?_
                          clear hK K
                          try simp only [Act.put, List.setIfInBounds_toArray, List.set_cons_succ, List.set_cons_zero]
                          obtain ⟨f6, f7, f8, f9⟩ := TwoG.facts hz4 rba
                          have fin := TwoG.fin (r1 := rba) (r2 := rab) hz4 TBB.out
                          refine wpAnyZ_one 8 (by kernel_rfl) rfl rfl (fun K hK => ?_)
                          try simp only [List.getElem_toArray, List.getElem_cons_succ, List.getElem_cons_zero]
                          obtain ⟨z0, z1, y0, y1, z2, y2⟩ := res_facts f6
                          go_simp
                          refine hK _ _ (.inr f8) ?_
                          clear hK K
                          try simp only [Act.put, List.setIfInBounds_toArray, List.set_cons_succ, List.set_cons_zero]
                          clear z0 z1 y0 y1 z2 y2
                          refine wpAnyZ_one 9 (by kernel_rfl) rfl rfl (fun K hK => ?_)
                          try simp only [List.getElem_toArray, List.getElem_cons_succ, List.getElem_cons_zero]
                          obtain ⟨z0, z1, y0, y1, z2, y2⟩ := res_facts f7
                          go_simp
                          refine hK _ _ (.inr (f9 rab)) ?_
                          clear hK K
                          try simp only [Act.put, List.setIfInBounds_toArray, List.set_cons_succ, List.set_cons_zero]
                          refine wpAnyZ_done (by kernel_rfl) ?_ _
                          clear z0 z1 y0 y1 z2 y2
                          go_wp2_with fail
                          go_meet
                          exact fin
                        · try simp only [List.getElem_toArray, List.getElem_cons_succ, List.getElem_cons_zero]
                          go_simp
                          obtain ⟨wz3, hwn, hz3⟩ : ∃ wn, wn = wz2.alloc (.cells #[.int .u8 0, .string ⟨#[]⟩] TRp) ∧ _ := ⟨_, rfl, TwoG.alloc7 hz2⟩
                          rw [← hwn]
                          obtain ⟨R7, hRR⟩ : ∃ R, wz2.heap.size = R := ⟨_, rfl⟩
                          rw [hRR] at hz3 ⊢
                          clear hwn hRR
                          refine hK _ _ (.inr hz3.s) ?_
                          clear hK K
                          try simp only [Act.put, List.setIfInBounds_toArray, List.set_cons_succ, List.set_cons_zero]
                          refine wpAnyZ_one 5 (by kernel_rfl) rfl rfl (fun K hK => ?_)
                          try simp only [List.getElem_toArray, List.getElem_cons_succ, List.getElem_cons_zero]
                          go_simp
                          refine (HC2.out _ _ _ hz3).mono ?_
                          rintro e wz4 ⟨rfl, hz4⟩
                          unfold rpv
                          refine hK _ _ (.inr hz4.s) ?_
                          clear hK K
                          try simp only [Act.put, List.setIfInBounds_toArray, List.set_cons_succ, List.set_cons_zero]
                          obtain ⟨f6, f7, f8, f9⟩ := TwoG.facts hz4 rba
                          have fin := TwoG.fin (r1 := rba) (r2 := rab) hz4 TBB.out
                          refine wpAnyZ_one 8 (by kernel_rfl) rfl rfl (fun K hK => ?_)
                          try simp only [List.getElem_toArray, List.getElem_cons_succ, List.getElem_cons_zero]
                          obtain ⟨z0, z1, y0, y1, z2, y2⟩ := res_facts f6
                          go_simp
                          refine hK _ _ (.inr f8) ?_
                          clear hK K
                          try simp only [Act.put, List.setIfInBounds_toArray, List.set_cons_succ, List.set_cons_zero]
                          clear z0 z1 y0 y1 z2 y2
                          refine wpAnyZ_one 9 (by kernel_rfl) rfl rfl (fun K hK => ?_)
                          try simp only [List.getElem_toArray, List.getElem_cons_succ, List.getElem_cons_zero]
                          obtain ⟨z0, z1, y0, y1, z2, y2⟩ := res_facts f7
                          go_simp
                          refine hK _ _ (.inr (f9 rab)) ?_
                          clear hK K
                          try simp only [Act.put, List.setIfInBounds_toArray, List.set_cons_succ, List.set_cons_zero]
                          refine wpAnyZ_done (by kernel_rfl) ?_ _
                          clear z0 z1 y0 y1 z2 y2
                          go_wp2_with fail
                          go_meet
                          exact fin
                      · try simp only [List.getElem_toArray, List.getElem_cons_succ, List.getElem_cons_zero]
                        go_simp
                        obtain ⟨wz2, hwn, hz2⟩ : ∃ wn, wn = wz1.alloc (.cells #[.int .u8 0, .string ⟨#[]⟩] TRp) ∧ _ := ⟨_, rfl, TwoG.alloc7 hz1⟩
                        rw [← hwn]
                        obtain ⟨R7, hRR⟩ : ∃ R, wz1.heap.size = R := ⟨_, rfl⟩
                        rw [hRR] at hz2 ⊢
                        clear hwn hRR
                        refine hK _ _ (.inr hz2.s) ?_
                        clear hK K
                        try simp only [Act.put, List.setIfInBounds_toArray, List.set_cons_succ, List.set_cons_zero]
                        refine wpAnyZ_two 5 6 (by kernel_rfl) rfl rfl rfl rfl (fun K hK => ?_) (fun K hK => ?_)
                        · try simp only [List.getElem_toArray, List.getElem_cons_succ, List.getElem_cons_zero]
                          go_simp
                          refine (HC2.out _ _ _ hz2).mono ?_
                          rintro e wz3 ⟨rfl, hz3⟩
                          unfold rpv
                          refine hK _ _ (.inr hz3.s) ?_
                          clear hK K
                          try simp only [Act.put, List.setIfInBounds_toArray, List.set_cons_succ, List.set_cons_zero]
                          refine wpAnyZ_one 6 (by kernel_rfl) rfl rfl (fun K hK => ?_)
                          try simp only [List.getElem_toArray, List.getElem_cons_succ, List.getElem_cons_zero]
                          go_simp
                          obtain ⟨wz4, hwn, hz4⟩ : ∃ wn, wn = wz3.alloc (.cells #[.int .u8 0, .string ⟨#[]⟩] TRp) ∧ _ := ⟨_, rfl, TwoG.alloc6 hz3⟩
                          rw [← hwn]
                          obtain ⟨R6, hRR⟩ : ∃ R, wz3.heap.size = R := ⟨_, rfl⟩
                          rw [hRR] at hz4 ⊢
                          clear hwn hRR
                          refine hK _ _ (.inr hz4.s) ?_
                          clear hK K
                          try simp only [Act.put, List.setIfInBounds_toArray, List.set_cons_succ, List.set_cons_zero]
                          obtain ⟨f6, f7, f8, f9⟩ := TwoG.facts hz4 rba
                          have fin := TwoG.fin (r1 := rba) (r2 := rab) hz4 TBB.out
                          refine wpAnyZ_one 8 (by kernel_rfl) rfl rfl (fun K hK => ?_)
                          try simp only [List.getElem_toArray, List.getElem_cons_succ, List.getElem_cons_zero]
                          obtain ⟨z0, z1, y0, y1, z2, y2⟩ := res_facts f6
                          go_simp
                          refine hK _ _ (.inr f8) ?_
                          clear hK K
                          try simp only [Act.put, List.setIfInBounds_toArray, List.set_cons_succ, List.set_cons_zero]
                          clear z0 z1 y0 y1 z2 y2
                          refine wpAnyZ_one 9 (by kernel_rfl) rfl rfl (fun K hK => ?_)
                          try simp only [List.getElem_toArray, List.getElem_cons_succ, List.getElem_cons_zero]
                          obtain ⟨z0, z1, y0, y1, z2, y2⟩ := res_facts f7
                          go_simp
                          refine hK _ _ (.inr (f9 rab)) ?_
                          clear hK K
                          try simp only [Act.put, List.setIfInBounds_toArray, List.set_cons_succ, List.set_cons_zero]
                          refine wpAnyZ_done (by kernel_rfl) ?_ _
                          clear z0 z1 y0 y1 z2 y2
                          go_wp2_with fail
                          go_meet
                          exact fin
                        · try simp only [List.getElem_toArray, List.getElem_cons_succ, List.getElem_cons_zero]
                          go_simp
                          obtain ⟨wz3, hwn, hz3⟩ : ∃ wn, wn = wz2.alloc (.cells #[.int .u8 0, .string ⟨#[]⟩] TRp) ∧ _ := ⟨_, rfl, TwoG.alloc6 hz2⟩
                          rw [← hwn]
                          obtain ⟨R6, hRR⟩ : ∃ R, wz2.heap.size = R := ⟨_, rfl⟩
                          rw [hRR] at hz3 ⊢
                          clear hwn hRR
                          refine hK _ _ (.inr hz3.s) ?_
                          clear hK K
                          try simp only [Act.put, List.setIfInBounds_toArray, List.set_cons_succ, List.set_cons_zero]
                          refine wpAnyZ_one 5 (by kernel_rfl) rfl rfl (fun K hK => ?_)
                          try simp only [List.getElem_toArray, List.getElem_cons_succ, List.getElem_cons_zero]
                          go_simp
                          refine (HC2.out _ _ _ hz3).mono ?_
                          rintro e wz4 ⟨rfl, hz4⟩
                          unfold rpv
                          refine hK _ _ (.inr hz4.s) ?_
                          clear hK K
                          try simp only [Act.put, List.setIfInBounds_toArray, List.set_cons_succ, List.set_cons_zero]
                          obtain ⟨f6, f7, f8, f9⟩ := TwoG.facts hz4 rba
                          have fin := TwoG.fin (r1 := rba) (r2 := rab) hz4 TBB.out
                          refine wpAnyZ_one 8 (by kernel_rfl) rfl rfl (fun K hK => ?_)
                          try simp only [List.getElem_toArray, List.getElem_cons_succ, List.getElem_cons_zero]
                          obtain ⟨z0, z1, y0, y1, z2, y2⟩ := res_facts f6
                          go_simp
                          refine hK _ _ (.inr f8) ?_
                          clear hK K
                          try simp only [Act.put, List.setIfInBounds_toArray, List.set_cons_succ, List.set_cons_zero]
                          clear z0 z1 y0 y1 z2 y2
                          refine wpAnyZ_one 9 (by kernel_rfl) rfl rfl (fun K hK => ?_)
                          try simp only [List.getElem_toArray, List.getElem_cons_succ, List.getElem_cons_zero]
                          obtain ⟨z0, z1, y0, y1, z2, y2⟩ := res_facts f7
                          go_simp
                          refine hK _ _ (.inr (f9 rab)) ?_
                          clear hK K
                          try simp only [Act.put, List.setIfInBounds_toArray, List.set_cons_succ, List.set_cons_zero]
                          refine wpAnyZ_done (by kernel_rfl) ?_ _
                          clear z0 z1 y0 y1 z2 y2
                          go_wp2_with fail
                          go_meet
                          exact fin
                    · try simp only [List.getElem_toArray, List.getElem_cons_succ, List.getElem_cons_zero]
                      go_simp
                      obtain ⟨wz1, hwn, hz1⟩ : ∃ wn, wn = (w16.drewN 1).alloc (.cells #[.int .u8 0, .string ⟨#[]⟩] TRp) ∧ _ := ⟨_, rfl, TwoG.alloc6 hz0⟩
                      rw [← hwn]
                      obtain ⟨R6, hRR⟩ : ∃ R, w16.heap.size = R := ⟨_, rfl⟩
                      rw [show (w16.drewN 1).heap.size = R6 from hRR] at hz1
                      rw [hRR]
                      clear hwn hRR
                      refine hK _ _ (.inr hz1.s) ?_
                      clear hK K
                      try simp only [Act.put, List.setIfInBounds_toArray, List.set_cons_succ, List.set_cons_zero]
                      refine wpAnyZ_two 2 7 (by kernel_rfl) rfl rfl rfl rfl (fun K hK => ?_) (fun K hK => ?_)
                      · try simp only [List.getElem_toArray, List.getElem_cons_succ, List.getElem_cons_zero]
                        go_simp
                        refine (HC1.out _ _ _ hz1).mono ?_
                        rintro e wz2 ⟨rfl, hz2⟩
                        unfold rpv
                        refine hK _ _ (.inr hz2.s) ?_
                        clear hK K
                        try simp only [Act.put, List.setIfInBounds_toArray, List.set_cons_succ, List.set_cons_zero]
                        refine wpAnyZ_two 5 7 (by kernel_rfl) rfl rfl rfl rfl (fun K hK => ?_) (fun K hK => ?_)
                        · try simp only [List.getElem_toArray, List.getElem_cons_succ, List.getElem_cons_zero]
                          go_simp
                          refine (HC2.out _ _ _ hz2).mono ?_
                          rintro e wz3 ⟨rfl, hz3⟩
                          unfold rpv
                          refine hK _ _ (.inr hz3.s) ?_
                          clear hK K
                          try simp only [Act.put, List.setIfInBounds_toArray, List.set_cons_succ, List.set_cons_zero]
                          refine wpAnyZ_one 7 (by kernel_rfl) rfl rfl (fun K hK => ?_)
                          try simp only [List.getElem_toArray, List.getElem_cons_succ, List.getElem_cons_zero]
                          go_simp
                          obtain ⟨wz4, hwn, hz4⟩ : ∃ wn, wn = wz3.alloc (.cells #[.int .u8 0, .string ⟨#[]⟩] TRp) ∧ _ := ⟨_, rfl, TwoG.alloc7 hz3⟩
                          rw [← hwn]
                          obtain ⟨R7, hRR⟩ : ∃ R, wz3.heap.size = R := ⟨_, rfl⟩
                          rw [hRR] at hz4 ⊢
                          clear hwn hRR
                          refine hK _ _ (.inr hz4.s) ?_
                          clear hK K
                          try simp only [Act.put, List.setIfInBounds_toArray, List.set_cons_succ, List.set_cons_zero]
                          obtain ⟨f6, f7, f8, f9⟩ := TwoG.facts hz4 rba
                          have fin := TwoG.fin (r1 := rba) (r2 := rab) hz4 TBB.out
                          refine wpAnyZ_one 8 (by kernel_rfl) rfl rfl (fun K hK => ?_)
                          try simp only [List.getElem_toArray, List.getElem_cons_succ, List.getElem_cons_zero]
                          obtain ⟨z0, z1, y0, y1, z2, y2⟩ := res_facts f6
                          go_simp
                          refine hK _ _ (.inr f8) ?_
                          clear hK K
                          try simp only [Act.put, List.setIfInBounds_toArray, List.set_cons_succ, List.set_cons_zero]
                          clear z0 z1 y0 y1 z2 y2
                          refine wpAnyZ_one 9 (by kernel_rfl) rfl rfl (fun K hK => ?_)
                          try simp only [List.getElem_toArray, List.getElem_cons_succ, List.getElem_cons_zero]
                          obtain ⟨z0, z1, y0, y1, z2, y2⟩ := res_facts f7
                          go_simp
                          refine hK _ _ (.inr (f9 rab)) ?_
                          clear hK K
                          try simp only [Act.put, List.setIfInBounds_toArray, List.set_cons_succ, List.set_cons_zero]
                          refine wpAnyZ_done (by kernel_rfl) ?_ _
                          clear z0 z1 y0 y1 z2 y2
                          go_wp2_with fail
                          go_meet
                          exact fin
                        · try simp only [List.getElem_toArray, List.getElem_cons_succ, List.getElem_cons_zero]
                          go_simp
                          obtain ⟨wz3, hwn, hz3⟩ : ∃ wn, wn = wz2.alloc (.cells #[.int .u8 0, .string ⟨#[]⟩] TRp) ∧ _ := ⟨_, rfl, TwoG.alloc7 hz2⟩
                          rw [← hwn]
                          obtain ⟨R7, hRR⟩ : ∃ R, wz2.heap.size = R := ⟨_, rfl⟩
                          rw [hRR] at hz3 ⊢
                          clear hwn hRR
                          refine hK _ _ (.inr hz3.s) ?_
                          clear hK K
                          try simp only [Act.put, List.setIfInBounds_toArray, List.set_cons_succ, List.set_cons_zero]
                          refine wpAnyZ_one 5 (by kernel_rfl) rfl rfl (fun K hK => ?_)
                          try simp only [List.getElem_toArray, List.getElem_cons_succ, List.getElem_cons_zero]
                          go_simp
                          refine (HC2.out _ _ _ hz3).mono ?_
                          rintro e wz4 ⟨rfl, hz4⟩
                          unfold rpv
                          refine hK _ _ (.inr hz4.s) ?_
                          clear hK K
                          try simp only [Act.put, List.setIfInBounds_toArray, List.set_cons_succ, List.set_cons_zero]
                          obtain ⟨f6, f7, f8, f9⟩ := TwoG.facts hz4 rba
                          have fin := TwoG.fin (r1 := rba) (r2 := rab) hz4 TBB.out
                          refine wpAnyZ_one 8 (by kernel_rfl) rfl rfl (fun K hK => ?_)
                          try simp only [List.getElem_toArray, List.getElem_cons_succ, List.getElem_cons_zero]
                          obtain ⟨z0, z1, y0, y1, z2, y2⟩ := res_facts f6
                          go_simp
                          refine hK _ _ (.inr f8) ?_
                          clear hK K
                          try simp only [Act.put, List.setIfInBounds_toArray, List.set_cons_succ, List.set_cons_zero]
                          clear z0 z1 y0 y1 z2 y2
                          refine wpAnyZ_one 9 (by kernel_rfl) rfl rfl (fun K hK => ?_)
                          try simp only [List.getElem_toArray, List.getElem_cons_succ, List.getElem_cons_zero]
                          obtain ⟨z0, z1, y0, y1, z2, y2⟩ := res_facts f7
                          go_simp
                          refine hK _ _ (.inr (f9 rab)) ?_
                          clear hK K
                          try simp only [Act.put, List.setIfInBounds_toArray, List.set_cons_succ, List.set_cons_zero]
                          refine wpAnyZ_done (by kernel_rfl) ?_ _
                          clear z0 z1 y0 y1 z2 y2
                          go_wp2_with fail
                          go_meet
                          exact fin
                      · try simp only [List.getElem_toArray, List.getElem_cons_succ, List.getElem_cons_zero]
                        go_simp
                        obtain ⟨wz2, hwn, hz2⟩ : ∃ wn, wn = wz1.alloc (.cells #[.int .u8 0, .string ⟨#[]⟩] TRp) ∧ _ := ⟨_, rfl, TwoG.alloc7 hz1⟩
                        rw [← hwn]
                        obtain ⟨R7, hRR⟩ : ∃ R, wz1.heap.size = R := ⟨_, rfl⟩
                        rw [hRR] at hz2 ⊢
                        clear hwn hRR
                        refine hK _ _ (.inr hz2.s) ?_
                        clear hK K
                        try simp only [Act.put, List.setIfInBounds_toArray, List.set_cons_succ, List.set_cons_zero]
                        refine wpAnyZ_one 2 (by kernel_rfl) rfl rfl (fun K hK => ?_)
                        try simp only [List.getElem_toArray, List.getElem_cons_succ, List.getElem_cons_zero]
                        go_simp
                        refine (HC1.out _ _ _ hz2).mono ?_
                        rintro e wz3 ⟨rfl, hz3⟩
                        unfold rpv
                        refine hK _ _ (.inr hz3.s) ?_
                        clear hK K
                        try simp only [Act.put, List.setIfInBounds_toArray, List.set_cons_succ, List.set_cons_zero]
                        refine wpAnyZ_one 5 (by kernel_rfl) rfl rfl (fun K hK => ?_)
                        try simp only [List.getElem_toArray, List.getElem_cons_succ, List.getElem_cons_zero]
                        go_simp
                        refine (HC2.out _ _ _ hz3).mono ?_
                        rintro e wz4 ⟨rfl, hz4⟩
                        unfold rpv
                        refine hK _ _ (.inr hz4.s) ?_
                        clear hK K
                        try simp only [Act.put, List.setIfInBounds_toArray, List.set_cons_succ, List.set_cons_zero]
                        obtain ⟨f6, f7, f8, f9⟩ := TwoG.facts hz4 rba
                        have fin := TwoG.fin (r1 := rba) (r2 := rab) hz4 TBB.out
                        refine wpAnyZ_one 8 (by kernel_rfl) rfl rfl (fun K hK => ?_)
                        try simp only [List.getElem_toArray, List.getElem_cons_succ, List.getElem_cons_zero]
                        obtain ⟨z0, z1, y0, y1, z2, y2⟩ := res_facts f6
                        go_simp
                        refine hK _ _ (.inr f8) ?_
                        clear hK K
                        try simp only [Act.put, List.setIfInBounds_toArray, List.set_cons_succ, List.set_cons_zero]
                        clear z0 z1 y0 y1 z2 y2
                        refine wpAnyZ_one 9 (by kernel_rfl) rfl rfl (fun K hK => ?_)
                        try simp only [List.getElem_toArray, List.getElem_cons_succ, List.getElem_cons_zero]
                        obtain ⟨z0, z1, y0, y1, z2, y2⟩ := res_facts f7
                        go_simp
                        refine hK _ _ (.inr (f9 rab)) ?_
                        clear hK K
                        try simp only [Act.put, List.setIfInBounds_toArray, List.set_cons_succ, List.set_cons_zero]
                        refine wpAnyZ_done (by kernel_rfl) ?_ _
                        clear z0 z1 y0 y1 z2 y2
                        go_wp2_with fail
                        go_meet
                        exact fin
                    · try simp only [List.getElem_toArray, List.getElem_cons_succ, List.getElem_cons_zero]
                      go_simp
                      obtain ⟨wz1, hwn, hz1⟩ : ∃ wn, wn = (w16.drewN 1).alloc (.cells #[.int .u8 0, .string ⟨#[]⟩] TRp) ∧ _ := ⟨_, rfl, TwoG.alloc7 hz0⟩
                      rw [← hwn]
                      obtain ⟨R7, hRR⟩ : ∃ R, w16.heap.size = R := ⟨_, rfl⟩
                      rw [show (w16.drewN 1).heap.size = R7 from hRR] at hz1
                      rw [hRR]
                      clear hwn hRR
                      refine hK _ _ (.inr hz1.s) ?_
                      clear hK K
                      try simp only [Act.put, List.setIfInBounds_toArray, List.set_cons_succ, List.set_cons_zero]
                      refine wpAnyZ_two 2 6 (by kernel_rfl) rfl rfl rfl rfl (fun K hK => ?_) (fun K hK => ?_)
                      · try simp only [List.getElem_toArray, List.getElem_cons_succ, List.getElem_cons_zero]
                        go_simp
                        refine (HC1.out _ _ _ hz1).mono ?_
                        rintro e wz2 ⟨rfl, hz2⟩
                        unfold rpv
                        refine hK _ _ (.inr hz2.s) ?_
                        clear hK K
                        try simp only [Act.put, List.setIfInBounds_toArray, List.set_cons_succ, List.set_cons_zero]
                        refine wpAnyZ_two 5 6 (by kernel_rfl) rfl rfl rfl rfl (fun K hK => ?_) (fun K hK => ?_)
                        · try simp only [List.getElem_toArray, List.getElem_cons_succ, List.getElem_cons_zero]
                          go_simp
                          refine (HC2.out _ _ _ hz2).mono ?_
                          rintro e wz3 ⟨rfl, hz3⟩
                          unfold rpv
                          refine hK _ _ (.inr hz3.s) ?_
                          clear hK K
                          try simp only [Act.put, List.setIfInBounds_toArray, List.set_cons_succ, List.set_cons_zero]
                          refine wpAnyZ_one 6 (by kernel_rfl) rfl rfl (fun K hK => ?_)
                          try simp only [List.getElem_toArray, List.getElem_cons_succ, List.getElem_cons_zero]
                          go_simp
                          obtain ⟨wz4, hwn, hz4⟩ : ∃ wn, wn = wz3.alloc (.cells #[.int .u8 0, .string ⟨#[]⟩] TRp) ∧ _ := ⟨_, rfl, TwoG.alloc6 hz3⟩
                          rw [← hwn]
                          obtain ⟨R6, hRR⟩ : ∃ R, wz3.heap.size = R := ⟨_, rfl⟩
                          rw [hRR] at hz4 ⊢
                          clear hwn hRR
                          refine hK _ _ (.inr hz4.s) ?_
                          clear hK K
                          try simp only [Act.put, List.setIfInBounds_toArray, List.set_cons_succ, List.set_cons_zero]
                          obtain ⟨f6, f7, f8, f9⟩ := TwoG.facts hz4 rba
                          have fin := TwoG.fin (r1 := rba) (r2 := rab) hz4 TBB.out
                          refine wpAnyZ_one 8 (by kernel_rfl) rfl rfl (fun K hK => ?_)
                          try simp only [List.getElem_toArray, List.getElem_cons_succ, List.getElem_cons_zero]
                          obtain ⟨z0, z1, y0, y1, z2, y2⟩ := res_facts f6
                          go_simp
                          refine hK _ _ (.inr f8) ?_
                          clear hK K
                          try simp only [Act.put, List.setIfInBounds_toArray, List.set_cons_succ, List.set_cons_zero]
                          clear z0 z1 y0 y1 z2 y2
                          refine wpAnyZ_one 9 (by kernel_rfl) rfl rfl (fun K hK => ?_)
                          try simp only [List.getElem_toArray, List.getElem_cons_succ, List.getElem_cons_zero]
                          obtain ⟨z0, z1, y0, y1, z2, y2⟩ := res_facts f7
                          go_simp
                          refine hK _ _ (.inr (f9 rab)) ?_
                          clear hK K
                          try simp only [Act.put, List.setIfInBounds_toArray, List.set_cons_succ, List.set_cons_zero]
                          refine wpAnyZ_done (by kernel_rfl) ?_ _
                          clear z0 z1 y0 y1 z2 y2
                          go_wp2_with fail
                          go_meet
                          exact fin
                        · try simp only [List.getElem_toArray, List.getElem_cons_succ, List.getElem_cons_zero]
                          go_simp
                          obtain ⟨wz3, hwn, hz3⟩ : ∃ wn, wn = wz2.alloc (.cells #[.int .u8 0, .string ⟨#[]⟩] TRp) ∧ _ := ⟨_, rfl, TwoG.alloc6 hz2⟩
                          rw [← hwn]
                          obtain ⟨R6, hRR⟩ : ∃ R, wz2.heap.size = R := ⟨_, rfl⟩
                          rw [hRR] at hz3 ⊢
                          clear hwn hRR
                          refine hK _ _ (.inr hz3.s) ?_
                          clear hK K
                          try simp only [Act.put, List.setIfInBounds_toArray, List.set_cons_succ, List.set_cons_zero]
                          refine wpAnyZ_one 5 (by kernel_rfl) rfl rfl (fun K hK => ?_)
                          try simp only [List.getElem_toArray, List.getElem_cons_succ, List.getElem_cons_zero]
                          go_simp
                          refine (HC2.out _ _ _ hz3).mono ?_
                          rintro e wz4 ⟨rfl, hz4⟩
                          unfold rpv
                          refine hK _ _ (.inr hz4.s) ?_
                          clear hK K
                          try simp only [Act.put, List.setIfInBounds_toArray, List.set_cons_succ, List.set_cons_zero]
                          obtain ⟨f6, f7, f8, f9⟩ := TwoG.facts hz4 rba
                          have fin := TwoG.fin (r1 := rba) (r2 := rab) hz4 TBB.out
                          refine wpAnyZ_one 8 (by kernel_rfl) rfl rfl (fun K hK => ?_)
                          try simp only [List.getElem_toArray, List.getElem_cons_succ, List.getElem_cons_zero]
                          obtain ⟨z0, z1, y0, y1, z2, y2⟩ := res_facts f6
                          go_simp
                          refine hK _ _ (.inr f8) ?_
                          clear hK K
                          try simp only [Act.put, List.setIfInBounds_toArray, List.set_cons_succ, List.set_cons_zero]
                          clear z0 z1 y0 y1 z2 y2
                          refine wpAnyZ_one 9 (by kernel_rfl) rfl rfl (fun K hK => ?_)
                          try simp only [List.getElem_toArray, List.getElem_cons_succ, List.getElem_cons_zero]
                          obtain ⟨z0, z1, y0, y1, z2, y2⟩ := res_facts f7
                          go_simp
                          refine hK _ _ (.inr (f9 rab)) ?_
                          clear hK K
                          try simp only [Act.put, List.setIfInBounds_toArray, List.set_cons_succ, List.set_cons_zero]
                          refine wpAnyZ_done (by kernel_rfl) ?_ _
                          clear z0 z1 y0 y1 z2 y2
                          go_wp2_with fail
                          go_meet
                          exact fin
                      · try simp only [List.getElem_toArray, List.getElem_cons_succ, List.getElem_cons_zero]
                        go_simp
                        obtain ⟨wz2, hwn, hz2⟩ : ∃ wn, wn = wz1.alloc (.cells #[.int .u8 0, .string ⟨#[]⟩] TRp) ∧ _ := ⟨_, rfl, TwoG.alloc6 hz1⟩
                        rw [← hwn]
                        obtain ⟨R6, hRR⟩ : ∃ R, wz1.heap.size = R := ⟨_, rfl⟩
                        rw [hRR] at hz2 ⊢
                        clear hwn hRR
                        refine hK _ _ (.inr hz2.s) ?_
                        clear hK K
                        try simp only [Act.put, List.setIfInBounds_toArray, List.set_cons_succ, List.set_cons_zero]
                        refine wpAnyZ_one 2 (by kernel_rfl) rfl rfl (fun K hK => ?_)
                        try simp only [List.getElem_toArray, List.getElem_cons_succ, List.getElem_cons_zero]
                        go_simp
                        refine (HC1.out _ _ _ hz2).mono ?_
                        rintro e wz3 ⟨rfl, hz3⟩
                        unfold rpv
                        refine hK _ _ (.inr hz3.s) ?_
                        clear hK K
                        try simp only [Act.put, List.setIfInBounds_toArray, List.set_cons_succ, List.set_cons_zero]
                        refine wpAnyZ_one 5 (by kernel_rfl) rfl rfl (fun K hK => ?_)
                        try simp only [List.getElem_toArray, List.getElem_cons_succ, List.getElem_cons_zero]
                        go_simp
                        refine (HC2.out _ _ _ hz3).mono ?_
                        rintro e wz4 ⟨rfl, hz4⟩
                        unfold rpv
                        refine hK _ _ (.inr hz4.s) ?_
                        clear hK K
                        try simp only [Act.put, List.setIfInBounds_toArray, List.set_cons_succ, List.set_cons_zero]
                        obtain ⟨f6, f7, f8, f9⟩ := TwoG.facts hz4 rba
                        have fin := TwoG.fin (r1 := rba) (r2 := rab) hz4 TBB.out
                        refine wpAnyZ_one 8 (by kernel_rfl) rfl rfl (fun K hK => ?_)
                        try simp only [List.getElem_toArray, List.getElem_cons_succ, List.getElem_cons_zero]
                        obtain ⟨z0, z1, y0, y1, z2, y2⟩ := res_facts f6
                        go_simp
                        refine hK _ _ (.inr f8) ?_
                        clear hK K
                        try simp only [Act.put, List.setIfInBounds_toArray, List.set_cons_succ, List.set_cons_zero]
                        clear z0 z1 y0 y1 z2 y2
                        refine wpAnyZ_one 9 (by kernel_rfl) rfl rfl (fun K hK => ?_)
                        try simp only [List.getElem_toArray, List.getElem_cons_succ, List.getElem_cons_zero]
                        obtain ⟨z0, z1, y0, y1, z2, y2⟩ := res_facts f7
                        go_simp
                        refine hK _ _ (.inr (f9 rab)) ?_
                        clear hK K
                        try simp only [Act.put, List.setIfInBounds_toArray, List.set_cons_succ, List.set_cons_zero]
                        refine wpAnyZ_done (by kernel_rfl) ?_ _
                        clear z0 z1 y0 y1 z2 y2
                        go_wp2_with fail
                        go_meet
                        exact fin
                  case rest =>
                    obtain ⟨R1, R2, rfl, rfl, hR1, hR2, hx1, hx2, ht2, hv2, hu2⟩ := hcut
                    have U20 := hide (U16.out.trans_new hu2 (fun k hk => .inr (TOK.out.lo k hk).1)); have SB2 := hide (And.intro (hu2.get SB.out.1 hnB.out.1) (hu2.get SB.out.2 hnB.out.2))
                    have hz20 := hu2.size
                    have HX1 := hide hx1; have HX2 := hide hx2; have T20 := hide ht2; have V20 := hide hv2
                    obtain ⟨w20, hw20⟩ : ∃ x, x = wc := ⟨_, rfl⟩
                    rw [← hw20] at U20 SB2 hz20 HX1 HX2 T20 V20 ⊢
                    clear hw20 hx1 hx2 ht2 hv2 hu2 HC1 HC2 hz0 TBB T16 V16 SB
                    have SB := SB2
                    have TOK2 := hide (show TwoOk w w20 [tg, ug] ub ug tb tg from ⟨U20.out, fun k hk => by have := TOK.out.lo k hk; omega, by simp, by simp, by have := TOK.out.ne; omega, by have := TOK.out.ne; omega, by have := TOK.out.ne; omega⟩)
                    have TBB := hide (show TwoB w20 [tg, ug] ub ug tb tg from ⟨by omega, by omega, by omega, by omega⟩)
                    have hR1n : R1 ∉ [tg, ug] := by simp; omega
                    have hR2n : R2 ∉ [tg, ug] := by simp; omega
                    clear TOK
                    have TOK := TOK2
                    have HC1 := hide (show ∀ o6 o7 wx, TwoG w20 [tg, ug] ub ug tb tg m mab o6 o7 wx → Calls Tryd.prog 16 #[.pointer (some ⟨ub, 0, none⟩), (.agg #[.int .u32 (b.client : Int), .int .u32 (b.seq : Int), .int .u8 (b.kind : Int), .slice xb b.keys.length cb, .string (strOf b.old), .string (strOf b.new), .int .i64 b.n])] wx fun e w' => e = .returned (rpv rab) ∧ TwoG w20 [tg, ug] ub ug tb tg mb mab o6 o7 w' from fun o6 o7 wx h => by
                      have := h.do_t TOK.out ENV.out OK.out (by omega) (v := cmv b (.slice xb b.keys.length cb)) (c := b) ⟨FB.out, _, rfl, KB.out⟩
                      rw [KB2.out] at this
                      simp only [cmv, strV] at this
                      exact this)
                    have HC2 := hide (show ∀ o6 o7 wx, TwoG w20 [tg, ug] ub ug tb tg mb mab o6 o7 wx → Calls Tryd.prog 16 #[.pointer (some ⟨ub, 0, none⟩), (.agg #[.int .u32 (a.client : Int), .int .u32 (a.seq : Int), .int .u8 (a.kind : Int), .slice xa a.keys.length ca, .string (strOf a.old), .string (strOf a.new), .int .i64 a.n])] wx fun e w' => e = .returned (rpv rba) ∧ TwoG w20 [tg, ug] ub ug tb tg mab mab o6 o7 w' from fun o6 o7 wx h => by
                      have := h.do_t TOK.out ENV.out OKb.out (by omega) (v := cmv a (.slice xa a.keys.length ca)) (c := a) ⟨FA.out, _, rfl, KA.out⟩
                      rw [KBA.out] at this
                      simp only [cmv, strV] at this
                      exact this)
                    have hz0 := TwoG.start (w0 := w20) (U := [tg, ug]) (V20.out.upd_nil ((Upd.refl [] w20).drewN 1)) (T20.out.upd_nil ((Upd.refl [] w20).drewN 1)) ((Upd.refl _ w20).drewN 1)
                    go_upto_region 33 with fail
                    go_cut [30, 31] (fun s1 s2 wx => TwoR w20 [tg, ug] ub ug tb tg mab mab rab rba s1 s2 wx)
                    case first =>
                      as_aux_lemma =>
                      refine wp_region_z (fun wx => Upd [tg, ug] w20 wx) 99 (by kernel_rfl) ?_
                      refine wpAnyZ_takeE 0 rfl (by kernel_rfl) (by kernel_rfl) (by kernel_rfl) (by kernel_rfl) (fun _ _ _ _ h => h) rfl (by exact hz0.s) ?_
                      apply Exists.intro
                      refine ⟨fun wx hS => ?_, ?_⟩
                      · go_simp; rfl
                      simp only [Act.put, List.setIfInBounds_toArray, List.set_cons_succ, List.set_cons_zero, List.getElem_toArray, List.getElem_cons_zero]
                      refine wpAnyZ_takeE 1 rfl (by kernel_rfl) (by kernel_rfl) (by kernel_rfl) (by kernel_rfl) (fun _ _ _ _ h => h) rfl (by exact hz0.s) ?_
                      apply Exists.intro
                      refine ⟨fun wx hS => ?_, ?_⟩
                      · obtain ⟨p0, p1, p2, p3, p4, p5, p6⟩ := cell7 (hS.get SB.out.2 hnB.out.2); go_simp; rfl
                      simp only [Act.put, List.setIfInBounds_toArray, List.set_cons_succ, List.set_cons_zero, List.getElem_toArray, List.getElem_cons_succ, List.getElem_cons_zero]
                      refine wpAnyZ_takeE 3 rfl (by kernel_rfl) (by kernel_rfl) (by kernel_rfl) (by kernel_rfl) (fun _ _ _ _ h => h) rfl (by exact hz0.s) ?_
                      apply Exists.intro
                      refine ⟨fun wx hS => ?_, ?_⟩
                      · go_simp; rfl
                      simp only [Act.put, List.setIfInBounds_toArray, List.set_cons_succ, List.set_cons_zero, List.getElem_toArray, List.getElem_cons_succ, List.getElem_cons_zero]
                      refine wpAnyZ_takeE 4 rfl (by kernel_rfl) (by kernel_rfl) (by kernel_rfl) (by kernel_rfl) (fun _ _ _ _ h => h) rfl (by exact hz0.s) ?_
                      apply Exists.intro
                      refine ⟨fun wx hS => ?_, ?_⟩
                      · obtain ⟨p0, p1, p2, p3, p4, p5, p6⟩ := cell7 (hS.get SB.out.1 hnB.out.1); go_simp; rfl
                      simp only [Act.put, List.setIfInBounds_toArray, List.set_cons_succ, List.set_cons_zero, List.getElem_toArray, List.getElem_cons_succ, List.getElem_cons_zero]
                      refine wpAnyZ_three 2 6 7 (by kernel_rfl) rfl rfl rfl rfl rfl rfl (fun K hK => ?_) (fun K hK => ?_) (fun K hK => ?_)
                      · try simp only [List.getElem_toArray, List.getElem_cons_succ, List.getElem_cons_zero]
                        go_simp
                        refine (HC1.out _ _ _ hz0).mono ?_
                        rintro e wz1 ⟨rfl, hz1⟩
                        unfold rpv
                        refine hK _ _ (.inr hz1.s) ?_
                        clear hK K
                        try simp only [Act.put, List.setIfInBounds_toArray, List.set_cons_succ, List.set_cons_zero]
                        refine wpAnyZ_three 5 6 7 (by kernel_rfl) rfl rfl rfl rfl rfl rfl (fun K hK => ?_) (fun K hK => ?_) (fun K hK => ?_)
                        · try simp only [List.getElem_toArray, List.getElem_cons_succ, List.getElem_cons_zero]
                          go_simp
                          refine (HC2.out _ _ _ hz1).mono ?_
                          rintro e wz2 ⟨rfl, hz2⟩
                          unfold rpv
                          refine hK _ _ (.inr hz2.s) ?_
                          clear hK K
                          try simp only [Act.put, List.setIfInBounds_toArray, List.set_cons_succ, List.set_cons_zero]
                          refine wpAnyZ_two 6 7 (by kernel_rfl) rfl rfl rfl rfl (fun K hK => ?_) (fun K hK => ?_)
                          · try simp only [List.getElem_toArray, List.getElem_cons_succ, List.getElem_cons_zero]
                            go_simp
                            obtain ⟨wz3, hwn, hz3⟩ : ∃ wn, wn = wz2.alloc (.cells #[.int .u8 0, .string ⟨#[]⟩] TRp) ∧ _ := ⟨_, rfl, TwoG.alloc6 hz2⟩
                            rw [← hwn]
                            obtain ⟨R6, hRR⟩ : ∃ R, wz2.heap.size = R := ⟨_, rfl⟩
                            rw [hRR] at hz3 ⊢
                            clear hwn hRR
                            refine hK _ _ (.inr hz3.s) ?_
                            clear hK K
                            try simp only [Act.put, List.setIfInBounds_toArray, List.set_cons_succ, List.set_cons_zero]
                            refine wpAnyZ_one 7 (by kernel_rfl) rfl rfl (fun K hK => ?_)
                            try simp only [List.getElem_toArray, List.getElem_cons_succ, List.getElem_cons_zero]
                            go_simp
                            obtain ⟨wz4, hwn, hz4⟩ : ∃ wn, wn = wz3.alloc (.cells #[.int .u8 0, .string ⟨#[]⟩] TRp) ∧ _ := ⟨_, rfl, TwoG.alloc7 hz3⟩
                            rw [← hwn]
                            obtain ⟨R7, hRR⟩ : ∃ R, wz3.heap.size = R := ⟨_, rfl⟩
                            rw [hRR] at hz4 ⊢
                            clear hwn hRR
                            refine hK _ _ (.inr hz4.s) ?_
                            clear hK K
                            try simp only [Act.put, List.setIfInBounds_toArray, List.set_cons_succ, List.set_cons_zero]
                            obtain ⟨f6, f7, f8, f9⟩ := TwoG.facts hz4 rab
                            have fin := TwoG.fin (r1 := rab) (r2 := rba) hz4 TBB.out
                            refine wpAnyZ_one 8 (by kernel_rfl) rfl rfl (fun K hK => ?_)
                            try simp only [List.getElem_toArray, List.getElem_cons_succ, List.getElem_cons_zero]
                            obtain ⟨z0, z1, y0, y1, z2, y2⟩ := res_facts f6
                            go_simp
                            refine hK _ _ (.inr f8) ?_
                            clear hK K
                            try simp only [Act.put, List.setIfInBounds_toArray, List.set_cons_succ, List.set_cons_zero]
                            clear z0 z1 y0 y1 z2 y2
                            refine wpAnyZ_one 9 (by kernel_rfl) rfl rfl (fun K hK => ?_)
                            try simp only [List.getElem_toArray, List.getElem_cons_succ, List.getElem_cons_zero]
                            obtain ⟨z0, z1, y0, y1, z2, y2⟩ := res_facts f7
                            go_simp
                            refine hK _ _ (.inr (f9 rba)) ?_
                            clear hK K
                            try simp only [Act.put, List.setIfInBounds_toArray, List.set_cons_succ, List.set_cons_zero]
                            refine wpAnyZ_done (by kernel_rfl) ?_ _
                            clear z0 z1 y0 y1 z2 y2
                            go_wp2_with fail
                            go_meet
                            exact fin
                          · try simp only [List.getElem_toArray, List.getElem_cons_succ, List.getElem_cons_zero]
                            go_simp
                            obtain ⟨wz3, hwn, hz3⟩ : ∃ wn, wn = wz2.alloc (.cells #[.int .u8 0, .string ⟨#[]⟩] TRp) ∧ _ := ⟨_, rfl, TwoG.alloc7 hz2⟩
                            rw [← hwn]
                            obtain ⟨R7, hRR⟩ : ∃ R, wz2.heap.size = R := ⟨_, rfl⟩
                            rw [hRR] at hz3 ⊢
                            clear hwn hRR
                            refine hK _ _ (.inr hz3.s) ?_
                            clear hK K
                            try simp only [Act.put, List.setIfInBounds_toArray, List.set_cons_succ, List.set_cons_zero]
                            refine wpAnyZ_one 6 (by kernel_rfl) rfl rfl (fun K hK => ?_)
                            try simp only [List.getElem_toArray, List.getElem_cons_succ, List.getElem_cons_zero]
                            go_simp
                            obtain ⟨wz4, hwn, hz4⟩ : ∃ wn, wn = wz3.alloc (.cells #[.int .u8 0, .string ⟨#[]⟩] TRp) ∧ _ := ⟨_, rfl, TwoG.alloc6 hz3⟩
                            rw [← hwn]
                            obtain ⟨R6, hRR⟩ : ∃ R, wz3.heap.size = R := ⟨_, rfl⟩
                            rw [hRR] at hz4 ⊢
                            clear hwn hRR
                            refine hK _ _ (.inr hz4.s) ?_
                            clear hK K
                            try simp only [Act.put, List.setIfInBounds_toArray, List.set_cons_succ, List.set_cons_zero]
                            obtain ⟨f6, f7, f8, f9⟩ := TwoG.facts hz4 rab
                            have fin := TwoG.fin (r1 := rab) (r2 := rba) hz4 TBB.out
                            refine wpAnyZ_one 8 (by kernel_rfl) rfl rfl (fun K hK => ?_)
                            try simp only [List.getElem_toArray, List.getElem_cons_succ, List.getElem_cons_zero]
                            obtain ⟨z0, z1, y0, y1, z2, y2⟩ := res_facts f6
                            go_simp
                            refine hK _ _ (.inr f8) ?_
                            clear hK K
                            try simp only [Act.put, List.setIfInBounds_toArray, List.set_cons_succ, List.set_cons_zero]
                            clear z0 z1 y0 y1 z2 y2
                            refine wpAnyZ_one 9 (by kernel_rfl) rfl rfl (fun K hK => ?_)
                            try simp only [List.getElem_toArray, List.getElem_cons_succ, List.getElem_cons_zero]
                            obtain ⟨z0, z1, y0, y1, z2, y2⟩ := res_facts f7
                            go_simp
                            refine hK _ _ (.inr (f9 rba)) ?_
                            clear hK K
                            try simp only [Act.put, List.setIfInBounds_toArray, List.set_cons_succ, List.set_cons_zero]
                            refine wpAnyZ_done (by kernel_rfl) ?_ _
                            clear z0 z1 y0 y1 z2 y2
                            go_wp2_with fail
                            go_meet
                            exact fin
                        · try simp only [List.getElem_toArray, List.getElem_cons_succ, List.getElem_cons_zero]
                          go_simp
                          obtain ⟨wz2, hwn, hz2⟩ : ∃ wn, wn = wz1.alloc (.cells #[.int .u8 0, .string ⟨#[]⟩] TRp) ∧ _ := ⟨_, rfl, TwoG.alloc6 hz1⟩
                          rw [← hwn]
                          obtain ⟨R6, hRR⟩ : ∃ R, wz1.heap.size = R := ⟨_, rfl⟩
                          rw [hRR] at hz2 ⊢
                          clear hwn hRR
                          refine hK _ _ (.inr hz2.s) ?_
                          clear hK K
                          try simp only [Act.put, List.setIfInBounds_toArray, List.set_cons_succ, List.set_cons_zero]
                          refine wpAnyZ_two 5 7 (by kernel_rfl) rfl rfl rfl rfl (fun K hK => ?_) (fun K hK => ?_)
                          · try simp only [List.getElem_toArray, List.getElem_cons_succ, List.getElem_cons_zero]
                            go_simp
                            refine (HC2.out _ _ _ hz2).mono ?_
                            rintro e wz3 ⟨rfl, hz3⟩
                            unfold rpv
                            refine hK _ _ (.inr hz3.s) ?_
                            clear hK K
                            try simp only [Act.put, List.setIfInBounds_toArray, List.set_cons_succ, List.set_cons_zero]
                            refine wpAnyZ_one 7 (by kernel_rfl) rfl rfl (fun K hK => ?_)
                            try simp only [List.getElem_toArray, List.getElem_cons_succ, List.getElem_cons_zero]
                            go_simp
                            obtain ⟨wz4, hwn, hz4⟩ : ∃ wn, wn = wz3.alloc (.cells #[.int .u8 0, .string ⟨#[]⟩] TRp) ∧ _ := ⟨_, rfl, TwoG.alloc7 hz3⟩
                            rw [← hwn]
                            obtain ⟨R7, hRR⟩ : ∃ R, wz3.heap.size = R := ⟨_, rfl⟩
                            rw [hRR] at hz4 ⊢
                            clear hwn hRR
                            refine hK _ _ (.inr hz4.s) ?_
                            clear hK K
                            try simp only [Act.put, List.setIfInBounds_toArray, List.set_cons_succ, List.set_cons_zero]
                            obtain ⟨f6, f7, f8, f9⟩ := TwoG.facts hz4 rab
                            have fin := TwoG.fin (r1 := rab) (r2 := rba) hz4 TBB.out
                            refine wpAnyZ_one 8 (by kernel_rfl) rfl rfl (fun K hK => ?_)
                            try simp only [List.getElem_toArray, List.getElem_cons_succ, List.getElem_cons_zero]
                            obtain ⟨z0, z1, y0, y1, z2, y2⟩ := res_facts f6
                            go_simp
                            refine hK _ _ (.inr f8) ?_
                            clear hK K
                            try simp only [Act.put, List.setIfInBounds_toArray, List.set_cons_succ, List.set_cons_zero]
                            clear z0 z1 y0 y1 z2 y2
                            refine wpAnyZ_one 9 (by kernel_rfl) rfl rfl (fun K hK => ?_)
                            try simp only [List.getElem_toArray, List.getElem_cons_succ, List.getElem_cons_zero]
                            obtain ⟨z0, z1, y0, y1, z2, y2⟩ := res_facts f7
                            go_simp
                            refine hK _ _ (.inr (f9 rba)) ?_
                            clear hK K
                            try simp only [Act.put, List.setIfInBounds_toArray, List.set_cons_succ, List.set_cons_zero]
                            refine wpAnyZ_done (by kernel_rfl) ?_ _
                            clear z0 z1 y0 y1 z2 y2
                            go_wp2_with fail
                            go_meet
                            exact fin
                          · try simp only [List.getElem_toArray, List.getElem_cons_succ, List.getElem_cons_zero]
                            go_simp
                            obtain ⟨wz3, hwn, hz3⟩ : ∃ wn, wn = wz2.alloc (.cells #[.int .u8 0, .string ⟨#[]⟩] TRp) ∧ _ := ⟨_, rfl, TwoG.alloc7 hz2⟩
                            rw [← hwn]
                            obtain ⟨R7, hRR⟩ : ∃ R, wz2.heap.size = R := ⟨_, rfl⟩
                            rw [hRR] at hz3 ⊢
                            clear hwn hRR
                            refine hK _ _ (.inr hz3.s) ?_
                            clear hK K
                            try simp only [Act.put, List.setIfInBounds_toArray, List.set_cons_succ, List.set_cons_zero]
                            refine wpAnyZ_one 5 (by kernel_rfl) rfl rfl (fun K hK => ?_)
                            try simp only [List.getElem_toArray, List.getElem_cons_succ, List.getElem_cons_zero]
                            go_simp
                            refine (HC2.out _ _ _ hz3).mono ?_
                            rintro e wz4 ⟨rfl, hz4⟩
                            unfold rpv
                            refine hK _ _ (.inr hz4.s) ?_
                            clear hK K
                            try simp only [Act.put, List.setIfInBounds_toArray, List.set_cons_succ, List.set_cons_zero]
                            obtain ⟨f6, f7, f8, f9⟩ := TwoG.facts hz4 rab
                            have fin := TwoG.fin (r1 := rab) (r2 := rba) hz4 TBB.out
                            refine wpAnyZ_one 8 (by kernel_rfl) rfl rfl (fun K hK => ?_)
                            try simp only [List.getElem_toArray, List.getElem_cons_succ, List.getElem_cons_zero]
                            obtain ⟨z0, z1, y0, y1, z2, y2⟩ := res_facts f6
                            go_simp
                            refine hK _ _ (.inr f8) ?_
                            clear hK K
                            try simp only [Act.put, List.setIfInBounds_toArray, List.set_cons_succ, List.set_cons_zero]
                            clear z0 z1 y0 y1 z2 y2
                            refine wpAnyZ_one 9 (by kernel_rfl) rfl rfl (fun K hK => ?_)
                            try simp only [List.getElem_toArray, List.getElem_cons_succ, List.getElem_cons_zero]
                            obtain ⟨z0, z1, y0, y1, z2, y2⟩ := res_facts f7
                            go_simp
                            refine hK _ _ (.inr (f9 rba)) ?_
                            clear hK K
                            try simp only [Act.put, List.setIfInBounds_toArray, List.set_cons_succ, List.set_cons_zero]
                            refine wpAnyZ_done (by kernel_rfl) ?_ _
                            clear z0 z1 y0 y1 z2 y2
                            go_wp2_with fail
                            go_meet
                            exact fin
                        · try simp only [List.getElem_toArray, List.getElem_cons_succ, List.getElem_cons_zero]
                          go_simp
                          obtain ⟨wz2, hwn, hz2⟩ : ∃ wn, wn = wz1.alloc (.cells #[.int .u8 0, .string ⟨#[]⟩] TRp) ∧ _ := ⟨_, rfl, TwoG.alloc7 hz1⟩
                          rw [← hwn]
                          obtain ⟨R7, hRR⟩ : ∃ R, wz1.heap.size = R := ⟨_, rfl⟩
                          rw [hRR] at hz2 ⊢
                          clear hwn hRR
                          refine hK _ _ (.inr hz2.s) ?_
                          clear hK K
                          try simp only [Act.put, List.setIfInBounds_toArray, List.set_cons_succ, List.set_cons_zero]
                          refine wpAnyZ_two 5 6 (by kernel_rfl) rfl rfl rfl rfl (fun K hK => ?_) (fun K hK => ?_)
                          · try simp only [List.getElem_toArray, List.getElem_cons_succ, List.getElem_cons_zero]
                            go_simp
                            refine (HC2.out _ _ _ hz2).mono ?_
                            rintro e wz3 ⟨rfl, hz3⟩
                            unfold rpv
                            refine hK _ _ (.inr hz3.s) ?_
                            clear hK K
                            try simp only [Act.put, List.setIfInBounds_toArray, List.set_cons_succ, List.set_cons_zero]
                            refine wpAnyZ_one 6 (by kernel_rfl) rfl rfl (fun K hK => ?_)
                            try simp only [List.getElem_toArray, List.getElem_cons_succ, List.getElem_cons_zero]
                            go_simp
                            obtain ⟨wz4, hwn, hz4⟩ : ∃ wn, wn = wz3.alloc (.cells #[.int .u8 0, .string ⟨#[]⟩] TRp) ∧ _ := ⟨_, rfl, TwoG.alloc6 hz3⟩
                            rw [← hwn]
                            obtain ⟨R6, hRR⟩ : ∃ R, wz3.heap.size = R := ⟨_, rfl⟩
                            rw [hRR] at hz4 ⊢
                            clear hwn hRR
                            refine hK _ _ (.inr hz4.s) ?_
                            clear hK K
                            try simp only [Act.put, List.setIfInBounds_toArray, List.set_cons_succ, List.set_cons_zero]
                            obtain ⟨f6, f7, f8, f9⟩ := TwoG.facts hz4 rab
                            have fin := TwoG.fin (r1 := rab) (r2 := rba) hz4 TBB.out
                            refine wpAnyZ_one 8 (by kernel_rfl) rfl rfl (fun K hK => ?_)
                            try simp only [List.getElem_toArray, List.getElem_cons_succ, List.getElem_cons_zero]
                            obtain ⟨z0, z1, y0, y1, z2, y2⟩ := res_facts f6
                            go_simp
                            refine hK _ _ (.inr f8) ?_
                            clear hK K
                            try simp only [Act.put, List.setIfInBounds_toArray, List.set_cons_succ, List.set_cons_zero]
                            clear z0 z1 y0 y1 z2 y2
                            refine wpAnyZ_one 9 (by kernel_rfl) rfl rfl (fun K hK => ?_)
                            try simp only [List.getElem_toArray, List.getElem_cons_succ, List.getElem_cons_zero]
                            obtain ⟨z0, z1, y0, y1, z2, y2⟩ := res_facts f7
                            go_simp
                            refine hK _ _ (.inr (f9 rba)) ?_
                            clear hK K
                            try simp only [Act.put, List.setIfInBounds_toArray, List.set_cons_succ, List.set_cons_zero]
                            refine wpAnyZ_done (by kernel_rfl) ?_ _
                            clear z0 z1 y0 y1 z2 y2
                            go_wp2_with fail
                            go_meet
                            exact fin
                          · try simp only [List.getElem_toArray, List.getElem_cons_succ, List.getElem_cons_zero]
                            go_simp
                            obtain ⟨wz3, hwn, hz3⟩ : ∃ wn, wn = wz2.alloc (.cells #[.int .u8 0, .string ⟨#[]⟩] TRp) ∧ _ := ⟨_, rfl, TwoG.alloc6 hz2⟩
                            rw [← hwn]
                            obtain ⟨R6, hRR⟩ : ∃ R, wz2.heap.size = R := ⟨_, rfl⟩
                            rw [hRR] at hz3 ⊢
                            clear hwn hRR
                            refine hK _ _ (.inr hz3.s) ?_
                            clear hK K
                            try simp only [Act.put, List.setIfInBounds_toArray, List.set_cons_succ, List.set_cons_zero]
                            refine wpAnyZ_one 5 (by kernel_rfl) rfl rfl (fun K hK => ?_)
                            try simp only [List.getElem_toArray, List.getElem_cons_succ, List.getElem_cons_zero]
                            go_simp
                            refine (HC2.out _ _ _ hz3).mono ?_
                            rintro e wz4 ⟨rfl, hz4⟩
                            unfold rpv
                            refine hK _ _ (.inr hz4.s) ?_
                            clear hK K
                            try simp only [Act.put, List.setIfInBounds_toArray, List.set_cons_succ, List.set_cons_zero]
                            obtain ⟨f6, f7, f8, f9⟩ := TwoG.facts hz4 rab
                            have fin := TwoG.fin (r1 := rab) (r2 := rba) hz4 TBB.out
                            refine wpAnyZ_one 8 (by kernel_rfl) rfl rfl (fun K hK => ?_)
                            try simp only [List.getElem_toArray, List.getElem_cons_succ, List.getElem_cons_zero]
                            obtain ⟨z0, z1, y0, y1, z2, y2⟩ := res_facts f6
                            go_simp
                            refine hK _ _ (.inr f8) ?_
                            clear hK K
                            try simp only [Act.put, List.setIfInBounds_toArray, List.set_cons_succ, List.set_cons_zero]
                            clear z0 z1 y0 y1 z2 y2
                            refine wpAnyZ_one 9 (by kernel_rfl) rfl rfl (fun K hK => ?_)
                            try simp only [List.getElem_toArray, List.getElem_cons_succ, List.getElem_cons_zero]
                            obtain ⟨z0, z1, y0, y1, z2, y2⟩ := res_facts f7
                            go_simp
                            refine hK _ _ (.inr (f9 rba)) ?_
                            clear hK K
                            try simp only [Act.put, List.setIfInBounds_toArray, List.set_cons_succ, List.set_cons_zero]
                            refine wpAnyZ_done (by kernel_rfl) ?_ _
                            clear z0 z1 y0 y1 z2 y2
                            go_wp2_with fail
                            go_meet
                            exact fin
                      · try simp only [List.getElem_toArray, List.getElem_cons_succ, List.getElem_cons_zero]
                        go_simp
                        obtain ⟨wz1, hwn, hz1⟩ : ∃ wn, wn = (w20.drewN 1).alloc (.cells #[.int .u8 0, .string ⟨#[]⟩] TRp) ∧ _ := ⟨_, rfl, TwoG.alloc6 hz0⟩
                        rw [← hwn]
                        obtain ⟨R6, hRR⟩ : ∃ R, w20.heap.size = R := ⟨_, rfl⟩
                        rw [show (w20.drewN 1).heap.size = R6 from hRR] at hz1
                        rw [hRR]
                        clear hwn hRR
                        refine hK _ _ (.inr hz1.s) ?_
                        clear hK K
                        try simp only [Act.put, List.setIfInBounds_toArray, List.set_cons_succ, List.set_cons_zero]
                        refine wpAnyZ_two 2 7 (by kernel_rfl) rfl rfl rfl rfl (fun K hK => ?_) (fun K hK => ?_)
                        · try simp only [List.getElem_toArray, List.getElem_cons_succ, List.getElem_cons_zero]
                          go_simp
                          refine (HC1.out _ _ _ hz1).mono ?_
                          rintro e wz2 ⟨rfl, hz2⟩
                          unfold rpv
                          refine hK _ _ (.inr hz2.s) ?_
                          clear hK K
                          try simp only [Act.put, List.setIfInBounds_toArray, List.set_cons_succ, List.set_cons_zero]
                          refine wpAnyZ_two 5 7 (by kernel_rfl) rfl rfl rfl rfl (fun K hK => ?_) (fun K hK => ?_)
                          · try simp only [List.getElem_toArray, List.getElem_cons_succ, List.getElem_cons_zero]
                            go_simp
                            refine (HC2.out _ _ _ hz2).mono ?_
                            rintro e wz3 ⟨rfl, hz3⟩
                            unfold rpv
                            refine hK _ _ (.inr hz3.s) ?_
                            clear hK K
                            try simp only [Act.put, List.setIfInBounds_toArray, List.set_cons_succ, List.set_cons_zero]
                            refine wpAnyZ_one 7 (by kernel_rfl) rfl rfl (fun K hK => ?_)
                            try simp only [List.getElem_toArray, List.getElem_cons_succ, List.getElem_cons_zero]
                            go_simp
                            obtain ⟨wz4, hwn, hz4⟩ : ∃ wn, wn = wz3.alloc (.cells #[.int .u8 0, .string ⟨#[]⟩] TRp) ∧ _ := ⟨_, rfl, TwoG.alloc7 hz3⟩
                            rw [← hwn]
                            obtain ⟨R7, hRR⟩ : ∃ R, wz3.heap.size = R := ⟨_, rfl⟩
                            rw [hRR] at hz4 ⊢
                            clear hwn hRR
                            refine hK _ _ (.inr hz4.s) ?_
                            clear hK K
                            try simp only [Act.put, List.setIfInBounds_toArray, List.set_cons_succ, List.set_cons_zero]
                            obtain ⟨f6, f7, f8, f9⟩ := TwoG.facts hz4 rab
                            have fin := TwoG.fin (r1 := rab) (r2 := rba) hz4 TBB.out
                            refine wpAnyZ_one 8 (by kernel_rfl) rfl rfl (fun K hK => ?_)
                            try simp only [List.getElem_toArray, List.getElem_cons_succ, List.getElem_cons_zero]
                            obtain ⟨z0, z1, y0, y1, z2, y2⟩ := res_facts f6
                            go_simp
                            refine hK _ _ (.inr f8) ?_
                            clear hK K
                            try simp only [Act.put, List.setIfInBounds_toArray, List.set_cons_succ, List.set_cons_zero]
                            clear z0 z1 y0 y1 z2 y2
                            refine wpAnyZ_one 9 (by kernel_rfl) rfl rfl (fun K hK => ?_)
                            try simp only [List.getElem_toArray, List.getElem_cons_succ, List.getElem_cons_zero]
                            obtain ⟨z0, z1, y0, y1, z2, y2⟩ := res_facts f7
                            go_simp
                            refine hK _ _ (.inr (f9 rba)) ?_
                            clear hK K
                            try simp only [Act.put, List.setIfInBounds_toArray, List.set_cons_succ, List.set_cons_zero]
                            refine wpAnyZ_done (by kernel_rfl) ?_ _
                            clear z0 z1 y0 y1 z2 y2
                            go_wp2_with fail
                            go_meet
                            exact fin
                          · try simp only [List.getElem_toArray, List.getElem_cons_succ, List.getElem_cons_zero]
                            go_simp
                            obtain ⟨wz3, hwn, hz3⟩ : ∃ wn, wn = wz2.alloc (.cells #[.int .u8 0, .string ⟨#[]⟩] TRp) ∧ _ := ⟨_, rfl, TwoG.alloc7 hz2⟩
                            rw [← hwn]
                            obtain ⟨R7, hRR⟩ : ∃ R, wz2.heap.size = R := ⟨_, rfl⟩
                            rw [hRR] at hz3 ⊢
                            clear hwn hRR
                            refine hK _ _ (.inr hz3.s) ?_
                            clear hK K
                            try simp only [Act.put, List.setIfInBounds_toArray, List.set_cons_succ, List.set_cons_zero]
                            refine wpAnyZ_one 5 (by kernel_rfl) rfl rfl (fun K hK => ?_)
                            try simp only [List.getElem_toArray, List.getElem_cons_succ, List.getElem_cons_zero]
                            go_simp
                            refine (HC2.out _ _ _ hz3).mono ?_
                            rintro e wz4 ⟨rfl, hz4⟩
                            unfold rpv
                            refine hK _ _ (.inr hz4.s) ?_
                            clear hK K
                            try simp only [Act.put, List.setIfInBounds_toArray, List.set_cons_succ, List.set_cons_zero]
                            obtain ⟨f6, f7, f8, f9⟩ := TwoG.facts hz4 rab
                            have fin := TwoG.fin (r1 := rab) (r2 := rba) hz4 TBB.out
                            refine wpAnyZ_one 8 (by kernel_rfl) rfl rfl (fun K hK => ?_)
                            try simp only [List.getElem_toArray, List.getElem_cons_succ, List.getElem_cons_zero]
                            obtain ⟨z0, z1, y0, y1, z2, y2⟩ := res_facts f6
                            go_simp
                            refine hK _ _ (.inr f8) ?_
                            clear hK K
                            try simp only [Act.put, List.setIfInBounds_toArray, List.set_cons_succ, List.set_cons_zero]
                            clear z0 z1 y0 y1 z2 y2
                            refine wpAnyZ_one 9 (by kernel_rfl) rfl rfl (fun K hK => ?_)
                            try simp only [List.getElem_toArray, List.getElem_cons_succ, List.getElem_cons_zero]
                            obtain ⟨z0, z1, y0, y1, z2, y2⟩ := res_facts f7
                            go_simp
                            refine hK _ _ (.inr (f9 rba)) ?_
                            clear hK K
                            try simp only [Act.put, List.setIfInBounds_toArray, List.set_cons_succ, List.set_cons_zero]
                            refine wpAnyZ_done (by kernel_rfl) ?_ _
                            clear z0 z1 y0 y1 z2 y2
                            go_wp2_with fail
                            go_meet
                            exact fin
                        · try simp only [List.getElem_toArray, List.getElem_cons_succ, List.getElem_cons_zero]
                          go_simp
                          obtain ⟨wz2, hwn, hz2⟩ : ∃ wn, wn = wz1.alloc (.cells #[.int .u8 0, .string ⟨#[]⟩] TRp) ∧ _ := ⟨_, rfl, TwoG.alloc7 hz1⟩
                          rw [← hwn]
                          obtain ⟨R7, hRR⟩ : ∃ R, wz1.heap.size = R := ⟨_, rfl⟩
                          rw [hRR] at hz2 ⊢
                          clear hwn hRR
                          refine hK _ _ (.inr hz2.s) ?_
                          clear hK K
                          try simp only [Act.put, List.setIfInBounds_toArray, List.set_cons_succ, List.set_cons_zero]
                          refine wpAnyZ_one 2 (by kernel_rfl) rfl rfl (fun K hK => ?_)
                          try simp only [List.getElem_toArray, List.getElem_cons_succ, List.getElem_cons_zero]
                          go_simp
                          refine (HC1.out _ _ _ hz2).mono ?_
                          rintro e wz3 ⟨rfl, hz3⟩
                          unfold rpv
                          refine hK _ _ (.inr hz3.s) ?_
                          clear hK K
                          try simp only [Act.put, List.setIfInBounds_toArray, List.set_cons_succ, List.set_cons_zero]
                          refine wpAnyZ_one 5 (by kernel_rfl) rfl rfl (fun K hK => ?_)
                          try simp only [List.getElem_toArray, List.getElem_cons_succ, List.getElem_cons_zero]
                          go_simp
                          refine (HC2.out _ _ _ hz3).mono ?_
                          rintro e wz4 ⟨rfl, hz4⟩
                          unfold rpv
                          refine hK _ _ (.inr hz4.s) ?_
                          clear hK K
                          try simp only [Act.put, List.setIfInBounds_toArray, List.set_cons_succ, List.set_cons_zero]
                          obtain ⟨f6, f7, f8, f9⟩ := TwoG.facts hz4 rab
                          have fin := TwoG.fin (r1 := rab) (r2 := rba) hz4 TBB.out
                          refine wpAnyZ_one 8 (by kernel_rfl) rfl rfl (fun K hK => ?_)
                          try simp only [List.getElem_toArray, List.getElem_cons_succ, List.getElem_cons_zero]
                          obtain ⟨z0, z1, y0, y1, z2, y2⟩ := res_facts f6
                          go_simp
                          refine hK _ _ (.inr f8) ?_
                          clear hK K
                          try simp only [Act.put, List.setIfInBounds_toArray, List.set_cons_succ, List.set_cons_zero]
                          clear z0 z1 y0 y1 z2 y2
                          refine wpAnyZ_one 9 (by kernel_rfl) rfl rfl (fun K hK => ?_)
                          try simp only [List.getElem_toArray, List.getElem_cons_succ, List.getElem_cons_zero]
                          obtain ⟨z0, z1, y0, y1, z2, y2⟩ := res_facts f7
                          go_simp
                          refine hK _ _ (.inr (f9 rba)) ?_
                          clear hK K
                          try simp only [Act.put, List.setIfInBounds_toArray, List.set_cons_succ, List.set_cons_zero]
                          refine wpAnyZ_done (by kernel_rfl) ?_ _
                          clear z0 z1 y0 y1 z2 y2
                          go_wp2_with fail
                          go_meet
                          exact fin
                      · try simp only [List.getElem_toArray, List.getElem_cons_succ, List.getElem_cons_zero]
                        go_simp
                        obtain ⟨wz1, hwn, hz1⟩ : ∃ wn, wn = (w20.drewN 1).alloc (.cells #[.int .u8 0, .string ⟨#[]⟩] TRp) ∧ _ := ⟨_, rfl, TwoG.alloc7 hz0⟩
                        rw [← hwn]
                        obtain ⟨R7, hRR⟩ : ∃ R, w20.heap.size = R := ⟨_, rfl⟩
                        rw [show (w20.drewN 1).heap.size = R7 from hRR] at hz1
                        rw [hRR]
                        clear hwn hRR
                        refine hK _ _ (.inr hz1.s) ?_
                        clear hK K
                        try simp only [Act.put, List.setIfInBounds_toArray, List.set_cons_succ, List.set_cons_zero]
                        refine wpAnyZ_two 2 6 (by kernel_rfl) rfl rfl rfl rfl (fun K hK => ?_) (fun K hK => ?_)
                        · try simp only [List.getElem_toArray, List.getElem_cons_succ, List.getElem_cons_zero]
                          go_simp
                          refine (HC1.out _ _ _ hz1).mono ?_
                          rintro e wz2 ⟨rfl, hz2⟩
                          unfold rpv
                          refine hK _ _ (.inr hz2.s) ?_
                          clear hK K
                          try simp only [Act.put, List.setIfInBounds_toArray, List.set_cons_succ, List.set_cons_zero]
                          refine wpAnyZ_two 5 6 (by kernel_rfl) rfl rfl rfl rfl (fun K hK => ?_) (fun K hK => ?_)
                          · try simp only [List.getElem_toArray, List.getElem_cons_succ, List.getElem_cons_zero]
                            go_simp
                            refine (HC2.out _ _ _ hz2).mono ?_
                            rintro e wz3 ⟨rfl, hz3⟩
                            unfold rpv
                            refine hK _ _ (.inr hz3.s) ?_
                            clear hK K
                            try simp only [Act.put, List.setIfInBounds_toArray, List.set_cons_succ, List.set_cons_zero]
                            refine wpAnyZ_one 6 (by kernel_rfl) rfl rfl (fun K hK => ?_)
                            try simp only [List.getElem_toArray, List.getElem_cons_succ, List.getElem_cons_zero]
                            go_simp
                            obtain ⟨wz4, hwn, hz4⟩ : ∃ wn, wn = wz3.alloc (.cells #[.int .u8 0, .string ⟨#[]⟩] TRp) ∧ _ := ⟨_, rfl, TwoG.alloc6 hz3⟩
                            rw [← hwn]
                            obtain ⟨R6, hRR⟩ : ∃ R, wz3.heap.size = R := ⟨_, rfl⟩
                            rw [hRR] at hz4 ⊢
                            clear hwn hRR
                            refine hK _ _ (.inr hz4.s) ?_
                            clear hK K
                            try simp only [Act.put, List.setIfInBounds_toArray, List.set_cons_succ, List.set_cons_zero]
                            obtain ⟨f6, f7, f8, f9⟩ := TwoG.facts hz4 rab
                            have fin := TwoG.fin (r1 := rab) (r2 := rba) hz4 TBB.out
                            refine wpAnyZ_one 8 (by kernel_rfl) rfl rfl (fun K hK => ?_)
                            try simp only [List.getElem_toArray, List.getElem_cons_succ, List.getElem_cons_zero]
                            obtain ⟨z0, z1, y0, y1, z2, y2⟩ := res_facts f6
                            go_simp
                            refine hK _ _ (.inr f8) ?_
                            clear hK K
                            try simp only [Act.put, List.setIfInBounds_toArray, List.set_cons_succ, List.set_cons_zero]
                            clear z0 z1 y0 y1 z2 y2
                            refine wpAnyZ_one 9 (by kernel_rfl) rfl rfl (fun K hK => ?_)
                            try simp only [List.getElem_toArray, List.getElem_cons_succ, List.getElem_cons_zero]
                            obtain ⟨z0, z1, y0, y1, z2, y2⟩ := res_facts f7
                            go_simp
                            refine hK _ _ (.inr (f9 rba)) ?_
                            clear hK K
                            try simp only [Act.put, List.setIfInBounds_toArray, List.set_cons_succ, List.set_cons_zero]
                            refine wpAnyZ_done (by kernel_rfl) ?_ _
                            clear z0 z1 y0 y1 z2 y2
                            go_wp2_with fail
                            go_meet
                            exact fin
                          · try simp only [List.getElem_toArray, List.getElem_cons_succ, List.getElem_cons_zero]
                            go_simp
                            obtain ⟨wz3, hwn, hz3⟩ : ∃ wn, wn = wz2.alloc (.cells #[.int .u8 0, .string ⟨#[]⟩] TRp) ∧ _ := ⟨_, rfl, TwoG.alloc6 hz2⟩
                            rw [← hwn]
                            obtain ⟨R6, hRR⟩ : ∃ R, wz2.heap.size = R := ⟨_, rfl⟩
                            rw [hRR] at hz3 ⊢
                            clear hwn hRR
                            refine hK _ _ (.inr hz3.s) ?_
                            clear hK K
                            try simp only [Act.put, List.setIfInBounds_toArray, List.set_cons_succ, List.set_cons_zero]
                            refine wpAnyZ_one 5 (by kernel_rfl) rfl rfl (fun K hK => ?_)
                            try simp only [List.getElem_toArray, List.getElem_cons_succ, List.getElem_cons_zero]
                            go_simp
                            refine (HC2.out _ _ _ hz3).mono ?_
                            rintro e wz4 ⟨rfl, hz4⟩
                            unfold rpv
                            refine hK _ _ (.inr hz4.s) ?_
                            clear hK K
                            try simp only [Act.put, List.setIfInBounds_toArray, List.set_cons_succ, List.set_cons_zero]
                            obtain ⟨f6, f7, f8, f9⟩ := TwoG.facts hz4 rab
                            have fin := TwoG.fin (r1 := rab) (r2 := rba) hz4 TBB.out
                            refine wpAnyZ_one 8 (by kernel_rfl) rfl rfl (fun K hK => ?_)
                            try simp only [List.getElem_toArray, List.getElem_cons_succ, List.getElem_cons_zero]
                            obtain ⟨z0, z1, y0, y1, z2, y2⟩ := res_facts f6
                            go_simp
                            refine hK _ _ (.inr f8) ?_
                            clear hK K
                            try simp only [Act.put, List.setIfInBounds_toArray, List.set_cons_succ, List.set_cons_zero]
                            clear z0 z1 y0 y1 z2 y2
                            refine wpAnyZ_one 9 (by kernel_rfl) rfl rfl (fun K hK => ?_)
                            try simp only [List.getElem_toArray, List.getElem_cons_succ, List.getElem_cons_zero]
                            obtain ⟨z0, z1, y0, y1, z2, y2⟩ := res_facts f7
                            go_simp
                            refine hK _ _ (.inr (f9 rba)) ?_
                            clear hK K
                            try simp only [Act.put, List.setIfInBounds_toArray, List.set_cons_succ, List.set_cons_zero]
                            refine wpAnyZ_done (by kernel_rfl) ?_ _
                            clear z0 z1 y0 y1 z2 y2
                            go_wp2_with fail
                            go_meet
                            exact fin
                        · try simp only [List.getElem_toArray, List.getElem_cons_succ, List.getElem_cons_zero]
                          go_simp
                          obtain ⟨wz2, hwn, hz2⟩ : ∃ wn, wn = wz1.alloc (.cells #[.int .u8 0, .string ⟨#[]⟩] TRp) ∧ _ := ⟨_, rfl, TwoG.alloc6 hz1⟩
                          rw [← hwn]
                          obtain ⟨R6, hRR⟩ : ∃ R, wz1.heap.size = R := ⟨_, rfl⟩
                          rw [hRR] at hz2 ⊢
                          clear hwn hRR
                          refine hK _ _ (.inr hz2.s) ?_
                          clear hK K
                          try simp only [Act.put, List.setIfInBounds_toArray, List.set_cons_succ, List.set_cons_zero]
                          refine wpAnyZ_one 2 (by kernel_rfl) rfl rfl (fun K hK => ?_)
                          try simp only [List.getElem_toArray, List.getElem_cons_succ, List.getElem_cons_zero]
                          go_simp
                          refine (HC1.out _ _ _ hz2).mono ?_
                          rintro e wz3 ⟨rfl, hz3⟩
                          unfold rpv
                          refine hK _ _ (.inr hz3.s) ?_
                          clear hK K
                          try simp only [Act.put, List.setIfInBounds_toArray, List.set_cons_succ, List.set_cons_zero]
                          refine wpAnyZ_one 5 (by kernel_rfl) rfl rfl (fun K hK => ?_)
                          try simp only [List.getElem_toArray, List.getElem_cons_succ, List.getElem_cons_zero]
                          go_simp
                          refine (HC2.out _ _ _ hz3).mono ?_
                          rintro e wz4 ⟨rfl, hz4⟩
                          unfold rpv
                          refine hK _ _ (.inr hz4.s) ?_
                          clear hK K
                          try simp only [Act.put, List.setIfInBounds_toArray, List.set_cons_succ, List.set_cons_zero]
                          obtain ⟨f6, f7, f8, f9⟩ := TwoG.facts hz4 rab
                          have fin := TwoG.fin (r1 := rab) (r2 := rba) hz4 TBB.out
                          refine wpAnyZ_one 8 (by kernel_rfl) rfl rfl (fun K hK => ?_)
                          try simp only [List.getElem_toArray, List.getElem_cons_succ, List.getElem_cons_zero]
                          obtain ⟨z0, z1, y0, y1, z2, y2⟩ := res_facts f6
                          go_simp
                          refine hK _ _ (.inr f8) ?_
                          clear hK K
                          try simp only [Act.put, List.setIfInBounds_toArray, List.set_cons_succ, List.set_cons_zero]
                          clear z0 z1 y0 y1 z2 y2
                          refine wpAnyZ_one 9 (by kernel_rfl) rfl rfl (fun K hK => ?_)
                          try simp only [List.getElem_toArray, List.getElem_cons_succ, List.getElem_cons_zero]
                          obtain ⟨z0, z1, y0, y1, z2, y2⟩ := res_facts f7
                          go_simp
                          refine hK _ _ (.inr (f9 rba)) ?_
                          clear hK K
                          try simp only [Act.put, List.setIfInBounds_toArray, List.set_cons_succ, List.set_cons_zero]
                          refine wpAnyZ_done (by kernel_rfl) ?_ _
                          clear z0 z1 y0 y1 z2 y2
                          go_wp2_with fail
                          go_meet
                          exact fin
                    case rest =>
                      obtain ⟨R3, R4, rfl, rfl, hR3, hR4, hx3, hx4, hv3, ht3, hu3⟩ := hcut
                      obtain ⟨y0, y1, -, -, -, -⟩ := res_facts (hu3.get HX1.out hR1n)
                      obtain ⟨y2, y3, -, -, -, -⟩ := res_facts (hu3.get HX2.out hR2n)
                      obtain ⟨y4, y5, -, -, -, -⟩ := res_facts hx3
                      obtain ⟨y6, y7, -, -, -, -⟩ := res_facts hx4
                      have q1 := eql_rp rba rba wc
                      have q2 := eql_rp rab rab wc
                      rw [decide_eq_true rfl] at q1 q2
                      have U23 := hide (U20.out.trans_new hu3 (fun k hk => .inr (TOK.out.lo k hk).1)); have T23 := hide ht3; have V23 := hide hv3
                      clear hx3 hx4 hv3 ht3 hu3 hz0 HC1 HC2
                      go_wp2_with fail
                      refine (ksame_any wc T23.out V23.out OKab.out OKab.out (by omega)).mono ?_
                      rintro e w24 ⟨rfl, hu24⟩
                      rw [decide_eq_true rfl]
                      have U24 := hide (U23.out.trans hu24)
                      clear hu24
                      go_wp2_with fail
                      refine (wakes9_any w24 (ENV.out.upd_nil U24.out)).mono ?_
                      rintro e w25 ⟨rfl, hu25⟩
                      have U25 := hide (U24.out.trans hu25)
                      clear hu25
                      go_wp2_with fail
                      go_ret
                      exact ⟨rfl, U25.out⟩
end Go.Proofs.YtcjflnnjieolfaaDoor.Kv
