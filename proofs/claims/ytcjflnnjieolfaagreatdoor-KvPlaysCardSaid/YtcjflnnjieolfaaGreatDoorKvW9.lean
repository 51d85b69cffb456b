/- quoratelaw09.wakes (printed by wk9.py). -/
import Derived.Test.YtcjflnnjieolfaaGreatDoorKvHp
namespace Go.Proofs.YtcjflnnjieolfaaGreatDoor.Kv
set_option linter.unusedSimpArgs false
set_option linter.unusedVariables false
set_option linter.unnecessarySimpa false
open Go.RowKit Go.Lib Go.Proofs.YtcjflnnjieolfaaGreatDoor.Crc Go.Proofs.YtcjflnnjieolfaaGreatDoor.Cm

theorem strs_blk {w : World} {b : Nat} {l : List (List UInt8)} {t : TypeId} {n : Nat} (h : w.heap[b]? = some (.cells (l.map strV).toArray t (0, 0))) (hn : l.length = n) (hm : n ≤ 1000) : Strs w (fun _ => True) (.slice (some ⟨b, 0, none⟩) n n) l := by
  subst hn
  exact ⟨_, _, rfl, srcB_blk (cs := l.map strV) h (by simp) (by simp [strV, Value.oneCell']), Nat.le_refl _, by simp only [maxLen]; omega, fun _ _ _ => trivial⟩
theorem kstep {c : Cm} {m m' : KM} {r : Rp} {T : Nat → Prop} {v : Value} {b g : Nat} (hd : kvDo m c = (m', r)) (w : World) (he : EnvAt w) (h : StIs w b g m) (hm : KvOk m) (hc : CmAt w T v c) (hl : m.length ≤ 900000) :
    Calls Tryz.prog 14 #[.pointer (some ⟨b, 0, none⟩), v] w fun e w' => e = .returned (rpv r) ∧ StIs w' b g m' ∧ Upd [g] w w' := by
  have := do_any w he h hm hc hl
  rw [hd] at this
  exact this
def xk1 : Cm := ⟨1, 0, 1, [[97]], [], [55], 0⟩
def xm1 : KM := [([97], [55])]
theorem xdo1 : kvDo [] xk1 = (xm1, ⟨0, []⟩) := by kernel_rfl
theorem xfit1 : xk1.Fits := fits_small (by decide) (by decide) (by decide) (by decide) (by decide) (by decide) (by decide) (by decide)
theorem xok1 : KvOk xm1 := by
  have := (do_bound (c := xk1) KvOk.nil (by decide)).ok
  rwa [xdo1] at this
theorem xrp1 : rpv ⟨0, []⟩ = .agg #[.int .u8 0, .string ⟨#[]⟩] := rfl
theorem xeq1 (w : World) : (binOp .eql 29 (.agg #[.int .u8 0, .string ⟨#[]⟩]) (.agg #[.int .u8 0, .string ⟨#[]⟩])).run Tryz.prog w = .ok (.bool true) w := eql_rp ⟨0, []⟩ ⟨0, []⟩ w
def xk2 : Cm := ⟨1, 0, 4, [[97]], [], [], -9⟩
def xm2 : KM := [([97], [45, 50])]
theorem xdo2 : kvDo xm1 xk2 = (xm2, ⟨0, [45, 50]⟩) := by kernel_rfl
theorem xfit2 : xk2.Fits := fits_small (by decide) (by decide) (by decide) (by decide) (by decide) (by decide) (by decide) (by decide)
theorem xok2 : KvOk xm2 := by
  have := (do_bound (c := xk2) xok1 (by decide)).ok
  rwa [xdo2] at this
theorem xrp2 : rpv ⟨0, [45, 50]⟩ = .agg #[.int .u8 0, .string ⟨#[45, 50]⟩] := rfl
theorem xeq2 (w : World) : (binOp .eql 29 (.agg #[.int .u8 0, .string ⟨#[45, 50]⟩]) (.agg #[.int .u8 0, .string ⟨#[45, 50]⟩])).run Tryz.prog w = .ok (.bool true) w := eql_rp ⟨0, [45, 50]⟩ ⟨0, [45, 50]⟩ w
def xk3 : Cm := ⟨1, 0, 6, [[97], [98]], [], [], 0⟩
def xm3 : KM := [([98], [45, 50])]
theorem xdo3 : kvDo xm2 xk3 = (xm3, ⟨0, []⟩) := by kernel_rfl
theorem xfit3 : xk3.Fits := fits_small (by decide) (by decide) (by decide) (by decide) (by decide) (by decide) (by decide) (by decide)
theorem xok3 : KvOk xm3 := by
  have := (do_bound (c := xk3) xok2 (by decide)).ok
  rwa [xdo3] at this
theorem xrp3 : rpv ⟨0, []⟩ = .agg #[.int .u8 0, .string ⟨#[]⟩] := rfl
def xk4 : Cm := ⟨1, 0, 2, [[97]], [], [], 0⟩
def xm4 : KM := [([98], [45, 50])]
theorem xdo4 : kvDo xm3 xk4 = (xm4, ⟨1, []⟩) := by kernel_rfl
theorem xfit4 : xk4.Fits := fits_small (by decide) (by decide) (by decide) (by decide) (by decide) (by decide) (by decide) (by decide)
theorem xok4 : KvOk xm4 := by
  have := (do_bound (c := xk4) xok3 (by decide)).ok
  rwa [xdo4] at this
theorem xrp4 : rpv ⟨1, []⟩ = .agg #[.int .u8 1, .string ⟨#[]⟩] := rfl
theorem xeq4 (w : World) : (binOp .eql 29 (.agg #[.int .u8 1, .string ⟨#[]⟩]) (.agg #[.int .u8 1, .string ⟨#[]⟩])).run Tryz.prog w = .ok (.bool true) w := eql_rp ⟨1, []⟩ ⟨1, []⟩ w
def xk5 : Cm := ⟨1, 0, 7, [[97], [98]], [], [], 0⟩
def xm5 : KM := [([98], [45, 50])]
theorem xdo5 : kvDo xm4 xk5 = (xm5, ⟨0, [44, 45, 50, 44]⟩) := by kernel_rfl
theorem xfit5 : xk5.Fits := fits_small (by decide) (by decide) (by decide) (by decide) (by decide) (by decide) (by decide) (by decide)
theorem xok5 : KvOk xm5 := by
  have := (do_bound (c := xk5) xok4 (by decide)).ok
  rwa [xdo5] at this
theorem xrp5 : rpv ⟨0, [44, 45, 50, 44]⟩ = .agg #[.int .u8 0, .string ⟨#[44, 45, 50, 44]⟩] := rfl
theorem xeq5 (w : World) : (binOp .eql 29 (.agg #[.int .u8 0, .string ⟨#[44, 45, 50, 44]⟩]) (.agg #[.int .u8 0, .string ⟨#[44, 45, 50, 44]⟩])).run Tryz.prog w = .ok (.bool true) w := eql_rp ⟨0, [44, 45, 50, 44]⟩ ⟨0, [44, 45, 50, 44]⟩ w
set_option maxRecDepth 100000 in
set_option maxHeartbeats 4000000 in
theorem wakes9_any (w : World) (he : EnvAt w) : Calls Tryz.prog 10 #[] w fun e w' => e = .returned (.bool true) ∧ Upd [] w w' := by
  have ENV := hide he
  clear he
  go_enter Tryz.func10, Tryz.ntmps10
  go_wp2_with fail
  refine (new_any w).mono ?_
  rintro e w0 ⟨rfl, hs0, hu0⟩
  have S0 := hide hs0; have U0 := hide hu0
  have hg0 := MapKind.is_lt hs0.map
  have hz0 := hu0.size
  obtain ⟨G, hG⟩ : ∃ G, w.heap.size = G := ⟨_, rfl⟩
  rw [hG] at S0 hg0 hz0 ⊢
  have KG := hide hG
  clear hs0 hu0 hG
  have hK := blk_new w0 (.cells #[.string ⟨#[97]⟩] 9)
  have hal := (Upd.refl [] w0).alloc (.cells #[.string ⟨#[97]⟩] 9)
  have hzs : (w0.alloc (.cells #[.string ⟨#[97]⟩] 9)).heap.size = w0.heap.size + 1 := by simp
  have HK := hide hK; have HAL := hide hal; have HZS := hide hzs
  clear hK hal hzs
  go_wp2_with fail
  refine (kstep xdo1 (w0.alloc (.cells #[.string ⟨#[97]⟩] 9)) (ENV.out.upd_nil (U0.out.trans HAL.out)) (S0.out.upd_nil HAL.out) KvOk.nil ⟨xfit1, _, rfl, strs_blk (l := [[97]]) HK.out rfl (by decide)⟩ (by decide)).mono ?_
  rintro e v1 ⟨rfl, hs, hu⟩
  have V1 := hide (U0.out.trans_new ((HAL.out.mono (by simp)).trans hu) (fun k hk => .inr (by have := KG.out; simp at hk; omega)))
  have hgv : Upd [G] w0 v1 := (HAL.out.mono (by simp)).trans hu
  have hzv := hgv.size
  rw [xrp1]
  go_upto_region 3 with fail
  have hR := blk_new v1 (.cells #[.int .u8 0, .string ⟨#[]⟩] TRp)
  have hal := (Upd.refl [] v1).alloc (.cells #[.int .u8 0, .string ⟨#[]⟩] TRp)
  change Code.wp _ _ _ _ (v1.alloc (.cells #[.int .u8 0, .string ⟨#[]⟩] TRp))
  generalize v1.alloc (.cells #[.int .u8 0, .string ⟨#[]⟩] TRp) = w1 at *
  have S1 := hide (hs.upd_nil hal); have U1 := hide (V1.out.trans hal)
  have Xa1 := hide hR
  have hzr := hal.size
  obtain ⟨R1, hRR⟩ : ∃ R, v1.heap.size = R := ⟨_, rfl⟩
  rw [hRR] at Xa1 hzr hzv ⊢
  have hRB1 : G < R1 := by omega
  have hz1 : G < w1.heap.size := by omega
  clear hs hu hR hal hgv hzv hzr hRR HK HAL HZS
  go_upto_region 3 with fail
  have hK := blk_new w1 (.cells #[.string ⟨#[97]⟩] 9)
  have hal := (Upd.refl [] w1).alloc (.cells #[.string ⟨#[97]⟩] 9)
  have hzs : (w1.alloc (.cells #[.string ⟨#[97]⟩] 9)).heap.size = w1.heap.size + 1 := by simp
  have HK := hide hK; have HAL := hide hal; have HZS := hide hzs
  clear hK hal hzs
  go_wp2_with fail
  refine (kstep xdo2 (w1.alloc (.cells #[.string ⟨#[97]⟩] 9)) (ENV.out.upd_nil (U1.out.trans HAL.out)) (S1.out.upd_nil HAL.out) xok1 ⟨xfit2, _, rfl, strs_blk (l := [[97]]) HK.out rfl (by decide)⟩ (by decide)).mono ?_
  rintro e v2 ⟨rfl, hs, hu⟩
  have V2 := hide (U1.out.trans_new ((HAL.out.mono (by simp)).trans hu) (fun k hk => .inr (by have := KG.out; simp at hk; omega)))
  have hgv : Upd [G] w1 v2 := (HAL.out.mono (by simp)).trans hu
  have hzv := hgv.size
  rw [xrp2]
  have Xav := hide (hgv.get Xa1.out (by simp; omega))
  go_upto_region 4 with fail
  have hR := blk_new v2 (.cells #[.int .u8 0, .string ⟨#[45, 50]⟩] TRp)
  have hal := (Upd.refl [] v2).alloc (.cells #[.int .u8 0, .string ⟨#[45, 50]⟩] TRp)
  change Code.wp _ _ _ _ (v2.alloc (.cells #[.int .u8 0, .string ⟨#[45, 50]⟩] TRp))
  generalize v2.alloc (.cells #[.int .u8 0, .string ⟨#[45, 50]⟩] TRp) = w2 at *
  have S2 := hide (hs.upd_nil hal); have U2 := hide (V2.out.trans hal)
  have Xa2 := hide (hal.get Xav.out (by simp))
  have Xb2 := hide hR
  have hzr := hal.size
  obtain ⟨R2, hRR⟩ : ∃ R, v2.heap.size = R := ⟨_, rfl⟩
  rw [hRR] at Xb2 hzr hzv ⊢
  have hRB2 : G < R2 := by omega
  have hz2 : G < w2.heap.size := by omega
  clear hs hu hR hal hgv hzv hzr hRR HK HAL HZS Xav
  go_upto_region 4 with fail
  have hK := blk_new w2 (.cells #[.string ⟨#[97]⟩, .string ⟨#[98]⟩] 9)
  have hal := (Upd.refl [] w2).alloc (.cells #[.string ⟨#[97]⟩, .string ⟨#[98]⟩] 9)
  have hzs : (w2.alloc (.cells #[.string ⟨#[97]⟩, .string ⟨#[98]⟩] 9)).heap.size = w2.heap.size + 1 := by simp
  have HK := hide hK; have HAL := hide hal; have HZS := hide hzs
  clear hK hal hzs
  go_wp2_with fail
  refine (kstep xdo3 (w2.alloc (.cells #[.string ⟨#[97]⟩, .string ⟨#[98]⟩] 9)) (ENV.out.upd_nil (U2.out.trans HAL.out)) (S2.out.upd_nil HAL.out) xok2 ⟨xfit3, _, rfl, strs_blk (l := [[97], [98]]) HK.out rfl (by decide)⟩ (by decide)).mono ?_
  rintro e w3 ⟨rfl, hs, hu⟩
  have V3 := hide (U2.out.trans_new ((HAL.out.mono (by simp)).trans hu) (fun k hk => .inr (by have := KG.out; simp at hk; omega)))
  have hgv : Upd [G] w2 w3 := (HAL.out.mono (by simp)).trans hu
  have hzv := hgv.size
  rw [xrp3]
  have Xav := hide (hgv.get Xa2.out (by simp; omega))
  have Xbv := hide (hgv.get Xb2.out (by simp; omega))
  go_upto_region 5 with fail
  have hhv : G < w3.heap.size := by omega
  have S3 := hide hs; have U3 := V3
  have Xa3 := Xav
  have Xb3 := Xbv
  have hz3 := hhv
  clear hs hu hgv hzv HK HAL HZS hhv V3 Xav Xbv
  go_upto_region 5 with fail
  have hK := blk_new w3 (.cells #[.string ⟨#[97]⟩] 9)
  have hal := (Upd.refl [] w3).alloc (.cells #[.string ⟨#[97]⟩] 9)
  have hzs : (w3.alloc (.cells #[.string ⟨#[97]⟩] 9)).heap.size = w3.heap.size + 1 := by simp
  have HK := hide hK; have HAL := hide hal; have HZS := hide hzs
  clear hK hal hzs
  go_wp2_with fail
  refine (kstep xdo4 (w3.alloc (.cells #[.string ⟨#[97]⟩] 9)) (ENV.out.upd_nil (U3.out.trans HAL.out)) (S3.out.upd_nil HAL.out) xok3 ⟨xfit4, _, rfl, strs_blk (l := [[97]]) HK.out rfl (by decide)⟩ (by decide)).mono ?_
  rintro e v4 ⟨rfl, hs, hu⟩
  have V4 := hide (U3.out.trans_new ((HAL.out.mono (by simp)).trans hu) (fun k hk => .inr (by have := KG.out; simp at hk; omega)))
  have hgv : Upd [G] w3 v4 := (HAL.out.mono (by simp)).trans hu
  have hzv := hgv.size
  rw [xrp4]
  have Xav := hide (hgv.get Xa3.out (by simp; omega))
  have Xbv := hide (hgv.get Xb3.out (by simp; omega))
  go_upto_region 6 with fail
  have hR := blk_new v4 (.cells #[.int .u8 1, .string ⟨#[]⟩] TRp)
  have hal := (Upd.refl [] v4).alloc (.cells #[.int .u8 1, .string ⟨#[]⟩] TRp)
  change Code.wp _ _ _ _ (v4.alloc (.cells #[.int .u8 1, .string ⟨#[]⟩] TRp))
  generalize v4.alloc (.cells #[.int .u8 1, .string ⟨#[]⟩] TRp) = w4 at *
  have S4 := hide (hs.upd_nil hal); have U4 := hide (V4.out.trans hal)
  have Xa4 := hide (hal.get Xav.out (by simp))
  have Xb4 := hide (hal.get Xbv.out (by simp))
  have Xd4 := hide hR
  have hzr := hal.size
  obtain ⟨R4, hRR⟩ : ∃ R, v4.heap.size = R := ⟨_, rfl⟩
  rw [hRR] at Xd4 hzr hzv ⊢
  have hRB4 : G < R4 := by omega
  have hz4 : G < w4.heap.size := by omega
  clear hs hu hR hal hgv hzv hzr hRR HK HAL HZS Xav Xbv
  go_upto_region 6 with fail
  have hK := blk_new w4 (.cells #[.string ⟨#[97]⟩, .string ⟨#[98]⟩] 9)
  have hal := (Upd.refl [] w4).alloc (.cells #[.string ⟨#[97]⟩, .string ⟨#[98]⟩] 9)
  have hzs : (w4.alloc (.cells #[.string ⟨#[97]⟩, .string ⟨#[98]⟩] 9)).heap.size = w4.heap.size + 1 := by simp
  have HK := hide hK; have HAL := hide hal; have HZS := hide hzs
  clear hK hal hzs
  go_wp2_with fail
  refine (kstep xdo5 (w4.alloc (.cells #[.string ⟨#[97]⟩, .string ⟨#[98]⟩] 9)) (ENV.out.upd_nil (U4.out.trans HAL.out)) (S4.out.upd_nil HAL.out) xok4 ⟨xfit5, _, rfl, strs_blk (l := [[97], [98]]) HK.out rfl (by decide)⟩ (by decide)).mono ?_
  rintro e v5 ⟨rfl, hs, hu⟩
  have V5 := hide (U4.out.trans_new ((HAL.out.mono (by simp)).trans hu) (fun k hk => .inr (by have := KG.out; simp at hk; omega)))
  have hgv : Upd [G] w4 v5 := (HAL.out.mono (by simp)).trans hu
  have hzv := hgv.size
  rw [xrp5]
  have Xav := hide (hgv.get Xa4.out (by simp; omega))
  have Xbv := hide (hgv.get Xb4.out (by simp; omega))
  have Xdv := hide (hgv.get Xd4.out (by simp; omega))
  go_upto_region 7 with fail
  have hR := blk_new v5 (.cells #[.int .u8 0, .string ⟨#[44, 45, 50, 44]⟩] TRp)
  have hal := (Upd.refl [] v5).alloc (.cells #[.int .u8 0, .string ⟨#[44, 45, 50, 44]⟩] TRp)
  change Code.wp _ _ _ _ (v5.alloc (.cells #[.int .u8 0, .string ⟨#[44, 45, 50, 44]⟩] TRp))
  generalize v5.alloc (.cells #[.int .u8 0, .string ⟨#[44, 45, 50, 44]⟩] TRp) = w5 at *
  have S5 := hide (hs.upd_nil hal); have U5 := hide (V5.out.trans hal)
  have Xa5 := hide (hal.get Xav.out (by simp))
  have Xb5 := hide (hal.get Xbv.out (by simp))
  have Xd5 := hide (hal.get Xdv.out (by simp))
  have Xe5 := hide hR
  have hzr := hal.size
  obtain ⟨R5, hRR⟩ : ∃ R, v5.heap.size = R := ⟨_, rfl⟩
  rw [hRR] at Xe5 hzr hzv ⊢
  have hRB5 : G < R5 := by omega
  have hz5 : G < w5.heap.size := by omega
  clear hs hu hR hal hgv hzv hzr hRR HK HAL HZS Xav Xbv Xdv
  obtain ⟨y0, y1, -, -, -, -⟩ := res_facts Xa5.out
  obtain ⟨y2, y3, -, -, -, -⟩ := res_facts Xb5.out
  obtain ⟨y4, y5, -, -, -, -⟩ := res_facts Xd5.out
  obtain ⟨y6, y7, -, -, -, -⟩ := res_facts Xe5.out
  have q1 := xeq1 w5; have q2 := xeq2 w5; have q4 := xeq4 w5; have q5 := xeq5 w5
  go_wp2_with fail
  refine (slen_any w5 S5.out).mono ?_
  rintro e w6 ⟨rfl, rfl⟩
  rw [show ((xm5.length : Nat) : Int) = 1 from rfl]
  go_wp2_with fail
  go_ret
  exact ⟨rfl, U5.out⟩
end Go.Proofs.YtcjflnnjieolfaaGreatDoor.Kv
