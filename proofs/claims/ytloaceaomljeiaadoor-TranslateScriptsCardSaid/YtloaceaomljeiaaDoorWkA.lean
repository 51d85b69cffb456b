/- wakes of the laws of layer 25: what is known, is told. -/
import Derived.Test.YtloaceaomljeiaaDoorLwP
import Derived.Test.YtloaceaomljeiaaDoorTrL
import Derived.Test.YtloaceaomljeiaaDoorZseq
import Derived.Test.YtloaceaomljeiaaDoorTrX
import Derived.Test.YtloaceaomljeiaaDoorTrS
import Derived.Test.YtloaceaomljeiaaDoorTrA
namespace Go.Proofs.YtloaceaomljeiaaDoor.Tr
open Go.RowKit Go.Lib Go.Proofs.YtloaceaomljeiaaDoor.Crc Go.Proofs.YtloaceaomljeiaaDoor.Cm Go.Proofs.YtloaceaomljeiaaDoor.Var

def pc (c b : Nat) : List Value := [.int .u32 (c : Int), .int .u32 1, .int .u8 1, .slice (some ⟨b, 0, none⟩) 1 1, .string (strOf []), .string (strOf [118]), .int .i64 0]
theorem cm_holds {w : World} {T : Nat → Prop} {b c : Nat} (hc : c < 4294967296) (hs : Strs w T (.slice (some ⟨b, 0, none⟩) 1 1) [[107]]) : cmK.holds w T (putM c) (pc c b) :=
  ⟨putM_fits c hc, _, rfl, hs⟩
theorem puts_ok (l : List Nat) (h : ∀ c ∈ l, c ≠ 0) : ∀ x ∈ l.map putM, Cm.Good x ∧ x.n = 0 := fun x hx => by
  obtain ⟨c, hc, rfl⟩ := List.mem_map.1 hx
  exact ⟨putM_good c (h c hc), rfl⟩
theorem Bts.upd_nil {w w' : World} {T : Nat → Prop} {v : Value} {bs : List UInt8} (h : Bts w T v bs) (hu : Upd [] w w') : Bts w' T v bs := by
  obtain ⟨xo, m, cp, rfl, h1, h2, h3, h4⟩ := h
  exact ⟨xo, m, cp, rfl, src_upd h1 hu (by simp), h2, h3, h4⟩
theorem Bts.mono {w : World} {T U : Nat → Prop} {v : Value} {bs : List UInt8} (h : Bts w T v bs) (hT : ∀ k, T k → U k) : Bts w U v bs := by
  obtain ⟨xo, m, cp, rfl, h1, h2, h3, h4⟩ := h
  exact ⟨xo, m, cp, rfl, h1, h2, h3, fun a ha hm => hT _ (h4 a ha hm)⟩
def toldD (vx vy : Value) : List (List Value) := [[.int .u64 ((2 : Nat) : Int), vy], [.int .u64 ((1 : Nat) : Int), vx], [.int .u64 ((4 : Nat) : Int), vx]]
def toldA : List (List Value) := [anc (anM 3), anc (anM 1), anc (anM 2), anc (anM 9)]
def toldW (w : World) (vx vy : Value) : World := ((w.alloc (.cells (toldD vx vy).flatten.toArray 55)).alloc (.cells toldA.flatten.toArray 62)).alloc (.cells [[.int .i64 0, .int .i64 0, .int .i64 0, .slice (some ⟨w.heap.size + 1, 0, none⟩) 4 4, .slice (some ⟨w.heap.size, 0, none⟩) 3 3]].flatten.toArray 52)
theorem told_row {w : World} {vx vy : Value} (hx : Bts w (fun _ => True) vx xM) (hy : Bts w (fun _ => True) vy yM) : tdK.row (toldW w vx vy) (fun _ => True) (.slice (some ⟨w.heap.size + 1 + 1, 0, none⟩) 1 1) told0 ∧ Upd [] w (toldW w vx vy) := by
  have u1 := (Upd.refl [] w).alloc (.cells (toldD vx vy).flatten.toArray 55)
  have b1 := blk_new w (.cells (toldD vx vy).flatten.toArray 55)
  have u2 := (Upd.refl [] (w.alloc (.cells (toldD vx vy).flatten.toArray 55))).alloc (.cells toldA.flatten.toArray 62)
  have b2 := blk_new (w.alloc (.cells (toldD vx vy).flatten.toArray 55)) (.cells toldA.flatten.toArray 62)
  have r1 := row_blk (K := dnK) (T := fun _ => True) (l := [(2, yM), (1, xM), (4, xM)]) (.cons ⟨by decide, vy, rfl, hy.upd_nil u1⟩ (.cons ⟨by decide, vx, rfl, hx.upd_nil u1⟩ (.cons ⟨by decide, vx, rfl, hx.upd_nil u1⟩ .nil))) b1 trivial (by simp [maxLen])
  have r2 := row_blk (K := anK) (T := fun _ => True) (l := [anM 3, anM 1, anM 2, anM 9]) (.cons ⟨by simp [An.Fits, anM], rfl⟩ (.cons ⟨by simp [An.Fits, anM], rfl⟩ (.cons ⟨by simp [An.Fits, anM], rfl⟩ (.cons ⟨by simp [An.Fits, anM], rfl⟩ .nil)))) b2 trivial (by simp [maxLen])
  unfold toldW
  generalize hw2 : (w.alloc (.cells (toldD vx vy).flatten.toArray 55)).alloc (.cells toldA.flatten.toArray 62) = w2 at *
  have hs2 : w2.heap.size = w.heap.size + 1 + 1 := by rw [← hw2]; simp
  have u3 := (Upd.refl [] w2).alloc (.cells [[.int .i64 0, .int .i64 0, .int .i64 0, .slice (some ⟨w.heap.size + 1, 0, none⟩) 4 4, .slice (some ⟨w.heap.size, 0, none⟩) 3 3]].flatten.toArray 52)
  have b3 := blk_new w2 (.cells [[.int .i64 0, .int .i64 0, .int .i64 0, .slice (some ⟨w.heap.size + 1, 0, none⟩) 4 4, .slice (some ⟨w.heap.size, 0, none⟩) 3 3]].flatten.toArray 52)
  rw [World.size_alloc] at r2
  rw [hs2] at b3
  exact ⟨row_blk (K := tdK) (T := fun _ => True) (l := told0) (.cons ⟨0, 0, 0, _, _, rfl, anK.row_upd_nil r2 u3, dnK.row_upd_nil r1 (u2.trans u3)⟩ .nil) b3 trivial (by simp [maxLen, told0]), u1.trans (u2.trans u3)⟩
def entsC (b1 b2 b3 b4 b5 : Nat) : List (List Value) := [enc (submitE (putM 3)) 0 0 (.slice (some ⟨b1, 0, none⟩) 1 1), enc (submitE Cm.zero) 0 0 (.slice none 0 0), enc ⟨2, 0, 0, putM 9⟩ 0 0 (.slice (some ⟨b2, 0, none⟩) 1 1), enc ⟨1, 2, 0, putM 1⟩ 0 0 (.slice (some ⟨b3, 0, none⟩) 1 1), enc (submitE (putM 4)) 0 0 (.slice (some ⟨b4, 0, none⟩) 1 1), enc (submitE (putM 2)) 0 0 (.slice (some ⟨b5, 0, none⟩) 1 1)]
theorem ents_row {w : World} {b1 b2 b3 b4 b5 : Nat} (h1 : Strs w (fun _ => True) (.slice (some ⟨b1, 0, none⟩) 1 1) [[107]]) (h2 : Strs w (fun _ => True) (.slice (some ⟨b2, 0, none⟩) 1 1) [[107]]) (h3 : Strs w (fun _ => True) (.slice (some ⟨b3, 0, none⟩) 1 1) [[107]]) (h4 : Strs w (fun _ => True) (.slice (some ⟨b4, 0, none⟩) 1 1) [[107]]) (h5 : Strs w (fun _ => True) (.slice (some ⟨b5, 0, none⟩) 1 1) [[107]]) :
    enK.row (w.alloc (.cells (entsC b1 b2 b3 b4 b5).flatten.toArray TEn)) (fun _ => True) (.slice (some ⟨w.heap.size, 0, none⟩) 6 6) ent0 := by
  have hal := (Upd.refl [] w).alloc (.cells (entsC b1 b2 b3 b4 b5).flatten.toArray TEn)
  have f : ∀ c, c < 4294967296 → (putM c).Fits := putM_fits
  exact row_blk (K := enK) (T := fun _ => True) (l := ent0) (.cons ⟨f 3 (by decide), 0, 0, _, rfl, h1.upd_nil hal⟩ (.cons ⟨zero_fits, 0, 0, _, rfl, Strs.nil _ _⟩ (.cons ⟨f 9 (by decide), 0, 0, _, rfl, h2.upd_nil hal⟩ (.cons ⟨f 1 (by decide), 0, 0, _, rfl, h3.upd_nil hal⟩ (.cons ⟨f 4 (by decide), 0, 0, _, rfl, h4.upd_nil hal⟩ (.cons ⟨f 2 (by decide), 0, 0, _, rfl, h5.upd_nil hal⟩ .nil)))))) (blk_new w _) trivial (by simp [maxLen, ent0])
noncomputable def wakesOps : Array Oper := tailOps ((Tryd.f6.body).getD .skip)
set_option maxRecDepth 100000 in
set_option maxHeartbeats 8000000 in
theorem wakes_any (w : World) (hcnt : CntAt w) : Calls Tryd.prog 6 #[] w fun e w' => e = .returned (.bool true) ∧ Upd [] w w' := by
  have HC := hide hcnt
  clear hcnt
  go_enter Tryd.func6, Tryd.ntmps6
  go_wp2_with fail
  refine (lput_any 1 _ rfl w).mono ?_
  rintro e w1 ⟨⟨b1, rfl, hs1⟩, hu1⟩
  have S1 := hide hs1; have U1 := hide hu1
  clear hs1 hu1
  go_wp2_with fail
  refine (lput_any 2 _ rfl w1).mono ?_
  rintro e w2 ⟨⟨b2, rfl, hs2⟩, hu2⟩
  have hz12 := hu2.size
  have S1' := hide (S1.out.upd_nil hu2); have S2 := hide hs2; have U2 := hide (U1.out.trans hu2)
  clear hs2 hu2 S1 U1
  go_wp2_with fail
  have hal := (Upd.refl [] w2).alloc (.cells [pc 1 b1, pc 2 b2].flatten.toArray TCmd)
  have hlt : ∀ k, since w.heap.size w1 k → k < (w2.alloc (.cells [pc 1 b1, pc 2 b2].flatten.toArray TCmd)).heap.size := fun k hk => by have := hk.2; have := hal.size; have := U2.out.size; have := hz12; omega
  have hlt2 : ∀ k, since w1.heap.size w2 k → k < (w2.alloc (.cells [pc 1 b1, pc 2 b2].flatten.toArray TCmd)).heap.size := fun k hk => by have := hk.2; have := hal.size; omega
  have hrow := row_blk (K := cmK) (T := fun k => k < (w2.alloc (.cells [pc 1 b1, pc 2 b2].flatten.toArray TCmd)).heap.size) (.cons (cm_holds (by decide) ((S1'.out.upd_nil hal).mono hlt)) (.cons (cm_holds (by decide) ((S2.out.upd_nil hal).mono hlt2)) .nil)) (blk_new w2 (.cells [pc 1 b1, pc 2 b2].flatten.toArray TCmd)) (by simp) (by simp [maxLen])
  refine (batch_any (l := [putM 1, putM 2]) (w2.alloc (.cells [pc 1 b1, pc 2 b2].flatten.toArray TCmd)) hrow (fun _ h => h) (HC.out.upd_nil (U2.out.trans hal)) (by decide) (puts_ok [1, 2] (by decide))).mono ?_
  rintro e w3 ⟨⟨vx, rfl, hx⟩, hu3⟩
  obtain ⟨xx, xm, xc, rfl, -⟩ := id hx
  have U3 := hide (U2.out.trans (hal.trans hu3)); have BX := hide (hx.mono (U := fun _ => True) (fun _ _ => trivial))
  clear hal hlt hlt2 hrow hx hu3 S1' S2 U2
  go_wp2_with fail
  refine (lput_any 3 _ rfl w3).mono ?_
  rintro e w4 ⟨⟨b4, rfl, hs4⟩, hu4⟩
  have hal := (Upd.refl [] w4).alloc (.cells [pc 3 b4].flatten.toArray TCmd)
  have hlt : ∀ k, since w3.heap.size w4 k → k < (w4.alloc (.cells [pc 3 b4].flatten.toArray TCmd)).heap.size := fun k hk => by have := hk.2; have := hal.size; omega
  have hrow := row_blk (K := cmK) (T := fun k => k < (w4.alloc (.cells [pc 3 b4].flatten.toArray TCmd)).heap.size) (.cons (cm_holds (by decide) ((hs4.upd_nil hal).mono hlt)) .nil) (blk_new w4 (.cells [pc 3 b4].flatten.toArray TCmd)) (by simp) (by simp [maxLen])
  have HROW := hide hrow; have HAL := hide hal; have U4 := hide (U3.out.trans hu4); have U34 := hide (hu4.trans hal)
  clear hlt hrow hal hs4 hu4
  go_wp2_with fail
  refine (batch_any (l := [putM 3]) (w4.alloc (.cells [pc 3 b4].flatten.toArray TCmd)) HROW.out (fun _ h => h) (HC.out.upd_nil (U4.out.trans HAL.out)) (by decide) (puts_ok [3] (by decide))).mono ?_
  rintro e w5 ⟨⟨vy, rfl, hy⟩, hu5⟩
  obtain ⟨yx, ym, yc, rfl, -⟩ := id hy
  have U5 := hide (U4.out.trans (HAL.out.trans hu5)); have BY := hide (hy.mono (U := fun _ => True) (fun _ _ => trivial)); have BX5 := hide (BX.out.upd_nil (U34.out.trans hu5))
  clear hy hu5 HROW HAL U3 U4 U34 BX
  go_wp2_with fail
  obtain ⟨hrow, hut⟩ := told_row BX5.out BY.out
  refine (log_any (told := told0) (toldW w5 (.slice xx xm xc) (.slice yx ym yc)) (HC.out.upd_nil (U5.out.trans hut)) hrow told0_small (by rw [all0]; decide)).mono ?_
  rintro e w6 ⟨⟨vl, out, rfl, hlog, hrl⟩, hu6⟩
  obtain rfl := log0_is hlog
  obtain ⟨xl, cl, hvl, -, -⟩ := Row.slice hrl
  change vl = .slice xl 2 cl at hvl
  subst hvl
  have U6 := hide (U5.out.trans (hut.trans hu6)); have RL := hide (slK.row_mono hrl (U := fun _ => True) (fun _ _ => trivial))
  clear hrow hut hlog hrl hu6 U5 BX5 BY
  go_wp2_with fail
  refine (lput_any 3 _ rfl w6).mono ?_
  rintro e w7 ⟨⟨c1, rfl, hs7⟩, hu7⟩
  have S7 := hide (hs7.mono (U := fun _ => True) (fun _ _ => trivial)); have V7 := hide hu7
  clear hs7 hu7
  go_wp2_with fail
  refine (lput_any 9 _ rfl w7).mono ?_
  rintro e w8 ⟨⟨c2, rfl, hs8⟩, hu8⟩
  have S8 := hide (hs8.mono (U := fun _ => True) (fun _ _ => trivial)); have S7' := hide (S7.out.upd_nil hu8); have V8 := hide (V7.out.trans hu8)
  clear hs8 hu8 S7 V7
  go_wp2_with fail
  refine (lput_any 1 _ rfl w8).mono ?_
  rintro e w9 ⟨⟨c3, rfl, hs9⟩, hu9⟩
  have S9 := hide (hs9.mono (U := fun _ => True) (fun _ _ => trivial)); have S7 := hide (S7'.out.upd_nil hu9); have S8' := hide (S8.out.upd_nil hu9); have V9 := hide (V8.out.trans hu9)
  clear hs9 hu9 S7' V8 S8
  go_wp2_with fail
  refine (lput_any 4 _ rfl w9).mono ?_
  rintro e w10 ⟨⟨c4, rfl, hs10⟩, hu10⟩
  have S10 := hide (hs10.mono (U := fun _ => True) (fun _ _ => trivial)); have S7' := hide (S7.out.upd_nil hu10); have S8 := hide (S8'.out.upd_nil hu10); have S9' := hide (S9.out.upd_nil hu10); have V10 := hide (V9.out.trans hu10)
  clear hs10 hu10 S7 V9 S8' S9
  go_wp2_with fail
  refine (lput_any 2 _ rfl w10).mono ?_
  rintro e w11 ⟨⟨c5, rfl, hs11⟩, hu11⟩
  have hal := (Upd.refl [] w11).alloc (.cells (entsC c1 c2 c3 c4 c5).flatten.toArray TEn)
  have hrow := ents_row (w := w11) ((S7'.out.upd_nil hu11)) (S8.out.upd_nil hu11) (S9'.out.upd_nil hu11) (S10.out.upd_nil hu11) (hs11.mono (U := fun _ => True) (fun _ _ => trivial))
  have HROW := hide hrow; have V12 := hide ((V10.out.trans hu11).trans hal)
  clear hrow hal hu11 hs11 S7' S8 S9' S10 V10
  go_wp2_with fail
  have U12 := hide (U6.out.trans V12.out); have RL12 := hide (slK.row_upd_nil RL.out V12.out)
  clear U6 V12 RL
  refine (script_any (n := 3) (l := ent0) (log := log0) (w11.alloc (.cells (entsC c1 c2 c3 c4 c5).flatten.toArray TEn)) (by decide) (by decide) (HC.out.upd_nil U12.out) HROW.out RL12.out (by decide) (by decide) (by simp [ent0, submitE, putM, Cm.zero]) (by simp [log0, putM])).mono ?_
  rintro e w13 ⟨⟨vs, rfl, hs⟩, hu13⟩
  rw [script0_is] at hs
  obtain ⟨xs, cs, hvs, -, -⟩ := Row.slice hs
  change vs = .slice xs 37 cs at hvs
  subst hvs
  have U13 := hide (U12.out.trans hu13); have RL13 := hide (slK.row_upd_nil RL12.out hu13); have RS := hide (enK.row_mono hs (U := fun _ => True) (fun _ _ => trivial))
  clear hs hu13 U12 RL12 HROW
  go_wp2_with fail
  refine (answers_any (l := log0) w13 RL13.out (by decide)).mono ?_
  rintro e w14 ⟨⟨va, rfl, ha⟩, hu14⟩
  obtain ⟨xa, ca, hva, -, -⟩ := Row.slice ha
  change va = .slice xa 3 ca at hva
  subst hva
  have U14 := hide (U13.out.trans hu14); have RL14 := hide (slK.row_upd_nil RL13.out hu14); have RS14 := hide (enK.row_upd_nil RS.out hu14); have RA := hide (anK.row_mono ha (U := fun _ => True) (fun _ _ => trivial))
  clear ha hu14 U13 RL13 RS
  go_wp2_with fail
  obtain ⟨xo, cp, e1, -, -, hg⟩ := Row.get slK.hz RL14.out
  cases e1
  obtain ⟨bl, ol, cs0, rfl, hbl, -, h0, -, hc0⟩ := hg 0 _ rfl
  obtain ⟨bl', ol', cs1, e2, -, -, h1, -, hc1⟩ := hg 1 _ rfl
  cases e2
  obtain ⟨-, vc0, va0, rfl, hr0, -⟩ := h0
  obtain ⟨-, vc1, va1, rfl, hr1, -⟩ := h1
  obtain ⟨x0, k0, e3, -, -⟩ := Row.slice hr0
  change vc0 = .slice x0 2 k0 at e3
  subst e3
  obtain ⟨x1, k1, e4, -, -, hg1⟩ := cm_get hr1
  change vc1 = .slice x1 1 k1 at e4
  subst e4
  obtain ⟨bc, oc, ka, kc, rfl, hbc, -, -, hkc, c7⟩ := hg1 0 _ rfl
  obtain ⟨xo, cp, e5, -, -, hga⟩ := an_get RA.out
  cases e5
  obtain ⟨ba, oa, rfl, hba, -, ha0, -⟩ := hga 0 _ rfl
  obtain ⟨ba', oa', e6, -, -, ha2, -⟩ := hga 2 _ rfl
  cases e6
  obtain ⟨xo, cp, e7, -, -, hgs⟩ := en_get RS14.out
  cases e7
  obtain ⟨be, oe, t1, p1, ke, kf, rfl, hbe, -, hke, he1⟩ := hgs 1 _ rfl
  obtain ⟨be', oe', t2, p2, _, _, e8, -, -, -, he4⟩ := hgs 4 _ rfl
  cases e8
  obtain ⟨be', oe', t2, p2, _, _, e8, -, -, -, he15⟩ := hgs 15 _ rfl
  cases e8
  obtain ⟨be', oe', t2, p2, _, _, e8, -, -, -, he26⟩ := hgs 26 _ rfl
  cases e8
  obtain ⟨be', oe', t2, p2, _, _, e8, -, -, -, he5⟩ := hgs 5 _ rfl
  cases e8
  have g0 : w14.cell? ⟨bl, ol + 1, none⟩ = some (.slice x0 2 k0) := hc0 1 _ rfl
  have g1 : w14.cell? ⟨bl, ol + 3 + 1, none⟩ = some (.slice (some ⟨bc, oc, none⟩) 1 k1) := hc1 1 _ rfl
  have G0 := hide g0; have G1 := hide g1; have C7 : Hid (Cells7 w14 bc oc (putM 3) ka kc) := hide c7; have KC := hide hkc
  have A0 : Hid (w14.cell? ⟨ba, oa, none⟩ = some (.int .u32 1)) := hide ha0
  have A2 : Hid (w14.cell? ⟨ba, oa + 8, none⟩ = some (.int .u32 3)) := hide ha2
  have E1 : Hid (w14.cell? ⟨be, oe + 12, none⟩ = some (.int .u8 1)) := hide (he1 0 _ rfl)
  have E1c : Hid (Cells7 w14 be (oe + 12 + 5) (putM 1) ke kf) := hide ⟨he1 5 _ rfl, he1 6 _ rfl, he1 7 _ rfl, he1 8 _ rfl, he1 9 _ rfl, he1 10 _ rfl, he1 11 _ rfl⟩
  have E4 : Hid (w14.cell? ⟨be, oe + 48, none⟩ = some (.int .u8 3) ∧ w14.cell? ⟨be, oe + 48 + 2, none⟩ = some (.int .i64 1)) := hide ⟨he4 0 _ rfl, he4 2 _ rfl⟩
  have E15 : Hid (w14.cell? ⟨be, oe + 180 + 2, none⟩ = some (.int .i64 2)) := hide (he15 2 _ rfl)
  have E26 : Hid (w14.cell? ⟨be, oe + 312 + 2, none⟩ = some (.int .i64 0)) := hide (he26 2 _ rfl)
  have E5 : Hid (w14.cell? ⟨be, oe + 60, none⟩ = some (.int .u8 4)) := hide (he5 0 _ rfl)
  have KE := hide hke
  clear hc0 hc1 g0 g1 c7 hkc ha0 ha2 he1 he4 he15 he26 he5 hke hga hgs hg hg1 hr0 hr1 RA RS14
  have H := hide ((Upd.refl [] w14).drewN 1)
  refine wp_region_seq wakesOps (by kernel_rfl) [18, 19, 57, 58, 97, 103] (Upd [] w14) (by kernel_rfl) (by kernel_rfl) (fun _ _ d _ _ h => by cases d <;> exact h) H.out ?_
  refine wpSeq_take (by kernel_rfl) (by kernel_rfl) ?_
  apply Exists.intro
  refine ⟨fun wx hS => ?_, fun a' ha => ?_⟩
  · go_simp; rfl
  simp only [Act.put, List.setIfInBounds_toArray, List.set_cons_succ, List.set_cons_zero] at ha
  subst ha
  refine wpSeq_take (by kernel_rfl) (by kernel_rfl) ?_
  apply Exists.intro
  refine ⟨fun wx hS => ?_, fun a' ha => ?_⟩
  · go_simp; rfl
  simp only [Act.put, List.setIfInBounds_toArray, List.set_cons_succ, List.set_cons_zero] at ha
  subst ha
  refine wpSeq_take (by kernel_rfl) (by kernel_rfl) ?_
  apply Exists.intro
  refine ⟨fun wx hS => ?_, fun a' ha => ?_⟩
  · go_simp; rfl
  simp only [Act.put, List.setIfInBounds_toArray, List.set_cons_succ, List.set_cons_zero] at ha
  subst ha
  refine wpSeq_take (by kernel_rfl) (by kernel_rfl) ?_
  apply Exists.intro
  refine ⟨fun wx hS => ?_, fun a' ha => ?_⟩
  · go_simp; rfl
  simp only [Act.put, List.setIfInBounds_toArray, List.set_cons_succ, List.set_cons_zero] at ha
  subst ha
  refine wpSeq_take (by kernel_rfl) (by kernel_rfl) ?_
  apply Exists.intro
  refine ⟨fun wx hS => ?_, fun a' ha => ?_⟩
  · go_simp; rfl
  simp only [Act.put, List.setIfInBounds_toArray, List.set_cons_succ, List.set_cons_zero] at ha
  subst ha
  refine wpSeq_take (by kernel_rfl) (by kernel_rfl) ?_
  apply Exists.intro
  refine ⟨fun wx hS => ?_, fun a' ha => ?_⟩
  · go_simp; rfl
  simp only [Act.put, List.setIfInBounds_toArray, List.set_cons_succ, List.set_cons_zero] at ha
  subst ha
  refine wpSeq_take (by kernel_rfl) (by kernel_rfl) ?_
  apply Exists.intro
  refine ⟨fun wx hS => ?_, fun a' ha => ?_⟩
  · go_simp; rfl
  simp only [Act.put, List.setIfInBounds_toArray, List.set_cons_succ, List.set_cons_zero] at ha
  subst ha
  refine wpSeq_take (by kernel_rfl) (by kernel_rfl) ?_
  apply Exists.intro
  refine ⟨fun wx hS => ?_, fun a' ha => ?_⟩
  · have c := cell_upd G0.out hS (by simp); go_simp; rfl
  simp only [Act.put, List.setIfInBounds_toArray, List.set_cons_succ, List.set_cons_zero] at ha
  subst ha
  refine wpSeq_take (by kernel_rfl) (by kernel_rfl) ?_
  apply Exists.intro
  refine ⟨fun wx hS => ?_, fun a' ha => ?_⟩
  · go_simp; rfl
  simp only [Act.put, List.setIfInBounds_toArray, List.set_cons_succ, List.set_cons_zero] at ha
  subst ha
  refine wpSeq_take (by kernel_rfl) (by kernel_rfl) ?_
  apply Exists.intro
  refine ⟨fun wx hS => ?_, fun a' ha => ?_⟩
  · go_simp; rfl
  simp only [Act.put, List.setIfInBounds_toArray, List.set_cons_succ, List.set_cons_zero] at ha
  subst ha
  refine wpSeq_take (by kernel_rfl) (by kernel_rfl) ?_
  apply Exists.intro
  refine ⟨fun wx hS => ?_, fun a' ha => ?_⟩
  · go_simp; rfl
  simp only [Act.put, List.setIfInBounds_toArray, List.set_cons_succ, List.set_cons_zero] at ha
  subst ha
  refine wpSeq_take (by kernel_rfl) (by kernel_rfl) ?_
  apply Exists.intro
  refine ⟨fun wx hS => ?_, fun a' ha => ?_⟩
  · go_simp; rfl
  simp only [Act.put, List.setIfInBounds_toArray, List.set_cons_succ, List.set_cons_zero] at ha
  subst ha
  refine wpSeq_take (by kernel_rfl) (by kernel_rfl) ?_
  apply Exists.intro
  refine ⟨fun wx hS => ?_, fun a' ha => ?_⟩
  · go_simp; rfl
  simp only [Act.put, List.setIfInBounds_toArray, List.set_cons_succ, List.set_cons_zero] at ha
  subst ha
  refine wpSeq_take (by kernel_rfl) (by kernel_rfl) ?_
  apply Exists.intro
  refine ⟨fun wx hS => ?_, fun a' ha => ?_⟩
  · go_simp; rfl
  simp only [Act.put, List.setIfInBounds_toArray, List.set_cons_succ, List.set_cons_zero] at ha
  subst ha
  refine wpSeq_take (by kernel_rfl) (by kernel_rfl) ?_
  apply Exists.intro
  refine ⟨fun wx hS => ?_, fun a' ha => ?_⟩
  · go_simp; rfl
  simp only [Act.put, List.setIfInBounds_toArray, List.set_cons_succ, List.set_cons_zero] at ha
  subst ha
  refine wpSeq_take (by kernel_rfl) (by kernel_rfl) ?_
  apply Exists.intro
  refine ⟨fun wx hS => ?_, fun a' ha => ?_⟩
  · have c := cell_upd G1.out hS (by simp); go_simp; rfl
  simp only [Act.put, List.setIfInBounds_toArray, List.set_cons_succ, List.set_cons_zero] at ha
  subst ha
  refine wpSeq_take (by kernel_rfl) (by kernel_rfl) ?_
  apply Exists.intro
  refine ⟨fun wx hS => ?_, fun a' ha => ?_⟩
  · go_simp; rfl
  simp only [Act.put, List.setIfInBounds_toArray, List.set_cons_succ, List.set_cons_zero] at ha
  subst ha
  refine wpSeq_take (by kernel_rfl) (by kernel_rfl) ?_
  apply Exists.intro
  refine ⟨fun wx hS => ?_, fun a' ha => ?_⟩
  · obtain ⟨r0, r1, r2, r3, r4, r5, r6⟩ := C7.out.upd hS hbc (by simp); go_simp; rfl
  simp only [Act.put, List.setIfInBounds_toArray, List.set_cons_succ, List.set_cons_zero] at ha
  subst ha
  as_aux_lemma =>
  refine wpSeq_one (by kernel_rfl) (by kernel_rfl) (fun K hK => ?_)
  go_simp
  refine (lput_any 3 _ rfl _).mono ?_
  rintro e w15 ⟨⟨d1, rfl, hd1⟩, hd⟩
  have D1 := hide hd1; have H15 := hide (H.out.trans hd)
  clear hd1 hd
  refine hK _ _ (H15.out) ?_
  clear hK K
  try simp only [Act.put, List.setIfInBounds_toArray, List.set_cons_succ, List.set_cons_zero]
  refine wpSeq_one (by kernel_rfl) (by kernel_rfl) (fun K hK => ?_)
  go_simp
  refine (rsame_any (a := putM 3) (b := putM 3) w15 ⟨putM_fits 3 (by decide), _, rfl, KC.out.upd_nil H15.out⟩ ⟨putM_fits 3 (by decide), _, rfl, D1.out⟩).mono ?_
  rintro e w16 ⟨rfl, hd⟩
  rw [decide_eq_true rfl]
  have H16 := hide (H15.out.trans hd)
  clear hd
  refine hK _ _ (H16.out) ?_
  clear hK K
  try simp only [Act.put, List.setIfInBounds_toArray, List.set_cons_succ, List.set_cons_zero]
  refine wpSeq_take (by kernel_rfl) (by kernel_rfl) ?_
  apply Exists.intro
  refine ⟨fun wx hS => ?_, fun a' ha => ?_⟩
  · go_simp; rfl
  simp only [Act.put, List.setIfInBounds_toArray, List.set_cons_succ, List.set_cons_zero] at ha
  subst ha
  refine wpSeq_take (by kernel_rfl) (by kernel_rfl) ?_
  apply Exists.intro
  refine ⟨fun wx hS => ?_, fun a' ha => ?_⟩
  · go_simp; rfl
  simp only [Act.put, List.setIfInBounds_toArray, List.set_cons_succ, List.set_cons_zero] at ha
  subst ha
  refine wpSeq_take (by kernel_rfl) (by kernel_rfl) ?_
  apply Exists.intro
  refine ⟨fun wx hS => ?_, fun a' ha => ?_⟩
  · go_simp; rfl
  simp only [Act.put, List.setIfInBounds_toArray, List.set_cons_succ, List.set_cons_zero] at ha
  subst ha
  refine wpSeq_take (by kernel_rfl) (by kernel_rfl) ?_
  apply Exists.intro
  refine ⟨fun wx hS => ?_, fun a' ha => ?_⟩
  · go_simp; rfl
  simp only [Act.put, List.setIfInBounds_toArray, List.set_cons_succ, List.set_cons_zero] at ha
  subst ha
  refine wpSeq_take (by kernel_rfl) (by kernel_rfl) ?_
  apply Exists.intro
  refine ⟨fun wx hS => ?_, fun a' ha => ?_⟩
  · go_simp; rfl
  simp only [Act.put, List.setIfInBounds_toArray, List.set_cons_succ, List.set_cons_zero] at ha
  subst ha
  refine wpSeq_take (by kernel_rfl) (by kernel_rfl) ?_
  apply Exists.intro
  refine ⟨fun wx hS => ?_, fun a' ha => ?_⟩
  · go_simp; rfl
  simp only [Act.put, List.setIfInBounds_toArray, List.set_cons_succ, List.set_cons_zero] at ha
  subst ha
  refine wpSeq_take (by kernel_rfl) (by kernel_rfl) ?_
  apply Exists.intro
  refine ⟨fun wx hS => ?_, fun a' ha => ?_⟩
  · go_simp; rfl
  simp only [Act.put, List.setIfInBounds_toArray, List.set_cons_succ, List.set_cons_zero] at ha
  subst ha
  refine wpSeq_take (by kernel_rfl) (by kernel_rfl) ?_
  apply Exists.intro
  refine ⟨fun wx hS => ?_, fun a' ha => ?_⟩
  · go_simp; rfl
  simp only [Act.put, List.setIfInBounds_toArray, List.set_cons_succ, List.set_cons_zero] at ha
  subst ha
  refine wpSeq_take (by kernel_rfl) (by kernel_rfl) ?_
  apply Exists.intro
  refine ⟨fun wx hS => ?_, fun a' ha => ?_⟩
  · go_simp; rfl
  simp only [Act.put, List.setIfInBounds_toArray, List.set_cons_succ, List.set_cons_zero] at ha
  subst ha
  refine wpSeq_take (by kernel_rfl) (by kernel_rfl) ?_
  apply Exists.intro
  refine ⟨fun wx hS => ?_, fun a' ha => ?_⟩
  · go_simp; rfl
  simp only [Act.put, List.setIfInBounds_toArray, List.set_cons_succ, List.set_cons_zero] at ha
  subst ha
  refine wpSeq_take (by kernel_rfl) (by kernel_rfl) ?_
  apply Exists.intro
  refine ⟨fun wx hS => ?_, fun a' ha => ?_⟩
  · have c := cell_upd A0.out hS (by simp); go_simp; rfl
  simp only [Act.put, List.setIfInBounds_toArray, List.set_cons_succ, List.set_cons_zero] at ha
  subst ha
  refine wpSeq_take (by kernel_rfl) (by kernel_rfl) ?_
  apply Exists.intro
  refine ⟨fun wx hS => ?_, fun a' ha => ?_⟩
  · go_simp; rfl
  simp only [Act.put, List.setIfInBounds_toArray, List.set_cons_succ, List.set_cons_zero] at ha
  subst ha
  refine wpSeq_take (by kernel_rfl) (by kernel_rfl) ?_
  apply Exists.intro
  refine ⟨fun wx hS => ?_, fun a' ha => ?_⟩
  · go_simp; rfl
  simp only [Act.put, List.setIfInBounds_toArray, List.set_cons_succ, List.set_cons_zero] at ha
  subst ha
  refine wpSeq_take (by kernel_rfl) (by kernel_rfl) ?_
  apply Exists.intro
  refine ⟨fun wx hS => ?_, fun a' ha => ?_⟩
  · go_simp; rfl
  simp only [Act.put, List.setIfInBounds_toArray, List.set_cons_succ, List.set_cons_zero] at ha
  subst ha
  refine wpSeq_take (by kernel_rfl) (by kernel_rfl) ?_
  apply Exists.intro
  refine ⟨fun wx hS => ?_, fun a' ha => ?_⟩
  · go_simp; rfl
  simp only [Act.put, List.setIfInBounds_toArray, List.set_cons_succ, List.set_cons_zero] at ha
  subst ha
  refine wpSeq_take (by kernel_rfl) (by kernel_rfl) ?_
  apply Exists.intro
  refine ⟨fun wx hS => ?_, fun a' ha => ?_⟩
  · go_simp; rfl
  simp only [Act.put, List.setIfInBounds_toArray, List.set_cons_succ, List.set_cons_zero] at ha
  subst ha
  refine wpSeq_take (by kernel_rfl) (by kernel_rfl) ?_
  apply Exists.intro
  refine ⟨fun wx hS => ?_, fun a' ha => ?_⟩
  · go_simp; rfl
  simp only [Act.put, List.setIfInBounds_toArray, List.set_cons_succ, List.set_cons_zero] at ha
  subst ha
  refine wpSeq_take (by kernel_rfl) (by kernel_rfl) ?_
  apply Exists.intro
  refine ⟨fun wx hS => ?_, fun a' ha => ?_⟩
  · have c := cell_upd A2.out hS (by simp); go_simp; rfl
  simp only [Act.put, List.setIfInBounds_toArray, List.set_cons_succ, List.set_cons_zero] at ha
  subst ha
  refine wpSeq_take (by kernel_rfl) (by kernel_rfl) ?_
  apply Exists.intro
  refine ⟨fun wx hS => ?_, fun a' ha => ?_⟩
  · go_simp; rfl
  simp only [Act.put, List.setIfInBounds_toArray, List.set_cons_succ, List.set_cons_zero] at ha
  subst ha
  refine wpSeq_take (by kernel_rfl) (by kernel_rfl) ?_
  apply Exists.intro
  refine ⟨fun wx hS => ?_, fun a' ha => ?_⟩
  · go_simp; rfl
  simp only [Act.put, List.setIfInBounds_toArray, List.set_cons_succ, List.set_cons_zero] at ha
  subst ha
  refine wpSeq_take (by kernel_rfl) (by kernel_rfl) ?_
  apply Exists.intro
  refine ⟨fun wx hS => ?_, fun a' ha => ?_⟩
  · go_simp; rfl
  simp only [Act.put, List.setIfInBounds_toArray, List.set_cons_succ, List.set_cons_zero] at ha
  subst ha
  refine wpSeq_take (by kernel_rfl) (by kernel_rfl) ?_
  apply Exists.intro
  refine ⟨fun wx hS => ?_, fun a' ha => ?_⟩
  · go_simp; rfl
  simp only [Act.put, List.setIfInBounds_toArray, List.set_cons_succ, List.set_cons_zero] at ha
  subst ha
  refine wpSeq_take (by kernel_rfl) (by kernel_rfl) ?_
  apply Exists.intro
  refine ⟨fun wx hS => ?_, fun a' ha => ?_⟩
  · go_simp; rfl
  simp only [Act.put, List.setIfInBounds_toArray, List.set_cons_succ, List.set_cons_zero] at ha
  subst ha
  refine wpSeq_take (by kernel_rfl) (by kernel_rfl) ?_
  apply Exists.intro
  refine ⟨fun wx hS => ?_, fun a' ha => ?_⟩
  · go_simp; rfl
  simp only [Act.put, List.setIfInBounds_toArray, List.set_cons_succ, List.set_cons_zero] at ha
  subst ha
  refine wpSeq_take (by kernel_rfl) (by kernel_rfl) ?_
  apply Exists.intro
  refine ⟨fun wx hS => ?_, fun a' ha => ?_⟩
  · go_simp; rfl
  simp only [Act.put, List.setIfInBounds_toArray, List.set_cons_succ, List.set_cons_zero] at ha
  subst ha
  refine wpSeq_take (by kernel_rfl) (by kernel_rfl) ?_
  apply Exists.intro
  refine ⟨fun wx hS => ?_, fun a' ha => ?_⟩
  · go_simp; rfl
  simp only [Act.put, List.setIfInBounds_toArray, List.set_cons_succ, List.set_cons_zero] at ha
  subst ha
  refine wpSeq_take (by kernel_rfl) (by kernel_rfl) ?_
  apply Exists.intro
  refine ⟨fun wx hS => ?_, fun a' ha => ?_⟩
  · go_simp; rfl
  simp only [Act.put, List.setIfInBounds_toArray, List.set_cons_succ, List.set_cons_zero] at ha
  subst ha
  refine wpSeq_take (by kernel_rfl) (by kernel_rfl) ?_
  apply Exists.intro
  refine ⟨fun wx hS => ?_, fun a' ha => ?_⟩
  · go_simp; rfl
  simp only [Act.put, List.setIfInBounds_toArray, List.set_cons_succ, List.set_cons_zero] at ha
  subst ha
  refine wpSeq_take (by kernel_rfl) (by kernel_rfl) ?_
  apply Exists.intro
  refine ⟨fun wx hS => ?_, fun a' ha => ?_⟩
  · go_simp; rfl
  simp only [Act.put, List.setIfInBounds_toArray, List.set_cons_succ, List.set_cons_zero] at ha
  subst ha
  refine wpSeq_take (by kernel_rfl) (by kernel_rfl) ?_
  apply Exists.intro
  refine ⟨fun wx hS => ?_, fun a' ha => ?_⟩
  · have c := cell_upd E1.out hS (by simp); go_simp; rfl
  simp only [Act.put, List.setIfInBounds_toArray, List.set_cons_succ, List.set_cons_zero] at ha
  subst ha
  refine wpSeq_take (by kernel_rfl) (by kernel_rfl) ?_
  apply Exists.intro
  refine ⟨fun wx hS => ?_, fun a' ha => ?_⟩
  · go_simp; rfl
  simp only [Act.put, List.setIfInBounds_toArray, List.set_cons_succ, List.set_cons_zero] at ha
  subst ha
  refine wpSeq_take (by kernel_rfl) (by kernel_rfl) ?_
  apply Exists.intro
  refine ⟨fun wx hS => ?_, fun a' ha => ?_⟩
  · go_simp; rfl
  simp only [Act.put, List.setIfInBounds_toArray, List.set_cons_succ, List.set_cons_zero] at ha
  subst ha
  refine wpSeq_take (by kernel_rfl) (by kernel_rfl) ?_
  apply Exists.intro
  refine ⟨fun wx hS => ?_, fun a' ha => ?_⟩
  · go_simp; rfl
  simp only [Act.put, List.setIfInBounds_toArray, List.set_cons_succ, List.set_cons_zero] at ha
  subst ha
  refine wpSeq_take (by kernel_rfl) (by kernel_rfl) ?_
  apply Exists.intro
  refine ⟨fun wx hS => ?_, fun a' ha => ?_⟩
  · go_simp; rfl
  simp only [Act.put, List.setIfInBounds_toArray, List.set_cons_succ, List.set_cons_zero] at ha
  subst ha
  refine wpSeq_take (by kernel_rfl) (by kernel_rfl) ?_
  apply Exists.intro
  refine ⟨fun wx hS => ?_, fun a' ha => ?_⟩
  · go_simp; rfl
  simp only [Act.put, List.setIfInBounds_toArray, List.set_cons_succ, List.set_cons_zero] at ha
  subst ha
  refine wpSeq_take (by kernel_rfl) (by kernel_rfl) ?_
  apply Exists.intro
  refine ⟨fun wx hS => ?_, fun a' ha => ?_⟩
  · go_simp; rfl
  simp only [Act.put, List.setIfInBounds_toArray, List.set_cons_succ, List.set_cons_zero] at ha
  subst ha
  refine wpSeq_take (by kernel_rfl) (by kernel_rfl) ?_
  apply Exists.intro
  refine ⟨fun wx hS => ?_, fun a' ha => ?_⟩
  · obtain ⟨r0, r1, r2, r3, r4, r5, r6⟩ := E1c.out.upd hS hbe (by simp); go_simp; rfl
  simp only [Act.put, List.setIfInBounds_toArray, List.set_cons_succ, List.set_cons_zero] at ha
  subst ha
  as_aux_lemma =>
  refine wpSeq_one (by kernel_rfl) (by kernel_rfl) (fun K hK => ?_)
  go_simp
  refine (lput_any 1 _ rfl _).mono ?_
  rintro e w17 ⟨⟨d2, rfl, hd1⟩, hd⟩
  have D2 := hide hd1; have H17 := hide (H16.out.trans hd)
  clear hd1 hd
  refine hK _ _ (H17.out) ?_
  clear hK K
  try simp only [Act.put, List.setIfInBounds_toArray, List.set_cons_succ, List.set_cons_zero]
  refine wpSeq_one (by kernel_rfl) (by kernel_rfl) (fun K hK => ?_)
  go_simp
  refine (rsame_any (a := putM 1) (b := putM 1) w17 ⟨putM_fits 1 (by decide), _, rfl, KE.out.upd_nil H17.out⟩ ⟨putM_fits 1 (by decide), _, rfl, D2.out⟩).mono ?_
  rintro e w18 ⟨rfl, hd⟩
  rw [decide_eq_true rfl]
  have H18 := hide (H17.out.trans hd)
  clear hd
  refine hK _ _ (H18.out) ?_
  clear hK K
  try simp only [Act.put, List.setIfInBounds_toArray, List.set_cons_succ, List.set_cons_zero]
  refine wpSeq_take (by kernel_rfl) (by kernel_rfl) ?_
  apply Exists.intro
  refine ⟨fun wx hS => ?_, fun a' ha => ?_⟩
  · go_simp; rfl
  simp only [Act.put, List.setIfInBounds_toArray, List.set_cons_succ, List.set_cons_zero] at ha
  subst ha
  refine wpSeq_take (by kernel_rfl) (by kernel_rfl) ?_
  apply Exists.intro
  refine ⟨fun wx hS => ?_, fun a' ha => ?_⟩
  · go_simp; rfl
  simp only [Act.put, List.setIfInBounds_toArray, List.set_cons_succ, List.set_cons_zero] at ha
  subst ha
  refine wpSeq_take (by kernel_rfl) (by kernel_rfl) ?_
  apply Exists.intro
  refine ⟨fun wx hS => ?_, fun a' ha => ?_⟩
  · go_simp; rfl
  simp only [Act.put, List.setIfInBounds_toArray, List.set_cons_succ, List.set_cons_zero] at ha
  subst ha
  refine wpSeq_take (by kernel_rfl) (by kernel_rfl) ?_
  apply Exists.intro
  refine ⟨fun wx hS => ?_, fun a' ha => ?_⟩
  · go_simp; rfl
  simp only [Act.put, List.setIfInBounds_toArray, List.set_cons_succ, List.set_cons_zero] at ha
  subst ha
  refine wpSeq_take (by kernel_rfl) (by kernel_rfl) ?_
  apply Exists.intro
  refine ⟨fun wx hS => ?_, fun a' ha => ?_⟩
  · go_simp; rfl
  simp only [Act.put, List.setIfInBounds_toArray, List.set_cons_succ, List.set_cons_zero] at ha
  subst ha
  refine wpSeq_take (by kernel_rfl) (by kernel_rfl) ?_
  apply Exists.intro
  refine ⟨fun wx hS => ?_, fun a' ha => ?_⟩
  · have c := cell_upd E4.out.1 hS (by simp); go_simp; rfl
  simp only [Act.put, List.setIfInBounds_toArray, List.set_cons_succ, List.set_cons_zero] at ha
  subst ha
  refine wpSeq_take (by kernel_rfl) (by kernel_rfl) ?_
  apply Exists.intro
  refine ⟨fun wx hS => ?_, fun a' ha => ?_⟩
  · go_simp; rfl
  simp only [Act.put, List.setIfInBounds_toArray, List.set_cons_succ, List.set_cons_zero] at ha
  subst ha
  refine wpSeq_take (by kernel_rfl) (by kernel_rfl) ?_
  apply Exists.intro
  refine ⟨fun wx hS => ?_, fun a' ha => ?_⟩
  · go_simp; rfl
  simp only [Act.put, List.setIfInBounds_toArray, List.set_cons_succ, List.set_cons_zero] at ha
  subst ha
  refine wpSeq_take (by kernel_rfl) (by kernel_rfl) ?_
  apply Exists.intro
  refine ⟨fun wx hS => ?_, fun a' ha => ?_⟩
  · go_simp; rfl
  simp only [Act.put, List.setIfInBounds_toArray, List.set_cons_succ, List.set_cons_zero] at ha
  subst ha
  refine wpSeq_take (by kernel_rfl) (by kernel_rfl) ?_
  apply Exists.intro
  refine ⟨fun wx hS => ?_, fun a' ha => ?_⟩
  · go_simp; rfl
  simp only [Act.put, List.setIfInBounds_toArray, List.set_cons_succ, List.set_cons_zero] at ha
  subst ha
  refine wpSeq_take (by kernel_rfl) (by kernel_rfl) ?_
  apply Exists.intro
  refine ⟨fun wx hS => ?_, fun a' ha => ?_⟩
  · go_simp; rfl
  simp only [Act.put, List.setIfInBounds_toArray, List.set_cons_succ, List.set_cons_zero] at ha
  subst ha
  refine wpSeq_take (by kernel_rfl) (by kernel_rfl) ?_
  apply Exists.intro
  refine ⟨fun wx hS => ?_, fun a' ha => ?_⟩
  · go_simp; rfl
  simp only [Act.put, List.setIfInBounds_toArray, List.set_cons_succ, List.set_cons_zero] at ha
  subst ha
  refine wpSeq_take (by kernel_rfl) (by kernel_rfl) ?_
  apply Exists.intro
  refine ⟨fun wx hS => ?_, fun a' ha => ?_⟩
  · have c := cell_upd E4.out.2 hS (by simp); go_simp; rfl
  simp only [Act.put, List.setIfInBounds_toArray, List.set_cons_succ, List.set_cons_zero] at ha
  subst ha
  refine wpSeq_take (by kernel_rfl) (by kernel_rfl) ?_
  apply Exists.intro
  refine ⟨fun wx hS => ?_, fun a' ha => ?_⟩
  · go_simp; rfl
  simp only [Act.put, List.setIfInBounds_toArray, List.set_cons_succ, List.set_cons_zero] at ha
  subst ha
  refine wpSeq_take (by kernel_rfl) (by kernel_rfl) ?_
  apply Exists.intro
  refine ⟨fun wx hS => ?_, fun a' ha => ?_⟩
  · go_simp; rfl
  simp only [Act.put, List.setIfInBounds_toArray, List.set_cons_succ, List.set_cons_zero] at ha
  subst ha
  refine wpSeq_take (by kernel_rfl) (by kernel_rfl) ?_
  apply Exists.intro
  refine ⟨fun wx hS => ?_, fun a' ha => ?_⟩
  · go_simp; rfl
  simp only [Act.put, List.setIfInBounds_toArray, List.set_cons_succ, List.set_cons_zero] at ha
  subst ha
  refine wpSeq_take (by kernel_rfl) (by kernel_rfl) ?_
  apply Exists.intro
  refine ⟨fun wx hS => ?_, fun a' ha => ?_⟩
  · go_simp; rfl
  simp only [Act.put, List.setIfInBounds_toArray, List.set_cons_succ, List.set_cons_zero] at ha
  subst ha
  refine wpSeq_take (by kernel_rfl) (by kernel_rfl) ?_
  apply Exists.intro
  refine ⟨fun wx hS => ?_, fun a' ha => ?_⟩
  · go_simp; rfl
  simp only [Act.put, List.setIfInBounds_toArray, List.set_cons_succ, List.set_cons_zero] at ha
  subst ha
  refine wpSeq_take (by kernel_rfl) (by kernel_rfl) ?_
  apply Exists.intro
  refine ⟨fun wx hS => ?_, fun a' ha => ?_⟩
  · go_simp; rfl
  simp only [Act.put, List.setIfInBounds_toArray, List.set_cons_succ, List.set_cons_zero] at ha
  subst ha
  refine wpSeq_take (by kernel_rfl) (by kernel_rfl) ?_
  apply Exists.intro
  refine ⟨fun wx hS => ?_, fun a' ha => ?_⟩
  · have c := cell_upd E15.out hS (by simp); go_simp; rfl
  simp only [Act.put, List.setIfInBounds_toArray, List.set_cons_succ, List.set_cons_zero] at ha
  subst ha
  refine wpSeq_take (by kernel_rfl) (by kernel_rfl) ?_
  apply Exists.intro
  refine ⟨fun wx hS => ?_, fun a' ha => ?_⟩
  · go_simp; rfl
  simp only [Act.put, List.setIfInBounds_toArray, List.set_cons_succ, List.set_cons_zero] at ha
  subst ha
  refine wpSeq_take (by kernel_rfl) (by kernel_rfl) ?_
  apply Exists.intro
  refine ⟨fun wx hS => ?_, fun a' ha => ?_⟩
  · go_simp; rfl
  simp only [Act.put, List.setIfInBounds_toArray, List.set_cons_succ, List.set_cons_zero] at ha
  subst ha
  refine wpSeq_take (by kernel_rfl) (by kernel_rfl) ?_
  apply Exists.intro
  refine ⟨fun wx hS => ?_, fun a' ha => ?_⟩
  · go_simp; rfl
  simp only [Act.put, List.setIfInBounds_toArray, List.set_cons_succ, List.set_cons_zero] at ha
  subst ha
  refine wpSeq_take (by kernel_rfl) (by kernel_rfl) ?_
  apply Exists.intro
  refine ⟨fun wx hS => ?_, fun a' ha => ?_⟩
  · go_simp; rfl
  simp only [Act.put, List.setIfInBounds_toArray, List.set_cons_succ, List.set_cons_zero] at ha
  subst ha
  refine wpSeq_take (by kernel_rfl) (by kernel_rfl) ?_
  apply Exists.intro
  refine ⟨fun wx hS => ?_, fun a' ha => ?_⟩
  · go_simp; rfl
  simp only [Act.put, List.setIfInBounds_toArray, List.set_cons_succ, List.set_cons_zero] at ha
  subst ha
  refine wpSeq_take (by kernel_rfl) (by kernel_rfl) ?_
  apply Exists.intro
  refine ⟨fun wx hS => ?_, fun a' ha => ?_⟩
  · go_simp; rfl
  simp only [Act.put, List.setIfInBounds_toArray, List.set_cons_succ, List.set_cons_zero] at ha
  subst ha
  refine wpSeq_take (by kernel_rfl) (by kernel_rfl) ?_
  apply Exists.intro
  refine ⟨fun wx hS => ?_, fun a' ha => ?_⟩
  · have c := cell_upd E26.out hS (by simp); go_simp; rfl
  simp only [Act.put, List.setIfInBounds_toArray, List.set_cons_succ, List.set_cons_zero] at ha
  subst ha
  refine wpSeq_take (by kernel_rfl) (by kernel_rfl) ?_
  apply Exists.intro
  refine ⟨fun wx hS => ?_, fun a' ha => ?_⟩
  · go_simp; rfl
  simp only [Act.put, List.setIfInBounds_toArray, List.set_cons_succ, List.set_cons_zero] at ha
  subst ha
  refine wpSeq_take (by kernel_rfl) (by kernel_rfl) ?_
  apply Exists.intro
  refine ⟨fun wx hS => ?_, fun a' ha => ?_⟩
  · go_simp; rfl
  simp only [Act.put, List.setIfInBounds_toArray, List.set_cons_succ, List.set_cons_zero] at ha
  subst ha
  refine wpSeq_take (by kernel_rfl) (by kernel_rfl) ?_
  apply Exists.intro
  refine ⟨fun wx hS => ?_, fun a' ha => ?_⟩
  · go_simp; rfl
  simp only [Act.put, List.setIfInBounds_toArray, List.set_cons_succ, List.set_cons_zero] at ha
  subst ha
  refine wpSeq_take (by kernel_rfl) (by kernel_rfl) ?_
  apply Exists.intro
  refine ⟨fun wx hS => ?_, fun a' ha => ?_⟩
  · go_simp; rfl
  simp only [Act.put, List.setIfInBounds_toArray, List.set_cons_succ, List.set_cons_zero] at ha
  subst ha
  refine wpSeq_take (by kernel_rfl) (by kernel_rfl) ?_
  apply Exists.intro
  refine ⟨fun wx hS => ?_, fun a' ha => ?_⟩
  · go_simp; rfl
  simp only [Act.put, List.setIfInBounds_toArray, List.set_cons_succ, List.set_cons_zero] at ha
  subst ha
  refine wpSeq_take (by kernel_rfl) (by kernel_rfl) ?_
  apply Exists.intro
  refine ⟨fun wx hS => ?_, fun a' ha => ?_⟩
  · go_simp; rfl
  simp only [Act.put, List.setIfInBounds_toArray, List.set_cons_succ, List.set_cons_zero] at ha
  subst ha
  refine wpSeq_take (by kernel_rfl) (by kernel_rfl) ?_
  apply Exists.intro
  refine ⟨fun wx hS => ?_, fun a' ha => ?_⟩
  · have c := cell_upd E5.out hS (by simp); go_simp; rfl
  simp only [Act.put, List.setIfInBounds_toArray, List.set_cons_succ, List.set_cons_zero] at ha
  subst ha
  as_aux_lemma =>
  refine wpSeq_take (by kernel_rfl) (by kernel_rfl) ?_
  apply Exists.intro
  refine ⟨fun wx hS => ?_, fun a' ha => ?_⟩
  · go_simp; rfl
  simp only [Act.put, List.setIfInBounds_toArray, List.set_cons_succ, List.set_cons_zero] at ha
  subst ha
  refine wpSeq_take (by kernel_rfl) (by kernel_rfl) ?_
  apply Exists.intro
  refine ⟨fun wx hS => ?_, fun a' ha => ?_⟩
  · go_simp; rfl
  simp only [Act.put, List.setIfInBounds_toArray, List.set_cons_succ, List.set_cons_zero] at ha
  subst ha
  refine wpSeq_take (by kernel_rfl) (by kernel_rfl) ?_
  apply Exists.intro
  refine ⟨fun wx hS => ?_, fun a' ha => ?_⟩
  · go_simp; rfl
  simp only [Act.put, List.setIfInBounds_toArray, List.set_cons_succ, List.set_cons_zero] at ha
  subst ha
  refine wpSeq_take (by kernel_rfl) (by kernel_rfl) ?_
  apply Exists.intro
  refine ⟨fun wx hS => ?_, fun a' ha => ?_⟩
  · go_simp; rfl
  simp only [Act.put, List.setIfInBounds_toArray, List.set_cons_succ, List.set_cons_zero] at ha
  subst ha
  refine wpSeq_one (by kernel_rfl) (by kernel_rfl) (fun K hK => ?_)
  go_simp
  refine (cmds_any (l := log0) w18 (slK.row_upd_nil RL14.out H18.out) (by decide) (by simp [log0, putM])).mono ?_
  rintro e w19 ⟨⟨v9, rfl, h9⟩, hd⟩
  obtain ⟨x9, c9, e9, -, -⟩ := Row.slice h9
  change v9 = .slice x9 3 c9 at e9
  subst e9
  have H19 := hide (H18.out.trans hd)
  clear hd h9
  refine hK _ _ (H19.out) ?_
  clear hK K
  try simp only [Act.put, List.setIfInBounds_toArray, List.set_cons_succ, List.set_cons_zero]
  refine wpSeq_take (by kernel_rfl) (by kernel_rfl) ?_
  apply Exists.intro
  refine ⟨fun wx hS => ?_, fun a' ha => ?_⟩
  · go_simp; rfl
  simp only [Act.put, List.setIfInBounds_toArray, List.set_cons_succ, List.set_cons_zero] at ha
  subst ha
  refine wpSeq_take (by kernel_rfl) (by kernel_rfl) ?_
  apply Exists.intro
  refine ⟨fun wx hS => ?_, fun a' ha => ?_⟩
  · go_simp; rfl
  simp only [Act.put, List.setIfInBounds_toArray, List.set_cons_succ, List.set_cons_zero] at ha
  subst ha
  refine wpSeq_take (by kernel_rfl) (by kernel_rfl) ?_
  apply Exists.intro
  refine ⟨fun wx hS => ?_, fun a' ha => ?_⟩
  · go_simp; rfl
  simp only [Act.put, List.setIfInBounds_toArray, List.set_cons_succ, List.set_cons_zero] at ha
  subst ha
  refine wpSeq_take (by kernel_rfl) (by kernel_rfl) ?_
  apply Exists.intro
  refine ⟨fun wx hS => ?_, fun a' ha => ?_⟩
  · go_simp; rfl
  simp only [Act.put, List.setIfInBounds_toArray, List.set_cons_succ, List.set_cons_zero] at ha
  subst ha
  refine wpSeq_take (by kernel_rfl) (by kernel_rfl) ?_
  apply Exists.intro
  refine ⟨fun wx hS => ?_, fun a' ha => ?_⟩
  · go_simp; rfl
  simp only [Act.put, List.setIfInBounds_toArray, List.set_cons_succ, List.set_cons_zero] at ha
  subst ha
  refine wpSeq_one (by kernel_rfl) (by kernel_rfl) (fun K hK => ?_)
  go_simp
  refine (script_bad (n := 8) w19 (.inr (by decide))).mono ?_
  rintro e w20 ⟨rfl, hd⟩
  have H20 := hide (U14.out.trans (H19.out.trans hd))
  have H20' := hide (H19.out.trans hd)
  clear hd
  refine hK _ _ (H20'.out) ?_
  clear hK K
  try simp only [Act.put, List.setIfInBounds_toArray, List.set_cons_succ, List.set_cons_zero]
  refine wpSeq_take (by kernel_rfl) (by kernel_rfl) ?_
  apply Exists.intro
  refine ⟨fun wx hS => ?_, fun a' ha => ?_⟩
  · go_simp; rfl
  simp only [Act.put, List.setIfInBounds_toArray, List.set_cons_succ, List.set_cons_zero] at ha
  subst ha
  refine wpSeq_take (by kernel_rfl) (by kernel_rfl) ?_
  apply Exists.intro
  refine ⟨fun wx hS => ?_, fun a' ha => ?_⟩
  · go_simp; rfl
  simp only [Act.put, List.setIfInBounds_toArray, List.set_cons_succ, List.set_cons_zero] at ha
  subst ha
  refine wpSeq_take (by kernel_rfl) (by kernel_rfl) ?_
  apply Exists.intro
  refine ⟨fun wx hS => ?_, fun a' ha => ?_⟩
  · go_simp; rfl
  simp only [Act.put, List.setIfInBounds_toArray, List.set_cons_succ, List.set_cons_zero] at ha
  subst ha
  refine wpSeq_take (by kernel_rfl) (by kernel_rfl) ?_
  apply Exists.intro
  refine ⟨fun wx hS => ?_, fun a' ha => ?_⟩
  · go_simp; rfl
  simp only [Act.put, List.setIfInBounds_toArray, List.set_cons_succ, List.set_cons_zero] at ha
  subst ha
  unfold wpSeq
  go_wp2_with fail
  go_ret
  exact ⟨rfl, H20.out⟩
end Go.Proofs.YtloaceaomljeiaaDoor.Tr
