/- The law AuditKnown: its walk. -/
import Derived.Test.YtfmaflaoplkdbaaGreatDoorAlW
import Derived.Test.YtfmaflaoplkdbaaGreatDoorAlKg
set_option linter.unusedSimpArgs false
set_option linter.unusedVariables false
set_option linter.unnecessarySimpa false
namespace Go.Proofs.YtfmaflaoplkdbaaGreatDoor.Au
open Go.RowKit Go.Proofs.YtfmaflaoplkdbaaGreatDoor.Crc Go.Proofs.YtfmaflaoplkdbaaGreatDoor.Cm Go.Proofs.YtfmaflaoplkdbaaGreatDoor.Tr Go.Proofs.YtfmaflaoplkdbaaGreatDoor.Kv
set_option linter.unusedSimpArgs false
set_option linter.unusedVariables false

theorem four_an {w W : World} {z : Nat} (hz : w.heap.size = z) (hW : ((((w.alloc (.cells #[.int .u32 1, .int .u32 1, .int .u8 0, .string ⟨#[]⟩] 39)).alloc (.cells #[.int .u32 2, .int .u32 1, .int .u8 0, .string ⟨#[]⟩] 39)).alloc (.cells #[.int .u32 1, .int .u32 1, .int .u8 2, .string ⟨#[]⟩] 39)).alloc (.cells #[.int .u32 1, .int .u32 1, .int .u8 3, .string ⟨#[]⟩] 39)) = W) :
    AnB W z 1 0 ∧ AnB W (z + 1) 2 0 ∧ AnB W (z + 1 + 1) 1 2 ∧ AnB W (z + 1 + 1 + 1) 1 3 ∧ Upd [] w W := by
  subst hW
  have key : ∀ (w : World) (n : Nat) (o : Obj), w.heap.size = n → (w.alloc o).heap[n]? = some o ∧ (w.alloc o).heap.size = n + 1 := fun w n o h => ⟨by rw [← h]; exact blk_new w o, by simp [h]⟩
  obtain ⟨a0, s0⟩ := key w z (.cells #[.int .u32 1, .int .u32 1, .int .u8 0, .string ⟨#[]⟩] 39) hz
  obtain ⟨a1, s1⟩ := key _ (z + 1) (.cells #[.int .u32 2, .int .u32 1, .int .u8 0, .string ⟨#[]⟩] 39) s0
  obtain ⟨a2, s2⟩ := key _ (z + 1 + 1) (.cells #[.int .u32 1, .int .u32 1, .int .u8 2, .string ⟨#[]⟩] 39) s1
  obtain ⟨a3, s3⟩ := key _ (z + 1 + 1 + 1) (.cells #[.int .u32 1, .int .u32 1, .int .u8 3, .string ⟨#[]⟩] 39) s2
  exact ⟨blk_alloc (blk_alloc (blk_alloc a0 _) _) _, blk_alloc (blk_alloc a1 _) _, blk_alloc a2 _, a3, ((((Upd.refl [] w).alloc _).alloc _).alloc _).alloc _⟩
/-- A command's block. -/
def PcB (w : World) (b : Nat) (c : Int) (k : Nat) : Prop := w.heap[b]? = some (.cells #[.int .u32 c, .int .u32 1, .int .u8 1, .slice (some ⟨k, 0, none⟩) 1 1, .string (strOf []), .string (strOf [118]), .int .i64 0] 25 (0, 0))
theorem PcB.upd_nil' {w w' : World} {b k : Nat} {c : Int} (h : PcB w b c k) (hu : Upd [] w w') : PcB w' b c k := hu.get h (by simp)
theorem pc_at {w : World} {b k : Nat} {c : Int} (h : PcB w b c k) : w.cell? ⟨b, 0, none⟩ = some (.int .u32 c) ∧ w.cell? ⟨b, 1, none⟩ = some (.int .u32 1) ∧ w.cell? ⟨b, 2, none⟩ = some (.int .u8 1) ∧ w.cell? ⟨b, 3, none⟩ = some (.slice (some ⟨k, 0, none⟩) 1 1) ∧ w.cell? ⟨b, 4, none⟩ = some (.string (strOf [])) ∧ w.cell? ⟨b, 5, none⟩ = some (.string (strOf [118])) ∧ w.cell? ⟨b, 6, none⟩ = some (.int .i64 0) :=
  ⟨blk_cell h rfl, blk_cell h rfl, blk_cell h rfl, blk_cell h rfl, blk_cell h rfl, blk_cell h rfl, blk_cell h rfl⟩
theorem rk_at {w : World} {v : Value} (h : rkK.row w (Od w) v rowsK) : ∃ (n b off c : Nat), n = rowsK.length ∧ v = .slice (some ⟨b, off, none⟩) n c ∧ n ≤ c ∧ c ≤ maxLen ∧ ∀ i r, rowsK[i]? = some r → ∃ vt vw, w.cell? ⟨b, off + i * 2, none⟩ = some vt ∧ w.cell? ⟨b, off + i * 2 + 1, none⟩ = some vw ∧ toK.row w (Od w) vt r.1 ∧ fnK.row w (Od w) vw r.2 := by
  obtain ⟨xo, c, rfl, h1, h2, hg⟩ := Row.get (by decide) h
  obtain ⟨b, off, -, rfl, -⟩ := hg 0 _ rfl
  refine ⟨_, b, off, c, rfl, rfl, h1, h2, fun i r hi => ?_⟩
  obtain ⟨b', off', cs, h3, -, -, ⟨vt, vw, rfl, ht, hw⟩, -, h4⟩ := hg i r hi
  cases h3
  exact ⟨vt, vw, h4 0 _ rfl, h4 1 _ rfl, ht, hw⟩
set_option maxRecDepth 200000 in
set_option maxHeartbeats 16000000 in
theorem known_any (w : World) (he : EnvAt w) : Calls Tryz.prog 3 #[] w fun e w' => e = .returned (.bool true) ∧ Upd [] w w' := by
  have HE := hide he
  clear he
  go_enter Tryz.func3, Tryz.ntmps3
  go_wp2_with fail
  refine (put26_any 1 _ rfl w).mono ?_
  rintro e w1 ⟨⟨b1, rfl, hs1⟩, hu1⟩
  have S1 := hide hs1; have U1 := hide hu1
  clear hs1 hu1
  go_wp2_with fail
  refine (put26_any 2 _ rfl w1).mono ?_
  rintro e w2 ⟨⟨b2, rfl, hs2⟩, hu2⟩
  have S1' := hide (Strs.grow S1.out hu2); have S2 := hide hs2; have U2 := hide (U1.out.trans hu2)
  clear hs2 hu2 S1 U1
  go_upto_region 2 with fail
  have hP1 := blk_alloc (blk_new w2 (.cells (pcA 1 b1).toArray 25)) (.cells (pcA 2 b2).toArray 25)
  have hP2 := blk_new (w2.alloc (.cells (pcA 1 b1).toArray 25)) (.cells (pcA 2 b2).toArray 25)
  have hu3 := ((Upd.refl [] w2).alloc (.cells (pcA 1 b1).toArray 25)).alloc (.cells (pcA 2 b2).toArray 25)
  rw [World.size_alloc] at hP2
  change Code.wp _ _ _ _ ((w2.alloc (.cells (pcA 1 b1).toArray 25)).alloc (.cells (pcA 2 b2).toArray 25))
  generalize (w2.alloc (.cells (pcA 1 b1).toArray 25)).alloc (.cells (pcA 2 b2).toArray 25) = w3 at *
  obtain ⟨Pa, hPa⟩ : ∃ Pa, w2.heap.size = Pa := ⟨_, rfl⟩
  rw [hPa] at hP1 hP2 ⊢
  have CA : Hid (PcB w3 Pa 1 b1) := hide hP1; have CB : Hid (PcB w3 (Pa + 1) 2 b2) := hide hP2; have U3 := hide (U2.out.trans hu3); have S1 := hide (Strs.grow S1'.out hu3); have S3 := hide (Strs.grow S2.out hu3)
  clear hP1 hP2 hu3 hPa S1' S2 U2
  obtain ⟨g0, g1, g2, g3, g4, g5, g6⟩ := pc_at CA.out
  go_wp2_with fail
  clear g0 g1 g2 g3 g4 g5 g6
  have hal := (Upd.refl [] w3).alloc (.cells [pcA 1 b1].flatten.toArray 25)
  have hrow := Kind.put (K := cmK) (t := 25) (.cons (pc_holds (by decide) S1.out) .nil : Each (cmK.holds w3 (Od w3)) [putA 1] [pcA 1 b1]) rfl (by decide)
  refine (batch_any (l := [putA 1]) (w3.alloc (.cells [pcA 1 b1].flatten.toArray 25)) hrow (fun _ h => h) ((HE.out.upd_nil (U3.out.trans hal)).cnt) (by decide) (puts_good [1] (by decide))).mono ?_
  rintro e w4 ⟨⟨vx, rfl, hx⟩, hu4⟩
  obtain ⟨xx, xm, xc, rfl, -⟩ := id hx
  have V34 := hide (hal.trans hu4)
  have BX4 := hide (Bts.old hx)
  clear hal hrow hx hu4
  obtain ⟨g0, g1, g2, g3, g4, g5, g6⟩ := pc_at (CB.out.upd_nil' V34.out)
  go_wp2_with fail
  clear g0 g1 g2 g3 g4 g5 g6
  have U4 := hide (U3.out.trans V34.out)
  have hal := (Upd.refl [] w4).alloc (.cells [pcA 2 b2].flatten.toArray 25)
  have hrow := Kind.put (K := cmK) (t := 25) (.cons (pc_holds (by decide) (Strs.grow S3.out V34.out)) .nil : Each (cmK.holds w4 (Od w4)) [putA 2] [pcA 2 b2]) rfl (by decide)
  refine (batch_any (l := [putA 2]) (w4.alloc (.cells [pcA 2 b2].flatten.toArray 25)) hrow (fun _ h => h) ((HE.out.upd_nil (U4.out.trans hal)).cnt) (by decide) (puts_good [2] (by decide))).mono ?_
  rintro e w5 ⟨⟨vy, rfl, hy⟩, hu5⟩
  obtain ⟨yx, ym, yc, rfl, -⟩ := id hy
  have V45 := hide (hal.trans hu5)
  have BY5 := hide (Bts.old hy)
  clear hal hrow hy hu5
  have V35 := hide (V34.out.trans V45.out); have U5 := hide (U4.out.trans V45.out)
  obtain ⟨g0, g1, g2, g3, g4, g5, g6⟩ := pc_at (CA.out.upd_nil' V35.out)
  obtain ⟨k0, k1, k2, k3, k4, k5, k6⟩ := pc_at (CB.out.upd_nil' V35.out)
  go_wp2_with fail
  clear g0 g1 g2 g3 g4 g5 g6 k0 k1 k2 k3 k4 k5 k6
  have hal := (Upd.refl [] w5).alloc (.cells [pcA 1 b1, pcA 2 b2].flatten.toArray 25)
  have hrow := Kind.put (K := cmK) (t := 25) (.cons (pc_holds (by decide) (Strs.grow S1.out V35.out)) (.cons (pc_holds (by decide) (Strs.grow S3.out V35.out)) .nil) : Each (cmK.holds w5 (Od w5)) [putA 1, putA 2] [pcA 1 b1, pcA 2 b2]) rfl (by decide)
  refine (batch_any (l := [putA 1, putA 2]) (w5.alloc (.cells [pcA 1 b1, pcA 2 b2].flatten.toArray 25)) hrow (fun _ h => h) ((HE.out.upd_nil (U5.out.trans hal)).cnt) (by decide) (puts_good [1, 2] (by decide))).mono ?_
  rintro e w6 ⟨⟨vz, rfl, hz⟩, hu6⟩
  obtain ⟨zx, zm, zc, rfl, -⟩ := id hz
  have V56 := hide (hal.trans hu6)
  have BZ6 := hide (Bts.old hz)
  clear hal hrow hz hu6
  have V36 := hide (V35.out.trans V56.out); have U6 := hide (U5.out.trans V56.out)
  go_upto_region 9 with fail
  obtain ⟨P0, hP0⟩ : ∃ P0, w6.heap.size = P0 := ⟨_, rfl⟩
  rw [hP0]
  obtain ⟨w7, h7⟩ : ∃ w7, ((((w6.alloc (.cells #[.int .u32 1, .int .u32 1, .int .u8 0, .string ⟨#[]⟩] 39)).alloc (.cells #[.int .u32 2, .int .u32 1, .int .u8 0, .string ⟨#[]⟩] 39)).alloc (.cells #[.int .u32 1, .int .u32 1, .int .u8 2, .string ⟨#[]⟩] 39)).alloc (.cells #[.int .u32 1, .int .u32 1, .int .u8 3, .string ⟨#[]⟩] 39)) = w7 := ⟨_, rfl⟩
  obtain ⟨an0, an1, an2, an3, hu7⟩ := four_an hP0 h7
  rw [h7]
  have V37 := hide (V36.out.trans hu7); have V67 := hide hu7; have U7 := hide (U6.out.trans hu7)
  obtain ⟨g0, g1, g2, g3, g4, g5, g6⟩ := pc_at (CA.out.upd_nil' V37.out)
  obtain ⟨k0, k1, k2, k3, k4, k5, k6⟩ := pc_at (CB.out.upd_nil' V37.out)
  clear h7 hu7 hP0
  go_upto_region 10 with fail
  clear g0 g1 g2 g3 g4 g5 g6 k0 k1 k2 k3 k4 k5 k6
  obtain ⟨E0, hE0⟩ : ∃ E0, w7.heap.size = E0 := ⟨_, rfl⟩
  rw [hE0]
  have hen := Kind.put (w := w7) (K := enK) (t := 41) (l := lK) (css := [enc ⟨1, 0, 0, putA 1⟩ 0 0 (.slice (some ⟨b1, 0, none⟩) 1 1), enc ⟨2, 0, 0, Cm.zero⟩ 0 0 (.slice none 0 0), enc ⟨1, 0, 0, putA 2⟩ 0 0 (.slice (some ⟨b2, 0, none⟩) 1 1), enc ⟨2, 0, 0, Cm.zero⟩ 0 0 (.slice none 0 0)]) (.cons ⟨putA_fits 1 (by decide), 0, 0, _, rfl, Strs.grow S1.out V37.out⟩ (.cons ⟨zero_fits, 0, 0, _, rfl, Strs.nil _ _⟩ (.cons ⟨putA_fits 2 (by decide), 0, 0, _, rfl, Strs.grow S3.out V37.out⟩ (.cons ⟨zero_fits, 0, 0, _, rfl, Strs.nil _ _⟩ .nil)))) rfl (by decide)
  have hal := (Upd.refl [] w7).alloc (.cells ([enc ⟨1, 0, 0, putA 1⟩ 0 0 (.slice (some ⟨b1, 0, none⟩) 1 1), enc ⟨2, 0, 0, Cm.zero⟩ 0 0 (.slice none 0 0), enc ⟨1, 0, 0, putA 2⟩ 0 0 (.slice (some ⟨b2, 0, none⟩) 1 1), enc ⟨2, 0, 0, Cm.zero⟩ 0 0 (.slice none 0 0)] : List (List Value)).flatten.toArray 41)
  change Code.wp _ _ _ _ (w7.alloc (.cells ([enc ⟨1, 0, 0, putA 1⟩ 0 0 (.slice (some ⟨b1, 0, none⟩) 1 1), enc ⟨2, 0, 0, Cm.zero⟩ 0 0 (.slice none 0 0), enc ⟨1, 0, 0, putA 2⟩ 0 0 (.slice (some ⟨b2, 0, none⟩) 1 1), enc ⟨2, 0, 0, Cm.zero⟩ 0 0 (.slice none 0 0)] : List (List Value)).flatten.toArray 41))
  generalize w7.alloc (.cells ([enc ⟨1, 0, 0, putA 1⟩ 0 0 (.slice (some ⟨b1, 0, none⟩) 1 1), enc ⟨2, 0, 0, Cm.zero⟩ 0 0 (.slice none 0 0), enc ⟨1, 0, 0, putA 2⟩ 0 0 (.slice (some ⟨b2, 0, none⟩) 1 1), enc ⟨2, 0, 0, Cm.zero⟩ 0 0 (.slice none 0 0)] : List (List Value)).flatten.toArray 41) = w8 at *
  rw [hE0] at hen
  have EN : Hid (enK.row w8 (Od w8) (.slice (some ⟨E0, 0, none⟩) 4 4) lK) := hide hen
  have U8 := hide (U7.out.trans hal); have Pp := hide (an0.upd_nil' hal); have Pq := hide (an1.upd_nil' hal); have Pw := hide (an2.upd_nil' hal); have Po := hide (an3.upd_nil' hal)
  have BX := hide (Bts.grow BX4.out (V45.out.trans (V56.out.trans (V67.out.trans hal)))); have BY := hide (Bts.grow BY5.out (V56.out.trans (V67.out.trans hal))); have BZ := hide (Bts.grow BZ6.out (V67.out.trans hal))
  have d1 := (Upd.refl [] w8).drewN 1
  clear hen hal an0 an1 an2 an3 hE0 CA CB S1 S3 V34 V45 V35 V56 V36 V37 V67 U3 U4 U5 U6 U7 BX4 BY5 BZ6
  refine wp_region_freeE knOps (by kernel_rfl) _ _ rfl (by kernel_rfl) (kn_free (V := ⟨xx, xm, xc, yx, ym, yc, zx, zm, zc, P0⟩) ⟨rfl, rfl, rfl, rfl, rfl, rfl, rfl, rfl, rfl⟩ ⟨Pp.out.upd_nil' d1, Pq.out.upd_nil' d1, Pw.out.upd_nil' d1, Po.out.upd_nil' d1, Bts.grow BX.out d1, Bts.grow BY.out d1, Bts.grow BZ.out d1⟩ ?_)
  · intro f w9 hu9 hv hrest
    obtain ⟨v, h15, hrk⟩ := hv
    have n0 := hrest 0 (by decide)
    have n1 := hrest 1 (by decide)
    have n2 := hrest 2 (by decide)
    have n3 := hrest 3 (by decide)
    have n4 := hrest 4 (by decide)
    have n5 := hrest 5 (by decide)
    have n6 := hrest 6 (by decide)
    have n7 := hrest 7 (by decide)
    have n8 := hrest 8 (by decide)
    have n9 := hrest 9 (by decide)
    have n10 := hrest 10 (by decide)
    have n11 := hrest 11 (by decide)
    have n12 := hrest 12 (by decide)
    have n13 := hrest 13 (by decide)
    have n14 := hrest 14 (by decide)
    have n16 := hrest 16 (by decide)
    have n17 := hrest 17 (by decide)
    have n18 := hrest 18 (by decide)
    have n19 := hrest 19 (by decide)
    have n20 := hrest 20 (by decide)
    have n21 := hrest 21 (by decide)
    have n22 := hrest 22 (by decide)
    have n23 := hrest 23 (by decide)
    have n24 := hrest 24 (by decide)
    have n25 := hrest 25 (by decide)
    have n26 := hrest 26 (by decide)
    have n27 := hrest 27 (by decide)
    have n28 := hrest 28 (by decide)
    have n29 := hrest 29 (by decide)
    have n30 := hrest 30 (by decide)
    have n31 := hrest 31 (by decide)
    have n32 := hrest 32 (by decide)
    have n33 := hrest 33 (by decide)
    have n34 := hrest 34 (by decide)
    have n35 := hrest 35 (by decide)
    have n36 := hrest 36 (by decide)
    have n37 := hrest 37 (by decide)
    have n38 := hrest 38 (by decide)
    have n39 := hrest 39 (by decide)
    have n40 := hrest 40 (by decide)
    have n41 := hrest 41 (by decide)
    have n42 := hrest 42 (by decide)
    have n43 := hrest 43 (by decide)
    have n44 := hrest 44 (by decide)
    have n45 := hrest 45 (by decide)
    have n46 := hrest 46 (by decide)
    have n47 := hrest 47 (by decide)
    have n48 := hrest 48 (by decide)
    have n49 := hrest 49 (by decide)
    have n50 := hrest 50 (by decide)
    have n51 := hrest 51 (by decide)
    have n52 := hrest 52 (by decide)
    have n243 := hrest 243 (by decide)
    have n244 := hrest 244 (by decide)
    have n245 := hrest 245 (by decide)
    have n246 := hrest 246 (by decide)
    have n247 := hrest 247 (by decide)
    have n248 := hrest 248 (by decide)
    have n249 := hrest 249 (by decide)
    have n250 := hrest 250 (by decide)
    have n251 := hrest 251 (by decide)
    have n252 := hrest 252 (by decide)
    have n253 := hrest 253 (by decide)
    have n254 := hrest 254 (by decide)
    have n255 := hrest 255 (by decide)
    have n256 := hrest 256 (by decide)
    have n257 := hrest 257 (by decide)
    have n258 := hrest 258 (by decide)
    have n259 := hrest 259 (by decide)
    have n260 := hrest 260 (by decide)
    have n261 := hrest 261 (by decide)
    have n262 := hrest 262 (by decide)
    have n263 := hrest 263 (by decide)
    have n264 := hrest 264 (by decide)
    have n265 := hrest 265 (by decide)
    have n266 := hrest 266 (by decide)
    have n267 := hrest 267 (by decide)
    have n268 := hrest 268 (by decide)
    have n269 := hrest 269 (by decide)
    have n270 := hrest 270 (by decide)
    have n271 := hrest 271 (by decide)
    have n272 := hrest 272 (by decide)
    have n273 := hrest 273 (by decide)
    have n274 := hrest 274 (by decide)
    have n275 := hrest 275 (by decide)
    have n276 := hrest 276 (by decide)
    have n277 := hrest 277 (by decide)
    have n278 := hrest 278 (by decide)
    have n279 := hrest 279 (by decide)
    have n280 := hrest 280 (by decide)
    have n281 := hrest 281 (by decide)
    have n282 := hrest 282 (by decide)
    have n283 := hrest 283 (by decide)
    have n284 := hrest 284 (by decide)
    unfold actF
    simp only [setL, Nat.zero_add, Nat.reduceAdd, n0, n1, n2, n3, n4, n5, n6, n7, n8, n9, n10, n11, n12, n13, n14, n16, n17, n18, n19, n20, n21, n22, n23, n24, n25, n26, n27, n28, n29, n30, n31, n32, n33, n34, n35, n36, n37, n38, n39, n40, n41, n42, n43, n44, n45, n46, n47, n48, n49, n50, n51, n52, n243, n244, n245, n246, n247, n248, n249, n250, n251, n252, n253, n254, n255, n256, n257, n258, n259, n260, n261, n262, n263, n264, n265, n266, n267, n268, n269, n270, n271, n272, n273, n274, n275, n276, n277, n278, n279, n280, n281, n282, n283, n284, h15, Option.getD_none, Option.getD_some]
    clear h15 hrest n0 n1 n2 n3 n4 n5 n6 n7 n8 n9 n10 n11 n12 n13 n14 n16 n17 n18 n19 n20 n21 n22 n23 n24 n25 n26 n27 n28 n29 n30 n31 n32 n33 n34 n35 n36 n37 n38 n39 n40 n41 n42 n43 n44 n45 n46 n47 n48 n49 n50 n51 n52 n243 n244 n245 n246 n247 n248 n249 n250 n251 n252 n253 n254 n255 n256 n257 n258 n259 n260 n261 n262 n263 n264 n265 n266 n267 n268 n269 n270 n271 n272 n273 n274 n275 n276 n277 n278 n279 n280 n281 n282 n283 n284
    obtain ⟨n, Rb, Ro, cr, hnl, rfl, hcr, hcrm, hgr⟩ := rk_at hrk
    simp only [maxLen] at hcrm
    have HN := hide hnl; have GR := hide hgr; have U9 := hide (U8.out.trans (d1.trans hu9)); have E9 := hide (Kind.grow EN.out (d1.trans hu9))
    have hn13 : n = 13 := hnl.trans (by kernel_rfl)
    have hn : n ≤ 1000 := by omega
    clear hnl hgr hrk hu9 d1 U8 EN Pp Pq Pw Po BX BY BZ hn13
    go_wp2_with fail
    go_loopw [16] (fun si wq => ∃ i : Nat, i ≤ n ∧ si = .int .i64 i ∧ Upd [] w9 wq) (fun si _ => n - (RowKit.intOf si).toNat)
    case atStart => exact ⟨0, by omega, rfl, Upd.refl _ _⟩
    case round =>
      obtain ⟨i, hi, rfl, hui⟩ := hrel
      have UI := hide hui
      clear hui
      by_cases hil : i < n
      · have d6 : decide ((i : Int) < n) = true := by simp; omega
        have d6' : decide (i < n) = true := by simpa using hil
        obtain ⟨r, hr⟩ : ∃ r, rowsK[i]? = some r := ⟨_, List.getElem?_eq_getElem (by rw [← HN.out]; exact hil)⟩
        have RM := hide (List.mem_of_getElem? hr)
        obtain ⟨vt, vw, z0', z1', ht', hw'⟩ := GR.out i r hr
        obtain ⟨xt, ct, rfl, hct, hctm⟩ := Row.slice ht'
        obtain ⟨told, F⟩ := r
        obtain ⟨xw, cw, rfl, hcw, hcwm⟩ := Row.slice (show Row w9 (Od w9) 2 fnP vw F from hw')
        simp only [maxLen] at hctm hcwm
        have HT := hide ht'; have HW := hide hw'; have Z1 := hide z1'
        have z0 := cellU z0' UI.out (by simp)
        have z1 := cellU z1' UI.out (by simp)
        clear hr z0' z1' ht' hw'
        go_wp2_with fail
        refine (check_at (l := lK) (told := told) (F := F) wr (HE.out.upd_nil (U9.out.trans UI.out)) (Kind.grow E9.out UI.out) (Kind.grow HT.out UI.out) (rowsK_small _ RM.out).2 (rowsK_small _ RM.out).1 (rowsK_found _ RM.out)).mono ?_
        rintro e wa ⟨⟨xg, cg, rfl, hcg, hcgm, hgg⟩, hua⟩
        obtain ⟨xw', cw', hvw, -, -, hgw⟩ := fn_at (show Row w9 (Od w9) 2 fnP _ F from HW.out)
        cases hvw
        have UA := hide (UI.out.trans hua); have GG := hide hgg; have GW := hide hgw
        have z1 := cellU Z1.out UA.out (by simp)
        simp only [maxLen] at hcgm
        clear hua hgg hgw z0
        go_wp2_with fail
        go_loopw [18] (fun sj wq => ∃ j : Nat, j ≤ F.length ∧ sj = .int .i64 j ∧ Upd [] wa wq) (fun sj _ => F.length - (RowKit.intOf sj).toNat)
        case atStart => exact ⟨0, by omega, rfl, Upd.refl _ _⟩
        case round =>
          obtain ⟨j, hj, rfl, huj⟩ := hrel
          have UJ := hide huj
          clear huj
          have z1 := cellU Z1.out (UA.out.trans UJ.out) (by simp)
          by_cases hjl : j < F.length
          · have d8 : decide ((j : Int) < F.length) = true := by simp; omega
            have d8' : decide (j < F.length) = true := by simpa using hjl
            obtain ⟨f, hf⟩ : ∃ f, F[j]? = some f := ⟨_, List.getElem?_eq_getElem hjl⟩
            obtain ⟨b1, o1, rfl, z2', z3'⟩ := GG.out j f hf
            obtain ⟨b2, o2, rfl, z4', z5'⟩ := GW.out j f hf
            have z2 := cellU z2' UJ.out (by simp)
            have z3 := cellU z3' UJ.out (by simp)
            have z4 := cellU z4' (UA.out.trans UJ.out) (by simp)
            have z5 := cellU z5' (UA.out.trans UJ.out) (by simp)
            clear hf z2' z3' z4' z5'
            go_wp2_with fail
            go_quiet (fail)
            go_wp2_with fail
            go_roundw
            case rel => exact ⟨j + 1, by omega, by go_num, UJ.out.drewN _⟩
            case measure => simp [RowKit.intOf]; omega
          · have d8 : decide ((j : Int) < F.length) = false := by simp; omega
            have d8' : decide (j < F.length) = false := by simpa using hjl
            go_wp2_with fail
            go_roundw
            case rel => exact ⟨i + 1, by omega, by go_num, UA.out.trans UJ.out⟩
            case measure => simp [RowKit.intOf]; omega
      · have d6 : decide ((i : Int) < n) = false := by simp; omega
        have d6' : decide (i < n) = false := by simpa using hil
        go_wp2_with fail
        refine (wakes_any wr (HE.out.upd_nil (U9.out.trans UI.out))).mono ?_
        rintro e wz ⟨rfl, huz⟩
        have UZ := hide ((U9.out.trans UI.out).trans huz)
        clear huz
        go_wp2_with fail
        go_ret
        exact ⟨rfl, UZ.out⟩
end Go.Proofs.YtfmaflaoplkdbaaGreatDoor.Au
