/- quoratelaw26.wakes. -/
import Derived.Test.YtfmaflaoplkdbaaGreatDoorAlMX
import Derived.Test.YtfmaflaoplkdbaaGreatDoorAuSJ
set_option linter.unusedSimpArgs false
set_option linter.unusedVariables false
set_option linter.unnecessarySimpa false
namespace Go.Proofs.YtfmaflaoplkdbaaGreatDoor.Au
open Go.RowKit Go.Proofs.YtfmaflaoplkdbaaGreatDoor.Crc Go.Proofs.YtfmaflaoplkdbaaGreatDoor.Cm Go.Proofs.YtfmaflaoplkdbaaGreatDoor.Tr Go.Proofs.YtfmaflaoplkdbaaGreatDoor.Kv
set_option linter.unusedSimpArgs false
set_option linter.unusedVariables false

/-- What an entry told, laid: its batches, then its answers. -/
theorem lay_da {w : World} {ds : List Dn} {al : List An} {cd ca : List (List Value)} {xd xa : Array Value} {td ta : TypeId} (hd : Each (dnK.holds w (Od w)) ds cd) (ha : Each (anK.holds w (Od w)) al ca) (h1 : cd.flatten.toArray = xd) (h2 : ca.flatten.toArray = xa) (h3 : ds.length ≤ 1000) (h4 : al.length ≤ 1000) {W : World} (hW : (w.alloc (.cells xd td)).alloc (.cells xa ta) = W) :
    dnK.row W (Od W) (.slice (some ⟨w.heap.size, 0, none⟩) ds.length ds.length) ds ∧ anK.row W (Od W) (.slice (some ⟨w.heap.size + 1, 0, none⟩) al.length al.length) al ∧ Upd [] w W ∧ W.heap.size = w.heap.size + 2 := by
  subst hW
  have u1 := (Upd.refl [] w).alloc (.cells xd td)
  have u2 := (Upd.refl [] (w.alloc (.cells xd td))).alloc (.cells xa ta)
  have r1 := Kind.put (t := td) hd h1 h3
  have r2 := Kind.put (t := ta) (Each.grow ha u1) h2 h4
  rw [World.size_alloc] at r2
  exact ⟨Kind.grow r1 u2, r2, u1.trans u2, by simp⟩
theorem lay_d {w : World} {ds : List Dn} {cd : List (List Value)} {xd : Array Value} {td : TypeId} (hd : Each (dnK.holds w (Od w)) ds cd) (h1 : cd.flatten.toArray = xd) (h3 : ds.length ≤ 1000) {W : World} (hW : w.alloc (.cells xd td) = W) :
    dnK.row W (Od W) (.slice (some ⟨w.heap.size, 0, none⟩) ds.length ds.length) ds ∧ Upd [] w W ∧ W.heap.size = w.heap.size + 1 := by
  subst hW
  exact ⟨Kind.put (t := td) hd h1 h3, (Upd.refl [] w).alloc _, by simp⟩
theorem lay_t {w : World} {l : List To} {css : List (List Value)} {xt : Array Value} {tt : TypeId} (h : Each (toK.holds w (Od w)) l css) (h1 : css.flatten.toArray = xt) (h3 : l.length ≤ 1000) {W : World} (hW : w.alloc (.cells xt tt) = W) :
    toK.row W (Od W) (.slice (some ⟨w.heap.size, 0, none⟩) l.length l.length) l ∧ Upd [] w W ∧ W.heap.size = w.heap.size + 1 := by
  subst hW
  exact ⟨Kind.put (t := tt) h h1 h3, (Upd.refl [] w).alloc _, by simp⟩
theorem small_of {told : List To} (h : ∀ t ∈ told, t.done.length ≤ 20 ∧ t.ans.length ≤ 60 ∧ ∀ d ∈ t.done, d.2 = xA ∨ d.2 = yA ∨ d.2 = xyA) : ∀ t ∈ told, t.done.length ≤ 20 ∧ t.ans.length ≤ 60 ∧ ∀ d ∈ t.done, d.2.length ≤ 2000 := fun t ht => by
  refine ⟨(h t ht).1, (h t ht).2.1, fun d hd => ?_⟩
  rcases (h t ht).2.2 d hd with h | h | h <;> rw [h]
  · exact Nat.le_trans (Nat.le_of_eq xA_len.1) (by decide)
  · exact Nat.le_trans (Nat.le_of_eq xA_len.2.1) (by decide)
  · exact Nat.le_trans (Nat.le_of_eq xA_len.2.2) (by decide)
/-- Check of a known history. -/
theorem check_at {lv tv : Value} {l : List En} {told : List To} {F : List (Nat × Nat)} (w : World) (he : EnvAt w) (hl : enK.row w (Od w) lv l) (ht : toK.row w (Od w) tv told) (hs : ∀ t ∈ told, t.done.length ≤ 20 ∧ t.ans.length ≤ 60 ∧ ∀ d ∈ t.done, d.2 = xA ∨ d.2 = yA ∨ d.2 = xyA) (h40 : told.length ≤ 40) (hF : foundM l told = F) :
    Calls Tryz.prog 11 #[lv, tv] w fun e w' => (∃ (xo : Option Addr) (c : Nat), e = .returned (.slice xo F.length c) ∧ F.length ≤ c ∧ c ≤ maxLen ∧ ∀ i f, F[i]? = some f → ∃ b off, xo = some ⟨b, off, none⟩ ∧ w'.cell? ⟨b, off + i * 2, none⟩ = some (.int .i64 (f.1 : Int)) ∧ w'.cell? ⟨b, off + i * 2 + 1, none⟩ = some (.int .u8 (f.2 : Int))) ∧ Upd [] w w' := by
  refine (check_any' (T := Od w) w he hl ht (fun _ h => h) (small_of hs) h40).mono ?_
  rintro e w' ⟨⟨out, sv, rfl, hlog, hrow⟩, hu⟩
  rw [found_is hlog, hF] at hrow
  obtain ⟨xo, c, rfl, h1, h2, hg⟩ := fn_at (show Row w' (since w.heap.size w') 2 fnP sv F from hrow)
  exact ⟨⟨xo, c, rfl, h1, h2, hg⟩, hu⟩
theorem eqlF0 (w : World) : (binOp .eql 51 (.agg #[.int .i64 0, .int .u8 5]) (.agg #[.int .i64 0, .int .u8 5])).run Tryz.prog w = .ok (.bool true) w := by kernel_rfl
theorem eqlF1 (w : World) : (binOp .eql 51 (.agg #[.int .i64 1, .int .u8 1]) (.agg #[.int .i64 1, .int .u8 1])).run Tryz.prog w = .ok (.bool true) w := by kernel_rfl
theorem eqlF2 (w : World) : (binOp .eql 51 (.agg #[.int .i64 1, .int .u8 3]) (.agg #[.int .i64 1, .int .u8 3])).run Tryz.prog w = .ok (.bool true) w := by kernel_rfl
theorem eqlF3 (w : World) : (binOp .eql 51 (.agg #[.int .i64 1, .int .u8 4]) (.agg #[.int .i64 1, .int .u8 4])).run Tryz.prog w = .ok (.bool true) w := by kernel_rfl
theorem wakes_world {w W : World} {b5 z : Nat} {xx yx : Option Addr} {xm xc ym yc : Nat} (hs : Strs w (Od w) (.slice (some ⟨b5, 0, none⟩) 1 1) [[107]]) (hx : Bts w (Od w) (.slice xx xm xc) xA) (hy : Bts w (Od w) (.slice yx ym yc) yA) (hz : w.heap.size = z)
    (hW : ((((((((w.alloc (.cells #[.int .u8 1, .int .i64 0, .int .i64 0, .int .i64 0, .int .u64 0, .int .u32 1, .int .u32 1, .int .u8 1, .slice (some ⟨b5, 0, none⟩) 1 1, .string (strOf []), .string (strOf [118]), .int .i64 0] 41)).alloc
      (.cells #[.int .u64 1, .slice xx xm xc] 34)).alloc (.cells #[.int .u32 1, .int .u32 1, .int .u8 0, .string ⟨#[]⟩] 39)).alloc
      (.cells #[.int .i64 0, .int .i64 0, .int .i64 0, .slice (some ⟨z + 1 + 1, 0, none⟩) 1 1, .slice (some ⟨z + 1, 0, none⟩) 1 1] 49)).alloc
      (.cells #[.int .u64 1, .slice xx xm xc] 34)).alloc (.cells #[.int .u32 1, .int .u32 1, .int .u8 0, .string ⟨#[120]⟩] 39)).alloc
      (.cells #[.int .u64 1, .slice yx ym yc, .int .u64 3, .slice xx xm xc] 34)).alloc
      (.cells #[.int .i64 0, .int .i64 0, .int .i64 0, .slice (some ⟨z + 1 + 1 + 1 + 1 + 1, 0, none⟩) 1 1, .slice (some ⟨z + 1 + 1 + 1 + 1, 0, none⟩) 1 1, .int .i64 0, .int .i64 0, .int .i64 0, .slice none 0 0, .slice (some ⟨z + 1 + 1 + 1 + 1 + 1 + 1, 0, none⟩) 2 2] 49)) = W) :
    enK.row W (Od W) (.slice (some ⟨z, 0, none⟩) 1 1) l0 ∧ toK.row W (Od W) (.slice (some ⟨z + 1 + 1 + 1, 0, none⟩) 1 1) good0 ∧ toK.row W (Od W) (.slice (some ⟨z + 1 + 1 + 1 + 1 + 1 + 1 + 1, 0, none⟩) 2 2) bad0 ∧ Upd [] w W := by
  obtain ⟨v1, h1⟩ : ∃ v1, w.alloc (.cells #[.int .u8 1, .int .i64 0, .int .i64 0, .int .i64 0, .int .u64 0, .int .u32 1, .int .u32 1, .int .u8 1, .slice (some ⟨b5, 0, none⟩) 1 1, .string (strOf []), .string (strOf [118]), .int .i64 0] 41) = v1 := ⟨_, rfl⟩
  have z1 : v1.heap.size = z + 1 := by rw [← h1, World.size_alloc, hz]
  have u1 : Upd [] w v1 := by rw [← h1]; exact (Upd.refl [] w).alloc _
  have r1 : enK.row v1 (Od v1) (.slice (some ⟨z, 0, none⟩) 1 1) l0 := by
    rw [← h1, ← hz]
    exact Kind.put (K := enK) (l := l0) (css := [enc ⟨1, 0, 0, putA 1⟩ 0 0 (.slice (some ⟨b5, 0, none⟩) 1 1)]) (.cons ⟨putA_fits 1 (by decide), 0, 0, _, rfl, hs⟩ .nil) rfl (by decide)
  rw [h1] at hW
  obtain ⟨v3, h3⟩ : ∃ v3, (v1.alloc (.cells #[.int .u64 1, .slice xx xm xc] 34)).alloc (.cells #[.int .u32 1, .int .u32 1, .int .u8 0, .string ⟨#[]⟩] 39) = v3 := ⟨_, rfl⟩
  obtain ⟨d3, a3, u3, z3⟩ := lay_da (ds := [(1, xA)]) (al := [ansA 1 0 []]) (cd := [dnc 1 (.slice xx xm xc)]) (ca := [anc (ansA 1 0 [])]) (.cons (dn_holds (by decide) (Bts.grow hx u1)) .nil) (.cons (an_holds (by decide)) .nil) rfl rfl (by decide) (by decide) h3
  rw [h3] at hW
  rw [z1] at d3 a3 z3
  obtain ⟨v4, h4⟩ : ∃ v4, v3.alloc (.cells #[.int .i64 0, .int .i64 0, .int .i64 0, .slice (some ⟨z + 1 + 1, 0, none⟩) 1 1, .slice (some ⟨z + 1, 0, none⟩) 1 1] 49) = v4 := ⟨_, rfl⟩
  obtain ⟨r4, u4, z4⟩ := lay_t (l := good0) (css := [toc 0 (.slice (some ⟨z + 1 + 1, 0, none⟩) 1 1) (.slice (some ⟨z + 1, 0, none⟩) 1 1)]) (.cons (to_holds a3 d3) .nil) rfl (by decide) h4
  rw [h4] at hW
  rw [z3] at r4 z4
  have u14 := u1.trans (u3.trans u4)
  obtain ⟨v6, h6⟩ : ∃ v6, (v4.alloc (.cells #[.int .u64 1, .slice xx xm xc] 34)).alloc (.cells #[.int .u32 1, .int .u32 1, .int .u8 0, .string ⟨#[120]⟩] 39) = v6 := ⟨_, rfl⟩
  obtain ⟨d6, a6, u6, z6⟩ := lay_da (ds := [(1, xA)]) (al := [ansA 1 0 [120]]) (cd := [dnc 1 (.slice xx xm xc)]) (ca := [anc (ansA 1 0 [120])]) (.cons (dn_holds (by decide) (Bts.grow hx u14)) .nil) (.cons (an_holds (by decide)) .nil) rfl rfl (by decide) (by decide) h6
  rw [h6] at hW
  rw [z4] at d6 a6 z6
  have u16 := u14.trans u6
  obtain ⟨v7, h7⟩ : ∃ v7, v6.alloc (.cells #[.int .u64 1, .slice yx ym yc, .int .u64 3, .slice xx xm xc] 34) = v7 := ⟨_, rfl⟩
  obtain ⟨d7, u7, z7⟩ := lay_d (ds := [(1, yA), (3, xA)]) (cd := [dnc 1 (.slice yx ym yc), dnc 3 (.slice xx xm xc)]) (.cons (dn_holds (by decide) (Bts.grow hy u16)) (.cons (dn_holds (by decide) (Bts.grow hx u16)) .nil)) rfl (by decide) h7
  rw [h7] at hW
  rw [z6] at d7 z7
  obtain ⟨r8, u8, z8⟩ := lay_t (l := bad0) (css := [toc 0 (.slice (some ⟨z + 1 + 1 + 1 + 1 + 1, 0, none⟩) 1 1) (.slice (some ⟨z + 1 + 1 + 1 + 1, 0, none⟩) 1 1), toc 0 (.slice none 0 0) (.slice (some ⟨z + 1 + 1 + 1 + 1 + 1 + 1, 0, none⟩) 2 2)]) (.cons (to_holds (Kind.grow a6 u7) (Kind.grow d6 u7)) (.cons (to_holds (anK.row_nil _ _) d7) .nil)) rfl (by decide) hW
  rw [z7] at r8
  have u47 := u6.trans (u7.trans u8)
  exact ⟨Kind.grow r1 (u3.trans (u4.trans u47)), Kind.grow r4 u47, r8, u1.trans (u3.trans (u4.trans u47))⟩
set_option maxRecDepth 100000 in
set_option maxHeartbeats 8000000 in
theorem wakes_any : WakesSays := by
  intro w he
  have HE := hide he
  clear he
  go_enter Tryz.func12, Tryz.ntmps12
  go_wp2_with fail
  refine (put26_any 1 _ rfl w).mono ?_
  rintro e w1 ⟨⟨b1, rfl, hs1⟩, hu1⟩
  have S1 := hide hs1; have U1 := hide hu1
  clear hs1 hu1
  go_wp2_with fail
  have hal := (Upd.refl [] w1).alloc (.cells [pcA 1 b1].flatten.toArray 25)
  have hrow := Kind.put (K := cmK) (t := 25) (.cons (pc_holds (by decide) S1.out) .nil : Each (cmK.holds w1 (Od w1)) [putA 1] [pcA 1 b1]) rfl (by decide)
  refine (batch_any (l := [putA 1]) (w1.alloc (.cells [pcA 1 b1].flatten.toArray 25)) hrow (fun _ h => h) ((HE.out.upd_nil (U1.out.trans hal)).cnt) (by decide) (puts_good [1] (by decide))).mono ?_
  rintro e w2 ⟨⟨vx, rfl, hx⟩, hu2⟩
  obtain ⟨xx, xm, xc, rfl, -⟩ := id hx
  have U2 := hide (U1.out.trans (hal.trans hu2)); have BX := hide (Bts.old hx)
  clear hal hrow hx hu2 S1 U1
  go_wp2_with fail
  refine (put26_any 2 _ rfl w2).mono ?_
  rintro e w3 ⟨⟨b2, rfl, hs3⟩, hu3⟩
  have S3 := hide hs3; have U3 := hide (U2.out.trans hu3); have V3 := hide hu3
  clear hs3 hu3 U2
  go_wp2_with fail
  have hal := (Upd.refl [] w3).alloc (.cells [pcA 2 b2].flatten.toArray 25)
  have hrow := Kind.put (K := cmK) (t := 25) (.cons (pc_holds (by decide) S3.out) .nil : Each (cmK.holds w3 (Od w3)) [putA 2] [pcA 2 b2]) rfl (by decide)
  refine (batch_any (l := [putA 2]) (w3.alloc (.cells [pcA 2 b2].flatten.toArray 25)) hrow (fun _ h => h) ((HE.out.upd_nil (U3.out.trans hal)).cnt) (by decide) (puts_good [2] (by decide))).mono ?_
  rintro e w4 ⟨⟨vy, rfl, hy⟩, hu4⟩
  obtain ⟨yx, ym, yc, rfl, -⟩ := id hy
  have U4 := hide (U3.out.trans (hal.trans hu4)); have BY := hide (Bts.old hy); have BX4 := hide (Bts.grow BX.out (V3.out.trans (hal.trans hu4)))
  clear hal hrow hy hu4 S3 U3 V3 BX
  go_wp2_with fail
  refine (put26_any 1 _ rfl w4).mono ?_
  rintro e w5 ⟨⟨b5, rfl, hs5⟩, hu5⟩
  have S5 := hide hs5; have U5 := hide (U4.out.trans hu5); have BX5 := hide (Bts.grow BX4.out hu5); have BY5 := hide (Bts.grow BY.out hu5)
  clear hs5 hu5 U4 BX4 BY
  go_wp2_with fail
  obtain ⟨z, hz⟩ : ∃ z, w5.heap.size = z := ⟨_, rfl⟩
  rw [hz]
  have hwl := fun W => wakes_world (W := W) S5.out BX5.out BY5.out hz
  obtain ⟨W, hW⟩ : ∃ W, ((((((((w5.alloc (.cells #[.int .u8 1, .int .i64 0, .int .i64 0, .int .i64 0, .int .u64 0, .int .u32 1, .int .u32 1, .int .u8 1, .slice (some ⟨b5, 0, none⟩) 1 1, .string (strOf []), .string (strOf [118]), .int .i64 0] 41)).alloc
      (.cells #[.int .u64 1, .slice xx xm xc] 34)).alloc (.cells #[.int .u32 1, .int .u32 1, .int .u8 0, .string ⟨#[]⟩] 39)).alloc
      (.cells #[.int .i64 0, .int .i64 0, .int .i64 0, .slice (some ⟨z + 1 + 1, 0, none⟩) 1 1, .slice (some ⟨z + 1, 0, none⟩) 1 1] 49)).alloc
      (.cells #[.int .u64 1, .slice xx xm xc] 34)).alloc (.cells #[.int .u32 1, .int .u32 1, .int .u8 0, .string ⟨#[120]⟩] 39)).alloc
      (.cells #[.int .u64 1, .slice yx ym yc, .int .u64 3, .slice xx xm xc] 34)).alloc
      (.cells #[.int .i64 0, .int .i64 0, .int .i64 0, .slice (some ⟨z + 1 + 1 + 1 + 1 + 1, 0, none⟩) 1 1, .slice (some ⟨z + 1 + 1 + 1 + 1, 0, none⟩) 1 1, .int .i64 0, .int .i64 0, .int .i64 0, .slice none 0 0, .slice (some ⟨z + 1 + 1 + 1 + 1 + 1 + 1, 0, none⟩) 2 2] 49)) = W := ⟨_, rfl⟩
  obtain ⟨re, rg, rb, uw⟩ := hwl W hW
  rw [hW]
  have RE := hide re; have RG := hide rg; have RB := hide rb; have UW := hide (U5.out.trans uw)
  clear hwl hW re rg rb uw S5 BX5 BY5 U5
  refine (check_at (l := l0) (told := bad0) W (HE.out.upd_nil UW.out) RE.out RB.out (by intro t ht; simp only [bad0, List.mem_cons, List.not_mem_nil, or_false] at ht; rcases ht with rfl | rfl <;> simp) (by decide) bad0_found).mono ?_
  rintro e w6 ⟨⟨fx, fc, rfl, hf1, hf2, hf⟩, hu6⟩
  obtain ⟨fb, fo, rfl, f00, f01⟩ := hf 0 _ rfl
  obtain ⟨fb', fo', e1, f10, f11⟩ := hf 1 _ rfl
  cases e1
  obtain ⟨fb', fo', e1, f20, f21⟩ := hf 2 _ rfl
  cases e1
  obtain ⟨fb', fo', e1, f30, f31⟩ := hf 3 _ rfl
  cases e1
  have RE6 := hide (Kind.grow RE.out hu6); have RG6 := hide (Kind.grow RG.out hu6); have U6 := hide (UW.out.trans hu6)
  have HF2 := hide hf2
  clear hf hu6 RE RG RB UW hf2
  go_wp2_with fail
  refine (check_at (l := l0) (told := good0) w6 (HE.out.upd_nil U6.out) RE6.out RG6.out (by intro t ht; simp only [good0, List.mem_cons, List.not_mem_nil, or_false] at ht; rcases ht with rfl; simp) (by decide) good0_found).mono ?_
  rintro e w7 ⟨⟨gx, gc, rfl, hg1, hg2, -⟩, hu7⟩
  have U7 := hide (U6.out.trans hu7)
  have g00 : w7.cell? ⟨fb, fo, none⟩ = some (.int .i64 0) := cellU f00 hu7 (by simp)
  have g01 : w7.cell? ⟨fb, fo + 1, none⟩ = some (.int .u8 5) := cellU f01 hu7 (by simp)
  have g10 : w7.cell? ⟨fb, fo + 2, none⟩ = some (.int .i64 1) := cellU f10 hu7 (by simp)
  have g11 : w7.cell? ⟨fb, fo + 2 + 1, none⟩ = some (.int .u8 1) := cellU f11 hu7 (by simp)
  have g20 : w7.cell? ⟨fb, fo + 4, none⟩ = some (.int .i64 1) := cellU f20 hu7 (by simp)
  have g21 : w7.cell? ⟨fb, fo + 4 + 1, none⟩ = some (.int .u8 3) := cellU f21 hu7 (by simp)
  have g30 : w7.cell? ⟨fb, fo + 6, none⟩ = some (.int .i64 1) := cellU f30 hu7 (by simp)
  have g31 : w7.cell? ⟨fb, fo + 6 + 1, none⟩ = some (.int .u8 4) := cellU f31 hu7 (by simp)
  clear hu7 f00 f01 f10 f11 f20 f21 f30 f31 hg2
  have e0 := eqlF0; have e1 := eqlF1; have e2 := eqlF2; have e3 := eqlF3
  go_wp2_with fail
  go_ret
  exact ⟨rfl, U7.out⟩
end Go.Proofs.YtfmaflaoplkdbaaGreatDoor.Au
