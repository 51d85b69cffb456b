/- The document's record of a set. -/
import Derived.Test.YtekbhfpdakhhkaaGreatDoorSdA
namespace Go.Proofs.YtekbhfpdakhhkaaGreatDoor.St
set_option linter.unusedSimpArgs false
set_option linter.unusedVariables false
set_option linter.unnecessarySimpa false
open Go.RowKit Go.Lib Go.Proofs.YtekbhfpdakhhkaaGreatDoor.Crc Go.Proofs.YtekbhfpdakhhkaaGreatDoor.Var Go.Proofs.YtekbhfpdakhhkaaGreatDoor.DiskW

set_option maxRecDepth 100000 in
set_option maxHeartbeats 1000000 in
theorem rtext_any {s : List UInt8} (w : World) (hs : s.length ≤ 1000000) :
    Calls Tryz.prog 102 #[.string (strOf s)] w fun e w' => ∃ v, e = .returned v ∧ Made w (txB s) v w' := by
  have hz := strOf_size s
  obtain ⟨i0, hi, hz0, hz1, hz2⟩ := info_parts DiskW.infoB
  have ew : IntKind.u64.wrap (s.length : Int) = (s.length : Int) := IntWalk.u64_in _ (by omega)
  go_enter Tryz.func102, Tryz.ntmps102
  go_wp2_with fail
  refine (Ref.uint_any s.length (by omega) w).mono ?_
  rintro e w1 ⟨v1, ao, cap, rfl, rfl, ho, hu⟩
  have hul := uv_len10 (n := s.length) (by omega)
  have O1 := hide ho; have U1 := hide hu
  have hz1' := hu.size
  clear ho hu
  go_wp2_with (at_builtin; go_must (refine wpList_append_mystr _ rfl _ _ 39 9 rfl w.heap.size 5 i0 Tryz.underlying39 Tryz.underlying9 hi hz0 hz1 hz2 (.slice ao (uv s.length).length cap) _ _ rfl O1.out (strOf s) rfl (by rw [hz]; unfold maxLen; omega) (by rw [hz]; omega) (by omega) ?_))
  intro v2 w2 ho hu hn
  have hlt := owns_lt O1.out
  have O2 := hide (show w2.ownsRow w.heap.size 5 1 v2 (txB s).length ((txB s).map u8v) by simpa [strCells_of, Nat.add_assoc, txB] using ho)
  have U2 := hide (U1.out.trans_new hu (fun k hk => .inr (hlt k (by simpa using hk)).1))
  clear ho hu hn hz
  go_wp2_with fail
  go_ret
  exact ⟨_, rfl, O2.out, U2.out⟩
theorem Made.app {w w1 w2 w3 : World} {b1 b2 : List UInt8} {v v2 v3 : Value} (h : Made w b1 v w1) (k : Made w1 b2 v2 w2) (ho : w3.ownsRow w.heap.size 5 1 v3 (b1.length + b2.length) (b1.map u8v ++ b2.map u8v)) (hu : Upd v.ownBlock.toList w2 w3) : Made w (b1 ++ b2) v3 w3 :=
  ⟨by rw [List.length_append, List.map_append]; exact ho, (h.upd.trans k.upd).trans_new hu (fun g hm => .inr (owns_lt h.own g (by simpa using hm)).1)⟩
set_option maxRecDepth 100000 in
set_option maxHeartbeats 4000000 in
theorem rsbytes1 {slot n : Nat} {r : Int} {bytes : List UInt8} (w : World) (hs : slot < 18446744073709551616) (hn : n < 18446744073709551616) (hb : 0 ≤ r ∧ r < 7 ∨ 1 = 3) (hl : bytes.length ≤ 1000) :
    Calls Tryz.prog 78 #[.agg #[.int .i64 1, .int .u64 (slot : Int), .int .u64 (n : Int), .int .i64 r, .string (strOf bytes)]] w fun e w' => ∃ v, e = .returned v ∧ Made w (uv 1 ++ ballB ⟨n, r⟩) v w' := by
  have hX := blk_new w (.cells #[.int .i64 1, .int .u64 (slot : Int), .int .u64 (n : Int), .int .i64 r, .string (strOf bytes)] 51)
  have hu := (Upd.refl [] w).alloc (.cells #[.int .i64 1, .int .u64 (slot : Int), .int .u64 (n : Int), .int .i64 r, .string (strOf bytes)] 51)
  obtain ⟨i0, hi, hz0, hz1, hz2⟩ := info_parts DiskW.infoB
  have hl1 := uv_len10 hs
  go_enter Tryz.func78, Tryz.ntmps78
  go_upto_region 1 with fail
  generalize w.alloc (.cells #[.int .i64 1, .int .u64 (slot : Int), .int .u64 (n : Int), .int .i64 r, .string (strOf bytes)] 51) = w2 at *
  obtain ⟨B, hBn⟩ : ∃ B, w.heap.size = B := ⟨_, rfl⟩
  rw [hBn] at hX ⊢
  have X0 := hide (show w2.cell? ⟨B, 0, none⟩ = some (.int .i64 1) from blk_cell hX rfl)
  have X1 := hide (show w2.cell? ⟨B, 1, none⟩ = some (.int .u64 (slot : Int)) from blk_cell hX rfl)
  have X2 := hide (show w2.cell? ⟨B, 2, none⟩ = some (.int .u64 (n : Int)) from blk_cell hX rfl)
  have X3 := hide (show w2.cell? ⟨B, 3, none⟩ = some (.int .i64 r) from blk_cell hX rfl)
  have X4 := hide (show w2.cell? ⟨B, 4, none⟩ = some (.string (strOf bytes)) from blk_cell hX rfl)
  have x0 := X0.out
  have hbk := blk_new w2 (.cells #[.int .u8 1] 5)
  have hu3 := (Upd.refl [] w2).alloc (.cells #[.int .u8 1] 5)
  clear hX
  go_upto_region 2 with fail
  generalize w2.alloc (.cells #[.int .u8 1] 5) = w3 at *
  have hm3 : Made w (uv 1) (.slice (some ⟨w2.heap.size, 0, none⟩) 1 1) w3 := by
    rw [uv_last (by decide)]
    exact ⟨owns_block hbk (by have := hu.size; omega) rfl rfl (by simp [maxLen]), hu.trans hu3⟩
  have G := hide hu3
  have GG := hide hm3
  have LB := hide (show (uv 1).length ≤ 10 from uv_len10 (by decide))
  have hgl : (uv 1).length = 1 := by rw [uv_last (by decide)]; rfl
  have GL := hide hgl
  have NEW := hide (fun (g : Nat) (hg : (Value.slice (some ⟨w2.heap.size, 0, none⟩) 1 1).ownBlock = some g) => (show w2.heap.size ≤ g from by simp [Value.ownBlock] at hg; omega))
  clear hu hu3 hbk hm3 x0 hgl
  have x0 := Rec.cell_keep G.out X0.out (by simp)
  have x1 := Rec.cell_keep G.out X1.out (by simp)
  have x2 := Rec.cell_keep G.out X2.out (by simp)
  have x3 := Rec.cell_keep G.out X3.out (by simp)
  have x4 := Rec.cell_keep G.out X4.out (by simp)
  go_wp2_with fail
  refine (rball_nr w3 hn (hb.resolve_right (by decide))).mono ?_
  rintro e wn0 ⟨v, rfl, m2⟩
  obtain ⟨a2, q2, rfl⟩ := m2.slice
  have hl2 : (ballB ⟨n, r⟩).length ≤ 20 := by
    have h9 := uv_len10 hn
    have h8 := uv_len10 (n := r.toNat) (by have := hb.resolve_right (by decide); omega)
    simp only [ballB, List.length_append]
    omega
  have hlb := LB.out
  have hown := owns_upd GG.out.own m2.upd (by simp)
  rw [GL.out] at hown
  have hsz1 := GG.out.upd.size
  have hsz2 := m2.upd.size
  have gu := G.out.trans m2.upd
  have M2 := hide m2; have GU := hide gu
  clear gu m2 
  clear x0 x1 x2 x3 x4
  go_wp2_with (at_builtin; go_must (refine wpList_append_src _ rfl _ _ 39 rfl w.heap.size 5 i0 (.int .u8 0) 1 1 Tryz.underlying39 hi hz0 hz1 hz2 rfl (by decide) (.slice (some ⟨w2.heap.size, 0, none⟩) 1 1) 1 ((uv 1).map u8v) rfl hown a2 (ballB ⟨n, r⟩).length q2 ((ballB ⟨n, r⟩).map u8v) rfl (src_ownB M2.out.own) (by have := GL.out; unfold maxLen; omega) (by have := GL.out; omega) (by omega) ?_))
  intro ao0 cap0 wm0 ho0 hu0 hn0
  have hm0 := Made.app GG.out M2.out (by rw [GL.out, hBn]; simpa [List.map_append] using ho0) hu0
  have gw : Upd [] w2 wm0 := GU.out.trans_new hu0 (fun g hm => .inr (by have := owns_lt GG.out.own g (by simpa using hm); have := NEW.out g (by simpa using hm); omega))
  have NEW := hide (fun (g : Nat) (hg : (Value.slice ao0 (1 + (ballB ⟨n, r⟩).length) cap0).ownBlock = some g) => (show w2.heap.size ≤ g from by
    rcases hn0 g hg with e | e
    · exact NEW.out g e
    · have := GU.out.size; omega))
  have LB := hide (show (uv 1 ++ ballB ⟨n, r⟩).length ≤ 30 by have := LB.out; simp only [List.length_append] at *; omega)
  have GL := hide (show (uv 1 ++ ballB ⟨n, r⟩).length = (1 + (ballB ⟨n, r⟩).length) by rw [List.length_append, GL.out])
  have GG := hide hm0; have G := hide gw
  clear hm0 gw ho0 hu0 hn0 hown hl2 hlb hsz1 hsz2 M2 GU
  have x0 := Rec.cell_keep G.out X0.out (by simp)
  have x1 := Rec.cell_keep G.out X1.out (by simp)
  have x2 := Rec.cell_keep G.out X2.out (by simp)
  have x3 := Rec.cell_keep G.out X3.out (by simp)
  have x4 := Rec.cell_keep G.out X4.out (by simp)
  go_wp2_with fail
  go_ret
  exact ⟨_, rfl, GG.out⟩
set_option maxRecDepth 100000 in
set_option maxHeartbeats 4000000 in
theorem rsbytes2 {slot n : Nat} {r : Int} {bytes : List UInt8} (w : World) (hs : slot < 18446744073709551616) (hn : n < 18446744073709551616) (hb : 0 ≤ r ∧ r < 7 ∨ 2 = 3) (hl : bytes.length ≤ 1000) :
    Calls Tryz.prog 78 #[.agg #[.int .i64 2, .int .u64 (slot : Int), .int .u64 (n : Int), .int .i64 r, .string (strOf bytes)]] w fun e w' => ∃ v, e = .returned v ∧ Made w (uv 2 ++ uv slot ++ ballB ⟨n, r⟩ ++ txB bytes) v w' := by
  have hX := blk_new w (.cells #[.int .i64 2, .int .u64 (slot : Int), .int .u64 (n : Int), .int .i64 r, .string (strOf bytes)] 51)
  have hu := (Upd.refl [] w).alloc (.cells #[.int .i64 2, .int .u64 (slot : Int), .int .u64 (n : Int), .int .i64 r, .string (strOf bytes)] 51)
  obtain ⟨i0, hi, hz0, hz1, hz2⟩ := info_parts DiskW.infoB
  have hl1 := uv_len10 hs
  go_enter Tryz.func78, Tryz.ntmps78
  go_upto_region 1 with fail
  generalize w.alloc (.cells #[.int .i64 2, .int .u64 (slot : Int), .int .u64 (n : Int), .int .i64 r, .string (strOf bytes)] 51) = w2 at *
  obtain ⟨B, hBn⟩ : ∃ B, w.heap.size = B := ⟨_, rfl⟩
  rw [hBn] at hX ⊢
  have X0 := hide (show w2.cell? ⟨B, 0, none⟩ = some (.int .i64 2) from blk_cell hX rfl)
  have X1 := hide (show w2.cell? ⟨B, 1, none⟩ = some (.int .u64 (slot : Int)) from blk_cell hX rfl)
  have X2 := hide (show w2.cell? ⟨B, 2, none⟩ = some (.int .u64 (n : Int)) from blk_cell hX rfl)
  have X3 := hide (show w2.cell? ⟨B, 3, none⟩ = some (.int .i64 r) from blk_cell hX rfl)
  have X4 := hide (show w2.cell? ⟨B, 4, none⟩ = some (.string (strOf bytes)) from blk_cell hX rfl)
  have x0 := X0.out
  have hbk := blk_new w2 (.cells #[.int .u8 2] 5)
  have hu3 := (Upd.refl [] w2).alloc (.cells #[.int .u8 2] 5)
  clear hX
  go_upto_region 2 with fail
  generalize w2.alloc (.cells #[.int .u8 2] 5) = w3 at *
  have hm3 : Made w (uv 2) (.slice (some ⟨w2.heap.size, 0, none⟩) 1 1) w3 := by
    rw [uv_last (by decide)]
    exact ⟨owns_block hbk (by have := hu.size; omega) rfl rfl (by simp [maxLen]), hu.trans hu3⟩
  have G := hide hu3
  have GG := hide hm3
  have LB := hide (show (uv 2).length ≤ 10 from uv_len10 (by decide))
  have hgl : (uv 2).length = 1 := by rw [uv_last (by decide)]; rfl
  have GL := hide hgl
  have NEW := hide (fun (g : Nat) (hg : (Value.slice (some ⟨w2.heap.size, 0, none⟩) 1 1).ownBlock = some g) => (show w2.heap.size ≤ g from by simp [Value.ownBlock] at hg; omega))
  clear hu hu3 hbk hm3 x0 hgl
  have x0 := Rec.cell_keep G.out X0.out (by simp)
  have x1 := Rec.cell_keep G.out X1.out (by simp)
  have x2 := Rec.cell_keep G.out X2.out (by simp)
  have x3 := Rec.cell_keep G.out X3.out (by simp)
  have x4 := Rec.cell_keep G.out X4.out (by simp)
  go_wp2_with fail
  refine (Ref.uint_any slot hs w3).mono ?_
  rintro e wn0 ⟨v, a2, q2, rfl, rfl, hmo, hmu⟩
  have m2 : Made w3 (uv slot) (.slice a2 (uv slot).length q2) wn0 := ⟨hmo, hmu⟩
  have hl2 : (uv slot).length ≤ 10 := hl1
  have hlb := LB.out
  have hown := owns_upd GG.out.own m2.upd (by simp)
  rw [GL.out] at hown
  have hsz1 := GG.out.upd.size
  have hsz2 := m2.upd.size
  have gu := G.out.trans m2.upd
  have M2 := hide m2; have GU := hide gu
  clear gu m2 hmo hmu
  clear x0 x1 x2 x3 x4
  go_wp2_with (at_builtin; go_must (refine wpList_append_src _ rfl _ _ 39 rfl w.heap.size 5 i0 (.int .u8 0) 1 1 Tryz.underlying39 hi hz0 hz1 hz2 rfl (by decide) (.slice (some ⟨w2.heap.size, 0, none⟩) 1 1) 1 ((uv 2).map u8v) rfl hown a2 (uv slot).length q2 ((uv slot).map u8v) rfl (src_ownB M2.out.own) (by have := GL.out; unfold maxLen; omega) (by have := GL.out; omega) (by omega) ?_))
  intro ao0 cap0 wm0 ho0 hu0 hn0
  have hm0 := Made.app GG.out M2.out (by rw [GL.out, hBn]; simpa [List.map_append] using ho0) hu0
  have gw : Upd [] w2 wm0 := GU.out.trans_new hu0 (fun g hm => .inr (by have := owns_lt GG.out.own g (by simpa using hm); have := NEW.out g (by simpa using hm); omega))
  have NEW := hide (fun (g : Nat) (hg : (Value.slice ao0 (1 + (uv slot).length) cap0).ownBlock = some g) => (show w2.heap.size ≤ g from by
    rcases hn0 g hg with e | e
    · exact NEW.out g e
    · have := GU.out.size; omega))
  have LB := hide (show (uv 2 ++ uv slot).length ≤ 20 by have := LB.out; simp only [List.length_append] at *; omega)
  have GL := hide (show (uv 2 ++ uv slot).length = (1 + (uv slot).length) by rw [List.length_append, GL.out])
  have GG := hide hm0; have G := hide gw
  clear hm0 gw ho0 hu0 hn0 hown hl2 hlb hsz1 hsz2 M2 GU
  have x0 := Rec.cell_keep G.out X0.out (by simp)
  have x1 := Rec.cell_keep G.out X1.out (by simp)
  have x2 := Rec.cell_keep G.out X2.out (by simp)
  have x3 := Rec.cell_keep G.out X3.out (by simp)
  have x4 := Rec.cell_keep G.out X4.out (by simp)
  go_wp2_with fail
  refine (rball_nr wm0 hn (hb.resolve_right (by decide))).mono ?_
  rintro e wn1 ⟨v, rfl, m2⟩
  obtain ⟨a2, q2, rfl⟩ := m2.slice
  have hl2 : (ballB ⟨n, r⟩).length ≤ 20 := by
    have h9 := uv_len10 hn
    have h8 := uv_len10 (n := r.toNat) (by have := hb.resolve_right (by decide); omega)
    simp only [ballB, List.length_append]
    omega
  have hlb := LB.out
  have hown := owns_upd GG.out.own m2.upd (by simp)
  rw [GL.out] at hown
  have hsz1 := GG.out.upd.size
  have hsz2 := m2.upd.size
  have gu := G.out.trans m2.upd
  have M2 := hide m2; have GU := hide gu
  clear gu m2 
  clear x0 x1 x2 x3 x4
  go_wp2_with (at_builtin; go_must (refine wpList_append_src _ rfl _ _ 39 rfl w.heap.size 5 i0 (.int .u8 0) 1 1 Tryz.underlying39 hi hz0 hz1 hz2 rfl (by decide) (.slice ao0 (1 + (uv slot).length) cap0) (1 + (uv slot).length) ((uv 2 ++ uv slot).map u8v) rfl hown a2 (ballB ⟨n, r⟩).length q2 ((ballB ⟨n, r⟩).map u8v) rfl (src_ownB M2.out.own) (by have := GL.out; unfold maxLen; omega) (by have := GL.out; omega) (by omega) ?_))
  intro ao1 cap1 wm1 ho1 hu1 hn1
  have hm1 := Made.app GG.out M2.out (by rw [GL.out, hBn]; simpa [List.map_append] using ho1) hu1
  have gw : Upd [] w2 wm1 := GU.out.trans_new hu1 (fun g hm => .inr (by have := owns_lt GG.out.own g (by simpa using hm); have := NEW.out g (by simpa using hm); omega))
  have NEW := hide (fun (g : Nat) (hg : (Value.slice ao1 ((1 + (uv slot).length) + (ballB ⟨n, r⟩).length) cap1).ownBlock = some g) => (show w2.heap.size ≤ g from by
    rcases hn1 g hg with e | e
    · exact NEW.out g e
    · have := GU.out.size; omega))
  have LB := hide (show (uv 2 ++ uv slot ++ ballB ⟨n, r⟩).length ≤ 40 by have := LB.out; simp only [List.length_append] at *; omega)
  have GL := hide (show (uv 2 ++ uv slot ++ ballB ⟨n, r⟩).length = ((1 + (uv slot).length) + (ballB ⟨n, r⟩).length) by rw [List.length_append, GL.out])
  have GG := hide hm1; have G := hide gw
  clear hm1 gw ho1 hu1 hn1 hown hl2 hlb hsz1 hsz2 M2 GU
  have x0 := Rec.cell_keep G.out X0.out (by simp)
  have x1 := Rec.cell_keep G.out X1.out (by simp)
  have x2 := Rec.cell_keep G.out X2.out (by simp)
  have x3 := Rec.cell_keep G.out X3.out (by simp)
  have x4 := Rec.cell_keep G.out X4.out (by simp)
  go_wp2_with fail
  refine (rtext_any (s := bytes) wm1 (by omega)).mono ?_
  rintro e wn2 ⟨v, rfl, m2⟩
  obtain ⟨a2, q2, rfl⟩ := m2.slice
  have hl2 : (txB bytes).length ≤ 1010 := by
    have h9 := uv_len10 (n := bytes.length) (by omega)
    simp only [txB, List.length_append]
    omega
  have hlb := LB.out
  have hown := owns_upd GG.out.own m2.upd (by simp)
  rw [GL.out] at hown
  have hsz1 := GG.out.upd.size
  have hsz2 := m2.upd.size
  have gu := G.out.trans m2.upd
  have M2 := hide m2; have GU := hide gu
  clear gu m2 
  clear x0 x1 x2 x3 x4
  go_wp2_with (at_builtin; go_must (refine wpList_append_src _ rfl _ _ 39 rfl w.heap.size 5 i0 (.int .u8 0) 1 1 Tryz.underlying39 hi hz0 hz1 hz2 rfl (by decide) (.slice ao1 ((1 + (uv slot).length) + (ballB ⟨n, r⟩).length) cap1) ((1 + (uv slot).length) + (ballB ⟨n, r⟩).length) ((uv 2 ++ uv slot ++ ballB ⟨n, r⟩).map u8v) rfl hown a2 (txB bytes).length q2 ((txB bytes).map u8v) rfl (src_ownB M2.out.own) (by have := GL.out; unfold maxLen; omega) (by have := GL.out; omega) (by omega) ?_))
  intro ao2 cap2 wm2 ho2 hu2 hn2
  have hm2 := Made.app GG.out M2.out (by rw [GL.out, hBn]; simpa [List.map_append] using ho2) hu2
  have gw : Upd [] w2 wm2 := GU.out.trans_new hu2 (fun g hm => .inr (by have := owns_lt GG.out.own g (by simpa using hm); have := NEW.out g (by simpa using hm); omega))
  have NEW := hide (fun (g : Nat) (hg : (Value.slice ao2 (((1 + (uv slot).length) + (ballB ⟨n, r⟩).length) + (txB bytes).length) cap2).ownBlock = some g) => (show w2.heap.size ≤ g from by
    rcases hn2 g hg with e | e
    · exact NEW.out g e
    · have := GU.out.size; omega))
  have LB := hide (show (uv 2 ++ uv slot ++ ballB ⟨n, r⟩ ++ txB bytes).length ≤ 1050 by have := LB.out; simp only [List.length_append] at *; omega)
  have GL := hide (show (uv 2 ++ uv slot ++ ballB ⟨n, r⟩ ++ txB bytes).length = (((1 + (uv slot).length) + (ballB ⟨n, r⟩).length) + (txB bytes).length) by rw [List.length_append, GL.out])
  have GG := hide hm2; have G := hide gw
  clear hm2 gw ho2 hu2 hn2 hown hl2 hlb hsz1 hsz2 M2 GU
  have x0 := Rec.cell_keep G.out X0.out (by simp)
  have x1 := Rec.cell_keep G.out X1.out (by simp)
  have x2 := Rec.cell_keep G.out X2.out (by simp)
  have x3 := Rec.cell_keep G.out X3.out (by simp)
  have x4 := Rec.cell_keep G.out X4.out (by simp)
  go_wp2_with fail
  go_ret
  exact ⟨_, rfl, GG.out⟩
set_option maxRecDepth 100000 in
set_option maxHeartbeats 4000000 in
theorem rsbytes3 {slot n : Nat} {r : Int} {bytes : List UInt8} (w : World) (hs : slot < 18446744073709551616) (hn : n < 18446744073709551616) (hb : 0 ≤ r ∧ r < 7 ∨ 3 = 3) (hl : bytes.length ≤ 1000) :
    Calls Tryz.prog 78 #[.agg #[.int .i64 3, .int .u64 (slot : Int), .int .u64 (n : Int), .int .i64 r, .string (strOf bytes)]] w fun e w' => ∃ v, e = .returned v ∧ Made w (uv 3 ++ uv slot ++ txB bytes) v w' := by
  have hX := blk_new w (.cells #[.int .i64 3, .int .u64 (slot : Int), .int .u64 (n : Int), .int .i64 r, .string (strOf bytes)] 51)
  have hu := (Upd.refl [] w).alloc (.cells #[.int .i64 3, .int .u64 (slot : Int), .int .u64 (n : Int), .int .i64 r, .string (strOf bytes)] 51)
  obtain ⟨i0, hi, hz0, hz1, hz2⟩ := info_parts DiskW.infoB
  have hl1 := uv_len10 hs
  go_enter Tryz.func78, Tryz.ntmps78
  go_upto_region 1 with fail
  generalize w.alloc (.cells #[.int .i64 3, .int .u64 (slot : Int), .int .u64 (n : Int), .int .i64 r, .string (strOf bytes)] 51) = w2 at *
  obtain ⟨B, hBn⟩ : ∃ B, w.heap.size = B := ⟨_, rfl⟩
  rw [hBn] at hX ⊢
  have X0 := hide (show w2.cell? ⟨B, 0, none⟩ = some (.int .i64 3) from blk_cell hX rfl)
  have X1 := hide (show w2.cell? ⟨B, 1, none⟩ = some (.int .u64 (slot : Int)) from blk_cell hX rfl)
  have X2 := hide (show w2.cell? ⟨B, 2, none⟩ = some (.int .u64 (n : Int)) from blk_cell hX rfl)
  have X3 := hide (show w2.cell? ⟨B, 3, none⟩ = some (.int .i64 r) from blk_cell hX rfl)
  have X4 := hide (show w2.cell? ⟨B, 4, none⟩ = some (.string (strOf bytes)) from blk_cell hX rfl)
  have x0 := X0.out
  have hbk := blk_new w2 (.cells #[.int .u8 3] 5)
  have hu3 := (Upd.refl [] w2).alloc (.cells #[.int .u8 3] 5)
  clear hX
  go_upto_region 2 with fail
  generalize w2.alloc (.cells #[.int .u8 3] 5) = w3 at *
  have hm3 : Made w (uv 3) (.slice (some ⟨w2.heap.size, 0, none⟩) 1 1) w3 := by
    rw [uv_last (by decide)]
    exact ⟨owns_block hbk (by have := hu.size; omega) rfl rfl (by simp [maxLen]), hu.trans hu3⟩
  have G := hide hu3
  have GG := hide hm3
  have LB := hide (show (uv 3).length ≤ 10 from uv_len10 (by decide))
  have hgl : (uv 3).length = 1 := by rw [uv_last (by decide)]; rfl
  have GL := hide hgl
  have NEW := hide (fun (g : Nat) (hg : (Value.slice (some ⟨w2.heap.size, 0, none⟩) 1 1).ownBlock = some g) => (show w2.heap.size ≤ g from by simp [Value.ownBlock] at hg; omega))
  clear hu hu3 hbk hm3 x0 hgl
  have x0 := Rec.cell_keep G.out X0.out (by simp)
  have x1 := Rec.cell_keep G.out X1.out (by simp)
  have x2 := Rec.cell_keep G.out X2.out (by simp)
  have x3 := Rec.cell_keep G.out X3.out (by simp)
  have x4 := Rec.cell_keep G.out X4.out (by simp)
  go_wp2_with fail
  refine (Ref.uint_any slot hs w3).mono ?_
  rintro e wn0 ⟨v, a2, q2, rfl, rfl, hmo, hmu⟩
  have m2 : Made w3 (uv slot) (.slice a2 (uv slot).length q2) wn0 := ⟨hmo, hmu⟩
  have hl2 : (uv slot).length ≤ 10 := hl1
  have hlb := LB.out
  have hown := owns_upd GG.out.own m2.upd (by simp)
  rw [GL.out] at hown
  have hsz1 := GG.out.upd.size
  have hsz2 := m2.upd.size
  have gu := G.out.trans m2.upd
  have M2 := hide m2; have GU := hide gu
  clear gu m2 hmo hmu
  clear x0 x1 x2 x3 x4
  go_wp2_with (at_builtin; go_must (refine wpList_append_src _ rfl _ _ 39 rfl w.heap.size 5 i0 (.int .u8 0) 1 1 Tryz.underlying39 hi hz0 hz1 hz2 rfl (by decide) (.slice (some ⟨w2.heap.size, 0, none⟩) 1 1) 1 ((uv 3).map u8v) rfl hown a2 (uv slot).length q2 ((uv slot).map u8v) rfl (src_ownB M2.out.own) (by have := GL.out; unfold maxLen; omega) (by have := GL.out; omega) (by omega) ?_))
  intro ao0 cap0 wm0 ho0 hu0 hn0
  have hm0 := Made.app GG.out M2.out (by rw [GL.out, hBn]; simpa [List.map_append] using ho0) hu0
  have gw : Upd [] w2 wm0 := GU.out.trans_new hu0 (fun g hm => .inr (by have := owns_lt GG.out.own g (by simpa using hm); have := NEW.out g (by simpa using hm); omega))
  have NEW := hide (fun (g : Nat) (hg : (Value.slice ao0 (1 + (uv slot).length) cap0).ownBlock = some g) => (show w2.heap.size ≤ g from by
    rcases hn0 g hg with e | e
    · exact NEW.out g e
    · have := GU.out.size; omega))
  have LB := hide (show (uv 3 ++ uv slot).length ≤ 20 by have := LB.out; simp only [List.length_append] at *; omega)
  have GL := hide (show (uv 3 ++ uv slot).length = (1 + (uv slot).length) by rw [List.length_append, GL.out])
  have GG := hide hm0; have G := hide gw
  clear hm0 gw ho0 hu0 hn0 hown hl2 hlb hsz1 hsz2 M2 GU
  have x0 := Rec.cell_keep G.out X0.out (by simp)
  have x1 := Rec.cell_keep G.out X1.out (by simp)
  have x2 := Rec.cell_keep G.out X2.out (by simp)
  have x3 := Rec.cell_keep G.out X3.out (by simp)
  have x4 := Rec.cell_keep G.out X4.out (by simp)
  go_wp2_with fail
  refine (rtext_any (s := bytes) wm0 (by omega)).mono ?_
  rintro e wn1 ⟨v, rfl, m2⟩
  obtain ⟨a2, q2, rfl⟩ := m2.slice
  have hl2 : (txB bytes).length ≤ 1010 := by
    have h9 := uv_len10 (n := bytes.length) (by omega)
    simp only [txB, List.length_append]
    omega
  have hlb := LB.out
  have hown := owns_upd GG.out.own m2.upd (by simp)
  rw [GL.out] at hown
  have hsz1 := GG.out.upd.size
  have hsz2 := m2.upd.size
  have gu := G.out.trans m2.upd
  have M2 := hide m2; have GU := hide gu
  clear gu m2 
  clear x0 x1 x2 x3 x4
  go_wp2_with (at_builtin; go_must (refine wpList_append_src _ rfl _ _ 39 rfl w.heap.size 5 i0 (.int .u8 0) 1 1 Tryz.underlying39 hi hz0 hz1 hz2 rfl (by decide) (.slice ao0 (1 + (uv slot).length) cap0) (1 + (uv slot).length) ((uv 3 ++ uv slot).map u8v) rfl hown a2 (txB bytes).length q2 ((txB bytes).map u8v) rfl (src_ownB M2.out.own) (by have := GL.out; unfold maxLen; omega) (by have := GL.out; omega) (by omega) ?_))
  intro ao1 cap1 wm1 ho1 hu1 hn1
  have hm1 := Made.app GG.out M2.out (by rw [GL.out, hBn]; simpa [List.map_append] using ho1) hu1
  have gw : Upd [] w2 wm1 := GU.out.trans_new hu1 (fun g hm => .inr (by have := owns_lt GG.out.own g (by simpa using hm); have := NEW.out g (by simpa using hm); omega))
  have NEW := hide (fun (g : Nat) (hg : (Value.slice ao1 ((1 + (uv slot).length) + (txB bytes).length) cap1).ownBlock = some g) => (show w2.heap.size ≤ g from by
    rcases hn1 g hg with e | e
    · exact NEW.out g e
    · have := GU.out.size; omega))
  have LB := hide (show (uv 3 ++ uv slot ++ txB bytes).length ≤ 1030 by have := LB.out; simp only [List.length_append] at *; omega)
  have GL := hide (show (uv 3 ++ uv slot ++ txB bytes).length = ((1 + (uv slot).length) + (txB bytes).length) by rw [List.length_append, GL.out])
  have GG := hide hm1; have G := hide gw
  clear hm1 gw ho1 hu1 hn1 hown hl2 hlb hsz1 hsz2 M2 GU
  have x0 := Rec.cell_keep G.out X0.out (by simp)
  have x1 := Rec.cell_keep G.out X1.out (by simp)
  have x2 := Rec.cell_keep G.out X2.out (by simp)
  have x3 := Rec.cell_keep G.out X3.out (by simp)
  have x4 := Rec.cell_keep G.out X4.out (by simp)
  go_wp2_with fail
  go_ret
  exact ⟨_, rfl, GG.out⟩
/-- The document's record of a set is the program's. -/
theorem rsbytes_any {x : SetM} (w : World) (hx : SetOk x) (hb : x.kind ≠ 3 → 0 ≤ x.b.r ∧ x.b.r < 7) :
    Calls Tryz.prog 78 #[rsetV x.kind x.slot x.b.n x.b.r (strOf x.bytes)] w fun e w' => ∃ v, e = .returned v ∧ Made w (recB x) v w' := by
  obtain ⟨k, slot, ⟨n, r⟩, bytes⟩ := x
  rcases hx.kind with h | h | h
  · obtain rfl : k = 1 := h
    have := rsbytes1 (slot := slot) (bytes := bytes) w hx.slot hx.n (.inl (hb (show (1 : Nat) ≠ 3 by decide))) hx.len
    rw [rec_k1 rfl]
    exact this
  · obtain rfl : k = 2 := h
    have := rsbytes2 (slot := slot) (bytes := bytes) w hx.slot hx.n (.inl (hb (show (2 : Nat) ≠ 3 by decide))) hx.len
    rw [rec_k2 rfl]
    exact this
  · obtain rfl : k = 3 := h
    have := rsbytes3 (n := n) (r := r) (bytes := bytes) w hx.slot hx.n (.inr rfl) hx.len
    rw [rec_k3 rfl]
    exact this
end Go.Proofs.YtekbhfpdakhhkaaGreatDoor.St
