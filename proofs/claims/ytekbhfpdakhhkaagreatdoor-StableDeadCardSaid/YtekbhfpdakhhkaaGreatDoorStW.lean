/- A set's record: ballot.Put, set.record. -/
import Derived.Test.YtekbhfpdakhhkaaGreatDoorStHB
import Derived.Test.YtekbhfpdakhhkaaGreatDoorStG
import Derived.Test.YtekbhfpdakhhkaaGreatDoorRecAll
namespace Go.Proofs.YtekbhfpdakhhkaaGreatDoor.St
set_option linter.unusedSimpArgs false
set_option linter.unusedVariables false
set_option linter.unnecessarySimpa false
open Go.RowKit Go.Lib Go.Proofs.YtekbhfpdakhhkaaGreatDoor.Crc Go.Proofs.YtekbhfpdakhhkaaGreatDoor.Var Go.Proofs.YtekbhfpdakhhkaaGreatDoor.DiskW

theorem u64_wrap_int {r : Int} (h0 : 0 ≤ r) (h7 : r < 7) : IntKind.u64.wrap r = ((r.toNat : Nat) : Int) := by
  rw [IntWalk.u64_in _ (by omega)]
  omega
set_option maxRecDepth 100000 in
set_option maxHeartbeats 2000000 in
theorem bput_any {base : Nat} {v : Value} {bs : List UInt8} {b : Bal} (w : World) (hv : w.ownsRow base 5 1 v bs.length (bs.map u8v)) (hb : base ≤ w.heap.size) (hl : bs.length ≤ 1000000) (hn : b.n < 18446744073709551616) (hr : 0 ≤ b.r ∧ b.r < 7) :
    Calls Tryz.prog 88 #[v, balV b] w fun e w' => ∃ v', e = .returned v' ∧ Grew w base v (bs ++ ballB b) v' w' := by
  have hlv := owns_lt hv
  obtain ⟨ao, cap, rfl, -, -, -⟩ := owns_slice hv
  obtain ⟨n, r⟩ := b
  simp only at hn hr ⊢
  have hw := u64_wrap_int hr.1 hr.2
  have hrb : r.toNat < 18446744073709551616 := by omega
  obtain ⟨rn, hrn⟩ : ∃ rn, r.toNat = rn := ⟨_, rfl⟩
  rw [hrn] at hw hrb
  have hl10 := uv_len10 hn
  have hlr := uv_len10 hrb
  obtain ⟨b1, hb1⟩ : ∃ b1, bs ++ uv n = b1 := ⟨_, rfl⟩
  obtain ⟨b2, hb2⟩ : ∃ b2, b1 ++ uv rn = b2 := ⟨_, rfl⟩
  have hbb : bs ++ ballB ⟨n, r⟩ = b2 := by simp only [ballB, hrn]; rw [← hb2, ← hb1, List.append_assoc]
  have lz : b1.length ≤ 1000000000000 := by rw [← hb1]; simp only [List.length_append]; omega
  have HB1 := hide hb1; have HB2 := hide hb2
  rw [hbb]
  clear hbb hrn hr hb1 hb2
  have hX := blk_new w (.cells #[.int .u64 (n : Int), .int .i64 r] 25)
  have hu := (Upd.refl [] w).alloc (.cells #[.int .u64 (n : Int), .int .i64 r] 25)
  have hv2 := owns_upd hv hu (by simp)
  have hsz : (w.alloc (.cells #[.int .u64 (n : Int), .int .i64 r] 25)).heap.size = w.heap.size + 1 := by simp
  go_enter Tryz.func88, Tryz.ntmps88
  go_upto_region 1 with fail
  generalize w.alloc (.cells #[.int .u64 (n : Int), .int .i64 r] 25) = w2 at *
  obtain ⟨B, hBn⟩ : ∃ B, w.heap.size = B := ⟨_, rfl⟩
  have hne : B ∉ (Value.slice ao bs.length cap).ownBlock.toList := by
    intro hm
    have := hlv B (by simpa using hm)
    omega
  rw [hBn] at hX ⊢
  have x0 : w2.cell? ⟨B, 0, none⟩ = some (.int .u64 (n : Int)) := blk_cell hX rfl
  have x1 : w2.cell? ⟨B, 1, none⟩ = some (.int .i64 r) := blk_cell hX rfl
  have X0 := hide x0; have X1 := hide x1; have U2 := hide hu; have V2 := hide hv2; have NE := hide hne; have LV := hide hlv
  clear x0 x1 hu hv hv2 hX hne hlv
  have s0 : Upd (Value.slice ao bs.length cap).ownBlock.toList w2 (w2.drewN 1) := (Upd.refl _ w2).drewN 1
  have d0 : Upd [] w2 (w2.drewN 1) := (Upd.refl _ w2).drewN 1
  refine wp_region_z (fun wx => Upd (Value.slice ao bs.length cap).ownBlock.toList w2 wx) 99 (by kernel_rfl) ?_
  refine wpAnyZ_takeE 0 rfl (by kernel_rfl) (by kernel_rfl) (by kernel_rfl) (by kernel_rfl) (fun _ _ _ _ h => h) rfl (by exact s0) ?_
  apply Exists.intro
  refine ⟨fun wx hS => ?_, ?_⟩
  · go_simp; rfl
  simp only [Act.put, List.setIfInBounds_toArray, List.set_cons_succ, List.set_cons_zero, List.getElem_toArray, List.getElem_cons_zero]
  refine wpAnyZ_takeE 1 rfl (by kernel_rfl) (by kernel_rfl) (by kernel_rfl) (by kernel_rfl) (fun _ _ _ _ h => h) rfl (by exact s0) ?_
  apply Exists.intro
  refine ⟨fun wx hS => ?_, ?_⟩
  · go_simp; rfl
  simp only [Act.put, List.setIfInBounds_toArray, List.set_cons_succ, List.set_cons_zero, List.getElem_toArray, List.getElem_cons_succ, List.getElem_cons_zero]
  refine wpAnyZ_takeE 2 rfl (by kernel_rfl) (by kernel_rfl) (by kernel_rfl) (by kernel_rfl) (fun _ _ _ _ h => h) rfl (by exact s0) ?_
  apply Exists.intro
  refine ⟨fun wx hS => ?_, ?_⟩
  · have c0 := Rec.cell_keep hS X0.out NE.out; go_simp; rfl
  simp only [Act.put, List.setIfInBounds_toArray, List.set_cons_succ, List.set_cons_zero, List.getElem_toArray, List.getElem_cons_succ, List.getElem_cons_zero]
  refine wpAnyZ_takeE 4 rfl (by kernel_rfl) (by kernel_rfl) (by kernel_rfl) (by kernel_rfl) (fun _ _ _ _ h => h) rfl (by exact s0) ?_
  apply Exists.intro
  refine ⟨fun wx hS => ?_, ?_⟩
  · go_simp; rfl
  simp only [Act.put, List.setIfInBounds_toArray, List.set_cons_succ, List.set_cons_zero, List.getElem_toArray, List.getElem_cons_succ, List.getElem_cons_zero]
  refine wpAnyZ_takeE 5 rfl (by kernel_rfl) (by kernel_rfl) (by kernel_rfl) (by kernel_rfl) (fun _ _ _ _ h => h) rfl (by exact s0) ?_
  apply Exists.intro
  refine ⟨fun wx hS => ?_, ?_⟩
  · have c0 := Rec.cell_keep hS X1.out NE.out; go_simp; rfl
  simp only [Act.put, List.setIfInBounds_toArray, List.set_cons_succ, List.set_cons_zero, List.getElem_toArray, List.getElem_cons_succ, List.getElem_cons_zero]
  refine wpAnyZ_takeE 6 rfl (by kernel_rfl) (by kernel_rfl) (by kernel_rfl) (by kernel_rfl) (fun _ _ _ _ h => h) rfl (by exact s0) ?_
  apply Exists.intro
  refine ⟨fun wx hS => ?_, ?_⟩
  · go_simp; rfl
  simp only [Act.put, List.setIfInBounds_toArray, List.set_cons_succ, List.set_cons_zero, List.getElem_toArray, List.getElem_cons_succ, List.getElem_cons_zero]
  refine wpAnyZ_one 3 (by kernel_rfl) rfl rfl (fun K hK => ?_)
  try simp only [List.getElem_toArray, List.getElem_cons_succ, List.getElem_cons_zero]
  go_simp
  refine (uint_any (base := base) (bs := bs) (n := n) (w2.drewN 1) (owns_upd V2.out d0 (by simp)) (by have := d0.size; omega) (by omega) hn).mono ?_
  rw [HB1.out]
  rintro e w3 ⟨v3, rfl, h3⟩
  have s3 := s0.trans h3.upd
  obtain ⟨a3, c3, rfl, -, -, -⟩ := owns_slice h3.own
  have H3 := hide h3
  have z3 := h3.upd.size
  have zd := d0.size
  clear h3
  refine hK _ _ (.inr s3) ?_
  clear hK K
  try simp only [Act.put, List.setIfInBounds_toArray, List.set_cons_succ, List.set_cons_zero]
  refine wpAnyZ_one 7 (by kernel_rfl) rfl rfl (fun K hK => ?_)
  try simp only [List.getElem_toArray, List.getElem_cons_succ, List.getElem_cons_zero]
  go_simp
  refine (uint_any (base := base) (bs := b1) (n := rn) w3 H3.out.own (by omega) lz hrb).mono ?_
  rw [HB2.out]
  rintro e w4 ⟨v4, rfl, h4⟩
  have hg := Grew.trans H3.out h4 (by omega)
  have s4 := s0.trans hg.upd
  obtain ⟨a4, c4, rfl, -, -, -⟩ := owns_slice hg.own
  have H4 := hide hg
  clear h4 hg
  refine hK _ _ (.inr s4) ?_
  clear hK K
  try simp only [Act.put, List.setIfInBounds_toArray, List.set_cons_succ, List.set_cons_zero]
  refine wpAnyZ_takeE 8 rfl (by kernel_rfl) (by kernel_rfl) (by kernel_rfl) (by kernel_rfl) (fun _ _ _ _ h => h) rfl (by exact s4) ?_
  apply Exists.intro
  refine ⟨fun wx hS => ?_, ?_⟩
  · go_simp; rfl
  simp only [Act.put, List.setIfInBounds_toArray, List.set_cons_succ, List.set_cons_zero, List.getElem_toArray, List.getElem_cons_succ, List.getElem_cons_zero]
  refine wpAnyZ_done (by kernel_rfl) ?_ _
  have HF : Grew w base (.slice ao bs.length cap) b2 (.slice a4 b2.length c4) w4 := by
    refine ⟨H4.out.own, (U2.out.mono (by simp)).trans (s0.trans H4.out.upd), fun k hk => ?_⟩
    rcases H4.out.new k hk with h1 | h1
    · exact .inl h1
    · exact .inr (by have := d0.size; omega)
  have HF' := hide HF
  clear HF s4 s3 s0
  go_wp2_with fail
  go_ret
  exact ⟨_, rfl, HF'.out⟩
theorem rec_k1 {k slot : Nat} {b : Bal} {bytes : List UInt8} (h : k = 1) : recB ⟨k, slot, b, bytes⟩ = [] ++ uv k ++ ballB b := by
  subst h; simp [recB]
theorem rec_k2 {k slot : Nat} {b : Bal} {bytes : List UInt8} (h : k = 2) : recB ⟨k, slot, b, bytes⟩ = [] ++ uv k ++ uv slot ++ ballB b ++ txB bytes := by
  subst h; simp [recB]
theorem rec_k3 {k slot : Nat} {b : Bal} {bytes : List UInt8} (h : k = 3) : recB ⟨k, slot, b, bytes⟩ = [] ++ uv k ++ uv slot ++ txB bytes := by
  subst h; simp [recB]
/-- A row of bytes that is made since w. -/
structure Made (w : World) (bs : List UInt8) (v : Value) (w' : World) : Prop where
  own : w'.ownsRow w.heap.size 5 1 v bs.length (bs.map u8v)
  upd : Upd [] w w'
theorem Made.grew {w w1 w2 : World} {b1 b2 : List UInt8} {v v2 : Value} (h : Made w b1 v w1) (k : Grew w1 w.heap.size v b2 v2 w2) : Made w b2 v2 w2 :=
  ⟨k.own, h.upd.trans_new k.upd (fun g hm => .inr (owns_lt h.own g (by simpa using hm)).1)⟩
theorem Made.keep {w w1 : World} {b1 : List UInt8} {v v2 : Value} {k i : Nat} (h : Made w b1 v w1) (hc : w.cell? ⟨k, i, none⟩ = some v2) : w1.cell? ⟨k, i, none⟩ = some v2 := Rec.cell_keep h.upd hc (by simp)
theorem Made.slice {w w1 : World} {b1 : List UInt8} {v : Value} (h : Made w b1 v w1) : ∃ ao cap, v = .slice ao b1.length cap := by
  obtain ⟨ao, cap, rfl, -⟩ := owns_slice h.own
  exact ⟨ao, cap, rfl⟩
set_option maxRecDepth 100000 in
set_option maxHeartbeats 4000000 in
theorem record_any {xo : Option Addr} {xn xc : Nat} {x : SetM} (w : World) (hx : SetOk x) (hb : x.kind ≠ 3 → 0 ≤ x.b.r ∧ x.b.r < 7) (hs : SrcAt w xo xn xc (x.bytes.map u8v) 1) :
    Calls Tryz.prog 72 #[setV x (.slice xo xn xc)] w fun e w' => ∃ v', e = .returned v' ∧ w'.ownsRow w.heap.size 5 1 v' (recB x).length ((recB x).map u8v) ∧ Upd [] w w' := by
  obtain ⟨k, slot, b, bytes⟩ := x
  have hxk := hx.kind
  have hxs := hx.slot
  have hxn := hx.n
  have hxl := hx.len
  simp only at hxk hxs hxn hxl hb hs ⊢
  have hkn : k < 18446744073709551616 := by omega
  obtain ⟨rb, hrb⟩ : ∃ rb, recB ⟨k, slot, b, bytes⟩ = rb := ⟨_, rfl⟩
  rw [hrb]
  obtain ⟨b1, hb1⟩ : ∃ b1, ([] : List UInt8) ++ uv k = b1 := ⟨_, rfl⟩
  have hl1 : b1.length ≤ 10 := by rw [← hb1]; simpa using uv_len10 hkn
  obtain ⟨n, r⟩ := b
  have hX := blk_new w (setC k slot n r (.slice xo xn xc))
  have hu := (Upd.refl [] w).alloc (setC k slot n r (.slice xo xn xc))
  have hs2 := src_upd hs hu (by simp)
  have hsz : (w.alloc (setC k slot n r (.slice xo xn xc))).heap.size = w.heap.size + 1 := by simp
  have HB1 := hide hb1; have HRB := hide hrb
  clear hx hs hb1 hrb
  simp only at hxn hb
  go_enter Tryz.func72, Tryz.ntmps72
  have HK : (k = 1 ∧ ((k : Int) != 1) = false ∧ ((k : Int) != 3) = true) ∨ (k = 2 ∧ ((k : Int) != 1) = true ∧ ((k : Int) != 3) = true) ∨ (k = 3 ∧ ((k : Int) != 1) = true ∧ ((k : Int) != 3) = false) := by
    rcases hxk with rfl | rfl | rfl
    · exact .inl ⟨rfl, by decide, by decide⟩
    · exact .inr (.inl ⟨rfl, by decide, by decide⟩)
    · exact .inr (.inr ⟨rfl, by decide, by decide⟩)
  have HKK := hide HK
  clear HK hxk
  go_wp2_with fail
  generalize w.alloc (setC k slot n r (.slice xo xn xc)) = w2 at *
  obtain ⟨B, hBn⟩ : ∃ B, w.heap.size = B := ⟨_, rfl⟩
  rw [hBn] at hX hsz ⊢
  have x0 : w2.cell? ⟨B, 0, none⟩ = some (.int .u64 (k : Int)) := blk_cell hX rfl
  have x1 : w2.cell? ⟨B, 1, none⟩ = some (.int .u64 (slot : Int)) := blk_cell hX rfl
  have x2 : w2.cell? ⟨B, 2, none⟩ = some (.int .u64 (n : Int)) := blk_cell hX rfl
  have x3 : w2.cell? ⟨B, 3, none⟩ = some (.int .i64 r) := blk_cell hX rfl
  have x4 : w2.cell? ⟨B, 4, none⟩ = some (.slice xo xn xc) := blk_cell hX rfl
  have X0 := hide x0; have X1 := hide x1; have X2 := hide x2; have X3 := hide x3; have X4 := hide x4; have U2 := hide hu; have S2 := hide hs2
  clear x0 x1 x2 x3 x4 hX hu hs2
  refine (uint_any (base := w2.heap.size) (v := .slice none 0 0) (bs := []) (n := k) w2 (World.ownsRow_nil _ _ _ _) (Nat.le_refl _) (by simp) hkn).mono ?_
  rw [HB1.out]
  rintro e w3 ⟨v3, rfl, h3⟩
  have hg : Made w2 b1 v3 w3 := ⟨h3.own, h3.upd.mono (by simp [Value.ownBlock])⟩
  clear h3
  have hfin : ∀ (v : Value) (wf : World), Made w2 rb v wf → wf.ownsRow w.heap.size 5 1 v rb.length (rb.map u8v) ∧ Upd [] w wf := fun _ _ h => ⟨Rec.owns_mono h.own (by omega), U2.out.trans h.upd⟩
  have FIN := hide hfin
  clear hfin
  rcases HKK.out with ⟨hk, q1, q3⟩ | ⟨hk, q1, q3⟩ | ⟨hk, q1, q3⟩
  · have hrb := rec_k1 (k := k) (slot := slot) (b := ⟨n, r⟩) (bytes := bytes) hk
    rw [HRB.out, HB1.out] at hrb
    have hb' := hb (by omega)
    have RB := hide hrb
    clear hk hb hrb
    obtain ⟨a1, q1, rfl⟩ := hg.slice
    have c0 := hg.keep X0.out
    have c1 := hg.keep X1.out
    have c2 := hg.keep X2.out
    have c3 := hg.keep X3.out
    have c4 := hg.keep X4.out
    have hq := run_str (src_upd S2.out hg.upd (by simp))
    have GG := hide hg
    have gz := hg.upd.size
    clear hg
    go_wp2_with fail
    clear hq
    refine (bput_any (base := w2.heap.size) (bs := b1) (b := ⟨n, r⟩) _ GG.out.own (by omega) (by omega) hxn hb').mono ?_
    rw [← RB.out]
    rintro e wn ⟨vn, rfl, hn⟩
    have hg := GG.out.grew hn
    clear hn GG gz
    obtain ⟨a9, q9, rfl⟩ := hg.slice
    have c0 := hg.keep X0.out
    have GG := hide hg
    clear hg
    go_wp2_with fail
    go_ret
    exact ⟨_, rfl, FIN.out _ _ GG.out⟩
  · have hrb := rec_k2 (k := k) (slot := slot) (b := ⟨n, r⟩) (bytes := bytes) hk
    rw [HRB.out, HB1.out] at hrb
    have hb' := hb (by omega)
    obtain ⟨b2, hb2⟩ : ∃ b2, b1 ++ uv slot = b2 := ⟨_, rfl⟩
    obtain ⟨b3, hb3⟩ : ∃ b3, b2 ++ ballB ⟨n, r⟩ = b3 := ⟨_, rfl⟩
    rw [hb2, hb3] at hrb
    have hl2 : b2.length ≤ 20 := by rw [← hb2, List.length_append]; have := uv_len10 hxs; omega
    have hl3 : b3.length ≤ 40 := by rw [← hb3, List.length_append]; have h1 := uv_len10 hxn; have h2 := uv_len10 (n := r.toNat) (by omega); simp only [ballB, List.length_append]; omega
    have RB := hide hrb; have B2 := hide hb2; have B3 := hide hb3
    clear hk hb hrb hb2 hb3
    obtain ⟨a1, q1, rfl⟩ := hg.slice
    have c0 := hg.keep X0.out
    have c1 := hg.keep X1.out
    have c2 := hg.keep X2.out
    have c3 := hg.keep X3.out
    have c4 := hg.keep X4.out
    have hq := run_str (src_upd S2.out hg.upd (by simp))
    have GG := hide hg
    have gz := hg.upd.size
    clear hg
    go_wp2_with fail
    clear hq
    refine (uint_any (base := w2.heap.size) (bs := b1) (n := slot) _ GG.out.own (by omega) (by omega) hxs).mono ?_
    rw [B2.out]
    rintro e wn ⟨vn, rfl, hn⟩
    have hg := GG.out.grew hn
    clear hn GG gz
    obtain ⟨a1, q1, rfl⟩ := hg.slice
    have c0 := hg.keep X0.out
    have c1 := hg.keep X1.out
    have c2 := hg.keep X2.out
    have c3 := hg.keep X3.out
    have c4 := hg.keep X4.out
    have hq := run_str (src_upd S2.out hg.upd (by simp))
    have GG := hide hg
    have gz := hg.upd.size
    clear hg
    go_wp2_with fail
    clear hq
    refine (bput_any (base := w2.heap.size) (bs := b2) (b := ⟨n, r⟩) _ GG.out.own (by omega) (by omega) hxn hb').mono ?_
    rw [B3.out]
    rintro e wn ⟨vn, rfl, hn⟩
    have hg := GG.out.grew hn
    clear hn GG gz
    obtain ⟨a1, q1, rfl⟩ := hg.slice
    have c0 := hg.keep X0.out
    have c1 := hg.keep X1.out
    have c2 := hg.keep X2.out
    have c3 := hg.keep X3.out
    have c4 := hg.keep X4.out
    have hq := run_str (src_upd S2.out hg.upd (by simp))
    have GG := hide hg
    have gz := hg.upd.size
    clear hg
    go_wp2_with fail
    clear hq
    refine (text_any (base := w2.heap.size) (bs := b3) (s := bytes) _ GG.out.own (by omega) (by omega) (by omega)).mono ?_
    rw [← RB.out]
    rintro e wn ⟨vn, rfl, hn⟩
    have hg := GG.out.grew hn
    clear hn GG gz
    obtain ⟨a9, q9, rfl⟩ := hg.slice
    have c0 := hg.keep X0.out
    have GG := hide hg
    clear hg
    go_wp2_with fail
    go_ret
    exact ⟨_, rfl, FIN.out _ _ GG.out⟩
  · have hrb := rec_k3 (k := k) (slot := slot) (b := ⟨n, r⟩) (bytes := bytes) hk
    rw [HRB.out, HB1.out] at hrb
    obtain ⟨b2, hb2⟩ : ∃ b2, b1 ++ uv slot = b2 := ⟨_, rfl⟩
    rw [hb2] at hrb
    have hl2 : b2.length ≤ 20 := by rw [← hb2, List.length_append]; have := uv_len10 hxs; omega
    have RB := hide hrb; have B2 := hide hb2
    clear hk hb hrb hb2
    obtain ⟨a1, q1, rfl⟩ := hg.slice
    have c0 := hg.keep X0.out
    have c1 := hg.keep X1.out
    have c2 := hg.keep X2.out
    have c3 := hg.keep X3.out
    have c4 := hg.keep X4.out
    have hq := run_str (src_upd S2.out hg.upd (by simp))
    have GG := hide hg
    have gz := hg.upd.size
    clear hg
    go_wp2_with fail
    clear hq
    refine (uint_any (base := w2.heap.size) (bs := b1) (n := slot) _ GG.out.own (by omega) (by omega) hxs).mono ?_
    rw [B2.out]
    rintro e wn ⟨vn, rfl, hn⟩
    have hg := GG.out.grew hn
    clear hn GG gz
    obtain ⟨a1, q1, rfl⟩ := hg.slice
    have c0 := hg.keep X0.out
    have c1 := hg.keep X1.out
    have c2 := hg.keep X2.out
    have c3 := hg.keep X3.out
    have c4 := hg.keep X4.out
    have hq := run_str (src_upd S2.out hg.upd (by simp))
    have GG := hide hg
    have gz := hg.upd.size
    clear hg
    go_wp2_with fail
    clear hq
    refine (text_any (base := w2.heap.size) (bs := b2) (s := bytes) _ GG.out.own (by omega) (by omega) (by omega)).mono ?_
    rw [← RB.out]
    rintro e wn ⟨vn, rfl, hn⟩
    have hg := GG.out.grew hn
    clear hn GG gz
    obtain ⟨a9, q9, rfl⟩ := hg.slice
    have c0 := hg.keep X0.out
    have GG := hide hg
    clear hg
    go_wp2_with fail
    go_ret
    exact ⟨_, rfl, FIN.out _ _ GG.out⟩
end Go.Proofs.YtekbhfpdakhhkaaGreatDoor.St
