/- The law's pair: an act of the first four kinds. -/
import Derived.Test.YtekbhfpdakhhkaaGreatDoorSdQ
namespace Go.Proofs.YtekbhfpdakhhkaaGreatDoor.St
set_option linter.unusedSimpArgs false
set_option linter.unusedVariables false
set_option linter.unnecessarySimpa false
open Go.RowKit Go.Lib Go.Proofs.YtekbhfpdakhhkaaGreatDoor.Crc Go.Proofs.YtekbhfpdakhhkaaGreatDoor.Var Go.Proofs.YtekbhfpdakhhkaaGreatDoor.DiskW Go.Proofs.YtekbhfpdakhhkaaGreatDoor.Rec Go.Proofs.YtekbhfpdakhhkaaGreatDoor.Fr

theorem pair_set {E : List Nat} {w0 w w1 : World} {P S L D g base q i : Nat} {recs : List (List UInt8)} {s : Sto} {A' B' : ByteArray} {v : Value} (h : PairAt E w0 w P S L D g base recs q s i) (hr : Row w (PT w P S L D g) 4 rvP v s.votes) (hu : Upd [P] w w1) (hb : w1.heap[P]? = some (pairO D S A' B' s v)) (hsz : A'.size + B'.size ≤ 3000 * i) : PairAt E w0 w1 P S L D g base recs q s i := by
  have l1 := h.log.ltDD.1
  have hDP : D ≠ P := fun e => h.frn.2.1.ne e.symm
  exact ⟨h.log.asideD hu (by simpa using h.frn) (by simpa using h.old), h.frn.aside hu l1 (by simpa using hDP), h.old, A', B', v, hb, hsz, row_setP hr hu l1 hDP⟩
theorem pair_sync {E : List Nat} {w0 w w1 : World} {P S L D g base q q' i : Nat} {recs : List (List UInt8)} {s : Sto} (h : PairAt E w0 w P S L D g base recs q s i) (hl : LogS E w0 w1 S L D g base recs q' s i) (ht : Turned D [] w w1) : PairAt E w0 w1 P S L D g base recs q' s i := by
  obtain ⟨A, B, v, h1, h2, h3⟩ := h.blk
  have ht' := ht.mono (X' := [S, g]) (by simp)
  exact ⟨hl, h.frn.turnedD ht' (by simp), h.old, A, B, v, ((ht.block h.frn.2.1 (by simp)).2).trans h1, h2, row_turned h3 ht'⟩
theorem lsync_logD {E : List Nat} {w0 w : World} {S L D g base q i : Nat} {recs : List (List UInt8)} {s : Sto} (h : LogS E w0 w S L D g base recs q s i) :
    Calls Tryz.prog 11 #[.pointer (some ⟨S, 0, none⟩)] w fun e w' => e = .returned (.int .i64 0) ∧ LogS E w0 w' S L D g base recs recs.length s i ∧ Turned D [] w w' := by
  obtain ⟨bv, so, sn, sc, hs⟩ := h.at_
  refine (ssync_any (i := i) w hs h.lt.2.2.2.2.2 h.hb).mono ?_
  rw [logD_sync]
  rintro e w' ⟨rfl, ⟨bv', hs'⟩, ht⟩
  exact ⟨rfl, ⟨⟨bv', so, sn, sc, hs'⟩, h.lt, Nat.le_trans h.hb ht.size, ht.far hs.dsk h.upd h.lt.2.2.2.2.1 h.lt.1 (by simp), h.tab, Nat.le_refl _, h.hl, h.hn, h.sto⟩, ht⟩
set_option maxRecDepth 100000 in
set_option maxHeartbeats 8000000 in
theorem act_any {E : List Nat} {w0 : World} {P S L D g base q i : Nat} {recs : List (List UInt8)} {s : Sto} {a : A16} {xo : Option Addr} {xn xc : Nat} (w : World) (h : PairAt E w0 w P S L D g base recs q s i) (hi : i ≤ 800) (hok : ActOk a) (hl : a.bytes.length ≤ 200) (hin : InT w0 (fun k => k < w0.heap.size) xo xn xc a.bytes) (hk : a.k % 8 < 4) :
    Calls Tryz.prog 8 #[.pointer (some ⟨P, 0, none⟩), act8V a (.slice xo xn xc)] w (PairSays w0 E P S L D g base i) := by
  have hX := blk_new w (act8O a (.slice xo xn xc))
  have hu2 := (Upd.refl [] w).alloc (act8O a (.slice xo xn xc))
  have PA2 := h.upd_nil hu2
  clear h
  go_enter Tryz.func8, Tryz.ntmps8
  go_upto_region 1 with fail
  generalize w.alloc (act8O a (.slice xo xn xc)) = w2 at *
  obtain ⟨Bx, hBx⟩ : ∃ Bx, w.heap.size = Bx := ⟨_, rfl⟩
  rw [hBx] at hX ⊢
  have x0 : w2.cell? ⟨Bx, 0, none⟩ = some (.int .u8 (a.k : Int)) := blk_cell hX rfl
  have x1 : w2.cell? ⟨Bx, 1, none⟩ = some (.int .i64 a.N) := blk_cell hX rfl
  have x2 : w2.cell? ⟨Bx, 2, none⟩ = some (.int .u64 (a.slot : Int)) := blk_cell hX rfl
  have x3 : w2.cell? ⟨Bx, 3, none⟩ = some (.int .u64 (a.n : Int)) := blk_cell hX rfl
  have x4 : w2.cell? ⟨Bx, 4, none⟩ = some (.int .i64 a.r) := blk_cell hX rfl
  have x5 : w2.cell? ⟨Bx, 5, none⟩ = some (.slice xo xn xc) := blk_cell hX rfl
  have PA := hide PA2
  clear hX hu2 hBx PA2
  have q4 : (((a.k : Int) % 8) == 4) = false := by simp; omega
  have q5 : (((a.k : Int) % 8) == 5) = false := by simp; omega
  have q6 : (((a.k : Int) % 8) == 6) = false := by simp; omega
  have q7 : (((a.k : Int) % 8) == 7) = false := by simp; omega
  by_cases h3 : a.k % 8 = 3
  · have q3 : (((a.k : Int) % 8) == 3) = true := by simp; omega
    clear h3 hk
    obtain ⟨A, B, v, hblk, hsz, hrow⟩ := PA.out.blk
    have p11 : w2.cell? ⟨P, 11, none⟩ = some (.bool true) := blk_cell hblk rfl
    have BLK := hide hblk; have ROW := hide hrow; have SZ := hide hsz
    clear hblk hrow hsz x1 x2 x3 x4 x5
    go_wp2_with fail
    refine (does1_any w2 BLK.out (by have := SZ.out; omega)).mono ?_
    rintro e w3 ⟨rfl, hu3, A', B', hb3, hsz3⟩
    have PA3 := hide (pair_set PA.out ROW.out hu3 hb3 (by have := SZ.out; omega))
    have p1 : w3.cell? ⟨P, 1, none⟩ = some (.pointer (some ⟨S, 0, none⟩)) := blk_cell hb3 rfl
    clear hu3 hb3 hsz3 p11 x0
    go_wp2_with fail
    refine (lsync_logD PA3.out.log).mono ?_
    rintro e w4 ⟨rfl, hl4, ht4⟩
    have PA4 := hide (pair_sync PA3.out hl4 ht4)
    clear hl4 ht4 p1
    go_wp2_with fail
    go_ret
    exact ⟨rfl, _, _, _, PA4.out.weak (by omega)⟩
  · have q3 : (((a.k : Int) % 8) == 3) = false := by simp; omega
    clear h3 hk
    go_wp2_with fail
    refine (sets_any w2 PA.out hi hok hl hin).mono ?_
    rintro e w3 ⟨rfl, h3⟩
    have H3 := hide h3
    clear h3
    go_wp2_with fail
    go_ret
    exact ⟨rfl, H3.out⟩
end Go.Proofs.YtekbhfpdakhhkaaGreatDoor.St
