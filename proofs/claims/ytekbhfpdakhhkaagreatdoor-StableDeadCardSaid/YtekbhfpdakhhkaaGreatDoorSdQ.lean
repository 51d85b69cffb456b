/- The law's pair: a set on both sides; an act. -/
import Derived.Test.YtekbhfpdakhhkaaGreatDoorSdP
import Derived.Test.YtekbhfpdakhhkaaGreatDoorStLr
namespace Go.Proofs.YtekbhfpdakhhkaaGreatDoor.St
set_option linter.unusedSimpArgs false
set_option linter.unusedVariables false
set_option linter.unnecessarySimpa false
open Go.RowKit Go.Lib Go.Proofs.YtekbhfpdakhhkaaGreatDoor.Crc Go.Proofs.YtekbhfpdakhhkaaGreatDoor.Var Go.Proofs.YtekbhfpdakhhkaaGreatDoor.DiskW Go.Proofs.YtekbhfpdakhhkaaGreatDoor.Rec Go.Proofs.YtekbhfpdakhhkaaGreatDoor.Fr

section
variable {E : List Nat} {w0 w : World} {S L D g base q i : Nat} {recs : List (List UInt8)} {s : Sto}
theorem LogS.nextD {E' : List Nat} {w1 : World} (h : LogS E w0 w S L D g base recs q s i) (hu : Upd [] w0 w1) (hz : w.heap.size ≤ w1.heap.size) (ha : ∃ bv so sn sc, StoAt E' w1 S L D g base so sn sc bv (LogD recs q) s) : LogS E' w0 w1 S L D g base recs q s i :=
  ⟨ha, h.lt, Nat.le_trans h.hb hz, hu, h.tab, h.hq, h.hl, h.hn, h.sto⟩
theorem LogS.ltDD (h : LogS E w0 w S L D g base recs q s i) : D < w.heap.size ∧ S < w.heap.size ∧ L < w.heap.size ∧ g < w.heap.size := by
  obtain ⟨bv, so, sn, sc, ha⟩ := h.at_
  exact ⟨blk_lt ha.dsk.hD, ha.sS.lt, ha.sL.lt, ha.vts.safe.lt⟩
theorem LogS.asideD {w1 : World} {Y : List Nat} (h : LogS E w0 w S L D g base recs q s i) (hu : Upd Y w w1) (hY : ∀ k ∈ Y, Foreign E w S L D g k) (h0 : ∀ k ∈ Y, w0.heap.size ≤ k) : LogS E w0 w1 S L D g base recs q s i := by
  obtain ⟨bv, so, sn, sc, ha⟩ := h.at_
  exact h.nextD (h.upd.trans_new hu fun k hk => .inr (h0 k hk)) hu.size ⟨bv, so, sn, sc, ha.aside hu hY⟩
theorem Foreign.turnedD {w1 : World} {k : Nat} {X : List Nat} (h : Foreign E w S L D g k) (ht : Turned D X w w1) (hX : ∀ j ∈ X, j = S ∨ j = L ∨ j = g) : Foreign E w1 S L D g k :=
  ⟨h.1, (ht.block h.2.1 (fun hm => by
    rcases hX k hm with e | e | e
    · exact h.2.2.1 e
    · exact h.2.2.2.1 e
    · exact h.2.2.2.2 e)).1, h.2.2⟩
/-- A set on a log, whatever it answers. -/
theorem put_log {w' : World} {x : SetM} {e : Ending} (h : LogS E w0 w S L D g base recs q s i) (hox : SetOk x) (hp : PutSays E w S L D g base (LogD recs q) s x e w') :
    e = .returned (.int .i64 (mayM s x : Int)) ∧ LogS E w0 w' S L D g base (logR recs s x) q (putM s x) (i + 1) ∧ Turned D [S, g] w w' := by
  obtain ⟨bv, so, sn, sc, hs⟩ := h.at_
  obtain ⟨he, hs', ht⟩ := hp
  rw [putT_log h.hq hox] at he hs'
  have hr := logR_len recs s x
  have hn := h.hn
  have hq := h.hq
  refine ⟨he, ⟨hs', h.lt, Nat.le_trans h.hb ht.size, ht.far hs.dsk h.upd h.lt.2.2.2.2.1 h.lt.1 ?_, h.tab, by omega, ?_, by omega, h.sto.put hox⟩, ht⟩
  · intro k hk
    simp only [List.mem_cons, List.not_mem_nil, or_false] at hk
    rcases hk with rfl | rfl
    · exact h.lt.2.1
    · exact h.lt.2.2.2.1
  · unfold logR
    split
    · rename_i hm
      intro r hr
      rcases List.mem_append.1 hr with h1 | h1
      · exact h.hl r h1
      · simp only [List.mem_singleton] at h1
        subst h1
        obtain ⟨m1, -⟩ := may_ok hm
        exact (recB_len hox (by
          by_cases h : x.kind = 3
          · exact .inr h
          · exact .inl ⟨(m1 h).1, (m1 h).2.1⟩)).2
    · exact h.hl
end
/-- The blocks that a pair's rows may lie in. -/
def PT (w : World) (P S L D g k : Nat) : Prop := k ≠ P ∧ SafeB w D k ∧ k ≠ S ∧ k ≠ L ∧ k ≠ g
/-- The pair: a store, and the document's. -/
structure PairAt (E : List Nat) (w0 w : World) (P S L D g base : Nat) (recs : List (List UInt8)) (q : Nat) (s : Sto) (i : Nat) : Prop where
  log : LogS E w0 w S L D g base recs q s i
  frn : Foreign E w S L D g P
  old : w0.heap.size ≤ P
  blk : ∃ A B v, w.heap[P]? = some (pairO D S A B s v) ∧ A.size + B.size ≤ 3000 * i ∧ Row w (PT w P S L D g) 4 rvP v s.votes
theorem PT.turned {E : List Nat} {w w1 : World} {P S L D g k : Nat} (h : PT w P S L D g k) (ht : Turned D [S, g] w w1) : PT w1 P S L D g k :=
  ⟨h.1, (ht.block h.2.1 (by simp; exact ⟨h.2.2.1, h.2.2.2.2⟩)).1, h.2.2⟩
theorem row_turned {w w1 : World} {P S L D g : Nat} {v : Value} {l : List (Nat × Vo)} (h : Row w (PT w P S L D g) 4 rvP v l) (ht : Turned D [S, g] w w1) : Row w1 (PT w1 P S L D g) 4 rvP v l := by
  obtain ⟨Y, hu, hY⟩ := ht.upd
  refine Row.mono (Row.upd h hu (fun k hk hT => ?_) (fun _ _ _ h => h)) (fun k hk => hk.turned (E := []) ht) (fun _ _ _ h => h)
  rcases hY k hk with e | e | e
  · exact hT.2.1.ne e
  · exact hT.2.1.own e
  · simp only [List.mem_cons, List.not_mem_nil, or_false] at e
    rcases e with e | e
    · exact hT.2.2.1 e
    · exact hT.2.2.2.2 e
theorem row_setP {w w1 : World} {P S L D g : Nat} {v : Value} {l : List (Nat × Vo)} (h : Row w (PT w P S L D g) 4 rvP v l) (hu : Upd [P] w w1) (hD : D < w.heap.size) (hP : D ≠ P) : Row w1 (PT w1 P S L D g) 4 rvP v l :=
  Row.mono (Row.upd h hu (by intro k hk hT; simp only [List.mem_singleton] at hk; exact hT.1 hk) (fun _ _ _ h => h)) (fun k hk => ⟨hk.1, hk.2.1.upd hu hD (by simpa using hP), hk.2.2⟩) (fun _ _ _ h => h)
theorem PairAt.upd_nil {E : List Nat} {w0 w w1 : World} {P S L D g base q i : Nat} {recs : List (List UInt8)} {s : Sto} (h : PairAt E w0 w P S L D g base recs q s i) (hu : Upd [] w w1) : PairAt E w0 w1 P S L D g base recs q s i := by
  obtain ⟨A, B, v, h1, h2, h3⟩ := h.blk
  have hD := h.log.ltDD.1
  exact ⟨h.log.upd_nil hu, h.frn.aside hu hD (by simp), h.old, A, B, v, hu.get h1 (by simp), h2, Row.mono (Row.upd h3 hu (by simp) (fun _ _ _ h => h)) (fun k hk => ⟨hk.1, hk.2.1.upd hu hD (by simp), hk.2.2⟩) (fun _ _ _ h => h)⟩
theorem PairAt.weak {E : List Nat} {w0 w : World} {P S L D g base q i j : Nat} {recs : List (List UInt8)} {s : Sto} (h : PairAt E w0 w P S L D g base recs q s i) (hij : i ≤ j) : PairAt E w0 w P S L D g base recs q s j := by
  obtain ⟨A, B, v, h1, h2, h3⟩ := h.blk
  have l := h.log
  exact ⟨⟨l.at_, l.lt, l.hb, l.upd, l.tab, l.hq, l.hl, Nat.le_trans l.hn hij, l.sto.mono hij⟩, h.frn, h.old, A, B, v, h1, by omega, h3⟩
/-- Behind a set of both. -/
theorem pair_both {E : List Nat} {w0 w1 w2 : World} {P S L D g base q i : Nat} {recs' : List (List UInt8)} {s : Sto} {x : SetM} {A B A' B' : ByteArray} {v v' : Value} (hl1 : LogS E w0 w1 S L D g base recs' q (putM s x) (i + 1)) (hf : Foreign E w1 S L D g P) (ho : w0.heap.size ≤ P)
    (hr : Row w1 (PT w1 P S L D g) 4 rvP v s.votes) (hu : Upd [P] w1 w2) (hb : w2.heap[P]? = some (pairO D S A' B' (putM s x) v')) (hsz : A.size + B.size ≤ 3000 * i) (hsz' : A'.size + B'.size ≤ A.size + B.size + 2500)
    (hv : mayM s x ≠ 0 → v' = v) (hrow : mayM s x = 0 → Row w2 (since w1.heap.size w2) 4 rvP v' (putM s x).votes) : PairAt E w0 w2 P S L D g base recs' q (putM s x) (i + 1) := by
  obtain ⟨l1, l2, l3, l4⟩ := hl1.ltDD
  have hDP : D ≠ P := fun e => hf.2.1.ne e.symm
  obtain ⟨bv, so, sn, sc, hst⟩ := hl1.at_
  refine ⟨hl1.asideD hu (by simpa using hf) (by simpa using ho), hf.aside hu l1 (by simpa using hDP), ho, A', B', v', hb, by omega, ?_⟩
  by_cases hm : mayM s x = 0
  · refine Row.mono (hrow hm) (fun k hk => ⟨?_, SafeB.fresh hst.dsk hu (by simpa using hDP) hk.1 hk.2, ?_, ?_, ?_⟩) (fun _ _ _ h => h)
    · have := hk.1; have := hf.2.1.lt; omega
    · have := hk.1; omega
    · have := hk.1; omega
    · have := hk.1; omega
  · rw [hv hm, show putM s x = s by unfold putM; rw [if_neg hm]]
    exact row_setP hr hu l1 hDP
/-- An act as a value. -/
abbrev act8V (a : A16) (v : Value) : Value := .agg #[.int .u8 (a.k : Int), .int .i64 a.N, .int .u64 (a.slot : Int), .int .u64 (a.n : Int), .int .i64 a.r, v]
abbrev act8O (a : A16) (v : Value) : Obj := .cells #[.int .u8 (a.k : Int), .int .i64 a.N, .int .u64 (a.slot : Int), .int .u64 (a.n : Int), .int .i64 a.r, v] 41
/-- What an act of the pair leaves. -/
def PairSays (w0 : World) (E : List Nat) (P S L D g base : Nat) (i : Nat) (e : Ending) (w' : World) : Prop := e = .returned (.bool true) ∧ ∃ recs q s, PairAt E w0 w' P S L D g base recs q s (i + 1)
set_option maxRecDepth 100000 in
set_option maxHeartbeats 8000000 in
theorem sets_any {E : List Nat} {w0 : World} {P S L D g base q i : Nat} {recs : List (List UInt8)} {s : Sto} {a : A16} {xo : Option Addr} {xn xc : Nat} (w : World) (h : PairAt E w0 w P S L D g base recs q s i) (hi : i ≤ 800) (hok : ActOk a) (hl : a.bytes.length ≤ 200) (hin : InT w0 (fun k => k < w0.heap.size) xo xn xc a.bytes) :
    Calls Tryz.prog 29 #[.pointer (some ⟨P, 0, none⟩), act8V a (.slice xo xn xc)] w (PairSays w0 E P S L D g base i) := by
  have hX := blk_new w (act8O a (.slice xo xn xc))
  have hu2 := (Upd.refl [] w).alloc (act8O a (.slice xo xn xc))
  have PA2 := h.upd_nil hu2
  have INT := hide hin
  have hPl := h.frn.2.1.lt
  obtain ⟨bv0, so0, sn0, sc0, hst0⟩ := h.log.at_
  have hD0 := h.log.ltDD
  have hsafe : w.heap.size ≠ P ∧ SafeB (w.alloc (act8O a (.slice xo xn xc))) D w.heap.size ∧ w.heap.size ≠ S ∧ w.heap.size ≠ g := ⟨by omega, SafeB.fresh hst0.dsk hu2 (by simp) (Nat.le_refl _) (by simp), by omega, by omega⟩
  clear h hin hst0
  go_enter Tryz.func29, Tryz.ntmps29
  go_upto_region 1 with fail
  generalize w.alloc (act8O a (.slice xo xn xc)) = w2 at *
  obtain ⟨Bx, hBx⟩ : ∃ Bx, w.heap.size = Bx := ⟨_, rfl⟩
  rw [hBx] at hX hsafe ⊢
  have x0 : w2.cell? ⟨Bx, 0, none⟩ = some (.int .u8 (a.k : Int)) := blk_cell hX rfl
  have HX := hide hX; have PA2H := hide PA2; have SFX := hide hsafe; have HBX := hide hBx
  clear hX hu2 hPl hD0 hsafe hBx PA2
  have PA2 := PA2H.out
  have h8 : a.k % 8 = 0 ∨ a.k % 8 = 1 ∨ 2 ≤ a.k % 8 := by omega
  rcases h8 with h8 | h8 | h8
  · have q0 : (((a.k : Int) % 8) == 0) = true := by simp; omega
    clear h8
    go_upto_region 3 with fail
    have s3 : w2.drewN 1 = w2.drewN 1 := rfl
    have PA3 := PA2.upd_nil ((Upd.refl [] w2).drewN 1)
    have SF3 := hide (SFX.out.2.1.upd ((Upd.refl [] w2).drewN 1) PA2.log.ltDD.1 (by simp))
    have hb3 : (w2.drewN 1).heap[Bx]? = some (act8O a (.slice xo xn xc)) := HX.out
    obtain ⟨A, B, v, hblk, hsz, hrow⟩ := PA3.blk
    have hp3 : (w2.drewN 1).cell? ⟨P, 1, none⟩ = some (.pointer (some ⟨S, 0, none⟩)) := blk_cell hblk rfl
    have hS3 : (w2.drewN 1).cell? ⟨P, 1, none⟩ = some (.pointer (some ⟨S, 0, none⟩)) ∧ (w2.drewN 1).heap[Bx]? = some (act8O a (.slice xo xn xc)) ∧ Upd [] w0 (w2.drewN 1) := ⟨hp3, hb3, PA3.log.upd⟩
    have PA3H := hide PA3; have BLK := hide hblk; have ROW := hide hrow; have SZ := hide hsz
    clear s3 hb3 hp3 hblk hrow hsz PA3
    refine wp_region_seqP (findOps 3 ((Tryz.f29.body).getD .skip)) (by kernel_rfl) [6, 11] [0, 1, 2, 3, 4, 5, 7, 8, 9, 10, 6, 11, 12, 13] (fun wx => wx.cell? ⟨P, 1, none⟩ = some (.pointer (some ⟨S, 0, none⟩)) ∧ wx.heap[Bx]? = some (act8O a (.slice xo xn xc)) ∧ Upd [] w0 wx) (by kernel_rfl) (by kernel_rfl) (fun _ _ d _ _ h => by cases d <;> exact h) hS3 ?_
    simp only [pickO, List.filterMap_cons, List.filterMap_nil, List.getElem?_cons_succ, List.getElem?_cons_zero]
    refine wpSeqP_take (by kernel_rfl) (by kernel_rfl) ?_
    apply Exists.intro
    refine ⟨fun wx hS => ?_, fun a' ha => ?_⟩
    · have p1 := hS.1;have x0 := blk_cell (i := 0) hS.2.1 rfl;have x1 := blk_cell (i := 1) hS.2.1 rfl;have x2 := blk_cell (i := 2) hS.2.1 rfl;have x3 := blk_cell (i := 3) hS.2.1 rfl;have x4 := blk_cell (i := 4) hS.2.1 rfl;have x5 := blk_cell (i := 5) hS.2.1 rfl; go_simp; rfl
    simp only [Act.put, List.setIfInBounds_toArray, List.set_cons_succ, List.set_cons_zero] at ha
    subst ha
    refine wpSeqP_take (by kernel_rfl) (by kernel_rfl) ?_
    apply Exists.intro
    refine ⟨fun wx hS => ?_, fun a' ha => ?_⟩
    · have p1 := hS.1;have x0 := blk_cell (i := 0) hS.2.1 rfl;have x1 := blk_cell (i := 1) hS.2.1 rfl;have x2 := blk_cell (i := 2) hS.2.1 rfl;have x3 := blk_cell (i := 3) hS.2.1 rfl;have x4 := blk_cell (i := 4) hS.2.1 rfl;have x5 := blk_cell (i := 5) hS.2.1 rfl; go_simp; rfl
    simp only [Act.put, List.setIfInBounds_toArray, List.set_cons_succ, List.set_cons_zero] at ha
    subst ha
    refine wpSeqP_take (by kernel_rfl) (by kernel_rfl) ?_
    apply Exists.intro
    refine ⟨fun wx hS => ?_, fun a' ha => ?_⟩
    · have p1 := hS.1;have x0 := blk_cell (i := 0) hS.2.1 rfl;have x1 := blk_cell (i := 1) hS.2.1 rfl;have x2 := blk_cell (i := 2) hS.2.1 rfl;have x3 := blk_cell (i := 3) hS.2.1 rfl;have x4 := blk_cell (i := 4) hS.2.1 rfl;have x5 := blk_cell (i := 5) hS.2.1 rfl; go_simp; rfl
    simp only [Act.put, List.setIfInBounds_toArray, List.set_cons_succ, List.set_cons_zero] at ha
    subst ha
    refine wpSeqP_take (by kernel_rfl) (by kernel_rfl) ?_
    apply Exists.intro
    refine ⟨fun wx hS => ?_, fun a' ha => ?_⟩
    · have p1 := hS.1;have x0 := blk_cell (i := 0) hS.2.1 rfl;have x1 := blk_cell (i := 1) hS.2.1 rfl;have x2 := blk_cell (i := 2) hS.2.1 rfl;have x3 := blk_cell (i := 3) hS.2.1 rfl;have x4 := blk_cell (i := 4) hS.2.1 rfl;have x5 := blk_cell (i := 5) hS.2.1 rfl; go_simp; rfl
    simp only [Act.put, List.setIfInBounds_toArray, List.set_cons_succ, List.set_cons_zero] at ha
    subst ha
    refine wpSeqP_take (by kernel_rfl) (by kernel_rfl) ?_
    apply Exists.intro
    refine ⟨fun wx hS => ?_, fun a' ha => ?_⟩
    · have p1 := hS.1;have x0 := blk_cell (i := 0) hS.2.1 rfl;have x1 := blk_cell (i := 1) hS.2.1 rfl;have x2 := blk_cell (i := 2) hS.2.1 rfl;have x3 := blk_cell (i := 3) hS.2.1 rfl;have x4 := blk_cell (i := 4) hS.2.1 rfl;have x5 := blk_cell (i := 5) hS.2.1 rfl; go_simp; rfl
    simp only [Act.put, List.setIfInBounds_toArray, List.set_cons_succ, List.set_cons_zero] at ha
    subst ha
    refine wpSeqP_take (by kernel_rfl) (by kernel_rfl) ?_
    apply Exists.intro
    refine ⟨fun wx hS => ?_, fun a' ha => ?_⟩
    · have p1 := hS.1;have x0 := blk_cell (i := 0) hS.2.1 rfl;have x1 := blk_cell (i := 1) hS.2.1 rfl;have x2 := blk_cell (i := 2) hS.2.1 rfl;have x3 := blk_cell (i := 3) hS.2.1 rfl;have x4 := blk_cell (i := 4) hS.2.1 rfl;have x5 := blk_cell (i := 5) hS.2.1 rfl; go_simp; rfl
    simp only [Act.put, List.setIfInBounds_toArray, List.set_cons_succ, List.set_cons_zero] at ha
    subst ha
    refine wpSeqP_take (by kernel_rfl) (by kernel_rfl) ?_
    apply Exists.intro
    refine ⟨fun wx hS => ?_, fun a' ha => ?_⟩
    · have p1 := hS.1;have x0 := blk_cell (i := 0) hS.2.1 rfl;have x1 := blk_cell (i := 1) hS.2.1 rfl;have x2 := blk_cell (i := 2) hS.2.1 rfl;have x3 := blk_cell (i := 3) hS.2.1 rfl;have x4 := blk_cell (i := 4) hS.2.1 rfl;have x5 := blk_cell (i := 5) hS.2.1 rfl; go_simp; rfl
    simp only [Act.put, List.setIfInBounds_toArray, List.set_cons_succ, List.set_cons_zero] at ha
    subst ha
    refine wpSeqP_take (by kernel_rfl) (by kernel_rfl) ?_
    apply Exists.intro
    refine ⟨fun wx hS => ?_, fun a' ha => ?_⟩
    · have p1 := hS.1;have x0 := blk_cell (i := 0) hS.2.1 rfl;have x1 := blk_cell (i := 1) hS.2.1 rfl;have x2 := blk_cell (i := 2) hS.2.1 rfl;have x3 := blk_cell (i := 3) hS.2.1 rfl;have x4 := blk_cell (i := 4) hS.2.1 rfl;have x5 := blk_cell (i := 5) hS.2.1 rfl; go_simp; rfl
    simp only [Act.put, List.setIfInBounds_toArray, List.set_cons_succ, List.set_cons_zero] at ha
    subst ha
    refine wpSeqP_take (by kernel_rfl) (by kernel_rfl) ?_
    apply Exists.intro
    refine ⟨fun wx hS => ?_, fun a' ha => ?_⟩
    · have p1 := hS.1;have x0 := blk_cell (i := 0) hS.2.1 rfl;have x1 := blk_cell (i := 1) hS.2.1 rfl;have x2 := blk_cell (i := 2) hS.2.1 rfl;have x3 := blk_cell (i := 3) hS.2.1 rfl;have x4 := blk_cell (i := 4) hS.2.1 rfl;have x5 := blk_cell (i := 5) hS.2.1 rfl; go_simp; rfl
    simp only [Act.put, List.setIfInBounds_toArray, List.set_cons_succ, List.set_cons_zero] at ha
    subst ha
    refine wpSeqP_take (by kernel_rfl) (by kernel_rfl) ?_
    apply Exists.intro
    refine ⟨fun wx hS => ?_, fun a' ha => ?_⟩
    · have p1 := hS.1;have x0 := blk_cell (i := 0) hS.2.1 rfl;have x1 := blk_cell (i := 1) hS.2.1 rfl;have x2 := blk_cell (i := 2) hS.2.1 rfl;have x3 := blk_cell (i := 3) hS.2.1 rfl;have x4 := blk_cell (i := 4) hS.2.1 rfl;have x5 := blk_cell (i := 5) hS.2.1 rfl; go_simp; rfl
    simp only [Act.put, List.setIfInBounds_toArray, List.set_cons_succ, List.set_cons_zero] at ha
    subst ha
    refine wpSeqP_one (by kernel_rfl) (by kernel_rfl) (fun K hK => ?_)
    go_simp
    generalize w2.drewN 1 = w3 at *
    have PA3 := PA3H.out
    obtain ⟨bv, so, sn, sc, hst⟩ := PA3.log.at_
    have hlt := PA3.log.lt
    have hsx : SetOk ⟨1, 0, ⟨a.n, a.r⟩, []⟩ := ⟨.inl rfl, (by decide : (0 : Nat) < 18446744073709551616), hok.n, (by show ([] : List UInt8).length ≤ 1000; simp)⟩
    refine (setPromise_any (i := i) w3 hst (PA3.log.ready (by omega)) ⟨a.n, a.r⟩ hok.n).mono ?_
    intro e w4 hp4
    obtain ⟨rfl, hl4, ht4⟩ := put_log (x := ⟨1, 0, ⟨a.n, a.r⟩, []⟩) PA3.log hsx hp4
    have hf4 := PA3.frn.turnedD ht4 (by simp)
    have hbk4 := ((ht4.block PA3.frn.2.1 (by simp; exact ⟨PA3.frn.2.2.1, PA3.frn.2.2.2.2⟩)).2).trans BLK.out
    have hr4 := row_turned ROW.out ht4
    have hbx := SFX.out
    have hx4 := (ht4.block SF3.out (by simp; exact hbx.2.2)).2.trans hS3.2.1
    have hS4 : w4.cell? ⟨P, 1, none⟩ = some (.pointer (some ⟨S, 0, none⟩)) ∧ w4.heap[Bx]? = some (act8O a (.slice xo xn xc)) ∧ Upd [] w0 w4 := ⟨blk_cell hbk4 rfl, hx4, hl4.upd⟩
    have L4 := hide hl4; have F4 := hide hf4; have BK4 := hide hbk4; have R4 := hide hr4
    clear hp4 hl4 ht4 hf4 hbk4 hr4 hx4 hst hlt
    refine hK _ _ (hS4) ?_
    clear hK K
    try simp only [Act.put, List.setIfInBounds_toArray, List.set_cons_succ, List.set_cons_zero]
    refine wpSeqP_one (by kernel_rfl) (by kernel_rfl) (fun K hK => ?_)
    go_simp
    refine (asked_any (x := ⟨1, 0, ⟨a.n, a.r⟩, []⟩) (i := i) w4 BK4.out R4.out (by intro h; exact h.1 rfl) PA3.log.sto (by omega) hsx (by have := SZ.out; omega)).mono ?_
    rintro e w5 ⟨rfl, hu5, A', B', v', hb5, hsz5, hv5, hrow5⟩
    have hpa := pair_both L4.out F4.out PA3.old R4.out hu5 hb5 SZ.out hsz5 hv5 hrow5
    have hS5 : w5.cell? ⟨P, 1, none⟩ = some (.pointer (some ⟨S, 0, none⟩)) ∧ w5.heap[Bx]? = some (act8O a (.slice xo xn xc)) ∧ Upd [] w0 w5 := ⟨blk_cell hb5 rfl, hu5.get hS4.2.1 (by simpa using hbx.1), hpa.log.upd⟩
    have PA5 := hide hpa
    clear hu5 hb5 hsz5 hv5 hrow5 hpa
    refine hK _ _ (hS5) ?_
    clear hK K
    try simp only [Act.put, List.setIfInBounds_toArray, List.set_cons_succ, List.set_cons_zero]
    refine wpSeqP_take (by kernel_rfl) (by kernel_rfl) ?_
    apply Exists.intro
    refine ⟨fun wx hS => ?_, fun a' ha => ?_⟩
    · go_simp; rfl
    simp only [Act.put, List.setIfInBounds_toArray, List.set_cons_succ, List.set_cons_zero] at ha
    subst ha
    refine wpSeqP_take (by kernel_rfl) (by kernel_rfl) ?_
    apply Exists.intro
    refine ⟨fun wx hS => ?_, fun a' ha => ?_⟩
    · go_simp; rfl
    simp only [Act.put, List.setIfInBounds_toArray, List.set_cons_succ, List.set_cons_zero] at ha
    subst ha
    unfold wpSeqP
    go_wp2_with fail
    go_ret
    exact ⟨rfl, _, _, _, PA5.out⟩
  · have q0 : (((a.k : Int) % 8) == 0) = false := by simp; omega
    have q1 : (((a.k : Int) % 8) == 1) = true := by simp; omega
    clear h8
    go_upto_region 5 with fail
    have s3 : w2.drewN 1 = w2.drewN 1 := rfl
    have PA3 := PA2.upd_nil ((Upd.refl [] w2).drewN 1)
    have SF3 := hide (SFX.out.2.1.upd ((Upd.refl [] w2).drewN 1) PA2.log.ltDD.1 (by simp))
    have hb3 : (w2.drewN 1).heap[Bx]? = some (act8O a (.slice xo xn xc)) := HX.out
    obtain ⟨A, B, v, hblk, hsz, hrow⟩ := PA3.blk
    have hp3 : (w2.drewN 1).cell? ⟨P, 1, none⟩ = some (.pointer (some ⟨S, 0, none⟩)) := blk_cell hblk rfl
    have hS3 : (w2.drewN 1).cell? ⟨P, 1, none⟩ = some (.pointer (some ⟨S, 0, none⟩)) ∧ (w2.drewN 1).heap[Bx]? = some (act8O a (.slice xo xn xc)) ∧ Upd [] w0 (w2.drewN 1) := ⟨hp3, hb3, PA3.log.upd⟩
    have PA3H := hide PA3; have BLK := hide hblk; have ROW := hide hrow; have SZ := hide hsz
    clear s3 hb3 hp3 hblk hrow hsz PA3
    refine wp_region_seqP (findOps 5 ((Tryz.f29.body).getD .skip)) (by kernel_rfl) [11, 21] [0, 1, 2, 3, 4, 5, 6, 7, 8, 9, 10, 12, 13, 14, 15, 16, 17, 18, 19, 20, 11, 21, 22, 23] (fun wx => wx.cell? ⟨P, 1, none⟩ = some (.pointer (some ⟨S, 0, none⟩)) ∧ wx.heap[Bx]? = some (act8O a (.slice xo xn xc)) ∧ Upd [] w0 wx) (by kernel_rfl) (by kernel_rfl) (fun _ _ d _ _ h => by cases d <;> exact h) hS3 ?_
    simp only [pickO, List.filterMap_cons, List.filterMap_nil, List.getElem?_cons_succ, List.getElem?_cons_zero]
    refine wpSeqP_take (by kernel_rfl) (by kernel_rfl) ?_
    apply Exists.intro
    refine ⟨fun wx hS => ?_, fun a' ha => ?_⟩
    · have p1 := hS.1;have x0 := blk_cell (i := 0) hS.2.1 rfl;have x1 := blk_cell (i := 1) hS.2.1 rfl;have x2 := blk_cell (i := 2) hS.2.1 rfl;have x3 := blk_cell (i := 3) hS.2.1 rfl;have x4 := blk_cell (i := 4) hS.2.1 rfl;have x5 := blk_cell (i := 5) hS.2.1 rfl;have hq := run_str (src_upd INT.out.src hS.2.2 (by simp)); go_simp; rfl
    simp only [Act.put, List.setIfInBounds_toArray, List.set_cons_succ, List.set_cons_zero] at ha
    subst ha
    refine wpSeqP_take (by kernel_rfl) (by kernel_rfl) ?_
    apply Exists.intro
    refine ⟨fun wx hS => ?_, fun a' ha => ?_⟩
    · have p1 := hS.1;have x0 := blk_cell (i := 0) hS.2.1 rfl;have x1 := blk_cell (i := 1) hS.2.1 rfl;have x2 := blk_cell (i := 2) hS.2.1 rfl;have x3 := blk_cell (i := 3) hS.2.1 rfl;have x4 := blk_cell (i := 4) hS.2.1 rfl;have x5 := blk_cell (i := 5) hS.2.1 rfl;have hq := run_str (src_upd INT.out.src hS.2.2 (by simp)); go_simp; rfl
    simp only [Act.put, List.setIfInBounds_toArray, List.set_cons_succ, List.set_cons_zero] at ha
    subst ha
    refine wpSeqP_take (by kernel_rfl) (by kernel_rfl) ?_
    apply Exists.intro
    refine ⟨fun wx hS => ?_, fun a' ha => ?_⟩
    · have p1 := hS.1;have x0 := blk_cell (i := 0) hS.2.1 rfl;have x1 := blk_cell (i := 1) hS.2.1 rfl;have x2 := blk_cell (i := 2) hS.2.1 rfl;have x3 := blk_cell (i := 3) hS.2.1 rfl;have x4 := blk_cell (i := 4) hS.2.1 rfl;have x5 := blk_cell (i := 5) hS.2.1 rfl;have hq := run_str (src_upd INT.out.src hS.2.2 (by simp)); go_simp; rfl
    simp only [Act.put, List.setIfInBounds_toArray, List.set_cons_succ, List.set_cons_zero] at ha
    subst ha
    refine wpSeqP_take (by kernel_rfl) (by kernel_rfl) ?_
    apply Exists.intro
    refine ⟨fun wx hS => ?_, fun a' ha => ?_⟩
    · have p1 := hS.1;have x0 := blk_cell (i := 0) hS.2.1 rfl;have x1 := blk_cell (i := 1) hS.2.1 rfl;have x2 := blk_cell (i := 2) hS.2.1 rfl;have x3 := blk_cell (i := 3) hS.2.1 rfl;have x4 := blk_cell (i := 4) hS.2.1 rfl;have x5 := blk_cell (i := 5) hS.2.1 rfl;have hq := run_str (src_upd INT.out.src hS.2.2 (by simp)); go_simp; rfl
    simp only [Act.put, List.setIfInBounds_toArray, List.set_cons_succ, List.set_cons_zero] at ha
    subst ha
    refine wpSeqP_take (by kernel_rfl) (by kernel_rfl) ?_
    apply Exists.intro
    refine ⟨fun wx hS => ?_, fun a' ha => ?_⟩
    · have p1 := hS.1;have x0 := blk_cell (i := 0) hS.2.1 rfl;have x1 := blk_cell (i := 1) hS.2.1 rfl;have x2 := blk_cell (i := 2) hS.2.1 rfl;have x3 := blk_cell (i := 3) hS.2.1 rfl;have x4 := blk_cell (i := 4) hS.2.1 rfl;have x5 := blk_cell (i := 5) hS.2.1 rfl;have hq := run_str (src_upd INT.out.src hS.2.2 (by simp)); go_simp; rfl
    simp only [Act.put, List.setIfInBounds_toArray, List.set_cons_succ, List.set_cons_zero] at ha
    subst ha
    refine wpSeqP_take (by kernel_rfl) (by kernel_rfl) ?_
    apply Exists.intro
    refine ⟨fun wx hS => ?_, fun a' ha => ?_⟩
    · have p1 := hS.1;have x0 := blk_cell (i := 0) hS.2.1 rfl;have x1 := blk_cell (i := 1) hS.2.1 rfl;have x2 := blk_cell (i := 2) hS.2.1 rfl;have x3 := blk_cell (i := 3) hS.2.1 rfl;have x4 := blk_cell (i := 4) hS.2.1 rfl;have x5 := blk_cell (i := 5) hS.2.1 rfl;have hq := run_str (src_upd INT.out.src hS.2.2 (by simp)); go_simp; rfl
    simp only [Act.put, List.setIfInBounds_toArray, List.set_cons_succ, List.set_cons_zero] at ha
    subst ha
    refine wpSeqP_take (by kernel_rfl) (by kernel_rfl) ?_
    apply Exists.intro
    refine ⟨fun wx hS => ?_, fun a' ha => ?_⟩
    · have p1 := hS.1;have x0 := blk_cell (i := 0) hS.2.1 rfl;have x1 := blk_cell (i := 1) hS.2.1 rfl;have x2 := blk_cell (i := 2) hS.2.1 rfl;have x3 := blk_cell (i := 3) hS.2.1 rfl;have x4 := blk_cell (i := 4) hS.2.1 rfl;have x5 := blk_cell (i := 5) hS.2.1 rfl;have hq := run_str (src_upd INT.out.src hS.2.2 (by simp)); go_simp; rfl
    simp only [Act.put, List.setIfInBounds_toArray, List.set_cons_succ, List.set_cons_zero] at ha
    subst ha
    refine wpSeqP_take (by kernel_rfl) (by kernel_rfl) ?_
    apply Exists.intro
    refine ⟨fun wx hS => ?_, fun a' ha => ?_⟩
    · have p1 := hS.1;have x0 := blk_cell (i := 0) hS.2.1 rfl;have x1 := blk_cell (i := 1) hS.2.1 rfl;have x2 := blk_cell (i := 2) hS.2.1 rfl;have x3 := blk_cell (i := 3) hS.2.1 rfl;have x4 := blk_cell (i := 4) hS.2.1 rfl;have x5 := blk_cell (i := 5) hS.2.1 rfl;have hq := run_str (src_upd INT.out.src hS.2.2 (by simp)); go_simp; rfl
    simp only [Act.put, List.setIfInBounds_toArray, List.set_cons_succ, List.set_cons_zero] at ha
    subst ha
    refine wpSeqP_take (by kernel_rfl) (by kernel_rfl) ?_
    apply Exists.intro
    refine ⟨fun wx hS => ?_, fun a' ha => ?_⟩
    · have p1 := hS.1;have x0 := blk_cell (i := 0) hS.2.1 rfl;have x1 := blk_cell (i := 1) hS.2.1 rfl;have x2 := blk_cell (i := 2) hS.2.1 rfl;have x3 := blk_cell (i := 3) hS.2.1 rfl;have x4 := blk_cell (i := 4) hS.2.1 rfl;have x5 := blk_cell (i := 5) hS.2.1 rfl;have hq := run_str (src_upd INT.out.src hS.2.2 (by simp)); go_simp; rfl
    simp only [Act.put, List.setIfInBounds_toArray, List.set_cons_succ, List.set_cons_zero] at ha
    subst ha
    refine wpSeqP_take (by kernel_rfl) (by kernel_rfl) ?_
    apply Exists.intro
    refine ⟨fun wx hS => ?_, fun a' ha => ?_⟩
    · have p1 := hS.1;have x0 := blk_cell (i := 0) hS.2.1 rfl;have x1 := blk_cell (i := 1) hS.2.1 rfl;have x2 := blk_cell (i := 2) hS.2.1 rfl;have x3 := blk_cell (i := 3) hS.2.1 rfl;have x4 := blk_cell (i := 4) hS.2.1 rfl;have x5 := blk_cell (i := 5) hS.2.1 rfl;have hq := run_str (src_upd INT.out.src hS.2.2 (by simp)); go_simp; rfl
    simp only [Act.put, List.setIfInBounds_toArray, List.set_cons_succ, List.set_cons_zero] at ha
    subst ha
    refine wpSeqP_take (by kernel_rfl) (by kernel_rfl) ?_
    apply Exists.intro
    refine ⟨fun wx hS => ?_, fun a' ha => ?_⟩
    · have p1 := hS.1;have x0 := blk_cell (i := 0) hS.2.1 rfl;have x1 := blk_cell (i := 1) hS.2.1 rfl;have x2 := blk_cell (i := 2) hS.2.1 rfl;have x3 := blk_cell (i := 3) hS.2.1 rfl;have x4 := blk_cell (i := 4) hS.2.1 rfl;have x5 := blk_cell (i := 5) hS.2.1 rfl;have hq := run_str (src_upd INT.out.src hS.2.2 (by simp)); go_simp; rfl
    simp only [Act.put, List.setIfInBounds_toArray, List.set_cons_succ, List.set_cons_zero] at ha
    subst ha
    refine wpSeqP_take (by kernel_rfl) (by kernel_rfl) ?_
    apply Exists.intro
    refine ⟨fun wx hS => ?_, fun a' ha => ?_⟩
    · have p1 := hS.1;have x0 := blk_cell (i := 0) hS.2.1 rfl;have x1 := blk_cell (i := 1) hS.2.1 rfl;have x2 := blk_cell (i := 2) hS.2.1 rfl;have x3 := blk_cell (i := 3) hS.2.1 rfl;have x4 := blk_cell (i := 4) hS.2.1 rfl;have x5 := blk_cell (i := 5) hS.2.1 rfl;have hq := run_str (src_upd INT.out.src hS.2.2 (by simp)); go_simp; rfl
    simp only [Act.put, List.setIfInBounds_toArray, List.set_cons_succ, List.set_cons_zero] at ha
    subst ha
    refine wpSeqP_take (by kernel_rfl) (by kernel_rfl) ?_
    apply Exists.intro
    refine ⟨fun wx hS => ?_, fun a' ha => ?_⟩
    · have p1 := hS.1;have x0 := blk_cell (i := 0) hS.2.1 rfl;have x1 := blk_cell (i := 1) hS.2.1 rfl;have x2 := blk_cell (i := 2) hS.2.1 rfl;have x3 := blk_cell (i := 3) hS.2.1 rfl;have x4 := blk_cell (i := 4) hS.2.1 rfl;have x5 := blk_cell (i := 5) hS.2.1 rfl;have hq := run_str (src_upd INT.out.src hS.2.2 (by simp)); go_simp; rfl
    simp only [Act.put, List.setIfInBounds_toArray, List.set_cons_succ, List.set_cons_zero] at ha
    subst ha
    refine wpSeqP_take (by kernel_rfl) (by kernel_rfl) ?_
    apply Exists.intro
    refine ⟨fun wx hS => ?_, fun a' ha => ?_⟩
    · have p1 := hS.1;have x0 := blk_cell (i := 0) hS.2.1 rfl;have x1 := blk_cell (i := 1) hS.2.1 rfl;have x2 := blk_cell (i := 2) hS.2.1 rfl;have x3 := blk_cell (i := 3) hS.2.1 rfl;have x4 := blk_cell (i := 4) hS.2.1 rfl;have x5 := blk_cell (i := 5) hS.2.1 rfl;have hq := run_str (src_upd INT.out.src hS.2.2 (by simp)); go_simp; rfl
    simp only [Act.put, List.setIfInBounds_toArray, List.set_cons_succ, List.set_cons_zero] at ha
    subst ha
    refine wpSeqP_take (by kernel_rfl) (by kernel_rfl) ?_
    apply Exists.intro
    refine ⟨fun wx hS => ?_, fun a' ha => ?_⟩
    · have p1 := hS.1;have x0 := blk_cell (i := 0) hS.2.1 rfl;have x1 := blk_cell (i := 1) hS.2.1 rfl;have x2 := blk_cell (i := 2) hS.2.1 rfl;have x3 := blk_cell (i := 3) hS.2.1 rfl;have x4 := blk_cell (i := 4) hS.2.1 rfl;have x5 := blk_cell (i := 5) hS.2.1 rfl;have hq := run_str (src_upd INT.out.src hS.2.2 (by simp)); go_simp; rfl
    simp only [Act.put, List.setIfInBounds_toArray, List.set_cons_succ, List.set_cons_zero] at ha
    subst ha
    refine wpSeqP_take (by kernel_rfl) (by kernel_rfl) ?_
    apply Exists.intro
    refine ⟨fun wx hS => ?_, fun a' ha => ?_⟩
    · have p1 := hS.1;have x0 := blk_cell (i := 0) hS.2.1 rfl;have x1 := blk_cell (i := 1) hS.2.1 rfl;have x2 := blk_cell (i := 2) hS.2.1 rfl;have x3 := blk_cell (i := 3) hS.2.1 rfl;have x4 := blk_cell (i := 4) hS.2.1 rfl;have x5 := blk_cell (i := 5) hS.2.1 rfl;have hq := run_str (src_upd INT.out.src hS.2.2 (by simp)); go_simp; rfl
    simp only [Act.put, List.setIfInBounds_toArray, List.set_cons_succ, List.set_cons_zero] at ha
    subst ha
    refine wpSeqP_take (by kernel_rfl) (by kernel_rfl) ?_
    apply Exists.intro
    refine ⟨fun wx hS => ?_, fun a' ha => ?_⟩
    · have p1 := hS.1;have x0 := blk_cell (i := 0) hS.2.1 rfl;have x1 := blk_cell (i := 1) hS.2.1 rfl;have x2 := blk_cell (i := 2) hS.2.1 rfl;have x3 := blk_cell (i := 3) hS.2.1 rfl;have x4 := blk_cell (i := 4) hS.2.1 rfl;have x5 := blk_cell (i := 5) hS.2.1 rfl;have hq := run_str (src_upd INT.out.src hS.2.2 (by simp)); go_simp; rfl
    simp only [Act.put, List.setIfInBounds_toArray, List.set_cons_succ, List.set_cons_zero] at ha
    subst ha
    refine wpSeqP_take (by kernel_rfl) (by kernel_rfl) ?_
    apply Exists.intro
    refine ⟨fun wx hS => ?_, fun a' ha => ?_⟩
    · have p1 := hS.1;have x0 := blk_cell (i := 0) hS.2.1 rfl;have x1 := blk_cell (i := 1) hS.2.1 rfl;have x2 := blk_cell (i := 2) hS.2.1 rfl;have x3 := blk_cell (i := 3) hS.2.1 rfl;have x4 := blk_cell (i := 4) hS.2.1 rfl;have x5 := blk_cell (i := 5) hS.2.1 rfl;have hq := run_str (src_upd INT.out.src hS.2.2 (by simp)); go_simp; rfl
    simp only [Act.put, List.setIfInBounds_toArray, List.set_cons_succ, List.set_cons_zero] at ha
    subst ha
    refine wpSeqP_take (by kernel_rfl) (by kernel_rfl) ?_
    apply Exists.intro
    refine ⟨fun wx hS => ?_, fun a' ha => ?_⟩
    · have p1 := hS.1;have x0 := blk_cell (i := 0) hS.2.1 rfl;have x1 := blk_cell (i := 1) hS.2.1 rfl;have x2 := blk_cell (i := 2) hS.2.1 rfl;have x3 := blk_cell (i := 3) hS.2.1 rfl;have x4 := blk_cell (i := 4) hS.2.1 rfl;have x5 := blk_cell (i := 5) hS.2.1 rfl;have hq := run_str (src_upd INT.out.src hS.2.2 (by simp)); go_simp; rfl
    simp only [Act.put, List.setIfInBounds_toArray, List.set_cons_succ, List.set_cons_zero] at ha
    subst ha
    refine wpSeqP_take (by kernel_rfl) (by kernel_rfl) ?_
    apply Exists.intro
    refine ⟨fun wx hS => ?_, fun a' ha => ?_⟩
    · have p1 := hS.1;have x0 := blk_cell (i := 0) hS.2.1 rfl;have x1 := blk_cell (i := 1) hS.2.1 rfl;have x2 := blk_cell (i := 2) hS.2.1 rfl;have x3 := blk_cell (i := 3) hS.2.1 rfl;have x4 := blk_cell (i := 4) hS.2.1 rfl;have x5 := blk_cell (i := 5) hS.2.1 rfl;have hq := run_str (src_upd INT.out.src hS.2.2 (by simp)); go_simp; rfl
    simp only [Act.put, List.setIfInBounds_toArray, List.set_cons_succ, List.set_cons_zero] at ha
    subst ha
    refine wpSeqP_one (by kernel_rfl) (by kernel_rfl) (fun K hK => ?_)
    go_simp
    generalize w2.drewN 1 = w3 at *
    have PA3 := PA3H.out
    obtain ⟨bv, so, sn, sc, hst⟩ := PA3.log.at_
    have hlt := PA3.log.lt
    have hlie := (INT.out.upd PA3.log.upd (by simp)).lies hst.dsk PA3.log.upd.size hlt.1 hlt.2.2.2.2.1 (X := [S, L, g]) (by simp; omega)
    have hsx : SetOk ⟨2, a.slot, ⟨a.n, a.r⟩, a.bytes⟩ := ⟨.inr (.inl rfl), hok.slot, hok.n, (by show a.bytes.length ≤ 1000; omega)⟩
    refine (setVote_any (i := i) w3 hst (PA3.log.ready (by omega)) a.slot ⟨a.n, a.r⟩ xo xn xc a.bytes hok.slot hok.n hlie (by omega)).mono ?_
    intro e w4 hp4
    obtain ⟨rfl, hl4, ht4⟩ := put_log (x := ⟨2, a.slot, ⟨a.n, a.r⟩, a.bytes⟩) PA3.log hsx hp4
    have hf4 := PA3.frn.turnedD ht4 (by simp)
    have hbk4 := ((ht4.block PA3.frn.2.1 (by simp; exact ⟨PA3.frn.2.2.1, PA3.frn.2.2.2.2⟩)).2).trans BLK.out
    have hr4 := row_turned ROW.out ht4
    have hbx := SFX.out
    have hx4 := (ht4.block SF3.out (by simp; exact hbx.2.2)).2.trans hS3.2.1
    have hS4 : w4.cell? ⟨P, 1, none⟩ = some (.pointer (some ⟨S, 0, none⟩)) ∧ w4.heap[Bx]? = some (act8O a (.slice xo xn xc)) ∧ Upd [] w0 w4 := ⟨blk_cell hbk4 rfl, hx4, hl4.upd⟩
    have L4 := hide hl4; have F4 := hide hf4; have BK4 := hide hbk4; have R4 := hide hr4
    clear hp4 hl4 ht4 hf4 hbk4 hr4 hx4 hst hlt hlie
    refine hK _ _ (hS4) ?_
    clear hK K
    try simp only [Act.put, List.setIfInBounds_toArray, List.set_cons_succ, List.set_cons_zero]
    refine wpSeqP_one (by kernel_rfl) (by kernel_rfl) (fun K hK => ?_)
    go_simp
    refine (asked_any (x := ⟨2, a.slot, ⟨a.n, a.r⟩, a.bytes⟩) (i := i) w4 BK4.out R4.out (by intro h; exact h.1 rfl) PA3.log.sto (by omega) hsx (by have := SZ.out; omega)).mono ?_
    rintro e w5 ⟨rfl, hu5, A', B', v', hb5, hsz5, hv5, hrow5⟩
    have hpa := pair_both L4.out F4.out PA3.old R4.out hu5 hb5 SZ.out hsz5 hv5 hrow5
    have hS5 : w5.cell? ⟨P, 1, none⟩ = some (.pointer (some ⟨S, 0, none⟩)) ∧ w5.heap[Bx]? = some (act8O a (.slice xo xn xc)) ∧ Upd [] w0 w5 := ⟨blk_cell hb5 rfl, hu5.get hS4.2.1 (by simpa using hbx.1), hpa.log.upd⟩
    have PA5 := hide hpa
    clear hu5 hb5 hsz5 hv5 hrow5 hpa
    refine hK _ _ (hS5) ?_
    clear hK K
    try simp only [Act.put, List.setIfInBounds_toArray, List.set_cons_succ, List.set_cons_zero]
    refine wpSeqP_take (by kernel_rfl) (by kernel_rfl) ?_
    apply Exists.intro
    refine ⟨fun wx hS => ?_, fun a' ha => ?_⟩
    · go_simp; rfl
    simp only [Act.put, List.setIfInBounds_toArray, List.set_cons_succ, List.set_cons_zero] at ha
    subst ha
    refine wpSeqP_take (by kernel_rfl) (by kernel_rfl) ?_
    apply Exists.intro
    refine ⟨fun wx hS => ?_, fun a' ha => ?_⟩
    · go_simp; rfl
    simp only [Act.put, List.setIfInBounds_toArray, List.set_cons_succ, List.set_cons_zero] at ha
    subst ha
    unfold wpSeqP
    go_wp2_with fail
    go_ret
    exact ⟨rfl, _, _, _, PA5.out⟩
  · have q0 : (((a.k : Int) % 8) == 0) = false := by simp; omega
    have q1 : (((a.k : Int) % 8) == 1) = false := by simp; omega
    clear h8
    go_upto_region 6 with fail
    have s3 : w2.drewN 1 = w2.drewN 1 := rfl
    have PA3 := PA2.upd_nil ((Upd.refl [] w2).drewN 1)
    have SF3 := hide (SFX.out.2.1.upd ((Upd.refl [] w2).drewN 1) PA2.log.ltDD.1 (by simp))
    have hb3 : (w2.drewN 1).heap[Bx]? = some (act8O a (.slice xo xn xc)) := HX.out
    obtain ⟨A, B, v, hblk, hsz, hrow⟩ := PA3.blk
    have hp3 : (w2.drewN 1).cell? ⟨P, 1, none⟩ = some (.pointer (some ⟨S, 0, none⟩)) := blk_cell hblk rfl
    have hS3 : (w2.drewN 1).cell? ⟨P, 1, none⟩ = some (.pointer (some ⟨S, 0, none⟩)) ∧ (w2.drewN 1).heap[Bx]? = some (act8O a (.slice xo xn xc)) ∧ Upd [] w0 (w2.drewN 1) := ⟨hp3, hb3, PA3.log.upd⟩
    have PA3H := hide PA3; have BLK := hide hblk; have ROW := hide hrow; have SZ := hide hsz
    clear s3 hb3 hp3 hblk hrow hsz PA3
    refine wp_region_seqP (findOps 6 ((Tryz.f29.body).getD .skip)) (by kernel_rfl) [8, 16] [0, 1, 2, 3, 4, 5, 6, 7, 9, 10, 11, 12, 13, 14, 15, 8, 16, 17, 18] (fun wx => wx.cell? ⟨P, 1, none⟩ = some (.pointer (some ⟨S, 0, none⟩)) ∧ wx.heap[Bx]? = some (act8O a (.slice xo xn xc)) ∧ Upd [] w0 wx) (by kernel_rfl) (by kernel_rfl) (fun _ _ d _ _ h => by cases d <;> exact h) hS3 ?_
    simp only [pickO, List.filterMap_cons, List.filterMap_nil, List.getElem?_cons_succ, List.getElem?_cons_zero]
    refine wpSeqP_take (by kernel_rfl) (by kernel_rfl) ?_
    apply Exists.intro
    refine ⟨fun wx hS => ?_, fun a' ha => ?_⟩
    · have p1 := hS.1;have x0 := blk_cell (i := 0) hS.2.1 rfl;have x1 := blk_cell (i := 1) hS.2.1 rfl;have x2 := blk_cell (i := 2) hS.2.1 rfl;have x3 := blk_cell (i := 3) hS.2.1 rfl;have x4 := blk_cell (i := 4) hS.2.1 rfl;have x5 := blk_cell (i := 5) hS.2.1 rfl;have hq := run_str (src_upd INT.out.src hS.2.2 (by simp)); go_simp; rfl
    simp only [Act.put, List.setIfInBounds_toArray, List.set_cons_succ, List.set_cons_zero] at ha
    subst ha
    refine wpSeqP_take (by kernel_rfl) (by kernel_rfl) ?_
    apply Exists.intro
    refine ⟨fun wx hS => ?_, fun a' ha => ?_⟩
    · have p1 := hS.1;have x0 := blk_cell (i := 0) hS.2.1 rfl;have x1 := blk_cell (i := 1) hS.2.1 rfl;have x2 := blk_cell (i := 2) hS.2.1 rfl;have x3 := blk_cell (i := 3) hS.2.1 rfl;have x4 := blk_cell (i := 4) hS.2.1 rfl;have x5 := blk_cell (i := 5) hS.2.1 rfl;have hq := run_str (src_upd INT.out.src hS.2.2 (by simp)); go_simp; rfl
    simp only [Act.put, List.setIfInBounds_toArray, List.set_cons_succ, List.set_cons_zero] at ha
    subst ha
    refine wpSeqP_take (by kernel_rfl) (by kernel_rfl) ?_
    apply Exists.intro
    refine ⟨fun wx hS => ?_, fun a' ha => ?_⟩
    · have p1 := hS.1;have x0 := blk_cell (i := 0) hS.2.1 rfl;have x1 := blk_cell (i := 1) hS.2.1 rfl;have x2 := blk_cell (i := 2) hS.2.1 rfl;have x3 := blk_cell (i := 3) hS.2.1 rfl;have x4 := blk_cell (i := 4) hS.2.1 rfl;have x5 := blk_cell (i := 5) hS.2.1 rfl;have hq := run_str (src_upd INT.out.src hS.2.2 (by simp)); go_simp; rfl
    simp only [Act.put, List.setIfInBounds_toArray, List.set_cons_succ, List.set_cons_zero] at ha
    subst ha
    refine wpSeqP_take (by kernel_rfl) (by kernel_rfl) ?_
    apply Exists.intro
    refine ⟨fun wx hS => ?_, fun a' ha => ?_⟩
    · have p1 := hS.1;have x0 := blk_cell (i := 0) hS.2.1 rfl;have x1 := blk_cell (i := 1) hS.2.1 rfl;have x2 := blk_cell (i := 2) hS.2.1 rfl;have x3 := blk_cell (i := 3) hS.2.1 rfl;have x4 := blk_cell (i := 4) hS.2.1 rfl;have x5 := blk_cell (i := 5) hS.2.1 rfl;have hq := run_str (src_upd INT.out.src hS.2.2 (by simp)); go_simp; rfl
    simp only [Act.put, List.setIfInBounds_toArray, List.set_cons_succ, List.set_cons_zero] at ha
    subst ha
    refine wpSeqP_take (by kernel_rfl) (by kernel_rfl) ?_
    apply Exists.intro
    refine ⟨fun wx hS => ?_, fun a' ha => ?_⟩
    · have p1 := hS.1;have x0 := blk_cell (i := 0) hS.2.1 rfl;have x1 := blk_cell (i := 1) hS.2.1 rfl;have x2 := blk_cell (i := 2) hS.2.1 rfl;have x3 := blk_cell (i := 3) hS.2.1 rfl;have x4 := blk_cell (i := 4) hS.2.1 rfl;have x5 := blk_cell (i := 5) hS.2.1 rfl;have hq := run_str (src_upd INT.out.src hS.2.2 (by simp)); go_simp; rfl
    simp only [Act.put, List.setIfInBounds_toArray, List.set_cons_succ, List.set_cons_zero] at ha
    subst ha
    refine wpSeqP_take (by kernel_rfl) (by kernel_rfl) ?_
    apply Exists.intro
    refine ⟨fun wx hS => ?_, fun a' ha => ?_⟩
    · have p1 := hS.1;have x0 := blk_cell (i := 0) hS.2.1 rfl;have x1 := blk_cell (i := 1) hS.2.1 rfl;have x2 := blk_cell (i := 2) hS.2.1 rfl;have x3 := blk_cell (i := 3) hS.2.1 rfl;have x4 := blk_cell (i := 4) hS.2.1 rfl;have x5 := blk_cell (i := 5) hS.2.1 rfl;have hq := run_str (src_upd INT.out.src hS.2.2 (by simp)); go_simp; rfl
    simp only [Act.put, List.setIfInBounds_toArray, List.set_cons_succ, List.set_cons_zero] at ha
    subst ha
    refine wpSeqP_take (by kernel_rfl) (by kernel_rfl) ?_
    apply Exists.intro
    refine ⟨fun wx hS => ?_, fun a' ha => ?_⟩
    · have p1 := hS.1;have x0 := blk_cell (i := 0) hS.2.1 rfl;have x1 := blk_cell (i := 1) hS.2.1 rfl;have x2 := blk_cell (i := 2) hS.2.1 rfl;have x3 := blk_cell (i := 3) hS.2.1 rfl;have x4 := blk_cell (i := 4) hS.2.1 rfl;have x5 := blk_cell (i := 5) hS.2.1 rfl;have hq := run_str (src_upd INT.out.src hS.2.2 (by simp)); go_simp; rfl
    simp only [Act.put, List.setIfInBounds_toArray, List.set_cons_succ, List.set_cons_zero] at ha
    subst ha
    refine wpSeqP_take (by kernel_rfl) (by kernel_rfl) ?_
    apply Exists.intro
    refine ⟨fun wx hS => ?_, fun a' ha => ?_⟩
    · have p1 := hS.1;have x0 := blk_cell (i := 0) hS.2.1 rfl;have x1 := blk_cell (i := 1) hS.2.1 rfl;have x2 := blk_cell (i := 2) hS.2.1 rfl;have x3 := blk_cell (i := 3) hS.2.1 rfl;have x4 := blk_cell (i := 4) hS.2.1 rfl;have x5 := blk_cell (i := 5) hS.2.1 rfl;have hq := run_str (src_upd INT.out.src hS.2.2 (by simp)); go_simp; rfl
    simp only [Act.put, List.setIfInBounds_toArray, List.set_cons_succ, List.set_cons_zero] at ha
    subst ha
    refine wpSeqP_take (by kernel_rfl) (by kernel_rfl) ?_
    apply Exists.intro
    refine ⟨fun wx hS => ?_, fun a' ha => ?_⟩
    · have p1 := hS.1;have x0 := blk_cell (i := 0) hS.2.1 rfl;have x1 := blk_cell (i := 1) hS.2.1 rfl;have x2 := blk_cell (i := 2) hS.2.1 rfl;have x3 := blk_cell (i := 3) hS.2.1 rfl;have x4 := blk_cell (i := 4) hS.2.1 rfl;have x5 := blk_cell (i := 5) hS.2.1 rfl;have hq := run_str (src_upd INT.out.src hS.2.2 (by simp)); go_simp; rfl
    simp only [Act.put, List.setIfInBounds_toArray, List.set_cons_succ, List.set_cons_zero] at ha
    subst ha
    refine wpSeqP_take (by kernel_rfl) (by kernel_rfl) ?_
    apply Exists.intro
    refine ⟨fun wx hS => ?_, fun a' ha => ?_⟩
    · have p1 := hS.1;have x0 := blk_cell (i := 0) hS.2.1 rfl;have x1 := blk_cell (i := 1) hS.2.1 rfl;have x2 := blk_cell (i := 2) hS.2.1 rfl;have x3 := blk_cell (i := 3) hS.2.1 rfl;have x4 := blk_cell (i := 4) hS.2.1 rfl;have x5 := blk_cell (i := 5) hS.2.1 rfl;have hq := run_str (src_upd INT.out.src hS.2.2 (by simp)); go_simp; rfl
    simp only [Act.put, List.setIfInBounds_toArray, List.set_cons_succ, List.set_cons_zero] at ha
    subst ha
    refine wpSeqP_take (by kernel_rfl) (by kernel_rfl) ?_
    apply Exists.intro
    refine ⟨fun wx hS => ?_, fun a' ha => ?_⟩
    · have p1 := hS.1;have x0 := blk_cell (i := 0) hS.2.1 rfl;have x1 := blk_cell (i := 1) hS.2.1 rfl;have x2 := blk_cell (i := 2) hS.2.1 rfl;have x3 := blk_cell (i := 3) hS.2.1 rfl;have x4 := blk_cell (i := 4) hS.2.1 rfl;have x5 := blk_cell (i := 5) hS.2.1 rfl;have hq := run_str (src_upd INT.out.src hS.2.2 (by simp)); go_simp; rfl
    simp only [Act.put, List.setIfInBounds_toArray, List.set_cons_succ, List.set_cons_zero] at ha
    subst ha
    refine wpSeqP_take (by kernel_rfl) (by kernel_rfl) ?_
    apply Exists.intro
    refine ⟨fun wx hS => ?_, fun a' ha => ?_⟩
    · have p1 := hS.1;have x0 := blk_cell (i := 0) hS.2.1 rfl;have x1 := blk_cell (i := 1) hS.2.1 rfl;have x2 := blk_cell (i := 2) hS.2.1 rfl;have x3 := blk_cell (i := 3) hS.2.1 rfl;have x4 := blk_cell (i := 4) hS.2.1 rfl;have x5 := blk_cell (i := 5) hS.2.1 rfl;have hq := run_str (src_upd INT.out.src hS.2.2 (by simp)); go_simp; rfl
    simp only [Act.put, List.setIfInBounds_toArray, List.set_cons_succ, List.set_cons_zero] at ha
    subst ha
    refine wpSeqP_take (by kernel_rfl) (by kernel_rfl) ?_
    apply Exists.intro
    refine ⟨fun wx hS => ?_, fun a' ha => ?_⟩
    · have p1 := hS.1;have x0 := blk_cell (i := 0) hS.2.1 rfl;have x1 := blk_cell (i := 1) hS.2.1 rfl;have x2 := blk_cell (i := 2) hS.2.1 rfl;have x3 := blk_cell (i := 3) hS.2.1 rfl;have x4 := blk_cell (i := 4) hS.2.1 rfl;have x5 := blk_cell (i := 5) hS.2.1 rfl;have hq := run_str (src_upd INT.out.src hS.2.2 (by simp)); go_simp; rfl
    simp only [Act.put, List.setIfInBounds_toArray, List.set_cons_succ, List.set_cons_zero] at ha
    subst ha
    refine wpSeqP_take (by kernel_rfl) (by kernel_rfl) ?_
    apply Exists.intro
    refine ⟨fun wx hS => ?_, fun a' ha => ?_⟩
    · have p1 := hS.1;have x0 := blk_cell (i := 0) hS.2.1 rfl;have x1 := blk_cell (i := 1) hS.2.1 rfl;have x2 := blk_cell (i := 2) hS.2.1 rfl;have x3 := blk_cell (i := 3) hS.2.1 rfl;have x4 := blk_cell (i := 4) hS.2.1 rfl;have x5 := blk_cell (i := 5) hS.2.1 rfl;have hq := run_str (src_upd INT.out.src hS.2.2 (by simp)); go_simp; rfl
    simp only [Act.put, List.setIfInBounds_toArray, List.set_cons_succ, List.set_cons_zero] at ha
    subst ha
    refine wpSeqP_take (by kernel_rfl) (by kernel_rfl) ?_
    apply Exists.intro
    refine ⟨fun wx hS => ?_, fun a' ha => ?_⟩
    · have p1 := hS.1;have x0 := blk_cell (i := 0) hS.2.1 rfl;have x1 := blk_cell (i := 1) hS.2.1 rfl;have x2 := blk_cell (i := 2) hS.2.1 rfl;have x3 := blk_cell (i := 3) hS.2.1 rfl;have x4 := blk_cell (i := 4) hS.2.1 rfl;have x5 := blk_cell (i := 5) hS.2.1 rfl;have hq := run_str (src_upd INT.out.src hS.2.2 (by simp)); go_simp; rfl
    simp only [Act.put, List.setIfInBounds_toArray, List.set_cons_succ, List.set_cons_zero] at ha
    subst ha
    refine wpSeqP_one (by kernel_rfl) (by kernel_rfl) (fun K hK => ?_)
    go_simp
    generalize w2.drewN 1 = w3 at *
    have PA3 := PA3H.out
    obtain ⟨bv, so, sn, sc, hst⟩ := PA3.log.at_
    have hlt := PA3.log.lt
    have hlie := (INT.out.upd PA3.log.upd (by simp)).lies hst.dsk PA3.log.upd.size hlt.1 hlt.2.2.2.2.1 (X := [S, L, g]) (by simp; omega)
    have hsx : SetOk ⟨3, a.slot, Bal.zero, a.bytes⟩ := ⟨.inr (.inr rfl), hok.slot, (by decide : (0 : Nat) < 18446744073709551616), (by show a.bytes.length ≤ 1000; omega)⟩
    refine (setSnap_any (i := i) w3 hst (PA3.log.ready (by omega)) a.slot xo xn xc a.bytes hok.slot hlie (by omega)).mono ?_
    intro e w4 hp4
    obtain ⟨rfl, hl4, ht4⟩ := put_log (x := ⟨3, a.slot, Bal.zero, a.bytes⟩) PA3.log hsx hp4
    have hf4 := PA3.frn.turnedD ht4 (by simp)
    have hbk4 := ((ht4.block PA3.frn.2.1 (by simp; exact ⟨PA3.frn.2.2.1, PA3.frn.2.2.2.2⟩)).2).trans BLK.out
    have hr4 := row_turned ROW.out ht4
    have hbx := SFX.out
    have hx4 := (ht4.block SF3.out (by simp; exact hbx.2.2)).2.trans hS3.2.1
    have hS4 : w4.cell? ⟨P, 1, none⟩ = some (.pointer (some ⟨S, 0, none⟩)) ∧ w4.heap[Bx]? = some (act8O a (.slice xo xn xc)) ∧ Upd [] w0 w4 := ⟨blk_cell hbk4 rfl, hx4, hl4.upd⟩
    have L4 := hide hl4; have F4 := hide hf4; have BK4 := hide hbk4; have R4 := hide hr4
    clear hp4 hl4 ht4 hf4 hbk4 hr4 hx4 hst hlt hlie
    refine hK _ _ (hS4) ?_
    clear hK K
    try simp only [Act.put, List.setIfInBounds_toArray, List.set_cons_succ, List.set_cons_zero]
    refine wpSeqP_one (by kernel_rfl) (by kernel_rfl) (fun K hK => ?_)
    go_simp
    refine (asked_any (x := ⟨3, a.slot, Bal.zero, a.bytes⟩) (i := i) w4 BK4.out R4.out (by intro h; exact h.1 rfl) PA3.log.sto (by omega) hsx (by have := SZ.out; omega)).mono ?_
    rintro e w5 ⟨rfl, hu5, A', B', v', hb5, hsz5, hv5, hrow5⟩
    have hpa := pair_both L4.out F4.out PA3.old R4.out hu5 hb5 SZ.out hsz5 hv5 hrow5
    have hS5 : w5.cell? ⟨P, 1, none⟩ = some (.pointer (some ⟨S, 0, none⟩)) ∧ w5.heap[Bx]? = some (act8O a (.slice xo xn xc)) ∧ Upd [] w0 w5 := ⟨blk_cell hb5 rfl, hu5.get hS4.2.1 (by simpa using hbx.1), hpa.log.upd⟩
    have PA5 := hide hpa
    clear hu5 hb5 hsz5 hv5 hrow5 hpa
    refine hK _ _ (hS5) ?_
    clear hK K
    try simp only [Act.put, List.setIfInBounds_toArray, List.set_cons_succ, List.set_cons_zero]
    refine wpSeqP_take (by kernel_rfl) (by kernel_rfl) ?_
    apply Exists.intro
    refine ⟨fun wx hS => ?_, fun a' ha => ?_⟩
    · go_simp; rfl
    simp only [Act.put, List.setIfInBounds_toArray, List.set_cons_succ, List.set_cons_zero] at ha
    subst ha
    refine wpSeqP_take (by kernel_rfl) (by kernel_rfl) ?_
    apply Exists.intro
    refine ⟨fun wx hS => ?_, fun a' ha => ?_⟩
    · go_simp; rfl
    simp only [Act.put, List.setIfInBounds_toArray, List.set_cons_succ, List.set_cons_zero] at ha
    subst ha
    unfold wpSeqP
    go_wp2_with fail
    go_ret
    exact ⟨rfl, _, _, _, PA5.out⟩
end Go.Proofs.YtekbhfpdakhhkaaGreatDoor.St
