/- The law StableDead: without power nothing is opened, and nothing is set. -/
import Derived.Test.YtekbhfpdakhhkaaGreatDoorSdT
import Derived.Test.YtekbhfpdakhhkaaGreatDoorStWk
namespace Go.Proofs.YtekbhfpdakhhkaaGreatDoor.St
set_option linter.unusedSimpArgs false
set_option linter.unusedVariables false
set_option linter.unnecessarySimpa false
open Go.RowKit Go.Lib Go.Proofs.YtekbhfpdakhhkaaGreatDoor.Crc Go.Proofs.YtekbhfpdakhhkaaGreatDoor.Var Go.Proofs.YtekbhfpdakhhkaaGreatDoor.DiskW Go.Proofs.YtekbhfpdakhhkaaGreatDoor.Rec Go.Proofs.YtekbhfpdakhhkaaGreatDoor.Fr

theorem InT.mono {w : World} {T T' : Nat → Prop} {xo : Option Addr} {n c : Nat} {bs : List UInt8} (h : InT w T xo n c bs) (hT : ∀ k, T k → T' k) : InT w T' xo n c bs := ⟨h.src, h.le, h.mx, fun a e h0 => hT _ (h.blk a e h0)⟩
theorem Acts.up {w w1 : World} {v : Value} {l : List A16} (h : Acts w w.heap.size v l) (hu : Upd [] w w1) : Acts w1 w1.heap.size v l :=
  Row.mono (Acts.upd h hu) (fun k hk => Nat.lt_of_lt_of_le hk hu.size) (fun a cs _ ⟨xo, xn, xc, e, hi, ho⟩ => ⟨xo, xn, xc, e, hi.mono (fun k hk => Nat.lt_of_lt_of_le hk hu.size), ho⟩)
/-- A store whose disk has no power, and what the law has of it. -/
structure DeadAt (w0 w : World) (P S L D g base : Nat) (d : DS) (s : Sto) (i : Nat) : Prop where
  st : ∃ bv so sn sc, StoAt [P] w S L D g base so sn sc bv d s
  dead : d.dead = true
  ok : d.Ok 1000000000000
  sto : StoOk s i
  frn : Foreign [P] w S L D g P
  old : w0.heap.size ≤ P ∧ w0.heap.size ≤ D ∧ w0.heap.size ≤ S ∧ w0.heap.size ≤ g ∧ w0.heap.size ≤ base ∧ base ≤ D
  upd : Upd [] w0 w
  tab : TabAt w0
  blk : ∃ A B v, w.heap[P]? = some (pairO D S A B s v) ∧ Row w (PT w P S L D g) 4 rvP v s.votes
section
variable {w0 w w1 : World} {P S L D g base : Nat} {d : DS} {s : Sto} {i : Nat}
theorem DeadAt.upd_nil (h : DeadAt w0 w P S L D g base d s i) (hu : Upd [] w w1) : DeadAt w0 w1 P S L D g base d s i := by
  obtain ⟨bv, so, sn, sc, hst⟩ := h.st
  have hD := blk_lt hst.dsk.hD
  obtain ⟨A, B, v, h1, h2⟩ := h.blk
  exact ⟨⟨bv, so, sn, sc, hst.upd_nil hu⟩, h.dead, h.ok, h.sto, h.frn.aside hu hD (by simp), h.old, h.upd.trans hu, h.tab, A, B, v, hu.get h1 (by simp), Row.mono (Row.upd h2 hu (by simp) (fun _ _ _ h => h)) (fun k hk => ⟨hk.1, hk.2.1.upd hu hD (by simp), hk.2.2⟩) (fun _ _ _ h => h)⟩
theorem DeadAt.turned (h : DeadAt w0 w P S L D g base d s i) (ht : Turned D [S, g] w w1) (hs : ∃ bv so sn sc, StoAt [P] w1 S L D g base so sn sc bv d s) : DeadAt w0 w1 P S L D g base d s i := by
  obtain ⟨bv, so, sn, sc, hst⟩ := h.st
  obtain ⟨A, B, v, h1, h2⟩ := h.blk
  have ho := h.old
  refine ⟨hs, h.dead, h.ok, h.sto, h.frn.turnedD ht (by simp), h.old, ht.far hst.dsk h.upd ho.2.2.2.2.1 ho.2.1 (by simp; omega), h.tab, A, B, v, ((ht.block h.frn.2.1 (by simp; exact ⟨h.frn.2.2.1, h.frn.2.2.2.2⟩)).2).trans h1, row_turned h2 ht⟩
theorem DeadAt.ready (h : DeadAt w0 w P S L D g base d s i) (hi : i < 1000) : Ready w D base d s i := by
  have ho := h.old
  obtain ⟨bv, so, sn, sc, hst⟩ := h.st
  have := blk_lt hst.dsk.hD
  exact ⟨h.tab.upd h.upd (by simp), ho.2.2.2.2.2, by omega, h.ok, h.sto, hi⟩
/-- A set without power. -/
theorem dead_put {x : SetM} {e : Ending} (h : DeadAt w0 w P S L D g base d s i) (hp : PutSays [P] w S L D g base d s x e w1) :
    e = .returned (.int .i64 (if mayM s x = 0 then 20 else (mayM s x : Int))) ∧ DeadAt w0 w1 P S L D g base d s i := by
  obtain ⟨he, hs, ht⟩ := hp
  have hlog : d.log (recB x) = (d, 20) := by unfold DS.log; simp [h.dead]
  have hpt : putT d s x = ((d, s), if mayM s x = 0 then 20 else (mayM s x : Int)) := by
    unfold putT
    by_cases hm : mayM s x = 0
    · rw [if_neg (by simpa using hm), hlog, if_pos (by simp), if_pos hm]
    · rw [if_pos hm, if_neg hm]
  rw [hpt] at he hs
  exact ⟨he, h.turned ht hs⟩
end
theorem pair_crash {w0 w w1 : World} {P S L D g base q i : Nat} {recs : List (List UInt8)} {s : Sto} {bv' : Value} (h : PairAt [P] w0 w P S L D g base recs q s i) (hi : i < 1000) (hn : Near D w w1) (hd : DiskAt w1 D base bv' ((LogD recs q).crash (-1)).1) : DeadAt w0 w1 P S L D g base ((LogD recs q).crash (-1)).1 s i := by
  obtain ⟨bv, so, sn, sc, hst⟩ := h.log.at_
  obtain ⟨A, B, v, h1, -, h3⟩ := h.blk
  have hlt := h.log.lt
  have ht := Turned.of_near (X := [S, g]) hn
  have hok := (h.log.ready (by omega)).ok
  have e : ((LogD recs q).crash (-1)).1 = ⟨(LogD recs q).byt, (LogD recs q).syn, true, -1⟩ := by unfold DS.crash LogD; simp
  rw [e] at hd ⊢
  exact ⟨⟨_, _, _, _, hst.near hn hd⟩, rfl, ⟨hok.syn, hok.len, by simp, by simp⟩, h.log.sto, h.frn.turnedD ht (by simp), by have := h.old; omega, (Turned.of_near (X := []) hn).far hst.dsk h.log.upd hlt.2.2.2.2.1 hlt.1 (by simp), h.log.tab, A, B, v, ((h.frn.2.1.near hn).2).trans h1, row_turned h3 ht⟩
set_option maxRecDepth 100000 in
set_option maxHeartbeats 8000000 in
theorem dead16_any {v : Value} {l : List A16} {n slot : Nat} {r : Int} (w : World) (hst : TabAt w) (h : Acts w w.heap.size v l) (hn : n < 18446744073709551616) (hsl : slot < 18446744073709551616) :
    Calls Tryz.prog 3 #[v, .agg #[.int .u64 (n : Int), .int .i64 r], .int .u64 (slot : Int)] w fun e w' => e = .returned (.bool true) ∧ Upd [] w w' := by
  have hX := blk_new w (balO n r)
  have hu1 := (Upd.refl [] w).alloc (balO n r)
  have hA := h.up hu1
  have HST := hide hst
  clear hst h
  obtain ⟨lo, lc, rfl, hlc1, hlc2, hget⟩ := act_get hA
  go_enter Tryz.func3, Tryz.ntmps3
  go_upto_region 1 with fail
  generalize w.alloc (balO n r) = w1 at *
  obtain ⟨B4, hB4⟩ : ∃ B4, w.heap.size = B4 := ⟨_, rfl⟩
  rw [hB4] at hX ⊢
  have HX := hide hX; have U1 := hide hu1; have HA := hide hA; have HG := hide hget; have HB := hide hB4
  clear hX hu1 hA hget hB4
  go_wp2_with fail
  refine (great_any16 w1 HA.out).mono ?_
  rintro e w2 ⟨rfl, rfl⟩
  obtain ⟨gr, hgr⟩ : ∃ gr, greatM l = gr := ⟨_, rfl⟩
  rw [hgr]
  cases gr
  case true =>
    clear hgr
    go_wp2_with fail
    refine (wakes16_any w1 (HST.out.upd U1.out (by simp))).mono ?_
    rintro e w2 ⟨rfl, hu⟩
    have U := hide (U1.out.trans hu)
    clear hu
    go_wp2_with fail
    go_ret
    exact ⟨rfl, U.out⟩
  case false =>
  have GL := hide (great_no hgr)
  have hl100 : l.length ≤ 100 := GL.out.1
  clear hgr
  go_wp2_with fail
  refine (DiskW.new_any w1).mono ?_
  rintro e w2 ⟨v, rfl, rfl, hd2, hu2⟩
  have hDl := blk_lt hd2.hD
  obtain ⟨D, hDn⟩ : ∃ D, w1.heap.size = D := ⟨_, rfl⟩
  rw [hDn] at hd2 hDl ⊢
  have hP := blk_new w2 (pair0 D)
  have hu3 := (Upd.refl [] w2).alloc (pair0 D)
  go_upto_region 4 with fail
  generalize w2.alloc (pair0 D) = w3 at *
  obtain ⟨P, hPn⟩ : ∃ P, w2.heap.size = P := ⟨_, rfl⟩
  have hd3 := hd2.upd hu3 (by simp) (by simp)
  have hsz3 := hu3.size
  have hPl := blk_lt hP
  have hsafe := SafeB.fresh hd2 hu3 (by simp) (Nat.le_refl _) hPl
  rw [hPn] at hP hPl hsafe ⊢
  have hop := opens_any (P := P) (D := D) (base := D) (w0 := w1) w3 (HST.out.upd U1.out (by simp)) (hu2.trans hu3) hP hd3 (Nat.le_refl _) (by omega) (by omega) (by omega) (by omega) hsafe
  have HOP := hide hop
  clear hop hsafe hd3 hP hu2 hu3 hd2 hPl hsz3 hPn hDn hDl
  go_wp2_with fail
  refine HOP.out.mono ?_
  rintro e w4 ⟨rfl, S, L, g, hpa⟩
  have PA := hide hpa
  clear hpa HOP
  go_wp2_with fail
  go_loopw [8] (fun si wr => ∃ (i q : Nat) (recs : List (List UInt8)) (s : Sto), i ≤ l.length ∧ si = .int .i64 i ∧ PairAt [P] w1 wr P S L D g D recs q s i) (fun si _ => l.length - (intOf si).toNat)
  case atStart => exact ⟨0, 0, [], sto0, by omega, rfl, PA.out⟩
  case round =>
    obtain ⟨i, q, recs, s, hi, rfl, hpa⟩ := hrel
    have PR := hide hpa
    clear hpa PA
    by_cases hlt : i < l.length
    · have HLT := hide hlt
      have d5 : decide ((i : Int) < (l.length : Int)) = true := by simp; omega
      have d5' : decide (i < l.length) = true := by simpa using hlt
      obtain ⟨a, ha⟩ : ∃ a, l[i]? = some a := ⟨l[i], List.getElem?_eq_getElem hlt⟩
      obtain ⟨b, off, yo, yn, yc, rfl, hb, hin, hok, c0, c1, c2, c3, c4, c5⟩ := HG.out i a ha
      have hbl := GL.out.2 a (List.mem_of_getElem? ha)
      have hu := PR.out.log.upd
      replace c0 := Rec.cell_keep hu c0 (by simp)
      replace c1 := Rec.cell_keep hu c1 (by simp)
      replace c2 := Rec.cell_keep hu c2 (by simp)
      replace c3 := Rec.cell_keep hu c3 (by simp)
      replace c4 := Rec.cell_keep hu c4 (by simp)
      replace c5 := Rec.cell_keep hu c5 (by simp)
      by_cases hk : a.k % 8 < 4
      · have q1 : decide ((a.k : Int) % 8 < 4) = true := decide_eq_true (by omega)
        have hact := act_any (a := a) wr PR.out (by omega) hok hbl hin hk
        have ACT := hide hact
        clear hact hin hok hbl ha hu hk
        go_wp2_with fail
        refine ACT.out.mono ?_
        rintro e w5 ⟨rfl, recs', q', s', hpa⟩
        have PA5 := hide hpa
        clear hpa ACT c0 c1 c2 c3 c4 c5
        go_wp2_with fail
        go_roundw
        case rel => exact ⟨i + 1, _, _, _, by have := HLT.out; omega, by go_num, PA5.out⟩
        case measure => have := HLT.out; simp [intOf]; omega
      · have q1 : decide ((a.k : Int) % 8 < 4) = false := decide_eq_false (by omega)
        clear hin hok hbl ha hu hk c1 c2 c3 c4 c5
        go_wp2_with fail
        go_roundw
        case rel => exact ⟨i + 1, _, _, _, by have := HLT.out; omega, by go_num, PR.out.weak (by omega)⟩
        case measure => have := HLT.out; simp [intOf]; omega
    · have d5 : decide ((i : Int) < (l.length : Int)) = false := by simp; omega
      have d5' : decide (i < l.length) = false := by simpa using hlt
      clear hlt
      rename World => w5
      obtain ⟨A, B, v, hblk, -, -⟩ := PR.out.blk
      obtain ⟨bv, so, sn, sc, hst⟩ := PR.out.log.at_
      have hlt := PR.out.log.lt
      have hok := (PR.out.log.ready (by omega)).ok
      have hcr := crash_any (n := -1) w5 hst.dsk hok hlt.2.2.2.2.2 PR.out.log.hb
      have p0 : w5.cell? ⟨P, 0, none⟩ = some (.pointer (some ⟨D, 0, none⟩)) := blk_cell hblk rfl
      have CR := hide hcr
      clear hblk hst hlt hok hcr
      go_wp2_with fail
      refine CR.out.mono ?_
      rintro e w6 ⟨v, rfl, rfl, bv6, hd6, -, hn6⟩
      have hda := pair_crash PR.out (by omega) hn6 hd6
      obtain ⟨dd, hdd⟩ : ∃ dd, ((LogD recs q).crash (-1)).1 = dd := ⟨_, rfl⟩
      rw [hdd] at hda
      have DA := hide hda
      clear hda hd6 hn6 CR hdd p0 PR
      obtain ⟨A, B, v, hblk, -⟩ := DA.out.blk
      obtain ⟨bv, so, sn, sc, hst⟩ := DA.out.st
      have p0 : w6.cell? ⟨P, 0, none⟩ = some (.pointer (some ⟨D, 0, none⟩)) := blk_cell hblk rfl
      have hso := sopen_dead w6 hst.dsk DA.out.dead
      have SO := hide hso
      clear hblk hst hso
      go_wp2_with fail
      refine SO.out.mono ?_
      rintro e w7 ⟨rfl, hu7⟩
      have DA7 := hide (DA.out.upd_nil hu7)
      clear hu7 SO p0 DA
      obtain ⟨A, B, v, hblk, -⟩ := DA7.out.blk
      obtain ⟨bv, so, sn, sc, hst⟩ := DA7.out.st
      have p1 : w7.cell? ⟨P, 1, none⟩ = some (.pointer (some ⟨S, 0, none⟩)) := blk_cell hblk rfl
      have hrd := DA7.out.ready (by omega)
      have hsy := ssync_any (i := i) w7 hst hrd.hD hrd.hb
      have hds : dd.sync = (dd, 20) := by unfold DS.sync; rw [if_pos DA7.out.dead]
      rw [hds] at hsy
      have SY := hide hsy
      clear hblk hst hrd hsy hds
      go_wp2_with fail
      refine SY.out.mono ?_
      rintro e w8 ⟨rfl, ⟨bv8, hst8⟩, ht8⟩
      have DA8 := hide (DA7.out.turned (ht8.mono (by simp)) ⟨_, _, _, _, hst8⟩)
      clear hst8 ht8 SY p1 DA7
      go_upto_region 15 with fail
      have DA9 := hide (DA8.out.upd_nil ((Upd.refl [] w8).drewN 1))
      obtain ⟨A, B, v, hblk, hrow⟩ := DA9.out.blk
      obtain ⟨ro, rc, rfl, -, -⟩ := Row.slice hrow
      have hS9 : (w8.drewN 1).heap[P]? = some (pairO D S A B s (.slice ro s.votes.length rc)) ∧ (w8.drewN 1).heap[B4]? = some (balO n r) := ⟨hblk, DA9.out.upd.get HX.out (by simp)⟩
      have S9 := hide hS9
      refine wp_region_seqP (findOps 15 ((Tryz.f3.body).getD .skip)) (by kernel_rfl) [5, 12] [0, 1, 2, 3, 4, 6, 7, 8, 9, 10, 11, 5, 12, 13, 14] (fun wx => wx.heap[P]? = some (pairO D S A B s (.slice ro s.votes.length rc)) ∧ wx.heap[B4]? = some (balO n r)) (by kernel_rfl) (by kernel_rfl) (fun _ _ d _ _ h => by cases d <;> exact h) hS9 ?_
      simp only [pickO, List.filterMap_cons, List.filterMap_nil, List.getElem?_cons_succ, List.getElem?_cons_zero]
      refine wpSeqP_take (by kernel_rfl) (by kernel_rfl) ?_
      apply Exists.intro
      refine ⟨fun wx hS => ?_, fun a' ha => ?_⟩
      · have p1 := blk_cell (i := 1) hS.1 rfl;have p6 := blk_cell (i := 6) hS.1 rfl;have p7 := blk_cell (i := 7) hS.1 rfl;have p8 := blk_cell (i := 8) hS.1 rfl;have p9 := blk_cell (i := 9) hS.1 rfl;have p10 := blk_cell (i := 10) hS.1 rfl;have b0 := blk_cell (i := 0) hS.2 rfl;have b1 := blk_cell (i := 1) hS.2 rfl; go_simp; rfl
      simp only [Act.put, List.setIfInBounds_toArray, List.set_cons_succ, List.set_cons_zero] at ha
      subst ha
      refine wpSeqP_take (by kernel_rfl) (by kernel_rfl) ?_
      apply Exists.intro
      refine ⟨fun wx hS => ?_, fun a' ha => ?_⟩
      · have p1 := blk_cell (i := 1) hS.1 rfl;have p6 := blk_cell (i := 6) hS.1 rfl;have p7 := blk_cell (i := 7) hS.1 rfl;have p8 := blk_cell (i := 8) hS.1 rfl;have p9 := blk_cell (i := 9) hS.1 rfl;have p10 := blk_cell (i := 10) hS.1 rfl;have b0 := blk_cell (i := 0) hS.2 rfl;have b1 := blk_cell (i := 1) hS.2 rfl; go_simp; rfl
      simp only [Act.put, List.setIfInBounds_toArray, List.set_cons_succ, List.set_cons_zero] at ha
      subst ha
      refine wpSeqP_take (by kernel_rfl) (by kernel_rfl) ?_
      apply Exists.intro
      refine ⟨fun wx hS => ?_, fun a' ha => ?_⟩
      · have p1 := blk_cell (i := 1) hS.1 rfl;have p6 := blk_cell (i := 6) hS.1 rfl;have p7 := blk_cell (i := 7) hS.1 rfl;have p8 := blk_cell (i := 8) hS.1 rfl;have p9 := blk_cell (i := 9) hS.1 rfl;have p10 := blk_cell (i := 10) hS.1 rfl;have b0 := blk_cell (i := 0) hS.2 rfl;have b1 := blk_cell (i := 1) hS.2 rfl; go_simp; rfl
      simp only [Act.put, List.setIfInBounds_toArray, List.set_cons_succ, List.set_cons_zero] at ha
      subst ha
      refine wpSeqP_take (by kernel_rfl) (by kernel_rfl) ?_
      apply Exists.intro
      refine ⟨fun wx hS => ?_, fun a' ha => ?_⟩
      · have p1 := blk_cell (i := 1) hS.1 rfl;have p6 := blk_cell (i := 6) hS.1 rfl;have p7 := blk_cell (i := 7) hS.1 rfl;have p8 := blk_cell (i := 8) hS.1 rfl;have p9 := blk_cell (i := 9) hS.1 rfl;have p10 := blk_cell (i := 10) hS.1 rfl;have b0 := blk_cell (i := 0) hS.2 rfl;have b1 := blk_cell (i := 1) hS.2 rfl; go_simp; rfl
      simp only [Act.put, List.setIfInBounds_toArray, List.set_cons_succ, List.set_cons_zero] at ha
      subst ha
      refine wpSeqP_take (by kernel_rfl) (by kernel_rfl) ?_
      apply Exists.intro
      refine ⟨fun wx hS => ?_, fun a' ha => ?_⟩
      · have p1 := blk_cell (i := 1) hS.1 rfl;have p6 := blk_cell (i := 6) hS.1 rfl;have p7 := blk_cell (i := 7) hS.1 rfl;have p8 := blk_cell (i := 8) hS.1 rfl;have p9 := blk_cell (i := 9) hS.1 rfl;have p10 := blk_cell (i := 10) hS.1 rfl;have b0 := blk_cell (i := 0) hS.2 rfl;have b1 := blk_cell (i := 1) hS.2 rfl; go_simp; rfl
      simp only [Act.put, List.setIfInBounds_toArray, List.set_cons_succ, List.set_cons_zero] at ha
      subst ha
      refine wpSeqP_take (by kernel_rfl) (by kernel_rfl) ?_
      apply Exists.intro
      refine ⟨fun wx hS => ?_, fun a' ha => ?_⟩
      · have p1 := blk_cell (i := 1) hS.1 rfl;have p6 := blk_cell (i := 6) hS.1 rfl;have p7 := blk_cell (i := 7) hS.1 rfl;have p8 := blk_cell (i := 8) hS.1 rfl;have p9 := blk_cell (i := 9) hS.1 rfl;have p10 := blk_cell (i := 10) hS.1 rfl;have b0 := blk_cell (i := 0) hS.2 rfl;have b1 := blk_cell (i := 1) hS.2 rfl; go_simp; rfl
      simp only [Act.put, List.setIfInBounds_toArray, List.set_cons_succ, List.set_cons_zero] at ha
      subst ha
      refine wpSeqP_take (by kernel_rfl) (by kernel_rfl) ?_
      apply Exists.intro
      refine ⟨fun wx hS => ?_, fun a' ha => ?_⟩
      · have p1 := blk_cell (i := 1) hS.1 rfl;have p6 := blk_cell (i := 6) hS.1 rfl;have p7 := blk_cell (i := 7) hS.1 rfl;have p8 := blk_cell (i := 8) hS.1 rfl;have p9 := blk_cell (i := 9) hS.1 rfl;have p10 := blk_cell (i := 10) hS.1 rfl;have b0 := blk_cell (i := 0) hS.2 rfl;have b1 := blk_cell (i := 1) hS.2 rfl; go_simp; rfl
      simp only [Act.put, List.setIfInBounds_toArray, List.set_cons_succ, List.set_cons_zero] at ha
      subst ha
      refine wpSeqP_take (by kernel_rfl) (by kernel_rfl) ?_
      apply Exists.intro
      refine ⟨fun wx hS => ?_, fun a' ha => ?_⟩
      · have p1 := blk_cell (i := 1) hS.1 rfl;have p6 := blk_cell (i := 6) hS.1 rfl;have p7 := blk_cell (i := 7) hS.1 rfl;have p8 := blk_cell (i := 8) hS.1 rfl;have p9 := blk_cell (i := 9) hS.1 rfl;have p10 := blk_cell (i := 10) hS.1 rfl;have b0 := blk_cell (i := 0) hS.2 rfl;have b1 := blk_cell (i := 1) hS.2 rfl; go_simp; rfl
      simp only [Act.put, List.setIfInBounds_toArray, List.set_cons_succ, List.set_cons_zero] at ha
      subst ha
      refine wpSeqP_take (by kernel_rfl) (by kernel_rfl) ?_
      apply Exists.intro
      refine ⟨fun wx hS => ?_, fun a' ha => ?_⟩
      · have p1 := blk_cell (i := 1) hS.1 rfl;have p6 := blk_cell (i := 6) hS.1 rfl;have p7 := blk_cell (i := 7) hS.1 rfl;have p8 := blk_cell (i := 8) hS.1 rfl;have p9 := blk_cell (i := 9) hS.1 rfl;have p10 := blk_cell (i := 10) hS.1 rfl;have b0 := blk_cell (i := 0) hS.2 rfl;have b1 := blk_cell (i := 1) hS.2 rfl; go_simp; rfl
      simp only [Act.put, List.setIfInBounds_toArray, List.set_cons_succ, List.set_cons_zero] at ha
      subst ha
      refine wpSeqP_take (by kernel_rfl) (by kernel_rfl) ?_
      apply Exists.intro
      refine ⟨fun wx hS => ?_, fun a' ha => ?_⟩
      · have p1 := blk_cell (i := 1) hS.1 rfl;have p6 := blk_cell (i := 6) hS.1 rfl;have p7 := blk_cell (i := 7) hS.1 rfl;have p8 := blk_cell (i := 8) hS.1 rfl;have p9 := blk_cell (i := 9) hS.1 rfl;have p10 := blk_cell (i := 10) hS.1 rfl;have b0 := blk_cell (i := 0) hS.2 rfl;have b1 := blk_cell (i := 1) hS.2 rfl; go_simp; rfl
      simp only [Act.put, List.setIfInBounds_toArray, List.set_cons_succ, List.set_cons_zero] at ha
      subst ha
      refine wpSeqP_take (by kernel_rfl) (by kernel_rfl) ?_
      apply Exists.intro
      refine ⟨fun wx hS => ?_, fun a' ha => ?_⟩
      · have p1 := blk_cell (i := 1) hS.1 rfl;have p6 := blk_cell (i := 6) hS.1 rfl;have p7 := blk_cell (i := 7) hS.1 rfl;have p8 := blk_cell (i := 8) hS.1 rfl;have p9 := blk_cell (i := 9) hS.1 rfl;have p10 := blk_cell (i := 10) hS.1 rfl;have b0 := blk_cell (i := 0) hS.2 rfl;have b1 := blk_cell (i := 1) hS.2 rfl; go_simp; rfl
      simp only [Act.put, List.setIfInBounds_toArray, List.set_cons_succ, List.set_cons_zero] at ha
      subst ha
      refine wpSeqP_one (by kernel_rfl) (by kernel_rfl) (fun K hK => ?_)
      go_simp
      generalize w8.drewN 1 = w9 at *
      obtain ⟨bv, so, sn, sc, hst⟩ := DA9.out.st
      refine (setPromise_any (i := i) w9 hst (DA9.out.ready (by omega)) ⟨n, r⟩ hn).mono ?_
      intro e w10 hp
      obtain ⟨rfl, hda⟩ := dead_put DA9.out hp
      obtain ⟨m1, hm1⟩ : ∃ m, mayM s ⟨1, 0, ⟨n, r⟩, []⟩ = m := ⟨_, rfl⟩
      rw [hm1]
      have DA10 := hide hda
      have hS10 : w10.heap[P]? = some (pairO D S A B s (.slice ro s.votes.length rc)) ∧ w10.heap[B4]? = some (balO n r) := by
        obtain ⟨ht1, ht2, ht3⟩ := hp
        exact ⟨((ht3.block DA9.out.frn.2.1 (by simp; exact ⟨DA9.out.frn.2.2.1, DA9.out.frn.2.2.2.2⟩)).2).trans hblk, hda.upd.get HX.out (by simp)⟩
      clear hp hda hst
      refine hK _ _ (hS10) ?_
      clear hK K
      try simp only [Act.put, List.setIfInBounds_toArray, List.set_cons_succ, List.set_cons_zero]
      refine wpSeqP_one (by kernel_rfl) (by kernel_rfl) (fun K hK => ?_)
      go_simp
      have hmay := rmay_any s (.slice ro s.votes.length rc) 1 0 n r [] (strOf s.snap) ⟨#[]⟩ w10
      rw [show mayM s ⟨1, 0, ⟨n, r⟩, []⟩ = m1 from hm1] at hmay
      refine hmay.mono ?_
      rintro e w11 ⟨rfl, hu11⟩
      have hS11 : w11.heap[P]? = some (pairO D S A B s (.slice ro s.votes.length rc)) ∧ w11.heap[B4]? = some (balO n r) := ⟨hu11.get hS10.1 (by simp), hu11.get hS10.2 (by simp)⟩
      have DA15 := hide (DA10.out.upd_nil hu11)
      refine hK _ _ (hS11) ?_
      clear hK K
      try simp only [Act.put, List.setIfInBounds_toArray, List.set_cons_succ, List.set_cons_zero]
      refine wpSeqP_take (by kernel_rfl) (by kernel_rfl) ?_
      apply Exists.intro
      refine ⟨fun wx hS => ?_, fun a' ha => ?_⟩
      · go_simp; rfl
      simp only [Act.put, List.setIfInBounds_toArray, List.set_cons_succ, List.set_cons_zero] at ha
      subst ha
      refine wpSeqP_take (by kernel_rfl) (by kernel_rfl) ?_
      apply Exists.intro
      refine ⟨fun wx hS => ?_, fun a' ha => ?_⟩
      · go_simp; rfl
      simp only [Act.put, List.setIfInBounds_toArray, List.set_cons_succ, List.set_cons_zero] at ha
      subst ha
      unfold wpSeqP
      clear hS9 S9 hblk hrow hS10 hS11 hmay hu11 hm1 DA10 DA9
      rename World => w15
      go_upto_region 16 with fail
      have DA9 := hide (DA15.out.upd_nil ((Upd.refl [] w15).drewN 1))
      obtain ⟨A, B, v, hblk, hrow⟩ := DA9.out.blk
      obtain ⟨ro, rc, rfl, -, -⟩ := Row.slice hrow
      have hS9 : (w15.drewN 1).heap[P]? = some (pairO D S A B s (.slice ro s.votes.length rc)) ∧ (w15.drewN 1).heap[B4]? = some (balO n r) := ⟨hblk, DA9.out.upd.get HX.out (by simp)⟩
      have S9 := hide hS9
      refine wp_region_seqP (findOps 16 ((Tryz.f3.body).getD .skip)) (by kernel_rfl) [5, 12] [0, 1, 2, 3, 4, 6, 7, 8, 9, 10, 11, 5, 12, 13, 14] (fun wx => wx.heap[P]? = some (pairO D S A B s (.slice ro s.votes.length rc)) ∧ wx.heap[B4]? = some (balO n r)) (by kernel_rfl) (by kernel_rfl) (fun _ _ d _ _ h => by cases d <;> exact h) hS9 ?_
      simp only [pickO, List.filterMap_cons, List.filterMap_nil, List.getElem?_cons_succ, List.getElem?_cons_zero]
      refine wpSeqP_take (by kernel_rfl) (by kernel_rfl) ?_
      apply Exists.intro
      refine ⟨fun wx hS => ?_, fun a' ha => ?_⟩
      · have p1 := blk_cell (i := 1) hS.1 rfl;have p6 := blk_cell (i := 6) hS.1 rfl;have p7 := blk_cell (i := 7) hS.1 rfl;have p8 := blk_cell (i := 8) hS.1 rfl;have p9 := blk_cell (i := 9) hS.1 rfl;have p10 := blk_cell (i := 10) hS.1 rfl;have b0 := blk_cell (i := 0) hS.2 rfl;have b1 := blk_cell (i := 1) hS.2 rfl; go_simp; rfl
      simp only [Act.put, List.setIfInBounds_toArray, List.set_cons_succ, List.set_cons_zero] at ha
      subst ha
      refine wpSeqP_take (by kernel_rfl) (by kernel_rfl) ?_
      apply Exists.intro
      refine ⟨fun wx hS => ?_, fun a' ha => ?_⟩
      · have p1 := blk_cell (i := 1) hS.1 rfl;have p6 := blk_cell (i := 6) hS.1 rfl;have p7 := blk_cell (i := 7) hS.1 rfl;have p8 := blk_cell (i := 8) hS.1 rfl;have p9 := blk_cell (i := 9) hS.1 rfl;have p10 := blk_cell (i := 10) hS.1 rfl;have b0 := blk_cell (i := 0) hS.2 rfl;have b1 := blk_cell (i := 1) hS.2 rfl; go_simp; rfl
      simp only [Act.put, List.setIfInBounds_toArray, List.set_cons_succ, List.set_cons_zero] at ha
      subst ha
      refine wpSeqP_take (by kernel_rfl) (by kernel_rfl) ?_
      apply Exists.intro
      refine ⟨fun wx hS => ?_, fun a' ha => ?_⟩
      · have p1 := blk_cell (i := 1) hS.1 rfl;have p6 := blk_cell (i := 6) hS.1 rfl;have p7 := blk_cell (i := 7) hS.1 rfl;have p8 := blk_cell (i := 8) hS.1 rfl;have p9 := blk_cell (i := 9) hS.1 rfl;have p10 := blk_cell (i := 10) hS.1 rfl;have b0 := blk_cell (i := 0) hS.2 rfl;have b1 := blk_cell (i := 1) hS.2 rfl; go_simp; rfl
      simp only [Act.put, List.setIfInBounds_toArray, List.set_cons_succ, List.set_cons_zero] at ha
      subst ha
      refine wpSeqP_take (by kernel_rfl) (by kernel_rfl) ?_
      apply Exists.intro
      refine ⟨fun wx hS => ?_, fun a' ha => ?_⟩
      · have p1 := blk_cell (i := 1) hS.1 rfl;have p6 := blk_cell (i := 6) hS.1 rfl;have p7 := blk_cell (i := 7) hS.1 rfl;have p8 := blk_cell (i := 8) hS.1 rfl;have p9 := blk_cell (i := 9) hS.1 rfl;have p10 := blk_cell (i := 10) hS.1 rfl;have b0 := blk_cell (i := 0) hS.2 rfl;have b1 := blk_cell (i := 1) hS.2 rfl; go_simp; rfl
      simp only [Act.put, List.setIfInBounds_toArray, List.set_cons_succ, List.set_cons_zero] at ha
      subst ha
      refine wpSeqP_take (by kernel_rfl) (by kernel_rfl) ?_
      apply Exists.intro
      refine ⟨fun wx hS => ?_, fun a' ha => ?_⟩
      · have p1 := blk_cell (i := 1) hS.1 rfl;have p6 := blk_cell (i := 6) hS.1 rfl;have p7 := blk_cell (i := 7) hS.1 rfl;have p8 := blk_cell (i := 8) hS.1 rfl;have p9 := blk_cell (i := 9) hS.1 rfl;have p10 := blk_cell (i := 10) hS.1 rfl;have b0 := blk_cell (i := 0) hS.2 rfl;have b1 := blk_cell (i := 1) hS.2 rfl; go_simp; rfl
      simp only [Act.put, List.setIfInBounds_toArray, List.set_cons_succ, List.set_cons_zero] at ha
      subst ha
      refine wpSeqP_take (by kernel_rfl) (by kernel_rfl) ?_
      apply Exists.intro
      refine ⟨fun wx hS => ?_, fun a' ha => ?_⟩
      · have p1 := blk_cell (i := 1) hS.1 rfl;have p6 := blk_cell (i := 6) hS.1 rfl;have p7 := blk_cell (i := 7) hS.1 rfl;have p8 := blk_cell (i := 8) hS.1 rfl;have p9 := blk_cell (i := 9) hS.1 rfl;have p10 := blk_cell (i := 10) hS.1 rfl;have b0 := blk_cell (i := 0) hS.2 rfl;have b1 := blk_cell (i := 1) hS.2 rfl; go_simp; rfl
      simp only [Act.put, List.setIfInBounds_toArray, List.set_cons_succ, List.set_cons_zero] at ha
      subst ha
      refine wpSeqP_take (by kernel_rfl) (by kernel_rfl) ?_
      apply Exists.intro
      refine ⟨fun wx hS => ?_, fun a' ha => ?_⟩
      · have p1 := blk_cell (i := 1) hS.1 rfl;have p6 := blk_cell (i := 6) hS.1 rfl;have p7 := blk_cell (i := 7) hS.1 rfl;have p8 := blk_cell (i := 8) hS.1 rfl;have p9 := blk_cell (i := 9) hS.1 rfl;have p10 := blk_cell (i := 10) hS.1 rfl;have b0 := blk_cell (i := 0) hS.2 rfl;have b1 := blk_cell (i := 1) hS.2 rfl; go_simp; rfl
      simp only [Act.put, List.setIfInBounds_toArray, List.set_cons_succ, List.set_cons_zero] at ha
      subst ha
      refine wpSeqP_take (by kernel_rfl) (by kernel_rfl) ?_
      apply Exists.intro
      refine ⟨fun wx hS => ?_, fun a' ha => ?_⟩
      · have p1 := blk_cell (i := 1) hS.1 rfl;have p6 := blk_cell (i := 6) hS.1 rfl;have p7 := blk_cell (i := 7) hS.1 rfl;have p8 := blk_cell (i := 8) hS.1 rfl;have p9 := blk_cell (i := 9) hS.1 rfl;have p10 := blk_cell (i := 10) hS.1 rfl;have b0 := blk_cell (i := 0) hS.2 rfl;have b1 := blk_cell (i := 1) hS.2 rfl; go_simp; rfl
      simp only [Act.put, List.setIfInBounds_toArray, List.set_cons_succ, List.set_cons_zero] at ha
      subst ha
      refine wpSeqP_take (by kernel_rfl) (by kernel_rfl) ?_
      apply Exists.intro
      refine ⟨fun wx hS => ?_, fun a' ha => ?_⟩
      · have p1 := blk_cell (i := 1) hS.1 rfl;have p6 := blk_cell (i := 6) hS.1 rfl;have p7 := blk_cell (i := 7) hS.1 rfl;have p8 := blk_cell (i := 8) hS.1 rfl;have p9 := blk_cell (i := 9) hS.1 rfl;have p10 := blk_cell (i := 10) hS.1 rfl;have b0 := blk_cell (i := 0) hS.2 rfl;have b1 := blk_cell (i := 1) hS.2 rfl; go_simp; rfl
      simp only [Act.put, List.setIfInBounds_toArray, List.set_cons_succ, List.set_cons_zero] at ha
      subst ha
      refine wpSeqP_take (by kernel_rfl) (by kernel_rfl) ?_
      apply Exists.intro
      refine ⟨fun wx hS => ?_, fun a' ha => ?_⟩
      · have p1 := blk_cell (i := 1) hS.1 rfl;have p6 := blk_cell (i := 6) hS.1 rfl;have p7 := blk_cell (i := 7) hS.1 rfl;have p8 := blk_cell (i := 8) hS.1 rfl;have p9 := blk_cell (i := 9) hS.1 rfl;have p10 := blk_cell (i := 10) hS.1 rfl;have b0 := blk_cell (i := 0) hS.2 rfl;have b1 := blk_cell (i := 1) hS.2 rfl; go_simp; rfl
      simp only [Act.put, List.setIfInBounds_toArray, List.set_cons_succ, List.set_cons_zero] at ha
      subst ha
      refine wpSeqP_take (by kernel_rfl) (by kernel_rfl) ?_
      apply Exists.intro
      refine ⟨fun wx hS => ?_, fun a' ha => ?_⟩
      · have p1 := blk_cell (i := 1) hS.1 rfl;have p6 := blk_cell (i := 6) hS.1 rfl;have p7 := blk_cell (i := 7) hS.1 rfl;have p8 := blk_cell (i := 8) hS.1 rfl;have p9 := blk_cell (i := 9) hS.1 rfl;have p10 := blk_cell (i := 10) hS.1 rfl;have b0 := blk_cell (i := 0) hS.2 rfl;have b1 := blk_cell (i := 1) hS.2 rfl; go_simp; rfl
      simp only [Act.put, List.setIfInBounds_toArray, List.set_cons_succ, List.set_cons_zero] at ha
      subst ha
      refine wpSeqP_one (by kernel_rfl) (by kernel_rfl) (fun K hK => ?_)
      go_simp
      generalize w15.drewN 1 = w9 at *
      obtain ⟨bv, so, sn, sc, hst⟩ := DA9.out.st
      refine (setSnap_any (i := i) w9 hst (DA9.out.ready (by omega)) slot none 0 0 [] hsl (Lies.nil _ _ _) (by simp)).mono ?_
      intro e w10 hp
      obtain ⟨rfl, hda⟩ := dead_put DA9.out hp
      obtain ⟨m2, hm2⟩ : ∃ m, mayM s ⟨3, slot, Bal.zero, []⟩ = m := ⟨_, rfl⟩
      rw [hm2]
      have DA10 := hide hda
      have hS10 : w10.heap[P]? = some (pairO D S A B s (.slice ro s.votes.length rc)) ∧ w10.heap[B4]? = some (balO n r) := by
        obtain ⟨ht1, ht2, ht3⟩ := hp
        exact ⟨((ht3.block DA9.out.frn.2.1 (by simp; exact ⟨DA9.out.frn.2.2.1, DA9.out.frn.2.2.2.2⟩)).2).trans hblk, hda.upd.get HX.out (by simp)⟩
      clear hp hda hst
      refine hK _ _ (hS10) ?_
      clear hK K
      try simp only [Act.put, List.setIfInBounds_toArray, List.set_cons_succ, List.set_cons_zero]
      refine wpSeqP_one (by kernel_rfl) (by kernel_rfl) (fun K hK => ?_)
      go_simp
      have hmay := rmay_any s (.slice ro s.votes.length rc) 3 slot 0 0 [] (strOf s.snap) ⟨#[]⟩ w10
      rw [show mayM s ⟨3, slot, ⟨0, 0⟩, []⟩ = m2 from hm2] at hmay
      refine hmay.mono ?_
      rintro e w11 ⟨rfl, hu11⟩
      have hS11 : w11.heap[P]? = some (pairO D S A B s (.slice ro s.votes.length rc)) ∧ w11.heap[B4]? = some (balO n r) := ⟨hu11.get hS10.1 (by simp), hu11.get hS10.2 (by simp)⟩
      have DA16 := hide (DA10.out.upd_nil hu11)
      refine hK _ _ (hS11) ?_
      clear hK K
      try simp only [Act.put, List.setIfInBounds_toArray, List.set_cons_succ, List.set_cons_zero]
      refine wpSeqP_take (by kernel_rfl) (by kernel_rfl) ?_
      apply Exists.intro
      refine ⟨fun wx hS => ?_, fun a' ha => ?_⟩
      · go_simp; rfl
      simp only [Act.put, List.setIfInBounds_toArray, List.set_cons_succ, List.set_cons_zero] at ha
      subst ha
      refine wpSeqP_take (by kernel_rfl) (by kernel_rfl) ?_
      apply Exists.intro
      refine ⟨fun wx hS => ?_, fun a' ha => ?_⟩
      · go_simp; rfl
      simp only [Act.put, List.setIfInBounds_toArray, List.set_cons_succ, List.set_cons_zero] at ha
      subst ha
      unfold wpSeqP
      clear hS9 S9 hblk hrow hS10 hS11 hmay hu11 hm2 DA10 DA9
      rename World => w16
      by_cases e1 : m1 = 0
      · subst e1
        by_cases e2 : m2 = 0
        · subst e2
          simp only [if_true]
          go_upto_region 21 with fail
          have DA9 := hide (DA16.out.upd_nil ((Upd.refl [] w16).drewN 1))
          obtain ⟨A, B, v, hblk, hrow⟩ := DA9.out.blk
          obtain ⟨ro, rc, rfl, -, -⟩ := Row.slice hrow
          have S9 := hide hblk
          refine wp_region_seqP (findOps 21 ((Tryz.f3.body).getD .skip)) (by kernel_rfl) [17, 20] [0, 1, 2, 3, 4, 5, 6, 7, 8, 9, 10, 11, 12, 13, 14, 15, 16, 17, 18, 19, 20, 21, 22] (fun wx => wx.heap[P]? = some (pairO D S A B s (.slice ro s.votes.length rc))) (by kernel_rfl) (by kernel_rfl) (fun _ _ d _ _ h => by cases d <;> exact h) hblk ?_
          simp only [pickO, List.filterMap_cons, List.filterMap_nil, List.getElem?_cons_succ, List.getElem?_cons_zero]
          refine wpSeqP_take (by kernel_rfl) (by kernel_rfl) ?_
          apply Exists.intro
          refine ⟨fun wx hS => ?_, fun a' ha => ?_⟩
          · go_simp; rfl
          simp only [Act.put, List.setIfInBounds_toArray, List.set_cons_succ, List.set_cons_zero] at ha
          subst ha
          refine wpSeqP_take (by kernel_rfl) (by kernel_rfl) ?_
          apply Exists.intro
          refine ⟨fun wx hS => ?_, fun a' ha => ?_⟩
          · go_simp; rfl
          simp only [Act.put, List.setIfInBounds_toArray, List.set_cons_succ, List.set_cons_zero] at ha
          subst ha
          refine wpSeqP_take (by kernel_rfl) (by kernel_rfl) ?_
          apply Exists.intro
          refine ⟨fun wx hS => ?_, fun a' ha => ?_⟩
          · go_simp; rfl
          simp only [Act.put, List.setIfInBounds_toArray, List.set_cons_succ, List.set_cons_zero] at ha
          subst ha
          refine wpSeqP_take (by kernel_rfl) (by kernel_rfl) ?_
          apply Exists.intro
          refine ⟨fun wx hS => ?_, fun a' ha => ?_⟩
          · go_simp; rfl
          simp only [Act.put, List.setIfInBounds_toArray, List.set_cons_succ, List.set_cons_zero] at ha
          subst ha
          refine wpSeqP_take (by kernel_rfl) (by kernel_rfl) ?_
          apply Exists.intro
          refine ⟨fun wx hS => ?_, fun a' ha => ?_⟩
          · go_simp; rfl
          simp only [Act.put, List.setIfInBounds_toArray, List.set_cons_succ, List.set_cons_zero] at ha
          subst ha
          refine wpSeqP_take (by kernel_rfl) (by kernel_rfl) ?_
          apply Exists.intro
          refine ⟨fun wx hS => ?_, fun a' ha => ?_⟩
          · go_simp; rfl
          simp only [Act.put, List.setIfInBounds_toArray, List.set_cons_succ, List.set_cons_zero] at ha
          subst ha
          refine wpSeqP_take (by kernel_rfl) (by kernel_rfl) ?_
          apply Exists.intro
          refine ⟨fun wx hS => ?_, fun a' ha => ?_⟩
          · go_simp; rfl
          simp only [Act.put, List.setIfInBounds_toArray, List.set_cons_succ, List.set_cons_zero] at ha
          subst ha
          refine wpSeqP_take (by kernel_rfl) (by kernel_rfl) ?_
          apply Exists.intro
          refine ⟨fun wx hS => ?_, fun a' ha => ?_⟩
          · go_simp; rfl
          simp only [Act.put, List.setIfInBounds_toArray, List.set_cons_succ, List.set_cons_zero] at ha
          subst ha
          refine wpSeqP_take (by kernel_rfl) (by kernel_rfl) ?_
          apply Exists.intro
          refine ⟨fun wx hS => ?_, fun a' ha => ?_⟩
          · go_simp; rfl
          simp only [Act.put, List.setIfInBounds_toArray, List.set_cons_succ, List.set_cons_zero] at ha
          subst ha
          refine wpSeqP_take (by kernel_rfl) (by kernel_rfl) ?_
          apply Exists.intro
          refine ⟨fun wx hS => ?_, fun a' ha => ?_⟩
          · have p1 := blk_cell (i := 1) hS rfl;have p6 := blk_cell (i := 6) hS rfl;have p7 := blk_cell (i := 7) hS rfl;have p8 := blk_cell (i := 8) hS rfl;have p9 := blk_cell (i := 9) hS rfl;have p10 := blk_cell (i := 10) hS rfl; go_simp; rfl
          simp only [Act.put, List.setIfInBounds_toArray, List.set_cons_succ, List.set_cons_zero] at ha
          subst ha
          refine wpSeqP_take (by kernel_rfl) (by kernel_rfl) ?_
          apply Exists.intro
          refine ⟨fun wx hS => ?_, fun a' ha => ?_⟩
          · have p1 := blk_cell (i := 1) hS rfl;have p6 := blk_cell (i := 6) hS rfl;have p7 := blk_cell (i := 7) hS rfl;have p8 := blk_cell (i := 8) hS rfl;have p9 := blk_cell (i := 9) hS rfl;have p10 := blk_cell (i := 10) hS rfl; go_simp; rfl
          simp only [Act.put, List.setIfInBounds_toArray, List.set_cons_succ, List.set_cons_zero] at ha
          subst ha
          refine wpSeqP_take (by kernel_rfl) (by kernel_rfl) ?_
          apply Exists.intro
          refine ⟨fun wx hS => ?_, fun a' ha => ?_⟩
          · have p1 := blk_cell (i := 1) hS rfl;have p6 := blk_cell (i := 6) hS rfl;have p7 := blk_cell (i := 7) hS rfl;have p8 := blk_cell (i := 8) hS rfl;have p9 := blk_cell (i := 9) hS rfl;have p10 := blk_cell (i := 10) hS rfl; go_simp; rfl
          simp only [Act.put, List.setIfInBounds_toArray, List.set_cons_succ, List.set_cons_zero] at ha
          subst ha
          refine wpSeqP_take (by kernel_rfl) (by kernel_rfl) ?_
          apply Exists.intro
          refine ⟨fun wx hS => ?_, fun a' ha => ?_⟩
          · have p1 := blk_cell (i := 1) hS rfl;have p6 := blk_cell (i := 6) hS rfl;have p7 := blk_cell (i := 7) hS rfl;have p8 := blk_cell (i := 8) hS rfl;have p9 := blk_cell (i := 9) hS rfl;have p10 := blk_cell (i := 10) hS rfl; go_simp; rfl
          simp only [Act.put, List.setIfInBounds_toArray, List.set_cons_succ, List.set_cons_zero] at ha
          subst ha
          refine wpSeqP_take (by kernel_rfl) (by kernel_rfl) ?_
          apply Exists.intro
          refine ⟨fun wx hS => ?_, fun a' ha => ?_⟩
          · have p1 := blk_cell (i := 1) hS rfl;have p6 := blk_cell (i := 6) hS rfl;have p7 := blk_cell (i := 7) hS rfl;have p8 := blk_cell (i := 8) hS rfl;have p9 := blk_cell (i := 9) hS rfl;have p10 := blk_cell (i := 10) hS rfl; go_simp; rfl
          simp only [Act.put, List.setIfInBounds_toArray, List.set_cons_succ, List.set_cons_zero] at ha
          subst ha
          refine wpSeqP_take (by kernel_rfl) (by kernel_rfl) ?_
          apply Exists.intro
          refine ⟨fun wx hS => ?_, fun a' ha => ?_⟩
          · have p1 := blk_cell (i := 1) hS rfl;have p6 := blk_cell (i := 6) hS rfl;have p7 := blk_cell (i := 7) hS rfl;have p8 := blk_cell (i := 8) hS rfl;have p9 := blk_cell (i := 9) hS rfl;have p10 := blk_cell (i := 10) hS rfl; go_simp; rfl
          simp only [Act.put, List.setIfInBounds_toArray, List.set_cons_succ, List.set_cons_zero] at ha
          subst ha
          refine wpSeqP_take (by kernel_rfl) (by kernel_rfl) ?_
          apply Exists.intro
          refine ⟨fun wx hS => ?_, fun a' ha => ?_⟩
          · have p1 := blk_cell (i := 1) hS rfl;have p6 := blk_cell (i := 6) hS rfl;have p7 := blk_cell (i := 7) hS rfl;have p8 := blk_cell (i := 8) hS rfl;have p9 := blk_cell (i := 9) hS rfl;have p10 := blk_cell (i := 10) hS rfl; go_simp; rfl
          simp only [Act.put, List.setIfInBounds_toArray, List.set_cons_succ, List.set_cons_zero] at ha
          subst ha
          refine wpSeqP_take (by kernel_rfl) (by kernel_rfl) ?_
          apply Exists.intro
          refine ⟨fun wx hS => ?_, fun a' ha => ?_⟩
          · have p1 := blk_cell (i := 1) hS rfl;have p6 := blk_cell (i := 6) hS rfl;have p7 := blk_cell (i := 7) hS rfl;have p8 := blk_cell (i := 8) hS rfl;have p9 := blk_cell (i := 9) hS rfl;have p10 := blk_cell (i := 10) hS rfl; go_simp; rfl
          simp only [Act.put, List.setIfInBounds_toArray, List.set_cons_succ, List.set_cons_zero] at ha
          subst ha
          refine wpSeqP_one (by kernel_rfl) (by kernel_rfl) (fun K hK => ?_)
          go_simp
          generalize w16.drewN 1 = w17 at *
          obtain ⟨bv, so, sn, sc, hst⟩ := DA9.out.st
          refine (same_any w17 hst DA9.out.sto (by omega) hrow).mono ?_
          rintro e w18 ⟨rfl, hu18⟩
          have hb18 := hu18.get hblk (by simp)
          have DA18 := hide (DA9.out.upd_nil hu18)
          refine hK _ _ (hb18) ?_
          clear hK K
          try simp only [Act.put, List.setIfInBounds_toArray, List.set_cons_succ, List.set_cons_zero]
          refine wpSeqP_take (by kernel_rfl) (by kernel_rfl) ?_
          apply Exists.intro
          refine ⟨fun wx hS => ?_, fun a' ha => ?_⟩
          · go_simp; rfl
          simp only [Act.put, List.setIfInBounds_toArray, List.set_cons_succ, List.set_cons_zero] at ha
          subst ha
          refine wpSeqP_take (by kernel_rfl) (by kernel_rfl) ?_
          apply Exists.intro
          refine ⟨fun wx hS => ?_, fun a' ha => ?_⟩
          · go_simp; rfl
          simp only [Act.put, List.setIfInBounds_toArray, List.set_cons_succ, List.set_cons_zero] at ha
          subst ha
          refine wpSeqP_one (by kernel_rfl) (by kernel_rfl) (fun K hK => ?_)
          go_simp
          refine (wakes16_any w18 (HST.out.upd (U1.out.trans DA18.out.upd) (by simp))).mono ?_
          rintro e w19 ⟨rfl, hu19⟩
          have hb19 := hu19.get hb18 (by simp)
          have UF := hide (U1.out.trans (DA18.out.upd.trans hu19))
          refine hK _ _ (hb19) ?_
          clear hK K
          try simp only [Act.put, List.setIfInBounds_toArray, List.set_cons_succ, List.set_cons_zero]
          refine wpSeqP_take (by kernel_rfl) (by kernel_rfl) ?_
          apply Exists.intro
          refine ⟨fun wx hS => ?_, fun a' ha => ?_⟩
          · go_simp; rfl
          simp only [Act.put, List.setIfInBounds_toArray, List.set_cons_succ, List.set_cons_zero] at ha
          subst ha
          refine wpSeqP_take (by kernel_rfl) (by kernel_rfl) ?_
          apply Exists.intro
          refine ⟨fun wx hS => ?_, fun a' ha => ?_⟩
          · go_simp; rfl
          simp only [Act.put, List.setIfInBounds_toArray, List.set_cons_succ, List.set_cons_zero] at ha
          subst ha
          unfold wpSeqP
          clear hblk hrow hst hu18 hb18 hu19 hb19
          go_wp2_with fail
          go_ret
          exact ⟨rfl, UF.out⟩
        · have n2 : ((m2 : Int) == 0) = false := by simp; omega
          rw [if_neg e2]
          simp only [if_true]
          clear e2
          go_upto_region 21 with fail
          have DA9 := hide (DA16.out.upd_nil ((Upd.refl [] w16).drewN 1))
          obtain ⟨A, B, v, hblk, hrow⟩ := DA9.out.blk
          obtain ⟨ro, rc, rfl, -, -⟩ := Row.slice hrow
          have S9 := hide hblk
          refine wp_region_seqP (findOps 21 ((Tryz.f3.body).getD .skip)) (by kernel_rfl) [17, 20] [0, 1, 2, 3, 4, 5, 6, 7, 8, 9, 10, 11, 12, 13, 14, 15, 16, 17, 18, 19, 20, 21, 22] (fun wx => wx.heap[P]? = some (pairO D S A B s (.slice ro s.votes.length rc))) (by kernel_rfl) (by kernel_rfl) (fun _ _ d _ _ h => by cases d <;> exact h) hblk ?_
          simp only [pickO, List.filterMap_cons, List.filterMap_nil, List.getElem?_cons_succ, List.getElem?_cons_zero]
          refine wpSeqP_take (by kernel_rfl) (by kernel_rfl) ?_
          apply Exists.intro
          refine ⟨fun wx hS => ?_, fun a' ha => ?_⟩
          · go_simp; rfl
          simp only [Act.put, List.setIfInBounds_toArray, List.set_cons_succ, List.set_cons_zero] at ha
          subst ha
          refine wpSeqP_take (by kernel_rfl) (by kernel_rfl) ?_
          apply Exists.intro
          refine ⟨fun wx hS => ?_, fun a' ha => ?_⟩
          · go_simp; rfl
          simp only [Act.put, List.setIfInBounds_toArray, List.set_cons_succ, List.set_cons_zero] at ha
          subst ha
          refine wpSeqP_take (by kernel_rfl) (by kernel_rfl) ?_
          apply Exists.intro
          refine ⟨fun wx hS => ?_, fun a' ha => ?_⟩
          · go_simp; rfl
          simp only [Act.put, List.setIfInBounds_toArray, List.set_cons_succ, List.set_cons_zero] at ha
          subst ha
          refine wpSeqP_take (by kernel_rfl) (by kernel_rfl) ?_
          apply Exists.intro
          refine ⟨fun wx hS => ?_, fun a' ha => ?_⟩
          · go_simp; rfl
          simp only [Act.put, List.setIfInBounds_toArray, List.set_cons_succ, List.set_cons_zero] at ha
          subst ha
          refine wpSeqP_take (by kernel_rfl) (by kernel_rfl) ?_
          apply Exists.intro
          refine ⟨fun wx hS => ?_, fun a' ha => ?_⟩
          · go_simp; rfl
          simp only [Act.put, List.setIfInBounds_toArray, List.set_cons_succ, List.set_cons_zero] at ha
          subst ha
          refine wpSeqP_take (by kernel_rfl) (by kernel_rfl) ?_
          apply Exists.intro
          refine ⟨fun wx hS => ?_, fun a' ha => ?_⟩
          · go_simp; rfl
          simp only [Act.put, List.setIfInBounds_toArray, List.set_cons_succ, List.set_cons_zero] at ha
          subst ha
          refine wpSeqP_take (by kernel_rfl) (by kernel_rfl) ?_
          apply Exists.intro
          refine ⟨fun wx hS => ?_, fun a' ha => ?_⟩
          · go_simp; rfl
          simp only [Act.put, List.setIfInBounds_toArray, List.set_cons_succ, List.set_cons_zero] at ha
          subst ha
          refine wpSeqP_take (by kernel_rfl) (by kernel_rfl) ?_
          apply Exists.intro
          refine ⟨fun wx hS => ?_, fun a' ha => ?_⟩
          · go_simp; rfl
          simp only [Act.put, List.setIfInBounds_toArray, List.set_cons_succ, List.set_cons_zero] at ha
          subst ha
          refine wpSeqP_take (by kernel_rfl) (by kernel_rfl) ?_
          apply Exists.intro
          refine ⟨fun wx hS => ?_, fun a' ha => ?_⟩
          · go_simp; rfl
          simp only [Act.put, List.setIfInBounds_toArray, List.set_cons_succ, List.set_cons_zero] at ha
          subst ha
          refine wpSeqP_take (by kernel_rfl) (by kernel_rfl) ?_
          apply Exists.intro
          refine ⟨fun wx hS => ?_, fun a' ha => ?_⟩
          · have p1 := blk_cell (i := 1) hS rfl;have p6 := blk_cell (i := 6) hS rfl;have p7 := blk_cell (i := 7) hS rfl;have p8 := blk_cell (i := 8) hS rfl;have p9 := blk_cell (i := 9) hS rfl;have p10 := blk_cell (i := 10) hS rfl; go_simp; rfl
          simp only [Act.put, List.setIfInBounds_toArray, List.set_cons_succ, List.set_cons_zero] at ha
          subst ha
          refine wpSeqP_take (by kernel_rfl) (by kernel_rfl) ?_
          apply Exists.intro
          refine ⟨fun wx hS => ?_, fun a' ha => ?_⟩
          · have p1 := blk_cell (i := 1) hS rfl;have p6 := blk_cell (i := 6) hS rfl;have p7 := blk_cell (i := 7) hS rfl;have p8 := blk_cell (i := 8) hS rfl;have p9 := blk_cell (i := 9) hS rfl;have p10 := blk_cell (i := 10) hS rfl; go_simp; rfl
          simp only [Act.put, List.setIfInBounds_toArray, List.set_cons_succ, List.set_cons_zero] at ha
          subst ha
          refine wpSeqP_take (by kernel_rfl) (by kernel_rfl) ?_
          apply Exists.intro
          refine ⟨fun wx hS => ?_, fun a' ha => ?_⟩
          · have p1 := blk_cell (i := 1) hS rfl;have p6 := blk_cell (i := 6) hS rfl;have p7 := blk_cell (i := 7) hS rfl;have p8 := blk_cell (i := 8) hS rfl;have p9 := blk_cell (i := 9) hS rfl;have p10 := blk_cell (i := 10) hS rfl; go_simp; rfl
          simp only [Act.put, List.setIfInBounds_toArray, List.set_cons_succ, List.set_cons_zero] at ha
          subst ha
          refine wpSeqP_take (by kernel_rfl) (by kernel_rfl) ?_
          apply Exists.intro
          refine ⟨fun wx hS => ?_, fun a' ha => ?_⟩
          · have p1 := blk_cell (i := 1) hS rfl;have p6 := blk_cell (i := 6) hS rfl;have p7 := blk_cell (i := 7) hS rfl;have p8 := blk_cell (i := 8) hS rfl;have p9 := blk_cell (i := 9) hS rfl;have p10 := blk_cell (i := 10) hS rfl; go_simp; rfl
          simp only [Act.put, List.setIfInBounds_toArray, List.set_cons_succ, List.set_cons_zero] at ha
          subst ha
          refine wpSeqP_take (by kernel_rfl) (by kernel_rfl) ?_
          apply Exists.intro
          refine ⟨fun wx hS => ?_, fun a' ha => ?_⟩
          · have p1 := blk_cell (i := 1) hS rfl;have p6 := blk_cell (i := 6) hS rfl;have p7 := blk_cell (i := 7) hS rfl;have p8 := blk_cell (i := 8) hS rfl;have p9 := blk_cell (i := 9) hS rfl;have p10 := blk_cell (i := 10) hS rfl; go_simp; rfl
          simp only [Act.put, List.setIfInBounds_toArray, List.set_cons_succ, List.set_cons_zero] at ha
          subst ha
          refine wpSeqP_take (by kernel_rfl) (by kernel_rfl) ?_
          apply Exists.intro
          refine ⟨fun wx hS => ?_, fun a' ha => ?_⟩
          · have p1 := blk_cell (i := 1) hS rfl;have p6 := blk_cell (i := 6) hS rfl;have p7 := blk_cell (i := 7) hS rfl;have p8 := blk_cell (i := 8) hS rfl;have p9 := blk_cell (i := 9) hS rfl;have p10 := blk_cell (i := 10) hS rfl; go_simp; rfl
          simp only [Act.put, List.setIfInBounds_toArray, List.set_cons_succ, List.set_cons_zero] at ha
          subst ha
          refine wpSeqP_take (by kernel_rfl) (by kernel_rfl) ?_
          apply Exists.intro
          refine ⟨fun wx hS => ?_, fun a' ha => ?_⟩
          · have p1 := blk_cell (i := 1) hS rfl;have p6 := blk_cell (i := 6) hS rfl;have p7 := blk_cell (i := 7) hS rfl;have p8 := blk_cell (i := 8) hS rfl;have p9 := blk_cell (i := 9) hS rfl;have p10 := blk_cell (i := 10) hS rfl; go_simp; rfl
          simp only [Act.put, List.setIfInBounds_toArray, List.set_cons_succ, List.set_cons_zero] at ha
          subst ha
          refine wpSeqP_take (by kernel_rfl) (by kernel_rfl) ?_
          apply Exists.intro
          refine ⟨fun wx hS => ?_, fun a' ha => ?_⟩
          · have p1 := blk_cell (i := 1) hS rfl;have p6 := blk_cell (i := 6) hS rfl;have p7 := blk_cell (i := 7) hS rfl;have p8 := blk_cell (i := 8) hS rfl;have p9 := blk_cell (i := 9) hS rfl;have p10 := blk_cell (i := 10) hS rfl; go_simp; rfl
          simp only [Act.put, List.setIfInBounds_toArray, List.set_cons_succ, List.set_cons_zero] at ha
          subst ha
          refine wpSeqP_one (by kernel_rfl) (by kernel_rfl) (fun K hK => ?_)
          go_simp
          generalize w16.drewN 1 = w17 at *
          obtain ⟨bv, so, sn, sc, hst⟩ := DA9.out.st
          refine (same_any w17 hst DA9.out.sto (by omega) hrow).mono ?_
          rintro e w18 ⟨rfl, hu18⟩
          have hb18 := hu18.get hblk (by simp)
          have DA18 := hide (DA9.out.upd_nil hu18)
          refine hK _ _ (hb18) ?_
          clear hK K
          try simp only [Act.put, List.setIfInBounds_toArray, List.set_cons_succ, List.set_cons_zero]
          refine wpSeqP_take (by kernel_rfl) (by kernel_rfl) ?_
          apply Exists.intro
          refine ⟨fun wx hS => ?_, fun a' ha => ?_⟩
          · go_simp; rfl
          simp only [Act.put, List.setIfInBounds_toArray, List.set_cons_succ, List.set_cons_zero] at ha
          subst ha
          refine wpSeqP_take (by kernel_rfl) (by kernel_rfl) ?_
          apply Exists.intro
          refine ⟨fun wx hS => ?_, fun a' ha => ?_⟩
          · go_simp; rfl
          simp only [Act.put, List.setIfInBounds_toArray, List.set_cons_succ, List.set_cons_zero] at ha
          subst ha
          refine wpSeqP_one (by kernel_rfl) (by kernel_rfl) (fun K hK => ?_)
          go_simp
          refine (wakes16_any w18 (HST.out.upd (U1.out.trans DA18.out.upd) (by simp))).mono ?_
          rintro e w19 ⟨rfl, hu19⟩
          have hb19 := hu19.get hb18 (by simp)
          have UF := hide (U1.out.trans (DA18.out.upd.trans hu19))
          refine hK _ _ (hb19) ?_
          clear hK K
          try simp only [Act.put, List.setIfInBounds_toArray, List.set_cons_succ, List.set_cons_zero]
          refine wpSeqP_take (by kernel_rfl) (by kernel_rfl) ?_
          apply Exists.intro
          refine ⟨fun wx hS => ?_, fun a' ha => ?_⟩
          · go_simp; rfl
          simp only [Act.put, List.setIfInBounds_toArray, List.set_cons_succ, List.set_cons_zero] at ha
          subst ha
          refine wpSeqP_take (by kernel_rfl) (by kernel_rfl) ?_
          apply Exists.intro
          refine ⟨fun wx hS => ?_, fun a' ha => ?_⟩
          · go_simp; rfl
          simp only [Act.put, List.setIfInBounds_toArray, List.set_cons_succ, List.set_cons_zero] at ha
          subst ha
          unfold wpSeqP
          clear hblk hrow hst hu18 hb18 hu19 hb19
          go_wp2_with fail
          go_ret
          exact ⟨rfl, UF.out⟩
      · have n1 : ((m1 : Int) == 0) = false := by simp; omega
        rw [if_neg e1]
        clear e1
        by_cases e2 : m2 = 0
        · subst e2
          simp only [if_true]
          go_upto_region 21 with fail
          have DA9 := hide (DA16.out.upd_nil ((Upd.refl [] w16).drewN 1))
          obtain ⟨A, B, v, hblk, hrow⟩ := DA9.out.blk
          obtain ⟨ro, rc, rfl, -, -⟩ := Row.slice hrow
          have S9 := hide hblk
          refine wp_region_seqP (findOps 21 ((Tryz.f3.body).getD .skip)) (by kernel_rfl) [17, 20] [0, 1, 2, 3, 4, 5, 6, 7, 8, 9, 10, 11, 12, 13, 14, 15, 16, 17, 18, 19, 20, 21, 22] (fun wx => wx.heap[P]? = some (pairO D S A B s (.slice ro s.votes.length rc))) (by kernel_rfl) (by kernel_rfl) (fun _ _ d _ _ h => by cases d <;> exact h) hblk ?_
          simp only [pickO, List.filterMap_cons, List.filterMap_nil, List.getElem?_cons_succ, List.getElem?_cons_zero]
          refine wpSeqP_take (by kernel_rfl) (by kernel_rfl) ?_
          apply Exists.intro
          refine ⟨fun wx hS => ?_, fun a' ha => ?_⟩
          · go_simp; rfl
          simp only [Act.put, List.setIfInBounds_toArray, List.set_cons_succ, List.set_cons_zero] at ha
          subst ha
          refine wpSeqP_take (by kernel_rfl) (by kernel_rfl) ?_
          apply Exists.intro
          refine ⟨fun wx hS => ?_, fun a' ha => ?_⟩
          · go_simp; rfl
          simp only [Act.put, List.setIfInBounds_toArray, List.set_cons_succ, List.set_cons_zero] at ha
          subst ha
          refine wpSeqP_take (by kernel_rfl) (by kernel_rfl) ?_
          apply Exists.intro
          refine ⟨fun wx hS => ?_, fun a' ha => ?_⟩
          · go_simp; rfl
          simp only [Act.put, List.setIfInBounds_toArray, List.set_cons_succ, List.set_cons_zero] at ha
          subst ha
          refine wpSeqP_take (by kernel_rfl) (by kernel_rfl) ?_
          apply Exists.intro
          refine ⟨fun wx hS => ?_, fun a' ha => ?_⟩
          · go_simp; rfl
          simp only [Act.put, List.setIfInBounds_toArray, List.set_cons_succ, List.set_cons_zero] at ha
          subst ha
          refine wpSeqP_take (by kernel_rfl) (by kernel_rfl) ?_
          apply Exists.intro
          refine ⟨fun wx hS => ?_, fun a' ha => ?_⟩
          · go_simp; rfl
          simp only [Act.put, List.setIfInBounds_toArray, List.set_cons_succ, List.set_cons_zero] at ha
          subst ha
          refine wpSeqP_take (by kernel_rfl) (by kernel_rfl) ?_
          apply Exists.intro
          refine ⟨fun wx hS => ?_, fun a' ha => ?_⟩
          · go_simp; rfl
          simp only [Act.put, List.setIfInBounds_toArray, List.set_cons_succ, List.set_cons_zero] at ha
          subst ha
          refine wpSeqP_take (by kernel_rfl) (by kernel_rfl) ?_
          apply Exists.intro
          refine ⟨fun wx hS => ?_, fun a' ha => ?_⟩
          · go_simp; rfl
          simp only [Act.put, List.setIfInBounds_toArray, List.set_cons_succ, List.set_cons_zero] at ha
          subst ha
          refine wpSeqP_take (by kernel_rfl) (by kernel_rfl) ?_
          apply Exists.intro
          refine ⟨fun wx hS => ?_, fun a' ha => ?_⟩
          · go_simp; rfl
          simp only [Act.put, List.setIfInBounds_toArray, List.set_cons_succ, List.set_cons_zero] at ha
          subst ha
          refine wpSeqP_take (by kernel_rfl) (by kernel_rfl) ?_
          apply Exists.intro
          refine ⟨fun wx hS => ?_, fun a' ha => ?_⟩
          · go_simp; rfl
          simp only [Act.put, List.setIfInBounds_toArray, List.set_cons_succ, List.set_cons_zero] at ha
          subst ha
          refine wpSeqP_take (by kernel_rfl) (by kernel_rfl) ?_
          apply Exists.intro
          refine ⟨fun wx hS => ?_, fun a' ha => ?_⟩
          · have p1 := blk_cell (i := 1) hS rfl;have p6 := blk_cell (i := 6) hS rfl;have p7 := blk_cell (i := 7) hS rfl;have p8 := blk_cell (i := 8) hS rfl;have p9 := blk_cell (i := 9) hS rfl;have p10 := blk_cell (i := 10) hS rfl; go_simp; rfl
          simp only [Act.put, List.setIfInBounds_toArray, List.set_cons_succ, List.set_cons_zero] at ha
          subst ha
          refine wpSeqP_take (by kernel_rfl) (by kernel_rfl) ?_
          apply Exists.intro
          refine ⟨fun wx hS => ?_, fun a' ha => ?_⟩
          · have p1 := blk_cell (i := 1) hS rfl;have p6 := blk_cell (i := 6) hS rfl;have p7 := blk_cell (i := 7) hS rfl;have p8 := blk_cell (i := 8) hS rfl;have p9 := blk_cell (i := 9) hS rfl;have p10 := blk_cell (i := 10) hS rfl; go_simp; rfl
          simp only [Act.put, List.setIfInBounds_toArray, List.set_cons_succ, List.set_cons_zero] at ha
          subst ha
          refine wpSeqP_take (by kernel_rfl) (by kernel_rfl) ?_
          apply Exists.intro
          refine ⟨fun wx hS => ?_, fun a' ha => ?_⟩
          · have p1 := blk_cell (i := 1) hS rfl;have p6 := blk_cell (i := 6) hS rfl;have p7 := blk_cell (i := 7) hS rfl;have p8 := blk_cell (i := 8) hS rfl;have p9 := blk_cell (i := 9) hS rfl;have p10 := blk_cell (i := 10) hS rfl; go_simp; rfl
          simp only [Act.put, List.setIfInBounds_toArray, List.set_cons_succ, List.set_cons_zero] at ha
          subst ha
          refine wpSeqP_take (by kernel_rfl) (by kernel_rfl) ?_
          apply Exists.intro
          refine ⟨fun wx hS => ?_, fun a' ha => ?_⟩
          · have p1 := blk_cell (i := 1) hS rfl;have p6 := blk_cell (i := 6) hS rfl;have p7 := blk_cell (i := 7) hS rfl;have p8 := blk_cell (i := 8) hS rfl;have p9 := blk_cell (i := 9) hS rfl;have p10 := blk_cell (i := 10) hS rfl; go_simp; rfl
          simp only [Act.put, List.setIfInBounds_toArray, List.set_cons_succ, List.set_cons_zero] at ha
          subst ha
          refine wpSeqP_take (by kernel_rfl) (by kernel_rfl) ?_
          apply Exists.intro
          refine ⟨fun wx hS => ?_, fun a' ha => ?_⟩
          · have p1 := blk_cell (i := 1) hS rfl;have p6 := blk_cell (i := 6) hS rfl;have p7 := blk_cell (i := 7) hS rfl;have p8 := blk_cell (i := 8) hS rfl;have p9 := blk_cell (i := 9) hS rfl;have p10 := blk_cell (i := 10) hS rfl; go_simp; rfl
          simp only [Act.put, List.setIfInBounds_toArray, List.set_cons_succ, List.set_cons_zero] at ha
          subst ha
          refine wpSeqP_take (by kernel_rfl) (by kernel_rfl) ?_
          apply Exists.intro
          refine ⟨fun wx hS => ?_, fun a' ha => ?_⟩
          · have p1 := blk_cell (i := 1) hS rfl;have p6 := blk_cell (i := 6) hS rfl;have p7 := blk_cell (i := 7) hS rfl;have p8 := blk_cell (i := 8) hS rfl;have p9 := blk_cell (i := 9) hS rfl;have p10 := blk_cell (i := 10) hS rfl; go_simp; rfl
          simp only [Act.put, List.setIfInBounds_toArray, List.set_cons_succ, List.set_cons_zero] at ha
          subst ha
          refine wpSeqP_take (by kernel_rfl) (by kernel_rfl) ?_
          apply Exists.intro
          refine ⟨fun wx hS => ?_, fun a' ha => ?_⟩
          · have p1 := blk_cell (i := 1) hS rfl;have p6 := blk_cell (i := 6) hS rfl;have p7 := blk_cell (i := 7) hS rfl;have p8 := blk_cell (i := 8) hS rfl;have p9 := blk_cell (i := 9) hS rfl;have p10 := blk_cell (i := 10) hS rfl; go_simp; rfl
          simp only [Act.put, List.setIfInBounds_toArray, List.set_cons_succ, List.set_cons_zero] at ha
          subst ha
          refine wpSeqP_take (by kernel_rfl) (by kernel_rfl) ?_
          apply Exists.intro
          refine ⟨fun wx hS => ?_, fun a' ha => ?_⟩
          · have p1 := blk_cell (i := 1) hS rfl;have p6 := blk_cell (i := 6) hS rfl;have p7 := blk_cell (i := 7) hS rfl;have p8 := blk_cell (i := 8) hS rfl;have p9 := blk_cell (i := 9) hS rfl;have p10 := blk_cell (i := 10) hS rfl; go_simp; rfl
          simp only [Act.put, List.setIfInBounds_toArray, List.set_cons_succ, List.set_cons_zero] at ha
          subst ha
          refine wpSeqP_one (by kernel_rfl) (by kernel_rfl) (fun K hK => ?_)
          go_simp
          generalize w16.drewN 1 = w17 at *
          obtain ⟨bv, so, sn, sc, hst⟩ := DA9.out.st
          refine (same_any w17 hst DA9.out.sto (by omega) hrow).mono ?_
          rintro e w18 ⟨rfl, hu18⟩
          have hb18 := hu18.get hblk (by simp)
          have DA18 := hide (DA9.out.upd_nil hu18)
          refine hK _ _ (hb18) ?_
          clear hK K
          try simp only [Act.put, List.setIfInBounds_toArray, List.set_cons_succ, List.set_cons_zero]
          refine wpSeqP_take (by kernel_rfl) (by kernel_rfl) ?_
          apply Exists.intro
          refine ⟨fun wx hS => ?_, fun a' ha => ?_⟩
          · go_simp; rfl
          simp only [Act.put, List.setIfInBounds_toArray, List.set_cons_succ, List.set_cons_zero] at ha
          subst ha
          refine wpSeqP_take (by kernel_rfl) (by kernel_rfl) ?_
          apply Exists.intro
          refine ⟨fun wx hS => ?_, fun a' ha => ?_⟩
          · go_simp; rfl
          simp only [Act.put, List.setIfInBounds_toArray, List.set_cons_succ, List.set_cons_zero] at ha
          subst ha
          refine wpSeqP_one (by kernel_rfl) (by kernel_rfl) (fun K hK => ?_)
          go_simp
          refine (wakes16_any w18 (HST.out.upd (U1.out.trans DA18.out.upd) (by simp))).mono ?_
          rintro e w19 ⟨rfl, hu19⟩
          have hb19 := hu19.get hb18 (by simp)
          have UF := hide (U1.out.trans (DA18.out.upd.trans hu19))
          refine hK _ _ (hb19) ?_
          clear hK K
          try simp only [Act.put, List.setIfInBounds_toArray, List.set_cons_succ, List.set_cons_zero]
          refine wpSeqP_take (by kernel_rfl) (by kernel_rfl) ?_
          apply Exists.intro
          refine ⟨fun wx hS => ?_, fun a' ha => ?_⟩
          · go_simp; rfl
          simp only [Act.put, List.setIfInBounds_toArray, List.set_cons_succ, List.set_cons_zero] at ha
          subst ha
          refine wpSeqP_take (by kernel_rfl) (by kernel_rfl) ?_
          apply Exists.intro
          refine ⟨fun wx hS => ?_, fun a' ha => ?_⟩
          · go_simp; rfl
          simp only [Act.put, List.setIfInBounds_toArray, List.set_cons_succ, List.set_cons_zero] at ha
          subst ha
          unfold wpSeqP
          clear hblk hrow hst hu18 hb18 hu19 hb19
          go_wp2_with fail
          go_ret
          exact ⟨rfl, UF.out⟩
        · have n2 : ((m2 : Int) == 0) = false := by simp; omega
          rw [if_neg e2]
          clear e2
          go_upto_region 21 with fail
          have DA9 := hide (DA16.out.upd_nil ((Upd.refl [] w16).drewN 1))
          obtain ⟨A, B, v, hblk, hrow⟩ := DA9.out.blk
          obtain ⟨ro, rc, rfl, -, -⟩ := Row.slice hrow
          have S9 := hide hblk
          refine wp_region_seqP (findOps 21 ((Tryz.f3.body).getD .skip)) (by kernel_rfl) [17, 20] [0, 1, 2, 3, 4, 5, 6, 7, 8, 9, 10, 11, 12, 13, 14, 15, 16, 17, 18, 19, 20, 21, 22] (fun wx => wx.heap[P]? = some (pairO D S A B s (.slice ro s.votes.length rc))) (by kernel_rfl) (by kernel_rfl) (fun _ _ d _ _ h => by cases d <;> exact h) hblk ?_
          simp only [pickO, List.filterMap_cons, List.filterMap_nil, List.getElem?_cons_succ, List.getElem?_cons_zero]
          refine wpSeqP_take (by kernel_rfl) (by kernel_rfl) ?_
          apply Exists.intro
          refine ⟨fun wx hS => ?_, fun a' ha => ?_⟩
          · go_simp; rfl
          simp only [Act.put, List.setIfInBounds_toArray, List.set_cons_succ, List.set_cons_zero] at ha
          subst ha
          refine wpSeqP_take (by kernel_rfl) (by kernel_rfl) ?_
          apply Exists.intro
          refine ⟨fun wx hS => ?_, fun a' ha => ?_⟩
          · go_simp; rfl
          simp only [Act.put, List.setIfInBounds_toArray, List.set_cons_succ, List.set_cons_zero] at ha
          subst ha
          refine wpSeqP_take (by kernel_rfl) (by kernel_rfl) ?_
          apply Exists.intro
          refine ⟨fun wx hS => ?_, fun a' ha => ?_⟩
          · go_simp; rfl
          simp only [Act.put, List.setIfInBounds_toArray, List.set_cons_succ, List.set_cons_zero] at ha
          subst ha
          refine wpSeqP_take (by kernel_rfl) (by kernel_rfl) ?_
          apply Exists.intro
          refine ⟨fun wx hS => ?_, fun a' ha => ?_⟩
          · go_simp; rfl
          simp only [Act.put, List.setIfInBounds_toArray, List.set_cons_succ, List.set_cons_zero] at ha
          subst ha
          refine wpSeqP_take (by kernel_rfl) (by kernel_rfl) ?_
          apply Exists.intro
          refine ⟨fun wx hS => ?_, fun a' ha => ?_⟩
          · go_simp; rfl
          simp only [Act.put, List.setIfInBounds_toArray, List.set_cons_succ, List.set_cons_zero] at ha
          subst ha
          refine wpSeqP_take (by kernel_rfl) (by kernel_rfl) ?_
          apply Exists.intro
          refine ⟨fun wx hS => ?_, fun a' ha => ?_⟩
          · go_simp; rfl
          simp only [Act.put, List.setIfInBounds_toArray, List.set_cons_succ, List.set_cons_zero] at ha
          subst ha
          refine wpSeqP_take (by kernel_rfl) (by kernel_rfl) ?_
          apply Exists.intro
          refine ⟨fun wx hS => ?_, fun a' ha => ?_⟩
          · go_simp; rfl
          simp only [Act.put, List.setIfInBounds_toArray, List.set_cons_succ, List.set_cons_zero] at ha
          subst ha
          refine wpSeqP_take (by kernel_rfl) (by kernel_rfl) ?_
          apply Exists.intro
          refine ⟨fun wx hS => ?_, fun a' ha => ?_⟩
          · go_simp; rfl
          simp only [Act.put, List.setIfInBounds_toArray, List.set_cons_succ, List.set_cons_zero] at ha
          subst ha
          refine wpSeqP_take (by kernel_rfl) (by kernel_rfl) ?_
          apply Exists.intro
          refine ⟨fun wx hS => ?_, fun a' ha => ?_⟩
          · go_simp; rfl
          simp only [Act.put, List.setIfInBounds_toArray, List.set_cons_succ, List.set_cons_zero] at ha
          subst ha
          refine wpSeqP_take (by kernel_rfl) (by kernel_rfl) ?_
          apply Exists.intro
          refine ⟨fun wx hS => ?_, fun a' ha => ?_⟩
          · have p1 := blk_cell (i := 1) hS rfl;have p6 := blk_cell (i := 6) hS rfl;have p7 := blk_cell (i := 7) hS rfl;have p8 := blk_cell (i := 8) hS rfl;have p9 := blk_cell (i := 9) hS rfl;have p10 := blk_cell (i := 10) hS rfl; go_simp; rfl
          simp only [Act.put, List.setIfInBounds_toArray, List.set_cons_succ, List.set_cons_zero] at ha
          subst ha
          refine wpSeqP_take (by kernel_rfl) (by kernel_rfl) ?_
          apply Exists.intro
          refine ⟨fun wx hS => ?_, fun a' ha => ?_⟩
          · have p1 := blk_cell (i := 1) hS rfl;have p6 := blk_cell (i := 6) hS rfl;have p7 := blk_cell (i := 7) hS rfl;have p8 := blk_cell (i := 8) hS rfl;have p9 := blk_cell (i := 9) hS rfl;have p10 := blk_cell (i := 10) hS rfl; go_simp; rfl
          simp only [Act.put, List.setIfInBounds_toArray, List.set_cons_succ, List.set_cons_zero] at ha
          subst ha
          refine wpSeqP_take (by kernel_rfl) (by kernel_rfl) ?_
          apply Exists.intro
          refine ⟨fun wx hS => ?_, fun a' ha => ?_⟩
          · have p1 := blk_cell (i := 1) hS rfl;have p6 := blk_cell (i := 6) hS rfl;have p7 := blk_cell (i := 7) hS rfl;have p8 := blk_cell (i := 8) hS rfl;have p9 := blk_cell (i := 9) hS rfl;have p10 := blk_cell (i := 10) hS rfl; go_simp; rfl
          simp only [Act.put, List.setIfInBounds_toArray, List.set_cons_succ, List.set_cons_zero] at ha
          subst ha
          refine wpSeqP_take (by kernel_rfl) (by kernel_rfl) ?_
          apply Exists.intro
          refine ⟨fun wx hS => ?_, fun a' ha => ?_⟩
          · have p1 := blk_cell (i := 1) hS rfl;have p6 := blk_cell (i := 6) hS rfl;have p7 := blk_cell (i := 7) hS rfl;have p8 := blk_cell (i := 8) hS rfl;have p9 := blk_cell (i := 9) hS rfl;have p10 := blk_cell (i := 10) hS rfl; go_simp; rfl
          simp only [Act.put, List.setIfInBounds_toArray, List.set_cons_succ, List.set_cons_zero] at ha
          subst ha
          refine wpSeqP_take (by kernel_rfl) (by kernel_rfl) ?_
          apply Exists.intro
          refine ⟨fun wx hS => ?_, fun a' ha => ?_⟩
          · have p1 := blk_cell (i := 1) hS rfl;have p6 := blk_cell (i := 6) hS rfl;have p7 := blk_cell (i := 7) hS rfl;have p8 := blk_cell (i := 8) hS rfl;have p9 := blk_cell (i := 9) hS rfl;have p10 := blk_cell (i := 10) hS rfl; go_simp; rfl
          simp only [Act.put, List.setIfInBounds_toArray, List.set_cons_succ, List.set_cons_zero] at ha
          subst ha
          refine wpSeqP_take (by kernel_rfl) (by kernel_rfl) ?_
          apply Exists.intro
          refine ⟨fun wx hS => ?_, fun a' ha => ?_⟩
          · have p1 := blk_cell (i := 1) hS rfl;have p6 := blk_cell (i := 6) hS rfl;have p7 := blk_cell (i := 7) hS rfl;have p8 := blk_cell (i := 8) hS rfl;have p9 := blk_cell (i := 9) hS rfl;have p10 := blk_cell (i := 10) hS rfl; go_simp; rfl
          simp only [Act.put, List.setIfInBounds_toArray, List.set_cons_succ, List.set_cons_zero] at ha
          subst ha
          refine wpSeqP_take (by kernel_rfl) (by kernel_rfl) ?_
          apply Exists.intro
          refine ⟨fun wx hS => ?_, fun a' ha => ?_⟩
          · have p1 := blk_cell (i := 1) hS rfl;have p6 := blk_cell (i := 6) hS rfl;have p7 := blk_cell (i := 7) hS rfl;have p8 := blk_cell (i := 8) hS rfl;have p9 := blk_cell (i := 9) hS rfl;have p10 := blk_cell (i := 10) hS rfl; go_simp; rfl
          simp only [Act.put, List.setIfInBounds_toArray, List.set_cons_succ, List.set_cons_zero] at ha
          subst ha
          refine wpSeqP_take (by kernel_rfl) (by kernel_rfl) ?_
          apply Exists.intro
          refine ⟨fun wx hS => ?_, fun a' ha => ?_⟩
          · have p1 := blk_cell (i := 1) hS rfl;have p6 := blk_cell (i := 6) hS rfl;have p7 := blk_cell (i := 7) hS rfl;have p8 := blk_cell (i := 8) hS rfl;have p9 := blk_cell (i := 9) hS rfl;have p10 := blk_cell (i := 10) hS rfl; go_simp; rfl
          simp only [Act.put, List.setIfInBounds_toArray, List.set_cons_succ, List.set_cons_zero] at ha
          subst ha
          refine wpSeqP_one (by kernel_rfl) (by kernel_rfl) (fun K hK => ?_)
          go_simp
          generalize w16.drewN 1 = w17 at *
          obtain ⟨bv, so, sn, sc, hst⟩ := DA9.out.st
          refine (same_any w17 hst DA9.out.sto (by omega) hrow).mono ?_
          rintro e w18 ⟨rfl, hu18⟩
          have hb18 := hu18.get hblk (by simp)
          have DA18 := hide (DA9.out.upd_nil hu18)
          refine hK _ _ (hb18) ?_
          clear hK K
          try simp only [Act.put, List.setIfInBounds_toArray, List.set_cons_succ, List.set_cons_zero]
          refine wpSeqP_take (by kernel_rfl) (by kernel_rfl) ?_
          apply Exists.intro
          refine ⟨fun wx hS => ?_, fun a' ha => ?_⟩
          · go_simp; rfl
          simp only [Act.put, List.setIfInBounds_toArray, List.set_cons_succ, List.set_cons_zero] at ha
          subst ha
          refine wpSeqP_take (by kernel_rfl) (by kernel_rfl) ?_
          apply Exists.intro
          refine ⟨fun wx hS => ?_, fun a' ha => ?_⟩
          · go_simp; rfl
          simp only [Act.put, List.setIfInBounds_toArray, List.set_cons_succ, List.set_cons_zero] at ha
          subst ha
          refine wpSeqP_one (by kernel_rfl) (by kernel_rfl) (fun K hK => ?_)
          go_simp
          refine (wakes16_any w18 (HST.out.upd (U1.out.trans DA18.out.upd) (by simp))).mono ?_
          rintro e w19 ⟨rfl, hu19⟩
          have hb19 := hu19.get hb18 (by simp)
          have UF := hide (U1.out.trans (DA18.out.upd.trans hu19))
          refine hK _ _ (hb19) ?_
          clear hK K
          try simp only [Act.put, List.setIfInBounds_toArray, List.set_cons_succ, List.set_cons_zero]
          refine wpSeqP_take (by kernel_rfl) (by kernel_rfl) ?_
          apply Exists.intro
          refine ⟨fun wx hS => ?_, fun a' ha => ?_⟩
          · go_simp; rfl
          simp only [Act.put, List.setIfInBounds_toArray, List.set_cons_succ, List.set_cons_zero] at ha
          subst ha
          refine wpSeqP_take (by kernel_rfl) (by kernel_rfl) ?_
          apply Exists.intro
          refine ⟨fun wx hS => ?_, fun a' ha => ?_⟩
          · go_simp; rfl
          simp only [Act.put, List.setIfInBounds_toArray, List.set_cons_succ, List.set_cons_zero] at ha
          subst ha
          unfold wpSeqP
          clear hblk hrow hst hu18 hb18 hu19 hb19
          go_wp2_with fail
          go_ret
          exact ⟨rfl, UF.out⟩
end Go.Proofs.YtekbhfpdakhhkaaGreatDoor.St
