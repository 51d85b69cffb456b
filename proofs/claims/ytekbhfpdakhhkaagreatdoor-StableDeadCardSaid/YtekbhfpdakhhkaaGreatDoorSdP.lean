/- The law's pair: what the document says of a sync, and of a set. -/
import Derived.Test.YtekbhfpdakhhkaaGreatDoorSdC
import Derived.Test.YtekbhfpdakhhkaaGreatDoorRefAll
import Derived.Test.YtekbhfpdakhhkaaGreatDoorRecAll
import Derived.Test.YtekbhfpdakhhkaaGreatDoorStVo
namespace Go.Proofs.YtekbhfpdakhhkaaGreatDoor.St
set_option linter.unusedSimpArgs false
set_option linter.unusedVariables false
set_option linter.unnecessarySimpa false
open Go.RowKit Go.Lib Go.Proofs.YtekbhfpdakhhkaaGreatDoor.Crc Go.Proofs.YtekbhfpdakhhkaaGreatDoor.Var Go.Proofs.YtekbhfpdakhhkaaGreatDoor.DiskW Go.Proofs.YtekbhfpdakhhkaaGreatDoor.Fr

/-- The pair's memory. -/
abbrev pairO (D S : Nat) (A B : ByteArray) (s : Sto) (v : Value) : Obj :=
  .cells #[.pointer (some ⟨D, 0, none⟩), .pointer (some ⟨S, 0, none⟩), .string A, .string B, .bool false, .int .i64 (-1), .int .u64 (s.prom.n : Int), .int .i64 s.prom.r, .int .u64 (s.base : Int), .string (strOf s.snap), v, .bool true] 38
theorem rdo_any {T : Nat → Prop} {s : Sto} {v : Value} {x : SetM} (w : World) (hx : SetOk x) (h : Row w T 4 rvP v s.votes) (hri : Rise slotK s.votes) (hl : s.votes.length ≤ 1000) :
    Calls Tryz.prog 47 #[rstV s.prom.n s.prom.r s.base (strOf s.snap) v, rsetV x.kind x.slot x.b.n x.b.r (strOf x.bytes)] w (DoneSt w (doM s x)) := by
  obtain ⟨k, slot, ⟨n, r⟩, bytes⟩ := x
  rcases hx.kind with e | e | e
  · obtain rfl : k = 1 := e
    exact rdo1 w h hri hl
  · obtain rfl : k = 2 := e
    exact rdo2 w h hri hl
  · obtain rfl : k = 3 := e
    exact rdo3 w h hri hl
theorem fr_bound {x : SetM} (hx : SetOk x) (hb : x.kind ≠ 3 → 0 ≤ x.b.r ∧ x.b.r < 7) : (fr (recB x)).length ≤ 2500 := by
  have h := (recB_len hx (by
    by_cases h : x.kind = 3
    · exact .inr h
    · exact .inl (hb h))).2
  have h2 := uv_len10 (n := (recB x).length) (by omega)
  rw [fr_len]
  omega
theorem set4_upd {S : List Nat} {w0 w : World} {B : Nat} {a' b' c' d' : Value} (h : Upd S w0 w) (hB : B ∈ S ∨ w0.heap.size ≤ B) :
    Upd S w0 ((((w.setCell ⟨B, 0, none⟩ a').setCell ⟨B, 1, none⟩ b').setCell ⟨B, 2, none⟩ c').setCell ⟨B, 3, none⟩ d') :=
  (((h.setCell hB _).setCell hB _).setCell hB _).setCell hB _
/-- The document's disk behind an act. -/
def NextDk (w3 : World) (m : Nat) (s6 s7 : Value) (wx : World) : Prop := ∃ (Bz : Nat) (A' B' : ByteArray), s6 = .pointer (some ⟨Bz, 0, none⟩) ∧ s7 = .int .i64 0 ∧ wx.heap[Bz]? = some (dkO A' B') ∧ A'.size + B'.size ≤ m ∧ Upd [] w3 wx ∧ w3.heap.size ≤ Bz
set_option maxRecDepth 100000 in
set_option maxHeartbeats 8000000 in
theorem does1_any {P D S : Nat} {A B : ByteArray} {s : Sto} {v : Value} (w : World) (hP : w.heap[P]? = some (pairO D S A B s v)) (hl : A.size + B.size ≤ 100000000) :
    Calls Tryz.prog 24 #[.pointer (some ⟨P, 0, none⟩), .int .u8 1, .int .i64 0, .slice none 0 0] w fun e w' => e = .returned (.int .i64 0) ∧ Upd [P] w w' ∧ ∃ A' B', w'.heap[P]? = some (pairO D S A' B' s v) ∧ A'.size + B'.size ≤ A.size + B.size := by
  have HP := hide hP
  have hPl := blk_lt hP
  clear hP
  go_enter Tryz.func24, Tryz.ntmps24
  go_upto_region 1 with fail
  obtain ⟨w3, hw3⟩ : ∃ w3, w = w3 := ⟨_, rfl⟩
  rw [hw3] at HP ⊢
  go_cut [9, 10] (fun s6 s7 wx => NextDk w3 (A.size + B.size) s6 s7 wx)
  case first => as_aux_lemma =>
    have s : Upd [] w3 (w3.drewN 1) := (Upd.refl [] w3).drewN 1
    have SZ := hide s.size
    refine wp_region_z (fun wx => Upd [] w3 wx) 99 (by kernel_rfl) ?_
    generalize w3.drewN 1 = wd at *
    refine wpAnyZ_takeE 0 rfl (by kernel_rfl) (by kernel_rfl) (by kernel_rfl) (by kernel_rfl) (fun _ _ _ _ h => h) rfl (by exact s) ?_
    apply Exists.intro
    refine ⟨fun wx hS => ?_, ?_⟩
    · go_simp; rfl
    simp only [Act.put, List.setIfInBounds_toArray, List.set_cons_succ, List.set_cons_zero, List.getElem_toArray, List.getElem_cons_zero]
    refine wpAnyZ_takeE 1 rfl (by kernel_rfl) (by kernel_rfl) (by kernel_rfl) (by kernel_rfl) (fun _ _ _ _ h => h) rfl (by exact s) ?_
    apply Exists.intro
    refine ⟨fun wx hS => ?_, ?_⟩
    · go_simp; rfl
    simp only [Act.put, List.setIfInBounds_toArray, List.set_cons_succ, List.set_cons_zero, List.getElem_toArray, List.getElem_cons_succ, List.getElem_cons_zero]
    refine wpAnyZ_takeE 2 rfl (by kernel_rfl) (by kernel_rfl) (by kernel_rfl) (by kernel_rfl) (fun _ _ _ _ h => h) rfl (by exact s) ?_
    apply Exists.intro
    refine ⟨fun wx hS => ?_, ?_⟩
    · go_simp; rfl
    simp only [Act.put, List.setIfInBounds_toArray, List.set_cons_succ, List.set_cons_zero, List.getElem_toArray, List.getElem_cons_succ, List.getElem_cons_zero]
    refine wpAnyZ_takeE 3 rfl (by kernel_rfl) (by kernel_rfl) (by kernel_rfl) (by kernel_rfl) (fun _ _ _ _ h => h) rfl (by exact s) ?_
    apply Exists.intro
    refine ⟨fun wx hS => ?_, ?_⟩
    · have p2 := Rec.cell_keep hS (blk_cell (i := 2) HP.out rfl) (by simp);have p3 := Rec.cell_keep hS (blk_cell (i := 3) HP.out rfl) (by simp);have p4 := Rec.cell_keep hS (blk_cell (i := 4) HP.out rfl) (by simp);have p5 := Rec.cell_keep hS (blk_cell (i := 5) HP.out rfl) (by simp); go_simp; rfl
    simp only [Act.put, List.setIfInBounds_toArray, List.set_cons_succ, List.set_cons_zero, List.getElem_toArray, List.getElem_cons_succ, List.getElem_cons_zero]
    refine wpAnyZ_takeE 4 rfl (by kernel_rfl) (by kernel_rfl) (by kernel_rfl) (by kernel_rfl) (fun _ _ _ _ h => h) rfl (by exact s) ?_
    apply Exists.intro
    refine ⟨fun wx hS => ?_, ?_⟩
    · go_simp; rfl
    simp only [Act.put, List.setIfInBounds_toArray, List.set_cons_succ, List.set_cons_zero, List.getElem_toArray, List.getElem_cons_succ, List.getElem_cons_zero]
    refine wpAnyZ_takeE 5 rfl (by kernel_rfl) (by kernel_rfl) (by kernel_rfl) (by kernel_rfl) (fun _ _ _ _ h => h) rfl (by exact s) ?_
    apply Exists.intro
    refine ⟨fun wx hS => ?_, ?_⟩
    · go_simp; rfl
    simp only [Act.put, List.setIfInBounds_toArray, List.set_cons_succ, List.set_cons_zero, List.getElem_toArray, List.getElem_cons_succ, List.getElem_cons_zero]
    refine wpAnyZ_takeE 6 rfl (by kernel_rfl) (by kernel_rfl) (by kernel_rfl) (by kernel_rfl) (fun _ _ _ _ h => h) rfl (by exact s) ?_
    apply Exists.intro
    refine ⟨fun wx hS => ?_, ?_⟩
    · go_simp; rfl
    simp only [Act.put, List.setIfInBounds_toArray, List.set_cons_succ, List.set_cons_zero, List.getElem_toArray, List.getElem_cons_succ, List.getElem_cons_zero]
    refine wpAnyZ_takeE 7 rfl (by kernel_rfl) (by kernel_rfl) (by kernel_rfl) (by kernel_rfl) (fun _ _ _ _ h => h) rfl (by exact s) ?_
    apply Exists.intro
    refine ⟨fun wx hS => ?_, ?_⟩
    · go_simp; rfl
    simp only [Act.put, List.setIfInBounds_toArray, List.set_cons_succ, List.set_cons_zero, List.getElem_toArray, List.getElem_cons_succ, List.getElem_cons_zero]
    refine Rec.wpAnyZ_two 8 12 (by kernel_rfl) rfl rfl rfl rfl (fun K hK => ?_) (fun K hK => ?_)
    · skip
      try simp only [List.getElem_toArray, List.getElem_cons_succ, List.getElem_cons_zero]
      go_simp
      refine (rdk1_any (A := A) (B := B) (b := ⟨#[]⟩) wd (by omega)).mono ?_
      rintro e wt1 ⟨A', B', rfl, hdsz, hu8⟩
      have s := s.trans hu8
      have DSZ := hide hdsz
      have SZ := hide s.size
      clear hdsz hu8
      refine hK _ _ (.inr s) ?_
      clear hK K
      try simp only [Act.put, List.setIfInBounds_toArray, List.set_cons_succ, List.set_cons_zero]
      refine wpAnyZ_takeE 9 rfl (by kernel_rfl) (by kernel_rfl) (by kernel_rfl) (by kernel_rfl) (fun _ _ _ _ h => h) rfl (by exact s) ?_
      apply Exists.intro
      refine ⟨fun wx hS => ?_, ?_⟩
      · go_simp; rfl
      simp only [Act.put, List.setIfInBounds_toArray, List.set_cons_succ, List.set_cons_zero, List.getElem_toArray, List.getElem_cons_succ, List.getElem_cons_zero]
      refine wpAnyZ_takeE 10 rfl (by kernel_rfl) (by kernel_rfl) (by kernel_rfl) (by kernel_rfl) (fun _ _ _ _ h => h) rfl (by exact s) ?_
      apply Exists.intro
      refine ⟨fun wx hS => ?_, ?_⟩
      · go_simp; rfl
      simp only [Act.put, List.setIfInBounds_toArray, List.set_cons_succ, List.set_cons_zero, List.getElem_toArray, List.getElem_cons_succ, List.getElem_cons_zero]
      refine wpAnyZ_takeE 11 rfl (by kernel_rfl) (by kernel_rfl) (by kernel_rfl) (by kernel_rfl) (fun _ _ _ _ h => h) rfl (by exact s) ?_
      apply Exists.intro
      refine ⟨fun wx hS => ?_, ?_⟩
      · go_simp; rfl
      simp only [Act.put, List.setIfInBounds_toArray, List.set_cons_succ, List.set_cons_zero, List.getElem_toArray, List.getElem_cons_succ, List.getElem_cons_zero]
      refine wpAnyZ_one 12 (by kernel_rfl) rfl rfl (fun K hK => ?_)
      try simp only [List.getElem_toArray, List.getElem_cons_succ, List.getElem_cons_zero]
      have hz0 := blk_new wt1 dk0
      have hzu := (Upd.refl [] wt1).alloc dk0
      go_simp
      obtain ⟨Bz, hBz⟩ : ∃ Bz, wt1.heap.size = Bz := ⟨_, rfl⟩
      rw [hBz] at hz0 ⊢
      have s := s.trans hzu
      generalize wt1.alloc dk0 = wz at *
      have HZ := hide hz0
      have HZS := hide (show w3.heap.size ≤ Bz by have := SZ.out; omega)
      have SZ := hide s.size
      clear hz0 hzu hBz
      refine hK _ _ (.inr s) ?_
      clear hK K
      try simp only [Act.put, List.setIfInBounds_toArray, List.set_cons_succ, List.set_cons_zero]
      have e0 := blk_cell (i := 0) HZ.out rfl
      have e1 := blk_cell (i := 1) HZ.out rfl
      have e2 := blk_cell (i := 2) HZ.out rfl
      have e3 := blk_cell (i := 3) HZ.out rfl
      have g0 := blk_free (i := 0) HZ.out
      have g1 := blk_free (i := 1) HZ.out
      have g2 := blk_free (i := 2) HZ.out
      have g3 := blk_free (i := 3) HZ.out
      refine wpAnyZ_one 13 (by kernel_rfl) rfl rfl (fun K hK => ?_)
      try simp only [List.getElem_toArray, List.getElem_cons_succ, List.getElem_cons_zero]
      go_simp
      have s := set4_upd (a' := .string A') (b' := .string B') (c' := .bool false) (d' := .int .i64 (-1)) s (.inr HZS.out)
      refine hK _ _ (.inr s) ?_
      clear hK K
      try simp only [Act.put, List.setIfInBounds_toArray, List.set_cons_succ, List.set_cons_zero]
      refine wpAnyZ_takeE 14 rfl (by kernel_rfl) (by kernel_rfl) (by kernel_rfl) (by kernel_rfl) (fun _ _ _ _ h => h) rfl (by exact s) ?_
      apply Exists.intro
      refine ⟨fun wx hS => ?_, ?_⟩
      · go_simp; rfl
      simp only [Act.put, List.setIfInBounds_toArray, List.set_cons_succ, List.set_cons_zero, List.getElem_toArray, List.getElem_cons_succ, List.getElem_cons_zero]
      refine wpAnyZ_done (by kernel_rfl) ?_ _
      go_wp2_with fail
      go_meet
      exact ⟨Bz, A', B', rfl, rfl, set4_blk HZ.out, by have := DSZ.out; omega, s, HZS.out⟩
    · skip
      try simp only [List.getElem_toArray, List.getElem_cons_succ, List.getElem_cons_zero]
      have hz0 := blk_new wd dk0
      have hzu := (Upd.refl [] wd).alloc dk0
      go_simp
      obtain ⟨Bz, hBz⟩ : ∃ Bz, wd.heap.size = Bz := ⟨_, rfl⟩
      rw [hBz] at hz0 ⊢
      have s := s.trans hzu
      generalize wd.alloc dk0 = wz at *
      have HZ := hide hz0
      have HZS := hide (show w3.heap.size ≤ Bz by have := SZ.out; omega)
      have SZ := hide s.size
      clear hz0 hzu hBz
      refine hK _ _ (.inr s) ?_
      clear hK K
      try simp only [Act.put, List.setIfInBounds_toArray, List.set_cons_succ, List.set_cons_zero]
      refine wpAnyZ_one 8 (by kernel_rfl) rfl rfl (fun K hK => ?_)
      try simp only [List.getElem_toArray, List.getElem_cons_succ, List.getElem_cons_zero]
      go_simp
      refine (rdk1_any (A := A) (B := B) (b := ⟨#[]⟩) wz (by omega)).mono ?_
      rintro e wt2 ⟨A', B', rfl, hdsz, hu8⟩
      have s := s.trans hu8
      have DSZ := hide hdsz
      have HZ := hide ((hu8).get HZ.out (by simp))
      have SZ := hide s.size
      clear hdsz hu8
      refine hK _ _ (.inr s) ?_
      clear hK K
      try simp only [Act.put, List.setIfInBounds_toArray, List.set_cons_succ, List.set_cons_zero]
      refine wpAnyZ_takeE 9 rfl (by kernel_rfl) (by kernel_rfl) (by kernel_rfl) (by kernel_rfl) (fun _ _ _ _ h => h) rfl (by exact s) ?_
      apply Exists.intro
      refine ⟨fun wx hS => ?_, ?_⟩
      · go_simp; rfl
      simp only [Act.put, List.setIfInBounds_toArray, List.set_cons_succ, List.set_cons_zero, List.getElem_toArray, List.getElem_cons_succ, List.getElem_cons_zero]
      refine wpAnyZ_takeE 10 rfl (by kernel_rfl) (by kernel_rfl) (by kernel_rfl) (by kernel_rfl) (fun _ _ _ _ h => h) rfl (by exact s) ?_
      apply Exists.intro
      refine ⟨fun wx hS => ?_, ?_⟩
      · go_simp; rfl
      simp only [Act.put, List.setIfInBounds_toArray, List.set_cons_succ, List.set_cons_zero, List.getElem_toArray, List.getElem_cons_succ, List.getElem_cons_zero]
      refine wpAnyZ_takeE 11 rfl (by kernel_rfl) (by kernel_rfl) (by kernel_rfl) (by kernel_rfl) (fun _ _ _ _ h => h) rfl (by exact s) ?_
      apply Exists.intro
      refine ⟨fun wx hS => ?_, ?_⟩
      · go_simp; rfl
      simp only [Act.put, List.setIfInBounds_toArray, List.set_cons_succ, List.set_cons_zero, List.getElem_toArray, List.getElem_cons_succ, List.getElem_cons_zero]
      have e0 := blk_cell (i := 0) HZ.out rfl
      have e1 := blk_cell (i := 1) HZ.out rfl
      have e2 := blk_cell (i := 2) HZ.out rfl
      have e3 := blk_cell (i := 3) HZ.out rfl
      have g0 := blk_free (i := 0) HZ.out
      have g1 := blk_free (i := 1) HZ.out
      have g2 := blk_free (i := 2) HZ.out
      have g3 := blk_free (i := 3) HZ.out
      refine wpAnyZ_one 13 (by kernel_rfl) rfl rfl (fun K hK => ?_)
      try simp only [List.getElem_toArray, List.getElem_cons_succ, List.getElem_cons_zero]
      go_simp
      have s := set4_upd (a' := .string A') (b' := .string B') (c' := .bool false) (d' := .int .i64 (-1)) s (.inr HZS.out)
      refine hK _ _ (.inr s) ?_
      clear hK K
      try simp only [Act.put, List.setIfInBounds_toArray, List.set_cons_succ, List.set_cons_zero]
      refine wpAnyZ_takeE 14 rfl (by kernel_rfl) (by kernel_rfl) (by kernel_rfl) (by kernel_rfl) (fun _ _ _ _ h => h) rfl (by exact s) ?_
      apply Exists.intro
      refine ⟨fun wx hS => ?_, ?_⟩
      · go_simp; rfl
      simp only [Act.put, List.setIfInBounds_toArray, List.set_cons_succ, List.set_cons_zero, List.getElem_toArray, List.getElem_cons_succ, List.getElem_cons_zero]
      refine wpAnyZ_done (by kernel_rfl) ?_ _
      go_wp2_with fail
      go_meet
      exact ⟨Bz, A', B', rfl, rfl, set4_blk HZ.out, by have := DSZ.out; omega, s, HZS.out⟩
  case rest =>
  obtain ⟨Bz, A', B', rfl, rfl, hbz, hsz, hu, hBz⟩ := hcut
  rename World => w4
  have hp4 := hu.get HP.out (by simp)
  have e0 := blk_cell (i := 0) hbz rfl
  have e1 := blk_cell (i := 1) hbz rfl
  have e2 := blk_cell (i := 2) hbz rfl
  have e3 := blk_cell (i := 3) hbz rfl
  have p2 := blk_cell (i := 2) hp4 rfl
  have p3 := blk_cell (i := 3) hp4 rfl
  have p4 := blk_cell (i := 4) hp4 rfl
  have p5 := blk_cell (i := 5) hp4 rfl
  have g2 := blk_free (i := 2) hp4
  have g3 := blk_free (i := 3) hp4
  have g4 := blk_free (i := 4) hp4
  have g5 := blk_free (i := 5) hp4
  have HFB := hide (show ((((w4.setCell ⟨P, 2, none⟩ (.string A')).setCell ⟨P, 3, none⟩ (.string B')).setCell ⟨P, 4, none⟩ (.bool false)).setCell ⟨P, 5, none⟩ (.int .i64 (-1))).heap[P]? = some (pairO D S A' B' s v) from blk_set (blk_set (blk_set (blk_set hp4 _) _) _) _)
  have HFU := hide ((((((hu.mono (by simp) : Upd [P] w3 w4).setCell (p := ⟨P, 2, none⟩) (.inl (by simp)) (.string A')).setCell (p := ⟨P, 3, none⟩) (.inl (by simp)) (.string B')).setCell (p := ⟨P, 4, none⟩) (.inl (by simp)) (.bool false)).setCell (p := ⟨P, 5, none⟩) (.inl (by simp)) (.int .i64 (-1))))
  clear hbz hp4 hu
  subst hw3
  go_wp2_with fail
  go_ret
  exact ⟨rfl, HFU.out, A', B', HFB.out, hsz⟩
set_option maxRecDepth 100000 in
set_option maxHeartbeats 8000000 in
theorem asked_any {P D S i : Nat} {A B : ByteArray} {s : Sto} {v : Value} {T : Nat → Prop} {x : SetM} (w : World) (hP : w.heap[P]? = some (pairO D S A B s v)) (hr : Row w T 4 rvP v s.votes) (hT : ¬ T P) (hso : StoOk s i) (hi : i ≤ 900) (hx : SetOk x) (hl : A.size + B.size ≤ 100000000) :
    Calls Tryz.prog 53 #[.pointer (some ⟨P, 0, none⟩), rsetV x.kind x.slot x.b.n x.b.r (strOf x.bytes)] w fun e w' => e = .returned (.int .i64 (mayM s x : Int)) ∧ Upd [P] w w' ∧
      ∃ A' B' v', w'.heap[P]? = some (pairO D S A' B' (putM s x) v') ∧ A'.size + B'.size ≤ A.size + B.size + 2500 ∧ (mayM s x ≠ 0 → v' = v) ∧ (mayM s x = 0 → Row w' (since w.heap.size w') 4 rvP v' (putM s x).votes) := by
  obtain ⟨k, slot, ⟨n, r⟩, bytes⟩ := x
  obtain ⟨vo, vc, rfl, -, -⟩ := Row.slice hr
  have hX := blk_new w (rsetO k slot n r (strOf bytes))
  have hP2 := blk_alloc hP (rsetO k slot n r (strOf bytes))
  have hu2 := (Upd.refl [] w).alloc (rsetO k slot n r (strOf bytes))
  have hPl := blk_lt hP
  have R0 := hide hr; have SO := hide hso
  have hvl : s.votes.length ≤ 900 := by have := hso.len; omega
  clear hP hr hso
  simp only
  go_enter Tryz.func53, Tryz.ntmps53
  go_upto_region 1 with fail
  generalize w.alloc (rsetO k slot n r (strOf bytes)) = w2 at *
  obtain ⟨Bx, hBx⟩ : ∃ Bx, w.heap.size = Bx := ⟨_, rfl⟩
  rw [hBx] at hX hPl ⊢
  have HX := hide hX; have HP := hide hP2; have U2 := hide hu2; have HBX := hide hBx
  have p11 : w2.cell? ⟨P, 11, none⟩ = some (.bool true) := blk_cell hP2 rfl
  clear hX hP2 hu2 hBx
  go_upto_region 3 with fail
  have d0 : Upd [] w2 (w2.drewN 1) := (Upd.refl _ w2).drewN 1
  refine wp_region_seqP (findOps 3 ((Tryz.f53.body).getD .skip)) (by kernel_rfl) [5] [0, 1, 2, 3, 4, 5, 6] (fun wx => Upd [] w2 wx) (by kernel_rfl) (by kernel_rfl) (fun _ _ d _ _ h => by cases d <;> exact h) d0 ?_
  simp only [pickO, List.filterMap_cons, List.filterMap_nil, List.getElem?_cons_succ, List.getElem?_cons_zero]
  refine wpSeqP_take (by kernel_rfl) (by kernel_rfl) ?_
  apply Exists.intro
  refine ⟨fun wx hS => ?_, fun a' ha => ?_⟩
  · go_simp; rfl
  simp only [Act.put, List.setIfInBounds_toArray, List.set_cons_succ, List.set_cons_zero] at ha
  subst ha
  refine wpSeqP_take (by kernel_rfl) (by kernel_rfl) ?_
  apply Exists.intro
  refine ⟨fun wx hS => ?_, fun a' ha => ?_⟩
  · go_simp; rfl
  simp only [Act.put, List.setIfInBounds_toArray, List.set_cons_succ, List.set_cons_zero] at ha
  subst ha
  refine wpSeqP_take (by kernel_rfl) (by kernel_rfl) ?_
  apply Exists.intro
  refine ⟨fun wx hS => ?_, fun a' ha => ?_⟩
  · go_simp; rfl
  simp only [Act.put, List.setIfInBounds_toArray, List.set_cons_succ, List.set_cons_zero] at ha
  subst ha
  refine wpSeqP_take (by kernel_rfl) (by kernel_rfl) ?_
  apply Exists.intro
  refine ⟨fun wx hS => ?_, fun a' ha => ?_⟩
  · have p6 := Rec.cell_keep hS (blk_cell (i := 6) HP.out rfl) (by simp);have p7 := Rec.cell_keep hS (blk_cell (i := 7) HP.out rfl) (by simp);have p8 := Rec.cell_keep hS (blk_cell (i := 8) HP.out rfl) (by simp);have p9 := Rec.cell_keep hS (blk_cell (i := 9) HP.out rfl) (by simp);have p10 := Rec.cell_keep hS (blk_cell (i := 10) HP.out rfl) (by simp); go_simp; rfl
  simp only [Act.put, List.setIfInBounds_toArray, List.set_cons_succ, List.set_cons_zero] at ha
  subst ha
  refine wpSeqP_take (by kernel_rfl) (by kernel_rfl) ?_
  apply Exists.intro
  refine ⟨fun wx hS => ?_, fun a' ha => ?_⟩
  · have x0 := Rec.cell_keep hS (blk_cell (i := 0) HX.out rfl) (by simp);have x1 := Rec.cell_keep hS (blk_cell (i := 1) HX.out rfl) (by simp);have x2 := Rec.cell_keep hS (blk_cell (i := 2) HX.out rfl) (by simp);have x3 := Rec.cell_keep hS (blk_cell (i := 3) HX.out rfl) (by simp);have x4 := Rec.cell_keep hS (blk_cell (i := 4) HX.out rfl) (by simp); go_simp; rfl
  simp only [Act.put, List.setIfInBounds_toArray, List.set_cons_succ, List.set_cons_zero] at ha
  subst ha
  refine wpSeqP_one (by kernel_rfl) (by kernel_rfl) (fun K hK => ?_)
  go_simp
  refine (rmay_any s (.slice vo s.votes.length vc) k slot n r bytes (strOf s.snap) (strOf bytes) (w2.drewN 1)).mono ?_
  rintro e w3 ⟨rfl, hu3⟩
  have d3 := d0.trans hu3
  refine hK _ _ (d3) ?_
  clear hK K
  try simp only [Act.put, List.setIfInBounds_toArray, List.set_cons_succ, List.set_cons_zero]
  refine wpSeqP_take (by kernel_rfl) (by kernel_rfl) ?_
  apply Exists.intro
  refine ⟨fun wx hS => ?_, fun a' ha => ?_⟩
  · go_simp; rfl
  simp only [Act.put, List.setIfInBounds_toArray, List.set_cons_succ, List.set_cons_zero] at ha
  subst ha
  unfold wpSeqP
  obtain ⟨m, hm⟩ : ∃ m, mayM s ⟨k, slot, ⟨n, r⟩, bytes⟩ = m := ⟨_, rfl⟩
  rw [hm]
  have HP3 := hide (d3.get HP.out (by simp)); have HX3 := hide (d3.get HX.out (by simp)); have U3 := hide (U2.out.trans d3)
  have HM := hide hm
  clear hm d0 d3 hu3 p11 HP HX U2
  have HP := HP3; have HX := HX3
  clear HP3 HX3
  by_cases hm0 : m = 0
  · subst hm0
    obtain ⟨hmay, -⟩ := may_ok HM.out
    have hbal : (⟨k, slot, ⟨n, r⟩, bytes⟩ : SetM).kind ≠ 3 → 0 ≤ (⟨k, slot, ⟨n, r⟩, bytes⟩ : SetM).b.r ∧ (⟨k, slot, ⟨n, r⟩, bytes⟩ : SetM).b.r < 7 := fun h => ⟨(hmay h).1, (hmay h).2.1⟩
    have hfl := fr_bound hx hbal
    have hrl : (recB ⟨k, slot, ⟨n, r⟩, bytes⟩).length ≤ 2000 := (recB_len hx (by
      by_cases h : k = 3
      · exact .inr h
      · exact .inl (hbal h))).2
    clear hmay
    go_upto_region 6 with fail
    go_cut [6, 7] (fun s6 s7 wx => NextDk w3 (A.size + B.size + 2500) s6 s7 wx)
    case first => as_aux_lemma =>
      have s0 : Upd [] w3 (w3.drewN 1) := (Upd.refl [] w3).drewN 1
      have SZ := hide s0.size
      obtain ⟨sq, hsq⟩ : ∃ sq, s = sq := ⟨_, rfl⟩
      refine wp_region_z (fun wx => Upd [] w3 wx) 99 (by kernel_rfl) ?_
      generalize w3.drewN 1 = wd at *
      rw [hsq] at HP
      clear hsq
      have s := s0
      clear s0
      refine wpAnyZ_takeE 0 rfl (by kernel_rfl) (by kernel_rfl) (by kernel_rfl) (by kernel_rfl) (fun _ _ _ _ h => h) rfl (by exact s) ?_
      apply Exists.intro
      refine ⟨fun wx hS => ?_, ?_⟩
      · go_simp; rfl
      simp only [Act.put, List.setIfInBounds_toArray, List.set_cons_succ, List.set_cons_zero, List.getElem_toArray, List.getElem_cons_zero]
      refine wpAnyZ_takeE 1 rfl (by kernel_rfl) (by kernel_rfl) (by kernel_rfl) (by kernel_rfl) (fun _ _ _ _ h => h) rfl (by exact s) ?_
      apply Exists.intro
      refine ⟨fun wx hS => ?_, ?_⟩
      · go_simp; rfl
      simp only [Act.put, List.setIfInBounds_toArray, List.set_cons_succ, List.set_cons_zero, List.getElem_toArray, List.getElem_cons_succ, List.getElem_cons_zero]
      refine wpAnyZ_takeE 2 rfl (by kernel_rfl) (by kernel_rfl) (by kernel_rfl) (by kernel_rfl) (fun _ _ _ _ h => h) rfl (by exact s) ?_
      apply Exists.intro
      refine ⟨fun wx hS => ?_, ?_⟩
      · go_simp; rfl
      simp only [Act.put, List.setIfInBounds_toArray, List.set_cons_succ, List.set_cons_zero, List.getElem_toArray, List.getElem_cons_succ, List.getElem_cons_zero]
      refine wpAnyZ_takeE 3 rfl (by kernel_rfl) (by kernel_rfl) (by kernel_rfl) (by kernel_rfl) (fun _ _ _ _ h => h) rfl (by exact s) ?_
      apply Exists.intro
      refine ⟨fun wx hS => ?_, ?_⟩
      · have p2 := Rec.cell_keep hS (blk_cell (i := 2) HP.out rfl) (by simp);have p3 := Rec.cell_keep hS (blk_cell (i := 3) HP.out rfl) (by simp);have p4 := Rec.cell_keep hS (blk_cell (i := 4) HP.out rfl) (by simp);have p5 := Rec.cell_keep hS (blk_cell (i := 5) HP.out rfl) (by simp); go_simp; rfl
      simp only [Act.put, List.setIfInBounds_toArray, List.set_cons_succ, List.set_cons_zero, List.getElem_toArray, List.getElem_cons_succ, List.getElem_cons_zero]
      refine wpAnyZ_takeE 4 rfl (by kernel_rfl) (by kernel_rfl) (by kernel_rfl) (by kernel_rfl) (fun _ _ _ _ h => h) rfl (by exact s) ?_
      apply Exists.intro
      refine ⟨fun wx hS => ?_, ?_⟩
      · have x0 := Rec.cell_keep hS (blk_cell (i := 0) HX.out rfl) (by simp);have x1 := Rec.cell_keep hS (blk_cell (i := 1) HX.out rfl) (by simp);have x2 := Rec.cell_keep hS (blk_cell (i := 2) HX.out rfl) (by simp);have x3 := Rec.cell_keep hS (blk_cell (i := 3) HX.out rfl) (by simp);have x4 := Rec.cell_keep hS (blk_cell (i := 4) HX.out rfl) (by simp); go_simp; rfl
      simp only [Act.put, List.setIfInBounds_toArray, List.set_cons_succ, List.set_cons_zero, List.getElem_toArray, List.getElem_cons_succ, List.getElem_cons_zero]
      refine Rec.wpAnyZ_two 5 12 (by kernel_rfl) rfl rfl rfl rfl (fun K hK => ?_) (fun K hK => ?_)
      · skip
        try simp only [List.getElem_toArray, List.getElem_cons_succ, List.getElem_cons_zero]
        go_simp
        refine (rsbytes_any (x := ⟨k, slot, ⟨n, r⟩, bytes⟩) wd hx hbal).mono ?_
        rintro e wt1 ⟨v5, rfl, m5⟩
        obtain ⟨a5, q5, rfl⟩ := m5.slice
        have hu5 := m5.upd
        have s := s.trans hu5
        have OW := hide m5.own
        have SZ := hide s.size
        clear m5 hu5
        refine hK _ _ (.inr s) ?_
        clear hK K
        try simp only [Act.put, List.setIfInBounds_toArray, List.set_cons_succ, List.set_cons_zero]
        refine Rec.wpAnyZ_two 6 12 (by kernel_rfl) rfl rfl rfl rfl (fun K hK => ?_) (fun K hK => ?_)
        · skip
          try simp only [List.getElem_toArray, List.getElem_cons_succ, List.getElem_cons_zero]
          go_simp
          refine (Ref.frame_any wt1 (src_ownB OW.out) (by have := hrl; omega)).mono ?_
          rintro e wt2 ⟨v6, a6, q6, rfl, rfl, ho6, hu6⟩
          have s := s.trans hu6
          have OW := hide ho6
          have SZ := hide s.size
          clear ho6 hu6
          refine hK _ _ (.inr s) ?_
          clear hK K
          try simp only [Act.put, List.setIfInBounds_toArray, List.set_cons_succ, List.set_cons_zero]
          refine Rec.wpAnyZ_two 7 12 (by kernel_rfl) rfl rfl rfl rfl (fun K hK => ?_) (fun K hK => ?_)
          · skip
            try simp only [List.getElem_toArray, List.getElem_cons_succ, List.getElem_cons_zero]
            have hq := run_str (src_ownB OW.out)
            go_simp
            clear hq
            refine hK _ _ (.inr s) ?_
            clear hK K
            try simp only [Act.put, List.setIfInBounds_toArray, List.set_cons_succ, List.set_cons_zero]
            refine Rec.wpAnyZ_two 8 12 (by kernel_rfl) rfl rfl rfl rfl (fun K hK => ?_) (fun K hK => ?_)
            · skip
              try simp only [List.getElem_toArray, List.getElem_cons_succ, List.getElem_cons_zero]
              go_simp
              refine (rdk0_any (A := A) (B := B) (b := strOf (fr (recB ⟨k, slot, ⟨n, r⟩, bytes⟩))) wt2 (by rw [strOf_size]; omega)).mono ?_
              rintro e wt4 ⟨A', B', rfl, hdsz, hu8⟩
              rw [strOf_size] at hdsz
              have s := s.trans hu8
              have DSZ := hide hdsz
              have SZ := hide s.size
              clear hdsz hu8
              refine hK _ _ (.inr s) ?_
              clear hK K
              try simp only [Act.put, List.setIfInBounds_toArray, List.set_cons_succ, List.set_cons_zero]
              refine wpAnyZ_takeE 9 rfl (by kernel_rfl) (by kernel_rfl) (by kernel_rfl) (by kernel_rfl) (fun _ _ _ _ h => h) rfl (by exact s) ?_
              apply Exists.intro
              refine ⟨fun wx hS => ?_, ?_⟩
              · go_simp; rfl
              simp only [Act.put, List.setIfInBounds_toArray, List.set_cons_succ, List.set_cons_zero, List.getElem_toArray, List.getElem_cons_succ, List.getElem_cons_zero]
              refine wpAnyZ_takeE 10 rfl (by kernel_rfl) (by kernel_rfl) (by kernel_rfl) (by kernel_rfl) (fun _ _ _ _ h => h) rfl (by exact s) ?_
              apply Exists.intro
              refine ⟨fun wx hS => ?_, ?_⟩
              · go_simp; rfl
              simp only [Act.put, List.setIfInBounds_toArray, List.set_cons_succ, List.set_cons_zero, List.getElem_toArray, List.getElem_cons_succ, List.getElem_cons_zero]
              refine wpAnyZ_takeE 11 rfl (by kernel_rfl) (by kernel_rfl) (by kernel_rfl) (by kernel_rfl) (fun _ _ _ _ h => h) rfl (by exact s) ?_
              apply Exists.intro
              refine ⟨fun wx hS => ?_, ?_⟩
              · go_simp; rfl
              simp only [Act.put, List.setIfInBounds_toArray, List.set_cons_succ, List.set_cons_zero, List.getElem_toArray, List.getElem_cons_succ, List.getElem_cons_zero]
              refine wpAnyZ_one 12 (by kernel_rfl) rfl rfl (fun K hK => ?_)
              try simp only [List.getElem_toArray, List.getElem_cons_succ, List.getElem_cons_zero]
              have hz0 := blk_new wt4 dk0
              have hzu := (Upd.refl [] wt4).alloc dk0
              go_simp
              obtain ⟨Bz, hBz⟩ : ∃ Bz, wt4.heap.size = Bz := ⟨_, rfl⟩
              rw [hBz] at hz0 ⊢
              have s := s.trans hzu
              generalize wt4.alloc dk0 = wz at *
              have HZ := hide hz0
              have HZS := hide (show w3.heap.size ≤ Bz by have := SZ.out; omega)
              have SZ := hide s.size
              clear hz0 hzu hBz
              refine hK _ _ (.inr s) ?_
              clear hK K
              try simp only [Act.put, List.setIfInBounds_toArray, List.set_cons_succ, List.set_cons_zero]
              have e0 := blk_cell (i := 0) HZ.out rfl
              have e1 := blk_cell (i := 1) HZ.out rfl
              have e2 := blk_cell (i := 2) HZ.out rfl
              have e3 := blk_cell (i := 3) HZ.out rfl
              have g0 := blk_free (i := 0) HZ.out
              have g1 := blk_free (i := 1) HZ.out
              have g2 := blk_free (i := 2) HZ.out
              have g3 := blk_free (i := 3) HZ.out
              refine wpAnyZ_one 13 (by kernel_rfl) rfl rfl (fun K hK => ?_)
              try simp only [List.getElem_toArray, List.getElem_cons_succ, List.getElem_cons_zero]
              go_simp
              have s := set4_upd (a' := .string A') (b' := .string B') (c' := .bool false) (d' := .int .i64 (-1)) s (.inr HZS.out)
              refine hK _ _ (.inr s) ?_
              clear hK K
              try simp only [Act.put, List.setIfInBounds_toArray, List.set_cons_succ, List.set_cons_zero]
              refine wpAnyZ_takeE 14 rfl (by kernel_rfl) (by kernel_rfl) (by kernel_rfl) (by kernel_rfl) (fun _ _ _ _ h => h) rfl (by exact s) ?_
              apply Exists.intro
              refine ⟨fun wx hS => ?_, ?_⟩
              · go_simp; rfl
              simp only [Act.put, List.setIfInBounds_toArray, List.set_cons_succ, List.set_cons_zero, List.getElem_toArray, List.getElem_cons_succ, List.getElem_cons_zero]
              refine wpAnyZ_done (by kernel_rfl) ?_ _
              go_wp2_with fail
              go_meet
              exact ⟨Bz, A', B', rfl, rfl, set4_blk HZ.out, by have := DSZ.out; omega, s, HZS.out⟩
            · skip
              try simp only [List.getElem_toArray, List.getElem_cons_succ, List.getElem_cons_zero]
              have hz0 := blk_new wt2 dk0
              have hzu := (Upd.refl [] wt2).alloc dk0
              go_simp
              obtain ⟨Bz, hBz⟩ : ∃ Bz, wt2.heap.size = Bz := ⟨_, rfl⟩
              rw [hBz] at hz0 ⊢
              have s := s.trans hzu
              generalize wt2.alloc dk0 = wz at *
              have HZ := hide hz0
              have HZS := hide (show w3.heap.size ≤ Bz by have := SZ.out; omega)
              have OW := hide (owns_upd OW.out hzu (by simp))
              have SZ := hide s.size
              clear hz0 hzu hBz
              refine hK _ _ (.inr s) ?_
              clear hK K
              try simp only [Act.put, List.setIfInBounds_toArray, List.set_cons_succ, List.set_cons_zero]
              refine wpAnyZ_one 8 (by kernel_rfl) rfl rfl (fun K hK => ?_)
              try simp only [List.getElem_toArray, List.getElem_cons_succ, List.getElem_cons_zero]
              go_simp
              refine (rdk0_any (A := A) (B := B) (b := strOf (fr (recB ⟨k, slot, ⟨n, r⟩, bytes⟩))) wz (by rw [strOf_size]; omega)).mono ?_
              rintro e wt5 ⟨A', B', rfl, hdsz, hu8⟩
              rw [strOf_size] at hdsz
              have s := s.trans hu8
              have DSZ := hide hdsz
              have HZ := hide ((hu8).get HZ.out (by simp))
              have SZ := hide s.size
              clear hdsz hu8
              refine hK _ _ (.inr s) ?_
              clear hK K
              try simp only [Act.put, List.setIfInBounds_toArray, List.set_cons_succ, List.set_cons_zero]
              refine wpAnyZ_takeE 9 rfl (by kernel_rfl) (by kernel_rfl) (by kernel_rfl) (by kernel_rfl) (fun _ _ _ _ h => h) rfl (by exact s) ?_
              apply Exists.intro
              refine ⟨fun wx hS => ?_, ?_⟩
              · go_simp; rfl
              simp only [Act.put, List.setIfInBounds_toArray, List.set_cons_succ, List.set_cons_zero, List.getElem_toArray, List.getElem_cons_succ, List.getElem_cons_zero]
              refine wpAnyZ_takeE 10 rfl (by kernel_rfl) (by kernel_rfl) (by kernel_rfl) (by kernel_rfl) (fun _ _ _ _ h => h) rfl (by exact s) ?_
              apply Exists.intro
              refine ⟨fun wx hS => ?_, ?_⟩
              · go_simp; rfl
              simp only [Act.put, List.setIfInBounds_toArray, List.set_cons_succ, List.set_cons_zero, List.getElem_toArray, List.getElem_cons_succ, List.getElem_cons_zero]
              refine wpAnyZ_takeE 11 rfl (by kernel_rfl) (by kernel_rfl) (by kernel_rfl) (by kernel_rfl) (fun _ _ _ _ h => h) rfl (by exact s) ?_
              apply Exists.intro
              refine ⟨fun wx hS => ?_, ?_⟩
              · go_simp; rfl
              simp only [Act.put, List.setIfInBounds_toArray, List.set_cons_succ, List.set_cons_zero, List.getElem_toArray, List.getElem_cons_succ, List.getElem_cons_zero]
              have e0 := blk_cell (i := 0) HZ.out rfl
              have e1 := blk_cell (i := 1) HZ.out rfl
              have e2 := blk_cell (i := 2) HZ.out rfl
              have e3 := blk_cell (i := 3) HZ.out rfl
              have g0 := blk_free (i := 0) HZ.out
              have g1 := blk_free (i := 1) HZ.out
              have g2 := blk_free (i := 2) HZ.out
              have g3 := blk_free (i := 3) HZ.out
              refine wpAnyZ_one 13 (by kernel_rfl) rfl rfl (fun K hK => ?_)
              try simp only [List.getElem_toArray, List.getElem_cons_succ, List.getElem_cons_zero]
              go_simp
              have s := set4_upd (a' := .string A') (b' := .string B') (c' := .bool false) (d' := .int .i64 (-1)) s (.inr HZS.out)
              refine hK _ _ (.inr s) ?_
              clear hK K
              try simp only [Act.put, List.setIfInBounds_toArray, List.set_cons_succ, List.set_cons_zero]
              refine wpAnyZ_takeE 14 rfl (by kernel_rfl) (by kernel_rfl) (by kernel_rfl) (by kernel_rfl) (fun _ _ _ _ h => h) rfl (by exact s) ?_
              apply Exists.intro
              refine ⟨fun wx hS => ?_, ?_⟩
              · go_simp; rfl
              simp only [Act.put, List.setIfInBounds_toArray, List.set_cons_succ, List.set_cons_zero, List.getElem_toArray, List.getElem_cons_succ, List.getElem_cons_zero]
              refine wpAnyZ_done (by kernel_rfl) ?_ _
              go_wp2_with fail
              go_meet
              exact ⟨Bz, A', B', rfl, rfl, set4_blk HZ.out, by have := DSZ.out; omega, s, HZS.out⟩
          · skip
            try simp only [List.getElem_toArray, List.getElem_cons_succ, List.getElem_cons_zero]
            have hz0 := blk_new wt2 dk0
            have hzu := (Upd.refl [] wt2).alloc dk0
            go_simp
            obtain ⟨Bz, hBz⟩ : ∃ Bz, wt2.heap.size = Bz := ⟨_, rfl⟩
            rw [hBz] at hz0 ⊢
            have s := s.trans hzu
            generalize wt2.alloc dk0 = wz at *
            have HZ := hide hz0
            have HZS := hide (show w3.heap.size ≤ Bz by have := SZ.out; omega)
            have OW := hide (owns_upd OW.out hzu (by simp))
            have SZ := hide s.size
            clear hz0 hzu hBz
            refine hK _ _ (.inr s) ?_
            clear hK K
            try simp only [Act.put, List.setIfInBounds_toArray, List.set_cons_succ, List.set_cons_zero]
            refine wpAnyZ_one 7 (by kernel_rfl) rfl rfl (fun K hK => ?_)
            try simp only [List.getElem_toArray, List.getElem_cons_succ, List.getElem_cons_zero]
            have hq := run_str (src_ownB OW.out)
            go_simp
            clear hq
            refine hK _ _ (.inr s) ?_
            clear hK K
            try simp only [Act.put, List.setIfInBounds_toArray, List.set_cons_succ, List.set_cons_zero]
            refine wpAnyZ_one 8 (by kernel_rfl) rfl rfl (fun K hK => ?_)
            try simp only [List.getElem_toArray, List.getElem_cons_succ, List.getElem_cons_zero]
            go_simp
            refine (rdk0_any (A := A) (B := B) (b := strOf (fr (recB ⟨k, slot, ⟨n, r⟩, bytes⟩))) wz (by rw [strOf_size]; omega)).mono ?_
            rintro e wt7 ⟨A', B', rfl, hdsz, hu8⟩
            rw [strOf_size] at hdsz
            have s := s.trans hu8
            have DSZ := hide hdsz
            have HZ := hide ((hu8).get HZ.out (by simp))
            have SZ := hide s.size
            clear hdsz hu8
            refine hK _ _ (.inr s) ?_
            clear hK K
            try simp only [Act.put, List.setIfInBounds_toArray, List.set_cons_succ, List.set_cons_zero]
            refine wpAnyZ_takeE 9 rfl (by kernel_rfl) (by kernel_rfl) (by kernel_rfl) (by kernel_rfl) (fun _ _ _ _ h => h) rfl (by exact s) ?_
            apply Exists.intro
            refine ⟨fun wx hS => ?_, ?_⟩
            · go_simp; rfl
            simp only [Act.put, List.setIfInBounds_toArray, List.set_cons_succ, List.set_cons_zero, List.getElem_toArray, List.getElem_cons_succ, List.getElem_cons_zero]
            refine wpAnyZ_takeE 10 rfl (by kernel_rfl) (by kernel_rfl) (by kernel_rfl) (by kernel_rfl) (fun _ _ _ _ h => h) rfl (by exact s) ?_
            apply Exists.intro
            refine ⟨fun wx hS => ?_, ?_⟩
            · go_simp; rfl
            simp only [Act.put, List.setIfInBounds_toArray, List.set_cons_succ, List.set_cons_zero, List.getElem_toArray, List.getElem_cons_succ, List.getElem_cons_zero]
            refine wpAnyZ_takeE 11 rfl (by kernel_rfl) (by kernel_rfl) (by kernel_rfl) (by kernel_rfl) (fun _ _ _ _ h => h) rfl (by exact s) ?_
            apply Exists.intro
            refine ⟨fun wx hS => ?_, ?_⟩
            · go_simp; rfl
            simp only [Act.put, List.setIfInBounds_toArray, List.set_cons_succ, List.set_cons_zero, List.getElem_toArray, List.getElem_cons_succ, List.getElem_cons_zero]
            have e0 := blk_cell (i := 0) HZ.out rfl
            have e1 := blk_cell (i := 1) HZ.out rfl
            have e2 := blk_cell (i := 2) HZ.out rfl
            have e3 := blk_cell (i := 3) HZ.out rfl
            have g0 := blk_free (i := 0) HZ.out
            have g1 := blk_free (i := 1) HZ.out
            have g2 := blk_free (i := 2) HZ.out
            have g3 := blk_free (i := 3) HZ.out
            refine wpAnyZ_one 13 (by kernel_rfl) rfl rfl (fun K hK => ?_)
            try simp only [List.getElem_toArray, List.getElem_cons_succ, List.getElem_cons_zero]
            go_simp
            have s := set4_upd (a' := .string A') (b' := .string B') (c' := .bool false) (d' := .int .i64 (-1)) s (.inr HZS.out)
            refine hK _ _ (.inr s) ?_
            clear hK K
            try simp only [Act.put, List.setIfInBounds_toArray, List.set_cons_succ, List.set_cons_zero]
            refine wpAnyZ_takeE 14 rfl (by kernel_rfl) (by kernel_rfl) (by kernel_rfl) (by kernel_rfl) (fun _ _ _ _ h => h) rfl (by exact s) ?_
            apply Exists.intro
            refine ⟨fun wx hS => ?_, ?_⟩
            · go_simp; rfl
            simp only [Act.put, List.setIfInBounds_toArray, List.set_cons_succ, List.set_cons_zero, List.getElem_toArray, List.getElem_cons_succ, List.getElem_cons_zero]
            refine wpAnyZ_done (by kernel_rfl) ?_ _
            go_wp2_with fail
            go_meet
            exact ⟨Bz, A', B', rfl, rfl, set4_blk HZ.out, by have := DSZ.out; omega, s, HZS.out⟩
        · skip
          try simp only [List.getElem_toArray, List.getElem_cons_succ, List.getElem_cons_zero]
          have hz0 := blk_new wt1 dk0
          have hzu := (Upd.refl [] wt1).alloc dk0
          go_simp
          obtain ⟨Bz, hBz⟩ : ∃ Bz, wt1.heap.size = Bz := ⟨_, rfl⟩
          rw [hBz] at hz0 ⊢
          have s := s.trans hzu
          generalize wt1.alloc dk0 = wz at *
          have HZ := hide hz0
          have HZS := hide (show w3.heap.size ≤ Bz by have := SZ.out; omega)
          have OW := hide (owns_upd OW.out hzu (by simp))
          have SZ := hide s.size
          clear hz0 hzu hBz
          refine hK _ _ (.inr s) ?_
          clear hK K
          try simp only [Act.put, List.setIfInBounds_toArray, List.set_cons_succ, List.set_cons_zero]
          refine wpAnyZ_one 6 (by kernel_rfl) rfl rfl (fun K hK => ?_)
          try simp only [List.getElem_toArray, List.getElem_cons_succ, List.getElem_cons_zero]
          go_simp
          refine (Ref.frame_any wz (src_ownB OW.out) (by have := hrl; omega)).mono ?_
          rintro e wt8 ⟨v6, a6, q6, rfl, rfl, ho6, hu6⟩
          have s := s.trans hu6
          have OW := hide ho6
          have HZ := hide ((hu6).get HZ.out (by simp))
          have SZ := hide s.size
          clear ho6 hu6
          refine hK _ _ (.inr s) ?_
          clear hK K
          try simp only [Act.put, List.setIfInBounds_toArray, List.set_cons_succ, List.set_cons_zero]
          refine wpAnyZ_one 7 (by kernel_rfl) rfl rfl (fun K hK => ?_)
          try simp only [List.getElem_toArray, List.getElem_cons_succ, List.getElem_cons_zero]
          have hq := run_str (src_ownB OW.out)
          go_simp
          clear hq
          refine hK _ _ (.inr s) ?_
          clear hK K
          try simp only [Act.put, List.setIfInBounds_toArray, List.set_cons_succ, List.set_cons_zero]
          refine wpAnyZ_one 8 (by kernel_rfl) rfl rfl (fun K hK => ?_)
          try simp only [List.getElem_toArray, List.getElem_cons_succ, List.getElem_cons_zero]
          go_simp
          refine (rdk0_any (A := A) (B := B) (b := strOf (fr (recB ⟨k, slot, ⟨n, r⟩, bytes⟩))) wt8 (by rw [strOf_size]; omega)).mono ?_
          rintro e wt10 ⟨A', B', rfl, hdsz, hu8⟩
          rw [strOf_size] at hdsz
          have s := s.trans hu8
          have DSZ := hide hdsz
          have HZ := hide ((hu8).get HZ.out (by simp))
          have SZ := hide s.size
          clear hdsz hu8
          refine hK _ _ (.inr s) ?_
          clear hK K
          try simp only [Act.put, List.setIfInBounds_toArray, List.set_cons_succ, List.set_cons_zero]
          refine wpAnyZ_takeE 9 rfl (by kernel_rfl) (by kernel_rfl) (by kernel_rfl) (by kernel_rfl) (fun _ _ _ _ h => h) rfl (by exact s) ?_
          apply Exists.intro
          refine ⟨fun wx hS => ?_, ?_⟩
          · go_simp; rfl
          simp only [Act.put, List.setIfInBounds_toArray, List.set_cons_succ, List.set_cons_zero, List.getElem_toArray, List.getElem_cons_succ, List.getElem_cons_zero]
          refine wpAnyZ_takeE 10 rfl (by kernel_rfl) (by kernel_rfl) (by kernel_rfl) (by kernel_rfl) (fun _ _ _ _ h => h) rfl (by exact s) ?_
          apply Exists.intro
          refine ⟨fun wx hS => ?_, ?_⟩
          · go_simp; rfl
          simp only [Act.put, List.setIfInBounds_toArray, List.set_cons_succ, List.set_cons_zero, List.getElem_toArray, List.getElem_cons_succ, List.getElem_cons_zero]
          refine wpAnyZ_takeE 11 rfl (by kernel_rfl) (by kernel_rfl) (by kernel_rfl) (by kernel_rfl) (fun _ _ _ _ h => h) rfl (by exact s) ?_
          apply Exists.intro
          refine ⟨fun wx hS => ?_, ?_⟩
          · go_simp; rfl
          simp only [Act.put, List.setIfInBounds_toArray, List.set_cons_succ, List.set_cons_zero, List.getElem_toArray, List.getElem_cons_succ, List.getElem_cons_zero]
          have e0 := blk_cell (i := 0) HZ.out rfl
          have e1 := blk_cell (i := 1) HZ.out rfl
          have e2 := blk_cell (i := 2) HZ.out rfl
          have e3 := blk_cell (i := 3) HZ.out rfl
          have g0 := blk_free (i := 0) HZ.out
          have g1 := blk_free (i := 1) HZ.out
          have g2 := blk_free (i := 2) HZ.out
          have g3 := blk_free (i := 3) HZ.out
          refine wpAnyZ_one 13 (by kernel_rfl) rfl rfl (fun K hK => ?_)
          try simp only [List.getElem_toArray, List.getElem_cons_succ, List.getElem_cons_zero]
          go_simp
          have s := set4_upd (a' := .string A') (b' := .string B') (c' := .bool false) (d' := .int .i64 (-1)) s (.inr HZS.out)
          refine hK _ _ (.inr s) ?_
          clear hK K
          try simp only [Act.put, List.setIfInBounds_toArray, List.set_cons_succ, List.set_cons_zero]
          refine wpAnyZ_takeE 14 rfl (by kernel_rfl) (by kernel_rfl) (by kernel_rfl) (by kernel_rfl) (fun _ _ _ _ h => h) rfl (by exact s) ?_
          apply Exists.intro
          refine ⟨fun wx hS => ?_, ?_⟩
          · go_simp; rfl
          simp only [Act.put, List.setIfInBounds_toArray, List.set_cons_succ, List.set_cons_zero, List.getElem_toArray, List.getElem_cons_succ, List.getElem_cons_zero]
          refine wpAnyZ_done (by kernel_rfl) ?_ _
          go_wp2_with fail
          go_meet
          exact ⟨Bz, A', B', rfl, rfl, set4_blk HZ.out, by have := DSZ.out; omega, s, HZS.out⟩
      · skip
        try simp only [List.getElem_toArray, List.getElem_cons_succ, List.getElem_cons_zero]
        have hz0 := blk_new wd dk0
        have hzu := (Upd.refl [] wd).alloc dk0
        go_simp
        obtain ⟨Bz, hBz⟩ : ∃ Bz, wd.heap.size = Bz := ⟨_, rfl⟩
        rw [hBz] at hz0 ⊢
        have s := s.trans hzu
        generalize wd.alloc dk0 = wz at *
        have HZ := hide hz0
        have HZS := hide (show w3.heap.size ≤ Bz by have := SZ.out; omega)
        have SZ := hide s.size
        clear hz0 hzu hBz
        refine hK _ _ (.inr s) ?_
        clear hK K
        try simp only [Act.put, List.setIfInBounds_toArray, List.set_cons_succ, List.set_cons_zero]
        refine wpAnyZ_one 5 (by kernel_rfl) rfl rfl (fun K hK => ?_)
        try simp only [List.getElem_toArray, List.getElem_cons_succ, List.getElem_cons_zero]
        go_simp
        refine (rsbytes_any (x := ⟨k, slot, ⟨n, r⟩, bytes⟩) wz hx hbal).mono ?_
        rintro e wt11 ⟨v5, rfl, m5⟩
        obtain ⟨a5, q5, rfl⟩ := m5.slice
        have hu5 := m5.upd
        have s := s.trans hu5
        have OW := hide m5.own
        have HZ := hide ((hu5).get HZ.out (by simp))
        have SZ := hide s.size
        clear m5 hu5
        refine hK _ _ (.inr s) ?_
        clear hK K
        try simp only [Act.put, List.setIfInBounds_toArray, List.set_cons_succ, List.set_cons_zero]
        refine wpAnyZ_one 6 (by kernel_rfl) rfl rfl (fun K hK => ?_)
        try simp only [List.getElem_toArray, List.getElem_cons_succ, List.getElem_cons_zero]
        go_simp
        refine (Ref.frame_any wt11 (src_ownB OW.out) (by have := hrl; omega)).mono ?_
        rintro e wt12 ⟨v6, a6, q6, rfl, rfl, ho6, hu6⟩
        have s := s.trans hu6
        have OW := hide ho6
        have HZ := hide ((hu6).get HZ.out (by simp))
        have SZ := hide s.size
        clear ho6 hu6
        refine hK _ _ (.inr s) ?_
        clear hK K
        try simp only [Act.put, List.setIfInBounds_toArray, List.set_cons_succ, List.set_cons_zero]
        refine wpAnyZ_one 7 (by kernel_rfl) rfl rfl (fun K hK => ?_)
        try simp only [List.getElem_toArray, List.getElem_cons_succ, List.getElem_cons_zero]
        have hq := run_str (src_ownB OW.out)
        go_simp
        clear hq
        refine hK _ _ (.inr s) ?_
        clear hK K
        try simp only [Act.put, List.setIfInBounds_toArray, List.set_cons_succ, List.set_cons_zero]
        refine wpAnyZ_one 8 (by kernel_rfl) rfl rfl (fun K hK => ?_)
        try simp only [List.getElem_toArray, List.getElem_cons_succ, List.getElem_cons_zero]
        go_simp
        refine (rdk0_any (A := A) (B := B) (b := strOf (fr (recB ⟨k, slot, ⟨n, r⟩, bytes⟩))) wt12 (by rw [strOf_size]; omega)).mono ?_
        rintro e wt14 ⟨A', B', rfl, hdsz, hu8⟩
        rw [strOf_size] at hdsz
        have s := s.trans hu8
        have DSZ := hide hdsz
        have HZ := hide ((hu8).get HZ.out (by simp))
        have SZ := hide s.size
        clear hdsz hu8
        refine hK _ _ (.inr s) ?_
        clear hK K
        try simp only [Act.put, List.setIfInBounds_toArray, List.set_cons_succ, List.set_cons_zero]
        refine wpAnyZ_takeE 9 rfl (by kernel_rfl) (by kernel_rfl) (by kernel_rfl) (by kernel_rfl) (fun _ _ _ _ h => h) rfl (by exact s) ?_
        apply Exists.intro
        refine ⟨fun wx hS => ?_, ?_⟩
        · go_simp; rfl
        simp only [Act.put, List.setIfInBounds_toArray, List.set_cons_succ, List.set_cons_zero, List.getElem_toArray, List.getElem_cons_succ, List.getElem_cons_zero]
        refine wpAnyZ_takeE 10 rfl (by kernel_rfl) (by kernel_rfl) (by kernel_rfl) (by kernel_rfl) (fun _ _ _ _ h => h) rfl (by exact s) ?_
        apply Exists.intro
        refine ⟨fun wx hS => ?_, ?_⟩
        · go_simp; rfl
        simp only [Act.put, List.setIfInBounds_toArray, List.set_cons_succ, List.set_cons_zero, List.getElem_toArray, List.getElem_cons_succ, List.getElem_cons_zero]
        refine wpAnyZ_takeE 11 rfl (by kernel_rfl) (by kernel_rfl) (by kernel_rfl) (by kernel_rfl) (fun _ _ _ _ h => h) rfl (by exact s) ?_
        apply Exists.intro
        refine ⟨fun wx hS => ?_, ?_⟩
        · go_simp; rfl
        simp only [Act.put, List.setIfInBounds_toArray, List.set_cons_succ, List.set_cons_zero, List.getElem_toArray, List.getElem_cons_succ, List.getElem_cons_zero]
        have e0 := blk_cell (i := 0) HZ.out rfl
        have e1 := blk_cell (i := 1) HZ.out rfl
        have e2 := blk_cell (i := 2) HZ.out rfl
        have e3 := blk_cell (i := 3) HZ.out rfl
        have g0 := blk_free (i := 0) HZ.out
        have g1 := blk_free (i := 1) HZ.out
        have g2 := blk_free (i := 2) HZ.out
        have g3 := blk_free (i := 3) HZ.out
        refine wpAnyZ_one 13 (by kernel_rfl) rfl rfl (fun K hK => ?_)
        try simp only [List.getElem_toArray, List.getElem_cons_succ, List.getElem_cons_zero]
        go_simp
        have s := set4_upd (a' := .string A') (b' := .string B') (c' := .bool false) (d' := .int .i64 (-1)) s (.inr HZS.out)
        refine hK _ _ (.inr s) ?_
        clear hK K
        try simp only [Act.put, List.setIfInBounds_toArray, List.set_cons_succ, List.set_cons_zero]
        refine wpAnyZ_takeE 14 rfl (by kernel_rfl) (by kernel_rfl) (by kernel_rfl) (by kernel_rfl) (fun _ _ _ _ h => h) rfl (by exact s) ?_
        apply Exists.intro
        refine ⟨fun wx hS => ?_, ?_⟩
        · go_simp; rfl
        simp only [Act.put, List.setIfInBounds_toArray, List.set_cons_succ, List.set_cons_zero, List.getElem_toArray, List.getElem_cons_succ, List.getElem_cons_zero]
        refine wpAnyZ_done (by kernel_rfl) ?_ _
        go_wp2_with fail
        go_meet
        exact ⟨Bz, A', B', rfl, rfl, set4_blk HZ.out, by have := DSZ.out; omega, s, HZS.out⟩
    case rest =>
    obtain ⟨Bz, A', B', rfl, rfl, hbz, hsz, hu, hBz⟩ := hcut
    rename World => w4
    have hp4 := hu.get HP.out (by simp)
    have e0 := blk_cell (i := 0) hbz rfl
    have e1 := blk_cell (i := 1) hbz rfl
    have e2 := blk_cell (i := 2) hbz rfl
    have e3 := blk_cell (i := 3) hbz rfl
    have p2 := blk_cell (i := 2) hp4 rfl
    have p3 := blk_cell (i := 3) hp4 rfl
    have p4 := blk_cell (i := 4) hp4 rfl
    have p5 := blk_cell (i := 5) hp4 rfl
    have g2 := blk_free (i := 2) hp4
    have g3 := blk_free (i := 3) hp4
    have g4 := blk_free (i := 4) hp4
    have g5 := blk_free (i := 5) hp4
    have HFB := hide (show ((((w4.setCell ⟨P, 2, none⟩ (.string A')).setCell ⟨P, 3, none⟩ (.string B')).setCell ⟨P, 4, none⟩ (.bool false)).setCell ⟨P, 5, none⟩ (.int .i64 (-1))).heap[P]? = some (pairO D S A' B' s (.slice vo s.votes.length vc)) from blk_set (blk_set (blk_set (blk_set hp4 _) _) _) _)
    have HFU := hide ((((((hu.mono (by simp) : Upd [P] w3 w4).setCell (p := ⟨P, 2, none⟩) (.inl (by simp)) (.string A')).setCell (p := ⟨P, 3, none⟩) (.inl (by simp)) (.string B')).setCell (p := ⟨P, 4, none⟩) (.inl (by simp)) (.bool false)).setCell (p := ⟨P, 5, none⟩) (.inl (by simp)) (.int .i64 (-1))))
    clear hbz hp4 hu
    go_upto_region 9 with fail
    generalize (((w4.setCell ⟨P, 2, none⟩ (.string A')).setCell ⟨P, 3, none⟩ (.string B')).setCell ⟨P, 4, none⟩ (.bool false)).setCell ⟨P, 5, none⟩ (.int .i64 (-1)) = w5 at *
    have HX5 := hide (HFU.out.get HX.out (by simp; omega))
    have HP5 := HFB
    have UP5 := hide ((U3.out.mono (by simp)).trans HFU.out)
    have hr5 := Row.upd R0.out UP5.out (by simpa using hT) (fun _ _ _ h => h)
    have R5 := hide hr5
    have hz5 := UP5.out.size
    have hbx := HBX.out
    clear e0 e1 e2 e3 p2 p3 p4 p5 g2 g3 g4 g5 hr5 HX HP HFB
    have HX := HX5; have HP := HP5
    have s9 : Upd [] w5 (w5.drewN 1) := (Upd.refl [] w5).drewN 1
    refine wp_region_z (fun wx => Upd [] w5 wx) 9 (by kernel_rfl) ?_
    generalize w5.drewN 1 = w6 at *
    refine wpAnyZ_takeE 0 rfl (by kernel_rfl) (by kernel_rfl) (by kernel_rfl) (by kernel_rfl) (fun _ _ _ _ h => h) rfl (by exact s9) ?_
    apply Exists.intro
    refine ⟨fun wx hS => ?_, ?_⟩
    · go_simp; rfl
    simp only [Act.put, List.setIfInBounds_toArray, List.set_cons_succ, List.set_cons_zero, List.getElem_toArray, List.getElem_cons_zero]
    refine wpAnyZ_takeE 1 rfl (by kernel_rfl) (by kernel_rfl) (by kernel_rfl) (by kernel_rfl) (fun _ _ _ _ h => h) rfl (by exact s9) ?_
    apply Exists.intro
    refine ⟨fun wx hS => ?_, ?_⟩
    · go_simp; rfl
    simp only [Act.put, List.setIfInBounds_toArray, List.set_cons_succ, List.set_cons_zero, List.getElem_toArray, List.getElem_cons_succ, List.getElem_cons_zero]
    refine wpAnyZ_takeE 2 rfl (by kernel_rfl) (by kernel_rfl) (by kernel_rfl) (by kernel_rfl) (fun _ _ _ _ h => h) rfl (by exact s9) ?_
    apply Exists.intro
    refine ⟨fun wx hS => ?_, ?_⟩
    · go_simp; rfl
    simp only [Act.put, List.setIfInBounds_toArray, List.set_cons_succ, List.set_cons_zero, List.getElem_toArray, List.getElem_cons_succ, List.getElem_cons_zero]
    refine wpAnyZ_takeE 3 rfl (by kernel_rfl) (by kernel_rfl) (by kernel_rfl) (by kernel_rfl) (fun _ _ _ _ h => h) rfl (by exact s9) ?_
    apply Exists.intro
    refine ⟨fun wx hS => ?_, ?_⟩
    · go_simp; rfl
    simp only [Act.put, List.setIfInBounds_toArray, List.set_cons_succ, List.set_cons_zero, List.getElem_toArray, List.getElem_cons_succ, List.getElem_cons_zero]
    refine wpAnyZ_takeE 4 rfl (by kernel_rfl) (by kernel_rfl) (by kernel_rfl) (by kernel_rfl) (fun _ _ _ _ h => h) rfl (by exact s9) ?_
    apply Exists.intro
    refine ⟨fun wx hS => ?_, ?_⟩
    · have p6 := Rec.cell_keep hS (blk_cell (i := 6) HP.out rfl) (by simp);have p7 := Rec.cell_keep hS (blk_cell (i := 7) HP.out rfl) (by simp);have p8 := Rec.cell_keep hS (blk_cell (i := 8) HP.out rfl) (by simp);have p9 := Rec.cell_keep hS (blk_cell (i := 9) HP.out rfl) (by simp);have p10 := Rec.cell_keep hS (blk_cell (i := 10) HP.out rfl) (by simp); go_simp; rfl
    simp only [Act.put, List.setIfInBounds_toArray, List.set_cons_succ, List.set_cons_zero, List.getElem_toArray, List.getElem_cons_succ, List.getElem_cons_zero]
    refine wpAnyZ_takeE 5 rfl (by kernel_rfl) (by kernel_rfl) (by kernel_rfl) (by kernel_rfl) (fun _ _ _ _ h => h) rfl (by exact s9) ?_
    apply Exists.intro
    refine ⟨fun wx hS => ?_, ?_⟩
    · have x0 := Rec.cell_keep hS (blk_cell (i := 0) HX.out rfl) (by simp);have x1 := Rec.cell_keep hS (blk_cell (i := 1) HX.out rfl) (by simp);have x2 := Rec.cell_keep hS (blk_cell (i := 2) HX.out rfl) (by simp);have x3 := Rec.cell_keep hS (blk_cell (i := 3) HX.out rfl) (by simp);have x4 := Rec.cell_keep hS (blk_cell (i := 4) HX.out rfl) (by simp); go_simp; rfl
    simp only [Act.put, List.setIfInBounds_toArray, List.set_cons_succ, List.set_cons_zero, List.getElem_toArray, List.getElem_cons_succ, List.getElem_cons_zero]
    refine wpAnyZ_one 6 (by kernel_rfl) rfl rfl (fun K hK => ?_)
    try simp only [List.getElem_toArray, List.getElem_cons_succ, List.getElem_cons_zero]
    go_simp
    refine (rdo_any (x := ⟨k, slot, ⟨n, r⟩, bytes⟩) w6 hx (Row.upd R5.out s9 (by simp) (fun _ _ _ h => h)) SO.out.rise (by omega)).mono ?_
    rintro e w7 ⟨v', rfl, hrow, hu7⟩
    obtain ⟨fo, fc, rfl, -, -⟩ := Row.slice hrow
    obtain ⟨s', hs'⟩ : ∃ s', doM s ⟨k, slot, ⟨n, r⟩, bytes⟩ = s' := ⟨_, rfl⟩
    rw [hs'] at hrow ⊢
    have hz6 := s9.size
    have hz7 := hu7.size
    have s7 := s9.trans hu7
    have hp7 := s7.get HP.out (by simp)
    refine hK _ _ (.inr s7) ?_
    clear hK K
    try simp only [Act.put, List.setIfInBounds_toArray, List.set_cons_succ, List.set_cons_zero]
    refine wpAnyZ_one 7 (by kernel_rfl) rfl rfl (fun K hK => ?_)
    try simp only [List.getElem_toArray, List.getElem_cons_succ, List.getElem_cons_zero]
    go_simp
    refine hK _ _ (.inr s7) ?_
    clear hK K
    try simp only [Act.put, List.setIfInBounds_toArray, List.set_cons_succ, List.set_cons_zero]
    refine wpAnyZ_one 8 (by kernel_rfl) rfl rfl (fun K hK => ?_)
    try simp only [List.getElem_toArray, List.getElem_cons_succ, List.getElem_cons_zero]
    go_simp
    refine hK _ _ (.inr s7) ?_
    clear hK K
    try simp only [Act.put, List.setIfInBounds_toArray, List.set_cons_succ, List.set_cons_zero]
    have p6 := blk_cell (i := 6) hp7 rfl
    have p7 := blk_cell (i := 7) hp7 rfl
    have p8 := blk_cell (i := 8) hp7 rfl
    have p9 := blk_cell (i := 9) hp7 rfl
    have p10 := blk_cell (i := 10) hp7 rfl
    have g6 := blk_free (i := 6) hp7
    have g7 := blk_free (i := 7) hp7
    have g8 := blk_free (i := 8) hp7
    have g9 := blk_free (i := 9) hp7
    have g10 := blk_free (i := 10) hp7
    have hfb : (((((w7.setCell ⟨P, 6, none⟩ (.int .u64 (s'.prom.n : Int))).setCell ⟨P, 7, none⟩ (.int .i64 s'.prom.r)).setCell ⟨P, 8, none⟩ (.int .u64 (s'.base : Int))).setCell ⟨P, 9, none⟩ (.string (strOf s'.snap))).setCell ⟨P, 10, none⟩ (.slice fo s'.votes.length fc)).heap[P]? = some (pairO D S A' B' s' (.slice fo s'.votes.length fc)) := blk_set (blk_set (blk_set (blk_set (blk_set hp7 _) _) _) _) _
    have hset : Upd [P] w7 (((((w7.setCell ⟨P, 6, none⟩ (.int .u64 (s'.prom.n : Int))).setCell ⟨P, 7, none⟩ (.int .i64 s'.prom.r)).setCell ⟨P, 8, none⟩ (.int .u64 (s'.base : Int))).setCell ⟨P, 9, none⟩ (.string (strOf s'.snap))).setCell ⟨P, 10, none⟩ (.slice fo s'.votes.length fc)) := ((((((Upd.refl [P] w7).setCell (.inl (by simp)) _).setCell (.inl (by simp)) _).setCell (.inl (by simp)) _).setCell (.inl (by simp)) _).setCell (.inl (by simp)) _)
    refine wpAnyZ_one 9 (by kernel_rfl) rfl rfl (fun K hK => ?_)
    try simp only [List.getElem_toArray, List.getElem_cons_succ, List.getElem_cons_zero]
    go_simp
    generalize ((((w7.setCell ⟨P, 6, none⟩ (.int .u64 (s'.prom.n : Int))).setCell ⟨P, 7, none⟩ (.int .i64 s'.prom.r)).setCell ⟨P, 8, none⟩ (.int .u64 (s'.base : Int))).setCell ⟨P, 9, none⟩ (.string (strOf s'.snap))).setCell ⟨P, 10, none⟩ (.slice fo s'.votes.length fc) = w8 at *
    have hrow8 : Row w8 (since w.heap.size w8) 4 rvP (.slice fo s'.votes.length fc) s'.votes := Row.mono (Row.upd hrow hset (by intro j hj; simp only [List.mem_singleton] at hj; subst hj; intro hs; have := hs.1; omega) (fun _ _ _ h => h)) (fun j hj => ⟨by have := hj.1; omega, by have := hj.2; have := hset.size; omega⟩) (fun _ _ _ h => h)
    have hput : putM s ⟨k, slot, ⟨n, r⟩, bytes⟩ = s' := by unfold putM; rw [if_pos HM.out]; exact hs'
    have ROW8 := hide hrow8; have PUT := hide hput; have FB8 := hide hfb; have UF8 := hide ((UP5.out.trans (s7.mono (by simp))).trans hset)
    refine hK _ _ (.inl rfl) ?_
    clear hK K
    try simp only [Act.put, List.setIfInBounds_toArray, List.set_cons_succ, List.set_cons_zero]
    refine wpAnyZ_done (by kernel_rfl) ?_ _
    clear s9 s7 hrow hu7 hp7 p6 p7 p8 p9 p10 g6 g7 g8 g9 g10 hfb hset hrow8 hput hs'
    go_wp2_with fail
    go_ret
    refine ⟨by rw [HM.out]; rfl, UF8.out, A', B', .slice fo s'.votes.length fc, ?_, hsz, ?_, ?_⟩
    · rw [PUT.out]; exact FB8.out
    · intro h; exact absurd HM.out h
    · intro _; rw [PUT.out]; have := ROW8.out; rwa [HBX.out] at this
  · have q : ((m : Int) != 0) = true := by simp; omega
    have hput : putM s ⟨k, slot, ⟨n, r⟩, bytes⟩ = s := by unfold putM; rw [if_neg (by rw [HM.out]; exact hm0)]
    have PUT := hide hput
    have M0 := hide hm0
    clear hm0 hput
    go_wp2_with fail
    go_ret
    refine ⟨by rw [HM.out]; rfl, U3.out.mono (by simp), A, B, .slice vo s.votes.length vc, ?_, by omega, fun _ => rfl, fun h => absurd h (by rw [HM.out]; exact M0.out)⟩
    rw [PUT.out]; exact HP.out
end Go.Proofs.YtekbhfpdakhhkaaGreatDoor.St
