/- What a set makes of the document's state. -/
import Derived.Test.YtekbhfpdakhhkaaGreatDoorSdD
import Derived.Test.YtekbhfpdakhhkaaGreatDoorStVs
import Derived.Test.YtekbhfpdakhhkaaGreatDoorStRd
import Derived.Test.YtekbhfpdakhhkaaGreatDoorGenAll
import Derived.BigQuiet
namespace Go.Proofs.YtekbhfpdakhhkaaGreatDoor.St
set_option linter.unusedSimpArgs false
set_option linter.unusedVariables false
set_option linter.unnecessarySimpa false
open Go.RowKit Go.Lib Go.Proofs.YtekbhfpdakhhkaaGreatDoor.Crc Go.Proofs.YtekbhfpdakhhkaaGreatDoor.Var Go.Proofs.YtekbhfpdakhhkaaGreatDoor.DiskW

theorem infoRV : (Tryz.prog.info? 92).map (fun i => (i.zero, i.size, i.bytes)) = some (some (.agg #[.int .u64 0, .int .u64 0, .int .i64 0, .string ⟨#[]⟩]), 4, 40) := by kernel_rfl
/-- A vote of the document's, as cells. -/
abbrev rvC (p : Nat × Vo) : List Value := [.int .u64 (p.1 : Int), .int .u64 (p.2.b.n : Int), .int .i64 p.2.b.r, .string (strOf p.2.batch)]
def rvP (p : Nat × Vo) (cs : List Value) : Prop := cs = rvC p
theorem rv_get {w : World} {T : Nat → Prop} {v : Value} {l : List (Nat × Vo)} (h : Row w T 4 rvP v l) : ∃ (xo : Option Addr) (c : Nat), v = .slice xo l.length c ∧ l.length ≤ c ∧ c ≤ maxLen ∧
    ∀ i p, l[i]? = some p → ∃ b off, xo = some ⟨b, off, none⟩ ∧ T b ∧ b < w.heap.size ∧ w.cell? ⟨b, off + i * 4, none⟩ = some (.int .u64 (p.1 : Int)) ∧ w.cell? ⟨b, off + i * 4 + 1, none⟩ = some (.int .u64 (p.2.b.n : Int)) ∧ w.cell? ⟨b, off + i * 4 + 2, none⟩ = some (.int .i64 p.2.b.r) ∧ w.cell? ⟨b, off + i * 4 + 3, none⟩ = some (.string (strOf p.2.batch)) := by
  obtain ⟨xo, c, rfl, h1, h2, hg⟩ := Row.get (by decide) h
  refine ⟨xo, c, rfl, h1, h2, fun i p hi => ?_⟩
  obtain ⟨b, off, cs, rfl, hb, hT, rfl, -, hcell⟩ := hg i p hi
  exact ⟨b, off, rfl, hT, hb, hcell 0 _ rfl, hcell 1 _ rfl, hcell 2 _ rfl, hcell 3 _ rfl⟩
/-- A row that is being built, of votes. -/
abbrev OwnRv (w0 w : World) (v : Value) (l : List (Nat × Vo)) : Prop := Own w w0.heap.size 92 4 rvP v l
theorem rv_more {w : World} {base : Nat} {v' : Value} {n : Nat} {l : List (Nat × Vo)} {css : List (List Value)} {p : Nat × Vo} (h1 : Each rvP l css) (h2 : ∀ cs ∈ css, cs.length = 4 ∧ ∀ u ∈ cs, u.oneCell' = true) (hn : n = l.length + 1)
    (ho : w.ownsRow base 92 4 v' n (css.flatten ++ rvC p)) : Own w base 92 4 rvP v' (l ++ [p]) :=
  Own.more h1 h2 rfl rfl (by intro u hu; simp only [List.mem_cons, List.not_mem_nil, or_false] at hu; rcases hu with rfl | rfl | rfl | rfl <;> rfl) hn ho
theorem filter_take {X : Type} {f : X → Bool} {l : List X} {i : Nat} {p : X} (h : l[i]? = some p) : (l.take (i + 1)).filter f = (l.take i).filter f ++ (if f p then [p] else []) := by
  obtain ⟨hlt, rfl⟩ := List.getElem?_eq_some_iff.1 h
  rw [List.take_succ_eq_append_getElem hlt, List.filter_append, List.filter_cons, List.filter_nil]
theorem mfind_app {a b : List (Nat × Vo)} {k : Nat} : mfind (a ++ b) k = match mfind a k with | some v => some v | none => mfind b k := by
  induction a with
  | nil => rfl
  | cons p a ih =>
    rw [List.cons_append, mfind_cons, mfind_cons, ih]
    by_cases e : p.1 = k
    · rw [if_pos e, if_pos e]
    · rw [if_neg e, if_neg e]
theorem mput_parts {vs : List (Nat × Vo)} (h : Rise slotK vs) (k : Nat) (v : Vo) : mput slotK vs k v = (vs.filter fun p => decide (p.1 < k)) ++ [(k, v)] ++ vs.filter fun p => decide (k < p.1) := by
  refine rise_ext (rise_put h) ?_ fun j => ?_
  · refine List.pairwise_append.2 ⟨List.pairwise_append.2 ⟨h.filter _, List.pairwise_singleton _ _, fun a ha b hb => ?_⟩, h.filter _, fun a ha b hb => ?_⟩
    · simp only [List.mem_singleton] at hb
      subst hb
      have := (List.mem_filter.1 ha).2
      rw [slot_lt]
      exact this
    · have hb' := (List.mem_filter.1 hb).2
      rw [slot_lt]
      simp only [decide_eq_true_eq] at hb' ⊢
      rcases List.mem_append.1 ha with ha | ha
      · have := (List.mem_filter.1 ha).2
        simp only [decide_eq_true_eq] at this
        omega
      · simp only [List.mem_singleton] at ha
        subst ha
        exact hb'
  · rw [mfind_put, mfind_app, mfind_app, mfind_filter (f := fun q => decide (q < k)), mfind_filter (f := fun q => decide (k < q)), mfind_cons, mfind_nil]
    by_cases hjk : j = k
    · subst hjk
      simp
    · rw [if_neg hjk, if_neg (fun e : k = j => hjk e.symm)]
      by_cases hlt : j < k
      · rw [if_pos (by simpa using hlt), if_neg (by simp; omega)]
        cases mfind vs j <;> rfl
      · rw [if_neg (by simpa using hlt), if_pos (by simp; omega)]
abbrev zSt : Obj := .cells #[.int .u64 0, .int .i64 0, .int .u64 0, .string ⟨#[]⟩, .slice none 0 0] 36
def DoneSt (w : World) (s : Sto) (e : Ending) (w' : World) : Prop := ∃ v, e = .returned (rstV s.prom.n s.prom.r s.base (strOf s.snap) v) ∧ Row w' (since w.heap.size w') 4 rvP v s.votes ∧ Upd [] w w'
theorem row_since {w0 w W : World} {base : Nat} {v : Value} {l : List (Nat × Vo)} {Y : List Nat} {ty : TypeId} (h : Own w base ty 4 rvP v l) (hu : Upd Y w W) (hY : ∀ k ∈ Y, k < base) (hb : w0.heap.size ≤ base) : Row W (since w0.heap.size W) 4 rvP v l :=
  Row.mono (Own.row (h.upd hu (fun k hk hm => by have := (h.lt k hk).1; have := hY k hm; omega) (fun _ _ _ h => h))) (fun k hk => ⟨by have := (h.lt k hk).1; omega, by have := (h.lt k hk).2; have := hu.size; omega⟩) (fun _ _ _ h => h)
theorem st_ends {fn : Func} {w W : World} {R0 : Nat} {s : Sto} {v : Value} {p : Tmp} {a : Act} (hfn : fn.results = #[.cell p 36]) (hp : a.tmps.getD p undef = .pointer (some ⟨R0, 0, none⟩)) (hd : a.defers = [])
    (hB : W.heap[R0]? = some (rstO s.prom.n s.prom.r s.base (strOf s.snap) v)) (hr : Row W (since w.heap.size W) 4 rvP v s.votes) (hu : Upd [] w W) : bodyPost Tryz.prog fn (DoneSt w s) .ret a W := by
  have c0 : W.cell? ⟨R0, 0, none⟩ = some (.int .u64 (s.prom.n : Int)) := blk_cell hB rfl
  have c1 : W.cell? ⟨R0, 1, none⟩ = some (.int .i64 s.prom.r) := blk_cell hB rfl
  have c2 : W.cell? ⟨R0, 2, none⟩ = some (.int .u64 (s.base : Int)) := blk_cell hB rfl
  have c3 : W.cell? ⟨R0, 3, none⟩ = some (.string (strOf s.snap)) := blk_cell hB rfl
  have c4 : W.cell? ⟨R0, 4, none⟩ = some v := blk_cell hB rfl
  obtain ⟨xo, xc, rfl, -, -⟩ := Row.slice hr
  refine bodyPost_ret (v := rstV s.prom.n s.prom.r s.base (strOf s.snap) (.slice xo s.votes.length xc)) ?_ hd ⟨_, rfl, hr, hu⟩
  rw [results_cell1 hfn, hp]
  go_simp
set_option maxRecDepth 100000 in
set_option maxHeartbeats 8000000 in
theorem rdo1 {T : Nat → Prop} {s : Sto} {v : Value} {slot n : Nat} {r : Int} {bytes : List UInt8} (w : World) (h : Row w T 4 rvP v s.votes) (hri : Rise slotK s.votes) (hl : s.votes.length ≤ 1000) :
    Calls Tryz.prog 47 #[rstV s.prom.n s.prom.r s.base (strOf s.snap) v, .agg #[.int .i64 1, .int .u64 (slot : Int), .int .u64 (n : Int), .int .i64 r, .string (strOf bytes)]] w (DoneSt w (doM s ⟨1, slot, ⟨n, r⟩, bytes⟩)) := by
  obtain ⟨vo, vc, rfl, hvc1, hvc2, hvg⟩ := rv_get h
  have VG := hide hvg
  obtain ⟨iv, hiv, iv0, iv1, iv2⟩ := partsB infoRV
  simp only [maxLen] at hvc2
  clear h hvg
  have hB0 := blk_alloc (blk_alloc (blk_new w (rstO n r s.base (strOf s.snap) (.slice vo s.votes.length vc))) (.cells #[.int .i64 1, .int .u64 (slot : Int), .int .u64 (n : Int), .int .i64 r, .string (strOf bytes)] 51)) zSt
  have hB1 := blk_alloc (blk_new (w.alloc (rstO n r s.base (strOf s.snap) (.slice vo s.votes.length vc))) (.cells #[.int .i64 1, .int .u64 (slot : Int), .int .u64 (n : Int), .int .i64 r, .string (strOf bytes)] 51)) zSt
  have hB2 := blk_new ((w.alloc (rstO n r s.base (strOf s.snap) (.slice vo s.votes.length vc))).alloc (.cells #[.int .i64 1, .int .u64 (slot : Int), .int .u64 (n : Int), .int .i64 r, .string (strOf bytes)] 51)) zSt
  have hu2 := (((Upd.refl [] w).alloc (rstO n r s.base (strOf s.snap) (.slice vo s.votes.length vc))).alloc (.cells #[.int .i64 1, .int .u64 (slot : Int), .int .u64 (n : Int), .int .i64 r, .string (strOf bytes)] 51)).alloc zSt
  have hsz2 : (((w.alloc (rstO n r s.base (strOf s.snap) (.slice vo s.votes.length vc))).alloc (.cells #[.int .i64 1, .int .u64 (slot : Int), .int .u64 (n : Int), .int .i64 r, .string (strOf bytes)] 51)).alloc zSt).heap.size = w.heap.size + 3 := by simp
  simp only [World.size_alloc] at hB1 hB2
  rw [show doM s ⟨1, slot, ⟨n, r⟩, bytes⟩ = { s with prom := ⟨n, r⟩ } from rfl]
  have RI := hide hri
  clear hri
  go_enter Tryz.func47, Tryz.ntmps47
  go_wp2_with fail
  generalize ((w.alloc (rstO n r s.base (strOf s.snap) (.slice vo s.votes.length vc))).alloc (.cells #[.int .i64 1, .int .u64 (slot : Int), .int .u64 (n : Int), .int .i64 r, .string (strOf bytes)] 51)).alloc zSt = w2 at *
  obtain ⟨B, hBn⟩ : ∃ B, w.heap.size = B := ⟨_, rfl⟩
  rw [hBn] at hB0 hB1 hB2 hsz2 ⊢
  have HB0 := hide hB0; have HB1 := hide hB1; have HB2 := hide hB2; have U2 := hide hu2; have HBN := hide hBn; have HSZ := hide hsz2
  clear hB0 hB1 hB2 hu2 hBn hsz2
  go_loopw [5, 6] (fun s5 si wr => ∃ i : Nat, i ≤ s.votes.length ∧ si = .int .i64 i ∧ Upd [] w2 wr ∧ Own wr w2.heap.size 92 4 rvP s5 ((s.votes.take i).filter (fun _ => true))) (fun _ si _ => s.votes.length - (intOf si).toNat)
  case atStart => exact ⟨0, by omega, rfl, Upd.refl _ _, Own.nil _ _ _ _ _⟩
  case round =>
    obtain ⟨i, hi, rfl, hur, hown⟩ := hrel
    rename World => wr0
    have UR := hide hur; have HOWN := hide hown
    clear hur hown
    have b4 : wr0.cell? ⟨B, 4, none⟩ = some (.slice vo s.votes.length vc) := Rec.cell_keep UR.out (blk_cell HB0.out rfl) (by simp)
    by_cases hlt : i < s.votes.length
    · have d5 : decide ((i : Int) < (s.votes.length : Int)) = true := by simp; omega
      have d5' : decide (i < s.votes.length) = true := by simpa using hlt
      obtain ⟨p, hp⟩ : ∃ p, s.votes[i]? = some p := ⟨_, List.getElem?_eq_getElem hlt⟩
      obtain ⟨b, off, rfl, -, hbz, c0, c1, c2, c3⟩ := VG.out i p hp
      have C0 := hide c0; have C1 := hide c1; have C2 := hide c2; have C3 := hide c3
      have FT := hide (filter_take (f := fun _ => true) hp)
      clear c0 c1 c2 c3 hp
      have c0 := Rec.cell_keep (U2.out.trans UR.out) C0.out (by simp)
      have x0 : wr0.cell? ⟨B + 1, 0, none⟩ = some (.int .i64 1) := Rec.cell_keep UR.out (blk_cell HB1.out rfl) (by simp)
      have x1 : wr0.cell? ⟨B + 1, 1, none⟩ = some (.int .u64 (slot : Int)) := Rec.cell_keep UR.out (blk_cell HB1.out rfl) (by simp)
      have FC := hide (show (if (fun _ : Nat × Vo => true) p then [p] else []) = [p] from rfl)
      go_wp2_with fail
      go_quiet (fail)
      have U3R := hide ((Upd.refl [] wr0).drewN nq)
      have U3 := hide (UR.out.drewN nq)
      generalize wr0.drewN nq = w3 at *
      clear b4 c0 x0 x1
      obtain ⟨css, hcss, hc4, hown⟩ := Own.upd HOWN.out U3R.out (by simp) (fun _ _ _ h => h)
      obtain ⟨Lq, hLq⟩ : ∃ Lq, ((s.votes.take i).filter (fun _ => true)).length = Lq := ⟨_, rfl⟩
      rw [hLq] at hown
      obtain ⟨ao, cap, rfl, -, -, -⟩ := owns_slice hown
      have hra : Upd [] w3 (w3.alloc (.cells (rvC p).toArray 92)) := (Upd.refl [] w3).alloc _
      have hown2 := owns_upd hown hra (by simp)
      have hLb : Lq ≤ 2000 := by rw [← hLq]; have h9 := List.length_filter_le (fun _ => true) (s.votes.take i); simp only [List.length_take] at h9; omega
      have hz3 := U3.out.size
      have HCSS := hide hcss; have HC4 := hide hc4; have HROW := hide hown2; have HRA := hide hra; have HLQ := hide hLq
      clear hcss hc4 hown hown2 hra hLq
      have b4 : w3.cell? ⟨B, 4, none⟩ = some (.slice (some ⟨b, off, none⟩) s.votes.length vc) := Rec.cell_keep U3.out (blk_cell HB0.out rfl) (by simp)
      have c0 := Rec.cell_keep (U2.out.trans U3.out) C0.out (by simp)
      have c1 := Rec.cell_keep (U2.out.trans U3.out) C1.out (by simp)
      have c2 := Rec.cell_keep (U2.out.trans U3.out) C2.out (by simp)
      have c3 := Rec.cell_keep (U2.out.trans U3.out) C3.out (by simp)
      go_wp2_with (at_builtin; go_must (refine wpList_append_src _ rfl _ _ 34 rfl w2.heap.size 92 iv (.agg #[.int .u64 0, .int .u64 0, .int .i64 0, .string ⟨#[]⟩]) 4 40 Tryz.underlying34 hiv iv0 iv1 iv2 rfl (by decide) (.slice ao Lq cap) Lq css.flatten rfl HROW.out (some ⟨w3.heap.size, 0, none⟩) 1 1 (rvC p) rfl (src_row (blk_new _ _) rfl (by intro u hu; simp only [List.mem_cons, List.not_mem_nil, or_false] at hu; rcases hu with rfl | rfl | rfl | rfl <;> rfl)) (by unfold maxLen; omega) (by omega) (by simp; omega) ?_))
      intro ao6 cap6 w6 hown6 hU6 hn6
      have hrow6 := rv_more (p := p) HCSS.out HC4.out (by rw [HLQ.out]) hown6
      have hu6 : Upd [] w2 w6 := (U3.out.trans HRA.out).trans_new hU6 (fun g hm => .inr (owns_lt HROW.out g (by simpa using hm)).1)
      have HOWN6 := hide hrow6; have U6 := hide hu6
      clear hown6 hU6 hn6 hrow6 hu6 b4 c0 c1 c2 c3
      go_wp2_with fail
      go_roundw
      case rel => exact ⟨i + 1, by omega, by go_num, U6.out, by rw [FT.out, FC.out]; exact HOWN6.out⟩
      case measure => simp [intOf]; omega
    · obtain rfl : i = s.votes.length := by omega
      have d5 : decide ((s.votes.length : Int) < (s.votes.length : Int)) = false := by simp
      have d5' : decide (s.votes.length < s.votes.length) = false := by simp
      have hown := HOWN.out
      rw [List.take_length] at hown
      have HOWN := hide hown
      have x0 : wr0.cell? ⟨B + 1, 0, none⟩ = some (.int .i64 1) := Rec.cell_keep UR.out (blk_cell HB1.out rfl) (by simp)
      clear hown hlt
      obtain ⟨fo, fc, hvf, -, -⟩ := Row.slice (Own.row HOWN.out)
      generalize hnf : List.length _ = nf at hvf
      have HNF := hide hnf
      clear hnf
      subst hvf
      go_wp2_with fail
      go_loopw [5, 7] (fun s5 si wr => ∃ i : Nat, i ≤ s.votes.length ∧ s5 = .slice fo nf fc ∧ si = .int .i64 i ∧ Upd [] wr0 wr) (fun _ si _ => s.votes.length - (intOf si).toNat)
      case atStart => exact ⟨0, by omega, rfl, rfl, Upd.refl _ _⟩
      case round =>
        obtain ⟨i, hi, rfl, rfl, hur⟩ := hrel
        rename World => wr1
        have UR0 := hide hur
        have UR := hide (UR.out.trans hur)
        clear hur b4 x0
        have b4 : wr1.cell? ⟨B, 4, none⟩ = some (.slice vo s.votes.length vc) := Rec.cell_keep UR.out (blk_cell HB0.out rfl) (by simp)
        by_cases hlt : i < s.votes.length
        · have d5 : decide ((i : Int) < (s.votes.length : Int)) = true := by simp; omega
          have d5' : decide (i < s.votes.length) = true := by simpa using hlt
          have x0 : wr1.cell? ⟨B + 1, 0, none⟩ = some (.int .i64 1) := Rec.cell_keep UR.out (blk_cell HB1.out rfl) (by simp)
          go_wp2_with fail
          go_quiet (fail)
          go_wp2_with fail
          go_roundw
          case rel => exact ⟨i + 1, by omega, rfl, by go_num, UR0.out.drewN _⟩
          case measure => simp [intOf]; omega
        · have d5 : decide ((i : Int) < (s.votes.length : Int)) = false := by simp; omega
          have d5' : decide (i < s.votes.length) = false := by simpa using hlt
          have hown := Own.upd HOWN.out UR0.out (by simp) (fun _ _ _ h => h)
          have HOWN := hide hown
          clear hown hlt
          generalize hwf : wr1 = wf at *
          have HV := hide (show Own wf w2.heap.size 92 4 rvP (.slice fo nf fc) (s.votes) from by have := HOWN.out; rwa [List.filter_eq_self.2 (by simp)] at this)
          clear b4 hwf
          have hf0 := UR.out.get HB0.out (by simp)
          have hf2 := UR.out.get HB2.out (by simp)
          have x0 : wf.cell? ⟨B + 1, 0, none⟩ = some (.int .i64 1) := Rec.cell_keep UR.out (blk_cell HB1.out rfl) (by simp)
          have x1 : wf.cell? ⟨B + 1, 1, none⟩ = some (.int .u64 (slot : Int)) := Rec.cell_keep UR.out (blk_cell HB1.out rfl) (by simp)
          have x4 : wf.cell? ⟨B + 1, 4, none⟩ = some (.string (strOf bytes)) := Rec.cell_keep UR.out (blk_cell HB1.out rfl) (by simp)
          have b0 := blk_cell (i := 0) hf0 rfl
          have b1 := blk_cell (i := 1) hf0 rfl
          have b2 := blk_cell (i := 2) hf0 rfl
          have b3 := blk_cell (i := 3) hf0 rfl
          have b4 := blk_cell (i := 4) hf0 rfl
          have e0 := blk_cell (i := 0) hf2 rfl
          have e1 := blk_cell (i := 1) hf2 rfl
          have e2 := blk_cell (i := 2) hf2 rfl
          have e3 := blk_cell (i := 3) hf2 rfl
          have e4 := blk_cell (i := 4) hf2 rfl
          have g0 := blk_free (i := 0) hf0
          have g1 := blk_free (i := 1) hf0
          have g2 := blk_free (i := 2) hf0
          have g3 := blk_free (i := 3) hf0
          have g4 := blk_free (i := 4) hf0
          have k0 := blk_free (i := 0) hf2
          have k1 := blk_free (i := 1) hf2
          have k2 := blk_free (i := 2) hf2
          have k3 := blk_free (i := 3) hf2
          have k4 := blk_free (i := 4) hf2
          have HF2 := hide hf2; have HF0 := hide hf0
          clear hf0 hf2
          go_wp2_with fail
          have hbn := HBN.out
          have hsz := HSZ.out
          refine st_ends rfl rfl rfl (set5_blk (blk_set_other HF2.out (by omega) _)) ?_ ?_
          · exact row_since (w0 := w) (Y := [B, B + 1 + 1]) HV.out ((((((((Upd.refl _ wf).setCell (.inl (by simp)) _).setCell (.inl (by simp)) _).setCell (.inl (by simp)) _).setCell (.inl (by simp)) _).setCell (.inl (by simp)) _).setCell (.inl (by simp)) _)) (by simp; omega) (by omega)
          · exact (((((((U2.out.trans UR.out).setCell (.inr (show w.heap.size ≤ B by omega)) _).setCell (.inr (show w.heap.size ≤ B + 1 + 1 by omega)) _).setCell (.inr (show w.heap.size ≤ B + 1 + 1 by omega)) _).setCell (.inr (show w.heap.size ≤ B + 1 + 1 by omega)) _).setCell (.inr (show w.heap.size ≤ B + 1 + 1 by omega)) _).setCell (.inr (show w.heap.size ≤ B + 1 + 1 by omega)) _)
set_option maxRecDepth 100000 in
set_option maxHeartbeats 8000000 in
theorem rdo2 {T : Nat → Prop} {s : Sto} {v : Value} {slot n : Nat} {r : Int} {bytes : List UInt8} (w : World) (h : Row w T 4 rvP v s.votes) (hri : Rise slotK s.votes) (hl : s.votes.length ≤ 1000) :
    Calls Tryz.prog 47 #[rstV s.prom.n s.prom.r s.base (strOf s.snap) v, .agg #[.int .i64 2, .int .u64 (slot : Int), .int .u64 (n : Int), .int .i64 r, .string (strOf bytes)]] w (DoneSt w (doM s ⟨2, slot, ⟨n, r⟩, bytes⟩)) := by
  obtain ⟨vo, vc, rfl, hvc1, hvc2, hvg⟩ := rv_get h
  have VG := hide hvg
  obtain ⟨iv, hiv, iv0, iv1, iv2⟩ := partsB infoRV
  simp only [maxLen] at hvc2
  clear h hvg
  have hB0 := blk_alloc (blk_alloc (blk_new w (rstO n r s.base (strOf s.snap) (.slice vo s.votes.length vc))) (.cells #[.int .i64 2, .int .u64 (slot : Int), .int .u64 (n : Int), .int .i64 r, .string (strOf bytes)] 51)) zSt
  have hB1 := blk_alloc (blk_new (w.alloc (rstO n r s.base (strOf s.snap) (.slice vo s.votes.length vc))) (.cells #[.int .i64 2, .int .u64 (slot : Int), .int .u64 (n : Int), .int .i64 r, .string (strOf bytes)] 51)) zSt
  have hB2 := blk_new ((w.alloc (rstO n r s.base (strOf s.snap) (.slice vo s.votes.length vc))).alloc (.cells #[.int .i64 2, .int .u64 (slot : Int), .int .u64 (n : Int), .int .i64 r, .string (strOf bytes)] 51)) zSt
  have hu2 := (((Upd.refl [] w).alloc (rstO n r s.base (strOf s.snap) (.slice vo s.votes.length vc))).alloc (.cells #[.int .i64 2, .int .u64 (slot : Int), .int .u64 (n : Int), .int .i64 r, .string (strOf bytes)] 51)).alloc zSt
  have hsz2 : (((w.alloc (rstO n r s.base (strOf s.snap) (.slice vo s.votes.length vc))).alloc (.cells #[.int .i64 2, .int .u64 (slot : Int), .int .u64 (n : Int), .int .i64 r, .string (strOf bytes)] 51)).alloc zSt).heap.size = w.heap.size + 3 := by simp
  simp only [World.size_alloc] at hB1 hB2
  rw [show doM s ⟨2, slot, ⟨n, r⟩, bytes⟩ = { s with prom := ⟨n, r⟩, votes := mput slotK s.votes slot ⟨⟨n, r⟩, bytes⟩ } from rfl]
  have RI := hide hri
  clear hri
  go_enter Tryz.func47, Tryz.ntmps47
  go_wp2_with fail
  generalize ((w.alloc (rstO n r s.base (strOf s.snap) (.slice vo s.votes.length vc))).alloc (.cells #[.int .i64 2, .int .u64 (slot : Int), .int .u64 (n : Int), .int .i64 r, .string (strOf bytes)] 51)).alloc zSt = w2 at *
  obtain ⟨B, hBn⟩ : ∃ B, w.heap.size = B := ⟨_, rfl⟩
  rw [hBn] at hB0 hB1 hB2 hsz2 ⊢
  have HB0 := hide hB0; have HB1 := hide hB1; have HB2 := hide hB2; have U2 := hide hu2; have HBN := hide hBn; have HSZ := hide hsz2
  clear hB0 hB1 hB2 hu2 hBn hsz2
  go_loopw [5, 6] (fun s5 si wr => ∃ i : Nat, i ≤ s.votes.length ∧ si = .int .i64 i ∧ Upd [] w2 wr ∧ Own wr w2.heap.size 92 4 rvP s5 ((s.votes.take i).filter (fun p => decide (p.1 < slot)))) (fun _ si _ => s.votes.length - (intOf si).toNat)
  case atStart => exact ⟨0, by omega, rfl, Upd.refl _ _, Own.nil _ _ _ _ _⟩
  case round =>
    obtain ⟨i, hi, rfl, hur, hown⟩ := hrel
    rename World => wr0
    have UR := hide hur; have HOWN := hide hown
    clear hur hown
    have b4 : wr0.cell? ⟨B, 4, none⟩ = some (.slice vo s.votes.length vc) := Rec.cell_keep UR.out (blk_cell HB0.out rfl) (by simp)
    by_cases hlt : i < s.votes.length
    · have d5 : decide ((i : Int) < (s.votes.length : Int)) = true := by simp; omega
      have d5' : decide (i < s.votes.length) = true := by simpa using hlt
      obtain ⟨p, hp⟩ : ∃ p, s.votes[i]? = some p := ⟨_, List.getElem?_eq_getElem hlt⟩
      obtain ⟨b, off, rfl, -, hbz, c0, c1, c2, c3⟩ := VG.out i p hp
      have C0 := hide c0; have C1 := hide c1; have C2 := hide c2; have C3 := hide c3
      have FT := hide (filter_take (f := fun p => decide (p.1 < slot)) hp)
      clear c0 c1 c2 c3 hp
      have c0 := Rec.cell_keep (U2.out.trans UR.out) C0.out (by simp)
      have x0 : wr0.cell? ⟨B + 1, 0, none⟩ = some (.int .i64 2) := Rec.cell_keep UR.out (blk_cell HB1.out rfl) (by simp)
      have x1 : wr0.cell? ⟨B + 1, 1, none⟩ = some (.int .u64 (slot : Int)) := Rec.cell_keep UR.out (blk_cell HB1.out rfl) (by simp)
      by_cases hc : p.1 < slot
      · have q1 : decide ((p.1 : Int) < (slot : Int)) = true := by simp; omega
        have q2 : decide (p.1 < slot) = true := by simpa using hc
        have q3 : decide ((slot : Int) > (p.1 : Int)) = true := by simp; omega
        have FC := hide (show (if (fun p => decide (p.1 < slot)) p then [p] else []) = [p] from if_pos (decide_eq_true hc))
        clear hc
        go_wp2_with fail
        go_quiet (fail)
        have U3R := hide ((Upd.refl [] wr0).drewN nq)
        have U3 := hide (UR.out.drewN nq)
        generalize wr0.drewN nq = w3 at *
        clear b4 c0 x0 x1
        obtain ⟨css, hcss, hc4, hown⟩ := Own.upd HOWN.out U3R.out (by simp) (fun _ _ _ h => h)
        obtain ⟨Lq, hLq⟩ : ∃ Lq, ((s.votes.take i).filter (fun p => decide (p.1 < slot))).length = Lq := ⟨_, rfl⟩
        rw [hLq] at hown
        obtain ⟨ao, cap, rfl, -, -, -⟩ := owns_slice hown
        have hra : Upd [] w3 (w3.alloc (.cells (rvC p).toArray 92)) := (Upd.refl [] w3).alloc _
        have hown2 := owns_upd hown hra (by simp)
        have hLb : Lq ≤ 2000 := by rw [← hLq]; have h9 := List.length_filter_le (fun p => decide (p.1 < slot)) (s.votes.take i); simp only [List.length_take] at h9; omega
        have hz3 := U3.out.size
        have HCSS := hide hcss; have HC4 := hide hc4; have HROW := hide hown2; have HRA := hide hra; have HLQ := hide hLq
        clear hcss hc4 hown hown2 hra hLq
        have b4 : w3.cell? ⟨B, 4, none⟩ = some (.slice (some ⟨b, off, none⟩) s.votes.length vc) := Rec.cell_keep U3.out (blk_cell HB0.out rfl) (by simp)
        have c0 := Rec.cell_keep (U2.out.trans U3.out) C0.out (by simp)
        have c1 := Rec.cell_keep (U2.out.trans U3.out) C1.out (by simp)
        have c2 := Rec.cell_keep (U2.out.trans U3.out) C2.out (by simp)
        have c3 := Rec.cell_keep (U2.out.trans U3.out) C3.out (by simp)
        go_wp2_with (at_builtin; go_must (refine wpList_append_src _ rfl _ _ 34 rfl w2.heap.size 92 iv (.agg #[.int .u64 0, .int .u64 0, .int .i64 0, .string ⟨#[]⟩]) 4 40 Tryz.underlying34 hiv iv0 iv1 iv2 rfl (by decide) (.slice ao Lq cap) Lq css.flatten rfl HROW.out (some ⟨w3.heap.size, 0, none⟩) 1 1 (rvC p) rfl (src_row (blk_new _ _) rfl (by intro u hu; simp only [List.mem_cons, List.not_mem_nil, or_false] at hu; rcases hu with rfl | rfl | rfl | rfl <;> rfl)) (by unfold maxLen; omega) (by omega) (by simp; omega) ?_))
        intro ao6 cap6 w6 hown6 hU6 hn6
        have hrow6 := rv_more (p := p) HCSS.out HC4.out (by rw [HLQ.out]) hown6
        have hu6 : Upd [] w2 w6 := (U3.out.trans HRA.out).trans_new hU6 (fun g hm => .inr (owns_lt HROW.out g (by simpa using hm)).1)
        have HOWN6 := hide hrow6; have U6 := hide hu6
        clear hown6 hU6 hn6 hrow6 hu6 b4 c0 c1 c2 c3
        go_wp2_with fail
        go_roundw
        case rel => exact ⟨i + 1, by omega, by go_num, U6.out, by rw [FT.out, FC.out]; exact HOWN6.out⟩
        case measure => simp [intOf]; omega
      · have q1 : decide ((p.1 : Int) < (slot : Int)) = false := by simp; omega
        have q2 : decide (p.1 < slot) = false := by simpa using hc
        have q3 : decide ((slot : Int) > (p.1 : Int)) = false := by simp; omega
        have FC := hide (show (if (fun p => decide (p.1 < slot)) p then [p] else []) = [] from if_neg (by simpa using hc))
        clear hc
        go_wp2_with fail
        go_quiet (fail)
        have U3R := hide ((Upd.refl [] wr0).drewN nq)
        have U3 := hide (UR.out.drewN nq)
        generalize wr0.drewN nq = w3 at *
        clear b4 c0 x0 x1
        have HN := hide (Own.upd HOWN.out U3R.out (by simp) (fun _ _ _ h => h))
        go_wp2_with fail
        go_roundw
        case rel => exact ⟨i + 1, by omega, by go_num, U3.out, by rw [FT.out, FC.out, List.append_nil]; exact HN.out⟩
        case measure => simp [intOf]; omega
    · obtain rfl : i = s.votes.length := by omega
      have d5 : decide ((s.votes.length : Int) < (s.votes.length : Int)) = false := by simp
      have d5' : decide (s.votes.length < s.votes.length) = false := by simp
      have hown := HOWN.out
      rw [List.take_length] at hown
      have HOWN := hide hown
      have x0 : wr0.cell? ⟨B + 1, 0, none⟩ = some (.int .i64 2) := Rec.cell_keep UR.out (blk_cell HB1.out rfl) (by simp)
      clear hown hlt
      have U3R := hide (Upd.refl [] wr0)
      have U3 := hide UR.out
      generalize hw3 : wr0 = w3 at *
      obtain ⟨css, hcss, hc4, hown⟩ := Own.upd HOWN.out U3R.out (by simp) (fun _ _ _ h => h)
      obtain ⟨Lq, hLq⟩ : ∃ Lq, (s.votes.filter (fun p => decide (p.1 < slot))).length = Lq := ⟨_, rfl⟩
      rw [hLq] at hown
      obtain ⟨ao, cap, rfl, -, -, -⟩ := owns_slice hown
      have hra : Upd [] w3 (w3.alloc (.cells (rvC (slot, (⟨⟨n, r⟩, bytes⟩ : Vo))).toArray 92)) := (Upd.refl [] w3).alloc _
      have hown2 := owns_upd hown hra (by simp)
      have hLb : Lq ≤ 2000 := by rw [← hLq]; have h9 := List.length_filter_le (fun p => decide (p.1 < slot)) s.votes; omega
      have hz3 := U3.out.size
      have HCSS := hide hcss; have HC4 := hide hc4; have HROW := hide hown2; have HRA := hide hra; have HLQ := hide hLq
      clear hcss hc4 hown hown2 hra hLq
      have x1 : w3.cell? ⟨B + 1, 1, none⟩ = some (.int .u64 (slot : Int)) := Rec.cell_keep U3.out (blk_cell HB1.out rfl) (by simp)
      have x2 : w3.cell? ⟨B + 1, 2, none⟩ = some (.int .u64 (n : Int)) := Rec.cell_keep U3.out (blk_cell HB1.out rfl) (by simp)
      have x3 : w3.cell? ⟨B + 1, 3, none⟩ = some (.int .i64 r) := Rec.cell_keep U3.out (blk_cell HB1.out rfl) (by simp)
      have x4 : w3.cell? ⟨B + 1, 4, none⟩ = some (.string (strOf bytes)) := Rec.cell_keep U3.out (blk_cell HB1.out rfl) (by simp)
      go_wp2_with (at_builtin; go_must (refine wpList_append_src _ rfl _ _ 34 rfl w2.heap.size 92 iv (.agg #[.int .u64 0, .int .u64 0, .int .i64 0, .string ⟨#[]⟩]) 4 40 Tryz.underlying34 hiv iv0 iv1 iv2 rfl (by decide) (.slice ao Lq cap) Lq css.flatten rfl HROW.out (some ⟨w3.heap.size, 0, none⟩) 1 1 (rvC (slot, (⟨⟨n, r⟩, bytes⟩ : Vo))) rfl (src_row (blk_new _ _) rfl (by intro u hu; simp only [List.mem_cons, List.not_mem_nil, or_false] at hu; rcases hu with rfl | rfl | rfl | rfl <;> rfl)) (by unfold maxLen; omega) (by omega) (by simp; omega) ?_))
      intro ao6 cap6 w6 hown6 hU6 hn6
      have hrow6 := rv_more (p := (slot, (⟨⟨n, r⟩, bytes⟩ : Vo))) HCSS.out HC4.out (by rw [HLQ.out]) hown6
      have hu6 : Upd [] w2 w6 := (U3.out.trans HRA.out).trans_new hU6 (fun g hm => .inr (owns_lt HROW.out g (by simpa using hm)).1)
      have HOWN6 := hide hrow6; have U6 := hide hu6
      clear hown6 hU6 hn6 hrow6 hu6 b4 x0 x1 x2 x3 x4
      obtain ⟨L1, hL1⟩ : ∃ L1, s.votes.filter (fun p => decide (p.1 < slot)) ++ [(slot, (⟨⟨n, r⟩, bytes⟩ : Vo))] = L1 := ⟨_, rfl⟩
      have HL1 := hide hL1
      have hown6 := HOWN6.out
      rw [hL1] at hown6
      have HOWN6 := hide hown6
      have hl1 : L1.length ≤ 1001 := by rw [← hL1]; have h9 := List.length_filter_le (fun p => decide (p.1 < slot)) s.votes; simp; omega
      clear hL1 hown6
      go_wp2_with fail
      go_loopw [5, 7] (fun s5 si wr => ∃ i : Nat, i ≤ s.votes.length ∧ si = .int .i64 i ∧ Upd [] w2 wr ∧ Own wr w2.heap.size 92 4 rvP s5 (L1 ++ (s.votes.take i).filter (fun p => decide (slot < p.1)))) (fun _ si _ => s.votes.length - (intOf si).toNat)
      case atStart => exact ⟨0, by omega, rfl, U6.out, by simpa using HOWN6.out⟩
      case round =>
        obtain ⟨i, hi, rfl, hur, hown⟩ := hrel
        rename World => wr1
        have UR := hide hur; have HOWN := hide hown
        clear hur hown
        have b4 : wr1.cell? ⟨B, 4, none⟩ = some (.slice vo s.votes.length vc) := Rec.cell_keep UR.out (blk_cell HB0.out rfl) (by simp)
        by_cases hlt : i < s.votes.length
        · have d5 : decide ((i : Int) < (s.votes.length : Int)) = true := by simp; omega
          have d5' : decide (i < s.votes.length) = true := by simpa using hlt
          obtain ⟨p, hp⟩ : ∃ p, s.votes[i]? = some p := ⟨_, List.getElem?_eq_getElem hlt⟩
          obtain ⟨b, off, rfl, -, hbz, c0, c1, c2, c3⟩ := VG.out i p hp
          have C0 := hide c0; have C1 := hide c1; have C2 := hide c2; have C3 := hide c3
          have FT := hide (filter_take (f := fun p => decide (slot < p.1)) hp)
          clear c0 c1 c2 c3 hp
          have c0 := Rec.cell_keep (U2.out.trans UR.out) C0.out (by simp)
          have x0 : wr1.cell? ⟨B + 1, 0, none⟩ = some (.int .i64 2) := Rec.cell_keep UR.out (blk_cell HB1.out rfl) (by simp)
          have x1 : wr1.cell? ⟨B + 1, 1, none⟩ = some (.int .u64 (slot : Int)) := Rec.cell_keep UR.out (blk_cell HB1.out rfl) (by simp)
          by_cases hc : slot < p.1
          · have q1 : decide ((p.1 : Int) > (slot : Int)) = true := by simp; omega
            have q2 : decide (slot < p.1) = true := by simpa using hc
            have q3 : decide ((slot : Int) < (p.1 : Int)) = true := by simp; omega
            have FC := hide (show (if (fun p => decide (slot < p.1)) p then [p] else []) = [p] from if_pos (decide_eq_true hc))
            clear hc
            go_wp2_with fail
            go_quiet (fail)
            have U3R := hide ((Upd.refl [] wr1).drewN nq)
            have U3 := hide (UR.out.drewN nq)
            generalize wr1.drewN nq = w3 at *
            clear b4 c0 x0 x1
            obtain ⟨css, hcss, hc4, hown⟩ := Own.upd HOWN.out U3R.out (by simp) (fun _ _ _ h => h)
            obtain ⟨Lq, hLq⟩ : ∃ Lq, (L1 ++ (s.votes.take i).filter (fun p => decide (slot < p.1))).length = Lq := ⟨_, rfl⟩
            rw [hLq] at hown
            obtain ⟨ao, cap, rfl, -, -, -⟩ := owns_slice hown
            have hra : Upd [] w3 (w3.alloc (.cells (rvC p).toArray 92)) := (Upd.refl [] w3).alloc _
            have hown2 := owns_upd hown hra (by simp)
            have hLb : Lq ≤ 2000 := by rw [← hLq]; have h9 := List.length_filter_le (fun p => decide (slot < p.1)) (s.votes.take i); simp only [List.length_take] at h9; simp only [List.length_append]; omega
            have hz3 := U3.out.size
            have HCSS := hide hcss; have HC4 := hide hc4; have HROW := hide hown2; have HRA := hide hra; have HLQ := hide hLq
            clear hcss hc4 hown hown2 hra hLq
            have b4 : w3.cell? ⟨B, 4, none⟩ = some (.slice (some ⟨b, off, none⟩) s.votes.length vc) := Rec.cell_keep U3.out (blk_cell HB0.out rfl) (by simp)
            have c0 := Rec.cell_keep (U2.out.trans U3.out) C0.out (by simp)
            have c1 := Rec.cell_keep (U2.out.trans U3.out) C1.out (by simp)
            have c2 := Rec.cell_keep (U2.out.trans U3.out) C2.out (by simp)
            have c3 := Rec.cell_keep (U2.out.trans U3.out) C3.out (by simp)
            go_wp2_with (at_builtin; go_must (refine wpList_append_src _ rfl _ _ 34 rfl w2.heap.size 92 iv (.agg #[.int .u64 0, .int .u64 0, .int .i64 0, .string ⟨#[]⟩]) 4 40 Tryz.underlying34 hiv iv0 iv1 iv2 rfl (by decide) (.slice ao Lq cap) Lq css.flatten rfl HROW.out (some ⟨w3.heap.size, 0, none⟩) 1 1 (rvC p) rfl (src_row (blk_new _ _) rfl (by intro u hu; simp only [List.mem_cons, List.not_mem_nil, or_false] at hu; rcases hu with rfl | rfl | rfl | rfl <;> rfl)) (by unfold maxLen; omega) (by omega) (by simp; omega) ?_))
            intro ao6 cap6 w6 hown6 hU6 hn6
            have hrow6 := rv_more (p := p) HCSS.out HC4.out (by rw [HLQ.out]) hown6
            have hu6 : Upd [] w2 w6 := (U3.out.trans HRA.out).trans_new hU6 (fun g hm => .inr (owns_lt HROW.out g (by simpa using hm)).1)
            have HOWN6 := hide hrow6; have U6 := hide hu6
            clear hown6 hU6 hn6 hrow6 hu6 b4 c0 c1 c2 c3
            go_wp2_with fail
            go_roundw
            case rel => exact ⟨i + 1, by omega, by go_num, U6.out, by rw [FT.out, FC.out, ← List.append_assoc]; exact HOWN6.out⟩
            case measure => simp [intOf]; omega
          · have q1 : decide ((p.1 : Int) > (slot : Int)) = false := by simp; omega
            have q2 : decide (slot < p.1) = false := by simpa using hc
            have q3 : decide ((slot : Int) < (p.1 : Int)) = false := by simp; omega
            have FC := hide (show (if (fun p => decide (slot < p.1)) p then [p] else []) = [] from if_neg (by simpa using hc))
            clear hc
            go_wp2_with fail
            go_quiet (fail)
            have U3R := hide ((Upd.refl [] wr1).drewN nq)
            have U3 := hide (UR.out.drewN nq)
            generalize wr1.drewN nq = w3 at *
            clear b4 c0 x0 x1
            have HN := hide (Own.upd HOWN.out U3R.out (by simp) (fun _ _ _ h => h))
            go_wp2_with fail
            go_roundw
            case rel => exact ⟨i + 1, by omega, by go_num, U3.out, by rw [FT.out, FC.out, List.append_nil]; exact HN.out⟩
            case measure => simp [intOf]; omega
        · obtain rfl : i = s.votes.length := by omega
          have d5 : decide ((s.votes.length : Int) < (s.votes.length : Int)) = false := by simp
          have d5' : decide (s.votes.length < s.votes.length) = false := by simp
          have hown := HOWN.out
          rw [List.take_length, ← HL1.out, ← mput_parts RI.out] at hown
          have HOWN := hide hown
          clear hown hlt
          generalize hwf : wr1 = wf at *
          have HV := HOWN
          clear b4 hwf
          obtain ⟨fo, fc, hvf, -, -⟩ := Row.slice (Own.row HOWN.out)
          generalize hnf : List.length _ = nf at hvf
          have HNF := hide hnf
          clear hnf
          subst hvf
          have hf0 := UR.out.get HB0.out (by simp)
          have hf2 := UR.out.get HB2.out (by simp)
          have x0 : wf.cell? ⟨B + 1, 0, none⟩ = some (.int .i64 2) := Rec.cell_keep UR.out (blk_cell HB1.out rfl) (by simp)
          have x1 : wf.cell? ⟨B + 1, 1, none⟩ = some (.int .u64 (slot : Int)) := Rec.cell_keep UR.out (blk_cell HB1.out rfl) (by simp)
          have x4 : wf.cell? ⟨B + 1, 4, none⟩ = some (.string (strOf bytes)) := Rec.cell_keep UR.out (blk_cell HB1.out rfl) (by simp)
          have b0 := blk_cell (i := 0) hf0 rfl
          have b1 := blk_cell (i := 1) hf0 rfl
          have b2 := blk_cell (i := 2) hf0 rfl
          have b3 := blk_cell (i := 3) hf0 rfl
          have b4 := blk_cell (i := 4) hf0 rfl
          have e0 := blk_cell (i := 0) hf2 rfl
          have e1 := blk_cell (i := 1) hf2 rfl
          have e2 := blk_cell (i := 2) hf2 rfl
          have e3 := blk_cell (i := 3) hf2 rfl
          have e4 := blk_cell (i := 4) hf2 rfl
          have g0 := blk_free (i := 0) hf0
          have g1 := blk_free (i := 1) hf0
          have g2 := blk_free (i := 2) hf0
          have g3 := blk_free (i := 3) hf0
          have g4 := blk_free (i := 4) hf0
          have k0 := blk_free (i := 0) hf2
          have k1 := blk_free (i := 1) hf2
          have k2 := blk_free (i := 2) hf2
          have k3 := blk_free (i := 3) hf2
          have k4 := blk_free (i := 4) hf2
          have HF2 := hide hf2; have HF0 := hide hf0
          clear hf0 hf2
          go_wp2_with fail
          have hbn := HBN.out
          have hsz := HSZ.out
          refine st_ends rfl rfl rfl (set5_blk (blk_set_other HF2.out (by omega) _)) ?_ ?_
          · exact row_since (w0 := w) (Y := [B, B + 1 + 1]) HV.out ((((((((Upd.refl _ wf).setCell (.inl (by simp)) _).setCell (.inl (by simp)) _).setCell (.inl (by simp)) _).setCell (.inl (by simp)) _).setCell (.inl (by simp)) _).setCell (.inl (by simp)) _)) (by simp; omega) (by omega)
          · exact (((((((U2.out.trans UR.out).setCell (.inr (show w.heap.size ≤ B by omega)) _).setCell (.inr (show w.heap.size ≤ B + 1 + 1 by omega)) _).setCell (.inr (show w.heap.size ≤ B + 1 + 1 by omega)) _).setCell (.inr (show w.heap.size ≤ B + 1 + 1 by omega)) _).setCell (.inr (show w.heap.size ≤ B + 1 + 1 by omega)) _).setCell (.inr (show w.heap.size ≤ B + 1 + 1 by omega)) _)
set_option maxRecDepth 100000 in
set_option maxHeartbeats 8000000 in
theorem rdo3 {T : Nat → Prop} {s : Sto} {v : Value} {slot n : Nat} {r : Int} {bytes : List UInt8} (w : World) (h : Row w T 4 rvP v s.votes) (hri : Rise slotK s.votes) (hl : s.votes.length ≤ 1000) :
    Calls Tryz.prog 47 #[rstV s.prom.n s.prom.r s.base (strOf s.snap) v, .agg #[.int .i64 3, .int .u64 (slot : Int), .int .u64 (n : Int), .int .i64 r, .string (strOf bytes)]] w (DoneSt w (doM s ⟨3, slot, ⟨n, r⟩, bytes⟩)) := by
  obtain ⟨vo, vc, rfl, hvc1, hvc2, hvg⟩ := rv_get h
  have VG := hide hvg
  obtain ⟨iv, hiv, iv0, iv1, iv2⟩ := partsB infoRV
  simp only [maxLen] at hvc2
  clear h hvg
  have hB0 := blk_alloc (blk_alloc (blk_new w (rstO s.prom.n s.prom.r s.base (strOf s.snap) (.slice vo s.votes.length vc))) (.cells #[.int .i64 3, .int .u64 (slot : Int), .int .u64 (n : Int), .int .i64 r, .string (strOf bytes)] 51)) zSt
  have hB1 := blk_alloc (blk_new (w.alloc (rstO s.prom.n s.prom.r s.base (strOf s.snap) (.slice vo s.votes.length vc))) (.cells #[.int .i64 3, .int .u64 (slot : Int), .int .u64 (n : Int), .int .i64 r, .string (strOf bytes)] 51)) zSt
  have hB2 := blk_new ((w.alloc (rstO s.prom.n s.prom.r s.base (strOf s.snap) (.slice vo s.votes.length vc))).alloc (.cells #[.int .i64 3, .int .u64 (slot : Int), .int .u64 (n : Int), .int .i64 r, .string (strOf bytes)] 51)) zSt
  have hu2 := (((Upd.refl [] w).alloc (rstO s.prom.n s.prom.r s.base (strOf s.snap) (.slice vo s.votes.length vc))).alloc (.cells #[.int .i64 3, .int .u64 (slot : Int), .int .u64 (n : Int), .int .i64 r, .string (strOf bytes)] 51)).alloc zSt
  have hsz2 : (((w.alloc (rstO s.prom.n s.prom.r s.base (strOf s.snap) (.slice vo s.votes.length vc))).alloc (.cells #[.int .i64 3, .int .u64 (slot : Int), .int .u64 (n : Int), .int .i64 r, .string (strOf bytes)] 51)).alloc zSt).heap.size = w.heap.size + 3 := by simp
  simp only [World.size_alloc] at hB1 hB2
  rw [show doM s ⟨3, slot, ⟨n, r⟩, bytes⟩ = { s with base := slot, snap := bytes, votes := s.votes.filter fun p => !decide (p.1 ≤ slot) } from rfl]
  have RI := hide hri
  clear hri
  go_enter Tryz.func47, Tryz.ntmps47
  go_wp2_with fail
  generalize ((w.alloc (rstO s.prom.n s.prom.r s.base (strOf s.snap) (.slice vo s.votes.length vc))).alloc (.cells #[.int .i64 3, .int .u64 (slot : Int), .int .u64 (n : Int), .int .i64 r, .string (strOf bytes)] 51)).alloc zSt = w2 at *
  obtain ⟨B, hBn⟩ : ∃ B, w.heap.size = B := ⟨_, rfl⟩
  rw [hBn] at hB0 hB1 hB2 hsz2 ⊢
  have HB0 := hide hB0; have HB1 := hide hB1; have HB2 := hide hB2; have U2 := hide hu2; have HBN := hide hBn; have HSZ := hide hsz2
  clear hB0 hB1 hB2 hu2 hBn hsz2
  go_loopw [5, 6] (fun s5 si wr => ∃ i : Nat, i ≤ s.votes.length ∧ si = .int .i64 i ∧ Upd [] w2 wr ∧ Own wr w2.heap.size 92 4 rvP s5 ((s.votes.take i).filter (fun p => decide (slot < p.1)))) (fun _ si _ => s.votes.length - (intOf si).toNat)
  case atStart => exact ⟨0, by omega, rfl, Upd.refl _ _, Own.nil _ _ _ _ _⟩
  case round =>
    obtain ⟨i, hi, rfl, hur, hown⟩ := hrel
    rename World => wr0
    have UR := hide hur; have HOWN := hide hown
    clear hur hown
    have b4 : wr0.cell? ⟨B, 4, none⟩ = some (.slice vo s.votes.length vc) := Rec.cell_keep UR.out (blk_cell HB0.out rfl) (by simp)
    by_cases hlt : i < s.votes.length
    · have d5 : decide ((i : Int) < (s.votes.length : Int)) = true := by simp; omega
      have d5' : decide (i < s.votes.length) = true := by simpa using hlt
      obtain ⟨p, hp⟩ : ∃ p, s.votes[i]? = some p := ⟨_, List.getElem?_eq_getElem hlt⟩
      obtain ⟨b, off, rfl, -, hbz, c0, c1, c2, c3⟩ := VG.out i p hp
      have C0 := hide c0; have C1 := hide c1; have C2 := hide c2; have C3 := hide c3
      have FT := hide (filter_take (f := fun p => decide (slot < p.1)) hp)
      clear c0 c1 c2 c3 hp
      have c0 := Rec.cell_keep (U2.out.trans UR.out) C0.out (by simp)
      have x0 : wr0.cell? ⟨B + 1, 0, none⟩ = some (.int .i64 3) := Rec.cell_keep UR.out (blk_cell HB1.out rfl) (by simp)
      have x1 : wr0.cell? ⟨B + 1, 1, none⟩ = some (.int .u64 (slot : Int)) := Rec.cell_keep UR.out (blk_cell HB1.out rfl) (by simp)
      by_cases hc : slot < p.1
      · have q1 : decide ((p.1 : Int) > (slot : Int)) = true := by simp; omega
        have q2 : decide (slot < p.1) = true := by simpa using hc
        have q3 : decide ((slot : Int) < (p.1 : Int)) = true := by simp; omega
        have FC := hide (show (if (fun p => decide (slot < p.1)) p then [p] else []) = [p] from if_pos (decide_eq_true hc))
        clear hc
        go_wp2_with fail
        go_quiet (fail)
        have U3R := hide ((Upd.refl [] wr0).drewN nq)
        have U3 := hide (UR.out.drewN nq)
        generalize wr0.drewN nq = w3 at *
        clear b4 c0 x0 x1
        obtain ⟨css, hcss, hc4, hown⟩ := Own.upd HOWN.out U3R.out (by simp) (fun _ _ _ h => h)
        obtain ⟨Lq, hLq⟩ : ∃ Lq, ((s.votes.take i).filter (fun p => decide (slot < p.1))).length = Lq := ⟨_, rfl⟩
        rw [hLq] at hown
        obtain ⟨ao, cap, rfl, -, -, -⟩ := owns_slice hown
        have hra : Upd [] w3 (w3.alloc (.cells (rvC p).toArray 92)) := (Upd.refl [] w3).alloc _
        have hown2 := owns_upd hown hra (by simp)
        have hLb : Lq ≤ 2000 := by rw [← hLq]; have h9 := List.length_filter_le (fun p => decide (slot < p.1)) (s.votes.take i); simp only [List.length_take] at h9; omega
        have hz3 := U3.out.size
        have HCSS := hide hcss; have HC4 := hide hc4; have HROW := hide hown2; have HRA := hide hra; have HLQ := hide hLq
        clear hcss hc4 hown hown2 hra hLq
        have b4 : w3.cell? ⟨B, 4, none⟩ = some (.slice (some ⟨b, off, none⟩) s.votes.length vc) := Rec.cell_keep U3.out (blk_cell HB0.out rfl) (by simp)
        have c0 := Rec.cell_keep (U2.out.trans U3.out) C0.out (by simp)
        have c1 := Rec.cell_keep (U2.out.trans U3.out) C1.out (by simp)
        have c2 := Rec.cell_keep (U2.out.trans U3.out) C2.out (by simp)
        have c3 := Rec.cell_keep (U2.out.trans U3.out) C3.out (by simp)
        go_wp2_with (at_builtin; go_must (refine wpList_append_src _ rfl _ _ 34 rfl w2.heap.size 92 iv (.agg #[.int .u64 0, .int .u64 0, .int .i64 0, .string ⟨#[]⟩]) 4 40 Tryz.underlying34 hiv iv0 iv1 iv2 rfl (by decide) (.slice ao Lq cap) Lq css.flatten rfl HROW.out (some ⟨w3.heap.size, 0, none⟩) 1 1 (rvC p) rfl (src_row (blk_new _ _) rfl (by intro u hu; simp only [List.mem_cons, List.not_mem_nil, or_false] at hu; rcases hu with rfl | rfl | rfl | rfl <;> rfl)) (by unfold maxLen; omega) (by omega) (by simp; omega) ?_))
        intro ao6 cap6 w6 hown6 hU6 hn6
        have hrow6 := rv_more (p := p) HCSS.out HC4.out (by rw [HLQ.out]) hown6
        have hu6 : Upd [] w2 w6 := (U3.out.trans HRA.out).trans_new hU6 (fun g hm => .inr (owns_lt HROW.out g (by simpa using hm)).1)
        have HOWN6 := hide hrow6; have U6 := hide hu6
        clear hown6 hU6 hn6 hrow6 hu6 b4 c0 c1 c2 c3
        go_wp2_with fail
        go_roundw
        case rel => exact ⟨i + 1, by omega, by go_num, U6.out, by rw [FT.out, FC.out]; exact HOWN6.out⟩
        case measure => simp [intOf]; omega
      · have q1 : decide ((p.1 : Int) > (slot : Int)) = false := by simp; omega
        have q2 : decide (slot < p.1) = false := by simpa using hc
        have q3 : decide ((slot : Int) < (p.1 : Int)) = false := by simp; omega
        have FC := hide (show (if (fun p => decide (slot < p.1)) p then [p] else []) = [] from if_neg (by simpa using hc))
        clear hc
        go_wp2_with fail
        go_quiet (fail)
        have U3R := hide ((Upd.refl [] wr0).drewN nq)
        have U3 := hide (UR.out.drewN nq)
        generalize wr0.drewN nq = w3 at *
        clear b4 c0 x0 x1
        have HN := hide (Own.upd HOWN.out U3R.out (by simp) (fun _ _ _ h => h))
        go_wp2_with fail
        go_roundw
        case rel => exact ⟨i + 1, by omega, by go_num, U3.out, by rw [FT.out, FC.out, List.append_nil]; exact HN.out⟩
        case measure => simp [intOf]; omega
    · obtain rfl : i = s.votes.length := by omega
      have d5 : decide ((s.votes.length : Int) < (s.votes.length : Int)) = false := by simp
      have d5' : decide (s.votes.length < s.votes.length) = false := by simp
      have hown := HOWN.out
      rw [List.take_length] at hown
      have HOWN := hide hown
      have x0 : wr0.cell? ⟨B + 1, 0, none⟩ = some (.int .i64 3) := Rec.cell_keep UR.out (blk_cell HB1.out rfl) (by simp)
      clear hown hlt
      obtain ⟨fo, fc, hvf, -, -⟩ := Row.slice (Own.row HOWN.out)
      generalize hnf : List.length _ = nf at hvf
      have HNF := hide hnf
      clear hnf
      subst hvf
      go_wp2_with fail
      go_loopw [5, 7] (fun s5 si wr => ∃ i : Nat, i ≤ s.votes.length ∧ s5 = .slice fo nf fc ∧ si = .int .i64 i ∧ Upd [] wr0 wr) (fun _ si _ => s.votes.length - (intOf si).toNat)
      case atStart => exact ⟨0, by omega, rfl, rfl, Upd.refl _ _⟩
      case round =>
        obtain ⟨i, hi, rfl, rfl, hur⟩ := hrel
        rename World => wr1
        have UR0 := hide hur
        have UR := hide (UR.out.trans hur)
        clear hur b4 x0
        have b4 : wr1.cell? ⟨B, 4, none⟩ = some (.slice vo s.votes.length vc) := Rec.cell_keep UR.out (blk_cell HB0.out rfl) (by simp)
        by_cases hlt : i < s.votes.length
        · have d5 : decide ((i : Int) < (s.votes.length : Int)) = true := by simp; omega
          have d5' : decide (i < s.votes.length) = true := by simpa using hlt
          have x0 : wr1.cell? ⟨B + 1, 0, none⟩ = some (.int .i64 3) := Rec.cell_keep UR.out (blk_cell HB1.out rfl) (by simp)
          go_wp2_with fail
          go_quiet (fail)
          go_wp2_with fail
          go_roundw
          case rel => exact ⟨i + 1, by omega, rfl, by go_num, UR0.out.drewN _⟩
          case measure => simp [intOf]; omega
        · have d5 : decide ((i : Int) < (s.votes.length : Int)) = false := by simp; omega
          have d5' : decide (i < s.votes.length) = false := by simpa using hlt
          have hown := Own.upd HOWN.out UR0.out (by simp) (fun _ _ _ h => h)
          have HOWN := hide hown
          clear hown hlt
          generalize hwf : wr1 = wf at *
          have HV := hide (show Own wf w2.heap.size 92 4 rvP (.slice fo nf fc) (s.votes.filter fun p => !decide (p.1 ≤ slot)) from by have := HOWN.out; rwa [show (s.votes.filter fun p => decide (slot < p.1)) = s.votes.filter (fun p => !decide (p.1 ≤ slot)) from List.filter_congr (fun p _ => by by_cases h : slot < p.1 <;> simp [h] <;> omega)] at this)
          clear b4 hwf
          have hf0 := UR.out.get HB0.out (by simp)
          have hf2 := UR.out.get HB2.out (by simp)
          have x0 : wf.cell? ⟨B + 1, 0, none⟩ = some (.int .i64 3) := Rec.cell_keep UR.out (blk_cell HB1.out rfl) (by simp)
          have x1 : wf.cell? ⟨B + 1, 1, none⟩ = some (.int .u64 (slot : Int)) := Rec.cell_keep UR.out (blk_cell HB1.out rfl) (by simp)
          have x4 : wf.cell? ⟨B + 1, 4, none⟩ = some (.string (strOf bytes)) := Rec.cell_keep UR.out (blk_cell HB1.out rfl) (by simp)
          have b0 := blk_cell (i := 0) hf0 rfl
          have b1 := blk_cell (i := 1) hf0 rfl
          have b2 := blk_cell (i := 2) hf0 rfl
          have b3 := blk_cell (i := 3) hf0 rfl
          have b4 := blk_cell (i := 4) hf0 rfl
          have e0 := blk_cell (i := 0) hf2 rfl
          have e1 := blk_cell (i := 1) hf2 rfl
          have e2 := blk_cell (i := 2) hf2 rfl
          have e3 := blk_cell (i := 3) hf2 rfl
          have e4 := blk_cell (i := 4) hf2 rfl
          have g0 := blk_free (i := 0) hf0
          have g1 := blk_free (i := 1) hf0
          have g2 := blk_free (i := 2) hf0
          have g3 := blk_free (i := 3) hf0
          have g4 := blk_free (i := 4) hf0
          have k0 := blk_free (i := 0) hf2
          have k1 := blk_free (i := 1) hf2
          have k2 := blk_free (i := 2) hf2
          have k3 := blk_free (i := 3) hf2
          have k4 := blk_free (i := 4) hf2
          have HF2 := hide hf2; have HF0 := hide hf0
          clear hf0 hf2
          go_wp2_with fail
          have hbn := HBN.out
          have hsz := HSZ.out
          refine st_ends rfl rfl rfl (set5_blk (blk_set_other (blk_set_other (blk_set_other HF2.out (by omega) _) (by omega) _) (by omega) _)) ?_ ?_
          · exact row_since (w0 := w) (Y := [B, B + 1 + 1]) HV.out ((((((((((Upd.refl _ wf).setCell (.inl (by simp)) _).setCell (.inl (by simp)) _).setCell (.inl (by simp)) _).setCell (.inl (by simp)) _).setCell (.inl (by simp)) _).setCell (.inl (by simp)) _).setCell (.inl (by simp)) _).setCell (.inl (by simp)) _)) (by simp; omega) (by omega)
          · exact (((((((((U2.out.trans UR.out).setCell (.inr (show w.heap.size ≤ B by omega)) _).setCell (.inr (show w.heap.size ≤ B by omega)) _).setCell (.inr (show w.heap.size ≤ B by omega)) _).setCell (.inr (show w.heap.size ≤ B + 1 + 1 by omega)) _).setCell (.inr (show w.heap.size ≤ B + 1 + 1 by omega)) _).setCell (.inr (show w.heap.size ≤ B + 1 + 1 by omega)) _).setCell (.inr (show w.heap.size ≤ B + 1 + 1 by omega)) _).setCell (.inr (show w.heap.size ≤ B + 1 + 1 by omega)) _)
end Go.Proofs.YtekbhfpdakhhkaaGreatDoor.St
