/- stable.Store.Votes. -/
import Derived.Test.YtekbhfpdakhhkaaGreatDoorStS
namespace Go.Proofs.YtekbhfpdakhhkaaGreatDoor.St
set_option linter.unusedSimpArgs false
set_option linter.unusedVariables false
set_option linter.unnecessarySimpa false
open Go.RowKit Go.Lib Go.Proofs.YtekbhfpdakhhkaaGreatDoor.Crc Go.Proofs.YtekbhfpdakhhkaaGreatDoor.Var Go.Proofs.YtekbhfpdakhhkaaGreatDoor.DiskW

theorem infoV : (Tryz.prog.info? 57).map (fun i => (i.zero, i.size, i.bytes)) = some (some (.agg #[.int .u64 0, .int .u64 0, .int .i64 0, .slice none 0 0]), 4, 48) := by kernel_rfl
abbrev vsl (x : VR) : Value := .slice (adOf x.xo) x.len x.cap
def phi (vs : List (Nat × Vo)) (x : VR) : Nat × Vo := (x.slot, (mfind vs x.slot).getD vo0)
/-- A vote that is told, its batch the call's own. -/
def VBat (B : Nat) (W : World) (vs : List (Nat × Vo)) (x : VR) : Prop := ∃ v, mfind vs x.slot = some v ∧ x.n = v.b.n ∧ x.r = v.b.r ∧ x.len = v.batch.length ∧ W.ownsRow B 5 1 (vsl x) x.len (v.batch.map u8v)
theorem VBat.upd {B : Nat} {W W' : World} {Y : List Nat} {vs : List (Nat × Vo)} {x : VR} (h : VBat B W vs x) (hu : Upd Y W W') (hY : ∀ b, (vsl x).ownBlock = some b → b ∉ Y) : VBat B W' vs x := by
  obtain ⟨v, h1, h2, h3, h4, h5⟩ := h
  exact ⟨v, h1, h2, h3, h4, owns_upd h5 hu hY⟩
/-- What Votes answers. -/
def VotesSays (w : World) (k : Nat) (vs : List (Nat × Vo)) (e : Ending) (w' : World) : Prop :=
  ∃ v xs, e = .returned v ∧ VRow w' w.heap.size v xs ∧ xs.map (phi vs) = vs.filter (fun p => decide (k ≤ p.1)) ∧ (∀ x ∈ xs, VBat w.heap.size w' vs x ∧ ∀ b, (vsl x).ownBlock = some b → v.ownBlock ≠ some b) ∧ Upd [] w w'
set_option maxRecDepth 100000 in
set_option maxHeartbeats 2000000 in
theorem ins_none (w : World) : Calls Tryz.prog 90 #[.slice none 0 0, .int .i64 0, .int .i64 0, .func (.func 42) #[] #[]] w fun e w' => e = .returned (.tuple #[]) ∧ w = w' := by
  go_enter Tryz.func90, Tryz.ntmps90
  go_wp2_with fail
  go_loopw [8] (fun s1 wr => s1 = .int .i64 1 ∧ wr = w) (fun _ _ => 0)
  case atStart => exact ⟨rfl, rfl⟩
  case round =>
    obtain ⟨rfl, rfl⟩ := hrel
    go_wp2_with fail
    go_end0
    exact ⟨rfl, rfl⟩
set_option maxRecDepth 100000 in
set_option maxHeartbeats 2000000 in
theorem pdq_none (lim : Int) (w : World) : Calls Tryz.prog 73 #[.slice none 0 0, .int .i64 0, .int .i64 0, .int .i64 lim, .func (.func 42) #[] #[]] w fun e w' => e = .returned (.tuple #[]) ∧ w = w' := by
  go_enter Tryz.func73, Tryz.ntmps73
  go_wp2_with fail
  go_loopw [1, 2] (fun s1 s2 wr => s1 = .int .i64 0 ∧ s2 = .int .i64 0 ∧ wr = w) (fun _ _ _ => 0)
  case atStart => exact ⟨rfl, rfl, rfl⟩
  case round =>
    obtain ⟨rfl, rfl, rfl⟩ := hrel
    go_wp2_with fail
    refine (ins_none wr).mono ?_
    rintro e w' ⟨rfl, rfl⟩
    go_wp2_with fail
    (try simp only [Exit.inBlock, Exit.then])
    refine bodyPost_ret (results_none rfl _ _ _) rfl ?_
    exact ⟨rfl, rfl⟩
set_option maxHeartbeats 2000000 in
theorem sort_none (w : World) : Calls Tryz.prog 41 #[.slice none 0 0, .func (.func 42) #[] #[]] w fun e w' => e = .returned (.tuple #[]) ∧ w = w' := by
  have hl := Any.bits_Len (SlLaysF0.n15.bits (P := Tryz.prog) (ρ := sortVo_ren) { sortVo with }) 0 w (by omega) (by omega)
  have HL := hide hl
  clear hl
  go_enter Tryz.func41, Tryz.ntmps41
  go_wp2_with fail
  refine Calls.mono HL.out ?_
  rintro e w' ⟨rfl, rfl⟩
  go_wp2_with fail
  refine (pdq_none _ w').mono ?_
  rintro e w2 ⟨rfl, rfl⟩
  go_wp2_with fail
  go_end0
  exact ⟨rfl, rfl⟩
theorem src_row {w : World} {b n z : Nat} {cs : List Value} {t : TypeId} (h : w.heap[b]? = some (.cells cs.toArray t (0, 0))) (hn : cs.length = n * z) (h1 : ∀ u ∈ cs, u.oneCell' = true) : SrcAt w (some ⟨b, 0, none⟩) n n cs z := by
  refine ⟨hn, h1, by simp, fun a e j u hj => ?_⟩
  cases e
  rw [show (⟨b, 0, none⟩ : Addr).add j = ⟨b, j, none⟩ by unfold Addr.add; split <;> simp_all]
  simp only [World.cell?, h]
  simpa using hj
theorem slot_lt {a b : Nat} : slotK.lt a b = decide (a < b) := by
  show (Lit.int IntKind.u64 (a : Int)).before (Lit.int IntKind.u64 (b : Int)) = _
  simp only [Lit.before]
  by_cases h : a < b
  · rw [decide_eq_true h, decide_eq_true (by omega)]
  · rw [decide_eq_false h, decide_eq_false (by omega)]
theorem mfind_phi {vs : List (Nat × Vo)} {xs : List VR} {j : Nat} : mfind (xs.map (phi vs)) j = if ∃ x ∈ xs, x.slot = j then some ((mfind vs j).getD vo0) else none := by
  induction xs with
  | nil => simp [mfind_nil]
  | cons x xs ih =>
    rw [List.map_cons, mfind_cons, ih]
    by_cases e : x.slot = j
    · rw [if_pos (show (phi vs x).1 = j from e), if_pos ⟨x, by simp, e⟩]
      simp [phi, e]
    · rw [if_neg (show ¬ (phi vs x).1 = j from e)]
      by_cases h : ∃ y ∈ xs, y.slot = j
      · obtain ⟨y, h1, h2⟩ := h
        rw [if_pos ⟨y, h1, h2⟩, if_pos ⟨y, by simp [h1], h2⟩]
      · rw [if_neg h, if_neg]
        rintro ⟨y, h1, h2⟩
        rcases List.mem_cons.1 h1 with rfl | h1
        · exact e h2
        · exact h ⟨y, h1, h2⟩
/-- What is sorted, each slot once, are the votes from k on. -/
theorem votes_sorted {vs : List (Nat × Vo)} {xs : List VR} {k : Nat} (hr : Rise slotK vs) (h1 : ∀ x ∈ xs, k ≤ x.slot ∧ ∃ v, mfind vs x.slot = some v) (h2 : ∀ j v, mfind vs j = some v → k ≤ j → ∃ x ∈ xs, x.slot = j) (hn : (xs.map (·.slot)).Nodup) (hs : xs.Pairwise fun p q => p.slot ≤ q.slot) :
    xs.map (phi vs) = vs.filter fun p => decide (k ≤ p.1) := by
  refine rise_ext (K := slotK) ?_ (hr.filter _) fun j => ?_
  · unfold Rise
    rw [List.pairwise_map]
    have hn' : xs.Pairwise fun p q => p.slot ≠ q.slot := by
      have := hn
      unfold List.Nodup at this
      rwa [List.pairwise_map] at this
    refine (hs.and hn').imp fun h => ?_
    rw [show (phi vs _).1 = _ from rfl, show (phi vs _).1 = _ from rfl, slot_lt, decide_eq_true_eq]
    exact Nat.lt_of_le_of_ne h.1 h.2
  · rw [mfind_phi]
    have hf := mfind_filter (l := vs) (f := fun q => decide (k ≤ q)) (k := j)
    rw [hf]
    by_cases h : ∃ x ∈ xs, x.slot = j
    · rw [if_pos h]
      obtain ⟨x, hx, rfl⟩ := h
      obtain ⟨g1, v, g2⟩ := h1 x hx
      rw [if_pos (by simpa using g1), g2]
      rfl
    · rw [if_neg h]
      by_cases hk : k ≤ j
      · rw [if_pos (by simpa using hk)]
        cases hf : mfind vs j with
        | none => rfl
        | some v => exact absurd (h2 j v hf hk) h
      · rw [if_neg (by simpa using hk)]
section
variable {E : List Nat} {S L D g base : Nat} {so : Option Addr} {sn sc : Nat} {bv : Value} {d : DS} {s : Sto}
set_option maxRecDepth 100000 in
set_option maxHeartbeats 4000000 in
theorem votes_any {i : Nat} (w : World) (h : StoAt E w S L D g base so sn sc bv d s) (hso : StoOk s i) (hi : i < 1000) (k : Nat) :
    Calls Tryz.prog 18 #[.pointer (some ⟨S, 0, none⟩), .int .u64 (k : Int)] w (VotesSays w k s.votes) := by
  obtain ⟨l, i1, i2, i3, i4⟩ := h.vts.raw
  have hll := votes_len h.vts i2 i3
  have hvl := hso.len
  have hlok : ∀ p ∈ l, p.1 < 18446744073709551616 := fun p hp => by
    obtain ⟨v, hv⟩ := mfind_of_mem hp
    cases hf : mfind s.votes p.1 with
    | none => rw [i3 _ hf] at hv; cases hv
    | some u => exact (hso.vote _ (mfind_mem hf)).2.2.2.2.1
  have Y5 := hide (show w.cell? ⟨S, 5, none⟩ = some (.map (some g)) from blk_cell h.blk rfl)
  have H := hide h; have I2 := hide i2; have I3 := hide i3; have I4 := hide i4; have LOK := hide hlok; have SO := hide hso
  have hSl := blk_lt h.blk
  have hgl := h.vts.safe.lt
  clear h i2 i3 i4 hlok hso
  have y5 := Y5.out
  go_enter Tryz.func18, Tryz.ntmps18
  go_wp2_with (first
    | (at_range; refine wpList_range_map (M := vtK) _ rfl _ rfl rfl i1 ?_; intro w6 hrg6 hu6 hs6)
    | go_in)
  have HRG6 := hide hrg6; have HU6 := hide hu6
  clear y5 hrg6 hu6 i1
  obtain ⟨i0, hi0, iz0, iz1, iz2⟩ := partsB infoV
  go_frame
  go_loopw [5] (fun ov wr => ∃ (left : Lit → Bool) (cnt : Nat) (xs : List VR), vtK.rng wr g w.heap.size l left cnt ∧ VRow wr (w.heap.size + 1) ov xs ∧ (∀ x ∈ xs, (VBat (w.heap.size + 1) wr s.votes x ∧ ∀ b, (vsl x).ownBlock = some b → ov.ownBlock ≠ some b) ∧ k ≤ x.slot ∧ left (slotK.lit x.slot) = false) ∧
    (∀ j v, mfind s.votes j = some v → k ≤ j → left (slotK.lit j) = false → ∃ x ∈ xs, x.slot = j) ∧ (xs.map (·.slot)).Nodup ∧ xs.length + cnt ≤ l.length ∧ (xs = [] → ov = .slice none 0 0) ∧ Upd [] w wr ∧ w.heap.size < wr.heap.size) (fun _ wr => wr.rangeLeft g w.heap.size)
  case atStart =>
    refine ⟨_, _, [], HRG6.out, World.ownsRow_nil _ _ _ _, by simp, fun j v hv hk hl => ?_, by simp, by simp, fun _ => rfl, HU6.out, by omega⟩
    replace hl : Maps.has (toD slotK vtK.dat l) (slotK.lit j) = false := hl
    obtain ⟨x, hx, -⟩ := I4.out j v hv
    rw [toD_has, hx] at hl
    cases hl
  case round =>
    obtain ⟨left, cnt, xs, hrg, hrow, hc1, hc2, hc3, hc4, hc5, hu, hz⟩ := hrel
    have ROW := hide hrow; have C1 := hide hc1; have C2 := hide hc2; have C3 := hide hc3; have C5 := hide hc5; have U := hide hu
    clear hrow hc1 hc2 hc3 hc5 hu HRG6 HU6
    go_wp2_with (first
      | (at_next; refine wpList_next_map (M := vtK) _ rfl _ rfl rfl hrg (fun p hp => LOK.out p hp) ?_ ?_)
      | go_in)
    · intro hc0 hl0
      go_upto_region 10 with fail
      by_cases hx0 : xs = []
      · have e5 := C5.out hx0
        subst e5
        subst hx0
        have hfil : ([] : List VR).map (phi s.votes) = s.votes.filter fun p => decide (k ≤ p.1) :=
          votes_sorted SO.out.rise (by simp) (fun j v hv hk => C2.out j v hv hk (hl0 _)) (by simp) List.Pairwise.nil
        have FIL := hide hfil
        clear hfil
        go_wp2_with fail
        refine (sort_none wr).mono ?_
        rintro e w' ⟨rfl, rfl⟩
        go_wp2_with fail
        go_ret
        exact ⟨_, [], rfl, World.ownsRow_nil _ _ _ _, FIL.out, by simp, U.out⟩
      · have hso2 := sort_any (base := w.heap.size + 1) wr ROW.out hx0 (by omega)
        have X0 := hide hx0; have SRT := hide hso2
        obtain ⟨ao, cap, e5, hcp1, hcp2, -⟩ := owns_slice ROW.out
        clear hx0 hso2
        subst e5
        go_wp2_with fail
        refine SRT.out.mono ?_
        rintro e w7 ⟨rfl, hu7, xs', hrow', hlen', hperm, hsrt⟩
        have hfil := votes_sorted (xs := xs') (k := k) SO.out.rise (fun x hx => by
          obtain ⟨⟨⟨v, g1, -⟩, -⟩, g2, -⟩ := C1.out x (hperm.mem_iff.1 hx)
          exact ⟨g2, v, g1⟩) (fun j v hv hk => by
          obtain ⟨x, g1, g2⟩ := C2.out j v hv hk (hl0 _)
          exact ⟨x, hperm.mem_iff.2 g1, g2⟩) ((hperm.map _).nodup_iff.2 C3.out) hsrt
        have hfin : VotesSays w k s.votes (.returned (.slice ao xs.length cap)) w7 := by
          refine ⟨_, xs', rfl, Rec.owns_mono hrow' (by omega), hfil, fun x hx => ?_, U.out.trans_new hu7 fun b hb => ?_⟩
          · obtain ⟨⟨g1, g2⟩, -⟩ := C1.out x (hperm.mem_iff.1 hx)
            obtain ⟨v, k1, k2, k3, k4, k5⟩ := g1.upd hu7 (fun b hb hm => g2 b hb (by simpa using hm))
            exact ⟨⟨v, k1, k2, k3, k4, Rec.owns_mono k5 (by omega)⟩, g2⟩
          · have := (owns_lt ROW.out b (by simpa using hb)).1
            exact .inr (by omega)
        have FIN := hide hfin
        clear hu7 hrow' hlen' hperm hsrt hfil hfin
        go_wp2_with fail
        go_ret
        exact FIN.out
    · intro j u w1 cnt1 hlk hv hrg1 hlt hu1 hs1 hen
      have hen' : (Instr.entry (.pointer (some ⟨w.heap.size, 0, none⟩))).run Tryz.prog w1 = .ok (.tuple #[.int .u64 (j : Int), vrV u]) w1 := hen
      have hU1 := U.out.trans_new hu1 (fun k hk => .inr (by simp at hk; omega))
      have hjl : j < 18446744073709551616 := LOK.out (j, u) (mfind_mem hv)
      obtain ⟨vv, hvv⟩ : ∃ vv, mfind s.votes j = some vv := by
        cases hf : mfind s.votes j with
        | none => rw [I3.out j hf] at hv; cases hv
        | some vv => exact ⟨vv, rfl⟩
      have hbl := (SO.out.vote _ (mfind_mem hvv)).2.2.2.2.2.2
      simp only at hbl
      have hvt := vote_any w1 (H.out.upd_nil hU1) j hjl (by rw [hvv]; exact hbl)
      rw [hvv] at hvt
      have VT := hide hvt; have RG1 := hide hrg1; have LK := hide hlk; have U1 := hide hU1; have VV := hide hvv
      have hz1 := hu1.size
      have hcnt := MapKind.rng_cnt hrg
      have C1' : Hid (∀ x ∈ xs, (VBat (w.heap.size + 1) w1 s.votes x ∧ ∀ b, (vsl x).ownBlock = some b → u5.ownBlock ≠ some b) ∧ k ≤ x.slot ∧ left (slotK.lit x.slot) = false) := hide fun x hx => by
        obtain ⟨⟨g1, g2⟩, g3⟩ := C1.out x hx
        refine ⟨⟨g1.upd hu1 fun b hb hm => ?_, g2⟩, g3⟩
        obtain ⟨v, -, -, -, -, k5⟩ := g1
        have := (owns_lt k5 b hb).1
        simp at hm
        omega
      have ROW1 := hide (show VRow w1 (w.heap.size + 1) u5 xs from owns_upd ROW.out hu1 (fun b hb hm => by
        have := (owns_lt ROW.out b hb).1
        simp at hm
        omega))
      have ROWLT := hide (show ∀ b, u5.ownBlock = some b → b < w1.heap.size from fun b hb => (owns_lt ROW1.out b hb).2)
      clear hrg1 hu1 hen hlk hvv hvt hU1 hrg C1 ROW
      go_wp2_with fail
      refine VT.out.mono ?_
      rintro e w2 ⟨bo, bc, rfl, hbow, hu2⟩
      simp only [Option.isSome_some, if_true, Option.getD_some] at hbow ⊢
      have hX := blk_new w2 (votC j vv.b.n vv.b.r (.slice bo vv.batch.length bc))
      have hu3 := (Upd.refl [] w2).alloc (votC j vv.b.n vv.b.r (.slice bo vv.batch.length bc))
      have hs3 : (w2.alloc (votC j vv.b.n vv.b.r (.slice bo vv.batch.length bc))).heap.size = w2.heap.size + 1 := by simp
      have hu13 := hu2.trans hu3
      have hb3 := owns_upd hbow hu3 (by simp)
      clear hen' hbow hu2 hu3 VT
      go_upto_region 8 with fail
      generalize w2.alloc (votC j vv.b.n vv.b.r (.slice bo vv.batch.length bc)) = w3 at *
      obtain ⟨X, hXn⟩ : ∃ X, w2.heap.size = X := ⟨_, rfl⟩
      rw [hXn] at hX hs3 ⊢
      obtain ⟨yo, hyo⟩ := new_vr hb3
      have hz13 := hu13.size
      have RG3 := hide (MapKind.rng_upd RG1.out hu13 (by simp) (by simp)); have ROW3 := hide (show VRow w3 (w.heap.size + 1) u5 xs from owns_upd ROW1.out hu13 (by simp)); have U3 := hide (U1.out.trans hu13); have BX := hide hX
      have BAT := hide (show VBat (w.heap.size + 1) w3 s.votes ⟨j, vv.b.n, vv.b.r, yo, vv.batch.length, bc⟩ from ⟨vv, VV.out, rfl, rfl, rfl, by rw [show vsl ⟨j, vv.b.n, vv.b.r, yo, vv.batch.length, bc⟩ = .slice (adOf yo) vv.batch.length bc from rfl, hyo]; exact Rec.owns_mono hb3 (by omega)⟩)
      have NEW := hide (show ∀ b, (Value.slice bo vv.batch.length bc).ownBlock = some b → w1.heap.size ≤ b from fun b hb => (owns_lt hb3 b hb).1)
      have HYO := hide hyo
      have C3' : Hid (∀ x ∈ xs, (VBat (w.heap.size + 1) w3 s.votes x ∧ ∀ b, (vsl x).ownBlock = some b → u5.ownBlock ≠ some b) ∧ k ≤ x.slot ∧ left (slotK.lit x.slot) = false) := hide fun x hx => by
        obtain ⟨⟨g1, g2⟩, g3⟩ := C1'.out x hx
        exact ⟨⟨g1.upd hu13 (by simp), g2⟩, g3⟩
      have hlj : left (slotK.lit j) = true := LK.out
      have HLJ := hide hlj
      clear hX hu13 hb3 hyo hlj C1' ROW1 RG1 U1 LK
      by_cases hkj : k ≤ j
      · have t1 : decide ((j : Int) ≥ (k : Int)) = true := by simp; omega
        have t2 : decide ((k : Int) ≤ (j : Int)) = true := by simp; omega
        have t3 : decide (k ≤ j) = true := by simpa using hkj
        have KJ := hide hkj
        have x0 := blk_cell (i := 0) BX.out rfl
        have x1 := blk_cell (i := 1) BX.out rfl
        have x2 := blk_cell (i := 2) BX.out rfl
        have x3 := blk_cell (i := 3) BX.out rfl
        clear hkj
        have hyo := HYO.out
        clear HYO
        subst hyo
        go_upto_region 9 with fail
        have hY := blk_new w3 (votC j vv.b.n vv.b.r (.slice (adOf yo) vv.batch.length bc))
        have hu4 := (Upd.refl [] w3).alloc (votC j vv.b.n vv.b.r (.slice (adOf yo) vv.batch.length bc))
        rw [hs3] at hY
        have hs4 : (w3.alloc (votC j vv.b.n vv.b.r (.slice (adOf yo) vv.batch.length bc))).heap.size = w3.heap.size + 1 := by rw [World.size_alloc]
        have hsrc := src_row (n := 1) (z := 4) (cs := vrc ⟨j, vv.b.n, vv.b.r, yo, vv.batch.length, bc⟩) hY rfl (by simp [vrc, Value.oneCell'])
        obtain ⟨ao, cap, e5, hcp1, hcp2, -⟩ := owns_slice ROW3.out
        subst e5
        go_wp2_with (at_builtin; go_must (refine wpList_append_src _ rfl _ _ 58 rfl (w.heap.size + 1) 57 i0 (.agg #[.int .u64 0, .int .u64 0, .int .i64 0, .slice none 0 0]) 4 48 Tryz.underlying58 hi0 iz0 iz1 iz2 rfl (by decide) (.slice ao xs.length cap) xs.length (xs.flatMap vrc) rfl (owns_upd ROW3.out hu4 (by simp)) (some ⟨X + 1, 0, none⟩) 1 1 (vrc ⟨j, vv.b.n, vv.b.r, yo, vv.batch.length, bc⟩) rfl hsrc (by unfold maxLen; omega) (by omega) (by rw [World.size_alloc]; omega) ?_))
        intro ao1 cap1 w5 hown5 hU5 hn5
        have hz5 := hU5.size
        rw [World.size_alloc] at hz5
        have h4b : ∀ b, (Value.slice ao xs.length cap).ownBlock = some b → w.heap.size + 1 ≤ b := fun b hb => (owns_lt ROW3.out b hb).1
        have hrg5 : vtK.rng w5 g w.heap.size l (fun z => left z && !z.sameKey (vtK.K.lit j)) cnt1 := MapKind.rng_upd (MapKind.rng_upd RG3.out hu4 (by simp) (by simp)) hU5 (fun hm => by have := h4b g (by simpa using hm); omega) (fun hm => by have := h4b w.heap.size (by simpa using hm); omega)
        have hrow5 : VRow w5 (w.heap.size + 1) (.slice ao1 (xs.length + 1) cap1) (xs ++ [(⟨j, vv.b.n, vv.b.r, yo, vv.batch.length, bc⟩ : VR)]) := by
          unfold VRow
          have e1 : (xs ++ [(⟨j, vv.b.n, vv.b.r, yo, vv.batch.length, bc⟩ : VR)]).length = xs.length + 1 := by simp
          have e2 : (xs ++ [(⟨j, vv.b.n, vv.b.r, yo, vv.batch.length, bc⟩ : VR)]).flatMap vrc = xs.flatMap vrc ++ vrc ⟨j, vv.b.n, vv.b.r, yo, vv.batch.length, bc⟩ := by simp
          rw [e1, e2]
          exact hown5
        have hall : ∀ x ∈ xs ++ [(⟨j, vv.b.n, vv.b.r, yo, vv.batch.length, bc⟩ : VR)], (VBat (w.heap.size + 1) w5 s.votes x ∧ ∀ b, (vsl x).ownBlock = some b → (Value.slice ao1 (xs.length + 1) cap1).ownBlock ≠ some b) ∧ k ≤ x.slot ∧ (left (slotK.lit x.slot) && !(slotK.lit x.slot).sameKey (vtK.K.lit j)) = false := fun x hx => by
          have key : ∀ y, VBat (w.heap.size + 1) w3 s.votes y → (∀ b, (vsl y).ownBlock = some b → (Value.slice ao xs.length cap).ownBlock ≠ some b) → VBat (w.heap.size + 1) w5 s.votes y ∧ ∀ b, (vsl y).ownBlock = some b → (Value.slice ao1 (xs.length + 1) cap1).ownBlock ≠ some b := fun y g1 g2 => by
            refine ⟨(g1.upd hu4 (by simp)).upd hU5 fun b hb hm => g2 b hb (by simpa using hm), fun b hb hm => ?_⟩
            rcases hn5 b hm with h1 | h1
            · exact g2 b hb h1
            · obtain ⟨v, -, -, -, -, k5⟩ := g1
              have := (owns_lt k5 b hb).2
              omega
          rcases List.mem_append.1 hx with hx | hx
          · obtain ⟨⟨g1, g2⟩, g3, g4⟩ := C3'.out x hx
            exact ⟨key x g1 g2, g3, by simp [g4]⟩
          · obtain rfl := List.mem_singleton.1 hx
            refine ⟨key _ BAT.out fun b hb hm => ?_, KJ.out, ?_⟩
            · have h1 := NEW.out b hb
              have h2 := ROWLT.out b hm
              omega
            · have := Kys.same slotK j j
              rw [show vtK.K.lit j = slotK.lit j from rfl, this]
              simp
        have hcnt5 := MapKind.rng_cnt hrg5
        have RG5 := hide hrg5; have ROW5 := hide hrow5; have ALL := hide hall; have U5 := hide ((U3.out.trans hu4).trans_new hU5 fun b hb => by have := h4b b (by simpa using hb); exact .inr (by omega))
        have ND := hide (show ((xs ++ [(⟨j, vv.b.n, vv.b.r, yo, vv.batch.length, bc⟩ : VR)]).map (·.slot)).Nodup by
          rw [List.map_append, List.nodup_append]
          refine ⟨C3.out, by simp, ?_⟩
          intro a ha b hb
          simp at hb
          subst hb
          rintro rfl
          obtain ⟨x, hx, hxs⟩ := List.mem_map.1 ha
          have := (C3'.out x hx).2.2
          rw [hxs, HLJ.out] at this
          cases this)
        have hlen1 : (xs ++ [(⟨j, vv.b.n, vv.b.r, yo, vv.batch.length, bc⟩ : VR)]).length = xs.length + 1 := by simp
        have HLEN := hide hlen1
        clear hrg5 hrow5 hall hU5 hu4 hown5 hn5 hsrc hY hlen1 x0 x1 x2 x3
        go_wp2_with fail
        go_roundw
        case rel =>
          refine ⟨_, cnt1, xs ++ [(⟨j, vv.b.n, vv.b.r, yo, vv.batch.length, bc⟩ : VR)], RG5.out, ROW5.out, ALL.out, fun i v hv hk hl => ?_, ND.out, by rw [HLEN.out]; omega, fun h => by simp at h, U5.out, by omega⟩
          by_cases hij : i = j
          · subst hij
            exact ⟨⟨i, vv.b.n, vv.b.r, yo, vv.batch.length, bc⟩, List.mem_append_right _ (List.mem_singleton.2 rfl), rfl⟩
          · have := Kys.same slotK i j
            rw [show vtK.K.lit j = slotK.lit j from rfl] at hl
            obtain ⟨x, g1, g2⟩ := C2.out i v hv hk (by simpa [this, hij] using hl)
            exact ⟨x, by simp [g1], g2⟩
        case measure => rw [hcnt, hcnt5]; exact hlt
      · have t1 : decide ((j : Int) ≥ (k : Int)) = false := by simp; omega
        have t2 : decide ((k : Int) ≤ (j : Int)) = false := by simp; omega
        have t3 : decide (k ≤ j) = false := by simpa using hkj
        have hcnt3 := MapKind.rng_cnt RG3.out
        have KJ := hide hkj
        clear hkj
        go_wp2_with fail
        go_roundw
        case rel =>
          refine ⟨_, cnt1, xs, RG3.out, ROW3.out, fun x hx => ?_, fun i v hv hk hl => ?_, C3.out, by omega, C5.out, U3.out, by omega⟩
          · obtain ⟨g1, g2, g3⟩ := C3'.out x hx
            exact ⟨g1, g2, by simp [g3]⟩
          · by_cases hij : i = j
            · subst hij
              exact absurd hk KJ.out
            · refine C2.out i v hv hk ?_
              have := Kys.same slotK i j
              rw [show vtK.K.lit j = slotK.lit j from rfl] at hl
              simpa [this, hij] using hl
        case measure => rw [hcnt, hcnt3]; exact hlt
end
end Go.Proofs.YtekbhfpdakhhkaaGreatDoor.St
