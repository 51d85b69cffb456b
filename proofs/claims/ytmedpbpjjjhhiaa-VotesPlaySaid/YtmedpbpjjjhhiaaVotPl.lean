/- quoratelaw15.VotesPlay returns true, and turns nothing that was there. -/
import Derived.Test.YtmedpbpjjjhhiaaVotJ
namespace Go.Proofs.Ytmedpbpjjjhhiaa.Vot
open Go.RowKit

/-- An act in memory. -/
structure Act4 (w : World) (b off i : Nat) (rr : Int) (f t : Nat) (fr : Bool) : Prop where
  c0 : w.cell? ⟨b, off + i * 4, none⟩ = some (.int .i64 rr)
  c1 : w.cell? ⟨b, off + i * 4 + 1, none⟩ = some (.int .u8 (f : Int))
  c2 : w.cell? ⟨b, off + i * 4 + 2, none⟩ = some (.int .u8 (t : Int))
  c3 : w.cell? ⟨b, off + i * 4 + 3, none⟩ = some (.bool fr)
  f8 : f < 256
  t8 : t < 256
def ArgActs (w : World) (ao : Option Addr) (len : Nat) (rs : Nat → Int) (fs ts : Nat → Nat) (frs : Nat → Bool) : Prop := ∀ i, i < len → ∃ b off, ao = some ⟨b, off, none⟩ ∧ Act4 w b off i (rs i) (fs i) (ts i) (frs i)
theorem Tal.off {w w1 w2 : World} {T C n floor K : Nat} {l : Nat → List Sp} {k : Nat} {cs : Array Value} {t : TypeId} (h : Tal w T C n floor K l w1) (hk : w1.heap[k]? = some (.cells cs t (0, 0))) (h1 : t ≠ TSp) (h2 : t ≠ TTal) (h3 : t ≠ TSet) (hlo : w.heap.size ≤ k) (hu : Upd [k] w1 w2) : Tal w T C n floor K l w2 := by
  have ne : ∀ (j : Nat) (cs' : Array Value) (t' : TypeId), w1.heap[j]? = some (.cells cs' t' (0, 0)) → t ≠ t' → j ∉ [k] := by
    intro j cs' t' hj hne hm
    simp only [List.mem_singleton] at hm
    subst hm
    rw [hk] at hj
    injection hj with hj
    injection hj with h4 h5
    exact hne h5
  obtain ⟨cs', g1, -⟩ := h.at_.hC
  refine ⟨h.at_.upd hu (ne _ _ _ h.at_.hT h2) (ne _ _ _ g1 h3) (fun j cs'' hj h4 => ne _ _ _ h4 h1 hj), h.upd.trans_new hu (fun j hj => ?_)⟩
  simp at hj
  subst hj
  exact .inr hlo
theorem RefIn.setFloor {w : World} {B R D cap n floor fl2 : Nat} {b : Nat → Nat} {st : Nat → Nat → Bool} (h : RefIn w B R D cap n floor b st) (hf : fl2 ≤ 200) : RefIn (w.setCell ⟨R, 1, none⟩ (.int .i64 (fl2 : Int))) B R D cap n fl2 b st := by
  obtain ⟨cs, hD, hcs⟩ := h.hD
  have ne : ∀ (j : Nat) (cs' : Array Value) (t' : TypeId), w.heap[j]? = some (.cells cs' t' (0, 0)) → TRef ≠ t' → j ≠ R := by
    intro j cs' t' hj hne e
    rw [e, h.hR] at hj
    injection hj with hj
    injection hj with h4 h5
    exact hne h5
  refine ⟨blk_set h.hR _, ⟨cs, blk_set_other hD (ne _ _ _ hD (by decide)) _, hcs⟩, fun r hr => ?_, h.inj, h.loR, h.loD, h.lob, h.nc, h.cm, h.n7, hf⟩
  obtain ⟨bs, h3, h4⟩ := h.row r hr
  exact ⟨bs, blk_set_other h3 (ne _ _ _ h3 (by decide)) _, h4⟩
theorem Link.start (n : Nat) : Link n 0 (fun _ => []) (fun _ _ => false) :=
  ⟨fun r hr m => ⟨fun h => absurd h inS_nil, fun h => by cases h.2.2⟩, fun r hr m hm => rfl⟩
theorem Link.add {n floor r lo hi : Nat} {l : Nat → List Sp} {st : Nat → Nat → Bool} {d : List Sp} (h : Link n floor l st) (hlh : hi < 200) (hd : ∀ m, inS d m ↔ inS (l r) m ∨ (max lo (floor + 1) ≤ m ∧ m ≤ hi)) : Link n floor (fun k => if k = r then d else l k) (setTo st r lo (hi + 1)) := by
  refine ⟨fun k hk m => ?_, fun k hk m hm => ?_⟩
  · by_cases e : k = r
    · subst e
      simp only [if_true]
      rw [hd m, h.mem k hk m]
      unfold setTo
      simp only [decide_true, Bool.true_and, Bool.or_eq_true, Bool.and_eq_true, decide_eq_true_eq]
      constructor
      · rintro (⟨g1, g2, g3⟩ | g1)
        · exact ⟨g1, g2, .inl g3⟩
        · exact ⟨by omega, by omega, .inr ⟨by omega, by omega⟩⟩
      · rintro ⟨g1, g2, g3 | g3⟩
        · exact .inl ⟨g1, g2, g3⟩
        · exact .inr ⟨by omega, by omega⟩
    · simp only [if_neg e]
      rw [h.mem k hk m]
      unfold setTo
      simp [e]
  · unfold setTo
    rw [h.far k hk m hm]
    have : (decide (m < hi + 1)) = false := by simp; omega
    rw [this]
    simp
theorem Link.free {n floor top : Nat} {l : Nat → List Sp} {st : Nat → Nat → Bool} (h : Link n floor l st) : Link n (max floor top) (fun r => if top ≤ floor then l r else aboveL top (l r)) st := by
  refine ⟨fun k hk m => ?_, h.far⟩
  by_cases e : top ≤ floor
  · simp only [if_pos e]
    rw [Nat.max_eq_left e]
    exact h.mem k hk m
  · simp only [if_neg e]
    rw [above_mem, h.mem k hk m, Nat.max_eq_right (by omega)]
    constructor
    · rintro ⟨⟨g1, g2, g3⟩, g4⟩; exact ⟨g4, g2, g3⟩
    · rintro ⟨g1, g2, g3⟩; exact ⟨⟨by omega, g2, g3⟩, g1⟩
set_option maxRecDepth 100000 in
set_option maxHeartbeats 4000000 in
theorem play_out {n : Int} {ao : Option Addr} {len cap : Nat} (w : World) (h : n < 1 ∨ 7 < n) : Calls Try.prog 3 #[.int .i64 n, .slice ao len cap] w fun e w' => e = .returned (.bool true) ∧ Upd [] w w' := by
  have HH := hide h
  go_enter Try.func3, Try.ntmps3
  go_wp2_with fail
  refine (new_bad w HH.out).mono ?_
  rintro e w1 ⟨rfl, rfl⟩
  by_cases h1 : n < 1
  · have d1 : decide (n < 1) = true := by simpa using h1
    clear h
    go_wp2_with fail
    refine (wakes_any _).mono ?_
    rintro e w2 ⟨rfl, hu⟩
    have HU := hide hu
    clear hu
    go_wp2_with fail
    go_ret
    exact ⟨rfl, HU.out⟩
  · have d1 : decide (n < 1) = false := by simpa using h1
    have d2 : decide (7 < n) = true := by simp; omega
    clear h
    go_wp2_with fail
    refine (wakes_any _).mono ?_
    rintro e w2 ⟨rfl, hu⟩
    have HU := hide hu
    clear hu
    go_wp2_with fail
    go_ret
    exact ⟨rfl, HU.out⟩
set_option maxRecDepth 100000 in
set_option maxHeartbeats 8000000 in
theorem play_any {n : Nat} {ao : Option Addr} {len cap : Nat} {rs : Nat → Int} {fs ts : Nat → Nat} {frs : Nat → Bool} (w : World) (h1 : 1 ≤ n) (h7 : n ≤ 7) (ha : ArgActs w ao len rs fs ts frs) :
    Calls Try.prog 3 #[.int .i64 (n : Int), .slice ao len cap] w fun e w' => e = .returned (.bool true) ∧ Upd [] w w' := by
  have AA := hide ha
  have d1 : decide ((n : Int) < 1) = false := by simp; omega
  have d2 : decide ((7 : Int) < n) = false := by simp; omega
  clear ha
  go_enter Try.func3, Try.ntmps3
  go_wp2_with fail
  refine (Tal.new (w := w) n w (Upd.refl _ _) h1 h7).mono ?_
  rintro e w1 ⟨T, C, rfl, ht1, -, -, -⟩
  have H1 := hide ht1
  clear ht1
  by_cases hlen : 100 < len
  · have d3 : decide ((100 : Int) < len) = true := by simp; omega
    go_wp2_with fail
    refine (wakes_any _).mono ?_
    rintro e w2 ⟨rfl, hu⟩
    have HU := hide (H1.out.upd.trans hu)
    clear hu
    go_wp2_with fail
    go_ret
    exact ⟨rfl, HU.out⟩
  have d3 : decide ((100 : Int) < len) = false := by simp; omega
  go_wp2_with fail
  refine (rnew_any n _ h1 h7).mono ?_
  rintro e w2 ⟨R, D, rcap, b, rfl, hrf, hu2⟩
  have H2 := hide (H1.out.quiet hu2)
  have R2 : Hid (RefIn w2 w.heap.size R D rcap n 0 b (fun _ _ => false)) := ⟨hrf.hR, hrf.hD, hrf.row, hrf.inj, Nat.le_trans H1.out.upd.size hrf.loR, Nat.le_trans H1.out.upd.size hrf.loD, fun r hr => Nat.le_trans H1.out.upd.size (hrf.lob r hr), hrf.nc, hrf.cm, hrf.n7, hrf.fl⟩
  clear hu2 hrf H1
  go_wp2_with fail
  go_loopw [8] (fun si wr => ∃ (k floor : Nat) (l : Nat → List Sp) (st : Nat → Nat → Bool), k ≤ len ∧ si = .int .i64 k ∧ floor < 200 ∧ Tal w T C n floor k l wr ∧ RefIn wr w.heap.size R D rcap n floor b st ∧ Link n floor l st) (fun si _ => len - (intOf si).toNat)
  case atStart => exact ⟨0, 0, _, _, by omega, rfl, by omega, H2.out, R2.out, Link.start n⟩
  case round =>
    obtain ⟨k, floor, l, st, hk, rfl, hfl, ht, hr, hl⟩ := hrel
    have TT := hide ht; have RR := hide hr; have LL := hide hl
    clear ht hr hl H2 R2
    by_cases hlt : k < len
    · have d5 : decide ((k : Int) < len) = true := by simp; omega
      have d5' : decide (k < len) = true := by simpa using hlt
      obtain ⟨ab, off, rfl, hact⟩ := AA.out k hlt
      have A0 := hide hact.c0
      have x0 := cell_keep' TT.out.upd hact.c0
      have x1 := cell_keep' TT.out.upd hact.c1
      have x2 := cell_keep' TT.out.upd hact.c2
      have x3 := cell_keep' TT.out.upd hact.c3
      have hf8 := hact.f8
      have ht8 := hact.t8
      clear hact
      go_wp2_with fail
      refine (near_any (rr := rs k) (fr := frs k) _ hf8 ht8).mono ?_
      rintro e w3 ⟨rfl, hu3⟩
      obtain ⟨lo, hlo⟩ : ∃ lo, lo = min (fs k % 200) (ts k % 200) := ⟨_, rfl⟩
      obtain ⟨hi, hhi⟩ : ∃ hi, hi = max (fs k % 200) (ts k % 200) := ⟨_, rfl⟩
      rw [← hlo, ← hhi]
      have hlh : lo ≤ hi := by omega
      have hi2 : hi < 200 := by omega
      have T3 := hide (TT.out.quiet hu3); have R3 := hide (RR.out.quiet hu3)
      have y0 := cell_keep' hu3 x0
      have y3 := cell_keep' hu3 x3
      have v1 : IntKind.u64.wrap (hi : Int) = (hi : Int) := IntWalk.u64_in _ (by omega)
      have v2 : IntKind.u64.wrap (lo : Int) = (lo : Int) := IntWalk.u64_in _ (by omega)
      clear hu3 x0 x1 x2 x3 hlo hhi
      cases hfr : frs k with
      | true =>
        rw [hfr] at y3
        clear hfr
        obtain ⟨f2, hf2⟩ : ∃ f2, f2 = max floor hi := ⟨_, rfl⟩
        have m1 : max (floor : Int) (hi : Int) = (f2 : Int) := by omega
        have HF := hide hf2
        have hf3 : f2 < 200 := by omega
        clear hf2
        go_wp2_with fail
        refine (T3.out.free (top := hi) (by omega) (by omega)).mono ?_
        rintro e w4 ⟨rfl, hu4, ht4⟩
        have R4 := hide (R3.out.beside T3.out.at_ (S := [T, C]) (fun k hk => by simpa using hk) hu4)
        have T4 := hide ht4
        have z1 : w4.cell? ⟨R, 1, none⟩ = some (.int .i64 (floor : Int)) := blk_cell R4.out.hR rfl
        have z2 := blk_free R4.out.hR (i := 1)
        have R5 := hide (R4.out.setFloor (fl2 := f2) (by omega))
        have T5 := hide (T4.out.off R4.out.hR (by decide) (by decide) (by decide) R4.out.loR ((Upd.refl [R] w4).setCell (p := ⟨R, 1, none⟩) (.inl (by simp)) (.int .i64 (f2 : Int))))
        rw [← HF.out] at T5
        have L5 := hide (LL.out.free (top := hi))
        rw [← HF.out] at L5
        clear hu4 ht4
        go_wp2_with fail
        refine (same_any (K := k) _ T5.out.at_ R5.out L5.out (by omega) (by omega)).mono ?_
        rintro e w9 ⟨rfl, hu9⟩
        have T9 := hide ((T5.out.quiet hu9).more); have R9 := hide (R5.out.quiet hu9)
        clear hu9
        go_wp2_with fail
        go_roundw
        case rel => exact ⟨k + 1, _, _, _, by omega, by go_num, by omega, T9.out, R9.out, L5.out⟩
        case measure => simp [intOf] <;> omega
      | false =>
        rw [hfr] at y3
        clear hfr
        by_cases hbad : rs k < 0 ∨ (n : Int) ≤ rs k
        · have S3 : Hid (w3.cell? ⟨ab, off + k * 4, none⟩ = some (.int .i64 (rs k))) := y0
          have bad : ∀ (Q : Prop), (∀ d4 : decide (rs k < 0) = true, Q) → (∀ (d4 : decide (rs k < 0) = false) (d6 : decide ((n : Int) ≤ rs k) = true), Q) → Q := fun Q g1 g2 => by
            by_cases h5 : rs k < 0
            · exact g1 (by simpa using h5)
            · exact g2 (by simpa using h5) (by simp; omega)
          have HBD := hide hbad
          clear hbad
          refine bad _ (fun d4 => ?_) (fun d4 d6 => ?_)
          all_goals
            clear bad
            go_wp2_with fail
            refine wp_region_z (fun W => W.cell? ⟨ab, off + k * 4, none⟩ = some (.int .i64 (rs k))) 99 (by kernel_rfl) ?_
            refine wpAnyZ_takeE 0 rfl (by kernel_rfl) (by kernel_rfl) (by kernel_rfl) (by kernel_rfl) (fun _ _ _ _ h => h) rfl (by exact S3.out) ?_
            apply Exists.intro
            refine ⟨fun wx hS => ?_, ?_⟩
            · have s0 := hS; go_simp; rfl
            simp only [Act.put, List.setIfInBounds_toArray, List.set_cons_succ, List.set_cons_zero, List.getElem_toArray, List.getElem_cons_zero]
            refine wpAnyZ_takeE 1 rfl (by kernel_rfl) (by kernel_rfl) (by kernel_rfl) (by kernel_rfl) (fun _ _ _ _ h => h) rfl (by exact S3.out) ?_
            apply Exists.intro
            refine ⟨fun wx hS => ?_, ?_⟩
            · have s0 := hS; go_simp; rfl
            simp only [Act.put, List.setIfInBounds_toArray, List.set_cons_succ, List.set_cons_zero, List.getElem_toArray, List.getElem_cons_succ, List.getElem_cons_zero]
            refine wpAnyZ_takeE 2 rfl (by kernel_rfl) (by kernel_rfl) (by kernel_rfl) (by kernel_rfl) (fun _ _ _ _ h => h) rfl (by exact S3.out) ?_
            apply Exists.intro
            refine ⟨fun wx hS => ?_, ?_⟩
            · have s0 := hS; go_simp; rfl
            simp only [Act.put, List.setIfInBounds_toArray, List.set_cons_succ, List.set_cons_zero, List.getElem_toArray, List.getElem_cons_succ, List.getElem_cons_zero]
            refine wpAnyZ_takeE 3 rfl (by kernel_rfl) (by kernel_rfl) (by kernel_rfl) (by kernel_rfl) (fun _ _ _ _ h => h) rfl (by exact S3.out) ?_
            apply Exists.intro
            refine ⟨fun wx hS => ?_, ?_⟩
            · have s0 := hS; go_simp; rfl
            simp only [Act.put, List.setIfInBounds_toArray, List.set_cons_succ, List.set_cons_zero, List.getElem_toArray, List.getElem_cons_succ, List.getElem_cons_zero]
            refine wpAnyZ_takeE 4 rfl (by kernel_rfl) (by kernel_rfl) (by kernel_rfl) (by kernel_rfl) (fun _ _ _ _ h => h) rfl (by exact S3.out) ?_
            apply Exists.intro
            refine ⟨fun wx hS => ?_, ?_⟩
            · have s0 := hS; go_simp; rfl
            simp only [Act.put, List.setIfInBounds_toArray, List.set_cons_succ, List.set_cons_zero, List.getElem_toArray, List.getElem_cons_succ, List.getElem_cons_zero]
            refine wpAnyZ_takeE 5 rfl (by kernel_rfl) (by kernel_rfl) (by kernel_rfl) (by kernel_rfl) (fun _ _ _ _ h => h) rfl (by exact S3.out) ?_
            apply Exists.intro
            refine ⟨fun wx hS => ?_, ?_⟩
            · have s0 := hS; go_simp; rfl
            simp only [Act.put, List.setIfInBounds_toArray, List.set_cons_succ, List.set_cons_zero, List.getElem_toArray, List.getElem_cons_succ, List.getElem_cons_zero]
            refine wpAnyZ_takeE 6 rfl (by kernel_rfl) (by kernel_rfl) (by kernel_rfl) (by kernel_rfl) (fun _ _ _ _ h => h) rfl (by exact S3.out) ?_
            apply Exists.intro
            refine ⟨fun wx hS => ?_, ?_⟩
            · have s0 := hS; go_simp; rfl
            simp only [Act.put, List.setIfInBounds_toArray, List.set_cons_succ, List.set_cons_zero, List.getElem_toArray, List.getElem_cons_succ, List.getElem_cons_zero]
            refine wpAnyZ_takeE 7 rfl (by kernel_rfl) (by kernel_rfl) (by kernel_rfl) (by kernel_rfl) (fun _ _ _ _ h => h) rfl (by exact S3.out) ?_
            apply Exists.intro
            refine ⟨fun wx hS => ?_, ?_⟩
            · have s0 := hS; go_simp; rfl
            simp only [Act.put, List.setIfInBounds_toArray, List.set_cons_succ, List.set_cons_zero, List.getElem_toArray, List.getElem_cons_succ, List.getElem_cons_zero]
            refine wpAnyZ_takeE 8 rfl (by kernel_rfl) (by kernel_rfl) (by kernel_rfl) (by kernel_rfl) (fun _ _ _ _ h => h) rfl (by exact S3.out) ?_
            apply Exists.intro
            refine ⟨fun wx hS => ?_, ?_⟩
            · have s0 := hS; go_simp; rfl
            simp only [Act.put, List.setIfInBounds_toArray, List.set_cons_succ, List.set_cons_zero, List.getElem_toArray, List.getElem_cons_succ, List.getElem_cons_zero]
            refine wpAnyZ_takeE 9 rfl (by kernel_rfl) (by kernel_rfl) (by kernel_rfl) (by kernel_rfl) (fun _ _ _ _ h => h) rfl (by exact S3.out) ?_
            apply Exists.intro
            refine ⟨fun wx hS => ?_, ?_⟩
            · have s0 := hS; go_simp; rfl
            simp only [Act.put, List.setIfInBounds_toArray, List.set_cons_succ, List.set_cons_zero, List.getElem_toArray, List.getElem_cons_succ, List.getElem_cons_zero]
            refine wpAnyZ_takeE 12 rfl (by kernel_rfl) (by kernel_rfl) (by kernel_rfl) (by kernel_rfl) (fun _ _ _ _ h => h) rfl (by exact S3.out) ?_
            apply Exists.intro
            refine ⟨fun wx hS => ?_, ?_⟩
            · have s0 := hS; go_simp; rfl
            simp only [Act.put, List.setIfInBounds_toArray, List.set_cons_succ, List.set_cons_zero, List.getElem_toArray, List.getElem_cons_succ, List.getElem_cons_zero]
            refine wpAnyZ_one 10 (by kernel_rfl) rfl rfl (fun K hK => ?_)
            try simp only [List.getElem_toArray, List.getElem_cons_succ, List.getElem_cons_zero]
            go_simp
            refine (span_any lo hi _).mono ?_
            rintro e w4 ⟨rfl, hu4⟩
            have hu4' := ((Upd.refl [] w3).drewN _).trans hu4
            have T4 := hide (T3.out.quiet hu4'); have R4 := hide (R3.out.quiet hu4'); have S4 := hide (cell_keep' hu4' S3.out)
            clear hu4 hu4'
            refine hK _ _ (.inr S4.out) ?_
            clear hK K
            try simp only [Act.put, List.setIfInBounds_toArray, List.set_cons_succ, List.set_cons_zero]
            refine wpAnyZ_one 11 (by kernel_rfl) rfl rfl (fun K hK => ?_)
            try simp only [List.getElem_toArray, List.getElem_cons_succ, List.getElem_cons_zero]
            go_simp
            refine (add_bad (x := (lo, hi)) _ T4.out.at_ HBD.out).mono ?_
            rintro e w5 ⟨rfl, hu5⟩
            have T5 := hide (T4.out.quiet hu5); have R5 := hide (R4.out.quiet hu5); have S5 := hide (cell_keep' hu5 S4.out)
            have L5 := LL
            clear hu5
            refine hK _ _ (.inr S5.out) ?_
            clear hK K
            try simp only [Act.put, List.setIfInBounds_toArray, List.set_cons_succ, List.set_cons_zero]
            refine wpAnyZ_takeE 13 rfl (by kernel_rfl) (by kernel_rfl) (by kernel_rfl) (by kernel_rfl) (fun _ _ _ _ h => h) rfl (by exact S5.out) ?_
            apply Exists.intro
            refine ⟨fun wx hS => ?_, ?_⟩
            · have s0 := hS; go_simp; rfl
            simp only [Act.put, List.setIfInBounds_toArray, List.set_cons_succ, List.set_cons_zero, List.getElem_toArray, List.getElem_cons_succ, List.getElem_cons_zero]
            refine wpAnyZ_done (by kernel_rfl) ?_ _
            go_wp2_with fail
            refine (same_any (K := k) _ T5.out.at_ R5.out L5.out (by omega) (by omega)).mono ?_
            rintro e w9 ⟨rfl, hu9⟩
            have T9 := hide ((T5.out.quiet hu9).more); have R9 := hide (R5.out.quiet hu9)
            clear hu9
            go_wp2_with fail
            go_roundw
            case rel => exact ⟨k + 1, _, _, _, by omega, by go_num, by omega, T9.out, R9.out, L5.out⟩
            case measure => simp [intOf] <;> omega
        · obtain ⟨r, hr⟩ : ∃ r : Nat, rs k = (r : Int) := ⟨(rs k).toNat, by omega⟩
          rw [hr] at y0 hbad
          have hrn : r < n := by omega
          have d4 : decide ((r : Int) < 0) = false := by simp
          have d6 : decide ((n : Int) ≤ (r : Int)) = false := by simp; omega
          have d6' : decide (n ≤ r) = false := by simp; omega
          clear hr hbad
          go_wp2_with fail
          refine (radd_any _ R3.out hrn hlh hi2).mono ?_
          rintro e w4 ⟨rfl, hr4, hu4⟩
          obtain ⟨bs, hbb, -⟩ := R3.out.row r hrn
          have T4 := hide (T3.out.off hbb (by decide) (by decide) (by decide) (R3.out.lob r hrn) hu4)
          have R4 := hide hr4
          have S4 : Hid (w4.cell? ⟨ab, off + k * 4, none⟩ = some (.int .i64 (r : Int))) := by
            have hab : ab ≠ b r := fun e5 => by
              have h5 : ab < w.heap.size := World.block_lt_of_cell? w ⟨ab, off + k * 4, none⟩ A0.out
              have h6 := R3.out.lob r hrn
              omega
            have h7 := hu4.block ab (World.block_lt_of_cell? w3 ⟨ab, off + k * 4, none⟩ y0) (by simpa using hab)
            show w4.cell? _ = _
            rw [← y0]
            simp only [World.cell?, h7]
          clear hr4 hu4 hbb y0 y3
          go_wp2_with fail
          refine wp_region_z (fun W => W.cell? ⟨ab, off + k * 4, none⟩ = some (.int .i64 (r : Int))) 99 (by kernel_rfl) ?_
          refine wpAnyZ_takeE 0 rfl (by kernel_rfl) (by kernel_rfl) (by kernel_rfl) (by kernel_rfl) (fun _ _ _ _ h => h) rfl (by exact S4.out) ?_
          apply Exists.intro
          refine ⟨fun wx hS => ?_, ?_⟩
          · have s0 := hS; go_simp; rfl
          simp only [Act.put, List.setIfInBounds_toArray, List.set_cons_succ, List.set_cons_zero, List.getElem_toArray, List.getElem_cons_zero]
          refine wpAnyZ_takeE 1 rfl (by kernel_rfl) (by kernel_rfl) (by kernel_rfl) (by kernel_rfl) (fun _ _ _ _ h => h) rfl (by exact S4.out) ?_
          apply Exists.intro
          refine ⟨fun wx hS => ?_, ?_⟩
          · have s0 := hS; go_simp; rfl
          simp only [Act.put, List.setIfInBounds_toArray, List.set_cons_succ, List.set_cons_zero, List.getElem_toArray, List.getElem_cons_succ, List.getElem_cons_zero]
          refine wpAnyZ_takeE 2 rfl (by kernel_rfl) (by kernel_rfl) (by kernel_rfl) (by kernel_rfl) (fun _ _ _ _ h => h) rfl (by exact S4.out) ?_
          apply Exists.intro
          refine ⟨fun wx hS => ?_, ?_⟩
          · have s0 := hS; go_simp; rfl
          simp only [Act.put, List.setIfInBounds_toArray, List.set_cons_succ, List.set_cons_zero, List.getElem_toArray, List.getElem_cons_succ, List.getElem_cons_zero]
          refine wpAnyZ_takeE 3 rfl (by kernel_rfl) (by kernel_rfl) (by kernel_rfl) (by kernel_rfl) (fun _ _ _ _ h => h) rfl (by exact S4.out) ?_
          apply Exists.intro
          refine ⟨fun wx hS => ?_, ?_⟩
          · have s0 := hS; go_simp; rfl
          simp only [Act.put, List.setIfInBounds_toArray, List.set_cons_succ, List.set_cons_zero, List.getElem_toArray, List.getElem_cons_succ, List.getElem_cons_zero]
          refine wpAnyZ_takeE 4 rfl (by kernel_rfl) (by kernel_rfl) (by kernel_rfl) (by kernel_rfl) (fun _ _ _ _ h => h) rfl (by exact S4.out) ?_
          apply Exists.intro
          refine ⟨fun wx hS => ?_, ?_⟩
          · have s0 := hS; go_simp; rfl
          simp only [Act.put, List.setIfInBounds_toArray, List.set_cons_succ, List.set_cons_zero, List.getElem_toArray, List.getElem_cons_succ, List.getElem_cons_zero]
          refine wpAnyZ_takeE 5 rfl (by kernel_rfl) (by kernel_rfl) (by kernel_rfl) (by kernel_rfl) (fun _ _ _ _ h => h) rfl (by exact S4.out) ?_
          apply Exists.intro
          refine ⟨fun wx hS => ?_, ?_⟩
          · have s0 := hS; go_simp; rfl
          simp only [Act.put, List.setIfInBounds_toArray, List.set_cons_succ, List.set_cons_zero, List.getElem_toArray, List.getElem_cons_succ, List.getElem_cons_zero]
          refine wpAnyZ_takeE 6 rfl (by kernel_rfl) (by kernel_rfl) (by kernel_rfl) (by kernel_rfl) (fun _ _ _ _ h => h) rfl (by exact S4.out) ?_
          apply Exists.intro
          refine ⟨fun wx hS => ?_, ?_⟩
          · have s0 := hS; go_simp; rfl
          simp only [Act.put, List.setIfInBounds_toArray, List.set_cons_succ, List.set_cons_zero, List.getElem_toArray, List.getElem_cons_succ, List.getElem_cons_zero]
          refine wpAnyZ_takeE 7 rfl (by kernel_rfl) (by kernel_rfl) (by kernel_rfl) (by kernel_rfl) (fun _ _ _ _ h => h) rfl (by exact S4.out) ?_
          apply Exists.intro
          refine ⟨fun wx hS => ?_, ?_⟩
          · have s0 := hS; go_simp; rfl
          simp only [Act.put, List.setIfInBounds_toArray, List.set_cons_succ, List.set_cons_zero, List.getElem_toArray, List.getElem_cons_succ, List.getElem_cons_zero]
          refine wpAnyZ_takeE 8 rfl (by kernel_rfl) (by kernel_rfl) (by kernel_rfl) (by kernel_rfl) (fun _ _ _ _ h => h) rfl (by exact S4.out) ?_
          apply Exists.intro
          refine ⟨fun wx hS => ?_, ?_⟩
          · have s0 := hS; go_simp; rfl
          simp only [Act.put, List.setIfInBounds_toArray, List.set_cons_succ, List.set_cons_zero, List.getElem_toArray, List.getElem_cons_succ, List.getElem_cons_zero]
          refine wpAnyZ_takeE 9 rfl (by kernel_rfl) (by kernel_rfl) (by kernel_rfl) (by kernel_rfl) (fun _ _ _ _ h => h) rfl (by exact S4.out) ?_
          apply Exists.intro
          refine ⟨fun wx hS => ?_, ?_⟩
          · have s0 := hS; go_simp; rfl
          simp only [Act.put, List.setIfInBounds_toArray, List.set_cons_succ, List.set_cons_zero, List.getElem_toArray, List.getElem_cons_succ, List.getElem_cons_zero]
          refine wpAnyZ_takeE 12 rfl (by kernel_rfl) (by kernel_rfl) (by kernel_rfl) (by kernel_rfl) (fun _ _ _ _ h => h) rfl (by exact S4.out) ?_
          apply Exists.intro
          refine ⟨fun wx hS => ?_, ?_⟩
          · have s0 := hS; go_simp; rfl
          simp only [Act.put, List.setIfInBounds_toArray, List.set_cons_succ, List.set_cons_zero, List.getElem_toArray, List.getElem_cons_succ, List.getElem_cons_zero]
          refine wpAnyZ_one 10 (by kernel_rfl) rfl rfl (fun K hK => ?_)
          try simp only [List.getElem_toArray, List.getElem_cons_succ, List.getElem_cons_zero]
          go_simp
          refine (span_any lo hi _).mono ?_
          rintro e w5 ⟨rfl, hu5⟩
          have hu5' := ((Upd.refl [] w4).drewN _).trans hu5
          have T5 := hide (T4.out.quiet hu5'); have R5 := hide (R4.out.quiet hu5'); have S5 := hide (cell_keep' hu5' S4.out)
          clear hu5 hu5'
          refine hK _ _ (.inr S5.out) ?_
          clear hK K
          try simp only [Act.put, List.setIfInBounds_toArray, List.set_cons_succ, List.set_cons_zero]
          refine wpAnyZ_one 11 (by kernel_rfl) rfl rfl (fun K hK => ?_)
          try simp only [List.getElem_toArray, List.getElem_cons_succ, List.getElem_cons_zero]
          go_simp
          refine (T5.out.add (r := r) (lo, hi) hrn hlh (by simp only; omega) (by omega)).mono ?_
          rintro e w6 ⟨rfl, hu6, d, hd, hm, ht6⟩
          have R6 := hide (R5.out.beside T5.out.at_ (S := [C]) (fun k hk => .inr (by simpa using hk)) hu6)
          have T6 := hide ht6
          have L6 := hide (LL.out.add (d := d) hi2 hm)
          have S6 : Hid (w6.cell? ⟨ab, off + k * 4, none⟩ = some (.int .i64 (r : Int))) := by
            have h5 : ab < w.heap.size := World.block_lt_of_cell? w ⟨ab, off + k * 4, none⟩ A0.out
            have h7 := hu6.block ab (World.block_lt_of_cell? w5 ⟨ab, off + k * 4, none⟩ S5.out) (by
              have := T5.out.at_.loC
              simp
              omega)
            show w6.cell? _ = _
            rw [← S5.out]
            simp only [World.cell?, h7]
          clear hu6 hd hm ht6
          refine hK _ _ (.inr S6.out) ?_
          clear hK K
          try simp only [Act.put, List.setIfInBounds_toArray, List.set_cons_succ, List.set_cons_zero]
          refine wpAnyZ_takeE 13 rfl (by kernel_rfl) (by kernel_rfl) (by kernel_rfl) (by kernel_rfl) (fun _ _ _ _ h => h) rfl (by exact S6.out) ?_
          apply Exists.intro
          refine ⟨fun wx hS => ?_, ?_⟩
          · have s0 := hS; go_simp; rfl
          simp only [Act.put, List.setIfInBounds_toArray, List.set_cons_succ, List.set_cons_zero, List.getElem_toArray, List.getElem_cons_succ, List.getElem_cons_zero]
          refine wpAnyZ_done (by kernel_rfl) ?_ _
          go_wp2_with fail
          refine (same_any (K := k + 1) _ T6.out.at_ R6.out L6.out (by omega) hfl).mono ?_
          rintro e w9 ⟨rfl, hu9⟩
          have T9 := hide (T6.out.quiet hu9); have R9 := hide (R6.out.quiet hu9)
          clear hu9
          go_wp2_with fail
          go_roundw
          case rel => exact ⟨k + 1, floor, _, _, by omega, by go_num, hfl, T9.out, R9.out, L6.out⟩
          case measure => simp [intOf] <;> omega
    · have d5 : decide ((k : Int) < len) = false := by simp; omega
      have d5' : decide (k < len) = false := by simpa using hlt
      go_wp2_with fail
      refine (wakes_any _).mono ?_
      rintro e w3 ⟨rfl, hu3⟩
      have U3 := hide (TT.out.upd.trans hu3)
      clear hu3
      go_wp2_with fail
      go_ret
      exact ⟨rfl, U3.out⟩
end Go.Proofs.Ytmedpbpjjjhhiaa.Vot
