/- wakes: a tally that is known. -/
import Derived.Test.YtmedpbpjjjhhiaaVotN
namespace Go.Proofs.Ytmedpbpjjjhhiaa.Vot
open Go.RowKit

/-- A tally made since w: what its contracts leave. -/
structure Tal (w : World) (T C n floor K : Nat) (l : Nat → List Sp) (w' : World) : Prop where
  at_ : TalAt w' w.heap.size T C n floor K l
  upd : Upd [] w w'
theorem Tal.quiet {w w' w2 : World} {T C n floor K : Nat} {l : Nat → List Sp} (h : Tal w T C n floor K l w') (hu : Upd [] w' w2) : Tal w T C n floor K l w2 := ⟨h.at_.quiet hu, h.upd.trans hu⟩
theorem Tal.new {w : World} (n : Nat) (w1 : World) (hw : Upd [] w w1) (h1 : 1 ≤ n) (h2 : n ≤ 7) : Calls Try.prog 6 #[.int .i64 (n : Int)] w1 fun e w' => ∃ T C, e = .returned (.tuple #[.pointer (some ⟨T, 0, none⟩), .int .i64 0]) ∧ Tal w T C n 0 0 (fun _ => []) w' ∧ w1.heap.size ≤ C ∧ w1.heap.size ≤ T ∧ Upd [] w1 w' := by
  refine (new_any n w1 h1 h2).mono ?_
  rintro e w' ⟨T, C, rfl, hu, hC, hT, ht⟩
  refine ⟨T, C, rfl, ⟨⟨ht.hT, ?_, Nat.le_trans hw.size hT, Nat.le_trans hw.size hC, ht.n1, ht.n7, ht.fl, ht.norm, ht.bnd, ht.len⟩, hw.trans hu⟩, hC, hT, hu⟩
  obtain ⟨cs, g1, g2, g3⟩ := ht.hC
  refine ⟨cs, g1, g2, fun r hr => ?_⟩
  obtain ⟨v, g4, g5⟩ := g3 r hr
  exact ⟨v, g4, owns_mono' g5 hw.size⟩
theorem Tal.add {w w1 : World} {T C n floor K r : Nat} {l : Nat → List Sp} (h : Tal w T C n floor K l w1) (x : Sp) (hr : r < n) (hx : x.1 ≤ x.2) (hx2 : x.2 < 18446744073709551616) (hK : K ≤ 100000) :
    Calls Try.prog 12 #[.pointer (some ⟨T, 0, none⟩), .int .i64 (r : Int), .agg #[.int .u64 (x.1 : Int), .int .u64 (x.2 : Int)]] w1 fun e w' =>
      e = .returned (.int .i64 0) ∧ Upd [C] w1 w' ∧ ∃ d, Norm d ∧ (∀ m, inS d m ↔ inS (l r) m ∨ (max x.1 (floor + 1) ≤ m ∧ m ≤ x.2)) ∧ Tal w T C n floor (K + 1) (fun k => if k = r then d else l k) w' := by
  refine (tadd_any w1 h.at_ hr hx hx2 hK h.upd.size).mono ?_
  rintro e w' ⟨rfl, hu, d, hd, hm⟩
  refine ⟨rfl, hu, d, ?_, hm, ⟨hd, h.upd.trans_new hu (fun k hk => ?_)⟩⟩
  · have := hd.norm r hr
    simpa using this
  · simp at hk; subst hk; exact .inr h.at_.loC
theorem Tal.free {w w1 : World} {T C n floor K top : Nat} {l : Nat → List Sp} (h : Tal w T C n floor K l w1) (hto : top < 18446744073709551616) (hK : K ≤ 100000) :
    Calls Try.prog 10 #[.pointer (some ⟨T, 0, none⟩), .int .u64 (top : Int)] w1 fun e w' => e = .returned (.tuple #[]) ∧ Upd [T, C] w1 w' ∧ Tal w T C n (max floor top) K (fun r => if top ≤ floor then l r else aboveL top (l r)) w' := by
  refine (release_any w1 h.at_ hto hK h.upd.size).mono ?_
  rintro e w' ⟨rfl, hu, ht⟩
  refine ⟨rfl, hu, ⟨ht, h.upd.trans_new hu (fun k hk => ?_)⟩⟩
  simp at hk
  rcases hk with rfl | rfl
  · exact .inr h.at_.loT
  · exact .inr h.at_.loC
def kA : Nat → List Sp := fun k => if k = 0 then [(1, 4)] else []
def kB : Nat → List Sp := fun k => if k = 1 then [(3, 9)] else kA k
def kC : Nat → List Sp := fun k => if k = 1 then [(1, 9)] else kB k
def kD : Nat → List Sp := fun r => aboveL 3 (kC r)
theorem norm1 (a b : Nat) (h : a ≤ b) : Norm [(a, b)] := norm_cons.2 ⟨h, fun _ h => (by cases h), norm_nil⟩
theorem inS1 {a b m : Nat} : inS [(a, b)] m ↔ a ≤ m ∧ m ≤ b := by
  rw [inS_cons]
  exact ⟨fun h => h.elim id fun h => absurd h inS_nil, .inl⟩
theorem upto0 : UptoIs 3 0 kB 0 0 := ⟨by decide, by decide, fun k h1 h2 => by omega, fun _ => by decide⟩
theorem upto4 : UptoIs 3 0 kC 0 4 := by
  refine ⟨by decide, by decide, fun k h1 h2 => ?_, fun _ => by decide⟩
  have : k = 1 ∨ k = 2 ∨ k = 3 ∨ k = 4 := by
    simp at h1; omega
  rcases this with rfl | rfl | rfl | rfl <;> decide
theorem cell_keep' {w w' : World} {g i : Nat} {v : Value} (hu : Upd [] w w') (h : w.cell? ⟨g, i, none⟩ = some v) : w'.cell? ⟨g, i, none⟩ = some v := by
  have hb := hu.block g (World.block_lt_of_cell? w ⟨g, i, none⟩ h) (by simp)
  rw [← h]
  simp only [World.cell?, hb]
def Two (g1 g2 : Nat) (w : World) : Prop := w.cell? ⟨g1, 0, none⟩ = some (.int .u64 1) ∧ w.cell? ⟨g1, 1, none⟩ = some (.int .u64 9) ∧ w.cell? ⟨g2, 0, none⟩ = some (.int .u64 4) ∧ w.cell? ⟨g2, 1, none⟩ = some (.int .u64 4)
theorem Two.keep {g1 g2 : Nat} {w w' : World} (h : Two g1 g2 w) (hu : Upd [] w w') : Two g1 g2 w' := ⟨cell_keep' hu h.1, cell_keep' hu h.2.1, cell_keep' hu h.2.2.1, cell_keep' hu h.2.2.2⟩
set_option maxRecDepth 100000 in
set_option maxHeartbeats 4000000 in
theorem wakes_any (w : World) : Calls Try.prog 7 #[] w fun e w' => e = .returned (.bool true) ∧ Upd [] w w' := by
  go_enter Try.func7, Try.ntmps7
  go_wp2_with fail
  refine (Tal.new (w := w) 3 w (Upd.refl _ _) (by omega) (by omega)).mono ?_
  rintro e w1 ⟨T, C, rfl, h1, -, -, -⟩
  have H1 := hide h1
  clear h1
  go_wp2_with fail
  refine (span_any 1 4 _).mono ?_
  rintro e w2 ⟨rfl, hu2⟩
  have H2 := hide (H1.out.quiet hu2)
  clear hu2 H1
  go_wp2_with fail
  refine (H2.out.add (r := 0) (1, 4) (by omega) (by decide) (by decide) (by omega)).mono ?_
  rintro e w3 ⟨rfl, -, d, hd, hm, h3⟩
  have e3 : d = [(1, 4)] := norm_ext hd (norm1 _ _ (by decide)) fun m => by
    rw [hm m, inS1]
    have := @inS_nil m
    simp only [this, false_or]
    omega
  subst e3
  have H3 : Hid (Tal w T C 3 0 1 kA w3) := h3
  clear h3 hd hm H2
  go_wp2_with fail
  refine (span_any 3 9 _).mono ?_
  rintro e w4 ⟨rfl, hu4⟩
  have H4 := hide (H3.out.quiet hu4)
  clear hu4 H3
  go_wp2_with fail
  refine (H4.out.add (r := 1) (3, 9) (by omega) (by decide) (by decide) (by omega)).mono ?_
  rintro e w5 ⟨rfl, -, d, hd, hm, h5⟩
  have e5 : d = [(3, 9)] := norm_ext hd (norm1 _ _ (by decide)) fun m => by
    rw [hm m, inS1, show kA 1 = [] from rfl]
    have := @inS_nil m
    simp only [this, false_or]
    omega
  subst e5
  have H5 : Hid (Tal w T C 3 0 2 kB w5) := h5
  clear h5 hd hm H4
  go_wp2_with fail
  refine (upto_any (s := 0) _ H5.out.at_ (by omega)).mono ?_
  rintro e w6 ⟨u, rfl, hup, hu6⟩
  obtain rfl := hup.eq upto0
  have H6 := hide (H5.out.quiet hu6)
  clear hu6 hup H5
  go_wp2_with fail
  refine (span_any 1 2 _).mono ?_
  rintro e w7 ⟨rfl, hu7⟩
  have H7 := hide (H6.out.quiet hu7)
  clear hu7 H6
  go_wp2_with fail
  refine (H7.out.add (r := 1) (1, 2) (by omega) (by decide) (by decide) (by omega)).mono ?_
  rintro e w8 ⟨rfl, -, d, hd, hm, h8⟩
  have e8 : d = [(1, 9)] := norm_ext hd (norm1 _ _ (by decide)) fun m => by
    rw [hm m, inS1, show kB 1 = [(3, 9)] from rfl, inS1]
    omega
  subst e8
  have H8 : Hid (Tal w T C 3 0 3 kC w8) := h8
  clear h8 hd hm H7
  go_wp2_with fail
  refine (upto_any (s := 0) _ H8.out.at_ (by omega)).mono ?_
  rintro e w9 ⟨u, rfl, hup, hu9⟩
  obtain rfl := hup.eq upto4
  have H9 := hide (H8.out.quiet hu9)
  clear hu9 hup H8
  go_wp2_with fail
  have hT9 := blk_lt H9.out.at_.hT
  have hC9 : C < w9.heap.size := by obtain ⟨_, g, -⟩ := H9.out.at_.hC; exact blk_lt g
  refine (spans_any (r := 1) _ H9.out.at_ (by omega) (by omega)).mono ?_
  rintro e w10 ⟨ao1, cap1, rfl, hr1, hu10⟩
  have R1 : Hid (w10.ownsRow w9.heap.size TSpan 2 (.slice ao1 1 cap1) 1 [.int .u64 1, .int .u64 9]) := hr1
  rw [show (kC 1).length = 1 from rfl]
  have H10 := hide (H9.out.quiet hu10)
  clear hu10 hr1 H9
  go_wp2_with fail
  refine (H10.out.free (top := 3) (by omega) (by omega)).mono ?_
  rintro e w11 ⟨rfl, hu11, h11⟩
  have H11 : Hid (Tal w T C 3 3 3 kD w11) := h11
  have R11 := hide (owns_upd R1.out hu11 (fun k hk => by have := (owns_lt R1.out k hk).1; simp; omega))
  clear h11 hu11 H10 R1
  go_wp2_with fail
  refine (spans_any (r := 0) _ H11.out.at_ (by omega) (by omega)).mono ?_
  rintro e w12 ⟨ao2, cap2, rfl, hr2, hu12⟩
  have R2 : Hid (w12.ownsRow w11.heap.size TSpan 2 (.slice ao2 1 cap2) 1 [.int .u64 4, .int .u64 4]) := hr2
  rw [show (kD 0).length = 1 from rfl]
  have H12 := hide (H11.out.quiet hu12)
  obtain ⟨ao1', cap1', e1, c1, c2, c3⟩ := owns_slice (owns_upd R11.out hu12 (by simp))
  cases e1
  obtain ⟨g1, rfl, -, -, a0⟩ := c3 0 (.int .u64 1) rfl
  obtain ⟨g1', e1, -, -, a1⟩ := c3 1 (.int .u64 9) rfl
  cases e1
  obtain ⟨ao2', cap2', e2, c4, c5, c6⟩ := owns_slice R2.out
  cases e2
  obtain ⟨g2, rfl, -, -, b0⟩ := c6 0 (.int .u64 4) rfl
  obtain ⟨g2', e2, -, -, b1⟩ := c6 1 (.int .u64 4) rfl
  cases e2
  have S12 : Hid (Two g1 g2 w12) := ⟨a0, a1, b0, b1⟩
  have hB := H12.out.upd
  simp only [maxLen] at c2 c5
  clear hu12 hr2 H11 R11 R2 c3 c6 a0 a1 b0 b1 hB
  go_wp2_with fail
  refine wp_region_z (Two g1 g2) 99 (by kernel_rfl) ?_
  refine wpAnyZ_takeE 0 rfl (by kernel_rfl) (by kernel_rfl) (by kernel_rfl) (by kernel_rfl) (fun _ _ _ _ h => h) rfl (by exact S12.out) ?_
  apply Exists.intro
  refine ⟨fun wx hS => ?_, ?_⟩
  · obtain ⟨s0, s1, s2, s3⟩ := hS; go_simp; rfl
  simp only [Act.put, List.setIfInBounds_toArray, List.set_cons_succ, List.set_cons_zero, List.getElem_toArray, List.getElem_cons_zero]
  refine wpAnyZ_takeE 1 rfl (by kernel_rfl) (by kernel_rfl) (by kernel_rfl) (by kernel_rfl) (fun _ _ _ _ h => h) rfl (by exact S12.out) ?_
  apply Exists.intro
  refine ⟨fun wx hS => ?_, ?_⟩
  · obtain ⟨s0, s1, s2, s3⟩ := hS; go_simp; rfl
  simp only [Act.put, List.setIfInBounds_toArray, List.set_cons_succ, List.set_cons_zero, List.getElem_toArray, List.getElem_cons_succ, List.getElem_cons_zero]
  refine wpAnyZ_takeE 2 rfl (by kernel_rfl) (by kernel_rfl) (by kernel_rfl) (by kernel_rfl) (fun _ _ _ _ h => h) rfl (by exact S12.out) ?_
  apply Exists.intro
  refine ⟨fun wx hS => ?_, ?_⟩
  · obtain ⟨s0, s1, s2, s3⟩ := hS; go_simp; rfl
  simp only [Act.put, List.setIfInBounds_toArray, List.set_cons_succ, List.set_cons_zero, List.getElem_toArray, List.getElem_cons_succ, List.getElem_cons_zero]
  refine wpAnyZ_takeE 3 rfl (by kernel_rfl) (by kernel_rfl) (by kernel_rfl) (by kernel_rfl) (fun _ _ _ _ h => h) rfl (by exact S12.out) ?_
  apply Exists.intro
  refine ⟨fun wx hS => ?_, ?_⟩
  · obtain ⟨s0, s1, s2, s3⟩ := hS; go_simp; rfl
  simp only [Act.put, List.setIfInBounds_toArray, List.set_cons_succ, List.set_cons_zero, List.getElem_toArray, List.getElem_cons_succ, List.getElem_cons_zero]
  refine wpAnyZ_takeE 4 rfl (by kernel_rfl) (by kernel_rfl) (by kernel_rfl) (by kernel_rfl) (fun _ _ _ _ h => h) rfl (by exact S12.out) ?_
  apply Exists.intro
  refine ⟨fun wx hS => ?_, ?_⟩
  · obtain ⟨s0, s1, s2, s3⟩ := hS; go_simp; rfl
  simp only [Act.put, List.setIfInBounds_toArray, List.set_cons_succ, List.set_cons_zero, List.getElem_toArray, List.getElem_cons_succ, List.getElem_cons_zero]
  refine wpAnyZ_takeE 5 rfl (by kernel_rfl) (by kernel_rfl) (by kernel_rfl) (by kernel_rfl) (fun _ _ _ _ h => h) rfl (by exact S12.out) ?_
  apply Exists.intro
  refine ⟨fun wx hS => ?_, ?_⟩
  · obtain ⟨s0, s1, s2, s3⟩ := hS; go_simp; rfl
  simp only [Act.put, List.setIfInBounds_toArray, List.set_cons_succ, List.set_cons_zero, List.getElem_toArray, List.getElem_cons_succ, List.getElem_cons_zero]
  refine wpAnyZ_takeE 6 rfl (by kernel_rfl) (by kernel_rfl) (by kernel_rfl) (by kernel_rfl) (fun _ _ _ _ h => h) rfl (by exact S12.out) ?_
  apply Exists.intro
  refine ⟨fun wx hS => ?_, ?_⟩
  · obtain ⟨s0, s1, s2, s3⟩ := hS; go_simp; rfl
  simp only [Act.put, List.setIfInBounds_toArray, List.set_cons_succ, List.set_cons_zero, List.getElem_toArray, List.getElem_cons_succ, List.getElem_cons_zero]
  refine wpAnyZ_one 7 (by kernel_rfl) rfl rfl (fun K hK => ?_)
  try simp only [List.getElem_toArray, List.getElem_cons_succ, List.getElem_cons_zero]
  go_simp
  refine (span_any 1 9 _).mono ?_
  rintro e w13 ⟨rfl, hu13⟩
  have H13 := hide ((H12.out.quiet ((Upd.refl [] w12).drewN _)).quiet hu13); have S13 := hide ((S12.out.keep ((Upd.refl [] w12).drewN _)).keep hu13)
  clear hu13 H12 S12
  refine hK _ _ (.inr S13.out) ?_
  clear hK K
  try simp only [Act.put, List.setIfInBounds_toArray, List.set_cons_succ, List.set_cons_zero]
  refine wpAnyZ_takeE 8 rfl (by kernel_rfl) (by kernel_rfl) (by kernel_rfl) (by kernel_rfl) (fun _ _ _ _ h => h) rfl (by exact S13.out) ?_
  apply Exists.intro
  refine ⟨fun wx hS => ?_, ?_⟩
  · obtain ⟨s0, s1, s2, s3⟩ := hS; go_simp; rfl
  simp only [Act.put, List.setIfInBounds_toArray, List.set_cons_succ, List.set_cons_zero, List.getElem_toArray, List.getElem_cons_succ, List.getElem_cons_zero]
  refine wpAnyZ_takeE 9 rfl (by kernel_rfl) (by kernel_rfl) (by kernel_rfl) (by kernel_rfl) (fun _ _ _ _ h => h) rfl (by exact S13.out) ?_
  apply Exists.intro
  refine ⟨fun wx hS => ?_, ?_⟩
  · obtain ⟨s0, s1, s2, s3⟩ := hS; go_simp; rfl
  simp only [Act.put, List.setIfInBounds_toArray, List.set_cons_succ, List.set_cons_zero, List.getElem_toArray, List.getElem_cons_succ, List.getElem_cons_zero]
  refine wpAnyZ_takeE 10 rfl (by kernel_rfl) (by kernel_rfl) (by kernel_rfl) (by kernel_rfl) (fun _ _ _ _ h => h) rfl (by exact S13.out) ?_
  apply Exists.intro
  refine ⟨fun wx hS => ?_, ?_⟩
  · obtain ⟨s0, s1, s2, s3⟩ := hS; go_simp; rfl
  simp only [Act.put, List.setIfInBounds_toArray, List.set_cons_succ, List.set_cons_zero, List.getElem_toArray, List.getElem_cons_succ, List.getElem_cons_zero]
  refine wpAnyZ_takeE 11 rfl (by kernel_rfl) (by kernel_rfl) (by kernel_rfl) (by kernel_rfl) (fun _ _ _ _ h => h) rfl (by exact S13.out) ?_
  apply Exists.intro
  refine ⟨fun wx hS => ?_, ?_⟩
  · obtain ⟨s0, s1, s2, s3⟩ := hS; go_simp; rfl
  simp only [Act.put, List.setIfInBounds_toArray, List.set_cons_succ, List.set_cons_zero, List.getElem_toArray, List.getElem_cons_succ, List.getElem_cons_zero]
  refine wpAnyZ_takeE 12 rfl (by kernel_rfl) (by kernel_rfl) (by kernel_rfl) (by kernel_rfl) (fun _ _ _ _ h => h) rfl (by exact S13.out) ?_
  apply Exists.intro
  refine ⟨fun wx hS => ?_, ?_⟩
  · obtain ⟨s0, s1, s2, s3⟩ := hS; go_simp; rfl
  simp only [Act.put, List.setIfInBounds_toArray, List.set_cons_succ, List.set_cons_zero, List.getElem_toArray, List.getElem_cons_succ, List.getElem_cons_zero]
  refine wpAnyZ_takeE 13 rfl (by kernel_rfl) (by kernel_rfl) (by kernel_rfl) (by kernel_rfl) (fun _ _ _ _ h => h) rfl (by exact S13.out) ?_
  apply Exists.intro
  refine ⟨fun wx hS => ?_, ?_⟩
  · obtain ⟨s0, s1, s2, s3⟩ := hS; go_simp; rfl
  simp only [Act.put, List.setIfInBounds_toArray, List.set_cons_succ, List.set_cons_zero, List.getElem_toArray, List.getElem_cons_succ, List.getElem_cons_zero]
  refine wpAnyZ_takeE 14 rfl (by kernel_rfl) (by kernel_rfl) (by kernel_rfl) (by kernel_rfl) (fun _ _ _ _ h => h) rfl (by exact S13.out) ?_
  apply Exists.intro
  refine ⟨fun wx hS => ?_, ?_⟩
  · obtain ⟨s0, s1, s2, s3⟩ := hS; go_simp; rfl
  simp only [Act.put, List.setIfInBounds_toArray, List.set_cons_succ, List.set_cons_zero, List.getElem_toArray, List.getElem_cons_succ, List.getElem_cons_zero]
  refine wpAnyZ_takeE 15 rfl (by kernel_rfl) (by kernel_rfl) (by kernel_rfl) (by kernel_rfl) (fun _ _ _ _ h => h) rfl (by exact S13.out) ?_
  apply Exists.intro
  refine ⟨fun wx hS => ?_, ?_⟩
  · obtain ⟨s0, s1, s2, s3⟩ := hS; go_simp; rfl
  simp only [Act.put, List.setIfInBounds_toArray, List.set_cons_succ, List.set_cons_zero, List.getElem_toArray, List.getElem_cons_succ, List.getElem_cons_zero]
  refine wpAnyZ_takeE 16 rfl (by kernel_rfl) (by kernel_rfl) (by kernel_rfl) (by kernel_rfl) (fun _ _ _ _ h => h) rfl (by exact S13.out) ?_
  apply Exists.intro
  refine ⟨fun wx hS => ?_, ?_⟩
  · obtain ⟨s0, s1, s2, s3⟩ := hS; go_simp; rfl
  simp only [Act.put, List.setIfInBounds_toArray, List.set_cons_succ, List.set_cons_zero, List.getElem_toArray, List.getElem_cons_succ, List.getElem_cons_zero]
  refine wpAnyZ_takeE 17 rfl (by kernel_rfl) (by kernel_rfl) (by kernel_rfl) (by kernel_rfl) (fun _ _ _ _ h => h) rfl (by exact S13.out) ?_
  apply Exists.intro
  refine ⟨fun wx hS => ?_, ?_⟩
  · obtain ⟨s0, s1, s2, s3⟩ := hS; go_simp; rfl
  simp only [Act.put, List.setIfInBounds_toArray, List.set_cons_succ, List.set_cons_zero, List.getElem_toArray, List.getElem_cons_succ, List.getElem_cons_zero]
  refine wpAnyZ_takeE 18 rfl (by kernel_rfl) (by kernel_rfl) (by kernel_rfl) (by kernel_rfl) (fun _ _ _ _ h => h) rfl (by exact S13.out) ?_
  apply Exists.intro
  refine ⟨fun wx hS => ?_, ?_⟩
  · obtain ⟨s0, s1, s2, s3⟩ := hS; go_simp; rfl
  simp only [Act.put, List.setIfInBounds_toArray, List.set_cons_succ, List.set_cons_zero, List.getElem_toArray, List.getElem_cons_succ, List.getElem_cons_zero]
  refine wpAnyZ_one 19 (by kernel_rfl) rfl rfl (fun K hK => ?_)
  try simp only [List.getElem_toArray, List.getElem_cons_succ, List.getElem_cons_zero]
  go_simp
  refine (span_any 4 4 _).mono ?_
  rintro e w14 ⟨rfl, hu14⟩
  have H14 := hide (H13.out.quiet hu14); have S14 := hide (S13.out.keep hu14)
  clear hu14 H13 S13
  refine hK _ _ (.inr S14.out) ?_
  clear hK K
  try simp only [Act.put, List.setIfInBounds_toArray, List.set_cons_succ, List.set_cons_zero]
  refine wpAnyZ_takeE 20 rfl (by kernel_rfl) (by kernel_rfl) (by kernel_rfl) (by kernel_rfl) (fun _ _ _ _ h => h) rfl (by exact S14.out) ?_
  apply Exists.intro
  refine ⟨fun wx hS => ?_, ?_⟩
  · obtain ⟨s0, s1, s2, s3⟩ := hS; go_simp; rfl
  simp only [Act.put, List.setIfInBounds_toArray, List.set_cons_succ, List.set_cons_zero, List.getElem_toArray, List.getElem_cons_succ, List.getElem_cons_zero]
  refine wpAnyZ_takeE 21 rfl (by kernel_rfl) (by kernel_rfl) (by kernel_rfl) (by kernel_rfl) (fun _ _ _ _ h => h) rfl (by exact S14.out) ?_
  apply Exists.intro
  refine ⟨fun wx hS => ?_, ?_⟩
  · obtain ⟨s0, s1, s2, s3⟩ := hS; go_simp; rfl
  simp only [Act.put, List.setIfInBounds_toArray, List.set_cons_succ, List.set_cons_zero, List.getElem_toArray, List.getElem_cons_succ, List.getElem_cons_zero]
  refine wpAnyZ_takeE 22 rfl (by kernel_rfl) (by kernel_rfl) (by kernel_rfl) (by kernel_rfl) (fun _ _ _ _ h => h) rfl (by exact S14.out) ?_
  apply Exists.intro
  refine ⟨fun wx hS => ?_, ?_⟩
  · obtain ⟨s0, s1, s2, s3⟩ := hS; go_simp; rfl
  simp only [Act.put, List.setIfInBounds_toArray, List.set_cons_succ, List.set_cons_zero, List.getElem_toArray, List.getElem_cons_succ, List.getElem_cons_zero]
  refine wpAnyZ_takeE 23 rfl (by kernel_rfl) (by kernel_rfl) (by kernel_rfl) (by kernel_rfl) (fun _ _ _ _ h => h) rfl (by exact S14.out) ?_
  apply Exists.intro
  refine ⟨fun wx hS => ?_, ?_⟩
  · obtain ⟨s0, s1, s2, s3⟩ := hS; go_simp; rfl
  simp only [Act.put, List.setIfInBounds_toArray, List.set_cons_succ, List.set_cons_zero, List.getElem_toArray, List.getElem_cons_succ, List.getElem_cons_zero]
  refine wpAnyZ_one 24 (by kernel_rfl) rfl rfl (fun K hK => ?_)
  try simp only [List.getElem_toArray, List.getElem_cons_succ, List.getElem_cons_zero]
  go_simp
  refine (chosen_any (m := 2) _ H14.out.at_).mono ?_
  rintro e w15 ⟨rfl, hu15⟩
  have H15 := hide (H14.out.quiet hu15); have S15 := hide (S14.out.keep hu15)
  clear hu15 H14 S14
  rw [show chosenB 3 3 kD 2 = true by decide]
  refine hK _ _ (.inr S15.out) ?_
  clear hK K
  try simp only [Act.put, List.setIfInBounds_toArray, List.set_cons_succ, List.set_cons_zero]
  refine wpAnyZ_takeE 25 rfl (by kernel_rfl) (by kernel_rfl) (by kernel_rfl) (by kernel_rfl) (fun _ _ _ _ h => h) rfl (by exact S15.out) ?_
  apply Exists.intro
  refine ⟨fun wx hS => ?_, ?_⟩
  · obtain ⟨s0, s1, s2, s3⟩ := hS; go_simp; rfl
  simp only [Act.put, List.setIfInBounds_toArray, List.set_cons_succ, List.set_cons_zero, List.getElem_toArray, List.getElem_cons_succ, List.getElem_cons_zero]
  refine wpAnyZ_takeE 26 rfl (by kernel_rfl) (by kernel_rfl) (by kernel_rfl) (by kernel_rfl) (fun _ _ _ _ h => h) rfl (by exact S15.out) ?_
  apply Exists.intro
  refine ⟨fun wx hS => ?_, ?_⟩
  · obtain ⟨s0, s1, s2, s3⟩ := hS; go_simp; rfl
  simp only [Act.put, List.setIfInBounds_toArray, List.set_cons_succ, List.set_cons_zero, List.getElem_toArray, List.getElem_cons_succ, List.getElem_cons_zero]
  refine wpAnyZ_takeE 27 rfl (by kernel_rfl) (by kernel_rfl) (by kernel_rfl) (by kernel_rfl) (fun _ _ _ _ h => h) rfl (by exact S15.out) ?_
  apply Exists.intro
  refine ⟨fun wx hS => ?_, ?_⟩
  · obtain ⟨s0, s1, s2, s3⟩ := hS; go_simp; rfl
  simp only [Act.put, List.setIfInBounds_toArray, List.set_cons_succ, List.set_cons_zero, List.getElem_toArray, List.getElem_cons_succ, List.getElem_cons_zero]
  refine wpAnyZ_one 28 (by kernel_rfl) rfl rfl (fun K hK => ?_)
  try simp only [List.getElem_toArray, List.getElem_cons_succ, List.getElem_cons_zero]
  go_simp
  refine (thas_any (r := 2) (m := 3) _ H15.out.at_ (by omega)).mono ?_
  rintro e w16 ⟨rfl, hu16⟩
  have H16 := hide (H15.out.quiet hu16); have S16 := hide (S15.out.keep hu16)
  clear hu16 H15 S15
  rw [show hasB 3 (kD 2) 3 = true by decide]
  refine hK _ _ (.inr S16.out) ?_
  clear hK K
  try simp only [Act.put, List.setIfInBounds_toArray, List.set_cons_succ, List.set_cons_zero]
  refine wpAnyZ_takeE 29 rfl (by kernel_rfl) (by kernel_rfl) (by kernel_rfl) (by kernel_rfl) (fun _ _ _ _ h => h) rfl (by exact S16.out) ?_
  apply Exists.intro
  refine ⟨fun wx hS => ?_, ?_⟩
  · obtain ⟨s0, s1, s2, s3⟩ := hS; go_simp; rfl
  simp only [Act.put, List.setIfInBounds_toArray, List.set_cons_succ, List.set_cons_zero, List.getElem_toArray, List.getElem_cons_succ, List.getElem_cons_zero]
  refine wpAnyZ_takeE 30 rfl (by kernel_rfl) (by kernel_rfl) (by kernel_rfl) (by kernel_rfl) (fun _ _ _ _ h => h) rfl (by exact S16.out) ?_
  apply Exists.intro
  refine ⟨fun wx hS => ?_, ?_⟩
  · obtain ⟨s0, s1, s2, s3⟩ := hS; go_simp; rfl
  simp only [Act.put, List.setIfInBounds_toArray, List.set_cons_succ, List.set_cons_zero, List.getElem_toArray, List.getElem_cons_succ, List.getElem_cons_zero]
  refine wpAnyZ_takeE 31 rfl (by kernel_rfl) (by kernel_rfl) (by kernel_rfl) (by kernel_rfl) (fun _ _ _ _ h => h) rfl (by exact S16.out) ?_
  apply Exists.intro
  refine ⟨fun wx hS => ?_, ?_⟩
  · obtain ⟨s0, s1, s2, s3⟩ := hS; go_simp; rfl
  simp only [Act.put, List.setIfInBounds_toArray, List.set_cons_succ, List.set_cons_zero, List.getElem_toArray, List.getElem_cons_succ, List.getElem_cons_zero]
  refine wpAnyZ_one 32 (by kernel_rfl) rfl rfl (fun K hK => ?_)
  try simp only [List.getElem_toArray, List.getElem_cons_succ, List.getElem_cons_zero]
  go_simp
  refine (thas_any (r := 2) (m := 4) _ H16.out.at_ (by omega)).mono ?_
  rintro e w17 ⟨rfl, hu17⟩
  have H17 := hide (H16.out.quiet hu17); have S17 := hide (S16.out.keep hu17)
  clear hu17 H16 S16
  rw [show hasB 3 (kD 2) 4 = false by decide]
  refine hK _ _ (.inr S17.out) ?_
  clear hK K
  try simp only [Act.put, List.setIfInBounds_toArray, List.set_cons_succ, List.set_cons_zero]
  refine wpAnyZ_takeE 33 rfl (by kernel_rfl) (by kernel_rfl) (by kernel_rfl) (by kernel_rfl) (fun _ _ _ _ h => h) rfl (by exact S17.out) ?_
  apply Exists.intro
  refine ⟨fun wx hS => ?_, ?_⟩
  · obtain ⟨s0, s1, s2, s3⟩ := hS; go_simp; rfl
  simp only [Act.put, List.setIfInBounds_toArray, List.set_cons_succ, List.set_cons_zero, List.getElem_toArray, List.getElem_cons_succ, List.getElem_cons_zero]
  refine wpAnyZ_takeE 34 rfl (by kernel_rfl) (by kernel_rfl) (by kernel_rfl) (by kernel_rfl) (fun _ _ _ _ h => h) rfl (by exact S17.out) ?_
  apply Exists.intro
  refine ⟨fun wx hS => ?_, ?_⟩
  · obtain ⟨s0, s1, s2, s3⟩ := hS; go_simp; rfl
  simp only [Act.put, List.setIfInBounds_toArray, List.set_cons_succ, List.set_cons_zero, List.getElem_toArray, List.getElem_cons_succ, List.getElem_cons_zero]
  refine wpAnyZ_takeE 35 rfl (by kernel_rfl) (by kernel_rfl) (by kernel_rfl) (by kernel_rfl) (fun _ _ _ _ h => h) rfl (by exact S17.out) ?_
  apply Exists.intro
  refine ⟨fun wx hS => ?_, ?_⟩
  · obtain ⟨s0, s1, s2, s3⟩ := hS; go_simp; rfl
  simp only [Act.put, List.setIfInBounds_toArray, List.set_cons_succ, List.set_cons_zero, List.getElem_toArray, List.getElem_cons_succ, List.getElem_cons_zero]
  refine wpAnyZ_one 36 (by kernel_rfl) rfl rfl (fun K hK => ?_)
  try simp only [List.getElem_toArray, List.getElem_cons_succ, List.getElem_cons_zero]
  go_simp
  refine (majority_any 4 _ (by omega)).mono ?_
  rintro e w18 ⟨rfl, rfl⟩
  have H18 := H17; have S18 := S17
  clear H17 S17
  rw [show maj 4 = 3 from rfl]
  refine hK _ _ (.inr S18.out) ?_
  clear hK K
  try simp only [Act.put, List.setIfInBounds_toArray, List.set_cons_succ, List.set_cons_zero]
  refine wpAnyZ_takeE 37 rfl (by kernel_rfl) (by kernel_rfl) (by kernel_rfl) (by kernel_rfl) (fun _ _ _ _ h => h) rfl (by exact S18.out) ?_
  apply Exists.intro
  refine ⟨fun wx hS => ?_, ?_⟩
  · obtain ⟨s0, s1, s2, s3⟩ := hS; go_simp; rfl
  simp only [Act.put, List.setIfInBounds_toArray, List.set_cons_succ, List.set_cons_zero, List.getElem_toArray, List.getElem_cons_succ, List.getElem_cons_zero]
  refine wpAnyZ_takeE 38 rfl (by kernel_rfl) (by kernel_rfl) (by kernel_rfl) (by kernel_rfl) (fun _ _ _ _ h => h) rfl (by exact S18.out) ?_
  apply Exists.intro
  refine ⟨fun wx hS => ?_, ?_⟩
  · obtain ⟨s0, s1, s2, s3⟩ := hS; go_simp; rfl
  simp only [Act.put, List.setIfInBounds_toArray, List.set_cons_succ, List.set_cons_zero, List.getElem_toArray, List.getElem_cons_succ, List.getElem_cons_zero]
  refine wpAnyZ_takeE 39 rfl (by kernel_rfl) (by kernel_rfl) (by kernel_rfl) (by kernel_rfl) (fun _ _ _ _ h => h) rfl (by exact S18.out) ?_
  apply Exists.intro
  refine ⟨fun wx hS => ?_, ?_⟩
  · obtain ⟨s0, s1, s2, s3⟩ := hS; go_simp; rfl
  simp only [Act.put, List.setIfInBounds_toArray, List.set_cons_succ, List.set_cons_zero, List.getElem_toArray, List.getElem_cons_succ, List.getElem_cons_zero]
  refine wpAnyZ_one 40 (by kernel_rfl) rfl rfl (fun K hK => ?_)
  try simp only [List.getElem_toArray, List.getElem_cons_succ, List.getElem_cons_zero]
  go_simp
  refine (majority_any 5 _ (by omega)).mono ?_
  rintro e w19 ⟨rfl, rfl⟩
  have H19 := H18; have S19 := S18
  clear H18 S18
  rw [show maj 5 = 3 from rfl]
  refine hK _ _ (.inr S19.out) ?_
  clear hK K
  try simp only [Act.put, List.setIfInBounds_toArray, List.set_cons_succ, List.set_cons_zero]
  refine wpAnyZ_takeE 41 rfl (by kernel_rfl) (by kernel_rfl) (by kernel_rfl) (by kernel_rfl) (fun _ _ _ _ h => h) rfl (by exact S19.out) ?_
  apply Exists.intro
  refine ⟨fun wx hS => ?_, ?_⟩
  · obtain ⟨s0, s1, s2, s3⟩ := hS; go_simp; rfl
  simp only [Act.put, List.setIfInBounds_toArray, List.set_cons_succ, List.set_cons_zero, List.getElem_toArray, List.getElem_cons_succ, List.getElem_cons_zero]
  refine wpAnyZ_takeE 42 rfl (by kernel_rfl) (by kernel_rfl) (by kernel_rfl) (by kernel_rfl) (fun _ _ _ _ h => h) rfl (by exact S19.out) ?_
  apply Exists.intro
  refine ⟨fun wx hS => ?_, ?_⟩
  · obtain ⟨s0, s1, s2, s3⟩ := hS; go_simp; rfl
  simp only [Act.put, List.setIfInBounds_toArray, List.set_cons_succ, List.set_cons_zero, List.getElem_toArray, List.getElem_cons_succ, List.getElem_cons_zero]
  refine wpAnyZ_takeE 43 rfl (by kernel_rfl) (by kernel_rfl) (by kernel_rfl) (by kernel_rfl) (fun _ _ _ _ h => h) rfl (by exact S19.out) ?_
  apply Exists.intro
  refine ⟨fun wx hS => ?_, ?_⟩
  · obtain ⟨s0, s1, s2, s3⟩ := hS; go_simp; rfl
  simp only [Act.put, List.setIfInBounds_toArray, List.set_cons_zero, List.getElem_toArray, List.getElem_cons_succ, List.getElem_cons_zero]
  refine wpAnyZ_done (by kernel_rfl) ?_ _
  go_wp2_with fail
  go_ret
  exact ⟨rfl, H19.out.upd⟩
end Go.Proofs.Ytmedpbpjjjhhiaa.Vot
