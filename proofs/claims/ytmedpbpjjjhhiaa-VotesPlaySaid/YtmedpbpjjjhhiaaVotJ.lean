/- same: has a tally what the document says? -/
import Derived.Test.YtmedpbpjjjhhiaaVotH
namespace Go.Proofs.Ytmedpbpjjjhhiaa.Vot
open Go.RowKit

/-- A tally and the document's have the same. -/
structure Link (n floor : Nat) (l : Nat → List Sp) (st : Nat → Nat → Bool) : Prop where
  mem : ∀ r, r < n → ∀ m, inS (l r) m ↔ floor < m ∧ m < 200 ∧ st r m = true
  far : ∀ r, r < n → ∀ m, 200 ≤ m → st r m = false
theorem Link.raw {n floor : Nat} {l : Nat → List Sp} {st : Nat → Nat → Bool} (h : Link n floor l st) {r s : Nat} (hr : r < n) (hs : floor < s) : inb (l r) s = st r s := by
  rw [Bool.eq_iff_iff, inb_iff, h.mem r hr s]
  constructor
  · exact fun h1 => h1.2.2
  · intro h1
    refine ⟨hs, ?_, h1⟩
    rcases Nat.lt_or_ge s 200 with h2 | h2
    · exact h2
    · rw [h.far r hr s h2] at h1; cases h1
theorem Link.has {n floor : Nat} {l : Nat → List Sp} {st : Nat → Nat → Bool} (h : Link n floor l st) {r s : Nat} (hr : r < n) : hasB floor (l r) s = rhasB floor st r s := by
  unfold hasB rhasB
  by_cases hs : s ≤ floor
  · simp [hs]
  · rw [h.raw hr (by omega), Bool.or_comm]
theorem Link.chosen {n floor : Nat} {l : Nat → List Sp} {st : Nat → Nat → Bool} (h : Link n floor l st) (s : Nat) : chosenB n floor l s = rchosenB n floor st s := by
  unfold chosenB rchosenB maj
  rw [cnt_congr fun r hr => h.has (s := s) hr]
  rw [decide_eq_decide]
  omega
theorem Link.cnt {n floor : Nat} {l : Nat → List Sp} {st : Nat → Nat → Bool} (h : Link n floor l st) {k : Nat} (hk : floor < k) : (maj n ≤ cnt (fun r => inb (l r) k) n) ↔ rchosenB n floor st k = true := by
  have e : Vot.cnt (fun r => inb (l r) k) n = Vot.cnt (fun r => rhasB floor st r k) n := cnt_congr fun r hr => by
    rw [h.raw hr hk]
    unfold rhasB
    have : ¬ k ≤ floor := by omega
    simp [this]
  rw [e]
  unfold rchosenB maj
  simp
  omega
theorem Link.none {n floor : Nat} {l : Nat → List Sp} {st : Nat → Nat → Bool} (h : Link n floor l st) {k : Nat} (hk : 200 ≤ k) : Vot.cnt (fun r => inb (l r) k) n = 0 := by
  have : Vot.cnt (fun r => inb (l r) k) n ≤ Vot.cnt (fun _ => false) n := cnt_mono fun r hr h1 => by
    have := (h.mem r hr k).1 (inb_iff.1 h1)
    omega
  have h0 : ∀ m, Vot.cnt (fun _ => false) m = 0 := fun m => by
    induction m with
    | zero => rfl
    | succ m ih => simp [Vot.cnt, ih]
  rw [h0] at this
  omega
theorem Link.upto {n floor s u v : Nat} {l : Nat → List Sp} {st : Nat → Nat → Bool} (h : Link n floor l st) (h1 : UptoIs n floor l s u) (h2 : RUptoIs n floor st (max s floor) v) : u = v := by
  obtain ⟨a1, a2, a3, a4⟩ := h1
  obtain ⟨b1, b2, b3, b4⟩ := h2
  rcases Nat.lt_trichotomy u v with g | g | g
  · have h5 := b3 (u + 1) (by omega) (by omega)
    have h6 := a4 (by omega)
    have := (h.cnt (k := u + 1) (by omega)).2 h5
    omega
  · exact g
  · have h5 := a3 (v + 1) (by omega) (by omega)
    rcases Nat.lt_or_ge v 200 with h6 | h6
    · have h7 := b4 h6
      have := (h.cnt (k := v + 1) (by omega)).1 h5
      rw [h7] at this; cases this
    · rw [h.none (k := v + 1) (by omega)] at h5
      unfold maj at h5
      omega
def Two' (R D n cap floor : Nat) (W : World) : Prop := W.cell? ⟨R, 0, none⟩ = some (.slice (some ⟨D, 0, none⟩) n cap) ∧ W.cell? ⟨R, 1, none⟩ = some (.int .i64 (floor : Int))
theorem Two'.keep {R D n cap floor : Nat} {w w' : World} (h : Two' R D n cap floor w) (hu : Upd [] w w') : Two' R D n cap floor w' := ⟨cell_keep' hu h.1, cell_keep' hu h.2⟩
set_option maxRecDepth 100000 in
set_option maxHeartbeats 16000000 in
theorem same_any {B T C K R D cap n floor : Nat} {b : Nat → Nat} {l : Nat → List Sp} {st : Nat → Nat → Bool} (w : World) (h : TalAt w B T C n floor K l) (hr : RefIn w B R D cap n floor b st) (hl : Link n floor l st) (hK : K ≤ 100000) (hfl : floor < 200) :
    Calls Try.prog 14 #[.pointer (some ⟨T, 0, none⟩), .pointer (some ⟨R, 0, none⟩)] w fun e w' => e = .returned (.bool true) ∧ Upd [] w w' := by
  have H := hide h; have HR := hide hr; have HL := hide hl
  have h1 := h.n1
  have h7 := h.n7
  have hcm := hr.cm
  have hnc := hr.nc
  simp only [maxLen] at hcm
  clear h hr hl
  go_enter Try.func14, Try.ntmps14
  go_upto_block 0 with fail
  go_cut [5] (fun _ wx => Upd [] w wx)
  case first =>
    as_aux_lemma =>
    go_wp2_with fail
    go_loopw [5] (fun si wr => ∃ i : Nat, i ≤ n ∧ si = .int .i64 i ∧ Upd [] w wr) (fun si _ => n - (intOf si).toNat)
    case atStart => exact ⟨0, by omega, rfl, Upd.refl _ _⟩
    case round =>
      obtain ⟨i, hi, rfl, hu⟩ := hrel
      have HU := hide hu
      have hc0 : wr.cell? ⟨R, 0, none⟩ = some (.slice (some ⟨D, 0, none⟩) n cap) := blk_cell (hu.get HR.out.hR (by simp)) rfl
      clear hu
      by_cases hlt : i < n
      · have d1 : decide ((i : Int) < (n : Int)) = true := by simp; omega
        have d1' : decide (i < n) = true := by simpa using hlt
        go_wp2_with fail
        refine (spans_any (r := i) _ (H.out.quiet HU.out) hlt hK).mono ?_
        rintro e w4 ⟨ao1, c1, rfl, hr1, hu4⟩
        have U4 := hide (HU.out.trans hu4); have R1 := hide hr1
        clear hu4 hr1 hc0
        go_wp2_with fail
        refine (rspans_any (r := i) _ (HR.out.quiet U4.out) hlt).mono ?_
        rintro e w5 ⟨L', ao2, c2, rfl, hr2, hseen, hu5⟩
        have U5 := hide (U4.out.trans hu5)
        have eL : l i = L' := norm_ext (H.out.norm i hlt) hseen.norm fun m => by
          rw [HL.out.mem i hlt m, hseen.mem m]
          constructor
          · rintro ⟨g1, g2, g3⟩; exact ⟨g1, by omega, g3⟩
          · rintro ⟨g1, g2, g3⟩
            refine ⟨g1, ?_, g3⟩
            rcases Nat.lt_or_ge m 200 with g4 | g4
            · exact g4
            · rw [HL.out.far i hlt m g4] at g3; cases g3
        have R1' := owns_upd R1.out hu5 (by simp)
        have hbnd := H.out.bnd i hlt
        rw [eL] at R1' hbnd ⊢
        obtain ⟨a1, cc1, e1, c11, c12, c13⟩ := row_get R1'
        cases e1
        obtain ⟨a2, cc2, e2, c21, c22, c23⟩ := rowi_get hr2
        cases e2
        have G1 := hide c13; have G2 := hide c23; have BD := hide hbnd; have NO := hide hseen.norm
        simp only [maxLen] at c12 c22
        clear hu5 hr2 hseen eL R1' hbnd c13 c23 R1
        go_wp2_with fail
        go_loopw [8] (fun si wr2 => ∃ k : Nat, k ≤ L'.length ∧ si = .int .i64 k ∧ Upd [] w5 wr2) (fun si _ => L'.length - (intOf si).toNat)
        case atStart => exact ⟨0, by omega, rfl, Upd.refl _ _⟩
        case round =>
          obtain ⟨k, hk, rfl, hu⟩ := hrel
          have HU2 := hide hu
          clear hu
          by_cases hkl : k < L'.length
          · have d2 : decide ((k : Int) < (L'.length : Int)) = true := by simp; omega
            have d2' : decide (k < L'.length) = true := by simpa using hkl
            obtain ⟨p, hp⟩ : ∃ p, L'[k]? = some p := ⟨_, List.getElem?_eq_getElem hkl⟩
            obtain ⟨g1, rfl, -, -, x0, x1⟩ := G1.out k p hp
            obtain ⟨g2, rfl, -, -, y0, y1⟩ := G2.out k p hp
            have x0' := cell_keep' HU2.out x0
            have x1' := cell_keep' HU2.out x1
            have y0' := cell_keep' HU2.out y0
            have y1' := cell_keep' HU2.out y1
            have hp2 := BD.out p (List.mem_of_getElem? hp)
            have hp1 := NO.out.2 p (List.mem_of_getElem? hp)
            have v2 : IntKind.u64.wrap (p.2 : Int) = (p.2 : Int) := IntWalk.u64_in _ (by omega)
            have v1 : IntKind.u64.wrap (p.1 : Int) = (p.1 : Int) := IntWalk.u64_in _ (by omega)
            clear hp x0 x1 y0 y1
            go_wp2_with fail
            go_quiet (fail)
            go_wp2_with fail
            go_roundw
            case rel => exact ⟨k + 1, by omega, by go_num, HU2.out.drewN _⟩
            case measure => simp [intOf] <;> omega
          · have d2 : decide ((k : Int) < (L'.length : Int)) = false := by simp; omega
            have d2' : decide (k < L'.length) = false := by simpa using hkl
            go_wp2_with fail
            go_roundw
            case rel => exact ⟨i + 1, by omega, by go_num, U5.out.trans HU2.out⟩
            case measure => simp [intOf] <;> omega
      · have d1 : decide ((i : Int) < (n : Int)) = false := by simp; omega
        have d1' : decide (i < n) = false := by simpa using hlt
        go_wp2_with fail
        go_meet
        exact HU.out
  case rest =>
  have HU0 := hide hcut
  clear hcut
  go_wp2_with fail
  go_loopw [9] (fun si wr => ∃ s : Nat, s ≤ 206 ∧ si = .int .i64 s ∧ Upd [] w wr) (fun si _ => 206 - (intOf si).toNat)
  case atStart => exact ⟨0, by omega, rfl, HU0.out⟩
  case round =>
    obtain ⟨s, hs, rfl, hu⟩ := hrel
    have U1 := hide hu
    clear hu HU0
    by_cases hlt : s < 200
    · have d1 : decide ((s : Int) < 200) = true := by simp; omega
      have d1' : decide (s < 200) = true := by simpa using hlt
      have w7 : IntKind.i64.wrap ((s : Int) + 7) = ((s + 7 : Nat) : Int) := by rw [IntWalk.i64_in _ (by omega)]; omega
      have v1 : IntKind.u64.wrap (s : Int) = (s : Int) := IntWalk.u64_in _ (by omega)
      obtain ⟨q, hq⟩ : ∃ q, q = s % n := ⟨_, rfl⟩
      have hqn : q < n := by rw [hq]; exact Nat.mod_lt _ (by omega)
      have r1 : (s : Int) % (n : Int) = (q : Int) := by rw [hq]; rfl
      have hn0 : (n : Int) ≠ 0 := by omega
      have hn00 : n ≠ 0 := by omega
      have r1t : (s : Int).tmod (n : Int) = (q : Int) := by rw [hq]; rfl
      obtain ⟨mx, hmx⟩ : ∃ mx, mx = max s floor := ⟨_, rfl⟩
      have m1 : max (s : Int) (floor : Int) = (mx : Int) := by omega
      have hmx2 : mx ≤ 200 := by omega
      have S1 : Hid (Two' R D n cap floor wr) := ⟨cell_keep' U1.out (blk_cell HR.out.hR rfl), cell_keep' U1.out (blk_cell HR.out.hR rfl)⟩
      have HMX := hide hmx
      clear hq hmx
      go_wp2_with fail
      refine wp_region_z (Two' R D n cap floor) 99 (by kernel_rfl) ?_
      refine wpAnyZ_takeE 0 rfl (by kernel_rfl) (by kernel_rfl) (by kernel_rfl) (by kernel_rfl) (fun _ _ _ _ h => h) rfl (by exact S1.out) ?_
      apply Exists.intro
      refine ⟨fun wx hS => ?_, ?_⟩
      · obtain ⟨s0, s1⟩ := hS; go_simp; rfl
      simp only [Act.put, List.setIfInBounds_toArray, List.set_cons_succ, List.set_cons_zero, List.getElem_toArray, List.getElem_cons_zero]
      refine wpAnyZ_takeE 1 rfl (by kernel_rfl) (by kernel_rfl) (by kernel_rfl) (by kernel_rfl) (fun _ _ _ _ h => h) rfl (by exact S1.out) ?_
      apply Exists.intro
      refine ⟨fun wx hS => ?_, ?_⟩
      · obtain ⟨s0, s1⟩ := hS; go_simp; rfl
      simp only [Act.put, List.setIfInBounds_toArray, List.set_cons_succ, List.set_cons_zero, List.getElem_toArray, List.getElem_cons_succ, List.getElem_cons_zero]
      refine wpAnyZ_takeE 2 rfl (by kernel_rfl) (by kernel_rfl) (by kernel_rfl) (by kernel_rfl) (fun _ _ _ _ h => h) rfl (by exact S1.out) ?_
      apply Exists.intro
      refine ⟨fun wx hS => ?_, ?_⟩
      · obtain ⟨s0, s1⟩ := hS; go_simp; rfl
      simp only [Act.put, List.setIfInBounds_toArray, List.set_cons_succ, List.set_cons_zero, List.getElem_toArray, List.getElem_cons_succ, List.getElem_cons_zero]
      refine wpAnyZ_takeE 4 rfl (by kernel_rfl) (by kernel_rfl) (by kernel_rfl) (by kernel_rfl) (fun _ _ _ _ h => h) rfl (by exact S1.out) ?_
      apply Exists.intro
      refine ⟨fun wx hS => ?_, ?_⟩
      · obtain ⟨s0, s1⟩ := hS; go_simp; rfl
      simp only [Act.put, List.setIfInBounds_toArray, List.set_cons_succ, List.set_cons_zero, List.getElem_toArray, List.getElem_cons_succ, List.getElem_cons_zero]
      refine wpAnyZ_takeE 5 rfl (by kernel_rfl) (by kernel_rfl) (by kernel_rfl) (by kernel_rfl) (fun _ _ _ _ h => h) rfl (by exact S1.out) ?_
      apply Exists.intro
      refine ⟨fun wx hS => ?_, ?_⟩
      · obtain ⟨s0, s1⟩ := hS; go_simp; rfl
      simp only [Act.put, List.setIfInBounds_toArray, List.set_cons_succ, List.set_cons_zero, List.getElem_toArray, List.getElem_cons_succ, List.getElem_cons_zero]
      refine wpAnyZ_one 3 (by kernel_rfl) rfl rfl (fun K hK => ?_)
      try simp only [List.getElem_toArray, List.getElem_cons_succ, List.getElem_cons_zero]
      go_simp
      refine (chosen_any (m := s) _ (H.out.quiet (U1.out.drewN _))).mono ?_
      rintro e w2 ⟨rfl, hu2⟩
      have S2 := hide ((S1.out.keep ((Upd.refl [] wr).drewN _)).keep hu2); have U2 := hide ((U1.out.drewN _).trans hu2)
      clear hu2
      rw [HL.out.chosen s]
      refine hK _ _ (.inr S2.out) ?_
      clear hK K
      try simp only [Act.put, List.setIfInBounds_toArray, List.set_cons_succ, List.set_cons_zero]
      obtain ⟨cb, hcb⟩ : ∃ cb, cb = rchosenB n floor st s := ⟨_, rfl⟩
      rw [← hcb]
      refine wpAnyZ_one 6 (by kernel_rfl) rfl rfl (fun K hK => ?_)
      try simp only [List.getElem_toArray, List.getElem_cons_succ, List.getElem_cons_zero]
      go_simp
      refine (rchosen_any (s := s) _ (HR.out.quiet U2.out) (by omega)).mono ?_
      rintro e w3 ⟨rfl, rfl⟩
      rw [← hcb]
      refine hK _ _ (.inr S2.out) ?_
      clear hK K
      try simp only [Act.put, List.setIfInBounds_toArray, List.set_cons_succ, List.set_cons_zero]
      clear hcb
      refine wpAnyZ_takeE 7 rfl (by kernel_rfl) (by kernel_rfl) (by kernel_rfl) (by kernel_rfl) (fun _ _ _ _ h => h) rfl (by exact S2.out) ?_
      apply Exists.intro
      refine ⟨fun wx hS => ?_, ?_⟩
      · obtain ⟨s0, s1⟩ := hS; go_simp; rfl
      simp only [Act.put, List.setIfInBounds_toArray, List.set_cons_succ, List.set_cons_zero, List.getElem_toArray, List.getElem_cons_succ, List.getElem_cons_zero]
      refine wpAnyZ_takeE 8 rfl (by kernel_rfl) (by kernel_rfl) (by kernel_rfl) (by kernel_rfl) (fun _ _ _ _ h => h) rfl (by exact S2.out) ?_
      apply Exists.intro
      refine ⟨fun wx hS => ?_, ?_⟩
      · obtain ⟨s0, s1⟩ := hS; go_simp; rfl
      simp only [Act.put, List.setIfInBounds_toArray, List.set_cons_succ, List.set_cons_zero, List.getElem_toArray, List.getElem_cons_succ, List.getElem_cons_zero]
      refine wpAnyZ_takeE 9 rfl (by kernel_rfl) (by kernel_rfl) (by kernel_rfl) (by kernel_rfl) (fun _ _ _ _ h => h) rfl (by exact S2.out) ?_
      apply Exists.intro
      refine ⟨fun wx hS => ?_, ?_⟩
      · obtain ⟨s0, s1⟩ := hS; go_simp; rfl
      simp only [Act.put, List.setIfInBounds_toArray, List.set_cons_succ, List.set_cons_zero, List.getElem_toArray, List.getElem_cons_succ, List.getElem_cons_zero]
      refine wpAnyZ_takeE 10 rfl (by kernel_rfl) (by kernel_rfl) (by kernel_rfl) (by kernel_rfl) (fun _ _ _ _ h => h) rfl (by exact S2.out) ?_
      apply Exists.intro
      refine ⟨fun wx hS => ?_, ?_⟩
      · obtain ⟨s0, s1⟩ := hS; go_simp; rfl
      simp only [Act.put, List.setIfInBounds_toArray, List.set_cons_succ, List.set_cons_zero, List.getElem_toArray, List.getElem_cons_succ, List.getElem_cons_zero]
      refine wpAnyZ_takeE 11 rfl (by kernel_rfl) (by kernel_rfl) (by kernel_rfl) (by kernel_rfl) (fun _ _ _ _ h => h) rfl (by exact S2.out) ?_
      apply Exists.intro
      refine ⟨fun wx hS => ?_, ?_⟩
      · obtain ⟨s0, s1⟩ := hS; go_simp; rfl
      simp only [Act.put, List.setIfInBounds_toArray, List.set_cons_succ, List.set_cons_zero, List.getElem_toArray, List.getElem_cons_succ, List.getElem_cons_zero]
      refine wpAnyZ_takeE 12 rfl (by kernel_rfl) (by kernel_rfl) (by kernel_rfl) (by kernel_rfl) (fun _ _ _ _ h => h) rfl (by exact S2.out) ?_
      apply Exists.intro
      refine ⟨fun wx hS => ?_, ?_⟩
      · obtain ⟨s0, s1⟩ := hS; go_simp; rfl
      simp only [Act.put, List.setIfInBounds_toArray, List.set_cons_succ, List.set_cons_zero, List.getElem_toArray, List.getElem_cons_succ, List.getElem_cons_zero]
      refine wpAnyZ_takeE 13 rfl (by kernel_rfl) (by kernel_rfl) (by kernel_rfl) (by kernel_rfl) (fun _ _ _ _ h => h) rfl (by exact S2.out) ?_
      apply Exists.intro
      refine ⟨fun wx hS => ?_, ?_⟩
      · obtain ⟨s0, s1⟩ := hS; go_simp; rfl
      simp only [Act.put, List.setIfInBounds_toArray, List.set_cons_succ, List.set_cons_zero, List.getElem_toArray, List.getElem_cons_succ, List.getElem_cons_zero]
      refine wpAnyZ_takeE 14 rfl (by kernel_rfl) (by kernel_rfl) (by kernel_rfl) (by kernel_rfl) (fun _ _ _ _ h => h) rfl (by exact S2.out) ?_
      apply Exists.intro
      refine ⟨fun wx hS => ?_, ?_⟩
      · obtain ⟨s0, s1⟩ := hS; go_simp; rfl
      simp only [Act.put, List.setIfInBounds_toArray, List.set_cons_succ, List.set_cons_zero, List.getElem_toArray, List.getElem_cons_succ, List.getElem_cons_zero]
      refine wpAnyZ_takeE 15 rfl (by kernel_rfl) (by kernel_rfl) (by kernel_rfl) (by kernel_rfl) (fun _ _ _ _ h => h) rfl (by exact S2.out) ?_
      apply Exists.intro
      refine ⟨fun wx hS => ?_, ?_⟩
      · obtain ⟨s0, s1⟩ := hS; go_simp; rfl
      simp only [Act.put, List.setIfInBounds_toArray, List.set_cons_succ, List.set_cons_zero, List.getElem_toArray, List.getElem_cons_succ, List.getElem_cons_zero]
      refine wpAnyZ_takeE 16 rfl (by kernel_rfl) (by kernel_rfl) (by kernel_rfl) (by kernel_rfl) (fun _ _ _ _ h => h) rfl (by exact S2.out) ?_
      apply Exists.intro
      refine ⟨fun wx hS => ?_, ?_⟩
      · obtain ⟨s0, s1⟩ := hS; go_simp; rfl
      simp only [Act.put, List.setIfInBounds_toArray, List.set_cons_succ, List.set_cons_zero, List.getElem_toArray, List.getElem_cons_succ, List.getElem_cons_zero]
      refine wpAnyZ_takeE 17 rfl (by kernel_rfl) (by kernel_rfl) (by kernel_rfl) (by kernel_rfl) (fun _ _ _ _ h => h) rfl (by exact S2.out) ?_
      apply Exists.intro
      refine ⟨fun wx hS => ?_, ?_⟩
      · obtain ⟨s0, s1⟩ := hS; go_simp; rfl
      simp only [Act.put, List.setIfInBounds_toArray, List.set_cons_succ, List.set_cons_zero, List.getElem_toArray, List.getElem_cons_succ, List.getElem_cons_zero]
      refine wpAnyZ_takeE 18 rfl (by kernel_rfl) (by kernel_rfl) (by kernel_rfl) (by kernel_rfl) (fun _ _ _ _ h => h) rfl (by exact S2.out) ?_
      apply Exists.intro
      refine ⟨fun wx hS => ?_, ?_⟩
      · obtain ⟨s0, s1⟩ := hS; go_simp; rfl
      simp only [Act.put, List.setIfInBounds_toArray, List.set_cons_succ, List.set_cons_zero, List.getElem_toArray, List.getElem_cons_succ, List.getElem_cons_zero]
      refine wpAnyZ_takeE 20 rfl (by kernel_rfl) (by kernel_rfl) (by kernel_rfl) (by kernel_rfl) (fun _ _ _ _ h => h) rfl (by exact S2.out) ?_
      apply Exists.intro
      refine ⟨fun wx hS => ?_, ?_⟩
      · obtain ⟨s0, s1⟩ := hS; go_simp; rfl
      simp only [Act.put, List.setIfInBounds_toArray, List.set_cons_succ, List.set_cons_zero, List.getElem_toArray, List.getElem_cons_succ, List.getElem_cons_zero]
      refine wpAnyZ_takeE 21 rfl (by kernel_rfl) (by kernel_rfl) (by kernel_rfl) (by kernel_rfl) (fun _ _ _ _ h => h) rfl (by exact S2.out) ?_
      apply Exists.intro
      refine ⟨fun wx hS => ?_, ?_⟩
      · obtain ⟨s0, s1⟩ := hS; go_simp; rfl
      simp only [Act.put, List.setIfInBounds_toArray, List.set_cons_succ, List.set_cons_zero, List.getElem_toArray, List.getElem_cons_succ, List.getElem_cons_zero]
      refine wpAnyZ_takeE 22 rfl (by kernel_rfl) (by kernel_rfl) (by kernel_rfl) (by kernel_rfl) (fun _ _ _ _ h => h) rfl (by exact S2.out) ?_
      apply Exists.intro
      refine ⟨fun wx hS => ?_, ?_⟩
      · obtain ⟨s0, s1⟩ := hS; go_simp; rfl
      simp only [Act.put, List.setIfInBounds_toArray, List.set_cons_succ, List.set_cons_zero, List.getElem_toArray, List.getElem_cons_succ, List.getElem_cons_zero]
      refine wpAnyZ_takeE 23 rfl (by kernel_rfl) (by kernel_rfl) (by kernel_rfl) (by kernel_rfl) (fun _ _ _ _ h => h) rfl (by exact S2.out) ?_
      apply Exists.intro
      refine ⟨fun wx hS => ?_, ?_⟩
      · obtain ⟨s0, s1⟩ := hS; go_simp; rfl
      simp only [Act.put, List.setIfInBounds_toArray, List.set_cons_succ, List.set_cons_zero, List.getElem_toArray, List.getElem_cons_succ, List.getElem_cons_zero]
      refine wpAnyZ_takeE 24 rfl (by kernel_rfl) (by kernel_rfl) (by kernel_rfl) (by kernel_rfl) (fun _ _ _ _ h => h) rfl (by exact S2.out) ?_
      apply Exists.intro
      refine ⟨fun wx hS => ?_, ?_⟩
      · obtain ⟨s0, s1⟩ := hS; go_simp; rfl
      simp only [Act.put, List.setIfInBounds_toArray, List.set_cons_succ, List.set_cons_zero, List.getElem_toArray, List.getElem_cons_succ, List.getElem_cons_zero]
      refine wpAnyZ_takeE 25 rfl (by kernel_rfl) (by kernel_rfl) (by kernel_rfl) (by kernel_rfl) (fun _ _ _ _ h => h) rfl (by exact S2.out) ?_
      apply Exists.intro
      refine ⟨fun wx hS => ?_, ?_⟩
      · obtain ⟨s0, s1⟩ := hS; go_simp; rfl
      simp only [Act.put, List.setIfInBounds_toArray, List.set_cons_succ, List.set_cons_zero, List.getElem_toArray, List.getElem_cons_succ, List.getElem_cons_zero]
      refine wpAnyZ_takeE 26 rfl (by kernel_rfl) (by kernel_rfl) (by kernel_rfl) (by kernel_rfl) (fun _ _ _ _ h => h) rfl (by exact S2.out) ?_
      apply Exists.intro
      refine ⟨fun wx hS => ?_, ?_⟩
      · obtain ⟨s0, s1⟩ := hS; go_simp; rfl
      simp only [Act.put, List.setIfInBounds_toArray, List.set_cons_succ, List.set_cons_zero, List.getElem_toArray, List.getElem_cons_succ, List.getElem_cons_zero]
      refine wpAnyZ_takeE 27 rfl (by kernel_rfl) (by kernel_rfl) (by kernel_rfl) (by kernel_rfl) (fun _ _ _ _ h => h) rfl (by exact S2.out) ?_
      apply Exists.intro
      refine ⟨fun wx hS => ?_, ?_⟩
      · obtain ⟨s0, s1⟩ := hS; go_simp; rfl
      simp only [Act.put, List.setIfInBounds_toArray, List.set_cons_succ, List.set_cons_zero, List.getElem_toArray, List.getElem_cons_succ, List.getElem_cons_zero]
      refine wpAnyZ_takeE 28 rfl (by kernel_rfl) (by kernel_rfl) (by kernel_rfl) (by kernel_rfl) (fun _ _ _ _ h => h) rfl (by exact S2.out) ?_
      apply Exists.intro
      refine ⟨fun wx hS => ?_, ?_⟩
      · obtain ⟨s0, s1⟩ := hS; go_simp; rfl
      simp only [Act.put, List.setIfInBounds_toArray, List.set_cons_succ, List.set_cons_zero, List.getElem_toArray, List.getElem_cons_succ, List.getElem_cons_zero]
      refine wpAnyZ_one 19 (by kernel_rfl) rfl rfl (fun K hK => ?_)
      try simp only [List.getElem_toArray, List.getElem_cons_succ, List.getElem_cons_zero]
      go_simp
      refine (thas_any (r := q) (m := s) _ (H.out.quiet U2.out) hqn).mono ?_
      rintro e w4 ⟨rfl, hu4⟩
      have S4 := hide (S2.out.keep hu4); have U4 := hide (U2.out.trans hu4)
      clear hu4
      rw [HL.out.has hqn]
      obtain ⟨hb2, hhb⟩ : ∃ hb2, hb2 = rhasB floor st q s := ⟨_, rfl⟩
      rw [← hhb]
      refine hK _ _ (.inr S4.out) ?_
      clear hK K
      try simp only [Act.put, List.setIfInBounds_toArray, List.set_cons_succ, List.set_cons_zero]
      refine wpAnyZ_one 29 (by kernel_rfl) rfl rfl (fun K hK => ?_)
      try simp only [List.getElem_toArray, List.getElem_cons_succ, List.getElem_cons_zero]
      go_simp
      refine (rhas_any (r := q) (s := s) _ (HR.out.quiet U4.out) hqn (by omega)).mono ?_
      rintro e w5 ⟨rfl, rfl⟩
      rw [← hhb]
      refine hK _ _ (.inr S4.out) ?_
      clear hK K
      try simp only [Act.put, List.setIfInBounds_toArray, List.set_cons_succ, List.set_cons_zero]
      clear hhb
      refine wpAnyZ_takeE 30 rfl (by kernel_rfl) (by kernel_rfl) (by kernel_rfl) (by kernel_rfl) (fun _ _ _ _ h => h) rfl (by exact S4.out) ?_
      apply Exists.intro
      refine ⟨fun wx hS => ?_, ?_⟩
      · obtain ⟨s0, s1⟩ := hS; go_simp; rfl
      simp only [Act.put, List.setIfInBounds_toArray, List.set_cons_succ, List.set_cons_zero, List.getElem_toArray, List.getElem_cons_succ, List.getElem_cons_zero]
      refine wpAnyZ_takeE 31 rfl (by kernel_rfl) (by kernel_rfl) (by kernel_rfl) (by kernel_rfl) (fun _ _ _ _ h => h) rfl (by exact S4.out) ?_
      apply Exists.intro
      refine ⟨fun wx hS => ?_, ?_⟩
      · obtain ⟨s0, s1⟩ := hS; go_simp; rfl
      simp only [Act.put, List.setIfInBounds_toArray, List.set_cons_succ, List.set_cons_zero, List.getElem_toArray, List.getElem_cons_succ, List.getElem_cons_zero]
      refine wpAnyZ_takeE 32 rfl (by kernel_rfl) (by kernel_rfl) (by kernel_rfl) (by kernel_rfl) (fun _ _ _ _ h => h) rfl (by exact S4.out) ?_
      apply Exists.intro
      refine ⟨fun wx hS => ?_, ?_⟩
      · obtain ⟨s0, s1⟩ := hS; go_simp; rfl
      simp only [Act.put, List.setIfInBounds_toArray, List.set_cons_succ, List.set_cons_zero, List.getElem_toArray, List.getElem_cons_succ, List.getElem_cons_zero]
      refine wpAnyZ_takeE 33 rfl (by kernel_rfl) (by kernel_rfl) (by kernel_rfl) (by kernel_rfl) (fun _ _ _ _ h => h) rfl (by exact S4.out) ?_
      apply Exists.intro
      refine ⟨fun wx hS => ?_, ?_⟩
      · obtain ⟨s0, s1⟩ := hS; go_simp; rfl
      simp only [Act.put, List.setIfInBounds_toArray, List.set_cons_succ, List.set_cons_zero, List.getElem_toArray, List.getElem_cons_succ, List.getElem_cons_zero]
      refine wpAnyZ_takeE 34 rfl (by kernel_rfl) (by kernel_rfl) (by kernel_rfl) (by kernel_rfl) (fun _ _ _ _ h => h) rfl (by exact S4.out) ?_
      apply Exists.intro
      refine ⟨fun wx hS => ?_, ?_⟩
      · obtain ⟨s0, s1⟩ := hS; go_simp; rfl
      simp only [Act.put, List.setIfInBounds_toArray, List.set_cons_succ, List.set_cons_zero, List.getElem_toArray, List.getElem_cons_succ, List.getElem_cons_zero]
      refine wpAnyZ_takeE 35 rfl (by kernel_rfl) (by kernel_rfl) (by kernel_rfl) (by kernel_rfl) (fun _ _ _ _ h => h) rfl (by exact S4.out) ?_
      apply Exists.intro
      refine ⟨fun wx hS => ?_, ?_⟩
      · obtain ⟨s0, s1⟩ := hS; go_simp; rfl
      simp only [Act.put, List.setIfInBounds_toArray, List.set_cons_succ, List.set_cons_zero, List.getElem_toArray, List.getElem_cons_succ, List.getElem_cons_zero]
      refine wpAnyZ_takeE 37 rfl (by kernel_rfl) (by kernel_rfl) (by kernel_rfl) (by kernel_rfl) (fun _ _ _ _ h => h) rfl (by exact S4.out) ?_
      apply Exists.intro
      refine ⟨fun wx hS => ?_, ?_⟩
      · obtain ⟨s0, s1⟩ := hS; go_simp; rfl
      simp only [Act.put, List.setIfInBounds_toArray, List.set_cons_succ, List.set_cons_zero, List.getElem_toArray, List.getElem_cons_succ, List.getElem_cons_zero]
      refine wpAnyZ_takeE 38 rfl (by kernel_rfl) (by kernel_rfl) (by kernel_rfl) (by kernel_rfl) (fun _ _ _ _ h => h) rfl (by exact S4.out) ?_
      apply Exists.intro
      refine ⟨fun wx hS => ?_, ?_⟩
      · obtain ⟨s0, s1⟩ := hS; go_simp; rfl
      simp only [Act.put, List.setIfInBounds_toArray, List.set_cons_succ, List.set_cons_zero, List.getElem_toArray, List.getElem_cons_succ, List.getElem_cons_zero]
      refine wpAnyZ_takeE 39 rfl (by kernel_rfl) (by kernel_rfl) (by kernel_rfl) (by kernel_rfl) (fun _ _ _ _ h => h) rfl (by exact S4.out) ?_
      apply Exists.intro
      refine ⟨fun wx hS => ?_, ?_⟩
      · obtain ⟨s0, s1⟩ := hS; go_simp; rfl
      simp only [Act.put, List.setIfInBounds_toArray, List.set_cons_succ, List.set_cons_zero, List.getElem_toArray, List.getElem_cons_succ, List.getElem_cons_zero]
      refine wpAnyZ_takeE 40 rfl (by kernel_rfl) (by kernel_rfl) (by kernel_rfl) (by kernel_rfl) (fun _ _ _ _ h => h) rfl (by exact S4.out) ?_
      apply Exists.intro
      refine ⟨fun wx hS => ?_, ?_⟩
      · obtain ⟨s0, s1⟩ := hS; go_simp; rfl
      simp only [Act.put, List.setIfInBounds_toArray, List.set_cons_succ, List.set_cons_zero, List.getElem_toArray, List.getElem_cons_succ, List.getElem_cons_zero]
      refine wpAnyZ_takeE 41 rfl (by kernel_rfl) (by kernel_rfl) (by kernel_rfl) (by kernel_rfl) (fun _ _ _ _ h => h) rfl (by exact S4.out) ?_
      apply Exists.intro
      refine ⟨fun wx hS => ?_, ?_⟩
      · obtain ⟨s0, s1⟩ := hS; go_simp; rfl
      simp only [Act.put, List.setIfInBounds_toArray, List.set_cons_succ, List.set_cons_zero, List.getElem_toArray, List.getElem_cons_succ, List.getElem_cons_zero]
      refine wpAnyZ_takeE 42 rfl (by kernel_rfl) (by kernel_rfl) (by kernel_rfl) (by kernel_rfl) (fun _ _ _ _ h => h) rfl (by exact S4.out) ?_
      apply Exists.intro
      refine ⟨fun wx hS => ?_, ?_⟩
      · obtain ⟨s0, s1⟩ := hS; go_simp; rfl
      simp only [Act.put, List.setIfInBounds_toArray, List.set_cons_succ, List.set_cons_zero, List.getElem_toArray, List.getElem_cons_succ, List.getElem_cons_zero]
      refine wpAnyZ_takeE 43 rfl (by kernel_rfl) (by kernel_rfl) (by kernel_rfl) (by kernel_rfl) (fun _ _ _ _ h => h) rfl (by exact S4.out) ?_
      apply Exists.intro
      refine ⟨fun wx hS => ?_, ?_⟩
      · obtain ⟨s0, s1⟩ := hS; go_simp; rfl
      simp only [Act.put, List.setIfInBounds_toArray, List.set_cons_succ, List.set_cons_zero, List.getElem_toArray, List.getElem_cons_succ, List.getElem_cons_zero]
      refine wpAnyZ_one 36 (by kernel_rfl) rfl rfl (fun K hK => ?_)
      try simp only [List.getElem_toArray, List.getElem_cons_succ, List.getElem_cons_zero]
      go_simp
      refine (upto_any (s := s) _ (H.out.quiet U4.out) (by omega)).mono ?_
      rintro e w6 ⟨u, rfl, hup, hu6⟩
      have S6 := hide (S4.out.keep hu6); have U6 := hide (U4.out.trans hu6); have UP := hide hup
      clear hu6 hup
      refine hK _ _ (.inr S6.out) ?_
      clear hK K
      try simp only [Act.put, List.setIfInBounds_toArray, List.set_cons_succ, List.set_cons_zero]
      refine wpAnyZ_one 44 (by kernel_rfl) rfl rfl (fun K hK => ?_)
      try simp only [List.getElem_toArray, List.getElem_cons_succ, List.getElem_cons_zero]
      go_simp
      refine (rupto_any (s := mx) _ (HR.out.quiet U6.out) hmx2).mono ?_
      rintro e w7 ⟨v, rfl, hrv, rfl⟩
      have euv : u = v := HL.out.upto UP.out (by rw [← HMX.out]; exact hrv)
      subst euv
      have hul := UP.out.2.1
      have v2 : IntKind.u64.wrap (u : Int) = (u : Int) := IntWalk.u64_in _ (by omega)
      clear hrv
      refine hK _ _ (.inr S6.out) ?_
      clear hK K
      try simp only [Act.put, List.setIfInBounds_toArray, List.set_cons_succ, List.set_cons_zero]
      refine wpAnyZ_takeE 45 rfl (by kernel_rfl) (by kernel_rfl) (by kernel_rfl) (by kernel_rfl) (fun _ _ _ _ h => h) rfl (by exact S6.out) ?_
      apply Exists.intro
      refine ⟨fun wx hS => ?_, ?_⟩
      · obtain ⟨s0, s1⟩ := hS; go_simp; rfl
      simp only [Act.put, List.setIfInBounds_toArray, List.set_cons_succ, List.set_cons_zero, List.getElem_toArray, List.getElem_cons_succ, List.getElem_cons_zero]
      refine wpAnyZ_takeE 46 rfl (by kernel_rfl) (by kernel_rfl) (by kernel_rfl) (by kernel_rfl) (fun _ _ _ _ h => h) rfl (by exact S6.out) ?_
      apply Exists.intro
      refine ⟨fun wx hS => ?_, ?_⟩
      · obtain ⟨s0, s1⟩ := hS; go_simp; rfl
      simp only [Act.put, List.setIfInBounds_toArray, List.set_cons_succ, List.set_cons_zero, List.getElem_toArray, List.getElem_cons_succ, List.getElem_cons_zero]
      refine wpAnyZ_takeE 47 rfl (by kernel_rfl) (by kernel_rfl) (by kernel_rfl) (by kernel_rfl) (fun _ _ _ _ h => h) rfl (by exact S6.out) ?_
      apply Exists.intro
      refine ⟨fun wx hS => ?_, ?_⟩
      · obtain ⟨s0, s1⟩ := hS; go_simp; rfl
      simp only [Act.put, List.setIfInBounds_toArray, List.set_cons_succ, List.set_cons_zero, List.getElem_toArray, List.getElem_cons_succ, List.getElem_cons_zero]
      refine wpAnyZ_done (by kernel_rfl) ?_ _
      go_wp2_with fail
      go_roundw
      case rel => exact ⟨s + 7, by omega, by go_num, U6.out⟩
      case measure => simp [intOf] <;> omega
    · have d1 : decide ((s : Int) < 200) = false := by simp; omega
      have d1' : decide (s < 200) = false := by simpa using hlt
      go_wp2_with fail
      go_ret
      exact ⟨rfl, U1.out⟩
end Go.Proofs.Ytmedpbpjjjhhiaa.Vot
