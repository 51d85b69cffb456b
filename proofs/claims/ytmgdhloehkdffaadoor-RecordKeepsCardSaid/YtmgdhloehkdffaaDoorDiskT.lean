/- The disk: a turned bit. -/
import Derived.Test.YtmgdhloehkdffaaDoorDiskW6
import Derived.Laws.BitsAllLaws
import Derived.IntWalk
namespace Go.Proofs.YtmgdhloehkdffaaDoor.DiskW
open Go.RowKit

theorem own_set {w : World} {base g n cap j : Nat} {e : TypeId} {xs : List Value} (h : w.ownsRow base e 1 (.slice (some ⟨g, 0, none⟩) n cap) n xs) (u : Value) :
    (w.setCell ⟨g, j, none⟩ u).ownsRow base e 1 (.slice (some ⟨g, 0, none⟩) n cap) n (xs.set j u) := by
  refine ⟨by rw [List.length_set]; exact h.1, ?_⟩
  rcases h.2 with ⟨e1, -⟩ | ⟨g', cap', cur, e1, hb, hh, h1, h2, h3, h4⟩
  · cases e1
  · cases e1
    refine .inr ⟨g, cap, cur.setIfInBounds j u, rfl, hb, blk_set hh u, h1, h2, by rw [Array.size_setIfInBounds]; exact h3, ?_⟩
    rw [← h4, Array.toList_setIfInBounds, Nat.mul_one, List.take_set]
theorem xor_bit (b : UInt8) {s : Nat} (hs : s < 8) : (b ^^^ (1 <<< UInt8.ofNat s)).toNat = b.toNat ^^^ 2 ^ s := by
  have : ∀ s, s < 8 → ((1 : UInt8) <<< UInt8.ofNat s).toNat = 2 ^ s := by decide
  rw [UInt8.toNat_xor, this s hs]

set_option maxHeartbeats 1000000 in
theorem turn_no {D base : Nat} {bv : Value} {d : DS} {n : Int} (w : World) (h : DiskAt w D base bv d) (_ : d.byt.length ≤ 1000000000000) (hlo : -9223372036854775808 ≤ n) (hhi : n ≤ 9223372036854775807)
    (hno : d.dead = false ∨ n < 0 ∨ (d.byt.length : Int) ≤ n / 8) :
    Calls Tryd.prog 25 #[.pointer (some ⟨D, 0, none⟩), .int .i64 n] w fun e w' => e = .returned (.int .i64 1) ∧ w = w' := by
  have hc0 := h.c0
  have hc2 := h.c2
  obtain ⟨ao, cap, rfl, hcap1, hcap2, -⟩ := owns_slice h.row
  have hz : d.dead = false ∨ (d.dead = true ∧ n < 0) ∨ (d.dead = true ∧ 0 ≤ n ∧ (d.byt.length : Int) ≤ n / 8) := by
    cases hd : d.dead with
    | false => exact .inl rfl
    | true =>
      rcases hno with h1 | h1 | h1
      · rw [hd] at h1; cases h1
      · exact .inr (.inl ⟨rfl, h1⟩)
      · by_cases h2 : n < 0
        · exact .inr (.inl ⟨rfl, h2⟩)
        · exact .inr (.inr ⟨rfl, by omega, h1⟩)
  clear h hno
  rcases hz with hd | ⟨hd, h1⟩ | ⟨hd, h1, h2⟩
  · rw [hd] at hc2
    clear hd
    go_enter Tryd.func25, Tryd.ntmps25
    go_wp2_with fail
    go_ret
    exact ⟨rfl, rfl⟩
  · rw [hd] at hc2
    have q1 : decide (n < 0) = true := by simpa using h1
    clear hd
    go_enter Tryd.func25, Tryd.ntmps25
    go_wp2_with fail
    go_ret
    exact ⟨rfl, rfl⟩
  · rw [hd] at hc2
    obtain ⟨m, rfl⟩ : ∃ m : Nat, n = m := ⟨n.toNat, by omega⟩
    have q1 : decide ((m : Int) < 0) = false := by simp
    obtain ⟨q, hq⟩ : ∃ q, m / 8 = q := ⟨_, rfl⟩
    have e1 : (m : Int) / 8 = (q : Int) := by omega
    have q2 : decide (d.byt.length ≤ q) = true := by simp; omega
    have q3 : decide ((d.byt.length : Int) ≤ q) = true := by simp; omega
    clear hd hq
    go_enter Tryd.func25, Tryd.ntmps25
    go_wp2_with fail
    go_ret
    exact ⟨rfl, rfl⟩
set_option maxHeartbeats 1000000 in
theorem turn_yes {D base m : Nat} {bv : Value} {d : DS} (w : World) (h : DiskAt w D base bv d) (hl : d.byt.length ≤ 1000000000000) (hd : d.dead = true) (hm : m / 8 < d.byt.length) :
    Calls Tryd.prog 25 #[.pointer (some ⟨D, 0, none⟩), .int .i64 (m : Int)] w fun e w' => e = .returned (.int .i64 0) ∧ DiskAt w' D base bv { d with byt := d.byt.set (m / 8) ((d.byt.getD (m / 8) 0) ^^^ (1 <<< UInt8.ofNat (m % 8))) } ∧ Upd bv.ownBlock.toList w w' := by
  have hc0 := h.c0
  have hc2 := h.c2
  rw [hd] at hc2
  obtain ⟨ao, cap, rfl, hcap1, hcap2, -⟩ := owns_slice h.row
  obtain ⟨gb, rfl, hgb⟩ : ∃ gb, ao = some ⟨gb, 0, none⟩ ∧ ∀ P, P < d.byt.length → w.cell? ⟨gb, P, none⟩ = some (.int .u8 ((d.byt.getD P 0).toNat : Nat)) := by
    obtain ⟨ao', cap', e1, -, -, h⟩ := owns_slice h.row
    cases e1
    have hu : ∀ P, P < d.byt.length → (d.byt.map u8v)[P]? = some (.int .u8 ((d.byt.getD P 0).toNat : Nat)) := fun P hP => by
      rw [List.getElem?_map, List.getElem?_eq_getElem hP, List.getD_eq_getElem?_getD, List.getElem?_eq_getElem hP]
      rfl
    obtain ⟨gb, e, -⟩ := h 0 _ (hu 0 (by omega))
    refine ⟨gb, e, fun P hP => ?_⟩
    obtain ⟨gb', e', -, -, h2⟩ := h P _ (hu P hP)
    rw [e] at e'
    cases e'
    exact h2
  obtain ⟨q, hq⟩ : ∃ q, m / 8 = q := ⟨_, rfl⟩
  obtain ⟨r, hr⟩ : ∃ r, m % 8 = r := ⟨_, rfl⟩
  have hmb : m ≤ 9000000000000 := by omega
  have e1 : (m : Int) / 8 = (q : Int) := by omega
  have e2 : (m : Int) % 8 = (r : Int) := by omega
  have e3 : (m : Int).tdiv 8 = (q : Int) := by rw [← hq]; exact Int.tdiv_eq_ediv_of_nonneg (by omega)
  have e4 : (m : Int).tmod 8 = (r : Int) := by rw [← hr]; exact Int.tmod_eq_emod_of_nonneg (by omega)
  rw [hq] at hm ⊢
  rw [hr]
  have hr8 : r < 8 := by omega
  have hcy := hgb q hm
  obtain ⟨y0, hy0⟩ : ∃ y, (d.byt.getD q 0).toNat = y := ⟨_, rfl⟩
  rw [hy0] at hcy
  obtain ⟨sv, hsv⟩ : ∃ s, 2 ^ r = s := ⟨_, rfl⟩
  have hsv8 : sv < 256 := by rw [← hsv]; exact Nat.lt_of_le_of_lt (Nat.pow_le_pow_right (by decide) (show r ≤ 7 by omega)) (by decide)
  have hy8 : y0 < 256 := by rw [← hy0]; exact UInt8.toNat_lt _
  have esh : IntKind.u8.wrap ((2 : Int) ^ r) = (sv : Int) := by
    rw [IntKind.wrap_u8', show ((2 : Int) ^ r) = ((2 ^ r : Nat) : Int) by rw [Int.natCast_pow]; rfl, hsv]
    omega
  obtain ⟨y1, hy1⟩ : ∃ y, y0 ^^^ sv = y := ⟨_, rfl⟩
  have exr : Go.bits .xor .u8 (y0 : Int) (sv : Int) = (y1 : Int) := by rw [u8_xor_nat _ _ hy8 hsv8, hy1]
  have hval : Hid (u8v (d.byt.getD q 0 ^^^ (1 <<< UInt8.ofNat r)) = .int .u8 (y1 : Int)) := by
    show u8v _ = _
    simp only [u8v]
    rw [xor_bit _ hr8, hy0, hsv, hy1]
  have hfz : w.frozen? ⟨gb, q, none⟩ = false := by
    rcases h.row.2 with ⟨e1, -⟩ | ⟨g', cap', cur, e1, -, hh, -⟩
    · cases e1
    · cases e1
      exact blk_free hh
  have w3 : IntKind.i64.wrap (q : Int) = (q : Int) := IntWalk.i64_in _ (by omega)
  have w4 : IntKind.i64.wrap (r : Int) = (r : Int) := IntWalk.i64_in _ (by omega)
  have q1 : decide ((m : Int) < 0) = false := by simp
  have q2 : decide (d.byt.length ≤ q) = false := by simp; omega
  have q3 : decide ((d.byt.length : Int) ≤ q) = false := by simp; omega
  have H := hide h
  clear h hgb hq hr hy0 hsv hy1 hd
  go_enter Tryd.func25, Tryd.ntmps25
  go_wp2_with fail
  refine wp_region_z (fun w' => w'.cell? ⟨D, 0, none⟩ = some (.slice (some ⟨gb, 0, none⟩) d.byt.length cap) ∧ w'.cell? ⟨gb, q, none⟩ = some (.int .u8 (y0 : Int))) 13 (by kernel_rfl) ?_
  refine wpAnyZ_takeE 0 rfl (by kernel_rfl) (by kernel_rfl) (by kernel_rfl) (by kernel_rfl) (fun _ _ _ _ h => h) rfl (by exact ⟨hc0, hcy⟩) ?_
  apply Exists.intro
  refine ⟨fun wx hS => ?_, ?_⟩
  · obtain ⟨s0, s1⟩ := hS; go_simp; rfl
  simp only [Act.put, List.setIfInBounds_toArray, List.set_cons_succ, List.set_cons_zero, List.getElem_toArray, List.getElem_cons_zero]
  refine wpAnyZ_takeE 1 rfl (by kernel_rfl) (by kernel_rfl) (by kernel_rfl) (by kernel_rfl) (fun _ _ _ _ h => h) rfl (by exact ⟨hc0, hcy⟩) ?_
  apply Exists.intro
  refine ⟨fun wx hS => ?_, ?_⟩
  · obtain ⟨s0, s1⟩ := hS; go_simp; rfl
  simp only [Act.put, List.setIfInBounds_toArray, List.set_cons_succ, List.set_cons_zero, List.getElem_toArray, List.getElem_cons_succ, List.getElem_cons_zero]
  refine wpAnyZ_takeE 2 rfl (by kernel_rfl) (by kernel_rfl) (by kernel_rfl) (by kernel_rfl) (fun _ _ _ _ h => h) rfl (by exact ⟨hc0, hcy⟩) ?_
  apply Exists.intro
  refine ⟨fun wx hS => ?_, ?_⟩
  · obtain ⟨s0, s1⟩ := hS; go_simp; rfl
  simp only [Act.put, List.setIfInBounds_toArray, List.set_cons_succ, List.set_cons_zero, List.getElem_toArray, List.getElem_cons_succ, List.getElem_cons_zero]
  refine wpAnyZ_takeE 3 rfl (by kernel_rfl) (by kernel_rfl) (by kernel_rfl) (by kernel_rfl) (fun _ _ _ _ h => h) rfl (by exact ⟨hc0, hcy⟩) ?_
  apply Exists.intro
  refine ⟨fun wx hS => ?_, ?_⟩
  · obtain ⟨s0, s1⟩ := hS; go_simp; rfl
  simp only [Act.put, List.setIfInBounds_toArray, List.set_cons_succ, List.set_cons_zero, List.getElem_toArray, List.getElem_cons_succ, List.getElem_cons_zero]
  refine wpAnyZ_takeE 4 rfl (by kernel_rfl) (by kernel_rfl) (by kernel_rfl) (by kernel_rfl) (fun _ _ _ _ h => h) rfl (by exact ⟨hc0, hcy⟩) ?_
  apply Exists.intro
  refine ⟨fun wx hS => ?_, ?_⟩
  · obtain ⟨s0, s1⟩ := hS; go_simp; rfl
  simp only [Act.put, List.setIfInBounds_toArray, List.set_cons_succ, List.set_cons_zero, List.getElem_toArray, List.getElem_cons_succ, List.getElem_cons_zero]
  refine wpAnyZ_takeE 5 rfl (by kernel_rfl) (by kernel_rfl) (by kernel_rfl) (by kernel_rfl) (fun _ _ _ _ h => h) rfl (by exact ⟨hc0, hcy⟩) ?_
  apply Exists.intro
  refine ⟨fun wx hS => ?_, ?_⟩
  · obtain ⟨s0, s1⟩ := hS; go_simp; rfl
  simp only [Act.put, List.setIfInBounds_toArray, List.set_cons_succ, List.set_cons_zero, List.getElem_toArray, List.getElem_cons_succ, List.getElem_cons_zero]
  refine wpAnyZ_takeE 6 rfl (by kernel_rfl) (by kernel_rfl) (by kernel_rfl) (by kernel_rfl) (fun _ _ _ _ h => h) rfl (by exact ⟨hc0, hcy⟩) ?_
  apply Exists.intro
  refine ⟨fun wx hS => ?_, ?_⟩
  · obtain ⟨s0, s1⟩ := hS; go_simp; rfl
  simp only [Act.put, List.setIfInBounds_toArray, List.set_cons_succ, List.set_cons_zero, List.getElem_toArray, List.getElem_cons_succ, List.getElem_cons_zero]
  refine wpAnyZ_takeE 7 rfl (by kernel_rfl) (by kernel_rfl) (by kernel_rfl) (by kernel_rfl) (fun _ _ _ _ h => h) rfl (by exact ⟨hc0, hcy⟩) ?_
  apply Exists.intro
  refine ⟨fun wx hS => ?_, ?_⟩
  · obtain ⟨s0, s1⟩ := hS; go_simp; rfl
  simp only [Act.put, List.setIfInBounds_toArray, List.set_cons_succ, List.set_cons_zero, List.getElem_toArray, List.getElem_cons_succ, List.getElem_cons_zero]
  refine wpAnyZ_takeE 8 rfl (by kernel_rfl) (by kernel_rfl) (by kernel_rfl) (by kernel_rfl) (fun _ _ _ _ h => h) rfl (by exact ⟨hc0, hcy⟩) ?_
  apply Exists.intro
  refine ⟨fun wx hS => ?_, ?_⟩
  · obtain ⟨s0, s1⟩ := hS; go_simp; rfl
  simp only [Act.put, List.setIfInBounds_toArray, List.set_cons_succ, List.set_cons_zero, List.getElem_toArray, List.getElem_cons_succ, List.getElem_cons_zero]
  refine wpAnyZ_takeE 9 rfl (by kernel_rfl) (by kernel_rfl) (by kernel_rfl) (by kernel_rfl) (fun _ _ _ _ h => h) rfl (by exact ⟨hc0, hcy⟩) ?_
  apply Exists.intro
  refine ⟨fun wx hS => ?_, ?_⟩
  · obtain ⟨s0, s1⟩ := hS; go_simp; rfl
  simp only [Act.put, List.setIfInBounds_toArray, List.set_cons_succ, List.set_cons_zero, List.getElem_toArray, List.getElem_cons_succ, List.getElem_cons_zero]
  refine wpAnyZ_takeE 10 rfl (by kernel_rfl) (by kernel_rfl) (by kernel_rfl) (by kernel_rfl) (fun _ _ _ _ h => h) rfl (by exact ⟨hc0, hcy⟩) ?_
  apply Exists.intro
  refine ⟨fun wx hS => ?_, ?_⟩
  · obtain ⟨s0, s1⟩ := hS; go_simp; rfl
  simp only [Act.put, List.setIfInBounds_toArray, List.set_cons_succ, List.set_cons_zero, List.getElem_toArray, List.getElem_cons_succ, List.getElem_cons_zero]
  refine wpAnyZ_takeE 11 rfl (by kernel_rfl) (by kernel_rfl) (by kernel_rfl) (by kernel_rfl) (fun _ _ _ _ h => h) rfl (by exact ⟨hc0, hcy⟩) ?_
  apply Exists.intro
  refine ⟨fun wx hS => ?_, ?_⟩
  · obtain ⟨s0, s1⟩ := hS; go_simp; rfl
  simp only [Act.put, List.setIfInBounds_toArray, List.set_cons_succ, List.set_cons_zero, List.getElem_toArray, List.getElem_cons_succ, List.getElem_cons_zero]
  refine wpAnyZ_takeE 12 rfl (by kernel_rfl) (by kernel_rfl) (by kernel_rfl) (by kernel_rfl) (fun _ _ _ _ h => h) rfl (by exact ⟨hc0, hcy⟩) ?_
  apply Exists.intro
  refine ⟨fun wx hS => ?_, ?_⟩
  · obtain ⟨s0, s1⟩ := hS; go_simp; rfl
  simp only [Act.put, List.setIfInBounds_toArray, List.set_cons_succ, List.set_cons_zero, List.getElem_toArray, List.getElem_cons_succ, List.getElem_cons_zero]
  refine wpAnyZ_one 13 (by kernel_rfl) rfl rfl (fun K hK => ?_)
  try simp only [List.getElem_toArray, List.getElem_cons_succ, List.getElem_cons_zero]
  go_simp
  refine hK _ _ (.inl rfl) ?_
  clear hK K
  refine wpAnyZ_done (by kernel_rfl) ?_ _
  go_wp2_with fail
  go_ret
  have hgD : gb ≠ D := fun e => H.out.ne (by rw [e]; rfl)
  refine ⟨rfl, ⟨blk_set_other (by exact H.out.hD) (Ne.symm hgD) _, ?_, H.out.ne⟩, ((Upd.refl _ w).drewN 1).setCell (.inl (by simp [Value.ownBlock])) _⟩
  have h1 := own_set (j := q) ((H.out.drewN 1).row) (.int .u8 (y1 : Int))
  rw [← hval.out, ← List.map_set] at h1
  simp only [List.length_set]
  rw [hval.out] at h1
  exact h1
set_option maxHeartbeats 400000 in
theorem turn_any {D base : Nat} {bv : Value} {d : DS} {n : Int} (w : World) (h : DiskAt w D base bv d) (hD : base ≤ D) (hb : base ≤ w.heap.size) (hl : d.byt.length ≤ 1000000000000) (hlo : -9223372036854775808 ≤ n) (hhi : n ≤ 9223372036854775807) :
    Calls Tryd.prog 25 #[.pointer (some ⟨D, 0, none⟩), .int .i64 n] w fun e w' => Done w D base (d.turn n) e w' := by
  by_cases hno : d.dead = false ∨ n < 0 ∨ (d.byt.length : Int) ≤ n / 8
  · refine (turn_no w h hl hlo hhi hno).mono ?_
    rintro e w' ⟨rfl, rfl⟩
    have e1 : d.turn n = (d, 1) := by unfold DS.turn; rw [if_pos hno]
    rw [e1]
    exact ⟨_, rfl, rfl, bv, h, Below.refl _ _, Near.refl _ _⟩
  · obtain ⟨m, rfl⟩ : ∃ m : Nat, n = m := ⟨n.toNat, by omega⟩
    have hd : d.dead = true := by
      cases hd : d.dead with
      | true => rfl
      | false => exact absurd (.inl hd) hno
    refine (turn_yes w h hl hd (by omega)).mono ?_
    rintro e w' ⟨rfl, h1, h2⟩
    have e1 : d.turn m = ({ d with byt := d.byt.set (m / 8) ((d.byt.getD (m / 8) 0) ^^^ (1 <<< UInt8.ofNat (m % 8))) }, 0) := by
      unfold DS.turn; rw [if_neg hno]; simp only [Int.toNat_natCast]
    rw [e1]
    exact Done.intro h hD hb h1 h2 (fun k hk => .inr (by simpa using hk)) (fun _ h => .inl h)
end Go.Proofs.YtmgdhloehkdffaaDoor.DiskW
