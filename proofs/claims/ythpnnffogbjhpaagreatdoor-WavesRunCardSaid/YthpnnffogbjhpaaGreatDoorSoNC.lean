/- SoN, SoC in one text. -/
import Derived.Test.YthpnnffogbjhpaaGreatDoorSoP
import Derived.Sort.Walk7
import Derived.Sort.LotD4
import Derived.Sort.Walk13
import Derived.Shelf.Small.Bits
set_option linter.unusedSimpArgs false
set_option linter.unusedVariables false
set_option linter.unnecessarySimpa false
namespace Go.Proofs.YthpnnffogbjhpaaGreatDoor.So
open Go.RowKit Go.Sort Go.Shelf
set_option linter.unusedVariables false
def len_ren : Go.Shelf.Ren := ⟨fun | 125 => 95 | 128 => 121 | 129 => 122 | n => n, fun | 3 => 3 | 4 => 4 | 5 => 5 | 9 => 9 | 46 => 164 | 51 => 42 | 53 => 35 | n => n, fun | n => n⟩
theorem len_lay : Go.Proofs.Lays.n125 Tryz.prog len_ren := {
  mixed := by kernel_rfl
  f125 := Tryz.func95.trans (congrArg some (by kernel_rfl))
  f128 := Tryz.func121.trans (congrArg some (by kernel_rfl))
  f129 := Tryz.func122.trans (congrArg some (by kernel_rfl))
  t3 := Tryz.underlying3
  a3 := Tryz.isAgg3
  z3 := Tryz.sizeOf3
  v3 := Tryz.zeroValue3
  t4 := Tryz.underlying4
  a4 := Tryz.isAgg4
  z4 := Tryz.sizeOf4
  v4 := Tryz.zeroValue4
  t5 := Tryz.underlying5
  a5 := Tryz.isAgg5
  z5 := Tryz.sizeOf5
  v5 := Tryz.zeroValue5
  t9 := Tryz.underlying9
  a9 := Tryz.isAgg9
  z9 := Tryz.sizeOf9
  v9 := Tryz.zeroValue9
  t46 := Tryz.underlying164
  a46 := Tryz.isAgg164
  z46 := Tryz.sizeOf164
  v46 := Tryz.zeroValue164
  t51 := Tryz.underlying42
  a51 := Tryz.isAgg42
  z51 := Tryz.sizeOf42
  v51 := Tryz.zeroValue42
  t53 := Tryz.underlying35
  a53 := Tryz.isAgg35
  z53 := Tryz.sizeOf35
  v53 := Tryz.zeroValue35
}
theorem len_any {k : Nat} (hk : k < 4611686018427387904) (w : World) : Calls Tryz.prog 95 #[.int .u64 (k : Int)] w fun ex w' => ex = .returned (.int .i64 (bitsLen k : Nat)) ∧ w' = w := by
  have h := Any.bits_Len len_lay (k : Int) w (by omega) (by omega)
  rwa [Int.toNat_natCast, bitLen_eq _ (by omega)] at h
theorem pow_any {k : Nat} (hn : k < 4611686018427387904) (w : World) :
    Calls Tryz.prog 132 #[.int .i64 k] w fun ex w' => ex = .returned (.int .u64 ((1 <<< bitsLen k : Nat) : Int)) ∧ w' = w := by
  have hLen := fun w => len_any hn w
  have hk : bitsLen k ≤ 62 := (bitsLen_le_iff k 62).2 (by omega)
  have hp := wrap_two_pow (bitsLen k) hk
  go_enter Tryz.func132, Tryz.ntmps132
  go_wp2_with (first | (go_at_call 95; refine (hLen _).mono ?_; rintro e w' ⟨rfl, rfl⟩))
  go_ret
  exact ⟨rfl, rfl⟩
theorem next_any {q X : Nat} {T : TypeId} (hX : X < 18446744073709551616) {w : World} (hq : w.heap[q]? = some (.cells #[.int .u64 (X : Int)] T (0, 0))) :
    Calls Tryz.prog 133 #[.pointer (some ⟨q, 0, none⟩)] w fun ex w' => ex = .returned (.int .u64 (xorNextN X : Nat)) ∧ Upd [q] w w' ∧ w'.heap[q]? = some (.cells #[.int .u64 (xorNextN X : Nat)] T (0, 0)) := by
  have hc : w.cell? ⟨q, 0, none⟩ = some (.int .u64 X) := blk_cell hq (by rfl)
  have hf : w.frozen? ⟨q, 0, none⟩ = false := blk_free hq
  obtain ⟨A, hA⟩ : ∃ A : Nat, A = X ^^^ (X * 8192 % 18446744073709551616) := ⟨_, rfl⟩
  obtain ⟨B, hB⟩ : ∃ B : Nat, B = A ^^^ (A / 128) := ⟨_, rfl⟩
  obtain ⟨C, hC⟩ : ∃ C : Nat, C = B ^^^ (B * 131072 % 18446744073709551616) := ⟨_, rfl⟩
  have lA : A < 18446744073709551616 := by rw [hA]; exact Nat.xor_lt_two_pow (n := 64) (by omega) (by omega)
  have lB : B < 18446744073709551616 := by rw [hB]; exact Nat.xor_lt_two_pow (n := 64) (by omega) (by omega)
  have e1 : bits .xor .u64 (X : Int) (IntKind.u64.wrap ((X : Int) * 8192)) = (A : Int) := by
    rw [IntKind.wrap_u64, show ((X : Int) * 8192 % 18446744073709551616) = ((X * 8192 % 18446744073709551616 : Nat) : Int) by omega, bits_xor_u64_nat _ _ hX (by omega), hA]
  have e2 : bits .xor .u64 (A : Int) ((A : Int) / 128) = (B : Int) := by
    rw [show ((A : Int) / 128) = ((A / 128 : Nat) : Int) by omega, bits_xor_u64_nat _ _ lA (by omega), hB]
  have e3 : bits .xor .u64 (B : Int) (IntKind.u64.wrap ((B : Int) * 131072)) = (C : Int) := by
    rw [IntKind.wrap_u64, show ((B : Int) * 131072 % 18446744073709551616) = ((B * 131072 % 18446744073709551616 : Nat) : Int) by omega, bits_xor_u64_nat _ _ lB (by omega), hC]
  have hv : xorNextN X = C := by unfold xorNextN; simp only []; rw [← hA, ← hB, ← hC]
  rw [hv]
  clear hA hB hC hv
  have HQ := hide hq
  clear hq
  have hss : ∀ v v', (w.setCell ⟨q, 0, none⟩ v).setCell ⟨q, 0, none⟩ v' = w.setCell ⟨q, 0, none⟩ v' := setCell_setCell w q 0
  go_enter Tryz.func133, Tryz.ntmps133
  go_wp2
  go_region
  all_goals go_wp2
  all_goals go_region
  all_goals go_wp2
  all_goals go_region
  all_goals go_wp2
  go_ret
  refine ⟨rfl, ((Upd.refl [q] w).setCell (p := ⟨q, 0, none⟩) (.inl (by simp)) _).drew.drew.drew, ?_⟩
  have := blk_set (i := 0) HQ.out (.int .u64 (C : Int))
  have h2 : (w.setCell ⟨q, 0, none⟩ (.int .u64 (C : Int))).heap[q]? = some (.cells #[.int .u64 (C : Int)] T (0, 0)) := by simpa using this
  exact h2
/-! ### the pivot: nothing is written but the swaps' count -/
variable {w0 w w' : World} {blk off n cap : Nat} {c : Array Value} {e : TypeId} {d : Array Nat} {q : Nat} {T : TypeId}
theorem Rw.count {v : Value} (h : Rw w0 blk off n c e d w) (hq : w0.heap.size ≤ q) (hbq : blk ≠ q) : Rw w0 blk off n c e d (w.setCell ⟨q, 0, none⟩ v) :=
  ⟨h.upd.setCell (.inr hq) v, h.sz, h.fit, blk_set_other h.blk hbq v⟩
theorem order2_cases (d : Array Nat) (a b s : Nat) : order2 ltU d a b s = (a, b, s) ∨ order2 ltU d a b s = (b, a, s + 1) := by
  unfold order2
  split
  · exact .inr rfl
  · exact .inl rfl
set_option maxHeartbeats 1600000 in
set_option maxRecDepth 100000 in
theorem order2_any {a b s : Nat} (hR : Rw w0 blk off n c e d w) (hs : w.heap[q]? = some (.cells #[.int .i64 (s : Int)] T (0, 0))) (hq : w0.heap.size ≤ q) (hbq : blk ≠ q) (ha : a < n) (hb : b < n) (hs2 : s < 1073741824) :
    Calls Tryz.prog 158 #[.slice (some ⟨blk, off, none⟩) n cap, .int .i64 a, .int .i64 b, .pointer (some ⟨q, 0, none⟩)] w fun ex w' =>
      ex = .returned (.tuple #[.int .i64 (order2 ltU d a b s).1, .int .i64 (order2 ltU d a b s).2.1]) ∧ Rw w0 blk off n c e d w' ∧ w'.heap[q]? = some (.cells #[.int .i64 ((order2 ltU d a b s).2.2 : Int)] T (0, 0)) := by
  obtain ⟨Gk, hG⟩ : ∃ G : Nat → Nat, ∀ t, G t = d[t]! := ⟨fun t => d[t]!, fun _ => rfl⟩
  have AG := hide hG
  clear hG
  have hcw : ∀ t, t < n → w.cell? ⟨blk, off + t, none⟩ = some (.int .u32 (Gk t : Int)) := fun t ht => by rw [AG.out]; exact hR.cell ht
  have hfw : ∀ t, t < n → w.frozen? ⟨blk, off + t, none⟩ = false := fun t ht => hR.frz
  have HR := hide hR
  have hcq : w.cell? ⟨q, 0, none⟩ = some (.int .i64 s) := blk_cell hs (by rfl)
  have hfq : w.frozen? ⟨q, 0, none⟩ = false := blk_free hs
  have HS := hide hs
  clear hR hs
  go_enter Tryz.func158, Tryz.ntmps158
  go_wp2_with fail
  go_big_quiet (first | (go_at_call 118; refine Calls.quiet_of_same (less_any _ _ _)))
  go_wp2_with fail
  · have ht : ltU (Gk b) (Gk a) = true := by first | assumption | (simp only [ltU, decide_eq_true_eq]; assumption) | (simp [ltU]; omega)
    have ho : order2 ltU d a b s = (b, a, s + 1) := by unfold order2; rw [if_pos (by rw [← AG.out, ← AG.out]; exact ht)]
    go_ret2
    rw [ho]
    refine ⟨rfl, (HR.out.drew nq).count hq hbq, ?_⟩
    have := blk_set (i := 0) (w := w.drewN nq) HS.out (.int .i64 ((s : Int) + 1))
    simpa using this
  · have ht : ltU (Gk b) (Gk a) = false := by first | assumption | (simp only [ltU, decide_eq_false_iff_not]; omega) | (simp [ltU]; omega)
    have ho : order2 ltU d a b s = (a, b, s) := by unfold order2; rw [if_neg (by rw [← AG.out, ← AG.out, ht]; decide)]
    go_ret2
    rw [ho]
    exact ⟨rfl, HR.out.drew nq, HS.out⟩
end Go.Proofs.YthpnnffogbjhpaaGreatDoor.So
namespace Go.Proofs.YthpnnffogbjhpaaGreatDoor.So
open Go.RowKit Go.Sort Go.Shelf
set_option linter.unusedVariables false
variable {w0 w w' : World} {blk off n cap : Nat} {c : Array Value} {e : TypeId} {d : Array Nat} {q : Nat} {T : TypeId}
theorem order2_facts {d : Array Nat} {a b s a1 b1 s1 : Nat} (h : order2 ltU d a b s = (a1, b1, s1)) (ha : a < n) (hb : b < n) : a1 < n ∧ b1 < n ∧ s1 ≤ s + 1 := by
  rcases order2_cases d a b s with h1 | h1 <;> (rw [h1] at h; cases h; refine ⟨by assumption, by assumption, by omega⟩)
set_option maxHeartbeats 1600000 in
set_option maxRecDepth 100000 in
theorem median_any {a b g s : Nat} (hR : Rw w0 blk off n c e d w) (hs : w.heap[q]? = some (.cells #[.int .i64 (s : Int)] T (0, 0))) (hq : w0.heap.size ≤ q) (hbq : blk ≠ q) (ha : a < n) (hb : b < n) (hg : g < n) (hs2 : s < 1073741000) :
    Calls Tryz.prog 135 #[.slice (some ⟨blk, off, none⟩) n cap, .int .i64 a, .int .i64 b, .int .i64 g, .pointer (some ⟨q, 0, none⟩)] w fun ex w' =>
      ex = .returned (.int .i64 (median ltU d a b g s).1) ∧ Rw w0 blk off n c e d w' ∧ w'.heap[q]? = some (.cells #[.int .i64 ((median ltU d a b g s).2 : Int)] T (0, 0)) := by
  obtain ⟨⟨a1, b1, s1⟩, h1⟩ : ∃ r, order2 ltU d a b s = r := ⟨_, rfl⟩
  obtain ⟨⟨b2, c2, s3⟩, h2⟩ : ∃ r, order2 ltU d b1 g s1 = r := ⟨_, rfl⟩
  obtain ⟨⟨a3, b3, s4⟩, h3⟩ : ∃ r, order2 ltU d a1 b2 s3 = r := ⟨_, rfl⟩
  have hm : median ltU d a b g s = (b3, s4) := by unfold median; simp only [h1, h2, h3]
  obtain ⟨f1, f2, f3⟩ := order2_facts h1 ha hb
  obtain ⟨f4, f5, f6⟩ := order2_facts h2 f2 hg
  have k1 := order2_any (cap := cap) hR hs hq hbq ha hb (by omega)
  rw [h1] at k1
  have K2 : Hid (∀ w, Rw w0 blk off n c e d w → w.heap[q]? = some (.cells #[.int .i64 (s1 : Int)] T (0, 0)) → Calls Tryz.prog 158 #[.slice (some ⟨blk, off, none⟩) n cap, .int .i64 b1, .int .i64 g, .pointer (some ⟨q, 0, none⟩)] w fun ex w' =>
      ex = .returned (.tuple #[.int .i64 b2, .int .i64 c2]) ∧ Rw w0 blk off n c e d w' ∧ w'.heap[q]? = some (.cells #[.int .i64 (s3 : Int)] T (0, 0))) := fun w hR hs => by
    have := order2_any (cap := cap) hR hs hq hbq f2 hg (by omega)
    rw [h2] at this
    exact this
  have K3 : Hid (∀ w, Rw w0 blk off n c e d w → w.heap[q]? = some (.cells #[.int .i64 (s3 : Int)] T (0, 0)) → Calls Tryz.prog 158 #[.slice (some ⟨blk, off, none⟩) n cap, .int .i64 a1, .int .i64 b2, .pointer (some ⟨q, 0, none⟩)] w fun ex w' =>
      ex = .returned (.tuple #[.int .i64 a3, .int .i64 b3]) ∧ Rw w0 blk off n c e d w' ∧ w'.heap[q]? = some (.cells #[.int .i64 (s4 : Int)] T (0, 0))) := fun w hR hs => by
    have := order2_any (cap := cap) hR hs hq hbq f1 f4 (by omega)
    rw [h3] at this
    exact this
  have K1 := hide k1
  rw [hm]
  clear k1 h1 h2 h3 hm hR hs
  go_enter Tryz.func135, Tryz.ntmps135
  go_wp2_with fail
  refine K1.out.mono ?_
  rintro ex w1 ⟨rfl, hR, hs⟩
  have HR := hide hR; have HS := hide hs
  clear hR hs K1
  go_wp2_with fail
  refine (K2.out _ HR.out HS.out).mono ?_
  rintro ex w2 ⟨rfl, hR, hs⟩
  clear HR HS K2
  have HR := hide hR; have HS := hide hs
  clear hR hs
  go_wp2_with fail
  refine (K3.out _ HR.out HS.out).mono ?_
  rintro ex w3 ⟨rfl, hR, hs⟩
  clear HR HS K3
  have HR := hide hR; have HS := hide hs
  clear hR hs
  go_wp2_with fail
  go_ret
  exact ⟨rfl, HR.out, HS.out⟩
set_option maxHeartbeats 1600000 in
theorem adjacent_any {a s : Nat} (hR : Rw w0 blk off n c e d w) (hs : w.heap[q]? = some (.cells #[.int .i64 (s : Int)] T (0, 0))) (hq : w0.heap.size ≤ q) (hbq : blk ≠ q) (ha0 : 0 < a) (ha : a + 1 < n) (hs2 : s < 1073741000) (hn : n < 4611686018427387904) :
    Calls Tryz.prog 134 #[.slice (some ⟨blk, off, none⟩) n cap, .int .i64 a, .pointer (some ⟨q, 0, none⟩)] w fun ex w' =>
      ex = .returned (.int .i64 (medianAdjacent ltU d a s).1) ∧ Rw w0 blk off n c e d w' ∧ w'.heap[q]? = some (.cells #[.int .i64 ((medianAdjacent ltU d a s).2 : Int)] T (0, 0)) := by
  have k1 := median_any (cap := cap) (a := a - 1) (b := a) (g := a + 1) hR hs hq hbq (by omega) (by omega) ha hs2
  rw [show ((a - 1 : Nat) : Int) = (a : Int) - 1 by omega, show ((a + 1 : Nat) : Int) = (a : Int) + 1 by omega] at k1
  unfold medianAdjacent
  generalize median ltU d (a - 1) a (a + 1) s = r at k1 ⊢
  have K1 := hide k1
  clear k1 hR hs
  go_enter Tryz.func134, Tryz.ntmps134
  go_wp2_with fail
  refine K1.out.mono ?_
  rintro ex w1 ⟨rfl, hR, hs⟩
  have HR := hide hR; have HS := hide hs
  clear hR hs K1
  go_wp2_with fail
  go_ret
  exact ⟨rfl, HR.out, HS.out⟩
theorem median_facts {d : Array Nat} {a b g s m t : Nat} (h : median ltU d a b g s = (m, t)) (ha : a < n) (hb : b < n) (hg : g < n) : m < n ∧ t ≤ s + 3 := by
  obtain ⟨⟨a1, b1, s1⟩, h1⟩ : ∃ r, order2 ltU d a b s = r := ⟨_, rfl⟩
  obtain ⟨⟨b2, c2, s3⟩, h2⟩ : ∃ r, order2 ltU d b1 g s1 = r := ⟨_, rfl⟩
  obtain ⟨⟨a3, b3, s4⟩, h3⟩ : ∃ r, order2 ltU d a1 b2 s3 = r := ⟨_, rfl⟩
  have hm : median ltU d a b g s = (b3, s4) := by unfold median; simp only [h1, h2, h3]
  rw [hm] at h
  cases h
  obtain ⟨f1, f2, f3⟩ := order2_facts h1 ha hb
  obtain ⟨f4, f5, f6⟩ := order2_facts h2 f2 hg
  obtain ⟨f7, f8, f9⟩ := order2_facts h3 f1 f4
  exact ⟨f8, by omega⟩
/-- The place and the swaps, ahead of the hint. -/
def cpR (d : Array Nat) (a b : Nat) : Nat × Nat :=
  if b - a ≥ 8 then
    if b - a ≥ 50 then
      median ltU d (medianAdjacent ltU d (a + (b - a) / 4 * 1) 0).1 (medianAdjacent ltU d (a + (b - a) / 4 * 2) (medianAdjacent ltU d (a + (b - a) / 4 * 1) 0).2).1
        (medianAdjacent ltU d (a + (b - a) / 4 * 3) (medianAdjacent ltU d (a + (b - a) / 4 * 2) (medianAdjacent ltU d (a + (b - a) / 4 * 1) 0).2).2).1
        (medianAdjacent ltU d (a + (b - a) / 4 * 3) (medianAdjacent ltU d (a + (b - a) / 4 * 2) (medianAdjacent ltU d (a + (b - a) / 4 * 1) 0).2).2).2
    else median ltU d (a + (b - a) / 4 * 1) (a + (b - a) / 4 * 2) (a + (b - a) / 4 * 3) 0
  else (a + (b - a) / 4 * 2, 0)
theorem choose_eq (d : Array Nat) (a b : Nat) : choosePivot ltU d a b = ((cpR d a b).1, if (cpR d a b).2 = 0 then .increasing else if (cpR d a b).2 = 12 then .decreasing else .unknown) := rfl
theorem adjacent_facts {d : Array Nat} {a s m t : Nat} (h : medianAdjacent ltU d a s = (m, t)) (ha : 0 < a) (hb : a + 1 < n) : m < n ∧ t ≤ s + 3 := median_facts h (by omega) (by omega) hb
set_option maxHeartbeats 3200000 in
set_option maxRecDepth 100000 in
theorem choosePivot_any {a b : Nat} (hR : Rw w0 blk off n c e d w) (hbl : blk < w.heap.size) (hab : a < b) (hb : b ≤ n) (hn : n < 4611686018427387904) :
    Calls Tryz.prog 115 #[.slice (some ⟨blk, off, none⟩) n cap, .int .i64 a, .int .i64 b] w fun ex w' =>
      ex = .returned (.tuple #[.int .i64 (choosePivot ltU d a b).1, .int .i64 (hintCode (choosePivot ltU d a b).2)]) ∧ Rw w0 blk off n c e d w' := by
  have hq0 : w0.heap.size ≤ w.heap.size := hR.upd.size
  have hbq : blk ≠ w.heap.size := by omega
  rw [choose_eq]
  obtain ⟨⟨p, t⟩, hp⟩ : ∃ r, cpR d a b = r := ⟨_, rfl⟩
  rw [hp]
  obtain ⟨l, hl⟩ : ∃ l, b - a = l := ⟨_, rfl⟩
  obtain ⟨i, hi⟩ : ∃ i, a + l / 4 * 1 = i := ⟨_, rfl⟩
  obtain ⟨j, hj⟩ : ∃ j, a + l / 4 * 2 = j := ⟨_, rfl⟩
  obtain ⟨k, hk⟩ : ∃ k, a + l / 4 * 3 = k := ⟨_, rfl⟩
  unfold cpR at hp
  rw [hl, hi, hj, hk] at hp
  have el : (b : Int) - (a : Int) = (l : Int) := by omega
  have ei : (a : Int) + (l : Int) / 4 = (i : Int) := by omega
  have ej : (a : Int) + (l : Int) / 4 * 2 = (j : Int) := by omega
  have ek : (a : Int) + (l : Int) / 4 * 3 = (k : Int) := by omega
  have hin : i < n := by omega
  have hjn : j < n := by omega
  have hkn : k < n := by omega
  have h50 : 50 ≤ l → 0 < i ∧ i + 1 < n ∧ 0 < j ∧ j + 1 < n ∧ 0 < k ∧ k + 1 < n := fun h => by omega
  have HR := hide hR
  have H50 := hide h50
  have HP := hide hp
  clear hR hp h50 hi hj hk
  go_enter Tryz.func115, Tryz.ntmps115
  go_upto_if 32 with fail
  go_cut [11] (fun s11 wx => s11 = .int .i64 (p : Int) ∧ Rw w0 blk off n c e d wx ∧ wx.heap[w.heap.size]? = some (.cells #[.int .i64 (t : Int)] 3 (0, 0)))
  case first => as_aux_lemma =>
    obtain ⟨W1, hW1⟩ : ∃ W1, w.alloc (.cells #[.int .i64 0] 3) = W1 := ⟨_, rfl⟩
    have hR1 : Rw w0 blk off n c e d W1 := by rw [← hW1]; exact HR.out.same ((Upd.refl [] w).alloc _)
    have hs1 : W1.heap[w.heap.size]? = some (.cells #[.int .i64 ((0 : Nat) : Int)] 3 (0, 0)) := by rw [← hW1]; exact blk_new w _
    rw [hW1]
    clear hW1
    have HR1 := hide hR1; have HS1 := hide hs1
    clear hR1 hs1 HR
    by_cases h8 : 8 ≤ l
    · have d1 : decide ((8 : Int) ≤ (l : Int)) = true := by simp; omega
      have d1' : decide (8 ≤ l) = true := by simpa using h8
      by_cases h5 : 50 ≤ l
      · have d2 : decide ((50 : Int) ≤ (l : Int)) = true := by simp; omega
        have d2' : decide (50 ≤ l) = true := by simpa using h5
        obtain ⟨g1, g2, g3, g4, g5, g6⟩ := H50.out h5
        have hp := HP.out
        rw [if_pos h8, if_pos h5] at hp
        obtain ⟨⟨m1, t1⟩, e1⟩ : ∃ r, medianAdjacent ltU d i 0 = r := ⟨_, rfl⟩
        rw [e1] at hp
        simp only at hp
        obtain ⟨⟨m2, t2⟩, e2⟩ : ∃ r, medianAdjacent ltU d j t1 = r := ⟨_, rfl⟩
        rw [e2] at hp
        simp only at hp
        obtain ⟨⟨m3, t3⟩, e3⟩ : ∃ r, medianAdjacent ltU d k t2 = r := ⟨_, rfl⟩
        rw [e3] at hp
        simp only at hp
        obtain ⟨f1, f2⟩ := adjacent_facts e1 g1 g2
        obtain ⟨f3, f4⟩ := adjacent_facts e2 g3 g4
        obtain ⟨f5, f6⟩ := adjacent_facts e3 g5 g6
        have E1 := hide e1; have E2 := hide e2; have E3 := hide e3; have HP2 := hide hp
        clear e1 e2 e3 hp HP
        go_wp2_with fail
        refine Calls.mono (adjacent_any HR1.out HS1.out hq0 hbq g1 g2 (by omega) hn) ?_
        rw [E1.out]
        rintro ex w1 ⟨rfl, hR, hs⟩
        have HR2 := hide hR; have HS2 := hide hs
        clear hR hs HR1 HS1
        go_wp2_with fail
        refine Calls.mono (adjacent_any HR2.out HS2.out hq0 hbq g3 g4 (by omega) hn) ?_
        try simp only
        rw [E2.out]
        rintro ex w2 ⟨rfl, hR, hs⟩
        have HR3 := hide hR; have HS3 := hide hs
        clear hR hs HR2 HS2
        go_wp2_with fail
        refine Calls.mono (adjacent_any HR3.out HS3.out hq0 hbq g5 g6 (by omega) hn) ?_
        try simp only
        rw [E3.out]
        rintro ex w3 ⟨rfl, hR, hs⟩
        have HR4 := hide hR; have HS4 := hide hs
        clear hR hs HR3 HS3
        go_wp2_with fail
        refine Calls.mono (median_any HR4.out HS4.out hq0 hbq f1 f3 f5 (by omega)) ?_
        try simp only
        rw [HP2.out]
        rintro ex w4 ⟨rfl, hR, hs⟩
        have HR5 := hide hR; have HS5 := hide hs
        clear hR hs HR4 HS4
        go_wp2_with fail
        go_meet
        exact ⟨rfl, HR5.out, HS5.out⟩
      · have d2 : decide ((50 : Int) ≤ (l : Int)) = false := by simp; omega
        have d2' : decide (50 ≤ l) = false := by simpa using h5
        have hp := HP.out
        rw [if_pos h8, if_neg h5] at hp
        have HP2 := hide hp
        clear hp HP
        go_wp2_with fail
        refine Calls.mono (median_any HR1.out HS1.out hq0 hbq hin hjn hkn (by omega)) ?_
        rw [HP2.out]
        rintro ex w4 ⟨rfl, hR, hs⟩
        have HR5 := hide hR; have HS5 := hide hs
        clear hR hs HR1 HS1
        go_wp2_with fail
        go_meet
        exact ⟨rfl, HR5.out, HS5.out⟩
    · have d1 : decide ((8 : Int) ≤ (l : Int)) = false := by simp; omega
      have d1' : decide (8 ≤ l) = false := by simpa using h8
      have hp := HP.out
      rw [if_neg h8] at hp
      cases hp
      go_wp2_with fail
      go_meet
      exact ⟨rfl, HR1.out, HS1.out⟩
  case rest =>
  obtain ⟨rfl, hR, hs⟩ := hcut
  have hcq : wc.cell? ⟨w.heap.size, 0, none⟩ = some (.int .i64 t) := blk_cell hs (by rfl)
  have HR2 := hide hR
  clear hR hs
  by_cases h0 : t = 0
  · have z1 : ((t : Int) == 0) = true := by simp; omega
    have H0 := hide h0
    clear h0
    go_wp2_with fail
    go_ret2
    exact ⟨by simp only [if_pos H0.out]; rfl, HR2.out⟩
  · have z1 : ((t : Int) == 0) = false := by simp; omega
    by_cases h12 : t = 12
    · have z2 : ((t : Int) == 12) = true := by simp; omega
      have H0 := hide h0; have H12 := hide h12
      clear h12 h0
      go_wp2_with fail
      go_ret2
      exact ⟨by simp only [if_neg H0.out, if_pos H12.out]; rfl, HR2.out⟩
    · have z2 : ((t : Int) == 12) = false := by simp; omega
      have H0 := hide h0; have H12 := hide h12
      clear h12 h0
      go_wp2_with fail
      go_ret2
      exact ⟨by simp only [if_neg H0.out, if_neg H12.out]; rfl, HR2.out⟩
end Go.Proofs.YthpnnffogbjhpaaGreatDoor.So
