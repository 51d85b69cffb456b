/- quoratelaw07.RingPlays returns true for every room and every list of acts, and turns nothing that was there. -/
import Derived.Test.YtmgdhloehkdffaaRingHolds
import Derived.Test.YtmgdhloehkdffaaRingWk
namespace Go.Proofs.Ytmgdhloehkdffaa.RingPl
open Go.RowKit
open RingS (TR TC zero)
open RingHolds (Tab)

/-- The acts, as they lie in memory. -/
def Acts (w : World) (ao : Option Addr) (len : Nat) (dos slots : Nat → Nat) (vs : Nat → ByteArray) : Prop :=
  ∀ i, i < len → ∃ b off, ao = some ⟨b, off, none⟩ ∧ b < w.heap.size ∧ w.cell? ⟨b, off + i * 3, none⟩ = some (.int .u8 (dos i)) ∧ w.cell? ⟨b, off + i * 3 + 1, none⟩ = some (.int .u64 (slots i)) ∧
    w.cell? ⟨b, off + i * 3 + 2, none⟩ = some (.string (vs i)) ∧ dos i < 256 ∧ slots i < 18446744073709551616

set_option maxRecDepth 100000 in
set_option maxHeartbeats 1000000 in
/-- No such ring. -/
theorem plays_bad (room : Int) (hr : room < 1 ∨ 4096 < room) (ao : Option Addr) (len cap : Nat) (w : World) :
    Calls Try.prog 3 #[.int .i64 room, .slice ao len cap] w fun e w' => e = .returned (.bool true) ∧ Upd [] w w' := by
  have key : ∀ (_h : decide (room < 1) = true ∨ (decide (room < 1) = false ∧ decide (4096 < room) = true)), Calls Try.prog 3 #[.int .i64 room, .slice ao len cap] w fun e w' => e = .returned (.bool true) ∧ Upd [] w w' := by
    have HB := hide hr
    clear hr
    rintro (hd | ⟨hd, hd2⟩)
    all_goals
      go_enter Try.func3, Try.ntmps3
      go_wp2_with fail
      refine (RingS.new_bad room _ HB.out).mono ?_
      rintro e w1 ⟨rfl, rfl⟩
      go_wp2_with fail
      refine (RingS.get_nil 1 _).mono ?_
      rintro e w1 ⟨rfl, k1, rfl⟩
      go_wp2_with fail
      refine (RingS.set_nil 1 _ _).mono ?_
      rintro e w2 ⟨rfl, rfl⟩
      go_wp2_with fail
      refine (RingS.release_nil 1 _).mono ?_
      rintro e w2 ⟨rfl, rfl⟩
      go_wp2_with fail
      refine (RingS.base_nil _).mono ?_
      rintro e w2 ⟨rfl, rfl⟩
      go_wp2_with fail
      refine (RingS.last_nil _).mono ?_
      rintro e w2 ⟨rfl, hu2⟩
      have U2 := hide hu2
      clear hu2
      go_wp2_with fail
      refine (RingWk.wakes_any _).mono ?_
      rintro e w3 ⟨rfl, hu3⟩
      have U3 := hide hu3
      clear hu3
      go_wp2_with fail
      go_ret
      exact ⟨rfl, (((Upd.refl [] w).drewN k1).trans U2.out).trans U3.out⟩
  refine key ?_
  by_cases h1 : room < 1
  · exact .inl (by simpa using h1)
  · exact .inr ⟨by simpa using h1, by simp; omega⟩

set_option maxRecDepth 100000 in
set_option maxHeartbeats 1000000 in
/-- Too many slots, or too many acts. -/
theorem plays_big (n : Nat) (h1 : 1 ≤ n) (h2 : n ≤ 4096) (ao : Option Addr) (len cap : Nat) (hlen : len ≤ maxLen) (w : World) (hb : 50 < n ∨ (n ≤ 50 ∧ 200 < len)) :
    Calls Try.prog 3 #[.int .i64 n, .slice ao len cap] w fun e w' => e = .returned (.bool true) ∧ Upd [] w w' := by
  unfold maxLen at hlen
  have hd : decide ((n : Int) < 1) = false := by simp; omega
  have hd2 : decide ((4096 : Int) < n) = false := by simp; omega
  have key : ∀ (_h : decide ((50 : Int) < n) = true ∨ (decide ((50 : Int) < n) = false ∧ decide ((200 : Int) < len) = true)), Calls Try.prog 3 #[.int .i64 n, .slice ao len cap] w fun e w' => e = .returned (.bool true) ∧ Upd [] w w' := by
    clear hb
    rintro (hd3 | ⟨hd3, hd4⟩)
    all_goals
      go_enter Try.func3, Try.ntmps3
      go_wp2_with fail
      refine (RingS.new_any n _ (by omega) (by omega)).mono ?_
      rintro e w1 ⟨B, C, rfl, hu1, hr1, hB, hC⟩
      have U1 := hide hu1
      clear hu1 hr1 hB hC
      go_wp2_with fail
      refine (RingWk.wakes_any _).mono ?_
      rintro e w3 ⟨rfl, hu3⟩
      have U3 := hide hu3
      clear hu3
      go_wp2_with fail
      go_ret
      exact ⟨rfl, U1.out.trans U3.out⟩
  refine key ?_
  rcases hb with h | ⟨h, h'⟩
  · exact .inl (by simp; omega)
  · exact .inr ⟨by simp; omega, by simp; omega⟩

set_option maxRecDepth 100000 in
set_option maxHeartbeats 1000000 in
theorem plays_any (n : Nat) (h1 : 1 ≤ n) (h2 : n ≤ 50) (ao : Option Addr) (len cap : Nat) (hlen : len ≤ 200) (dos slots : Nat → Nat) (vs : Nat → ByteArray) (w : World) (ha : Acts w ao len dos slots vs) :
    Calls Try.prog 3 #[.int .i64 n, .slice ao len cap] w fun e w' => e = .returned (.bool true) ∧ Upd [] w w' := by
  have hd : decide ((n : Int) < 1) = false := by simp; omega
  have hd2 : decide ((4096 : Int) < n) = false := by simp; omega
  have hd3 : decide ((50 : Int) < n) = false := by simp; omega
  have hd4 : decide ((200 : Int) < len) = false := by simp; omega
  have HA := hide ha
  clear ha
  have hmm := @run_makeMap Try.prog
  go_enter Try.func3, Try.ntmps3
  go_wp2_with fail
  refine (RingS.new_any n _ (by omega) (by omega)).mono ?_
  rintro e w1 ⟨B, C, rfl, hu1, hr1, hB, hC⟩
  have U1 := hide hu1; have R1 := hide hr1
  clear hu1 hr1
  go_wp2_with fail
  clear hmm
  have hBM := R1.out.ltB; have hCM := R1.out.ltC
  go_loopw [10, 11] (fun sb si wr => ∃ (k base : Nat) (f : Nat → Value × Bool) (es : Array MapEntry) (clock : Nat), k ≤ len ∧ si = .int .i64 k ∧ sb = .int .u64 base ∧ base ≤ 1152921504606846976 ∧
      Ring TR TC wr B C n base f ∧ wr.heap[w1.heap.size]? = some (.map es clock) ∧ MKeys (.num .u64) es.toList ∧ Tab n base f es.toList ∧ (∀ s : Nat, base + n < s → mget es.toList (.int .u64 s) = none) ∧ Upd [] w wr) (fun _ si _ => len - (intOf si).toNat)
  case atStart =>
    exact ⟨0, 0, _, #[], 0, by omega, rfl, rfl, by omega, R1.out.upd ((Upd.refl [] _).alloc _) (by simp) (by simp), blk_new _ _, by intro e he; simp at he, fun s _ _ => .inr ⟨rfl, rfl⟩, fun s _ => rfl, U1.out.alloc _⟩
  case round =>
    obtain ⟨k, base, f, es, clock, hk, rfl, rfl, hb, hr, hm, hkeys, htab, hnone, hu⟩ := hrel
    have R := hide hr; have M := hide hm; have KS := hide hkeys; have TB := hide htab; have NB := hide hnone; have U := hide hu
    clear hr hm hkeys htab hnone hu R1 U1
    by_cases hlt : k < len
    · obtain ⟨b, off, rfl, hbl, ha0, ha1, ha2, hdo, hsl⟩ := HA.out k hlt
      have hc0 : wr.cell? ⟨b, off + k * 3, none⟩ = some (.int .u8 (dos k)) := by rw [← ha0]; exact U.out.below_nil.cell hbl
      have hc1 : wr.cell? ⟨b, off + k * 3 + 1, none⟩ = some (.int .u64 (slots k)) := by rw [← ha1]; exact U.out.below_nil.cell hbl
      have hc2 : wr.cell? ⟨b, off + k * 3 + 2, none⟩ = some (.string (vs k)) := by rw [← ha2]; exact U.out.below_nil.cell hbl
      have HA0 := hide ha0; have HA1 := hide ha1; have HA2 := hide ha2
      clear ha0 ha1 ha2 HA
      generalize slots k = s at *
      generalize vs k = str at *
      by_cases hbig : 1152921504606846976 < s
      · have hd5 : decide ((1152921504606846976 : Int) < s) = true := by simp; omega
        go_wp2_with fail
        refine (RingWk.wakes_any _).mono ?_
        rintro e w3 ⟨rfl, hu3⟩
        have U3 := hide hu3
        clear hu3
        go_wp2_with fail
        go_ret
        exact ⟨rfl, U.out.trans U3.out⟩
      · have hd5 : decide ((1152921504606846976 : Int) < s) = false := by simp; omega
        have h3 : dos k % 3 = 0 ∨ dos k % 3 = 1 ∨ dos k % 3 = 2 := by omega
        rcases h3 with h3 | h3 | h3
        · have hq0 : ((dos k : Int) % 3 == 0) = true := by simp; omega
          clear h3
          by_cases hp1 : base < s
          · have hd6 : decide (base < s) = true := by simpa using hp1
            by_cases hp2 : s ≤ base + n
            · have hd7 : decide ((s : Int) ≤ base + n) = true := by simp; omega
              obtain ⟨W1, es', clock', hup, hu1, hz1, hm1, hk1, hg1⟩ := run_mapUpdate' (P := Try.prog) (m := .num .u64) Try.underlying34 Try.underlying29 M.out KS.out (k := .int .u64 (s : Nat)) ⟨_, rfl⟩ (.string str)
              have U1 := hide (U.out.trans_new hu1 (by simp; omega)); have M1 := hide hm1; have KS6 := hide hk1; have G1 := hide hg1
              have hMB : w1.heap.size ≠ B ∧ w1.heap.size ≠ C := by omega
              have R1 := hide (R.out.upd hu1 (by simp; omega) (by simp; omega))
              have hc2' : W1.cell? ⟨b, off + k * 3 + 2, none⟩ = some (.string str) := by rw [← HA2.out]; exact U1.out.below_nil.cell hbl
              clear hu1 hm1 hk1 hg1 hz1
              go_wp2_with fail
              refine (RingS.set_any (slot := s) W1 str R1.out (by omega) hp1 hp2).mono ?_
              rintro e w6 ⟨rfl, hu6, hr6⟩
              have R6 := hide hr6
              have M6 := hide (hu6.get M1.out (by simp; omega))
              have U6 := hide (U1.out.trans_new hu6 (by simp; omega))
              have TB6 : Hid (Tab n base (rput f (s % n) (.string str, true)) es'.toList) := hide (by
                intro x hx1 hx2
                rw [G1.out _ ⟨_, rfl⟩]
                by_cases e : x = s
                · subst e
                  exact .inl ⟨str, by simp [keyEq], by simp [rput]⟩
                · have e2 : (x % n = s % n) = False := by simp; exact fun h => e (mod_inj (base := base) (n := n) hx1 hx2 hp1 hp2 h)
                  have e3 : keyEq (.int .u64 (x : Nat)) (.int .u64 (s : Nat)) = false := by simp [keyEq]; omega
                  simp only [rput, e2, e3, if_false, Bool.false_eq_true]
                  exact TB.out x hx1 hx2)
              have NB6 : Hid (∀ x : Nat, base + n < x → mget es'.toList (.int .u64 x) = none) := hide (by
                intro x hx
                rw [G1.out _ ⟨_, rfl⟩]
                have e3 : keyEq (.int .u64 (x : Nat)) (.int .u64 (s : Nat)) = false := by simp [keyEq]; omega
                simp only [e3, if_false, Bool.false_eq_true]
                exact NB.out x hx)
              clear hu6 hr6 R1 M1 U1 G1 R M U TB NB KS hup hc0 hc1 hc2 hc2'
              go_wp2_with fail
              refine (RingS.base_any _ (by exact R6.out.c0)).mono ?_
              rintro e w8 ⟨rfl, rfl⟩
              go_wp2_with fail
              refine (RingHolds.holds_any _ (by omega) R6.out h2 M6.out KS6.out TB6.out).mono ?_
              rintro e w9 ⟨rfl, hu9⟩
              have R9 := hide (R6.out.upd hu9 (by simp) (by simp)); have M9 := hide (hu9.get M6.out (by simp)); have U9 := hide (U6.out.trans hu9)
              clear hu9 R6 M6 U6
              go_wp2_with fail
              go_roundw
              case rel => exact ⟨k + 1, base, _, _, _, by omega, by go_num, rfl, by omega, R9.out, M9.out, KS6.out, TB6.out, NB6.out, U9.out⟩
              case measure => simp [intOf]; omega
            · have hd7 : decide ((s : Int) ≤ base + n) = false := by simp; omega
              go_wp2_with fail
              refine (RingS.set_full (slot := s) _ str R.out (by omega) (by omega)).mono ?_
              rintro e w6 ⟨rfl, k6, rfl⟩
              have R6 := hide (R.out.drewN k6); have M6 : Hid ((wr.drewN k6).heap[w1.heap.size]? = some (.map es clock)) := hide M.out; have KS6 := KS; have TB6 := TB; have NB6 := NB; have U6 := hide (U.out.drewN k6)
              clear R M U KS TB NB hc0 hc1 hc2
              go_wp2_with fail
              refine (RingS.base_any _ (by exact R6.out.c0)).mono ?_
              rintro e w8 ⟨rfl, rfl⟩
              go_wp2_with fail
              refine (RingHolds.holds_any _ (by omega) R6.out h2 M6.out KS6.out TB6.out).mono ?_
              rintro e w9 ⟨rfl, hu9⟩
              have R9 := hide (R6.out.upd hu9 (by simp) (by simp)); have M9 := hide (hu9.get M6.out (by simp)); have U9 := hide (U6.out.trans hu9)
              clear hu9 R6 M6 U6
              go_wp2_with fail
              go_roundw
              case rel => exact ⟨k + 1, base, _, _, _, by omega, by go_num, rfl, by omega, R9.out, M9.out, KS6.out, TB6.out, NB6.out, U9.out⟩
              case measure => simp [intOf]; omega
          · have hd6 : decide (base < s) = false := by simpa using hp1
            go_wp2_with fail
            refine (RingS.set_low (slot := s) _ str R.out (by omega)).mono ?_
            rintro e w6 ⟨rfl, rfl⟩
            have R6 := R; have M6 := M; have KS6 := KS; have TB6 := TB; have NB6 := NB; have U6 := U
            clear R M U KS TB NB hc0 hc1 hc2
            go_wp2_with fail
            refine (RingS.base_any _ (by exact R6.out.c0)).mono ?_
            rintro e w8 ⟨rfl, rfl⟩
            go_wp2_with fail
            refine (RingHolds.holds_any _ (by omega) R6.out h2 M6.out KS6.out TB6.out).mono ?_
            rintro e w9 ⟨rfl, hu9⟩
            have R9 := hide (R6.out.upd hu9 (by simp) (by simp)); have M9 := hide (hu9.get M6.out (by simp)); have U9 := hide (U6.out.trans hu9)
            clear hu9 R6 M6 U6
            go_wp2_with fail
            go_roundw
            case rel => exact ⟨k + 1, base, _, _, _, by omega, by go_num, rfl, by omega, R9.out, M9.out, KS6.out, TB6.out, NB6.out, U9.out⟩
            case measure => simp [intOf]; omega
        · have hq0 : ((dos k : Int) % 3 == 0) = false := by simp; omega
          have hq1 : ((dos k : Int) % 3 == 1) = true := by simp; omega
          clear h3
          by_cases hp : base < s ∧ s ≤ base + n
          · obtain ⟨hp1, hp2⟩ := hp
            have hd6 : decide (base < s) = true := by simpa using hp1
            have hd7 : decide ((s : Int) ≤ base + n) = true := by simp; omega
            rcases TB.out s hp1 hp2 with ⟨st, h5, h6⟩ | ⟨h5, h6⟩
            · have H5 := hide h5; have H6 := hide h6
              clear h5 h6
              go_wp2_with fail
              refine (RingS.get_any (slot := s) _ R.out (by omega) (by omega)).mono ?_
              rw [rget_in hp1 hp2, H6.out]
              rintro e w6 ⟨rfl, k6, rfl⟩
              have R6 := hide (R.out.drewN k6); have M6 : Hid ((wr.drewN k6).heap[w1.heap.size]? = some (.map es clock)) := hide M.out; have KS6 := KS; have TB6 := TB; have NB6 := NB; have U6 := hide (U.out.drewN k6)
              have hlk := run_lookup_ok (P := Try.prog) (m := .num .u64) Try.underlying34 Try.underlying29 (RingHolds.zeroS (wr.drewN k6)) M6.out KS6.out (k := .int .u64 (s : Nat)) ⟨_, rfl⟩
              rw [H5.out] at hlk
              simp only [Option.getD_some, Option.isSome_some] at hlk
              clear R M U KS TB NB hc0 hc1 hc2
              go_wp2_with fail
              refine (RingS.base_any _ (by exact R6.out.c0)).mono ?_
              rintro e w8 ⟨rfl, rfl⟩
              go_wp2_with fail
              refine (RingHolds.holds_any _ (by omega) R6.out h2 M6.out KS6.out TB6.out).mono ?_
              rintro e w9 ⟨rfl, hu9⟩
              have R9 := hide (R6.out.upd hu9 (by simp) (by simp)); have M9 := hide (hu9.get M6.out (by simp)); have U9 := hide (U6.out.trans hu9)
              clear hu9 R6 M6 U6
              go_wp2_with fail
              go_roundw
              case rel => exact ⟨k + 1, base, _, _, _, by omega, by go_num, rfl, by omega, R9.out, M9.out, KS6.out, TB6.out, NB6.out, U9.out⟩
              case measure => simp [intOf]; omega
            · have H5 := hide h5
              obtain ⟨v0, hv0⟩ : ∃ v0, f (s % n) = (v0, false) := ⟨(f (s % n)).1, by rw [← h6]⟩
              have H6 := hide hv0
              clear h5 h6 hv0
              go_wp2_with fail
              refine (RingS.get_any (slot := s) _ R.out (by omega) (by omega)).mono ?_
              rw [rget_in hp1 hp2, H6.out]
              rintro e w6 ⟨rfl, k6, rfl⟩
              have R6 := hide (R.out.drewN k6); have M6 : Hid ((wr.drewN k6).heap[w1.heap.size]? = some (.map es clock)) := hide M.out; have KS6 := KS; have TB6 := TB; have NB6 := NB; have U6 := hide (U.out.drewN k6)
              have hlk := run_lookup_ok (P := Try.prog) (m := .num .u64) Try.underlying34 Try.underlying29 (RingHolds.zeroS (wr.drewN k6)) M6.out KS6.out (k := .int .u64 (s : Nat)) ⟨_, rfl⟩
              rw [H5.out] at hlk
              simp only [Option.getD_none, Option.isSome_none] at hlk
              clear R M U KS TB NB hc0 hc1 hc2
              go_wp2_with fail
              refine (RingS.base_any _ (by exact R6.out.c0)).mono ?_
              rintro e w8 ⟨rfl, rfl⟩
              go_wp2_with fail
              refine (RingHolds.holds_any _ (by omega) R6.out h2 M6.out KS6.out TB6.out).mono ?_
              rintro e w9 ⟨rfl, hu9⟩
              have R9 := hide (R6.out.upd hu9 (by simp) (by simp)); have M9 := hide (hu9.get M6.out (by simp)); have U9 := hide (U6.out.trans hu9)
              clear hu9 R6 M6 U6
              go_wp2_with fail
              go_roundw
              case rel => exact ⟨k + 1, base, _, _, _, by omega, by go_num, rfl, by omega, R9.out, M9.out, KS6.out, TB6.out, NB6.out, U9.out⟩
              case measure => simp [intOf]; omega
          · have hd67 : (decide (base < s) = true ∧ decide ((s : Int) ≤ base + n) = false) ∨ decide (base < s) = false := by
              by_cases hp1 : base < s
              · exact .inl ⟨by simpa using hp1, by simp; omega⟩
              · exact .inr (by simpa using hp1)
            obtain ⟨o5, h5⟩ : ∃ o5, mget es.toList (.int .u64 (s : Nat)) = o5 := ⟨_, rfl⟩
            have H5 := hide h5
            clear h5
            rcases hd67 with ⟨hd6, hd7⟩ | hd6
            · cases o5 with
              | none =>
                go_wp2_with fail
                refine (RingS.get_any (slot := s) _ R.out (by omega) (by omega)).mono ?_
                rw [rget_out hp]
                rintro e w6 ⟨rfl, k6, rfl⟩
                have R6 := hide (R.out.drewN k6); have M6 : Hid ((wr.drewN k6).heap[w1.heap.size]? = some (.map es clock)) := hide M.out; have KS6 := KS; have TB6 := TB; have NB6 := NB; have U6 := hide (U.out.drewN k6)
                have hlk := run_lookup_ok (P := Try.prog) (m := .num .u64) Try.underlying34 Try.underlying29 (RingHolds.zeroS (wr.drewN k6)) M6.out KS6.out (k := .int .u64 (s : Nat)) ⟨_, rfl⟩
                rw [H5.out] at hlk
                simp only [Option.getD_none, Option.isSome_none] at hlk
                clear R M U KS TB NB hc0 hc1 hc2
                go_wp2_with fail
                refine (RingS.base_any _ (by exact R6.out.c0)).mono ?_
                rintro e w8 ⟨rfl, rfl⟩
                go_wp2_with fail
                refine (RingHolds.holds_any _ (by omega) R6.out h2 M6.out KS6.out TB6.out).mono ?_
                rintro e w9 ⟨rfl, hu9⟩
                have R9 := hide (R6.out.upd hu9 (by simp) (by simp)); have M9 := hide (hu9.get M6.out (by simp)); have U9 := hide (U6.out.trans hu9)
                clear hu9 R6 M6 U6
                go_wp2_with fail
                go_roundw
                case rel => exact ⟨k + 1, base, _, _, _, by omega, by go_num, rfl, by omega, R9.out, M9.out, KS6.out, TB6.out, NB6.out, U9.out⟩
                case measure => simp [intOf]; omega
              | some v5 =>
                go_wp2_with fail
                refine (RingS.get_any (slot := s) _ R.out (by omega) (by omega)).mono ?_
                rw [rget_out hp]
                rintro e w6 ⟨rfl, k6, rfl⟩
                have R6 := hide (R.out.drewN k6); have M6 : Hid ((wr.drewN k6).heap[w1.heap.size]? = some (.map es clock)) := hide M.out; have KS6 := KS; have TB6 := TB; have NB6 := NB; have U6 := hide (U.out.drewN k6)
                have hlk := run_lookup_ok (P := Try.prog) (m := .num .u64) Try.underlying34 Try.underlying29 (RingHolds.zeroS (wr.drewN k6)) M6.out KS6.out (k := .int .u64 (s : Nat)) ⟨_, rfl⟩
                rw [H5.out] at hlk
                simp only [Option.getD_some, Option.isSome_some] at hlk
                clear R M U KS TB NB hc0 hc1 hc2
                go_wp2_with fail
                refine (RingS.base_any _ (by exact R6.out.c0)).mono ?_
                rintro e w8 ⟨rfl, rfl⟩
                go_wp2_with fail
                refine (RingHolds.holds_any _ (by omega) R6.out h2 M6.out KS6.out TB6.out).mono ?_
                rintro e w9 ⟨rfl, hu9⟩
                have R9 := hide (R6.out.upd hu9 (by simp) (by simp)); have M9 := hide (hu9.get M6.out (by simp)); have U9 := hide (U6.out.trans hu9)
                clear hu9 R6 M6 U6
                go_wp2_with fail
                go_roundw
                case rel => exact ⟨k + 1, base, _, _, _, by omega, by go_num, rfl, by omega, R9.out, M9.out, KS6.out, TB6.out, NB6.out, U9.out⟩
                case measure => simp [intOf]; omega
            · cases o5 with
              | none =>
                go_wp2_with fail
                refine (RingS.get_any (slot := s) _ R.out (by omega) (by omega)).mono ?_
                rw [rget_out hp]
                rintro e w6 ⟨rfl, k6, rfl⟩
                have R6 := hide (R.out.drewN k6); have M6 : Hid ((wr.drewN k6).heap[w1.heap.size]? = some (.map es clock)) := hide M.out; have KS6 := KS; have TB6 := TB; have NB6 := NB; have U6 := hide (U.out.drewN k6)
                have hlk := run_lookup_ok (P := Try.prog) (m := .num .u64) Try.underlying34 Try.underlying29 (RingHolds.zeroS (wr.drewN k6)) M6.out KS6.out (k := .int .u64 (s : Nat)) ⟨_, rfl⟩
                rw [H5.out] at hlk
                simp only [Option.getD_none, Option.isSome_none] at hlk
                clear R M U KS TB NB hc0 hc1 hc2
                go_wp2_with fail
                refine (RingS.base_any _ (by exact R6.out.c0)).mono ?_
                rintro e w8 ⟨rfl, rfl⟩
                go_wp2_with fail
                refine (RingHolds.holds_any _ (by omega) R6.out h2 M6.out KS6.out TB6.out).mono ?_
                rintro e w9 ⟨rfl, hu9⟩
                have R9 := hide (R6.out.upd hu9 (by simp) (by simp)); have M9 := hide (hu9.get M6.out (by simp)); have U9 := hide (U6.out.trans hu9)
                clear hu9 R6 M6 U6
                go_wp2_with fail
                go_roundw
                case rel => exact ⟨k + 1, base, _, _, _, by omega, by go_num, rfl, by omega, R9.out, M9.out, KS6.out, TB6.out, NB6.out, U9.out⟩
                case measure => simp [intOf]; omega
              | some v5 =>
                go_wp2_with fail
                refine (RingS.get_any (slot := s) _ R.out (by omega) (by omega)).mono ?_
                rw [rget_out hp]
                rintro e w6 ⟨rfl, k6, rfl⟩
                have R6 := hide (R.out.drewN k6); have M6 : Hid ((wr.drewN k6).heap[w1.heap.size]? = some (.map es clock)) := hide M.out; have KS6 := KS; have TB6 := TB; have NB6 := NB; have U6 := hide (U.out.drewN k6)
                have hlk := run_lookup_ok (P := Try.prog) (m := .num .u64) Try.underlying34 Try.underlying29 (RingHolds.zeroS (wr.drewN k6)) M6.out KS6.out (k := .int .u64 (s : Nat)) ⟨_, rfl⟩
                rw [H5.out] at hlk
                simp only [Option.getD_some, Option.isSome_some] at hlk
                clear R M U KS TB NB hc0 hc1 hc2
                go_wp2_with fail
                refine (RingS.base_any _ (by exact R6.out.c0)).mono ?_
                rintro e w8 ⟨rfl, rfl⟩
                go_wp2_with fail
                refine (RingHolds.holds_any _ (by omega) R6.out h2 M6.out KS6.out TB6.out).mono ?_
                rintro e w9 ⟨rfl, hu9⟩
                have R9 := hide (R6.out.upd hu9 (by simp) (by simp)); have M9 := hide (hu9.get M6.out (by simp)); have U9 := hide (U6.out.trans hu9)
                clear hu9 R6 M6 U6
                go_wp2_with fail
                go_roundw
                case rel => exact ⟨k + 1, base, _, _, _, by omega, by go_num, rfl, by omega, R9.out, M9.out, KS6.out, TB6.out, NB6.out, U9.out⟩
                case measure => simp [intOf]; omega
        · have hq0 : ((dos k : Int) % 3 == 0) = false := by simp; omega
          have hq1 : ((dos k : Int) % 3 == 1) = false := by simp; omega
          have hq2 : ((dos k : Int) % 3 == 2) = true := by simp; omega
          clear h3
          by_cases hp1 : s < base
          · have hd6 : decide (s < base) = true := by simpa using hp1
            have hd6' : decide (base < s) = false := by simp; omega
            go_wp2_with fail
            refine (RingS.release_low (tt := s) _ R.out hp1).mono ?_
            rintro e w6 ⟨rfl, rfl⟩
            have R6 := R; have M6 := M; have KS6 := KS; have TB6 := TB; have NB6 := NB; have U6 := U
            clear R M U KS TB NB hc0 hc1 hc2
            go_wp2_with fail
            refine (RingS.base_any _ (by exact R6.out.c0)).mono ?_
            rintro e w8 ⟨rfl, rfl⟩
            go_wp2_with fail
            refine (RingHolds.holds_any _ (by omega) R6.out h2 M6.out KS6.out TB6.out).mono ?_
            rintro e w9 ⟨rfl, hu9⟩
            have R9 := hide (R6.out.upd hu9 (by simp) (by simp)); have M9 := hide (hu9.get M6.out (by simp)); have U9 := hide (U6.out.trans hu9)
            clear hu9 R6 M6 U6
            go_wp2_with fail
            go_roundw
            case rel => exact ⟨k + 1, base, _, _, _, by omega, by go_num, rfl, by omega, R9.out, M9.out, KS6.out, TB6.out, NB6.out, U9.out⟩
            case measure => simp [intOf]; omega
          · have hd6 : decide (s < base) = false := by simp; omega
            have hd67 : (decide (base < s) = true ∧ (decide ((s : Int) ≤ base + n) = false ∨ decide ((s : Int) ≤ base + n) = true)) ∨ decide (base < s) = false := by
              by_cases hp2 : base < s
              · exact .inl ⟨by simpa using hp2, by cases decide ((s : Int) ≤ base + n) <;> simp⟩
              · exact .inr (by simpa using hp2)
            have rel : ∀ (W' : World) (hu6 : Upd [B, C] wr W') (hr6 : Ring TR TC W' B C n s (rclear n base f zero (min n (s - base)))), Hid (Tab n s (rclear n base f zero (min n (s - base))) es.toList) ∧ Hid (∀ x : Nat, s + n < x → mget es.toList (.int .u64 x) = none) ∧ Hid (W'.heap[w1.heap.size]? = some (.map es clock)) ∧ Hid (Upd [] w W') := by
              intro W' hu6 hr6
              refine ⟨hide ?_, hide (fun x hx => NB.out x (by omega)), hide (hu6.get M.out (by simp; omega)), hide (U.out.trans_new hu6 (by simp; omega))⟩
              intro x hx1 hx2
              by_cases hx3 : x ≤ base + n
              · rw [rclear_keeps (by omega) (by omega) hx3]
                exact TB.out x (by omega) hx3
              · rw [rclear_far h1 (by omega) (by omega) (by omega)]
                exact .inr ⟨NB.out x (by omega), rfl⟩
            rcases hd67 with ⟨hd8, hd9 | hd9⟩ | hd8
            · go_wp2_with fail
              refine (RingS.release_any (tt := s) _ R.out (by omega) (by omega)).mono ?_
              rintro e w6 ⟨rfl, hu6, hr6⟩
              obtain ⟨TB6, NB6, M6, U6⟩ := rel w6 hu6 hr6
              have R6 := hide hr6; have KS6 := KS
              clear R M U KS TB NB hc0 hc1 hc2 rel hu6 hr6
              go_wp2_with fail
              refine (RingS.base_any _ (by exact R6.out.c0)).mono ?_
              rintro e w8 ⟨rfl, rfl⟩
              go_wp2_with fail
              refine (RingHolds.holds_any _ (by omega) R6.out h2 M6.out KS6.out TB6.out).mono ?_
              rintro e w9 ⟨rfl, hu9⟩
              have R9 := hide (R6.out.upd hu9 (by simp) (by simp)); have M9 := hide (hu9.get M6.out (by simp)); have U9 := hide (U6.out.trans hu9)
              clear hu9 R6 M6 U6
              go_wp2_with fail
              go_roundw
              case rel => exact ⟨k + 1, s, _, _, _, by omega, by go_num, rfl, by omega, R9.out, M9.out, KS6.out, TB6.out, NB6.out, U9.out⟩
              case measure => simp [intOf]; omega
            · go_wp2_with fail
              refine (RingS.release_any (tt := s) _ R.out (by omega) (by omega)).mono ?_
              rintro e w6 ⟨rfl, hu6, hr6⟩
              obtain ⟨TB6, NB6, M6, U6⟩ := rel w6 hu6 hr6
              have R6 := hide hr6; have KS6 := KS
              clear R M U KS TB NB hc0 hc1 hc2 rel hu6 hr6
              go_wp2_with fail
              refine (RingS.base_any _ (by exact R6.out.c0)).mono ?_
              rintro e w8 ⟨rfl, rfl⟩
              go_wp2_with fail
              refine (RingHolds.holds_any _ (by omega) R6.out h2 M6.out KS6.out TB6.out).mono ?_
              rintro e w9 ⟨rfl, hu9⟩
              have R9 := hide (R6.out.upd hu9 (by simp) (by simp)); have M9 := hide (hu9.get M6.out (by simp)); have U9 := hide (U6.out.trans hu9)
              clear hu9 R6 M6 U6
              go_wp2_with fail
              go_roundw
              case rel => exact ⟨k + 1, s, _, _, _, by omega, by go_num, rfl, by omega, R9.out, M9.out, KS6.out, TB6.out, NB6.out, U9.out⟩
              case measure => simp [intOf]; omega
            · go_wp2_with fail
              refine (RingS.release_any (tt := s) _ R.out (by omega) (by omega)).mono ?_
              rintro e w6 ⟨rfl, hu6, hr6⟩
              obtain ⟨TB6, NB6, M6, U6⟩ := rel w6 hu6 hr6
              have R6 := hide hr6; have KS6 := KS
              clear R M U KS TB NB hc0 hc1 hc2 rel hu6 hr6
              go_wp2_with fail
              refine (RingS.base_any _ (by exact R6.out.c0)).mono ?_
              rintro e w8 ⟨rfl, rfl⟩
              go_wp2_with fail
              refine (RingHolds.holds_any _ (by omega) R6.out h2 M6.out KS6.out TB6.out).mono ?_
              rintro e w9 ⟨rfl, hu9⟩
              have R9 := hide (R6.out.upd hu9 (by simp) (by simp)); have M9 := hide (hu9.get M6.out (by simp)); have U9 := hide (U6.out.trans hu9)
              clear hu9 R6 M6 U6
              go_wp2_with fail
              go_roundw
              case rel => exact ⟨k + 1, s, _, _, _, by omega, by go_num, rfl, by omega, R9.out, M9.out, KS6.out, TB6.out, NB6.out, U9.out⟩
              case measure => simp [intOf]; omega
    · have hd5 : decide ((k : Int) < len) = false := by simp; omega
      go_wp2_with fail
      refine (RingWk.wakes_any _).mono ?_
      rintro e w3 ⟨rfl, hu3⟩
      have U3 := hide hu3
      clear hu3
      go_wp2_with fail
      go_ret
      exact ⟨rfl, U.out.trans U3.out⟩
end Go.Proofs.Ytmgdhloehkdffaa.RingPl
