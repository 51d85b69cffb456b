/- quoratelaw07.holds: a ring tells just what a table has. -/
import Derived.Test.YtmgdhloehkdffaaRingTold
import Derived.Test.YtmgdhloehkdffaaMapM
namespace Go.Proofs.Ytmgdhloehkdffaa.RingHolds
open Go.RowKit
open RingS (TR TC zero)
theorem zeroS (w : World) : (zeroValue 9).run Try.prog w = .ok (.string ByteArray.empty) w := by kernel_rfl

/-- A ring's cells are what a table has, of the slots inside. -/
def Tab (n base : Nat) (f : Nat → Value × Bool) (es : List MapEntry) : Prop :=
  ∀ s, base < s → s ≤ base + n → (∃ str, mget es (.int .u64 (s : Nat)) = some (.string str) ∧ f (s % n) = (.string str, true)) ∨ (mget es (.int .u64 (s : Nat)) = none ∧ (f (s % n)).2 = false)

theorem rlistFrom_mem {n base : Nat} {f : Nat → Value × Bool} : ∀ (k i : Nat) (x : Nat × Value), x ∈ rlistFrom n base f i k → base + i ≤ x.1 ∧ x.1 < base + i + k ∧ f (x.1 % n) = (x.2, true)
  | 0, _, _, h => by simp [rlistFrom] at h
  | k + 1, i, x, h => by
    simp only [rlistFrom, List.mem_append] at h
    rcases h with h | h
    · split at h
      · rename_i hh
        simp at h
        subst h
        exact ⟨Nat.le_refl _, by simp, by rw [← hh]⟩
      · simp at h
    · have := rlistFrom_mem k (i + 1) x h
      exact ⟨by omega, by omega, this.2.2⟩
theorem Tab.strs {n base : Nat} {f : Nat → Value × Bool} {es : List MapEntry} (h : Tab n base f es) : ∀ x ∈ rlist n base f, ∃ s, x.2 = .string s := by
  intro x hx
  obtain ⟨h1, h2, h3⟩ := rlistFrom_mem n 1 x hx
  rcases h x.1 (by omega) (by omega) with ⟨str, -, h5⟩ | ⟨-, h5⟩
  · rw [h3] at h5
    simp at h5
    exact ⟨str, h5⟩
  · rw [h3] at h5; cases h5
theorem rlistFrom_len {n base : Nat} {f : Nat → Value × Bool} : ∀ (k i : Nat), (rlistFrom n base f i k).length ≤ k
  | 0, _ => by simp [rlistFrom]
  | k + 1, i => by
    have := rlistFrom_len (n := n) (base := base) (f := f) k (i + 1)
    simp only [rlistFrom, List.length_append]
    split <;> simp <;> omega

set_option maxRecDepth 100000 in
set_option maxHeartbeats 1000000 in
theorem holds_any {B C n base M clock : Nat} {f : Nat → Value × Bool} {es : Array MapEntry} (w : World) (hb : base < 2305843009213693952) (hR : Ring TR TC w B C n base f) (hn : n ≤ 50) (hM : w.heap[M]? = some (.map es clock)) (hk : MKeys (.num .u64) es.toList)
    (hT : Tab n base f es.toList) :
    Calls Try.prog 13 #[.pointer (some ⟨B, 0, none⟩), .map (some M), .int .u64 base, .int .i64 n] w fun e w' => e = .returned (.bool true) ∧ Upd [] w w' := by
  have HR := hide hR; have HM := hide hM; have HK := hide hk; have HT := hide hT
  have hn1 := hR.lo
  have hLn := rlistFrom_len (n := n) (base := base) (f := f) n 1
  clear hR hM hk hT
  go_enter Try.func13, Try.ntmps13
  go_wp2_with fail
  refine (RingTold.told_any w hb HR.out HT.out.strs 1000 (by omega) (by omega)).mono ?_
  rintro e w1 ⟨lv, mv, rfl, hu1, ho1, ho2⟩
  rw [List.take_of_length_le (by unfold rlist; omega)] at ho1 ho2
  obtain ⟨L, hL⟩ : ∃ L, L = rlist n base f := ⟨_, rfl⟩
  rw [← hL] at ho1 ho2
  have hLl : L.length ≤ 50 := by rw [hL]; unfold rlist; omega
  obtain ⟨ao1, cap1, rfl, hc1, hm1, hv1⟩ := owns_slice ho1
  obtain ⟨ao2, cap2, rfl, hc2, hm2, hv2⟩ := owns_slice ho2
  have U1 := hide hu1; have V1 := hide hv1; have V2 := hide hv2; have EL := hide hL
  have R1 := hide (HR.out.upd hu1 (by simp) (by simp))
  have M1 := hide (hu1.get HM.out (by simp))
  clear hu1 hv1 hv2 hL ho1 ho2 HR HM hLn
  unfold maxLen at hm1 hm2
  go_wp2_with fail
  go_loop [11, 12, 13] (fun sc sl ss => ∃ (s : Nat) (pre : List (Nat × Value)), base + 1 ≤ s ∧ s ≤ base + n + 1 ∧ ss = .int .u64 s ∧ sc = .int .i64 pre.length ∧ sl = .int .u64 (rlast base pre : Nat) ∧ pre.length ≤ 50 ∧
      L = pre ++ rlistFrom n base f (s - base) (base + n + 1 - s)) (fun _ _ ss => base + n + 1 - (intOf ss).toNat)
  case atStart =>
    refine ⟨base + 1, [], by omega, by omega, by go_num, rfl, rfl, by simp, ?_⟩
    rw [EL.out, show base + 1 - base = 1 from by omega, show base + n + 1 - (base + 1) = n from by omega]
    rfl
  case round =>
    obtain ⟨s, pre, hs1, hs2, rfl, rfl, rfl, hp, hpre⟩ := hrel
    have HP := hide hpre
    clear hpre
    by_cases hlt : s ≤ base + n
    · have hd : decide ((s : Int) ≤ base + n) = true := by simp; omega
      have hlk := run_lookup_ok (m := .num .u64) Try.underlying34 Try.underlying29 (zeroS w1) M1.out HK.out (k := .int .u64 (s : Nat)) ⟨_, rfl⟩
      rcases HT.out s (by omega) hlt with ⟨str, h5, h6⟩ | ⟨h5, h6⟩
      · rw [h5] at hlk
        simp only [Option.getD_some, Option.isSome_some] at hlk
        have hnext : rlistFrom n base f (s - base) (base + n + 1 - s) = (s, .string str) :: rlistFrom n base f (s + 1 - base) (base + n + 1 - (s + 1)) := by
          obtain ⟨m, hm⟩ : ∃ m, base + n + 1 - s = m + 1 := ⟨base + n - s, by omega⟩
          rw [hm, show base + n + 1 - (s + 1) = m from by omega, rlistFrom, show base + (s - base) = s from by omega, h6, show s - base + 1 = s + 1 - base from by omega]
          rfl
        have hLs : L = (pre ++ [(s, .string str)]) ++ rlistFrom n base f (s + 1 - base) (base + n + 1 - (s + 1)) := by rw [HP.out, hnext]; simp
        have hat : L[pre.length]? = some (s, .string str) := by rw [hLs]; simp
        have hlen : pre.length < L.length := (List.getElem?_eq_some_iff.1 hat).1
        have hd2 : decide ((L.length : Int) ≤ pre.length) = false := by simp; omega
        have hd3 : decide (L.length ≤ pre.length) = false := by simp; omega
        obtain ⟨g1, rfl, -, -, hg1⟩ := V1.out pre.length (.int .u64 s) (by simp [hat])
        obtain ⟨g2, rfl, -, -, hg2⟩ := V2.out pre.length (.string str) (by simp [hat])
        have HLS := hide hLs
        have hle : (pre ++ [(s, Value.string str)]).length ≤ L.length := by rw [hLs]; simp
        have hpl : (pre ++ [(s, Value.string str)]).length ≤ 50 := by omega
        clear hat hLs hnext h5 h6 V1 V2 hle
        go_wp2_with fail
        refine ⟨⟨s + 1, pre ++ [(s, .string str)], by omega, by omega, by go_num, by simp, by rw [rlast_snoc], hpl, HLS.out⟩, by simp [intOf]; omega⟩
      · rw [h5] at hlk
        simp only [Option.getD_none, Option.isSome_none] at hlk
        have hnext : rlistFrom n base f (s - base) (base + n + 1 - s) = rlistFrom n base f (s + 1 - base) (base + n + 1 - (s + 1)) := by
          obtain ⟨m, hm⟩ : ∃ m, base + n + 1 - s = m + 1 := ⟨base + n - s, by omega⟩
          rw [hm, show base + n + 1 - (s + 1) = m from by omega, rlistFrom, show base + (s - base) = s from by omega, h6, show s - base + 1 = s + 1 - base from by omega]
          rfl
        have HN := hide hnext
        clear hnext h5 h6
        go_wp2_with fail
        refine ⟨⟨s + 1, pre, by omega, by omega, by go_num, rfl, rfl, hp, by rw [HP.out, HN.out]⟩, by simp [intOf]; omega⟩
    · have hd : decide ((s : Int) ≤ base + n) = false := by simp; omega
      obtain rfl : s = base + n + 1 := by omega
      have hLp : L = pre := by rw [HP.out, show base + n + 1 - (base + n + 1) = 0 from by omega]; simp [rlistFrom]
      subst hLp
      clear HP V1 V2 hlt
      go_wp2_with fail
      refine (RingTold.told_any w1 hb R1.out HT.out.strs 2 (by omega) (by omega)).mono ?_
      rintro e w2 ⟨lv, mv, rfl, hu2, ho1, ho2⟩
      rw [← EL.out] at ho1 ho2
      obtain ⟨ao3, cap3, rfl, -, -, -⟩ := owns_slice ho1
      obtain ⟨ao4, cap4, rfl, -, -, -⟩ := owns_slice ho2
      have U2 := hide (U1.out.trans hu2)
      have R2 := hide (R1.out.upd hu2 (by simp) (by simp))
      clear hu2 ho1 ho2
      go_wp2_with fail
      refine (RingS.last_any _ R2.out hb).mono ?_
      rintro e w3 ⟨rfl, hu3⟩
      rw [← EL.out]
      have U3 := hide (U2.out.trans hu3)
      clear hu3
      go_wp2_with fail
      all_goals
        go_ret
        refine ⟨?_, U3.out⟩
        simp
        omega
end Go.Proofs.Ytmgdhloehkdffaa.RingHolds
