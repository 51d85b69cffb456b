/- SoU, SoI, SoH in one text. -/
import Derived.Test.YthpnnffogbjhpaaGreatDoorBase
import Derived.Sort.WalkA
import Derived.Sort.Walk13a
import Derived.CellFam
import Derived.BigCall
import Derived.BigGuard
import Derived.Sort.WalkB3
set_option linter.unusedSimpArgs false
set_option linter.unusedVariables false
set_option linter.unnecessarySimpa false
namespace Go.Proofs.YthpnnffogbjhpaaGreatDoor.So
open Go.RowKit Go.Sort
set_option linter.unusedVariables false

abbrev enU (n : Nat) : Value := .int .u32 (n : Int)
abbrev ltU (x y : Nat) : Bool := decide (x < y)
theorem swoU : SWO ltU where
  irrefl x := by simp
  trans x y z h1 h2 := by simp at *; omega
  ntrans x y z h1 h2 := by simp at *; omega
/-- All is as it was, but that the row holds d. -/
structure Rw (w0 : World) (blk off n : Nat) (c : Array Value) (e : TypeId) (d : Array Nat) (w : World) : Prop where
  upd : Upd [blk] w0 w
  sz : d.size = n
  fit : off + n ≤ c.size
  blk : w.heap[blk]? = some (.cells (putCells enU off d c) e (0, 0))
section
variable {w0 w w' : World} {blk off n : Nat} {c : Array Value} {e : TypeId} {d : Array Nat}
theorem putCells_get {t : Nat} (hf : off + n ≤ c.size) (hs : d.size = n) (ht : t < n) : (putCells enU off d c)[off + t]? = some (enU d[t]!) := by
  simp only [putCells, Array.getElem?_mapIdx]
  rw [Array.getElem?_eq_getElem (by omega), Option.map_some, if_pos ⟨by omega, by omega⟩, show off + t - off = t by omega]
theorem Rw.cell (h : Rw w0 blk off n c e d w) {t : Nat} (ht : t < n) : w.cell? ⟨blk, off + t, none⟩ = some (.int .u32 (d[t]! : Int)) := blk_cell h.blk (putCells_get h.fit h.sz ht)
theorem Rw.frz (h : Rw w0 blk off n c e d w) {t : Nat} : w.frozen? ⟨blk, t, none⟩ = false := blk_free h.blk
theorem Rw.drew (h : Rw w0 blk off n c e d w) (q : Nat) : Rw w0 blk off n c e d (w.drewN q) := ⟨h.upd.drewN q, h.sz, h.fit, h.blk⟩
theorem Rw.drew1 (h : Rw w0 blk off n c e d w) : Rw w0 blk off n c e d w.drew := ⟨h.upd.drew, h.sz, h.fit, h.blk⟩
theorem Rw.same (h : Rw w0 blk off n c e d w) (hu : Upd [] w w') : Rw w0 blk off n c e d w' := ⟨h.upd.trans (hu.mono (by simp)), h.sz, h.fit, hu.get h.blk (by simp)⟩
theorem Rw.set (h : Rw w0 blk off n c e d w) {i : Nat} {x : Nat} (hi : i < n) : Rw w0 blk off n c e (d.setIfInBounds i x) (w.setCell ⟨blk, off + i, none⟩ (.int .u32 (x : Int))) := by
  refine ⟨h.upd.setCell (p := ⟨blk, off + i, none⟩) (.inl (by simp)) _, by simp [h.sz], h.fit, ?_⟩
  have := blk_set (i := off + i) h.blk (enU x)
  rw [putCells_set enU off d c i x (by rw [h.sz]; exact hi)] at this
  exact this
theorem Rw.swp (h : Rw w0 blk off n c e d w) {i j : Nat} (hi : i < n) (hj : j < n) :
    Rw w0 blk off n c e (Sort.swp d i j) ((w.setCell ⟨blk, off + i, none⟩ (.int .u32 (d[j]! : Int))).setCell ⟨blk, off + j, none⟩ (.int .u32 (d[i]! : Int))) := (h.set hi).set hj
theorem Rw.start (hb : w.heap[blk]? = some (.cells c e (0, 0))) (hf : off + d.size ≤ c.size) (hc : ∀ t, t < d.size → c[off + t]? = some (enU d[t]!)) : Rw w blk off d.size c e d w := by
  refine ⟨Upd.refl _ _, rfl, hf, ?_⟩
  rw [hb]
  have : putCells enU off d c = c := by
    apply Array.ext_getElem?
    intro k
    simp only [putCells, Array.getElem?_mapIdx]
    by_cases hk : off ≤ k ∧ k < off + d.size
    · have := hc (k - off) (by omega)
      rw [show off + (k - off) = k by omega] at this
      rw [this, Option.map_some, if_pos hk]
    · cases c[k]? with
      | none => rfl
      | some y => rw [Option.map_some, if_neg hk]
  rw [this]
end
set_option maxHeartbeats 400000 in
theorem less_any (x y : Nat) (w : World) : Calls Tryz.prog 118 #[.int .u32 (x : Int), .int .u32 (y : Int)] w fun e w' => e = .returned (.bool (ltU x y)) ∧ w' = w := by
  have q2 : ((x : Int) != (x : Int)) = false := by simp
  have q3 : ((y : Int) != (y : Int)) = false := by simp
  by_cases h : x < y
  · have q1 : decide ((x : Int) < (y : Int)) = true := by simp; omega
    go_enter Tryz.func118, Tryz.ntmps118
    go_wp2
    go_ret
    exact ⟨by simp [h], rfl⟩
  · have q1 : decide ((x : Int) < (y : Int)) = false := by simp; omega
    go_enter Tryz.func118, Tryz.ntmps118
    go_wp2
    go_ret
    exact ⟨by simp [h], rfl⟩
end Go.Proofs.YthpnnffogbjhpaaGreatDoor.So
namespace Go.Proofs.YthpnnffogbjhpaaGreatDoor.So
open Go.RowKit Go.Sort
set_option linter.unusedVariables false
variable {w0 w w' : World} {blk off n cap : Nat} {c : Array Value} {e : TypeId} {d : Array Nat}

set_option maxRecDepth 100000 in
set_option maxHeartbeats 2000000 in
theorem insertion_any {a b : Nat} (hR : Rw w0 blk off n c e d w) (hab : a ≤ b) (hb : b ≤ n) (hsz : n < 4611686018427387904) :
    Calls Tryz.prog 112 #[.slice (some ⟨blk, off, none⟩) n cap, .int .i64 a, .int .i64 b] w fun ex w' =>
      ex = .returned (.tuple #[]) ∧ Rw w0 blk off n c e (Sort.insertionSort ltU d a b) w' := by
  have HR := hide hR
  clear hR
  go_enter Tryz.func112, Tryz.ntmps112
  go_wp2
  go_loopw [6] (fun vi wr => ∃ (i : Nat) (dk : Array Nat), vi = .int .i64 i ∧ a < i ∧ i ≤ b + 1 ∧ Rw w0 blk off n c e dk wr ∧
      insOuter ltU a b i dk = insOuter ltU a b (a + 1) d) (fun vi _ => b + 1 - (intOf vi).toNat)
  case atStart => exact ⟨a + 1, d, by go_num, by omega, by omega, HR.out, rfl⟩
  case round =>
    obtain ⟨i, dk, rfl, hai, hib, hRk, hO⟩ := hrel
    have HO : Hid (insOuter ltU a b i dk = insOuter ltU a b (a + 1) d) := hO
    have HRk := hide hRk
    clear hO hRk
    go_wp2
    · go_loopw [7] (fun vj wr2 => ∃ (j : Nat) (dj : Array Nat), vj = .int .i64 j ∧ a ≤ j ∧ j ≤ i ∧ Rw w0 blk off n c e dj wr2 ∧
          insInner ltU a j dj = insInner ltU a i dk) (fun vj _ => (intOf vj).toNat)
      case atStart => exact ⟨i, dk, rfl, by omega, Nat.le_refl _, HRk.out, rfl⟩
      case round =>
        obtain ⟨j, dj, rfl, haj, hji, hRj, hI⟩ := hrel
        have hlt : i < b := by assumption
        obtain ⟨G, hG⟩ : ∃ G : Nat → Nat, ∀ t, G t = dj[t]! := ⟨fun t => dj[t]!, fun _ => rfl⟩
        have hcw : ∀ t, t < n → wr.cell? ⟨blk, off + t, none⟩ = some (.int .u32 (G t : Int)) := fun t ht => by
          rw [hG]; exact hRj.cell ht
        have hfw : ∀ t, t < n → wr.frozen? ⟨blk, off + t, none⟩ = false := fun t ht => hRj.frz
        have HRj := hide hRj
        have HG : Hid (∀ t, G t = dj[t]!) := hG
        have HI : Hid (insInner ltU a j dj = insInner ltU a i dk) := hI
        clear hRj hG hI
        have out : (j ≤ a ∨ ltU dj[j]! dj[j - 1]! = false) → ∀ q, ∃ i' dk', Value.int .i64 ((i : Int) + 1) = .int .i64 (i' : Nat) ∧ a < i' ∧ i' ≤ b + 1 ∧
            Rw w0 blk off n c e dk' (wr.drewN q) ∧ insOuter ltU a b i' dk' = insOuter ltU a b (a + 1) d := fun hs q =>
          ⟨i + 1, dj, by go_num, by omega, by omega, HRj.out.drew q,
            by rw [← HO.out, insOuter_go _ _ _ _ _ hlt, ← HI.out, insInner_stop _ _ _ _ hs]⟩
        have OUT : Hid _ := out
        clear out
        go_wp2
        by_cases hja : a < j
        · go_quiet (first | (go_at_call 118; refine Calls.quiet_of_same (less_any _ _ _)))
          go_wp2
          · have hl : ltU (G j) (G (j - 1)) = true := by first | assumption | (simp only [ltU, decide_eq_true_eq]; assumption)
            go_region
            all_goals go_wp2
            go_roundw
            case rel =>
              refine ⟨j - 1, swp dj j (j - 1), by congr 1; omega, by omega, by omega, ?_, ?_⟩
              · rw [HG.out, HG.out]
                exact (HRj.out.drew (nq + 1)).swp (by omega) (by omega)
              · rw [← HI.out, insInner_go ltU a j dj hja (by rw [← HG.out, ← HG.out]; exact hl)]
            case measure => simp [intOf]; omega
          · have hl : ltU (G j) (G (j - 1)) = false := by first | assumption | (simp only [ltU, decide_eq_false_iff_not]; omega)
            go_roundw
            case rel => exact OUT.out (Or.inr (by rw [← HG.out, ← HG.out]; exact hl)) nq
            case measure => simp [intOf]; omega
        · go_quiet (first | (go_at_call 118; refine Calls.quiet_of_same (less_any _ _ _)))
          go_wp2
          go_roundw
          case rel => exact OUT.out (Or.inl (by omega)) nq
          case measure => simp [intOf]; omega
    · have hge : ¬ i < b := by assumption
      go_end0
      exact ⟨rfl, by unfold Sort.insertionSort; rw [← HO.out, insOuter_stop _ _ _ _ _ hge]; exact HRk.out⟩
end Go.Proofs.YthpnnffogbjhpaaGreatDoor.So
namespace Go.Proofs.YthpnnffogbjhpaaGreatDoor.So
open Go.RowKit Go.Sort
set_option linter.unusedVariables false
variable {w0 w w' : World} {blk off n cap : Nat} {c : Array Value} {e : TypeId} {d : Array Nat}

set_option maxHeartbeats 3200000 in
set_option maxRecDepth 1000000 in
theorem siftDown_any {lo hi first : Nat} (hR : Rw w0 blk off n c e d w) (hlo : lo ≤ hi) (hb : first + hi ≤ n) (hsz : n < 4611686018427387904) :
    Calls Tryz.prog 131 #[.slice (some ⟨blk, off, none⟩) n cap, .int .i64 lo, .int .i64 hi, .int .i64 first] w fun ex w' => ex = .returned (.tuple #[]) ∧ Rw w0 blk off n c e (siftDown ltU hi first lo d) w' := by
  have HR := hide hR
  clear hR
  go_enter Tryz.func131, Tryz.ntmps131
  go_wp2
  go_loopg [8] (hi - lo) (fun k s8 wr => ∃ (root : Nat) (dk : Array Nat), s8 = .int .i64 root ∧ root ≤ hi ∧ hi - root ≤ k ∧ Rw w0 blk off n c e dk wr ∧ siftDown ltU hi first root dk = siftDown ltU hi first lo d)
  case atStart => exact ⟨lo, d, rfl, hlo, Nat.le_refl _, HR.out, rfl⟩
  case round =>
    obtain ⟨root, dk, rfl, hr, hk, hRk, heq⟩ := hrel
    have hcw : ∀ t, t < n → wr.cell? ⟨blk, off + t, none⟩ = some (.int .u32 (dk[t]! : Int)) := fun t ht => hRk.cell ht
    have hfw : ∀ t, t < n → wr.frozen? ⟨blk, off + t, none⟩ = false := fun t ht => hRk.frz
    have HRk := hide hRk
    have HQ := hide heq
    clear hRk heq
    by_cases h0 : hi ≤ 2 * root + 1
    · have h0z : (hi : Int) ≤ 2 * (root : Int) + 1 := by omega
      go_wp2
      go_end0
      refine ⟨rfl, ?_⟩
      rw [← HQ.out, sd_end ltU dk h0]
      exact HRk.out
    · have h0z : ¬ ((hi : Int) ≤ 2 * (root : Int) + 1) := by omega
      by_cases h1 : 2 * root + 2 < hi
      · have h1z : 2 * (root : Int) + 1 + 1 < (hi : Int) := by omega
        go_wp2_with fail
        go_big_quiet (first | (go_at_call 118; refine Calls.quiet_of_same (less_any _ _ _)))
        go_wp2_with fail
        · have hL : ltU dk[first + 2 * root + 1]! dk[first + 2 * root + 2]! = true := by first | assumption | (simp only [ltU, decide_eq_true_eq]; assumption)
          revert nq; intro nq1
          have H2 : Hid (Rw w0 blk off n c e dk (wr.drewN nq1)) := HRk.out.drew nq1
          have hcw2 : ∀ t, t < n → (wr.drewN nq1).cell? ⟨blk, off + t, none⟩ = some (.int .u32 (dk[t]! : Int)) := hcw
          have hfw2 : ∀ t, t < n → (wr.drewN nq1).frozen? ⟨blk, off + t, none⟩ = false := hfw
          clear hcw hfw HRk
          generalize wr.drewN nq1 = wr2 at hcw2 hfw2 H2 ⊢
          go_big_quiet (first | (go_at_call 118; refine Calls.quiet_of_same (less_any _ _ _)))
          go_wp2_with fail
          · have hS : ltU dk[first + root]! dk[first + 2 * root + 2]! = false := by
              have : (!ltU dk[first + root]! dk[first + 2 * root + 2]!) = true := by assumption
              simpa using this
            (try simp only [Exit.inBlock, Exit.then]); refine bodyPost_ret (results_none rfl _ _ _) rfl ?_
            refine ⟨rfl, ?_⟩
            rw [← HQ.out, sd_right_stop ltU dk h1 hL hS]
            exact H2.out.drew nq
          · have hG : ltU dk[first + root]! dk[first + 2 * root + 2]! = true := by
              have : (!ltU dk[first + root]! dk[first + 2 * root + 2]!) = false := by assumption
              simpa using this
            have H3 : Hid (Rw w0 blk off n c e dk (wr2.drewN nq)) := H2.out.drew nq
            have hcw3 : ∀ t, t < n → (wr2.drewN nq).cell? ⟨blk, off + t, none⟩ = some (.int .u32 (dk[t]! : Int)) := hcw2
            have hfw3 : ∀ t, t < n → (wr2.drewN nq).frozen? ⟨blk, off + t, none⟩ = false := hfw2
            clear hcw2 hfw2 H2
            generalize wr2.drewN nq = wr3 at hcw3 hfw3 H3 ⊢
            go_region
            go_wp2
            go_roundg (hi - (2 * root + 2))
            case measure => omega
            case rel =>
              exact ⟨2 * root + 2, swp dk (first + root) (first + (2 * root + 2)), by simp <;> omega, by omega, Nat.le_refl _, (H3.out.swp (by omega) (by omega)).drew1, by rw [← HQ.out, sd_right_go ltU dk h1 hL hG]⟩
        · have hL : ltU dk[first + 2 * root + 1]! dk[first + 2 * root + 2]! = false := by first | assumption | (simp only [ltU, decide_eq_false_iff_not]; omega)
          revert nq; intro nq1
          have H2 : Hid (Rw w0 blk off n c e dk (wr.drewN nq1)) := HRk.out.drew nq1
          have hcw2 : ∀ t, t < n → (wr.drewN nq1).cell? ⟨blk, off + t, none⟩ = some (.int .u32 (dk[t]! : Int)) := hcw
          have hfw2 : ∀ t, t < n → (wr.drewN nq1).frozen? ⟨blk, off + t, none⟩ = false := hfw
          clear hcw hfw HRk
          generalize wr.drewN nq1 = wr2 at hcw2 hfw2 H2 ⊢
          go_big_quiet (first | (go_at_call 118; refine Calls.quiet_of_same (less_any _ _ _)))
          go_wp2_with fail
          · have hS : ltU dk[first + root]! dk[first + 2 * root + 1]! = false := by
              have : (!ltU dk[first + root]! dk[first + 2 * root + 1]!) = true := by assumption
              simpa using this
            (try simp only [Exit.inBlock, Exit.then]); refine bodyPost_ret (results_none rfl _ _ _) rfl ?_
            refine ⟨rfl, ?_⟩
            rw [← HQ.out, sd_left_stop ltU dk (by omega) (fun _ => hL) hS]
            exact H2.out.drew nq
          · have hG : ltU dk[first + root]! dk[first + 2 * root + 1]! = true := by
              have : (!ltU dk[first + root]! dk[first + 2 * root + 1]!) = false := by assumption
              simpa using this
            have H3 : Hid (Rw w0 blk off n c e dk (wr2.drewN nq)) := H2.out.drew nq
            have hcw3 : ∀ t, t < n → (wr2.drewN nq).cell? ⟨blk, off + t, none⟩ = some (.int .u32 (dk[t]! : Int)) := hcw2
            have hfw3 : ∀ t, t < n → (wr2.drewN nq).frozen? ⟨blk, off + t, none⟩ = false := hfw2
            clear hcw2 hfw2 H2
            generalize wr2.drewN nq = wr3 at hcw3 hfw3 H3 ⊢
            go_region
            go_wp2
            go_roundg (hi - (2 * root + 1))
            case measure => omega
            case rel =>
              exact ⟨2 * root + 1, swp dk (first + root) (first + (2 * root + 1)), by simp <;> omega, by omega, Nat.le_refl _, (H3.out.swp (by omega) (by omega)).drew1, by rw [← HQ.out, sd_left_go ltU dk (by omega) (fun _ => hL) hG]⟩
      · have h1z : decide (2 * (root : Int) + 1 + 1 < (hi : Int)) = false := decide_eq_false (by omega)
        go_wp2_with fail
        go_big_quiet (first | (go_at_call 118; refine Calls.quiet_of_same (less_any _ _ _)))
        go_wp2_with fail
        revert nq; intro nq1
        have H2 : Hid (Rw w0 blk off n c e dk (wr.drewN nq1)) := HRk.out.drew nq1
        have hcw2 : ∀ t, t < n → (wr.drewN nq1).cell? ⟨blk, off + t, none⟩ = some (.int .u32 (dk[t]! : Int)) := hcw
        have hfw2 : ∀ t, t < n → (wr.drewN nq1).frozen? ⟨blk, off + t, none⟩ = false := hfw
        clear hcw hfw HRk
        generalize wr.drewN nq1 = wr2 at hcw2 hfw2 H2 ⊢
        go_big_quiet (first | (go_at_call 118; refine Calls.quiet_of_same (less_any _ _ _)))
        go_wp2_with fail
        · have hS : ltU dk[first + root]! dk[first + 2 * root + 1]! = false := by
            have : (!ltU dk[first + root]! dk[first + 2 * root + 1]!) = true := by assumption
            simpa using this
          (try simp only [Exit.inBlock, Exit.then]); refine bodyPost_ret (results_none rfl _ _ _) rfl ?_
          refine ⟨rfl, ?_⟩
          rw [← HQ.out, sd_left_stop ltU dk (by omega) (fun h => absurd h h1) hS]
          exact H2.out.drew nq
        · have hG : ltU dk[first + root]! dk[first + 2 * root + 1]! = true := by
            have : (!ltU dk[first + root]! dk[first + 2 * root + 1]!) = false := by assumption
            simpa using this
          have H3 : Hid (Rw w0 blk off n c e dk (wr2.drewN nq)) := H2.out.drew nq
          have hcw3 : ∀ t, t < n → (wr2.drewN nq).cell? ⟨blk, off + t, none⟩ = some (.int .u32 (dk[t]! : Int)) := hcw2
          have hfw3 : ∀ t, t < n → (wr2.drewN nq).frozen? ⟨blk, off + t, none⟩ = false := hfw2
          clear hcw2 hfw2 H2
          generalize wr2.drewN nq = wr3 at hcw3 hfw3 H3 ⊢
          go_region
          go_wp2
          go_roundg (hi - (2 * root + 1))
          case measure => omega
          case rel =>
            exact ⟨2 * root + 1, swp dk (first + root) (first + (2 * root + 1)), by simp <;> omega, by omega, Nat.le_refl _, (H3.out.swp (by omega) (by omega)).drew1, by rw [← HQ.out, sd_left_go ltU dk (by omega) (fun h => absurd h h1) hG]⟩
set_option maxHeartbeats 3200000 in
set_option maxRecDepth 1000000 in
theorem heapSort_any {a b : Nat} (hR : Rw w0 blk off n c e d w) (hab : a ≤ b) (hb : b ≤ n) (hsz : n < 4611686018427387904) :
    Calls Tryz.prog 113 #[.slice (some ⟨blk, off, none⟩) n cap, .int .i64 a, .int .i64 b] w fun ex w' => ex = .returned (.tuple #[]) ∧ Rw w0 blk off n c e (heapSort ltU d a b) w' := by
  have ecast : ((b - a : Nat) : Int) = (b : Int) - (a : Int) := by omega
  have HR := hide hR
  clear hR
  go_enter Tryz.func113, Tryz.ntmps113
  go_wp2
  go_loopg [9] ((b - a - 1) / 2 + 1) (fun k s9 wr => s9 = .int .i64 ((k : Int) - 1) ∧ k ≤ (b - a - 1) / 2 + 1 ∧ ∃ dk : Array Nat, Rw w0 blk off n c e dk wr ∧
    heapBuild ltU (b - a) a k dk = heapBuild ltU (b - a) a ((b - a - 1) / 2 + 1) d)
  case atStart => exact ⟨by rw [half_start hab], Nat.le_refl _, d, HR.out, rfl⟩
  case round =>
    obtain ⟨rfl, hkk, dk, hRk, heq⟩ := hrel
    have HRk := hide hRk
    clear hRk
    cases gk with
    | zero =>
      have hB : Hid (dk = heapBuild ltU (b - a) a ((b - a - 1) / 2 + 1) d) := heq
      clear heq hkk
      go_wp2
      go_loopg [10] (b - a) (fun k s10 wr2 => s10 = .int .i64 ((k : Int) - 1) ∧ k ≤ b - a ∧ ∃ dj : Array Nat, Rw w0 blk off n c e dj wr2 ∧ heapPop ltU a k dj = heapPop ltU a (b - a) dk)
      case atStart => exact ⟨by rw [ecast], Nat.le_refl _, dk, HRk.out, rfl⟩
      case round =>
        obtain ⟨rfl, hkk, dj, hRj, heq2⟩ := hrel
        cases gk with
        | zero =>
          go_wp2
          go_end0
          refine ⟨rfl, ?_⟩
          have e : dj = heapSort ltU d a b := by rw [heapSort, ← hB.out, ← heq2]; rfl
          rw [← e]
          exact hRj
        | succ k =>
          have hcw : ∀ t, t < n → wr.cell? ⟨blk, off + t, none⟩ = some (.int .u32 (dj[t]! : Int)) := fun t ht => hRj.cell ht
          have hfw : ∀ t, t < n → wr.frozen? ⟨blk, off + t, none⟩ = false := fun t ht => hRj.frz
          have HRj := hide hRj
          have HQ2 := hide heq2
          clear hRj heq2
          rcases Nat.eq_zero_or_pos k with hk0 | hkp
          · subst hk0
            go_wp2_with fail
            go_region
            go_wp2_with fail
            refine (siftDown_any (cap := cap) (lo := 0) (hi := 0) (first := a) ((HRj.out.swp (i := a) (j := a) (by omega) (by omega)).drew1) (Nat.zero_le _) (by omega) hsz).mono ?_
            rintro ex w1 ⟨rfl, hw1⟩
            have H1 := hide hw1
            clear hw1
            go_wp2
            go_roundg 0
            case measure => omega
            case rel => exact ⟨by simp, by omega, _, H1.out, HQ2.out⟩
          · go_wp2_with fail
            go_region
            go_wp2_with fail
            refine (siftDown_any (cap := cap) (lo := 0) (hi := k) (first := a) ((HRj.out.swp (i := a) (j := a + k) (by omega) (by omega)).drew1) (Nat.zero_le _) (by omega) hsz).mono ?_
            rintro ex w1 ⟨rfl, hw1⟩
            have H1 := hide hw1
            clear hw1
            go_wp2
            go_roundg k
            case measure => omega
            case rel => exact ⟨by simp, by omega, _, H1.out, HQ2.out⟩
    | succ k =>
      have hcall := siftDown_any (cap := cap) (lo := k) (hi := b - a) (first := a) HRk.out (by omega) (by omega) hsz
      rw [ecast] at hcall
      have HQ := hide heq
      have HC := hide hcall
      clear hcall heq
      go_wp2_with (go_at_call 131; refine HC.out.mono ?_; rintro ex w1 ⟨rfl, hw1⟩)
      go_roundg k
      case measure => omega
      case rel => exact ⟨by simp, by omega, _, hw1, HQ.out⟩

set_option maxHeartbeats 1600000 in
set_option maxRecDepth 1000000 in
theorem reverseRange_any {a b : Nat} (hR : Rw w0 blk off n c e d w) (hab : a ≤ b) (hb : b ≤ n) (hsz : n < 4611686018427387904) :
    Calls Tryz.prog 116 #[.slice (some ⟨blk, off, none⟩) n cap, .int .i64 a, .int .i64 b] w fun ex w' => ex = .returned (.tuple #[]) ∧ Rw w0 blk off n c e (reverseRange d a b) w' := by
  have HR := hide hR
  clear hR
  go_enter Tryz.func116, Tryz.ntmps116
  go_wp2
  go_loopg [6, 7] (b - a) (fun k s6 s7 wr => ∃ (i jn : Nat) (jz : Int) (dk : Array Nat), s6 = .int .i64 i ∧ s7 = .int .i64 jz ∧ ((i : Int) < jz → jz = jn ∧ jn < n) ∧ (¬ (i : Int) < jz → ¬ i < jn) ∧ jn - i ≤ k ∧
    Rw w0 blk off n c e dk wr ∧ reverseLoop i jn dk = reverseLoop a (b - 1) d)
  case atStart => exact ⟨a, b - 1, (b : Int) - 1, d, rfl, rfl, fun h => ⟨by omega, by omega⟩, fun h => by omega, by omega, HR.out, rfl⟩
  case round =>
    obtain ⟨i, jn, jz, dk, rfl, rfl, h1, h2, hk, hRk, heq⟩ := hrel
    by_cases hlt : (i : Int) < jz
    · obtain ⟨rfl, hjn⟩ := h1 hlt
      have hij : i < jn := by omega
      have hcw : ∀ t, t < n → wr.cell? ⟨blk, off + t, none⟩ = some (.int .u32 (dk[t]! : Int)) := fun t ht => hRk.cell ht
      have hfw : ∀ t, t < n → wr.frozen? ⟨blk, off + t, none⟩ = false := fun t ht => hRk.frz
      have HRk := hide hRk
      have HQ := hide heq
      clear hRk heq h1 h2
      go_wp2_with fail
      go_region
      go_wp2
      go_roundg (jn - 1 - (i + 1))
      case measure => omega
      case rel =>
        have heq := HQ.out
        rw [reverseLoop, if_pos hij] at heq
        exact ⟨i + 1, jn - 1, (jn : Int) - 1, swp dk i jn, by simp, rfl, fun h => ⟨by omega, by omega⟩, fun h => by omega, Nat.le_refl _, (HRk.out.swp (by omega) (by omega)).drew1, heq⟩
    · have hnot := h2 hlt
      have HRk := hide hRk
      have HQ := hide heq
      clear hRk heq h1 h2
      go_wp2
      go_end0
      refine ⟨rfl, ?_⟩
      have heq := HQ.out
      rw [reverseLoop, if_neg hnot] at heq
      rw [reverseRange, ← heq]
      exact HRk.out
end Go.Proofs.YthpnnffogbjhpaaGreatDoor.So
