/- The library's insertion sort at uint64, and slices.Sort of no more than 12 of them (after the kit's worked walk at int). -/
import Derived.Test.YtmedpbpjjjhhiaaVotS
import Derived.Sort.WalkA
import Derived.CellFam
namespace Go.Proofs.Ytmedpbpjjjhhiaa.Vot
open Go.RowKit Go.Sort

abbrev enU (n : Nat) : Value := .int .u64 (n : Int)
abbrev ltU (x y : Nat) : Bool := decide (x < y)
theorem swoU : SWO ltU where
  irrefl x := by simp
  trans x y z h1 h2 := by simp at *; omega
  ntrans x y z h1 h2 := by simp at *; omega
set_option maxHeartbeats 400000 in
theorem less_any (x y : Nat) (w : World) : Calls Try.prog 55 #[.int .u64 (x : Int), .int .u64 (y : Int)] w fun e w' => e = .returned (.bool (decide (x < y))) ∧ w' = w := by
  have q2 : ((x : Int) != (x : Int)) = false := by simp
  have q3 : ((y : Int) != (y : Int)) = false := by simp
  by_cases h : x < y
  · have q1 : decide ((x : Int) < (y : Int)) = true := by simp; omega
    go_enter Try.func55, Try.ntmps55
    go_wp2
    go_ret
    exact ⟨by simp [h], rfl⟩
  · have q1 : decide ((x : Int) < (y : Int)) = false := by simp; omega
    go_enter Try.func55, Try.ntmps55
    go_wp2
    go_ret
    exact ⟨by simp [h], rfl⟩
set_option maxRecDepth 100000 in
set_option maxHeartbeats 2000000 in
theorem insertion_any (blk off cap a b : Nat) (d : Array Nat) (w : World) (hH : Holds enU w blk off d) (hab : a ≤ b) (hb : b ≤ d.size) (hsz : d.size < 4611686018427387904) :
    Calls Try.prog 49 #[.slice (some ⟨blk, off, none⟩) d.size cap, .int .i64 a, .int .i64 b] w fun e w' =>
      e = .returned (.tuple #[]) ∧ ∃ n, w' = putRow enU (Sort.ahead w n) blk off (Sort.insertionSort ltU d a b) := by
  go_enter Try.func49, Try.ntmps49
  go_wp2
  go_loopw [6] (fun vi wr => ∃ (i n : Nat) (dk : Array Nat), vi = .int .i64 i ∧ a < i ∧ i ≤ b + 1 ∧ dk.size = d.size ∧ wr = putRow enU (Sort.ahead w n) blk off dk ∧
      insOuter ltU a b i dk = insOuter ltU a b (a + 1) d) (fun vi _ => b + 1 - (intOf vi).toNat)
  case atStart => exact ⟨a + 1, 0, d, by go_num, by omega, by omega, rfl, (putRow_self _ _ _ _ _ hH).symm, rfl⟩
  case round =>
    obtain ⟨i, n, dk, rfl, hai, hib, hsk, hwr, hO⟩ := hrel
    have HO : Hid (insOuter ltU a b i dk = insOuter ltU a b (a + 1) d) := hO
    clear hO
    go_wp2
    · go_loopw [7] (fun vj wr2 => ∃ (j m : Nat) (dj : Array Nat), vj = .int .i64 j ∧ a ≤ j ∧ j ≤ i ∧ dj.size = d.size ∧ wr2 = putRow enU (Sort.ahead w m) blk off dj ∧
          insInner ltU a j dj = insInner ltU a i dk) (fun vj _ => (intOf vj).toNat)
      case atStart => exact ⟨i, n, dk, rfl, by omega, Nat.le_refl _, hsk, rfl, rfl⟩
      case round =>
        obtain ⟨j, m, dj, rfl, haj, hji, hsj, hw2, hI⟩ := hrel
        have hlt : i < b := by assumption
        obtain ⟨G, hG⟩ : ∃ G : Nat → Nat, ∀ t, G t = dj[t]! := ⟨fun t => dj[t]!, fun _ => rfl⟩
        have hcw : ∀ t, t < d.size → wr.cell? ⟨blk, off + t, none⟩ = some (.int .u64 (G t : Int)) := fun t ht => by
          rw [hw2, hG]; exact cell?_putRow _ _ _ _ d dj (holds_ahead _ _ _ _ _ _ hH) hsj t (by omega)
        have hfw : ∀ t, t < d.size → wr.frozen? ⟨blk, off + t, none⟩ = false := fun t ht => by
          rw [hw2, frozen?_putRow]; exact ((holds_ahead _ _ m _ _ _ hH) t ht).2
        have HW : Hid (wr = putRow enU (Sort.ahead w m) blk off dj) := hw2
        have HG : Hid (∀ t, G t = dj[t]!) := hG
        have HI : Hid (insInner ltU a j dj = insInner ltU a i dk) := hI
        clear hw2 hG hI hH
        have out : (j ≤ a ∨ ltU dj[j]! dj[j - 1]! = false) → ∀ q, ∃ i' n' dk', Value.int .i64 ((i : Int) + 1) = .int .i64 (i' : Nat) ∧ a < i' ∧ i' ≤ b + 1 ∧ dk'.size = d.size ∧
            wr.drewN q = putRow enU (Sort.ahead w n') blk off dk' ∧ insOuter ltU a b i' dk' = insOuter ltU a b (a + 1) d := fun hs q =>
          ⟨i + 1, m + q, dj, by go_num, by omega, by omega, hsj, by rw [HW.out]; exact putRow_drewN _ _ _ _ _ _ _,
            by rw [← HO.out, insOuter_go _ _ _ _ _ hlt, ← HI.out, insInner_stop _ _ _ _ hs]⟩
        have OUT : Hid _ := out
        clear out
        go_wp2
        by_cases hja : a < j
        · go_quiet (first | (go_at_call 55; refine Calls.quiet_of_same (less_any _ _ _)))
          go_wp2
          · have hl : ltU (G j) (G (j - 1)) = true := by first | assumption | (simp only [ltU, decide_eq_true_eq]; assumption)
            go_region
            all_goals go_wp2
            go_roundw
            case rel =>
              refine ⟨j - 1, m + (nq + 1), swp dj j (j - 1), by congr 1; omega, by omega, by omega, by rw [size_swp]; exact hsj, ?_, ?_⟩
              · rw [HW.out, HG.out, HG.out]
                exact swap_worldA _ w m (nq + 1) blk off dj j (j - 1) (by omega) (by omega)
              · rw [← HI.out, insInner_go ltU a j dj hja (by rw [← HG.out, ← HG.out]; exact hl)]
            case measure => simp [intOf]; omega
          · have hl : ltU (G j) (G (j - 1)) = false := by first | assumption | (simp only [ltU, decide_eq_false_iff_not]; omega)
            go_roundw
            case rel => exact OUT.out (Or.inr (by rw [← HG.out, ← HG.out]; exact hl)) nq
            case measure => simp [intOf]; omega
        · go_quiet (first | (go_at_call 55; refine Calls.quiet_of_same (less_any _ _ _)))
          go_wp2
          go_roundw
          case rel => exact OUT.out (Or.inl (by omega)) nq
          case measure => simp [intOf]; omega
    · have hge : ¬ i < b := by assumption
      go_end0
      exact ⟨rfl, n, by unfold Sort.insertionSort; rw [← HO.out, insOuter_stop _ _ _ _ _ hge]⟩
set_option maxRecDepth 100000 in
set_option maxHeartbeats 2000000 in
theorem pdq_any (blk off cap : Nat) (lim : Int) (d : Array Nat) (w : World) (hH : Holds enU w blk off d) (h12 : d.size ≤ 12) :
    Calls Try.prog 38 #[.slice (some ⟨blk, off, none⟩) d.size cap, .int .i64 0, .int .i64 (d.size : Int), .int .i64 lim] w fun e w' =>
      e = .returned (.tuple #[]) ∧ ∃ n, w' = putRow enU (Sort.ahead w n) blk off (Sort.insertionSort ltU d 0 d.size) := by
  have hins := insertion_any blk off cap 0 d.size d w hH (Nat.zero_le _) (Nat.le_refl _) (by omega)
  have q1 : decide ((d.size : Int) ≤ 12) = true := by simp; omega
  have w1 : IntKind.i64.wrap ((d.size : Int) - 0) = (d.size : Int) := by rw [IntWalk.i64_in _ (by omega)]; omega
  have HI := hide hins
  clear hH hins
  generalize Sort.insertionSort ltU d 0 d.size = r at HI ⊢
  go_enter Try.func38, Try.ntmps38
  go_wp2_with fail
  go_loopw [1, 2] (fun s1 s2 wr => s1 = .int .i64 0 ∧ s2 = .int .i64 (d.size : Int) ∧ wr = w) (fun _ _ _ => 0)
  case atStart => exact ⟨rfl, rfl, rfl⟩
  case round =>
    obtain ⟨rfl, rfl, rfl⟩ := hrel
    go_wp2_with fail
    refine HI.out.mono ?_
    rintro e w' ⟨rfl, n, rfl⟩
    go_wp2_with fail
    (try simp only [Exit.inBlock, Exit.then])
    refine bodyPost_ret (results_none rfl _ _ _) rfl ?_
    exact ⟨rfl, n, rfl⟩
set_option maxHeartbeats 1000000 in
theorem sort12_any (blk off cap : Nat) (d : Array Nat) (w : World) (hH : Holds enU w blk off d) (h12 : d.size ≤ 12) :
    Calls Try.prog 32 #[.slice (some ⟨blk, off, none⟩) d.size cap] w fun e w' =>
      e = .returned (.tuple #[]) ∧ ∃ n, w' = putRow enU (Sort.ahead w n) blk off (Sort.insertionSort ltU d 0 d.size) := by
  have hp := fun lim => pdq_any blk off cap lim d w hH h12
  have hl := Any.bits_Len (SlLaysF0.n15.bits (P := Try.prog) (ρ := sortSp_ren) { sortSp with }) (d.size : Int) w (by omega) (by omega)
  have wr : IntKind.u64.wrap (d.size : Int) = d.size := by rw [IntWalk.u64_in _ (by omega)]
  generalize Sort.insertionSort ltU d 0 d.size = r at hp ⊢
  have HP := hide hp; have HL := hide hl
  clear hH hp hl
  go_enter Try.func32, Try.ntmps32
  go_wp2_with fail
  refine Calls.mono HL.out ?_
  rintro e w' ⟨rfl, rfl⟩
  go_wp2_with fail
  refine (HP.out _).mono ?_
  rintro e w' ⟨rfl, n, rfl⟩
  go_wp2_with fail
  go_end0
  exact ⟨rfl, n, rfl⟩
theorem putRow_upd {w : World} {g n : Nat} {d : Array Nat} : Upd [g] w (putRow enU (Sort.ahead w n) g 0 d) := by
  refine ⟨rfl, rfl, rfl, ?_, fun k hk hS => ?_⟩
  · show w.heap.size ≤ (w.heap.modify g (onCells (putCells enU 0 d))).size
    simp
  · show (w.heap.modify g (onCells (putCells enU 0 d)))[k]? = _
    rw [Array.getElem?_modify, if_neg (by simp at hS; exact fun h => hS h.symm)]
theorem putRow_at {w : World} {g n : Nat} {d : Array Nat} {cur : Array Value} {e : TypeId} {fr : Nat × Nat} (hg : w.heap[g]? = some (.cells cur e fr)) : (putRow enU (Sort.ahead w n) g 0 d).heap[g]? = some (.cells (putCells enU 0 d cur) e fr) := by
  show (w.heap.modify g (onCells (putCells enU 0 d)))[g]? = _
  rw [Array.getElem?_modify, if_pos rfl, hg]
  rfl
theorem sortU_any {base : Nat} {v : Value} {l : List Nat} (w : World) (hr : w.ownsRow base 35 1 v l.length (l.map enU)) (h0 : l ≠ []) (h12 : l.length ≤ 12) :
    Calls Try.prog 32 #[v] w fun e w' => e = .returned (.tuple #[]) ∧ Upd v.ownBlock.toList w w' ∧ ∃ d : List Nat, w'.ownsRow base 35 1 v d.length (d.map enU) ∧ d.length = l.length ∧ d.Perm l ∧ d.Pairwise fun p q => p ≤ q := by
  rcases hr.2 with ⟨rfl, hn⟩ | ⟨g, cap, cur, rfl, hbg, hg, hnc, hcm, hcs, htk⟩
  · exact absurd (List.eq_nil_of_length_eq_zero hn) h0
  rw [Nat.mul_one] at hcs htk
  have hH : Holds enU w g 0 l.toArray := by
    intro j hj
    have hj2 : j < l.length := by simpa using hj
    refine ⟨?_, by rw [Nat.zero_add]; exact blk_free hg⟩
    rw [Nat.zero_add]
    refine blk_cell hg ?_
    have e2 : cur.toList[j]? = (l.map enU)[j]? := by rw [← htk, List.getElem?_take, if_pos hj2]
    rw [Array.getElem?_toList, List.getElem?_map, List.getElem?_eq_getElem hj2] at e2
    rw [e2, getElem!_pos _ j hj]
    simp
  have hcon := sort12_any g 0 cap l.toArray w hH (by simpa using h12)
  rw [List.size_toArray] at hcon
  refine Calls.mono hcon ?_
  rintro e w' ⟨rfl, n, rfl⟩
  obtain ⟨⟨hs1, -, hs3⟩, hso⟩ := insertionSort_holds swoU l.toArray 0 l.length (Nat.zero_le _) (by simp)
  generalize Sort.insertionSort ltU l.toArray 0 l.length = d' at hs1 hs3 hso ⊢
  replace hs1 : d'.size = l.length := by simpa using hs1
  have hdl : d'.toList.length = l.length := by simpa using hs1
  refine ⟨rfl, putRow_upd, d'.toList, ?_, hdl, ?_, ?_⟩
  · rw [hdl]
    refine ⟨by rw [List.length_map, hdl, Nat.mul_one], .inr ⟨g, cap, _, rfl, hbg, putRow_at hg, hnc, hcm, by simp [putCells]; exact hcs, ?_⟩⟩
    apply List.ext_getElem?
    intro t
    by_cases ht : t < l.length
    · have h1 : t < cur.size := by omega
      have h2 : t < d'.size := by omega
      rw [List.getElem?_take, if_pos (by omega), List.getElem?_map, Array.getElem?_toList, Array.getElem?_toList, putCells, Array.getElem?_mapIdx, Array.getElem?_eq_getElem h1, Array.getElem?_eq_getElem h2, Option.map_some, if_pos ⟨Nat.zero_le _, by omega⟩, Nat.sub_zero, getElem!_pos _ t h2]
      rfl
    · rw [List.getElem?_eq_none (by simp; omega), List.getElem?_eq_none (by simp; omega)]
  · have e1 : d'.extract 0 l.length = d' := by rw [← hs1]; simp
    have e2 : l.toArray.extract 0 l.length = l.toArray := by simp
    rw [e1, e2] at hs3
    exact hs3
  · rw [List.pairwise_iff_getElem]
    intro i j hi hj hij
    have := hso i j (Nat.zero_le _) hij (by rw [← hdl]; exact hj)
    rw [getElem!_pos _ j (by simpa using hj), getElem!_pos _ i (by simpa using hi)] at this
    simp only [ltU, decide_eq_false_iff_not] at this
    simp only [Array.getElem_toList]
    omega
end Go.Proofs.Ytmedpbpjjjhhiaa.Vot
