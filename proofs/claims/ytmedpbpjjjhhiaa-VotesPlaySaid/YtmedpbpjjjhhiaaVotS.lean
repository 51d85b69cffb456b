/- Sorting a row of spans. -/
import Derived.Test.YtmedpbpjjjhhiaaVotY
import Derived.Test.YtmedpbpjjjhhiaaVotLay
namespace Go.Proofs.Ytmedpbpjjjhhiaa.Vot
open Go.RowKit Go.Sort

theorem flat_toList (l : List Sp) : (flatK spc 2 l.toArray).toList = l.flatMap spc := by
  apply List.ext_getElem?
  intro t
  by_cases h : t < l.length * 2
  · have hs : t < (flatK spc 2 l.toArray).size := by simp; exact h
    rw [Array.getElem?_toList, Array.getElem?_eq_getElem hs, ← getElem!_pos (flatK spc 2 l.toArray) t hs, get_flatK _ _ _ _ (by simpa using h)]
    have hd : t / 2 < l.length := by omega
    have hp : l[t / 2]? = some l[t / 2] := List.getElem?_eq_getElem hd
    obtain ⟨h1, h2⟩ := spc_get hp
    have e : l.toArray[t / 2]! = l[t / 2] := by simp [hd]
    rw [e]
    rcases Nat.mod_two_eq_zero_or_one t with h3 | h3
    · rw [h3]
      conv => rhs; rw [show t = t / 2 * 2 by omega, h1]
      rfl
    · rw [h3]
      conv => rhs; rw [show t = t / 2 * 2 + 1 by omega, h2]
      rfl
  · rw [List.getElem?_eq_none (by simp; omega), List.getElem?_eq_none (by rw [spc_len]; omega)]
theorem sortW_at {w : World} {g n : Nat} {d : Array Sp} {os : Array Obj} {cur : Array Value} {e : TypeId} {fr : Nat × Nat} (hg : w.heap[g]? = some (.cells cur e fr)) :
    (sortWorldK spc 2 w g 0 n d os).heap[g]? = some (.cells (putCells id 0 (flatK spc 2 d) cur) e fr) := by
  have hlt := blk_lt hg
  show (w.heap.modify g (onCells (putCells id 0 (flatK spc 2 d))) ++ os)[g]? = _
  rw [Array.getElem?_append_left (by simpa using hlt), Array.getElem?_modify, if_pos rfl, hg]
  rfl
theorem sortW_upd {w : World} {g n : Nat} {d : Array Sp} {os : Array Obj} : Upd [g] w (sortWorldK spc 2 w g 0 n d os) := by
  refine ⟨rfl, rfl, rfl, ?_, fun k hk hS => ?_⟩
  · show w.heap.size ≤ (w.heap.modify g (onCells (putCells id 0 (flatK spc 2 d))) ++ os).size
    simp
  · show (w.heap.modify g (onCells (putCells id 0 (flatK spc 2 d))) ++ os)[k]? = _
    rw [Array.getElem?_append_left (by simpa using hk), Array.getElem?_modify, if_neg (by simp at hS; exact fun h => hS h.symm)]
def cmpS (x y : Sp) : Int := if x.1 < y.1 then -1 else if y.1 < x.1 then 1 else 0
theorem ltS (x y : Sp) : ltOf cmpS x y = decide (x.1 < y.1) := by
  unfold ltOf cmpS
  by_cases h1 : x.1 < y.1
  · simp [h1]
  · by_cases h2 : y.1 < x.1 <;> simp [h1, h2]
theorem swoS : SWO (ltOf cmpS) where
  irrefl x := by rw [ltS]; simp
  trans x y z h1 h2 := by rw [ltS] at *; simp at *; omega
  ntrans x y z h1 h2 := by rw [ltS] at *; simp at *; omega
set_option maxHeartbeats 1000000 in
/-- The sort's closure. -/
theorem cmp_any (x y : Sp) (W : World) : Calls Try.prog 30 #[.agg #[.int .u64 (x.1 : Int), .int .u64 (x.2 : Int)], .agg #[.int .u64 (y.1 : Int), .int .u64 (y.2 : Int)]] W fun e w' => e = .returned (.int .i64 (cmpS x y)) ∧ ∃ q os', w' = grow (W.drewN q) os' := by
  obtain ⟨a, b⟩ := x
  obtain ⟨c, d⟩ := y
  simp only [cmpS]
  by_cases h1 : a < c
  · have q1 : decide ((a : Int) < (c : Int)) = true := by simp; omega
    have q2 : ((a : Int) != (a : Int)) = false := by simp
    have q3 : ((c : Int) != (c : Int)) = false := by simp
    rw [if_pos h1]
    go_enter Try.func30, Try.ntmps30
    go_wp2
    go_ret
    exact ⟨rfl, 0, _, by rw [alloc_eq_grow, alloc_eq_grow, grow_grow]; rfl⟩
  · have q1 : decide ((a : Int) < (c : Int)) = false := by simp; omega
    have q2 : ((a : Int) != (a : Int)) = false := by simp
    have q3 : ((c : Int) != (c : Int)) = false := by simp
    rw [if_neg h1]
    by_cases h2 : c < a
    · have q4 : decide ((c : Int) < (a : Int)) = true := by simp; omega
      rw [if_pos h2]
      go_enter Try.func30, Try.ntmps30
      go_wp2
      go_ret
      exact ⟨rfl, 0, _, by rw [alloc_eq_grow, alloc_eq_grow, grow_grow]; rfl⟩
    · have q4 : decide ((c : Int) < (a : Int)) = false := by simp; omega
      rw [if_neg h2]
      go_enter Try.func30, Try.ntmps30
      go_wp2
      go_ret
      exact ⟨rfl, 0, _, by rw [alloc_eq_grow, alloc_eq_grow, grow_grow]; rfl⟩
theorem sort_any {base : Nat} {v : Value} {l : List Sp} (w : World) (hr : SpRow w base v l) (h0 : l ≠ []) (hl : l.length ≤ 1000001) :
    Calls Try.prog 29 #[v, .func (.func 30) #[] #[]] w fun e w' => e = .returned (.tuple #[]) ∧ Upd v.ownBlock.toList w w' ∧ ∃ d : List Sp, SpRow w' base v d ∧ d.length = l.length ∧ d.Perm l ∧ d.Pairwise fun p q => p.1 ≤ q.1 := by
  rcases hr.2 with ⟨rfl, hn⟩ | ⟨g, cap, cur, rfl, hbg, hg, hnc, hcm, hcs, htk⟩
  · exact absurd (List.eq_nil_of_length_eq_zero hn) h0
  have hlen : l.length * 2 ≤ cur.size := by rw [hcs]; exact Nat.mul_le_mul_right _ hnc
  have eg : ∀ args w, (callFunc 30 args).run Try.prog w = .ok (.enter 30 args) w := enters_of Try.func30 (by kernel_rfl) rfl
  have hH : HoldsK spc 2 w g 0 l.toArray := by
    intro j hj
    have hj2 : j < l.length * 2 := by simpa using hj
    have e1 : (flatK spc 2 l.toArray)[j]! = cur[j]! := by
      have e2 : (flatK spc 2 l.toArray).toList[j]? = cur.toList[j]? := by
        rw [flat_toList, ← htk, List.getElem?_take, if_pos hj2]
      rw [Array.getElem?_toList, Array.getElem?_toList] at e2
      rw [getElem!_pos _ j (by simpa using hj2), getElem!_pos _ j (by omega)]
      rw [Array.getElem?_eq_getElem (by simpa using hj2), Array.getElem?_eq_getElem (by omega)] at e2
      exact Option.some.inj e2
    refine ⟨?_, by rw [Nat.zero_add]; exact blk_free hg⟩
    rw [Nat.zero_add]
    refine blk_cell hg ?_
    rw [id, e1, getElem!_pos _ j (by omega)]
    exact Array.getElem?_eq_getElem (by omega)
  have hcon := AnyQ.slices_SortFunc sortSp 2 Try.isAgg64 Try.sizeOf64 spc (fun _ => rfl) (fun x v hv => by simp [spc] at hv; rcases hv with rfl | rfl <;> rfl) cmpS swoS 30 #[] g 0 cap l.toArray w eg (fun _ _ _ _ x y => cmp_any x y _) hH (blk_lt hg) (by simp; omega)
  rw [List.size_toArray] at hcon
  refine Calls.mono hcon ?_
  rintro e w' ⟨rfl, d', n, os, ⟨hs1, -, hs3⟩, hso, rfl⟩
  replace hs1 : d'.size = l.length := by simpa using hs1
  have hdl : d'.toList.length = l.length := by simpa using hs1
  refine ⟨rfl, sortW_upd, d'.toList, ?_, hdl, ?_, ?_⟩
  · unfold SpRow
    rw [hdl]
    refine ⟨by rw [spc_len, hdl], .inr ⟨g, cap, _, rfl, hbg, sortW_at hg, hnc, hcm, by simp [putCells]; exact hcs, ?_⟩⟩
    have hf := flat_toList d'.toList
    rw [Array.toArray_toList] at hf
    rw [← hf]
    apply List.ext_getElem?
    intro t
    by_cases ht : t < l.length * 2
    · have h1 : t < cur.size := by omega
      have h2 : t < (flatK spc 2 d').size := by simp; omega
      rw [List.getElem?_take, if_pos ht, Array.getElem?_toList, Array.getElem?_toList, putCells, Array.getElem?_mapIdx, Array.getElem?_eq_getElem h1, Array.getElem?_eq_getElem h2, Option.map_some, if_pos ⟨Nat.zero_le _, by omega⟩, Nat.sub_zero, getElem!_pos _ t h2]
      rfl
    · rw [List.getElem?_eq_none (by simp; omega), List.getElem?_eq_none (by simp; omega)]
  · have e1 : d'.extract 0 l.length = d' := by rw [← hs1]; simp
    have e2 : l.toArray.extract 0 l.length = l.toArray := by simp
    rw [e1, e2] at hs3
    exact hs3
  · rw [List.pairwise_iff_getElem]
    intro i j hi hj hij
    have := hso i j (Nat.zero_le _) hij (by rw [← hdl]; exact hj)
    rw [ltS, getElem!_pos _ j (by simpa using hj), getElem!_pos _ i (by simpa using hi)] at this
    simp only [decide_eq_false_iff_not] at this
    simp only [Array.getElem_toList]
    omega
end Go.Proofs.Ytmedpbpjjjhhiaa.Vot
