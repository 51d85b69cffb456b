/- Sorting a row of votes. -/
import Derived.Test.YtekbhfpdakhhkaaGreatDoorStVo
import Derived.Test.YtekbhfpdakhhkaaGreatDoorStLay
namespace Go.Proofs.YtekbhfpdakhhkaaGreatDoor.St
set_option linter.unusedSimpArgs false
set_option linter.unusedVariables false
set_option linter.unnecessarySimpa false
open Go.RowKit Go.Sort

instance : Inhabited VR := ⟨vr0⟩
def vrc (x : VR) : List Value := [.int .u64 (x.slot : Int), .int .u64 (x.n : Int), .int .i64 x.r, .slice (adOf x.xo) x.len x.cap]
/-- A row of votes that is the call's own. -/
def VRow (w : World) (base : Nat) (v : Value) (l : List VR) : Prop := w.ownsRow base 57 4 v l.length (l.flatMap vrc)
theorem vrc_len (l : List VR) : (l.flatMap vrc).length = l.length * 4 := by
  induction l with
  | nil => rfl
  | cons p l ih => rw [List.flatMap_cons, List.length_append, ih, List.length_cons]; simp [vrc]; omega
theorem vrc_get {l : List VR} {i c : Nat} {p : VR} (h : l[i]? = some p) (hc : c < 4) : (l.flatMap vrc)[i * 4 + c]? = (vrc p)[c]? := by
  induction l generalizing i with
  | nil => simp at h
  | cons q l ih =>
    rw [List.flatMap_cons]
    cases i with
    | zero =>
      simp at h
      subst h
      rw [List.getElem?_append_left (by simp [vrc]; omega)]
      simp
    | succ i =>
      have e1 : (i + 1) * 4 + c = (vrc q).length + (i * 4 + c) := by simp [vrc]; omega
      rw [e1, List.getElem?_append_right (by omega), Nat.add_sub_cancel_left]
      exact ih (by simpa using h)
theorem flat_toList (l : List VR) : (flatK vrc 4 l.toArray).toList = l.flatMap vrc := by
  apply List.ext_getElem?
  intro t
  by_cases h : t < l.length * 4
  · have hs : t < (flatK vrc 4 l.toArray).size := by simp; exact h
    rw [Array.getElem?_toList, Array.getElem?_eq_getElem hs, ← getElem!_pos (flatK vrc 4 l.toArray) t hs, get_flatK _ _ _ _ (by simpa using h)]
    have hd : t / 4 < l.length := by omega
    have hp : l[t / 4]? = some l[t / 4] := List.getElem?_eq_getElem hd
    have h1 := vrc_get (c := t % 4) hp (by omega)
    have e : l.toArray[t / 4]! = l[t / 4] := by simp [hd]
    rw [e]
    conv => rhs; rw [show t = t / 4 * 4 + t % 4 by omega, h1]
    have h4 : t % 4 < (vrc l[t / 4]).length := by simp [vrc]; omega
    rw [List.getElem?_eq_getElem h4]
    congr 1
    simp [h4]
  · rw [List.getElem?_eq_none (by simp; omega), List.getElem?_eq_none (by rw [vrc_len]; omega)]
theorem sortW_at {w : World} {g n : Nat} {d : Array VR} {os : Array Obj} {cur : Array Value} {e : TypeId} {fr : Nat × Nat} (hg : w.heap[g]? = some (.cells cur e fr)) :
    (sortWorldK vrc 4 w g 0 n d os).heap[g]? = some (.cells (putCells id 0 (flatK vrc 4 d) cur) e fr) := by
  have hlt := blk_lt hg
  show (w.heap.modify g (onCells (putCells id 0 (flatK vrc 4 d))) ++ os)[g]? = _
  rw [Array.getElem?_append_left (by simpa using hlt), Array.getElem?_modify, if_pos rfl, hg]
  rfl
theorem sortW_upd {w : World} {g n : Nat} {d : Array VR} {os : Array Obj} : Upd [g] w (sortWorldK vrc 4 w g 0 n d os) := by
  refine ⟨rfl, rfl, rfl, ?_, fun k hk hS => ?_⟩
  · show w.heap.size ≤ (w.heap.modify g (onCells (putCells id 0 (flatK vrc 4 d))) ++ os).size
    simp
  · show (w.heap.modify g (onCells (putCells id 0 (flatK vrc 4 d))) ++ os)[k]? = _
    rw [Array.getElem?_append_left (by simpa using hk), Array.getElem?_modify, if_neg (by simp at hS; exact fun h => hS h.symm)]
def cmpS (x y : VR) : Int := if x.slot < y.slot then -1 else if y.slot < x.slot then 1 else 0
theorem ltS (x y : VR) : ltOf cmpS x y = decide (x.slot < y.slot) := by
  unfold ltOf cmpS
  by_cases h1 : x.slot < y.slot
  · simp [h1]
  · by_cases h2 : y.slot < x.slot <;> simp [h1, h2]
theorem swoS : SWO (ltOf cmpS) where
  irrefl x := by rw [ltS]; simp
  trans x y z h1 h2 := by rw [ltS] at *; simp at *; omega
  ntrans x y z h1 h2 := by rw [ltS] at *; simp at *; omega
set_option maxHeartbeats 1000000 in
/-- The sort's closure. -/
theorem cmp_any (x y : VR) (W : World) : Calls Tryz.prog 42 #[vrV x, vrV y] W fun e w' => e = .returned (.int .i64 (cmpS x y)) ∧ ∃ q os', w' = grow (W.drewN q) os' := by
  obtain ⟨a, n1, r1, xo1, l1, c1⟩ := x
  obtain ⟨c, n2, r2, xo2, l2, c2⟩ := y
  simp only [cmpS, vrV]
  have q2 : ((a : Int) != (a : Int)) = false := by simp
  have q3 : ((c : Int) != (c : Int)) = false := by simp
  by_cases h1 : a < c
  · have q1 : decide ((a : Int) < (c : Int)) = true := by simp; omega
    have q1' : decide (a < c) = true := by simpa using h1
    rw [if_pos h1]
    go_enter Tryz.func42, Tryz.ntmps42
    go_wp2
    go_ret
    exact ⟨rfl, 0, _, by rw [alloc_eq_grow, alloc_eq_grow, grow_grow]; rfl⟩
  · have q1 : decide ((a : Int) < (c : Int)) = false := by simp; omega
    have q1' : decide (a < c) = false := by simpa using h1
    rw [if_neg h1]
    by_cases h2 : c < a
    · have q4 : decide ((c : Int) < (a : Int)) = true := by simp; omega
      have q4' : decide (c < a) = true := by simpa using h2
      have q5 : decide ((a : Int) > (c : Int)) = true := by simp; omega
      rw [if_pos h2]
      go_enter Tryz.func42, Tryz.ntmps42
      go_wp2
      go_ret
      exact ⟨rfl, 0, _, by rw [alloc_eq_grow, alloc_eq_grow, grow_grow]; rfl⟩
    · have q4 : decide ((c : Int) < (a : Int)) = false := by simp; omega
      have q4' : decide (c < a) = false := by simpa using h2
      have q5 : decide ((a : Int) > (c : Int)) = false := by simp; omega
      rw [if_neg h2]
      go_enter Tryz.func42, Tryz.ntmps42
      go_wp2
      go_ret
      exact ⟨rfl, 0, _, by rw [alloc_eq_grow, alloc_eq_grow, grow_grow]; rfl⟩
theorem sort_any {base : Nat} {v : Value} {l : List VR} (w : World) (hr : VRow w base v l) (h0 : l ≠ []) (hl : l.length ≤ 1000001) :
    Calls Tryz.prog 41 #[v, .func (.func 42) #[] #[]] w fun e w' => e = .returned (.tuple #[]) ∧ Upd v.ownBlock.toList w w' ∧ ∃ d : List VR, VRow w' base v d ∧ d.length = l.length ∧ d.Perm l ∧ d.Pairwise fun p q => p.slot ≤ q.slot := by
  rcases hr.2 with ⟨rfl, hn⟩ | ⟨g, cap, cur, rfl, hbg, hg, hnc, hcm, hcs, htk⟩
  · exact absurd (List.eq_nil_of_length_eq_zero hn) h0
  have hlen : l.length * 4 ≤ cur.size := by rw [hcs]; exact Nat.mul_le_mul_right _ hnc
  have eg : ∀ args w, (callFunc 42 args).run Tryz.prog w = .ok (.enter 42 args) w := enters_of Tryz.func42 (by kernel_rfl) rfl
  have hH : HoldsK vrc 4 w g 0 l.toArray := by
    intro j hj
    have hj2 : j < l.length * 4 := by simpa using hj
    have e1 : (flatK vrc 4 l.toArray)[j]! = cur[j]! := by
      have e2 : (flatK vrc 4 l.toArray).toList[j]? = cur.toList[j]? := by
        rw [flat_toList, ← htk, List.getElem?_take, if_pos hj2]
      rw [Array.getElem?_toList, Array.getElem?_toList] at e2
      rw [getElem!_pos _ j (by simpa using hj2), getElem!_pos _ j (by omega)]
      rw [Array.getElem?_eq_getElem (by simpa using hj2), Array.getElem?_eq_getElem (by omega)] at e2
      exact Option.some.inj e2
    refine ⟨?_, by rw [Nat.zero_add]; exact blk_free hg⟩
    rw [Nat.zero_add]
    refine blk_cell hg ?_
    rw [id, e1, getElem!_pos _ j (by omega)]
    exact Array.getElem?_eq_getElem (by omega)
  have hcon := AnyQ.slices_SortFunc sortVo 4 Tryz.isAgg57 Tryz.sizeOf57 vrc (fun _ => rfl) (fun x v hv => by simp [vrc] at hv; rcases hv with rfl | rfl | rfl | rfl <;> rfl) cmpS swoS 42 #[] g 0 cap l.toArray w eg (fun _ _ _ _ x y => cmp_any x y _) hH (blk_lt hg) (by simp; omega)
  rw [List.size_toArray] at hcon
  refine Calls.mono hcon ?_
  rintro e w' ⟨rfl, d', n, os, ⟨hs1, -, hs3⟩, hso, rfl⟩
  replace hs1 : d'.size = l.length := by simpa using hs1
  have hdl : d'.toList.length = l.length := by simpa using hs1
  refine ⟨rfl, sortW_upd, d'.toList, ?_, hdl, ?_, ?_⟩
  · unfold VRow
    rw [hdl]
    refine ⟨by rw [vrc_len, hdl], .inr ⟨g, cap, _, rfl, hbg, sortW_at hg, hnc, hcm, by simp [putCells]; exact hcs, ?_⟩⟩
    have hf := flat_toList d'.toList
    rw [Array.toArray_toList] at hf
    rw [← hf]
    apply List.ext_getElem?
    intro t
    by_cases ht : t < l.length * 4
    · have h1 : t < cur.size := by omega
      have h2 : t < (flatK vrc 4 d').size := by simp; omega
      rw [List.getElem?_take, if_pos ht, Array.getElem?_toList, Array.getElem?_toList, putCells, Array.getElem?_mapIdx, Array.getElem?_eq_getElem h1, Array.getElem?_eq_getElem h2, Option.map_some, if_pos ⟨Nat.zero_le _, by omega⟩, Nat.sub_zero, getElem!_pos _ t h2]
      rfl
    · rw [List.getElem?_eq_none (by simp; omega), List.getElem?_eq_none (by simp; omega)]
  · have e1 : d'.extract 0 l.length = d' := by rw [← hs1]; simp
    have e2 : l.toArray.extract 0 l.length = l.toArray := by simp
    rw [e1, e2] at hs3
    exact hs3
  · rw [List.pairwise_iff_getElem]
    intro i j hi hj hij
    have := hso i j (Nat.zero_le _) hij (by rw [← hdl]; exact hj)
    rw [ltS, getElem!_pos _ j (by simpa using hj), getElem!_pos _ i (by simpa using hi)] at this
    simp only [decide_eq_false_iff_not] at this
    simp only [Array.getElem_toList]
    omega
end Go.Proofs.YtekbhfpdakhhkaaGreatDoor.St
