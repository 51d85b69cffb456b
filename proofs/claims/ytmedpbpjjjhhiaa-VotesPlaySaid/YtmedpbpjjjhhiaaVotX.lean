/- at, above: which span has a slot; what is above a number. -/
import Derived.Test.YtmedpbpjjjhhiaaVotW
import Derived.Laws.ResultCell
namespace Go.Proofs.Ytmedpbpjjjhhiaa.Vot
open Go.RowKit

/-- What a search has come to. -/
def Found (l : List Sp) (m : Nat) (e : Ending) : Prop := (∃ i p, l[i]? = some p ∧ findS l m = some p ∧ e = .returned (.int .i64 (i : Nat))) ∨ (findS l m = none ∧ e = .returned (.int .i64 (-1)))
theorem find_hit {l : List Sp} {i m : Nat} {p : Sp} (h : ∀ q ∈ l.take i, ¬ (q.1 ≤ m ∧ m ≤ q.2)) (hi : l[i]? = some p) (hp : p.1 ≤ m ∧ m ≤ p.2) : findS l m = some p := by
  have hlt := (List.getElem?_eq_some_iff.1 hi).1
  have e : l = l.take i ++ p :: l.drop (i + 1) := by
    have h1 := (List.getElem?_eq_some_iff.1 hi).2
    rw [← h1, ← List.drop_eq_getElem_cons hlt, List.take_append_drop]
  unfold findS
  rw [e, List.find?_append]
  have : (l.take i).find? (fun p => decide (p.1 ≤ m) && decide (m ≤ p.2)) = none := by
    rw [List.find?_eq_none]
    intro q hq h2
    simp at h2
    exact h q hq h2
  rw [this]
  simp [hp.1, hp.2]
theorem find_miss {l : List Sp} {m : Nat} (h : ∀ q ∈ l, ¬ (q.1 ≤ m ∧ m ≤ q.2)) : findS l m = none := by
  unfold findS
  rw [List.find?_eq_none]
  intro q hq h2
  simp at h2
  exact h q hq h2
set_option maxHeartbeats 400000 in
/-- at's closure: has a span the slot? -/
theorem has_any {N m : Nat} {p : Sp} (w : World) (hN : w.heap[N]? = some (.cells #[.int .u64 (m : Int)] 35 (0, 0))) :
    Calls Try.prog 34 #[.agg #[.int .u64 (p.1 : Int), .int .u64 (p.2 : Int)], .pointer (some ⟨N, 0, none⟩)] w fun e w' => e = .returned (.bool (decide (p.1 ≤ m) && decide (m ≤ p.2))) ∧ Upd [] w w' := by
  obtain ⟨a, b⟩ := p
  simp only
  have hc0 : ∀ o, (w.alloc o).cell? ⟨N, 0, none⟩ = some (.int .u64 (m : Int)) := fun o => blk_cell (blk_alloc hN o) rfl
  clear hN
  go_enter Try.func34, Try.ntmps34
  by_cases h1 : a ≤ m
  · have q1 : decide ((a : Int) ≤ (m : Int)) = true := by simp; omega
    by_cases h2 : m ≤ b
    · have q2 : decide ((m : Int) ≤ (b : Int)) = true := by simp; omega
      go_wp2_with fail
      go_ret
      exact ⟨by simp [h1, h2], (Upd.refl _ _).alloc _⟩
    · have q2 : decide ((m : Int) ≤ (b : Int)) = false := by simp; omega
      go_wp2_with fail
      go_ret
      exact ⟨by simp [h2], (Upd.refl _ _).alloc _⟩
  · have q1 : decide ((a : Int) ≤ (m : Int)) = false := by simp; omega
    go_wp2_with fail
    go_ret
    exact ⟨by simp [h1], (Upd.refl _ _).alloc _⟩
set_option maxHeartbeats 1000000 in
theorem index_any {base N m : Nat} {v : Value} {l : List Sp} (w : World) (hr : SpRow w base v l) (hN : w.heap[N]? = some (.cells #[.int .u64 (m : Int)] 35 (0, 0))) :
    Calls Try.prog 33 #[v, .func (.func 34) #[] #[.pointer (some ⟨N, 0, none⟩)]] w fun e w' => Found l m e ∧ Upd [] w w' := by
  obtain ⟨ao, cap, rfl, h1, h2, h3⟩ := hr.get
  have HG := hide h3; have HN := hide hN
  simp only [maxLen] at h2
  clear hr h3 hN
  go_enter Try.func33, Try.ntmps33
  go_wp2_with fail
  go_loopw [5, 8] (fun _ si wr => ∃ k : Nat, k ≤ l.length ∧ si = .int .i64 k ∧ (∀ q ∈ l.take k, ¬ (q.1 ≤ m ∧ m ≤ q.2)) ∧ Upd [] w wr) (fun _ si _ => l.length - (intOf si).toNat)
  case atStart => exact ⟨0, by omega, rfl, fun q hq => by simp at hq, Upd.refl _ _⟩
  case round =>
    obtain ⟨k, hk, rfl, hno, hu⟩ := hrel
    have HU := hide hu; have NO := hide hno
    clear hu hno
    by_cases hlt : k < l.length
    · have d5 : decide ((k : Int) < l.length) = true := by simp; omega
      have d5' : decide (k < l.length) = true := by simpa using hlt
      obtain ⟨p, hp⟩ : ∃ p, l[k]? = some p := ⟨_, List.getElem?_eq_getElem hlt⟩
      obtain ⟨g, rfl, -, hgl, hc0, hc1⟩ := HG.out k p hp
      have hb := HU.out.block g hgl (by simp)
      have hc0' : wr.cell? ⟨g, k * 2, none⟩ = some (.int .u64 (p.1 : Int)) := by rw [← hc0]; simp only [World.cell?, hb]
      have hc1' : wr.cell? ⟨g, k * 2 + 1, none⟩ = some (.int .u64 (p.2 : Int)) := by rw [← hc1]; simp only [World.cell?, hb]
      have HP := hide hp
      clear hc0 hc1 hb hp
      go_wp2_with fail
      refine (has_any (p := p) _ (HU.out.get HN.out (by simp))).mono ?_
      rintro e w2 ⟨rfl, hu2⟩
      have U2 := hide (HU.out.trans hu2)
      clear hu2
      by_cases hin : p.1 ≤ m ∧ m ≤ p.2
      · rw [show (decide (p.1 ≤ m) && decide (m ≤ p.2)) = true by simp [hin]]
        go_wp2_with fail
        go_ret
        exact ⟨.inl ⟨k, p, HP.out, find_hit NO.out HP.out hin, rfl⟩, U2.out⟩
      · rw [show (decide (p.1 ≤ m) && decide (m ≤ p.2)) = false by simp; omega]
        go_wp2_with fail
        go_roundw
        case rel =>
          refine ⟨k + 1, by omega, by go_num, fun q hq => ?_, U2.out⟩
          rw [List.take_add_one, HP.out] at hq
          rcases List.mem_append.1 hq with h5 | h5
          · exact NO.out q h5
          · simp at h5; rw [h5]; exact hin
        case measure => simp [intOf]; omega
    · have d5 : decide ((k : Int) < l.length) = false := by simp; omega
      have d5' : decide (k < l.length) = false := by simpa using hlt
      have hm : findS l m = none := find_miss (by have := NO.out; rwa [List.take_of_length_le (by omega)] at this)
      have HM := hide hm
      clear hm
      go_wp2_with fail
      go_ret
      exact ⟨.inr ⟨HM.out, rfl⟩, HU.out⟩
theorem blk_new2 (w : World) (a b : Obj) : ((w.alloc a).alloc b).heap[w.heap.size + 1]? = some b := by
  have := blk_new (w.alloc a) b
  simpa using this
/-- What at answers. -/
def AtSays (l : List Sp) (m : Nat) (e : Ending) : Prop := (∃ p, findS l m = some p ∧ e = .returned (.tuple #[.agg #[.int .u64 (p.1 : Int), .int .u64 (p.2 : Int)], .bool true])) ∨ (findS l m = none ∧ e = .returned (.tuple #[.agg #[.int .u64 0, .int .u64 0], .bool false]))
theorem at_end {fn : Func} {p u : Tmp} {R m : Nat} {a b : Int} {is : Bool} {l : List Sp} {w w2 : World} {act : Act} (hR : w2.heap[R]? = some (.cells #[.int .u64 0, .int .u64 0] TSp (0, 0))) (hu : Upd [] w w2) (hfn : fn.results = #[.cell p TSp, .tmp u]) (hp : act.tmps.getD p undef = .pointer (some ⟨R, 0, none⟩))
    (hv : act.tmps.getD u undef = .bool is) (hd : act.defers = []) (hs : AtSays l m (.returned (.tuple #[.agg #[.int .u64 a, .int .u64 b], .bool is]))) (hRw : w.heap.size ≤ R := by simp) :
    bodyPost Try.prog fn (fun e w' => AtSays l m e ∧ Upd [] w w') Exit.ret act ((w2.setCell ⟨R, 0, none⟩ (.int .u64 a)).setCell ⟨R, 1, none⟩ (.int .u64 b)) := by
  have hW := blk_set (i := 1) (blk_set (i := 0) hR (.int .u64 a)) (.int .u64 b)
  have hu' := (hu.setCell (p := ⟨R, 0, none⟩) (.inr hRw) (.int .u64 a)).setCell (p := ⟨R, 1, none⟩) (.inr hRw) (.int .u64 b)
  generalize (w2.setCell ⟨R, 0, none⟩ (.int .u64 a)).setCell ⟨R, 1, none⟩ (.int .u64 b) = W at hW hu' ⊢
  have h0 : W.cell? ⟨R, 0, none⟩ = some (.int .u64 a) := blk_cell hW rfl
  have h1 : W.cell? ⟨R, 1, none⟩ = some (.int .u64 b) := blk_cell hW rfl
  refine bodyPost_ret (v := .tuple #[.agg #[.int .u64 a, .int .u64 b], .bool is]) ?_ hd ⟨hs, hu'⟩
  rw [results_cell_tmp hfn, hp, hv]
  go_simp
set_option maxHeartbeats 1000000 in
theorem at_any {base C r m : Nat} {v : Value} {l : List Sp} (w : World) (hc : w.cell? ⟨C, r, none⟩ = some v) (hr : SpRow w base v l) :
    Calls Try.prog 27 #[.pointer (some ⟨C, r, none⟩), .int .u64 (m : Int)] w fun e w' => AtSays l m e ∧ Upd [] w w' := by
  have hb : C < w.heap.size := World.block_lt_of_cell? w ⟨C, r, none⟩ hc
  have hcell : ∀ o1 o2, ((w.alloc o1).alloc o2).cell? ⟨C, r, none⟩ = some v := fun o1 o2 => by
    rw [← hc]; simp only [World.cell?, Below.heap_alloc _ _ _ hb, Below.heap_alloc _ _ _ (show C < (w.alloc o1).heap.size by simp; omega)]
  have HR := hide hr; have HC := hide hc
  clear hr
  go_enter Try.func27, Try.ntmps27
  go_wp2_with fail
  refine (index_any (l := l) (base := base) (m := m) _ (owns_upd HR.out (((Upd.refl [] w).alloc _).alloc _) (by simp)) (blk_alloc (blk_new _ _) _)).mono ?_
  rintro e w2 hfu
  have hR := hfu.2.get (blk_new2 _ _ _) (by simp)
  have hr0 : w2.cell? ⟨w.heap.size + 1, 0, none⟩ = some (.int .u64 0) := blk_cell hR rfl
  have hr1 : w2.cell? ⟨w.heap.size + 1, 1, none⟩ = some (.int .u64 0) := blk_cell hR rfl
  have hf0 := blk_free hR (i := 0)
  have hf1 := blk_free hR (i := 1)
  have hc2 : w2.cell? ⟨C, r, none⟩ = some v := by
    rw [← HC.out]
    have := ((((Upd.refl [] w).alloc _).alloc _).trans hfu.2).block C hb (by simp)
    simp only [World.cell?, this]
  have HU := hide ((((Upd.refl [] w).alloc _).alloc _).trans hfu.2); have HRR := hide hR
  obtain ⟨⟨i, p, hi, hf, rfl⟩ | ⟨hf, rfl⟩, -⟩ := hfu
  · obtain ⟨ao, cap, rfl, h1, h2, h3⟩ := HR.out.get
    obtain ⟨g, rfl, -, hg, hc0, hc1⟩ := h3 i p hi
    have hlt := (List.getElem?_eq_some_iff.1 hi).1
    have hb2 := HU.out.block g hg (by simp)
    have hc0' : w2.cell? ⟨g, i * 2, none⟩ = some (.int .u64 (p.1 : Int)) := by rw [← hc0]; simp only [World.cell?, hb2]
    have hc1' : w2.cell? ⟨g, i * 2 + 1, none⟩ = some (.int .u64 (p.2 : Int)) := by rw [← hc1]; simp only [World.cell?, hb2]
    have q1 : decide ((i : Int) < 0) = false := by simp
    simp only [maxLen] at h2
    have HF := hide hf
    clear hc hc0 hc1 hb2 hi hf h3 hR hcell
    go_wp2_with fail
    exact at_end HRR.out HU.out Try.results27 rfl rfl rfl (.inl ⟨p, HF.out, rfl⟩)
  · clear hcell hR
    have HF := hide hf
    clear hf
    go_wp2_with fail
    exact at_end HRR.out HU.out Try.results27 rfl rfl rfl (.inr ⟨HF.out, rfl⟩)
end Go.Proofs.Ytmedpbpjjjhhiaa.Vot
