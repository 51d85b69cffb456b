/- above: what is above a number. -/
import Derived.Test.YtmedpbpjjjhhiaaVotX
import Derived.Test.YtmedpbpjjjhhiaaZreg
namespace Go.Proofs.Ytmedpbpjjjhhiaa.Vot
open Go.RowKit

theorem infoSp : (Try.prog.info? TSp).map (fun i => (i.zero, i.size, i.bytes)) = some (some (.agg #[.int .u64 0, .int .u64 0]), 2, 16) := by kernel_rfl
theorem info_parts' {z : Value} {s b : Nat} {o : Option TypeInfo} (h : o.map (fun i => (i.zero, i.size, i.bytes)) = some (some z, s, b)) : ∃ i, o = some i ∧ i.zero = some z ∧ i.size = s ∧ i.bytes = b := by
  cases o with
  | none => cases h
  | some i =>
    simp only [Option.map_some, Option.some.injEq, Prod.mk.injEq] at h
    exact ⟨i, rfl, h.1, h.2.1, h.2.2⟩
theorem src_two {w : World} {a b : Value} {t : TypeId} (ha : a.oneCell' = true) (hb : b.oneCell' = true) : SrcAt (w.alloc (.cells #[a, b] t)) (some ⟨w.heap.size, 0, none⟩) 1 1 [a, b] 2 := by
  refine ⟨rfl, fun u hu => ?_, by simp, fun x e j u hj => ?_⟩
  · simp at hu
    rcases hu with rfl | rfl
    · exact ha
    · exact hb
  · cases e
    have hp : (⟨w.heap.size, 0, none⟩ : Addr).add j = ⟨w.heap.size, j, none⟩ := by unfold Addr.add; split <;> simp_all
    rw [hp, World.cell?_alloc_mark]
    simpa using hj
theorem src_two2 {w : World} {a b : Value} {t : TypeId} {o : Obj} (ha : a.oneCell' = true) (hb : b.oneCell' = true) : SrcAt ((w.alloc o).alloc (.cells #[a, b] t)) (some ⟨w.heap.size + 1, 0, none⟩) 1 1 [a, b] 2 := by
  have := src_two (w := w.alloc o) (t := t) ha hb
  simpa using this
theorem aboveL_append (n : Nat) (a b : List Sp) : aboveL n (a ++ b) = aboveL n a ++ aboveL n b := by
  unfold aboveL
  rw [List.filterMap_append]
theorem aboveL_take {n k : Nat} {l : List Sp} {p : Sp} (h : l[k]? = some p) : aboveL n (l.take (k + 1)) = aboveL n (l.take k) ++ (if n < p.2 then [(max p.1 (n + 1), p.2)] else []) := by
  rw [List.take_add_one, h, aboveL_append]
  simp only [Option.toList_some]
  rw [aboveL_cons]
  simp [aboveL]
theorem aboveL_len (n : Nat) (l : List Sp) : (aboveL n l).length ≤ l.length := List.length_filterMap_le _ _
theorem SpRow.snoc {w : World} {base : Nat} {v : Value} {l : List Sp} {p : Sp} {n : Nat} (h : w.ownsRow base TSp 2 v (n + 1) (l.flatMap spc ++ [.int .u64 (p.1 : Int), .int .u64 (p.2 : Int)])) (hn : n = l.length) : SpRow w base v (l ++ [p]) := by
  subst hn
  unfold SpRow
  rw [List.length_append, List.flatMap_append]
  simpa [spc] using h
set_option maxHeartbeats 2000000 in
theorem above_any {base C r n : Nat} {cs : Array Value} {v : Value} {l : List Sp} (w : World) (hC : w.heap[C]? = some (.cells cs TSet (0, 0))) (hr : cs[r]? = some v) (hrow : SpRow w base v l) (hl : l.length ≤ 1000000) (hn : n < 18446744073709551616) (hb : ∀ p ∈ l, p.2 < 18446744073709551616) :
    Calls Try.prog 20 #[.pointer (some ⟨C, r, none⟩), .int .u64 (n : Int)] w fun e w' => e = .returned (.tuple #[]) ∧ Upd [C] w w' ∧ ∃ v', SpRow w' w.heap.size v' (aboveL n l) ∧ w'.heap[C]? = some (.cells (cs.setIfInBounds r v') TSet (0, 0)) := by
  have hc : w.cell? ⟨C, r, none⟩ = some v := blk_cell hC hr
  have hCs := blk_lt hC
  obtain ⟨i1, hi1, hy0, hy1, hy2⟩ := info_parts' infoSp
  obtain ⟨ao, cap, rfl, h1, h2, h3⟩ := hrow.get
  have HG := hide h3; have HC := hide hC; have HB := hide hb
  simp only [maxLen] at h2
  clear hrow h3 hC hb
  go_enter Try.func20, Try.ntmps20
  go_wp2_with fail
  go_loopw [4, 12] (fun so si wr => ∃ (k q : Nat) (bo : Option Addr) (bc : Nat), k ≤ l.length ∧ si = .int .i64 k ∧ so = .slice bo q bc ∧ q = (aboveL n (l.take k)).length ∧ q ≤ k ∧ wr.ownsRow w.heap.size TSp 2 (.slice bo q bc) q ((aboveL n (l.take k)).flatMap spc) ∧ Upd [] w wr) (fun _ si _ => l.length - (intOf si).toNat)
  case atStart => exact ⟨0, 0, none, 0, by omega, rfl, rfl, by simp [aboveL], by omega, by simpa [aboveL] using World.ownsRow_nil w w.heap.size TSp 2, Upd.refl _ _⟩
  case round =>
    obtain ⟨k, q, bo, bc, hk, rfl, rfl, hq, hqk, hrow, hu⟩ := hrel
    have HU := hide hu; have HR := hide hrow; have HQ := hide hq
    clear hu hrow hq
    by_cases hlt : k < l.length
    · have d5 : decide ((k : Int) < l.length) = true := by simp; omega
      have d5' : decide (k < l.length) = true := by simpa using hlt
      obtain ⟨p, hp⟩ : ∃ p, l[k]? = some p := ⟨_, List.getElem?_eq_getElem hlt⟩
      obtain ⟨g, rfl, -, hgl, hc0, hc1⟩ := HG.out k p hp
      have hbl := HU.out.block g hgl (by simp)
      have hc0' : wr.cell? ⟨g, k * 2, none⟩ = some (.int .u64 (p.1 : Int)) := by rw [← hc0]; simp only [World.cell?, hbl]
      have hc1' : wr.cell? ⟨g, k * 2 + 1, none⟩ = some (.int .u64 (p.2 : Int)) := by rw [← hc1]; simp only [World.cell?, hbl]
      have hp2 := HB.out p (List.mem_of_getElem? hp)
      have htk := aboveL_take (n := n) hp
      have TK := hide htk
      clear hc0 hc1 hbl hp htk
      by_cases hgt : n < p.2
      · have q1 : decide ((n : Int) < (p.2 : Int)) = true := by simp; omega
        have w1 : IntKind.u64.wrap ((n : Int) + 1) = (n : Int) + 1 := IntWalk.u64_in _ (by omega)
        obtain ⟨M, hM⟩ : ∃ M, max p.1 (n + 1) = M := ⟨_, rfl⟩
        have MM := hide hM
        by_cases m1 : p.1 < n + 1
        · have e1 : (n : Int) + 1 = (M : Int) := by omega
          rw [e1] at w1
          have m2 : (p.1 : Int) < (M : Int) := by omega
          clear hM
          go_wp2_with (at_builtin; go_must (refine wpList_append_src _ rfl _ _ 59 rfl w.heap.size TSp i1 (.agg #[.int .u64 0, .int .u64 0]) 2 16 Try.underlying59 hi1 hy0 hy1 hy2 rfl (by decide) (.slice bo q bc) q ((aboveL n (l.take k)).flatMap spc) rfl (owns_upd HR.out (((Upd.refl [] wr).alloc _).alloc _) (by simp)) (some ⟨wr.heap.size + 1, 0, none⟩) 1 1 [.int .u64 (M : Int), .int .u64 (p.2 : Int)] rfl (src_two2 rfl rfl) (by unfold maxLen; omega) (by omega) (Nat.le_trans HU.out.size (by simp; omega)) ?_))
          intro bo3 bc3 w3 hown3 hU3 hn3
          have U3 := hide (((HU.out.alloc _).alloc _).trans_new hU3 (fun k hk => by
            simp only [Option.mem_toList] at hk
            exact .inr (owns_lt HR.out k hk).1))
          have O3 := hide hown3
          clear hown3 hU3 hn3
          go_wp2_with fail
          go_roundw
          case rel => exact ⟨k + 1, q + 1, bo3, bc3, by omega, by go_num, rfl, by rw [TK.out, if_pos hgt, List.length_append, ← HQ.out]; rfl, by omega, by rw [TK.out, if_pos hgt, MM.out, List.flatMap_append]; exact O3.out, U3.out⟩
          case measure => simp [intOf]; omega
        · have e1 : (p.1 : Int) = (M : Int) := by omega
          have m2 : ¬ (p.1 : Int) < (n : Int) + 1 := by omega
          rw [e1] at hc0'
          rw [e1] at m2
          clear hM
          go_wp2_with (at_builtin; go_must (refine wpList_append_src _ rfl _ _ 59 rfl w.heap.size TSp i1 (.agg #[.int .u64 0, .int .u64 0]) 2 16 Try.underlying59 hi1 hy0 hy1 hy2 rfl (by decide) (.slice bo q bc) q ((aboveL n (l.take k)).flatMap spc) rfl (owns_upd HR.out (((Upd.refl [] wr).alloc _).alloc _) (by simp)) (some ⟨wr.heap.size + 1, 0, none⟩) 1 1 [.int .u64 (M : Int), .int .u64 (p.2 : Int)] rfl (src_two2 rfl rfl) (by unfold maxLen; omega) (by omega) (Nat.le_trans HU.out.size (by simp; omega)) ?_))
          intro bo3 bc3 w3 hown3 hU3 hn3
          have U3 := hide (((HU.out.alloc _).alloc _).trans_new hU3 (fun k hk => by
            simp only [Option.mem_toList] at hk
            exact .inr (owns_lt HR.out k hk).1))
          have O3 := hide hown3
          clear hown3 hU3 hn3
          go_wp2_with fail
          go_roundw
          case rel => exact ⟨k + 1, q + 1, bo3, bc3, by omega, by go_num, rfl, by rw [TK.out, if_pos hgt, List.length_append, ← HQ.out]; rfl, by omega, by rw [TK.out, if_pos hgt, MM.out, List.flatMap_append]; exact O3.out, U3.out⟩
          case measure => simp [intOf]; omega
      · have q1 : decide ((n : Int) < (p.2 : Int)) = false := by simp; omega
        go_wp2_with fail
        go_roundw
        case rel => exact ⟨k + 1, q, bo, bc, by omega, by go_num, rfl, by rw [TK.out, if_neg hgt, List.append_nil]; exact HQ.out, by omega, by rw [TK.out, if_neg hgt, List.append_nil]; exact owns_upd HR.out ((Upd.refl [] wr).alloc _) (by simp), HU.out.alloc _⟩
        case measure => simp [intOf]; omega
    · have d5 : decide ((k : Int) < l.length) = false := by simp; omega
      have d5' : decide (k < l.length) = false := by simpa using hlt
      have e1 : l.take k = l := List.take_of_length_le (by omega)
      rw [e1] at HR HQ
      have hCr := HU.out.get HC.out (by simp)
      have hcr : wr.cell? ⟨C, r, none⟩ = some (.slice ao l.length cap) := blk_cell hCr hr
      have hfr := blk_free hCr (i := r)
      have HCR := hide hCr
      clear hCr
      go_wp2_with fail
      go_end0
      refine ⟨rfl, (HU.out.mono (by simp)).setCell (.inl (by simp)) _, _, ?_, blk_set HCR.out _⟩
      have := HQ.out
      subst this
      exact SpRow.upd HR.out ((Upd.refl [C] wr).setCell (.inl (by simp)) _) (fun k' cs' hk' h => by
        simp only [List.mem_singleton] at hk'
        subst hk'
        rw [HCR.out] at h
        injection h with h
        injection h with h1 h2
        exact absurd h2 (by decide))
end Go.Proofs.Ytmedpbpjjjhhiaa.Vot
