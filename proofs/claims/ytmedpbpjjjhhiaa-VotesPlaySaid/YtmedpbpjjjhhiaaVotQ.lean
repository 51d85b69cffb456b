/- Spans, Release. -/
import Derived.Test.YtmedpbpjjjhhiaaVotV
namespace Go.Proofs.Ytmedpbpjjjhhiaa.Vot
open Go.RowKit

abbrev TSpan : TypeId := 42
theorem infoSpan : (Try.prog.info? TSpan).map (fun i => (i.zero, i.size, i.bytes)) = some (some (.agg #[.int .u64 0, .int .u64 0]), 2, 16) := by kernel_rfl
/-- What Spans answers: a new row. -/
def SpansOut (w : World) (l : List Sp) (e : Ending) (w' : World) : Prop := ∃ ao cap, e = .returned (.slice ao l.length cap) ∧ w'.ownsRow w.heap.size TSpan 2 (.slice ao l.length cap) l.length (l.flatMap spc) ∧ Upd [] w w'
set_option maxRecDepth 100000 in
set_option maxHeartbeats 2000000 in
theorem spans_any {B T C n floor K r : Nat} {l : Nat → List Sp} (w : World) (h : TalAt w B T C n floor K l) (hr : r < n) (hK : K ≤ 100000) :
    Calls Try.prog 17 #[.pointer (some ⟨T, 0, none⟩), .int .i64 (r : Int)] w (SpansOut w (l r)) := by
  have h7 := h.n7
  have hln := Nat.le_trans (h.len r hr) hK
  have hc0 : w.cell? ⟨T, 0, none⟩ = some (.slice (some ⟨C, 0, none⟩) n n) := blk_cell h.hT rfl
  obtain ⟨v, hv, hrow⟩ := h.cellC hr
  have d1 : decide ((r : Int) < 0) = false := by simp
  have d2 : decide ((n : Int) ≤ (r : Int)) = false := by simp; omega
  have d2' : decide (n ≤ r) = false := by simp; omega
  obtain ⟨i1, hi1, hy0, hy1, hy2⟩ := info_parts' infoSpan
  obtain ⟨ao, cap, rfl, h1, h2, h3⟩ := hrow.get
  have HG := hide h3
  simp only [maxLen] at h2
  generalize l r = L at HG h1 h2 hln hv ⊢
  clear h hrow h3
  go_enter Try.func17, Try.ntmps17
  go_wp2_with fail
  clear hc0 hv
  go_loopw [5, 32] (fun so si wr => ∃ (k : Nat) (bo : Option Addr) (bc : Nat), k ≤ L.length ∧ si = .int .i64 k ∧ so = .slice bo k bc ∧ wr.ownsRow w.heap.size TSpan 2 (.slice bo k bc) k ((L.take k).flatMap spc) ∧ Upd [] w wr) (fun _ si _ => L.length - (intOf si).toNat)
  case atStart => exact ⟨0, none, 0, by omega, rfl, rfl, World.ownsRow_nil w w.heap.size TSpan 2, Upd.refl _ _⟩
  case round =>
    obtain ⟨k, bo, bc, hk, rfl, rfl, hrow, hu⟩ := hrel
    have HU := hide hu; have HR := hide hrow
    clear hu hrow
    by_cases hlt : k < L.length
    · have d5 : decide ((k : Int) < L.length) = true := by simp; omega
      have d5' : decide (k < L.length) = true := by simpa using hlt
      obtain ⟨p, hp⟩ : ∃ p, L[k]? = some p := ⟨_, List.getElem?_eq_getElem hlt⟩
      obtain ⟨g, rfl, -, hgl, hc0, hc1⟩ := HG.out k p hp
      have hbl := HU.out.block g hgl (by simp)
      have hc0' : wr.cell? ⟨g, k * 2, none⟩ = some (.int .u64 (p.1 : Int)) := by rw [← hc0]; simp only [World.cell?, hbl]
      have hc1' : wr.cell? ⟨g, k * 2 + 1, none⟩ = some (.int .u64 (p.2 : Int)) := by rw [← hc1]; simp only [World.cell?, hbl]
      have HP := hide hp
      clear hc0 hc1 hbl hp
      go_wp2_with (at_builtin; go_must (refine wpList_append_src _ rfl _ _ 50 rfl w.heap.size TSpan i1 (.agg #[.int .u64 0, .int .u64 0]) 2 16 Try.underlying50 hi1 hy0 hy1 hy2 rfl (by decide) (.slice bo k bc) k ((L.take k).flatMap spc) rfl (owns_upd HR.out (((Upd.refl [] wr).alloc _).alloc _) (by simp)) (some ⟨wr.heap.size + 1, 0, none⟩) 1 1 [.int .u64 (p.1 : Int), .int .u64 (p.2 : Int)] rfl (src_two2 rfl rfl) (by unfold maxLen; omega) (by omega) (Nat.le_trans HU.out.size (by simp; omega)) ?_))
      intro bo3 bc3 w3 hown3 hU3 hn3
      have U3 := hide (((HU.out.alloc _).alloc _).trans_new hU3 (fun k hk => by
        simp only [Option.mem_toList] at hk
        exact .inr (owns_lt HR.out k hk).1))
      have O3 := hide hown3
      clear hown3 hU3 hn3
      go_wp2_with fail
      go_roundw
      case rel =>
        refine ⟨k + 1, bo3, bc3, by omega, by go_num, rfl, ?_, U3.out⟩
        rw [List.take_add_one, HP.out, List.flatMap_append]
        exact O3.out
      case measure => simp [intOf]; omega
    · have d5 : decide ((k : Int) < L.length) = false := by simp; omega
      have d5' : decide (k < L.length) = false := by simpa using hlt
      have e1 : k = L.length := by omega
      subst e1
      go_wp2_with fail
      go_ret
      have h5 := HR.out
      rw [List.take_length] at h5
      exact ⟨bo, bc, rfl, h5, HU.out⟩
/-- What Release makes of a tally. -/
def Released (w : World) (B T C n floor K : Nat) (l : Nat → List Sp) (top : Nat) (e : Ending) (w' : World) : Prop :=
  e = .returned (.tuple #[]) ∧ Upd [T, C] w w' ∧ TalAt w' B T C n (max floor top) K (fun r => if top ≤ floor then l r else aboveL top (l r))
set_option maxRecDepth 100000 in
set_option maxHeartbeats 2000000 in
theorem release_any {B T C n floor K top : Nat} {l : Nat → List Sp} (w : World) (h : TalAt w B T C n floor K l) (hto : top < 18446744073709551616) (hK : K ≤ 100000) (hB : B ≤ w.heap.size) :
    Calls Try.prog 10 #[.pointer (some ⟨T, 0, none⟩), .int .u64 (top : Int)] w (Released w B T C n floor K l top) := by
  have h7 := h.n7
  have hc0 : w.cell? ⟨T, 0, none⟩ = some (.slice (some ⟨C, 0, none⟩) n n) := blk_cell h.hT rfl
  have hc1 : w.cell? ⟨T, 1, none⟩ = some (.int .u64 (floor : Int)) := blk_cell h.hT rfl
  have hf1 := blk_free h.hT (i := 1)
  have hTl := blk_lt h.hT
  have H := hide h
  clear h
  by_cases hf : top ≤ floor
  · have d1 : decide ((top : Int) ≤ (floor : Int)) = true := by simp; omega
    go_enter Try.func10, Try.ntmps10
    go_wp2_with fail
    (try simp only [Exit.inBlock, Exit.then])
    refine bodyPost_ret (results_none rfl _ _ _) rfl ?_
    refine ⟨rfl, Upd.refl _ _, ?_⟩
    rw [Nat.max_eq_left hf, show (fun r => if top ≤ floor then l r else aboveL top (l r)) = l from funext fun r => if_pos hf]
    exact H.out
  · have d1 : decide ((top : Int) ≤ (floor : Int)) = false := by simp; omega
    go_enter Try.func10, Try.ntmps10
    go_wp2_with fail
    clear hc0 hc1
    go_loopw [24] (fun si wr => ∃ k : Nat, k ≤ n ∧ si = .int .i64 k ∧ Upd [T, C] w wr ∧ TalAt wr B T C n top K (fun r => if r < k then aboveL top (l r) else l r)) (fun si _ => n - (intOf si).toNat)
    case atStart =>
      refine ⟨0, by omega, rfl, (Upd.refl _ _).setCell (.inl (by simp)) _, ?_⟩
      have hS : ∀ k cs, k ∈ [T] → w.heap[k]? ≠ some (.cells cs TSp (0, 0)) := fun k cs hk h2 => by
        simp only [List.mem_singleton] at hk
        subst hk
        rw [H.out.hT] at h2
        injection h2 with h2
        injection h2 with h3 h4
        exact absurd h4 (by decide)
      have hu : Upd [T] w (w.setCell ⟨T, 1, none⟩ (.int .u64 (top : Int))) := (Upd.refl _ _).setCell (.inl (by simp)) _
      obtain ⟨cs, g1, g2, g3⟩ := H.out.hC
      refine ⟨blk_set H.out.hT _, ⟨cs, hu.get g1 (by simpa using H.out.ne.symm), g2, fun r hr => ?_⟩, H.out.loT, H.out.loC, H.out.n1, h7, hto, fun r hr => ?_, fun r hr => ?_, fun r hr => ?_⟩
      · obtain ⟨v, g4, g5⟩ := g3 r hr
        exact ⟨v, g4, by simpa using g5.upd hu hS⟩
      · simpa using H.out.norm r hr
      · simpa using H.out.bnd r hr
      · simpa using H.out.len r hr
    case round =>
      obtain ⟨k, hk, rfl, hu, htal⟩ := hrel
      have HU := hide hu; have HT := hide htal
      clear hu htal
      by_cases hlt : k < n
      · have d5 : decide ((k : Int) < (n : Int)) = true := by simp; omega
        have d5' : decide (k < n) = true := by simpa using hlt
        have hc0 : wr.cell? ⟨T, 0, none⟩ = some (.slice (some ⟨C, 0, none⟩) n n) := blk_cell HT.out.hT rfl
        obtain ⟨cs, g1, g2, g3⟩ := HT.out.hC
        obtain ⟨v, g4, g5⟩ := g3 k hlt
        simp only [Nat.lt_irrefl, if_false] at g5
        have G1 := hide g1; have G3 := hide g3; have G4 := hide g4; have G5 := hide g5
        clear g1 g3 g4 g5
        go_wp2_with fail
        refine (above_any (l := l k) wr G1.out G4.out G5.out (Nat.le_trans (H.out.len k hlt) (by omega)) hto (H.out.bnd k hlt)).mono ?_
        rintro e w2 ⟨rfl, hu2, v', hv', hC'⟩
        have U2 := hide (HU.out.trans (hu2.mono (by simp)))
        have T2 : TalAt w2 B T C n top K (fun r => if r < k + 1 then aboveL top (l r) else l r) := by
          refine ⟨hu2.get HT.out.hT (by simpa using HT.out.ne), ⟨_, hC', by simpa using g2, fun r hr => ?_⟩, HT.out.loT, HT.out.loC, HT.out.n1, h7, hto, fun r hr => ?_, fun r hr => ?_, fun r hr => ?_⟩
          · by_cases e : r = k
            · subst e
              simp only [Nat.lt_succ_self, if_true]
              exact ⟨v', by rw [Array.getElem?_setIfInBounds, if_pos rfl, if_pos (by omega)], owns_mono' hv' (Nat.le_trans hB HU.out.size)⟩
            · obtain ⟨u, g6, g7⟩ := G3.out r hr
              refine ⟨u, by rw [Array.getElem?_setIfInBounds, if_neg (fun h => e h.symm)]; exact g6, ?_⟩
              have := g7.upd hu2 HT.out.setBlock
              by_cases h5 : r < k
              · rw [if_pos (by omega)]; rw [if_pos h5] at this; exact this
              · rw [if_neg (by omega)]; rw [if_neg h5] at this; exact this
          · split
            · exact above_norm (H.out.norm r hr)
            · exact H.out.norm r hr
          · split
            · intro p hp
              obtain ⟨q, hq, rfl, -⟩ := above_ge hp
              exact H.out.bnd r hr q hq
            · exact H.out.bnd r hr
          · split
            · exact Nat.le_trans (aboveL_len _ _) (H.out.len r hr)
            · exact H.out.len r hr
        have HT2 := hide T2
        clear hu2 hv' hC' T2
        go_wp2_with fail
        go_roundw
        case rel => exact ⟨k + 1, by omega, by go_num, U2.out, HT2.out⟩
        case measure => simp [intOf]; omega
      · have d5 : decide ((k : Int) < (n : Int)) = false := by simp; omega
        have d5' : decide (k < n) = false := by simpa using hlt
        have e1 : k = n := by omega
        subst e1
        go_wp2_with fail
        go_end0
        refine ⟨rfl, HU.out, ?_⟩
        rw [Nat.max_eq_right (by omega)]
        have h5 := HT.out
        refine ⟨h5.hT, ?_, h5.loT, h5.loC, h5.n1, h7, hto, fun r hr => ?_, fun r hr => ?_, fun r hr => ?_⟩
        · obtain ⟨cs, g1, g2, g3⟩ := h5.hC
          refine ⟨cs, g1, g2, fun r hr => ?_⟩
          have := g3 r hr
          rw [if_pos hr] at this
          rw [if_neg hf]
          exact this
        · have := h5.norm r hr; rw [if_pos hr] at this; rw [if_neg hf]; exact this
        · have := h5.bnd r hr; rw [if_pos hr] at this; rw [if_neg hf]; exact this
        · have := h5.len r hr; rw [if_pos hr] at this; rw [if_neg hf]; exact this
end Go.Proofs.Ytmedpbpjjjhhiaa.Vot
