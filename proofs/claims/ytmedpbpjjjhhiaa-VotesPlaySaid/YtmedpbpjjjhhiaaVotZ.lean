/- add: a span is added to a set. -/
import Derived.Test.YtmedpbpjjjhhiaaVotS
namespace Go.Proofs.Ytmedpbpjjjhhiaa.Vot
open Go.RowKit

theorem addL_step {l : List Sp} {k : Nat} {p x : Sp} (h : l[k]? = some p) : addL (l.drop k) x = if p.2 + 1 < x.1 ∨ x.2 + 1 < p.1 then (p :: (addL (l.drop (k + 1)) x).1, (addL (l.drop (k + 1)) x).2) else addL (l.drop (k + 1)) (min x.1 p.1, max x.2 p.2) := by
  have hlt := (List.getElem?_eq_some_iff.1 h).1
  have h1 := (List.getElem?_eq_some_iff.1 h).2
  rw [List.drop_eq_getElem_cons hlt, h1, addL]
theorem owns_mono' {w : World} {b0 base : Nat} {e : TypeId} {size : Nat} {v : Value} {n : Nat} {xs : List Value} (h : w.ownsRow base e size v n xs) (hb : b0 ≤ base) : w.ownsRow b0 e size v n xs := by
  refine ⟨h.1, ?_⟩
  rcases h.2 with h1 | ⟨g, cap, cur, hv, hg, r⟩
  · exact .inl h1
  · exact .inr ⟨g, cap, cur, hv, Nat.le_trans hb hg, r⟩
set_option maxRecDepth 100000 in
set_option maxHeartbeats 2000000 in
theorem add_any {base C r : Nat} {cs : Array Value} {v : Value} {l : List Sp} {x : Sp} (w : World) (hC : w.heap[C]? = some (.cells cs TSet (0, 0))) (hr : cs[r]? = some v) (hrow : SpRow w base v l) (hl : l.length ≤ 1000000) (hb : ∀ p ∈ l, p.1 ≤ p.2 ∧ p.2 < 18446744073709551616) (hx : x.1 ≤ x.2) (hx2 : x.2 < 18446744073709551616) :
    Calls Try.prog 21 #[.pointer (some ⟨C, r, none⟩), .agg #[.int .u64 (x.1 : Int), .int .u64 (x.2 : Int)]] w fun e w' => e = .returned (.tuple #[]) ∧ Upd [C] w w' ∧ ∃ (v' : Value) (d : List Sp), SpRow w' w.heap.size v' d ∧ w'.heap[C]? = some (.cells (cs.setIfInBounds r v') TSet (0, 0)) ∧ d.length ≤ l.length + 1 ∧ d.Perm ((addL l x).1 ++ [(addL l x).2]) ∧ d.Pairwise fun p q => p.1 ≤ q.1 := by
  have hc : ∀ o, (w.alloc o).cell? ⟨C, r, none⟩ = some v := fun o => blk_cell (blk_alloc hC o) hr
  have hCs := blk_lt hC
  obtain ⟨i1, hi1, hy0, hy1, hy2⟩ := info_parts' infoSp
  obtain ⟨ao, cap, rfl, h1, h2, h3⟩ := hrow.get
  have HG := hide h3; have HC := hide hC; have HB := hide hb
  simp only [maxLen] at h2
  clear hrow h3 hC hb
  go_enter Try.func21, Try.ntmps21
  go_upto_block 0 with fail
  go_cut [4] (fun so wx => ∃ (q : Nat) (bo : Option Addr) (bc : Nat) (o : List Sp) (y : Sp), so = .slice bo q bc ∧ q = o.length ∧ q ≤ l.length ∧ wx.ownsRow (w.heap.size + 1) TSp 2 (.slice bo q bc) q (o.flatMap spc) ∧ wx.heap[w.heap.size]? = some (.cells #[.int .u64 (y.1 : Int), .int .u64 (y.2 : Int)] TSp (0, 0)) ∧ Upd [] w wx ∧ w.heap.size + 1 ≤ wx.heap.size ∧ addL l x = (o, y))
  case first =>
    as_aux_lemma =>
    go_wp2_with fail
    go_loopw [4, 14] (fun so si wr => ∃ (k q : Nat) (bo : Option Addr) (bc : Nat) (o : List Sp) (y : Sp), k ≤ l.length ∧ si = .int .i64 k ∧ so = .slice bo q bc ∧ q = o.length ∧ q ≤ k ∧ wr.ownsRow (w.heap.size + 1) TSp 2 (.slice bo q bc) q (o.flatMap spc) ∧
      wr.heap[w.heap.size]? = some (.cells #[.int .u64 (y.1 : Int), .int .u64 (y.2 : Int)] TSp (0, 0)) ∧ Upd [] w wr ∧ w.heap.size + 1 ≤ wr.heap.size ∧ y.1 ≤ y.2 ∧ y.2 < 18446744073709551616 ∧ addL l x = (o ++ (addL (l.drop k) y).1, (addL (l.drop k) y).2)) (fun _ si _ => l.length - (intOf si).toNat)
    case atStart => exact ⟨0, 0, none, 0, [], x, by omega, rfl, rfl, rfl, by omega, World.ownsRow_nil _ _ TSp 2, blk_new _ _, (Upd.refl [] w).alloc _, by simp, hx, hx2, rfl⟩
    case round =>
      obtain ⟨k, q, bo, bc, o, y, hk, rfl, rfl, hq, hqk, hrow, hX, hu, hsz, hy1', hy2', hadd⟩ := hrel
      have HU := hide hu; have HR := hide hrow; have HQ := hide hq; have HX := hide hX; have HA := hide hadd; have HS := hide hsz
      clear hu hrow hq hX hadd hsz
      by_cases hlt : k < l.length
      · have d5 : decide ((k : Int) < l.length) = true := by simp; omega
        have d5' : decide (k < l.length) = true := by simpa using hlt
        obtain ⟨p, hp⟩ : ∃ p, l[k]? = some p := ⟨_, List.getElem?_eq_getElem hlt⟩
        obtain ⟨g, rfl, -, hgl, hc0, hc1⟩ := HG.out k p hp
        have hbl := HU.out.block g hgl (by simp)
        have hc0' : wr.cell? ⟨g, k * 2, none⟩ = some (.int .u64 (p.1 : Int)) := by rw [← hc0]; simp only [World.cell?, hbl]
        have hc1' : wr.cell? ⟨g, k * 2 + 1, none⟩ = some (.int .u64 (p.2 : Int)) := by rw [← hc1]; simp only [World.cell?, hbl]
        obtain ⟨hp1, hp2⟩ := HB.out p (List.mem_of_getElem? hp)
        have hst := addL_step (x := y) hp
        have ST := hide hst
        clear hc0 hc1 hbl hp hst
        go_wp2_with fail
        refine (grow_any (x := y) (y := p) _ (blk_alloc HX.out _) hy1' hp1 hy2' hp2).mono ?_
        rintro e w2 (⟨hap, rfl, hu2⟩ | ⟨hap, rfl, hu2, hX2⟩)
        · have hY := hu2.get (blk_new _ _) (by simp)
          have y0 : w2.cell? ⟨wr.heap.size, 0, none⟩ = some (.int .u64 (p.1 : Int)) := blk_cell hY rfl
          have y1 : w2.cell? ⟨wr.heap.size, 1, none⟩ = some (.int .u64 (p.2 : Int)) := blk_cell hY rfl
          have U2 := hide (((Upd.refl [] wr).alloc _).trans hu2)
          have AP := hide hap
          have hw2 : w.heap.size + 1 ≤ w2.heap.size := Nat.le_trans HS.out U2.out.size
          clear hY hu2 hap
          go_wp2_with (at_builtin; go_must (refine wpList_append_src _ rfl _ _ 59 rfl (w.heap.size + 1) TSp i1 (.agg #[.int .u64 0, .int .u64 0]) 2 16 Try.underlying59 hi1 hy0 hy1 hy2 rfl (by decide) (.slice bo q bc) q (o.flatMap spc) rfl (owns_upd HR.out (U2.out.alloc _) (by simp)) (some ⟨w2.heap.size, 0, none⟩) 1 1 [.int .u64 (p.1 : Int), .int .u64 (p.2 : Int)] rfl (src_two rfl rfl) (by unfold maxLen; omega) (by omega) (Nat.le_trans hw2 (by simp)) ?_))
          intro bo3 bc3 w3 hown3 hU3 hn3
          have hX3 : w3.heap[w.heap.size]? = some (.cells #[.int .u64 (y.1 : Int), .int .u64 (y.2 : Int)] TSp (0, 0)) := hU3.get (blk_alloc (U2.out.get HX.out (by simp)) _) (not_own (owns_lt HR.out) (by omega))
          have U3 := hide (((HU.out.trans U2.out).alloc _).trans_new hU3 (fun k hk => by
            simp only [Option.mem_toList] at hk
            have := (owns_lt HR.out k hk).1
            exact .inr (by omega)))
          have S3 := hide (Nat.le_trans (Nat.le_trans hw2 (by simp)) hU3.size)
          have O3 := hide hown3; have X3 := hide hX3
          clear hown3 hU3 hn3 hX3
          go_wp2_with fail
          go_roundw
          case rel =>
            refine ⟨k + 1, q + 1, bo3, bc3, o ++ [p], y, by omega, by go_num, rfl, by rw [List.length_append, ← HQ.out]; rfl, by omega, by rw [List.flatMap_append]; exact O3.out, X3.out, U3.out, S3.out, hy1', hy2', ?_⟩
            rw [HA.out, ST.out, if_pos AP.out]
            simp
          case measure => simp [intOf]; omega
        · have U2 := hide ((HU.out.alloc _).trans_new hu2 (fun k hk => by simp at hk; exact .inr (by omega)))
          have AP := hide hap; have X2 := hide hX2
          have R2 := hide (owns_upd (owns_upd HR.out ((Upd.refl [] wr).alloc _) (by simp)) hu2 (fun k hk => by have := (owns_lt HR.out k hk).1; simp; omega))
          have hw2 : w.heap.size + 1 ≤ w2.heap.size := Nat.le_trans HS.out (Nat.le_trans (by simp) hu2.size)
          have S2 := hide hw2
          clear hu2 hX2 hap hw2
          go_wp2_with fail
          go_roundw
          case rel =>
            refine ⟨k + 1, q, bo, bc, o, (min y.1 p.1, max y.2 p.2), by omega, by go_num, rfl, HQ.out, by omega, R2.out, X2.out, U2.out, S2.out, by simp only; omega, by simp only; omega, ?_⟩
            rw [HA.out, ST.out, if_neg AP.out]
          case measure => simp [intOf]; omega
      · have d5 : decide ((k : Int) < l.length) = false := by simp; omega
        have d5' : decide (k < l.length) = false := by simpa using hlt
        go_wp2_with fail
        go_meet
        refine ⟨q, bo, bc, o, y, rfl, HQ.out, by omega, HR.out, HX.out, HU.out, HS.out, ?_⟩
        rw [HA.out, List.drop_of_length_le (by omega), addL]
        simp
  case rest =>
  obtain ⟨q, bo, bc, o, y, rfl, hq, hql, hrow, hX, hu, hsz, hadd⟩ := hcut
  have x0 : wc.cell? ⟨w.heap.size, 0, none⟩ = some (.int .u64 (y.1 : Int)) := blk_cell hX rfl
  have x1 : wc.cell? ⟨w.heap.size, 1, none⟩ = some (.int .u64 (y.2 : Int)) := blk_cell hX rfl
  have HU := hide hu; have HR := hide hrow; have HQ := hide hq; have HA := hide hadd; have HS := hide hsz
  clear hu hrow hq hX hadd hsz
  go_wp2_with (at_builtin; go_must (refine wpList_append_src _ rfl _ _ 59 rfl (w.heap.size + 1) TSp i1 (.agg #[.int .u64 0, .int .u64 0]) 2 16 Try.underlying59 hi1 hy0 hy1 hy2 rfl (by decide) (.slice bo q bc) q (o.flatMap spc) rfl (owns_upd HR.out ((Upd.refl [] _).alloc _) (by simp)) (some ⟨wc.heap.size, 0, none⟩) 1 1 [.int .u64 (y.1 : Int), .int .u64 (y.2 : Int)] rfl (src_two rfl rfl) (by unfold maxLen; omega) (by omega) (Nat.le_trans HS.out (by simp)) ?_))
  intro bo3 bc3 w3 hown3 hU3 hn3
  have hs3 : SpRow w3 (w.heap.size + 1) (.slice bo3 (q + 1) bc3) (o ++ [y]) := SpRow.snoc hown3 HQ.out
  have U3 := hide ((HU.out.alloc _).trans_new hU3 (fun k hk => by
    simp only [Option.mem_toList] at hk
    have := (owns_lt HR.out k hk).1
    exact .inr (by omega)))
  have S3 := hide hs3
  clear hown3 hU3 hn3 hs3
  go_wp2_with fail
  refine (sort_any _ S3.out (by simp) (by have := HQ.out; rw [List.length_append]; simp; omega)).mono ?_
  rintro e w4 ⟨rfl, hu4, d, hd1, hd2, hd3, hd4⟩
  have U4 := hide (U3.out.trans_new hu4 (fun k hk => by
    simp only [Option.mem_toList] at hk
    have := (owns_lt S3.out k hk).1
    exact .inr (by omega)))
  have hC4 := U4.out.get HC.out (by simp)
  have hc4 : w4.cell? ⟨C, r, none⟩ = some (.slice ao l.length cap) := blk_cell hC4 hr
  have hf4 := blk_free hC4 (i := r)
  have HC4 := hide hC4; have HD := hide hd1
  clear hu4 hC4 hd1 hc
  go_wp2_with fail
  go_end0
  have hle : d.length = q + 1 := by rw [hd2, List.length_append, ← HQ.out]; rfl
  refine ⟨rfl, (U4.out.mono (by simp)).setCell (.inl (by simp)) _, _, d, ?_, blk_set HC4.out _, by omega, by rw [HA.out]; exact hd3, hd4⟩
  refine SpRow.upd (owns_mono' HD.out (by omega)) ((Upd.refl [C] w4).setCell (.inl (by simp)) _) (fun k' cs' hk' h => by
    simp only [List.mem_singleton] at hk'
    subst hk'
    rw [HC4.out] at h
    injection h with h
    injection h with h1 h2
    exact absurd h2 (by decide))
end Go.Proofs.Ytmedpbpjjjhhiaa.Vot
