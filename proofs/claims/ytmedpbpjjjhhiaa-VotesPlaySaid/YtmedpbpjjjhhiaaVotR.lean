/- reach, Upto. -/
import Derived.Test.YtmedpbpjjjhhiaaVotQ
import Derived.Test.YtmedpbpjjjhhiaaVotI
import Derived.Test.YtmedpbpjjjhhiaaInLaws
namespace Go.Proofs.Ytmedpbpjjjhhiaa.Vot
open Go.RowKit

abbrev TU : TypeId := 35
theorem infoU : (Try.prog.info? TU).map (fun i => (i.zero, i.size, i.bytes)) = some (some (.int .u64 0), 1, 8) := by kernel_rfl
theorem endsL_lt {l : Nat → List Sp} {m n e c : Nat} (h : e ∈ endsL l m n) (hb : ∀ r, r < n → ∀ p ∈ l r, p.2 < c) : e < c := by
  induction n with
  | zero => cases h
  | succ n ih =>
    simp only [endsL] at h
    rcases List.mem_append.1 h with h1 | h1
    · exact ih h1 fun r hr => hb r (by omega)
    · cases h2 : findS (l n) m with
      | none => rw [h2] at h1; cases h1
      | some p =>
        rw [h2] at h1
        rw [List.mem_singleton.1 h1]
        exact hb n (by omega) p (findS_some h2).1
theorem endsL_le (l : Nat → List Sp) (m n : Nat) : (endsL l m n).length ≤ n := by
  rw [endsL_len]; exact cnt_le _ _
/-- What reach answers. -/
def ReachSays (n : Nat) (l : Nat → List Sp) (s : Nat) (e : Ending) : Prop :=
  (cnt (fun r => inb (l r) (s + 1)) n < maj n ∧ e = .returned (.int .u64 (s : Int))) ∨
  ∃ v : Nat, e = .returned (.int .u64 (v : Int)) ∧ s < v ∧ v < 18446744073709551616 ∧ ∀ k, s < k → k ≤ v → maj n ≤ cnt (fun r => inb (l r) k) n
set_option maxRecDepth 100000 in
set_option maxHeartbeats 2000000 in
theorem reach_any {B T C n floor K s : Nat} {l : Nat → List Sp} (w : World) (h : TalAt w B T C n floor K l) (hs : s + 1 < 18446744073709551616) :
    Calls Try.prog 26 #[.pointer (some ⟨T, 0, none⟩), .int .u64 (s : Int)] w fun e w' => ReachSays n l s e ∧ Upd [] w w' := by
  have h7 := h.n7
  have hc0 : w.cell? ⟨T, 0, none⟩ = some (.slice (some ⟨C, 0, none⟩) n n) := blk_cell h.hT rfl
  obtain ⟨i1, hi1, hy0, hy1, hy2⟩ := info_parts' infoU
  have w1 : IntKind.u64.wrap ((s : Int) + 1) = ((s + 1 : Nat) : Int) := by rw [IntWalk.u64_in _ (by omega)]; omega
  have H := hide h
  clear h
  go_enter Try.func26, Try.ntmps26
  go_wp2_with fail
  clear hc0
  obtain ⟨m, hm⟩ : ∃ m, m = s + 1 := ⟨_, rfl⟩
  rw [← hm] at w1
  have HM := hide hm
  clear hm
  go_loopw [5, 14] (fun so si wr => ∃ (k q : Nat) (bo : Option Addr) (bc : Nat), k ≤ n ∧ si = .int .i64 k ∧ so = .slice bo q bc ∧ q = (endsL l m k).length ∧ q ≤ k ∧ wr.ownsRow w.heap.size TU 1 (.slice bo q bc) q ((endsL l m k).map enU) ∧ Upd [] w wr) (fun _ si _ => n - (intOf si).toNat)
  case atStart => exact ⟨0, 0, none, 0, by omega, rfl, rfl, rfl, by omega, World.ownsRow_nil w w.heap.size TU 1, Upd.refl _ _⟩
  case round =>
    obtain ⟨k, q, bo, bc, hk, rfl, rfl, hq, hqk, hrow, hu⟩ := hrel
    have HU := hide hu; have HR := hide hrow; have HQ := hide hq
    clear hu hrow hq
    by_cases hlt : k < n
    · have d5 : decide ((k : Int) < (n : Int)) = true := by simp; omega
      have d5' : decide (k < n) = true := by simpa using hlt
      have hc0 : wr.cell? ⟨T, 0, none⟩ = some (.slice (some ⟨C, 0, none⟩) n n) := blk_cell (HU.out.get H.out.hT (by simp)) rfl
      obtain ⟨v, hv, hrow⟩ := (H.out.quiet HU.out).cellC hlt
      have HV := hide hv; have HW := hide hrow
      clear hv hrow
      go_wp2_with fail
      refine (at_any (l := l k) (base := B) (m := m) _ HV.out HW.out).mono ?_
      rintro e w2 ⟨hat, hu2⟩
      have U2 := hide hu2
      have hw2 : w.heap.size ≤ w2.heap.size := Nat.le_trans HU.out.size hu2.size
      clear hu2 hc0
      rcases hat with ⟨p, hf, rfl⟩ | ⟨hf, rfl⟩
      · have he : endsL l m (k + 1) = endsL l m k ++ [p.2] := by simp only [endsL, hf]
        have HE := hide he
        clear he hf
        go_wp2_with (at_builtin; go_must (refine wpList_append_src _ rfl _ _ 51 rfl w.heap.size TU i1 (.int .u64 0) 1 8 Try.underlying51 hi1 hy0 hy1 hy2 rfl (by decide) (.slice bo q bc) q ((endsL l m k).map enU) rfl (owns_upd HR.out ((U2.out.alloc _).alloc _) (by simp)) (some ⟨w2.heap.size + 1, 0, none⟩) 1 1 [.int .u64 (p.2 : Int)] rfl (src_one (cell_new1 (by simp)) rfl) (by unfold maxLen; omega) (by omega) (Nat.le_trans hw2 (by simp; omega)) ?_))
        intro bo3 bc3 w3 hown3 hU3 hn3
        have U3 := hide ((((HU.out.trans U2.out).alloc _).alloc _).trans_new hU3 (fun k hk => by
          simp only [Option.mem_toList] at hk
          exact .inr (owns_lt HR.out k hk).1))
        have O3 := hide hown3
        clear hown3 hU3 hn3
        go_wp2_with fail
        go_roundw
        case rel =>
          refine ⟨k + 1, q + 1, bo3, bc3, by omega, by go_num, rfl, by rw [HE.out, List.length_append, ← HQ.out]; rfl, by omega, ?_, U3.out⟩
          rw [HE.out, List.map_append]
          exact O3.out
        case measure => simp [intOf]; omega
      · have he : endsL l m (k + 1) = endsL l m k := by simp only [endsL, hf, List.append_nil]
        have HE := hide he
        clear he hf
        go_wp2_with fail
        go_roundw
        case rel =>
          refine ⟨k + 1, q, bo, bc, by omega, by go_num, rfl, by rw [HE.out]; exact HQ.out, by omega, ?_, (HU.out.trans U2.out).alloc _⟩
          rw [HE.out]
          exact owns_upd HR.out (U2.out.alloc _) (by simp)
        case measure => simp [intOf]; omega
    · have d5 : decide ((k : Int) < (n : Int)) = false := by simp; omega
      have d5' : decide (k < n) = false := by simpa using hlt
      have e1 : k = n := by omega
      subst e1
      have hT2 := HU.out.get H.out.hT (by simp)
      have hc0 : wr.cell? ⟨T, 0, none⟩ = some (.slice (some ⟨C, 0, none⟩) k k) := blk_cell hT2 rfl
      have hqc : q = cnt (fun r => inb (l r) m) k := by rw [HQ.out, endsL_len]
      have hmj : maj k ≤ 4 := by unfold maj; omega
      have hmj1 : 1 ≤ maj k := by unfold maj; omega
      by_cases hq : q < maj k
      · have d6 : decide ((q : Int) < (maj k : Int)) = true := by simp; omega
        have QC := hide hqc
        clear hqc
        go_wp2_with fail
        refine (majority_any k _ h7).mono ?_
        rintro e w3 ⟨rfl, rfl⟩
        go_wp2_with fail
        go_ret
        exact ⟨.inl ⟨by rw [← HM.out, ← QC.out]; exact hq, rfl⟩, HU.out⟩
      · have d6 : decide ((q : Int) < (maj k : Int)) = false := by simp; omega
        have QC := hide hqc; have HT2 := hide hT2
        clear hqc hT2
        go_wp2_with fail
        refine (majority_any k _ h7).mono ?_
        rintro e w3 ⟨rfl, rfl⟩
        go_wp2_with fail
        have hown : wr.ownsRow w.heap.size TU 1 (.slice bo q bc) (endsL l m k).length ((endsL l m k).map enU) := by rw [← HQ.out]; exact HR.out
        refine (sortU_any _ hown (fun h => by have := HQ.out; rw [h] at this; simp at this; omega) (Nat.le_trans (endsL_le _ _ _) (by omega))).mono ?_
        rintro e w4 ⟨rfl, hu4, d, hd1, hd2, hd3, hd4⟩
        have U4 := hide (HU.out.trans_new hu4 (fun k hk => by
          simp only [Option.mem_toList] at hk
          exact .inr (owns_lt HR.out k hk).1))
        have hdq : d.length = q := by rw [hd2, ← HQ.out]
        obtain ⟨ix, hix⟩ : ∃ ix, ix = q - maj k := ⟨_, rfl⟩
        obtain ⟨x, hx⟩ : ∃ x, d[ix]? = some x := ⟨_, List.getElem?_eq_getElem (by omega)⟩
        have hcell : ∃ g, bo = some ⟨g, 0, none⟩ ∧ w4.cell? ⟨g, ix, none⟩ = some (.int .u64 (x : Int)) := by
          obtain ⟨ao', cap', e1, -, -, h5⟩ := owns_slice hd1
          cases e1
          obtain ⟨g, e2, -, -, h6⟩ := h5 ix (enU x) (by rw [List.getElem?_map, hx]; rfl)
          exact ⟨g, e2, h6⟩
        obtain ⟨g, rfl, hcx⟩ := hcell
        have hc4 : w4.cell? ⟨T, 0, none⟩ = some (.slice (some ⟨C, 0, none⟩) k k) := blk_cell (U4.out.get H.out.hT (by simp)) rfl
        have hlen : q ≤ bc := by
          rcases HR.out.2 with ⟨h5, -⟩ | ⟨g', cap', cur, h5, -, -, h6, -⟩
          · cases h5
          · cases h5; exact h6
        have hbc : bc ≤ 9223372036854775807 := by
          rcases HR.out.2 with ⟨h5, -⟩ | ⟨g', cap', cur, h5, -, -, -, h6, -⟩
          · cases h5
          · cases h5; simpa [maxLen] using h6
        have w2 : IntKind.i64.wrap ((q : Int) - (maj k : Int)) = (ix : Int) := by rw [IntWalk.i64_in _ (by omega)]; omega
        have hixq : ix < q := by omega
        have hrd := reached (l := l) (s := s) (n := k) (d := d) (v := x) (by rw [← HM.out]; exact hd3) hd4 (by omega) (by rw [hdq, ← hix]; exact hx)
        have hxl : x < 18446744073709551616 := endsL_lt (hd3.mem_iff.1 (List.mem_of_getElem? hx)) H.out.bnd
        have RD := hide hrd
        clear hu4 hd1 hd2 hd3 hd4 hdq hix hx hown hrd hc0
        go_wp2_with fail
        refine (majority_any k _ h7).mono ?_
        rintro e w5 ⟨rfl, rfl⟩
        go_wp2_with fail
        go_ret
        exact ⟨.inr ⟨x, rfl, RD.out.1, hxl, RD.out.2⟩, U4.out⟩
end Go.Proofs.Ytmedpbpjjjhhiaa.Vot
