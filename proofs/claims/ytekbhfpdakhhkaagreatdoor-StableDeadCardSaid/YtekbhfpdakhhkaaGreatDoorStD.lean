/- What a set does: promised, voted. -/
import Derived.Test.YtekbhfpdakhhkaaGreatDoorStG
import Derived.Test.YtekbhfpdakhhkaaGreatDoorStF
namespace Go.Proofs.YtekbhfpdakhhkaaGreatDoor.St
set_option linter.unusedSimpArgs false
set_option linter.unusedVariables false
set_option linter.unnecessarySimpa false
open Go.RowKit Go.Lib Go.Proofs.YtekbhfpdakhhkaaGreatDoor.DiskW

section
variable {E : List Nat} {S L D g base : Nat} {so : Option Addr} {sn sc : Nat} {bv : Value} {d : DS} {s : Sto}
theorem StoAt.setS {w w' : World} {so' : Option Addr} {sn' sc' : Nat} {s' : Sto} (h : StoAt E w S L D g base so sn sc bv d s) (hu : Upd [S] w w')
    (hb : w'.heap[S]? = some (.cells #[.pointer (some ⟨L, 0, none⟩), .int .u64 (s'.prom.n : Int), .int .i64 s'.prom.r, .int .u64 (s'.base : Int), .slice so' sn' sc', .map (some g)] 79 (0, 0)))
    (hs : Lies w' D (S :: L :: g :: E) so sn sc s.snap → Lies w' D (S :: L :: g :: E) so' sn' sc' s'.snap) (hv : s'.votes = s.votes) : StoAt E w' S L D g base so' sn' sc' bv d s' := by
  obtain ⟨n1, n2, n3, n4, n5, n6⟩ := h.nes
  have hD := blk_lt h.dsk.hD
  refine ⟨hb, hu.get h.log (by simpa using n1.symm), h.dsk.upd hu (by simpa using n4.symm) (fun k hk => ?_), ?_, hs (h.snp.upd hu hD (by simpa using n4.symm) (by simp)), h.sS.upd hu hD (by simpa using n4.symm), h.sL.upd hu hD (by simpa using n4.symm), fun k hk => Nat.lt_of_lt_of_le (h.ext k hk) hu.size⟩
  · simp only [List.mem_singleton]
    rintro rfl
    exact h.sS.own (h.dsk.ownAt.2 hk)
  · rw [hv]
    exact h.vts.upd hu hD (by simpa using n4.symm) (by simpa using n2.symm) (by simp)
set_option maxRecDepth 100000 in
set_option maxHeartbeats 1000000 in
theorem promised_any (w : World) (h : StoAt E w S L D g base so sn sc bv d s) (x : SetM) (xo : Option Addr) (xn xc : Nat) :
    Calls Tryz.prog 68 #[.pointer (some ⟨S, 0, none⟩), setV x (.slice xo xn xc)] w fun e w' => e = .returned (.tuple #[]) ∧ StoAt E w' S L D g base so sn sc bv d { s with prom := x.b } ∧ Upd [S] w w' := by
  obtain ⟨k, slot, ⟨n, r⟩, bytes⟩ := x
  have hX := blk_new w (setC k slot n r (.slice xo xn xc))
  have hP := blk_alloc h.blk (setC k slot n r (.slice xo xn xc))
  have hu := (Upd.refl [] w).alloc (setC k slot n r (.slice xo xn xc))
  have H := hide h
  clear h
  go_enter Tryz.func68, Tryz.ntmps68
  go_upto_region 1 with fail
  generalize w.alloc (setC k slot n r (.slice xo xn xc)) = w2 at *
  have x0 : w2.cell? ⟨w.heap.size, 0, none⟩ = some (.int .u64 (k : Int)) := blk_cell hX rfl
  have x2 : w2.cell? ⟨w.heap.size, 2, none⟩ = some (.int .u64 (n : Int)) := blk_cell hX rfl
  have x3 : w2.cell? ⟨w.heap.size, 3, none⟩ = some (.int .i64 r) := blk_cell hX rfl
  have y1 : w2.cell? ⟨S, 1, none⟩ = some (.int .u64 (s.prom.n : Int)) := blk_cell hP rfl
  have y2 : w2.cell? ⟨S, 2, none⟩ = some (.int .i64 s.prom.r) := blk_cell hP rfl
  have f1 := blk_free (i := 1) hP
  have f2 := blk_free (i := 2) hP
  go_wp2_with fail
  go_end0
  refine ⟨rfl, H.out.setS (((hu.mono (by simp)).setCell (.inl (by simp)) _).setCell (.inl (by simp)) _) (blk_set (blk_set hP _) _) (fun hl => hl) rfl, ((hu.mono (by simp)).setCell (.inl (by simp)) _).setCell (.inl (by simp)) _⟩
end
end Go.Proofs.YtekbhfpdakhhkaaGreatDoor.St
