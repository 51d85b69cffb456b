/- The law's fresh, Great. -/
import Derived.Test.YtekbhfpdakhhkaaDoorStPl
import Derived.Test.YtekbhfpdakhhkaaDoorStSe
import Derived.Test.YtekbhfpdakhhkaaDoorStVs
namespace Go.Proofs.YtekbhfpdakhhkaaDoor.St
set_option linter.unusedSimpArgs false
set_option linter.unusedVariables false
set_option linter.unnecessarySimpa false
open Go.RowKit Go.Lib Go.Proofs.YtekbhfpdakhhkaaDoor.Crc Go.Proofs.YtekbhfpdakhhkaaDoor.Var Go.Proofs.YtekbhfpdakhhkaaDoor.DiskW Go.Proofs.YtekbhfpdakhhkaaDoor.Rec Go.Proofs.YtekbhfpdakhhkaaDoor.Fr

/-- What is turned is younger than an older world. -/
theorem Turned.far {D base : Nat} {X : List Nat} {w0 w w' : World} {bv : Value} {d : DS} (h : Turned D X w w') (hd : DiskAt w D base bv d) (h0 : Upd [] w0 w) (hb : w0.heap.size ≤ base) (hD : w0.heap.size ≤ D) (hX : ∀ k ∈ X, w0.heap.size ≤ k) : Upd [] w0 w' := by
  obtain ⟨Y, h1, h2⟩ := h.upd
  refine h0.trans_new h1 fun k hk => .inr ?_
  rcases h2 k hk with rfl | e | e
  · exact hD
  · have := (owns_lt hd.row k (hd.ownAt.1 e)).1; omega
  · exact hX k e
/-- A set on a log of records, done; and refused. -/
theorem step_ok {E : List Nat} {w w' : World} {S L D g base q : Nat} {recs recs' : List (List UInt8)} {s s' : Sto} {x : SetM} {e : Ending} (h : PutSays E w S L D g base (LogD recs q) s x e w') (hq : q ≤ recs.length) (hx : SetOk x) (hm : mayM s x = 0) (h1 : recs ++ [recB x] = recs') (h2 : doM s x = s') :
    e = .returned (.int .i64 0) ∧ (∃ bv' so' sn' sc', StoAt E w' S L D g base so' sn' sc' bv' (LogD recs' q) s') ∧ Turned D [S, g] w w' := by
  obtain ⟨g1, g2, g3⟩ := h
  rw [putT_ok hq hx hm] at g1 g2
  subst h1 h2
  exact ⟨g1, g2, g3⟩
theorem step_no {E : List Nat} {w w' : World} {S L D g base q m : Nat} {recs : List (List UInt8)} {s : Sto} {x : SetM} {e : Ending} (h : PutSays E w S L D g base (LogD recs q) s x e w') (hm : mayM s x = m) (h0 : m ≠ 0) :
    e = .returned (.int .i64 (m : Int)) ∧ (∃ bv' so' sn' sc', StoAt E w' S L D g base so' sn' sc' bv' (LogD recs q) s) ∧ Turned D [S, g] w w' := by
  obtain ⟨g1, g2, g3⟩ := h
  subst hm
  rw [putT_no h0] at g1 g2
  exact ⟨g1, g2, g3⟩
/-- A store that is made since w. -/
structure FreshS (w w' : World) (S L D g : Nat) (s : Sto) (d : DS) : Prop where
  at_ : ∃ bv so sn sc, StoAt [] w' S L D g w.heap.size so sn sc bv d s
  lt : w.heap.size ≤ D ∧ w.heap.size ≤ S ∧ w.heap.size ≤ L ∧ w.heap.size ≤ g
  upd : Upd [] w w'
set_option maxHeartbeats 1000000 in
theorem fresh_any (w : World) (hst : TabAt w) :
    Calls Tryd.prog 8 #[] w fun e w' => ∃ S L D g, e = .returned (.tuple #[.pointer (some ⟨D, 0, none⟩), .pointer (some ⟨S, 0, none⟩)]) ∧ FreshS w w' S L D g sto0 (LogD [] 0) := by
  have HST := hide hst
  clear hst
  go_enter Tryd.func8, Tryd.ntmps8
  go_wp2_with fail
  refine (DiskW.new_any w).mono ?_
  rintro e w1 ⟨v, rfl, rfl, hd1, hu1⟩
  have hz1 := blk_lt hd1.hD
  have D1 := hide hd1; have U1 := hide hu1
  clear hd1 hu1
  go_wp2_with fail
  refine (sopen_on (s := sto0) w1 D1.out (Nat.le_refl _) (by omega) ⟨by simp, by simp, by simp, by simp⟩ rfl (HST.out.upd U1.out (by simp)) rfl rfl (by simp [recsD, all_nil]) (by simp [recsD, all_nil])).mono ?_
  rintro e w2 ⟨S, L, g, so, sn, sc, bv', rfl, hst2, hS, hL, hg, hn⟩
  have hfin : FreshS w w2 S L w.heap.size g sto0 (LogD [] 0) := by
    refine ⟨⟨bv', so, sn, sc, ?_⟩, ⟨Nat.le_refl _, by omega, by omega, by omega⟩, ?_⟩
    · exact hst2
    · exact (Turned.of_near (X := []) hn).far D1.out U1.out (Nat.le_refl _) (Nat.le_refl _) (by simp)
  have FIN := hide hfin
  clear hst2 hn hfin
  go_wp2_with fail
  refine bodyPost_ret (results_tmp2 rfl _ _ _) rfl ?_
  exact ⟨S, L, w.heap.size, g, rfl, FIN.out⟩
end Go.Proofs.YtekbhfpdakhhkaaDoor.St
