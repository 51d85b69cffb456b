/- A set on a log of records. -/
import Derived.Test.YtekbhfpdakhhkaaGreatDoorStPl
import Derived.Test.YtekbhfpdakhhkaaGreatDoorStSe
import Derived.Test.YtekbhfpdakhhkaaGreatDoorStVs
namespace Go.Proofs.YtekbhfpdakhhkaaGreatDoor.St
set_option linter.unusedSimpArgs false
set_option linter.unusedVariables false
set_option linter.unnecessarySimpa false
open Go.RowKit Go.Lib Go.Proofs.YtekbhfpdakhhkaaGreatDoor.Crc Go.Proofs.YtekbhfpdakhhkaaGreatDoor.Var Go.Proofs.YtekbhfpdakhhkaaGreatDoor.DiskW Go.Proofs.YtekbhfpdakhhkaaGreatDoor.Rec Go.Proofs.YtekbhfpdakhhkaaGreatDoor.Fr

/-- What is turned is younger than an older world. -/
theorem Turned.far {D base : Nat} {X : List Nat} {w0 w w' : World} {bv : Value} {d : DS} (h : Turned D X w w') (hd : DiskAt w D base bv d) (h0 : Upd [] w0 w) (hb : w0.heap.size ≤ base) (hD : w0.heap.size ≤ D) (hX : ∀ k ∈ X, w0.heap.size ≤ k) : Upd [] w0 w' := by
  obtain ⟨Y, h1, h2⟩ := h.upd
  refine h0.trans_new h1 fun k hk => .inr ?_
  rcases h2 k hk with rfl | e | e
  · exact hD
  · have := (owns_lt hd.row k (hd.ownAt.1 e)).1; omega
  · exact hX k e
/-- A set on a log of records, done; and refused. -/
theorem step_ok {E : List Nat} {w w' : World} {S L D g base q : Nat} {recs recs' : List (List UInt8)} {s s' : Sto} {x : SetM} {e : Ending} (h : PutSays E w S L D g base (LogD recs q) s x e w') (hq : q ≤ recs.length) (hx : SetOk x) (hm : mayM s x = 0) (h1 : recs ++ [recB x] = recs') (h2 : doM s x = s') :
    e = .returned (.int .i64 0) ∧ (∃ bv' so' sn' sc', StoAt E w' S L D g base so' sn' sc' bv' (LogD recs' q) s') ∧ Turned D [S, g] w w' := by
  obtain ⟨g1, g2, g3⟩ := h
  rw [putT_ok hq hx hm] at g1 g2
  subst h1 h2
  exact ⟨g1, g2, g3⟩
theorem step_no {E : List Nat} {w w' : World} {S L D g base q m : Nat} {recs : List (List UInt8)} {s : Sto} {x : SetM} {e : Ending} (h : PutSays E w S L D g base (LogD recs q) s x e w') (hm : mayM s x = m) (h0 : m ≠ 0) :
    e = .returned (.int .i64 (m : Int)) ∧ (∃ bv' so' sn' sc', StoAt E w' S L D g base so' sn' sc' bv' (LogD recs q) s) ∧ Turned D [S, g] w w' := by
  obtain ⟨g1, g2, g3⟩ := h
  subst hm
  rw [putT_no h0] at g1 g2
  exact ⟨g1, g2, g3⟩
end Go.Proofs.YtekbhfpdakhhkaaGreatDoor.St
