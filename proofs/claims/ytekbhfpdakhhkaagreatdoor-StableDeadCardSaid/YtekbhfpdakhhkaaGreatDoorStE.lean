/- Several stores beside one another: what one keeps while another one is turned. -/
import Derived.Test.YtekbhfpdakhhkaaGreatDoorStP
namespace Go.Proofs.YtekbhfpdakhhkaaGreatDoor.St
set_option linter.unusedSimpArgs false
set_option linter.unusedVariables false
set_option linter.unnecessarySimpa false
open Go.RowKit Go.Lib Go.Proofs.YtekbhfpdakhhkaaGreatDoor.DiskW Go.Proofs.YtekbhfpdakhhkaaGreatDoor.Rec

section
variable {E : List Nat} {S L D g base : Nat} {so : Option Addr} {sn sc : Nat} {bv : Value} {d : DS} {s : Sto}
theorem Lies.wide {w : World} {D n c : Nat} {X Y : List Nat} {xo : Option Addr} {bs : List UInt8} (h : Lies w D X xo n c bs) (hY : ∀ k ∈ Y, k ∈ X ∨ w.heap.size ≤ k) : Lies w D Y xo n c bs :=
  ⟨h.src, h.le, h.mx, fun a e h0 => ⟨(h.safe a e h0).1, fun hm => by
    rcases hY _ hm with h1 | h1
    · exact (h.safe a e h0).2 h1
    · have := (h.safe a e h0).1.lt; omega⟩⟩
/-- What is made since then is foreign too. -/
theorem StoAt.more {w w' : World} (h : StoAt E w S L D g base so sn sc bv d s) (hu : Upd [] w w') {F : List Nat} (hF : ∀ k ∈ F, w.heap.size ≤ k ∧ k < w'.heap.size) : StoAt (F ++ E) w' S L D g base so sn sc bv d s := by
  have hD := blk_lt h.dsk.hD
  have hX : ∀ k ∈ S :: L :: g :: (F ++ E), k ∈ S :: L :: g :: E ∨ w.heap.size ≤ k := by
    intro k hk
    simp only [List.mem_cons, List.mem_append] at hk ⊢
    rcases hk with h1 | h1 | h1 | h1 | h1
    · exact .inl (.inl h1)
    · exact .inl (.inr (.inl h1))
    · exact .inl (.inr (.inr (.inl h1)))
    · exact .inr (hF k h1).1
    · exact .inl (.inr (.inr (.inr h1)))
  have hu0 := h.upd_nil hu
  obtain ⟨l, h1, h2, h3, h4⟩ := h.vts.raw
  refine ⟨hu0.blk, hu0.log, hu0.dsk, ⟨⟨l, MapKind.is_upd h1 hu (by simp), h2, h3, fun k v hv => ?_⟩, hu0.vts.safe⟩, (h.snp.wide hX).upd hu hD (by simp) (by simp), hu0.sS, hu0.sL, fun k hk => ?_⟩
  · obtain ⟨x, g1, g2, g3, g4, g5⟩ := h4 k v hv
    exact ⟨x, g1, g2, g3, g4, (g5.wide hX).upd hu hD (by simp) (by simp)⟩
  · rcases List.mem_append.1 hk with h5 | h5
    · exact (hF k h5).2
    · exact hu0.ext k h5
/-- A block that is foreign to a store. -/
def Foreign (E : List Nat) (w : World) (S L D g k : Nat) : Prop := k ∈ E ∧ SafeB w D k ∧ k ≠ S ∧ k ≠ L ∧ k ≠ g
theorem StoAt.aside {w w' : World} {Y : List Nat} (h : StoAt E w S L D g base so sn sc bv d s) (hu : Upd Y w w') (hY : ∀ k ∈ Y, Foreign E w S L D g k) : StoAt E w' S L D g base so sn sc bv d s := by
  have hD := blk_lt h.dsk.hD
  have hDY : D ∉ Y := fun hm => (hY D hm).2.1.ne rfl
  have hX : ∀ k ∈ Y, k ∈ S :: L :: g :: E := fun k hk => by simp [(hY k hk).1]
  have hown : ∀ k, bv.ownBlock = some k → k ∉ Y := fun k hk hm => (hY k hm).2.1.own (h.dsk.ownAt.2 hk)
  have hSY : S ∉ Y := fun hm => (hY S hm).2.2.1 rfl
  have hLY : L ∉ Y := fun hm => (hY L hm).2.2.2.1 rfl
  have hgY : g ∉ Y := fun hm => (hY g hm).2.2.2.2 rfl
  exact ⟨hu.get h.blk hSY, hu.get h.log hLY, h.dsk.upd hu hDY hown, h.vts.upd hu hD hDY hgY hX, h.snp.upd hu hD hDY hX, h.sS.upd hu hD hDY, h.sL.upd hu hD hDY, fun k hk => Nat.lt_of_lt_of_le (h.ext k hk) hu.size⟩
theorem Foreign.aside {w w' : World} {Y : List Nat} {k : Nat} (h : Foreign E w S L D g k) (hu : Upd Y w w') (hD : D < w.heap.size) (hDY : D ∉ Y) : Foreign E w' S L D g k := ⟨h.1, h.2.1.upd hu hD hDY, h.2.2⟩
theorem StoAt.aside_more {w w' : World} {Y F : List Nat} (h : StoAt E w S L D g base so sn sc bv d s) (hu : Upd Y w w') (hY : ∀ k ∈ Y, Foreign E w S L D g k) (hF : ∀ k ∈ F, w.heap.size ≤ k ∧ k < w'.heap.size) : StoAt (F ++ E) w' S L D g base so sn sc bv d s := by
  have h' := h.aside hu hY
  have hD := blk_lt h.dsk.hD
  have hDY : D ∉ Y := fun hm => (hY D hm).2.1.ne rfl
  have hgY : g ∉ Y := fun hm => (hY g hm).2.2.2.2 rfl
  have hX : ∀ k ∈ S :: L :: g :: (F ++ E), k ∈ S :: L :: g :: E ∨ w.heap.size ≤ k := by
    intro k hk
    simp only [List.mem_cons, List.mem_append] at hk ⊢
    rcases hk with h1 | h1 | h1 | h1 | h1
    · exact .inl (.inl h1)
    · exact .inl (.inr (.inl h1))
    · exact .inl (.inr (.inr (.inl h1)))
    · exact .inr (hF k h1).1
    · exact .inl (.inr (.inr (.inr h1)))
  have hXY : ∀ k ∈ Y, k ∈ S :: L :: g :: (F ++ E) := fun k hk => by simp [(hY k hk).1]
  obtain ⟨l, q1, q2, q3, q4⟩ := h.vts.raw
  refine ⟨h'.blk, h'.log, h'.dsk, ⟨⟨l, MapKind.is_upd q1 hu hgY, q2, q3, fun k v hv => ?_⟩, h'.vts.safe⟩, (h.snp.wide hX).upd hu hD hDY hXY, h'.sS, h'.sL, fun k hk => ?_⟩
  · obtain ⟨x, g1, g2, g3, g4, g5⟩ := q4 k v hv
    exact ⟨x, g1, g2, g3, g4, (g5.wide hX).upd hu hD hDY hXY⟩
  · rcases List.mem_append.1 hk with h5 | h5
    · exact (hF k h5).2
    · exact h'.ext k h5
/-- A store that has nothing lies apart from whatever there is. -/
theorem StoAt.apart {w : World} (h : StoAt [] w S L D g base so sn sc bv d s) (hv : s.votes = []) (hs : s.snap = []) (hE : ∀ k ∈ E, k < w.heap.size) : StoAt E w S L D g base so sn sc bv d s := by
  obtain ⟨l, q1, q2, q3, q4⟩ := h.vts.raw
  refine ⟨h.blk, h.log, h.dsk, ⟨⟨l, q1, q2, q3, fun k v hk => ?_⟩, h.vts.safe⟩, ⟨h.snp.src, h.snp.le, h.snp.mx, fun a e h0 => ?_⟩, h.sS, h.sL, hE⟩
  · rw [hv] at hk; cases hk
  · have := h.snp.len
    rw [hs] at this
    simp at this
    exact absurd this.symm h0
/-- A store's own blocks that its steps turn. -/
def Mine (w : World) (S L D g k : Nat) : Prop := k = D ∨ OwnAt w D k ∨ k = S ∨ k = L ∨ k = g
end
/-- Two stores on two disks. -/
structure TwoS (w : World) (S L D g base : Nat) (bv : Value) (d : DS) (s : Sto) (S' L' D' g' base' : Nat) (bv' : Value) (d' : DS) (s' : Sto) : Prop where
  one : ∃ E so sn sc, StoAt E w S L D g base so sn sc bv d s ∧ ∀ k, Mine w S' L' D' g' k → Foreign E w S L D g k
  two : ∃ E so sn sc, StoAt E w S' L' D' g' base' so sn sc bv' d' s' ∧ ∀ k, Mine w S L D g k → Foreign E w S' L' D' g' k
theorem TwoS.swap {w : World} {S L D g base : Nat} {bv : Value} {d : DS} {s : Sto} {S' L' D' g' base' : Nat} {bv' : Value} {d' : DS} {s' : Sto} (h : TwoS w S L D g base bv d s S' L' D' g' base' bv' d' s') : TwoS w S' L' D' g' base' bv' d' s' S L D g base bv d s := ⟨h.two, h.one⟩
/-- The first one has been turned. -/
theorem TwoS.step {w w1 : World} {S L D g base : Nat} {bv : Value} {d : DS} {s : Sto} {S' L' D' g' base' : Nat} {bv' : Value} {d' : DS} {s' : Sto} {E E' : List Nat} {so so' so1 : Option Addr} {sn sc sn' sc' sn1 sc1 : Nat} {bv1 : Value} {d1 : DS} {s1 : Sto}
    (ho : ∀ k, Mine w S' L' D' g' k → Foreign E w S L D g k)
    (h2 : StoAt E' w S' L' D' g' base' so' sn' sc' bv' d' s') (ht2 : ∀ k, Mine w S L D g k → Foreign E' w S' L' D' g' k)
    (h1 : StoAt E w1 S L D g base so1 sn1 sc1 bv1 d1 s1) (ht : Turned D [S, g] w w1) :
    TwoS w1 S L D g base bv1 d1 s1 S' L' D' g' base' bv' d' s' := by
  obtain ⟨Y, hu, hY⟩ := ht.upd
  have hD' := blk_lt h2.dsk.hD
  have hYf : ∀ k ∈ Y, Foreign E' w S' L' D' g' k := fun k hk => ht2 k (by
    rcases hY k hk with e | e | e
    · exact .inl e
    · exact .inr (.inl e)
    · simp only [List.mem_cons, List.not_mem_nil, or_false] at e
      rcases e with e | e
      · exact .inr (.inr (.inl e))
      · exact .inr (.inr (.inr (.inr e))))
  have hDY : D' ∉ Y := fun hm => (hYf D' hm).2.1.ne rfl
  have h2' := h2.aside hu hYf
  have mine : ∀ k, Mine w1 S' L' D' g' k → Mine w S' L' D' g' k := fun k hk => by
    rcases hk with e | e | e
    · exact .inl e
    · exact .inr (.inl ((ownAt_upd hu hD' hDY).1 e))
    · exact .inr (.inr e)
  refine ⟨⟨E, so1, sn1, sc1, h1, fun k hk => ?_⟩, ?_⟩
  · have hf := ho k (mine k hk)
    exact ⟨hf.1, (ht.block hf.2.1 (by simp [hf.2.2.1, hf.2.2.2.2])).1, hf.2.2⟩
  · have hob : ∃ F : List Nat, (∀ k ∈ F, w.heap.size ≤ k ∧ k < w1.heap.size) ∧ ∀ k, OwnAt w1 D k → k ∈ F ∨ OwnAt w D k := by
      by_cases hn : ∃ k, OwnAt w1 D k ∧ w.heap.size ≤ k
      · obtain ⟨k, hk1, hk2⟩ := hn
        refine ⟨[k], fun j hj => ?_, fun j hj => ?_⟩
        · simp only [List.mem_singleton] at hj
          subst hj
          exact ⟨hk2, (owns_lt h1.dsk.row _ (h1.dsk.ownAt.1 hk1)).2⟩
        · have e1 := h1.dsk.ownAt.1 hk1
          have e2 := h1.dsk.ownAt.1 hj
          rw [e1] at e2
          cases e2
          exact .inl (by simp)
      · refine ⟨[], by simp, fun j hj => ?_⟩
        rcases ht.own j hj with e | e
        · exact .inr e
        · exact absurd ⟨j, hj, e⟩ hn
    obtain ⟨F, hF1, hF2⟩ := hob
    have hfr : ∀ k, w.heap.size ≤ k → k < w1.heap.size → SafeB w1 D' k := fun k g1 g2 => SafeB.fresh h2.dsk hu hDY g1 g2
    have hlt := h2.sS.lt
    have hlt2 := h2.sL.lt
    have hlt3 := h2.vts.safe.lt
    have hmore := h2.aside_more hu hYf hF1
    refine ⟨F ++ E', so', sn', sc', hmore, fun k hk => ?_⟩
    have old : Mine w S L D g k → Foreign (F ++ E') w1 S' L' D' g' k := fun hm => by
      have hf := ht2 k hm
      exact ⟨by simp [hf.1], hf.2.1.upd hu hD' hDY, hf.2.2⟩
    rcases hk with e | e | e
    · exact old (.inl e)
    · rcases hF2 k e with h3 | h3
      · obtain ⟨f1, f2⟩ := hF1 k h3
        exact ⟨by simp [h3], hfr k f1 f2, by omega, by omega, by omega⟩
      · exact old (.inr (.inl h3))
    · exact old (.inr (.inr e))
end Go.Proofs.YtekbhfpdakhhkaaGreatDoor.St
