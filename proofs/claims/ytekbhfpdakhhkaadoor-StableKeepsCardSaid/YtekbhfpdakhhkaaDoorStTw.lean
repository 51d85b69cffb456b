/- Two stores on two logs, of the same sets or of others; a row of sets beside a store. -/
import Derived.Test.YtekbhfpdakhhkaaDoorStAl
namespace Go.Proofs.YtekbhfpdakhhkaaDoor.St
set_option linter.unusedSimpArgs false
set_option linter.unusedVariables false
set_option linter.unnecessarySimpa false
open Go.RowKit Go.Lib Go.Proofs.YtekbhfpdakhhkaaDoor.Crc Go.Proofs.YtekbhfpdakhhkaaDoor.Var Go.Proofs.YtekbhfpdakhhkaaDoor.DiskW Go.Proofs.YtekbhfpdakhhkaaDoor.Rec Go.Proofs.YtekbhfpdakhhkaaDoor.Fr

/-- Two stores on two logs. -/
structure Twin (w0 w : World) (S L D g base : Nat) (recs : List (List UInt8)) (q : Nat) (s : Sto) (i : Nat) (S' L' D' g' base' : Nat) (recs' : List (List UInt8)) (q' : Nat) (s' : Sto) (i' : Nat) : Prop where
  one : ∃ E, LogS E w0 w S L D g base recs q s i ∧ ∀ k, Mine w S' L' D' g' k → Foreign E w S L D g k
  two : ∃ E, LogS E w0 w S' L' D' g' base' recs' q' s' i' ∧ ∀ k, Mine w S L D g k → Foreign E w S' L' D' g' k
section
variable {w0 w : World} {S L D g base q i : Nat} {recs : List (List UInt8)} {s : Sto} {S' L' D' g' base' q' i' : Nat} {recs' : List (List UInt8)} {s' : Sto}
theorem Twin.swap (h : Twin w0 w S L D g base recs q s i S' L' D' g' base' recs' q' s' i') : Twin w0 w S' L' D' g' base' recs' q' s' i' S L D g base recs q s i := ⟨h.two, h.one⟩
theorem LogS.next {E E' : List Nat} {w1 : World} (h : LogS E w0 w S L D g base recs q s i) (hu : Upd [] w0 w1) (hz : w.heap.size ≤ w1.heap.size) (ha : ∃ bv so sn sc, StoAt E' w1 S L D g base so sn sc bv (LogD recs q) s) : LogS E' w0 w1 S L D g base recs q s i :=
  ⟨ha, h.lt, Nat.le_trans h.hb hz, hu, h.tab, h.hq, h.hl, h.hn, h.sto⟩
theorem Foreign.nil {E : List Nat} {w w' : World} {k : Nat} (h : Foreign E w S L D g k) (hu : Upd [] w w') (hD : D < w.heap.size) : Foreign E w' S L D g k := h.aside hu hD (by simp)
theorem Mine.nil {w' : World} {k : Nat} (h : Mine w' S L D g k) (hu : Upd [] w w') (hD : D < w.heap.size) : Mine w S L D g k := by
  rcases h with e | e | e
  · exact .inl e
  · exact .inr (.inl ((ownAt_upd hu hD (by simp)).1 e))
  · exact .inr (.inr e)
theorem LogS.ltD {E : List Nat} (h : LogS E w0 w S L D g base recs q s i) : D < w.heap.size ∧ S < w.heap.size ∧ L < w.heap.size ∧ g < w.heap.size := by
  obtain ⟨bv, so, sn, sc, ha⟩ := h.at_
  exact ⟨blk_lt ha.dsk.hD, ha.sS.lt, ha.sL.lt, ha.vts.safe.lt⟩
theorem Twin.upd_nil (h : Twin w0 w S L D g base recs q s i S' L' D' g' base' recs' q' s' i') {w1 : World} (hu : Upd [] w w1) : Twin w0 w1 S L D g base recs q s i S' L' D' g' base' recs' q' s' i' := by
  obtain ⟨⟨E, h1, h2⟩, ⟨E', h3, h4⟩⟩ := h
  exact ⟨⟨E, h1.upd_nil hu, fun k hk => (h2 k (hk.nil hu h3.ltD.1)).nil hu h1.ltD.1⟩, ⟨E', h3.upd_nil hu, fun k hk => (h4 k (hk.nil hu h1.ltD.1)).nil hu h3.ltD.1⟩⟩
/-- The first one has done a set. -/
theorem Twin.step {E E' : List Nat} {w1 : World} {r1 : List (List UInt8)} {q1 : Nat} {s1 : Sto} {i1 : Nat} (h1 : LogS E w0 w S L D g base recs q s i) (h2 : ∀ k, Mine w S' L' D' g' k → Foreign E w S L D g k)
    (h3 : LogS E' w0 w S' L' D' g' base' recs' q' s' i') (h4 : ∀ k, Mine w S L D g k → Foreign E' w S' L' D' g' k) (hn : LogS E w0 w1 S L D g base r1 q1 s1 i1) (ht : Turned D [S, g] w w1) :
    Twin w0 w1 S L D g base r1 q1 s1 i1 S' L' D' g' base' recs' q' s' i' := by
  obtain ⟨bv, so, sn, sc, ha⟩ := hn.at_
  obtain ⟨bv', so', sn', sc', hb⟩ := h3.at_
  obtain ⟨⟨E1, so1, sn1, sc1, g1, g2⟩, ⟨E2, so2, sn2, sc2, g3, g4⟩⟩ := TwoS.step (so := so) (sn := sn) (sc := sc) (base := base) (bv := bv) (d := LogD r1 q1) (s := s1) h2 hb h4 ha ht
  exact ⟨⟨E1, hn.next hn.upd (Nat.le_refl _) ⟨bv, so1, sn1, sc1, g1⟩, g2⟩, ⟨E2, h3.next hn.upd ht.size ⟨bv', so2, sn2, sc2, g3⟩, g4⟩⟩
end
/-- A row that lies beside a store is written, or grown. -/
theorem LogS.beside {E : List Nat} {w0 w w1 : World} {S L D g base q i : Nat} {recs : List (List UInt8)} {s : Sto} {v v' : Value} (h : LogS E w0 w S L D g base recs q s i) (hF : ∀ b, v.ownBlock = some b → Foreign E w S L D g b) (h0 : ∀ b, v.ownBlock = some b → w0.heap.size ≤ b)
    (hu : Upd v.ownBlock.toList w w1) (hn : ∀ b, v'.ownBlock = some b → v.ownBlock = some b ∨ w.heap.size ≤ b) (hlt : ∀ b, v'.ownBlock = some b → b < w1.heap.size) :
    ∃ E', LogS E' w0 w1 S L D g base recs q s i ∧ ∀ b, v'.ownBlock = some b → Foreign E' w1 S L D g b := by
  obtain ⟨bv, so, sn, sc, ha⟩ := h.at_
  have hY : ∀ k ∈ v.ownBlock.toList, Foreign E w S L D g k := fun k hk => hF k (by simpa using hk)
  have hD := blk_lt ha.dsk.hD
  have hDY : D ∉ v.ownBlock.toList := fun hm => (hY D hm).2.1.ne rfl
  have hup : Upd [] w0 w1 := h.upd.trans_new hu fun k hk => .inr (h0 k (by simpa using hk))
  have hltS := h.ltD
  obtain ⟨F, hF1, hF2⟩ : ∃ F : List Nat, (∀ k ∈ F, w.heap.size ≤ k ∧ k < w1.heap.size) ∧ ∀ b, v'.ownBlock = some b → b ∈ F ∨ v.ownBlock = some b := by
    cases hb : v'.ownBlock with
    | none => exact ⟨[], by simp, fun b h => by cases h⟩
    | some k =>
      rcases hn k hb with e | e
      · exact ⟨[], by simp, fun b h => by cases h; exact .inr e⟩
      · exact ⟨[k], by simpa using ⟨e, hlt k hb⟩, fun b h => by cases h; exact .inl (by simp)⟩
  have hm := ha.aside_more hu hY hF1
  refine ⟨F ++ E, h.next hup hu.size ⟨bv, so, sn, sc, hm⟩, fun b hb => ?_⟩
  rcases hF2 b hb with e | e
  · obtain ⟨f1, f2⟩ := hF1 b e
    exact ⟨by simp [e], SafeB.fresh ha.dsk hu hDY f1 f2, by omega, by omega, by omega⟩
  · have hf := hF b e
    exact ⟨by simp [hf.1], hf.2.1.upd hu hD hDY, hf.2.2⟩
theorem Foreign.turned {E : List Nat} {w w1 : World} {S L D g k : Nat} {X : List Nat} (h : Foreign E w S L D g k) (ht : Turned D X w w1) (hX : ∀ j ∈ X, j = S ∨ j = L ∨ j = g) : Foreign E w1 S L D g k :=
  ⟨h.1, (ht.block h.2.1 (fun hm => by
    rcases hX k hm with e | e | e
    · exact h.2.2.1 e
    · exact h.2.2.2.1 e
    · exact h.2.2.2.2 e)).1, h.2.2⟩
/-- The sets of a list that were done so far. -/
structure Sets1 (w : World) (l : List A16) (S L D g i : Nat) (al : List A16) (q : Nat) (v : Value) (wr : World) : Prop where
  ok : okS (al.map A16.set) sto0
  len : al.length ≤ i
  hq : q ≤ al.length
  mem : ∀ a ∈ al, a ∈ l
  row : Own wr w.heap.size 38 6 (actP w (fun k => k < w.heap.size)) v al
  log : ∃ E, LogS E w wr S L D g w.heap.size ((al.map A16.set).map recB) q (runS (al.map A16.set) sto0) i ∧ ∀ b, v.ownBlock = some b → Foreign E wr S L D g b
section
variable {w wr : World} {l al : List A16} {S L D g i q : Nat} {v : Value}
theorem Own.turned {w0 w w1 : World} {X : Type} {P : X → List Value → Prop} {base z D : Nat} {ty : TypeId} {Y : List Nat} {v : Value} {l : List X} (h : Own w base ty z P v l) (ht : Turned D Y w w1) (hs : ∀ b, v.ownBlock = some b → SafeB w D b ∧ b ∉ Y) : Own w1 base ty z P v l := by
  obtain ⟨Z, hu, hZ⟩ := ht.upd
  refine Own.upd h hu (fun k hk hm => ?_) (fun _ _ _ h => h)
  obtain ⟨g1, g2⟩ := hs k hk
  rcases hZ k hm with e | e | e
  · exact g1.ne e
  · exact g1.own e
  · exact g2 e
theorem Sets1.set {w1 : World} (h : Sets1 w l S L D g i al q v wr) {E : List Nat} (hF : ∀ b, v.ownBlock = some b → Foreign E wr S L D g b) {a : A16} (ha : a ∈ l) (hok : ActOk a) (hl : a.bytes.length ≤ 1000) {e : Ending}
    (hs : LSet E w wr S L D g w.heap.size ((al.map A16.set).map recB) q (runS (al.map A16.set) sto0) i a.set e w1) :
    e = .returned (.bool (decide (mayM (runS (al.map A16.set) sto0) a.set = 0))) ∧ Own w1 w.heap.size 38 6 (actP w (fun k => k < w.heap.size)) v al ∧ (∀ b, v.ownBlock = some b → Foreign E w1 S L D g b) ∧
    (mayM (runS (al.map A16.set) sto0) a.set ≠ 0 → Sets1 w l S L D g (i + 1) al q v w1) ∧
    (mayM (runS (al.map A16.set) sto0) a.set = 0 → okS ((al ++ [a]).map A16.set) sto0 ∧ LogS E w w1 S L D g w.heap.size (((al ++ [a]).map A16.set).map recB) q (runS ((al ++ [a]).map A16.set) sto0) (i + 1)) := by
  obtain ⟨h1, h2, h3⟩ := hs
  have hrow := Own.turned (w0 := w) h.row h3 fun b hb => ⟨(hF b hb).2.1, by have := (hF b hb).2.2; simp [this.1, this.2.2]⟩
  have hF1 : ∀ b, v.ownBlock = some b → Foreign E w1 S L D g b := fun b hb => (hF b hb).turned h3 (by simp)
  refine ⟨h1, hrow, hF1, fun hm => ?_, fun hm => ?_⟩
  · unfold logR putM at h2
    rw [if_neg hm, if_neg hm] at h2
    exact ⟨h.ok, by have := h.len; omega, h.hq, h.mem, hrow, E, h2, hF1⟩
  · unfold logR putM at h2
    rw [if_pos hm, if_pos hm] at h2
    rw [List.map_append, List.map_append, List.map_cons, List.map_nil, List.map_cons, List.map_nil, runS_snoc]
    exact ⟨okS_snoc h.ok (A16.plain hok hl hm) hm, h2⟩
end
end Go.Proofs.YtekbhfpdakhhkaaDoor.St
