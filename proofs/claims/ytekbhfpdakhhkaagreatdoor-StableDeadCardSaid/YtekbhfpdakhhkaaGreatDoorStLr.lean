/- A store on a log of the sets that were done; the rows that it tells. -/
import Derived.Test.YtekbhfpdakhhkaaGreatDoorStE
import Derived.Test.YtekbhfpdakhhkaaGreatDoorStFs
import Derived.Test.YtekbhfpdakhhkaaGreatDoorStArg
namespace Go.Proofs.YtekbhfpdakhhkaaGreatDoor.St
set_option linter.unusedSimpArgs false
set_option linter.unusedVariables false
set_option linter.unnecessarySimpa false
open Go.RowKit Go.Lib Go.Proofs.YtekbhfpdakhhkaaGreatDoor.Crc Go.Proofs.YtekbhfpdakhhkaaGreatDoor.Var Go.Proofs.YtekbhfpdakhhkaaGreatDoor.DiskW Go.Proofs.YtekbhfpdakhhkaaGreatDoor.Rec Go.Proofs.YtekbhfpdakhhkaaGreatDoor.Fr

/-- A store on a log of records, made since w0. -/
structure LogS (E : List Nat) (w0 w : World) (S L D g base : Nat) (recs : List (List UInt8)) (q : Nat) (s : Sto) (i : Nat) : Prop where
  at_ : ∃ bv so sn sc, StoAt E w S L D g base so sn sc bv (LogD recs q) s
  lt : w0.heap.size ≤ D ∧ w0.heap.size ≤ S ∧ w0.heap.size ≤ L ∧ w0.heap.size ≤ g ∧ w0.heap.size ≤ base ∧ base ≤ D
  hb : base ≤ w.heap.size
  upd : Upd [] w0 w
  tab : TabAt w0
  hq : q ≤ recs.length
  hl : ∀ r ∈ recs, r.length ≤ 2000
  hn : recs.length ≤ i
  sto : StoOk s i
section
variable {E : List Nat} {w0 w : World} {S L D g base q i : Nat} {recs : List (List UInt8)} {s : Sto}
theorem LogS.upd_nil (h : LogS E w0 w S L D g base recs q s i) {w' : World} (hu : Upd [] w w') : LogS E w0 w' S L D g base recs q s i := by
  obtain ⟨bv, so, sn, sc, ha⟩ := h.at_
  exact ⟨⟨bv, so, sn, sc, ha.upd_nil hu⟩, h.lt, Nat.le_trans h.hb hu.size, h.upd.trans hu, h.tab, h.hq, h.hl, h.hn, h.sto⟩
theorem LogS.ready (h : LogS E w0 w S L D g base recs q s i) (hi : i < 1000) : Ready w D base (LogD recs q) s i :=
  ⟨h.tab.upd h.upd (by simp), h.lt.2.2.2.2.2, h.hb, logD_ok h.hq (by have := frs_len h.hl (by decide); have := h.hn; omega), h.sto, hi⟩
/-- The log behind a set. -/
def logR (recs : List (List UInt8)) (s : Sto) (x : SetM) : List (List UInt8) := if mayM s x = 0 then recs ++ [recB x] else recs
theorem logR_len (recs : List (List UInt8)) (s : Sto) (x : SetM) : (logR recs s x).length ≤ recs.length + 1 ∧ recs.length ≤ (logR recs s x).length := by
  unfold logR
  split <;> simp
theorem putT_log {x : SetM} (hq : q ≤ recs.length) (hx : SetOk x) : putT (LogD recs q) s x = ((LogD (logR recs s x) q, putM s x), (mayM s x : Int)) := by
  unfold logR putM
  by_cases hm : mayM s x = 0
  · rw [putT_ok hq hx hm, if_pos hm, if_pos hm, hm]; rfl
  · rw [putT_no hm, if_neg hm, if_neg hm]
end
/-- A row of votes that is told: its cells. -/
structure VTold (w : World) (B : Nat) (v : Value) (xs : List VR) (vs : List (Nat × Vo)) : Prop where
  row : VRow w B v xs
  same : xs.map (St.phi vs) = vs
  bat : ∀ x ∈ xs, VBat B w vs x ∧ ∀ b, (vsl x).ownBlock = some b → v.ownBlock ≠ some b
theorem VotesSays.told {w w' : World} {vs : List (Nat × Vo)} {e : Ending} (h : VotesSays w 0 vs e w') : ∃ v xs, e = .returned v ∧ VTold w' w.heap.size v xs vs ∧ Upd [] w w' := by
  obtain ⟨v, xs, rfl, h1, h2, h3, h4⟩ := h
  refine ⟨v, xs, rfl, ⟨h1, ?_, h3⟩, h4⟩
  rw [h2, List.filter_eq_self]
  simp
theorem VTold.len {w : World} {B : Nat} {v : Value} {xs : List VR} {vs : List (Nat × Vo)} (h : VTold w B v xs vs) : xs.length = vs.length := by
  have := congrArg List.length h.same
  simpa using this
theorem VTold.slice {w : World} {B : Nat} {v : Value} {xs : List VR} {vs : List (Nat × Vo)} (h : VTold w B v xs vs) : ∃ xo c, v = .slice xo xs.length c ∧ xs.length ≤ c ∧ c ≤ maxLen ∧
    ∀ (k : Nat) (x : VR), xs[k]? = some x → ∃ b, xo = some ⟨b, 0, none⟩ ∧ B ≤ b ∧ b < w.heap.size ∧ w.cell? ⟨b, k * 4, none⟩ = some (.int .u64 (x.slot : Int)) ∧ w.cell? ⟨b, k * 4 + 1, none⟩ = some (.int .u64 (x.n : Int)) ∧ w.cell? ⟨b, k * 4 + 2, none⟩ = some (.int .i64 x.r) ∧ w.cell? ⟨b, k * 4 + 3, none⟩ = some (vsl x) := by
  obtain ⟨xo, c, rfl, h1, h2, h3⟩ := owns_slice h.row
  refine ⟨xo, c, rfl, h1, h2, fun k x hx => ?_⟩
  obtain ⟨b, e0, g1, g2, c0⟩ := h3 (k * 4 + 0) _ ((vrc_get hx (by omega)).trans rfl)
  obtain ⟨b1, e1, -, -, c1⟩ := h3 (k * 4 + 1) _ ((vrc_get hx (by omega)).trans rfl)
  obtain ⟨b2, e2, -, -, c2⟩ := h3 (k * 4 + 2) _ ((vrc_get hx (by omega)).trans rfl)
  obtain ⟨b3, e3, -, -, c3⟩ := h3 (k * 4 + 3) _ ((vrc_get hx (by omega)).trans rfl)
  subst e0
  cases e1
  cases e2
  cases e3
  exact ⟨_, rfl, g1, g2, c0, c1, c2, c3⟩
/-- What the k-th one is. -/
theorem VTold.at {w : World} {B : Nat} {v : Value} {xs : List VR} {vs : List (Nat × Vo)} (h : VTold w B v xs vs) {k : Nat} {x : VR} (hx : xs[k]? = some x) :
    ∃ u, vs[k]? = some (x.slot, u) ∧ mfind vs x.slot = some u ∧ x.n = u.b.n ∧ x.r = u.b.r ∧ x.len = u.batch.length ∧ w.ownsRow B 5 1 (vsl x) x.len (u.batch.map u8v) := by
  obtain ⟨⟨u, h1, h2, h3, h4, h5⟩, -⟩ := h.bat x (List.mem_of_getElem? hx)
  refine ⟨u, ?_, h1, h2, h3, h4, h5⟩
  have h6 : (xs.map (St.phi vs))[k]? = some (St.phi vs x) := by rw [List.getElem?_map, hx]; rfl
  rw [h.same] at h6
  rw [h6]
  unfold St.phi
  rw [h1]
  rfl
theorem VTold.upd {w w' : World} {B : Nat} {v : Value} {xs : List VR} {vs : List (Nat × Vo)} {Y : List Nat} (h : VTold w B v xs vs) (hu : Upd Y w w') (hY : ∀ k ∈ Y, k < B) : VTold w' B v xs vs := by
  refine ⟨owns_upd h.row hu (fun k hk hm => ?_), h.same, fun x hx => ⟨(h.bat x hx).1.upd hu fun b hb hm => ?_, (h.bat x hx).2⟩⟩
  · have := (owns_lt h.row k hk).1
    have := hY k hm
    omega
  · obtain ⟨u, -, -, -, -, h5⟩ := (h.bat x hx).1
    have := (owns_lt h5 b hb).1
    have := hY b hm
    omega
theorem rise_get {vs : List (Nat × Vo)} (h : Rise slotK vs) {i j : Nat} {p q : Nat × Vo} (hi : vs[i]? = some p) (hj : vs[j]? = some q) (hij : i < j) : p.1 < q.1 := by
  obtain ⟨h1, rfl⟩ := List.getElem?_eq_some_iff.1 hi
  obtain ⟨h2, rfl⟩ := List.getElem?_eq_some_iff.1 hj
  have := List.pairwise_iff_getElem.1 h i j h1 h2 hij
  rwa [slot_lt, decide_eq_true_eq] at this
end Go.Proofs.YtekbhfpdakhhkaaGreatDoor.St
