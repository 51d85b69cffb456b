/- The map of a store's votes in memory; what a disk does not turn. -/
import Derived.Test.YtekbhfpdakhhkaaGreatDoorStM
import Derived.Test.YtekbhfpdakhhkaaGreatDoorGenAll
import Derived.Test.YtekbhfpdakhhkaaGreatDoorRecAll
namespace Go.Proofs.YtekbhfpdakhhkaaGreatDoor.St
set_option linter.unusedSimpArgs false
set_option linter.unusedVariables false
set_option linter.unnecessarySimpa false
open Go.RowKit Go.ChangeMaps Go.WideShapes Go.Proofs.YtekbhfpdakhhkaaGreatDoor.DiskW

/-- A vote as it lies in the map: where its batch lies. -/
structure VR where
  slot : Nat
  n : Nat
  r : Int
  xo : Option (Nat × Nat)
  len : Nat
  cap : Nat
def adOf : Option (Nat × Nat) → Option Addr := Option.map fun p => ⟨p.1, p.2, none⟩
def vrV (x : VR) : Value := .agg #[.int .u64 (x.slot : Int), .int .u64 (x.n : Int), .int .i64 x.r, .slice (adOf x.xo) x.len x.cap]
def vrD (x : VR) : DataW Unit := .agg [.lit (.int .u64 (x.slot : Int)), .lit (.int .u64 (x.n : Int)), .lit (.int .i64 x.r), (match x.xo with | none => .nil | some p => .agg [.lit (.int .u64 (p.1 : Int)), .lit (.int .u64 (p.2 : Int))]), .lit (.int .u64 (x.len : Int)), .lit (.int .u64 (x.cap : Int))]
theorem adOf_inj {a b : Option (Nat × Nat)} (h : adOf a = adOf b) : a = b := by
  cases a <;> cases b
  · rfl
  · cases h
  · cases h
  · rename_i p q
    obtain ⟨p1, p2⟩ := p
    obtain ⟨q1, q2⟩ := q
    simp only [adOf, Option.map_some, Option.some.injEq, Addr.mk.injEq, and_true] at h
    rw [h.1, h.2]
theorem vrV_inj {x y : VR} (h : vrV x = vrV y) : x = y := by
  obtain ⟨a, b, c, d, e, f⟩ := x
  obtain ⟨a', b', c', d', e', f'⟩ := y
  simp only [vrV, Value.agg.injEq, Array.mk.injEq, List.cons.injEq, Value.int.injEq, Value.slice.injEq, true_and, and_true] at h
  obtain ⟨h1, h2, h3, h4, h5, h6⟩ := h
  rw [adOf_inj h4, show a = a' by omega, show b = b' by omega, h3, h5, h6]
theorem vrD_inj {x y : VR} (h : vrD x = vrD y) : x = y := by
  obtain ⟨a, b, c, d, e, f⟩ := x
  obtain ⟨a', b', c', d', e', f'⟩ := y
  simp only [vrD, DataW.agg.injEq, List.cons.injEq, DataW.lit.injEq, Lit.int.injEq, true_and, and_true] at h
  obtain ⟨h1, h2, h3, h4, h5, h6⟩ := h
  have hd : d = d' := by
    cases d <;> cases d'
    · rfl
    · cases h4
    · cases h4
    · rename_i p q
      obtain ⟨p1, p2⟩ := p
      obtain ⟨q1, q2⟩ := q
      simp only [DataW.agg.injEq, List.cons.injEq, DataW.lit.injEq, Lit.int.injEq, true_and, and_true] at h4
      rw [show p1 = q1 by omega, show p2 = q2 by omega]
  rw [hd, show a = a' by omega, show b = b' by omega, h3, show e = e' by omega, show f = f' by omega]
open Classical in
noncomputable def vrR (v : Value) : Option (DataW Unit × List MemPlace) := if h : ∃ x, v = vrV x then some (vrD h.choose, []) else none
theorem vrR_mk (x : VR) : vrR (vrV x) = some (vrD x, []) := by
  have h : ∃ y, vrV x = vrV y := ⟨x, rfl⟩
  unfold vrR
  rw [dif_pos h, ← vrV_inj h.choose_spec]
theorem vrR_inv {v : Value} {x : VR} {ps : List MemPlace} (h : vrR v = some (vrD x, ps)) : v = vrV x := by
  unfold vrR at h
  split at h
  · rename_i hx
    simp only [Option.some.injEq, Prod.mk.injEq] at h
    rw [← vrD_inj h.1]
    exact hx.choose_spec
  · cases h
def vr0 : VR := ⟨0, 0, 0, none, 0, 0⟩
theorem zeroVote (w : World) : (zeroValue 57).run Tryz.prog w = .ok (vrV vr0) w := Tryz.zeroValue57 w
noncomputable def vtK : MapKind Tryz.prog Nat VR where
  t := 77
  kt := 23
  et := 57
  K := slotK
  kv n := .int .u64 (n : Int)
  ev := vrV
  okk n := n < 18446744073709551616
  oke _ := True
  dat := vrD
  R := vrR
  z := vr0
  ht := Tryz.underlying77
  keyed := Maps.int_keyed Tryz.underlying23
  hkey {k} h := by
    exact Maps.keyOf_int_mk Tryz.underlying23 (WalkArith.wf_u64 (by omega))
  hR {a} _ := vrR_mk a
  inv {v a ps} h := vrR_inv h
  okz := trivial
  hz := zeroVote
/-! ### what a disk does not turn -/
structure SafeB (w : World) (D k : Nat) : Prop where
  lt : k < w.heap.size
  ne : k ≠ D
  own : ¬ OwnAt w D k
theorem SafeB.near {w w' : World} {D k : Nat} (h : SafeB w D k) (hn : Near D w w') : SafeB w' D k ∧ w'.heap[k]? = w.heap[k]? := by
  refine ⟨⟨Nat.lt_of_lt_of_le h.lt hn.size, h.ne, fun ho => ?_⟩, hn.block h.lt h.ne h.own⟩
  rcases hn.own k ho with h1 | h1
  · exact h.own h1
  · have := h.lt; omega
theorem ownAt_upd {w w' : World} {D k : Nat} {S : List Nat} (hu : Upd S w w') (hD : D < w.heap.size) (hS : D ∉ S) : OwnAt w' D k ↔ OwnAt w D k := by
  have e : w'.cell? ⟨D, 0, none⟩ = w.cell? ⟨D, 0, none⟩ := by
    have := hu.block D hD hS
    simp only [World.cell?, this]
  unfold OwnAt
  rw [e]
theorem SafeB.upd {w w' : World} {D k : Nat} {S : List Nat} (h : SafeB w D k) (hu : Upd S w w') (hD : D < w.heap.size) (hS : D ∉ S) : SafeB w' D k :=
  ⟨Nat.lt_of_lt_of_le h.lt hu.size, h.ne, fun ho => h.own ((ownAt_upd hu hD hS).1 ho)⟩
/-- What is new is safe. -/
theorem SafeB.fresh {w w' : World} {D base k : Nat} {bv : Value} {d : DS} {S : List Nat} (h : DiskAt w D base bv d) (hu : Upd S w w') (hS : D ∉ S) (h1 : w.heap.size ≤ k) (h2 : k < w'.heap.size) : SafeB w' D k := by
  have hD := blk_lt h.hD
  refine ⟨h2, by omega, fun ho => ?_⟩
  have := (ownAt_upd hu hD hS).1 ho
  have := (owns_lt h.row k (h.ownAt.1 this)).2
  omega
/-- Bytes at a slice, in a safe block that is none of X. -/
structure Lies (w : World) (D : Nat) (X : List Nat) (xo : Option Addr) (n c : Nat) (bs : List UInt8) : Prop where
  src : SrcAt w xo n c (bs.map u8v) 1
  le : n ≤ c
  mx : c ≤ maxLen
  safe : ∀ a, xo = some a → n ≠ 0 → SafeB w D a.block ∧ a.block ∉ X
theorem Lies.len {w : World} {D n c : Nat} {X : List Nat} {xo : Option Addr} {bs : List UInt8} (h : Lies w D X xo n c bs) : bs.length = n := by have := h.src.len; simpa using this
theorem Lies.keep {w w' : World} {D n c : Nat} {X : List Nat} {xo : Option Addr} {bs : List UInt8} (h : Lies w D X xo n c bs) (hk : ∀ a, xo = some a → n ≠ 0 → SafeB w' D a.block ∧ w'.heap[a.block]? = w.heap[a.block]?) : Lies w' D X xo n c bs := by
  refine ⟨⟨h.src.len, h.src.one, h.src.nil, fun a e j u hj => ?_⟩, h.le, h.mx, fun a e h0 => ⟨(hk a e h0).1, (h.safe a e h0).2⟩⟩
  have h1 := h.src.cells a e j u hj
  have hm : n ≠ 0 := by
    intro h0
    have h2 := h.src.len
    rw [h0] at h2
    simp at h2
    rw [h2] at hj
    simp at hj
  have h3 := (hk a e hm).2
  have hb : (a.add j).block = a.block := by unfold Addr.add; split <;> rfl
  rw [← h1]
  simp only [World.cell?, hb, h3]
theorem Lies.near {w w' : World} {D n c : Nat} {X : List Nat} {xo : Option Addr} {bs : List UInt8} (h : Lies w D X xo n c bs) (hn : Near D w w') : Lies w' D X xo n c bs :=
  h.keep fun a e h0 => (h.safe a e h0).1.near hn
theorem Lies.upd {w w' : World} {D n c : Nat} {X Y : List Nat} {xo : Option Addr} {bs : List UInt8} (h : Lies w D X xo n c bs) (hu : Upd Y w w') (hD : D < w.heap.size) (hS : D ∉ Y) (hY : ∀ k ∈ Y, k ∈ X) : Lies w' D X xo n c bs :=
  h.keep fun a e h0 => ⟨(h.safe a e h0).1.upd hu hD hS, hu.block _ (h.safe a e h0).1.lt fun hm => (h.safe a e h0).2 (hY _ hm)⟩
theorem is_block {P : Program} {κ α : Type} {M : MapKind P κ α} {w w' : World} {g : Nat} {l : List (κ × α)} (h : M.is w g l) (e : w'.heap[g]? = w.heap[g]?) : M.is w' g l := by
  obtain ⟨es, clock, hb, F, hs, hD⟩ := h
  exact ⟨es, clock, e.trans hb, F, hs, hD⟩
/-- What a vote in the map says. -/
def VrSays (w : World) (D : Nat) (X : List Nat) (k : Nat) (v : Vo) (x : VR) : Prop := x.slot = k ∧ x.n = v.b.n ∧ x.r = v.b.r ∧ Lies w D X (adOf x.xo) x.len x.cap v.batch
/-- The votes in memory: map g. -/
structure VotesAt (w : World) (D : Nat) (X : List Nat) (g : Nat) (vs : List (Nat × Vo)) : Prop where
  raw : ∃ l : List (Nat × VR), vtK.is w g l ∧ Rise slotK l ∧ (∀ k, mfind vs k = none → mfind l k = none) ∧ ∀ k v, mfind vs k = some v → ∃ x, mfind l k = some x ∧ VrSays w D X k v x
  safe : SafeB w D g
theorem VotesAt.near {w w' : World} {D g : Nat} {X : List Nat} {vs : List (Nat × Vo)} (h : VotesAt w D X g vs) (hn : Near D w w') : VotesAt w' D X g vs := by
  obtain ⟨l, h1, h2, h3, h4⟩ := h.raw
  refine ⟨⟨l, is_block h1 (h.safe.near hn).2, h2, h3, fun k v hv => ?_⟩, (h.safe.near hn).1⟩
  obtain ⟨x, g1, g2, g3, g4, g5⟩ := h4 k v hv
  exact ⟨x, g1, g2, g3, g4, g5.near hn⟩
theorem VotesAt.upd {w w' : World} {D g : Nat} {X Y : List Nat} {vs : List (Nat × Vo)} (h : VotesAt w D X g vs) (hu : Upd Y w w') (hD : D < w.heap.size) (hS : D ∉ Y) (hg : g ∉ Y) (hY : ∀ k ∈ Y, k ∈ X) : VotesAt w' D X g vs := by
  obtain ⟨l, h1, h2, h3, h4⟩ := h.raw
  refine ⟨⟨l, MapKind.is_upd h1 hu hg, h2, h3, fun k v hv => ?_⟩, h.safe.upd hu hD hS⟩
  obtain ⟨x, g1, g2, g3, g4, g5⟩ := h4 k v hv
  exact ⟨x, g1, g2, g3, g4, g5.upd hu hD hS hY⟩
/-- A store in memory; none of its bytes lies in a block of E. -/
structure StoAt (E : List Nat) (w : World) (S L D g base : Nat) (so : Option Addr) (sn sc : Nat) (bv : Value) (d : DS) (s : Sto) : Prop where
  blk : w.heap[S]? = some (.cells #[.pointer (some ⟨L, 0, none⟩), .int .u64 (s.prom.n : Int), .int .i64 s.prom.r, .int .u64 (s.base : Int), .slice so sn sc, .map (some g)] 79 (0, 0))
  log : w.heap[L]? = some (.cells #[.pointer (some ⟨D, 0, none⟩)] 111 (0, 0))
  dsk : DiskAt w D base bv d
  vts : VotesAt w D (S :: L :: g :: E) g s.votes
  snp : Lies w D (S :: L :: g :: E) so sn sc s.snap
  sS : SafeB w D S
  sL : SafeB w D L
  ext : ∀ k ∈ E, k < w.heap.size
theorem StoAt.near {E : List Nat} {w w' : World} {S L D g base : Nat} {so : Option Addr} {sn sc : Nat} {bv bv' : Value} {d d' : DS} {s : Sto} (h : StoAt E w S L D g base so sn sc bv d s) (hn : Near D w w') (hd : DiskAt w' D base bv' d') : StoAt E w' S L D g base so sn sc bv' d' s :=
  ⟨(h.sS.near hn).2.trans h.blk, (h.sL.near hn).2.trans h.log, hd, h.vts.near hn, h.snp.near hn, (h.sS.near hn).1, (h.sL.near hn).1, fun k hk => Nat.lt_of_lt_of_le (h.ext k hk) hn.size⟩
theorem StoAt.upd_nil {E : List Nat} {w w' : World} {S L D g base : Nat} {so : Option Addr} {sn sc : Nat} {bv : Value} {d : DS} {s : Sto} (h : StoAt E w S L D g base so sn sc bv d s) (hu : Upd [] w w') : StoAt E w' S L D g base so sn sc bv d s := by
  have hD := blk_lt h.dsk.hD
  exact ⟨hu.get h.blk (by simp), hu.get h.log (by simp), h.dsk.upd hu (by simp) (by simp), h.vts.upd hu hD (by simp) (by simp) (by simp), h.snp.upd hu hD (by simp) (by simp), h.sS.upd hu hD (by simp), h.sL.upd hu hD (by simp), fun k hk => Nat.lt_of_lt_of_le (h.ext k hk) hu.size⟩
theorem StoAt.nes {E : List Nat} {w : World} {S L D g base : Nat} {so : Option Addr} {sn sc : Nat} {bv : Value} {d : DS} {s : Sto} (h : StoAt E w S L D g base so sn sc bv d s) : S ≠ L ∧ S ≠ g ∧ L ≠ g ∧ S ≠ D ∧ L ≠ D ∧ g ≠ D := by
  obtain ⟨l, h1, -⟩ := h.vts.raw
  have hmap : ∀ (cs : Array Value) (t : TypeId) (k : Nat), w.heap[k]? = some (.cells cs t (0, 0)) → k ≠ g := by
    rintro cs t k hk rfl
    obtain ⟨es, clock, hb, -⟩ := h1
    rw [hb] at hk
    cases hk
  refine ⟨?_, hmap _ _ _ h.blk, hmap _ _ _ h.log, h.sS.ne, h.sL.ne, h.vts.safe.ne⟩
  rintro rfl
  have := h.blk.symm.trans h.log
  simp at this
end Go.Proofs.YtekbhfpdakhhkaaGreatDoor.St
