/- record: first, Open, Append, Sync: what each call answers and what it leaves in memory. -/
import Derived.Test.YtmgdhloehkdffaaDoorDiskA
import Derived.Test.YtmgdhloehkdffaaDoorFrRowM
import Derived.Test.YtmgdhloehkdffaaDoorFrA
namespace Go.Proofs.YtmgdhloehkdffaaDoor.Rec
open Go.RowKit Go.Proofs.YtmgdhloehkdffaaDoor.Var Go.Proofs.YtmgdhloehkdffaaDoor.Crc Go.Proofs.YtmgdhloehkdffaaDoor.Fr Go.Proofs.YtmgdhloehkdffaaDoor.DiskW

/-- What a call without arguments answers: a number, and R of it. -/
def Ans (R : Int → World → Prop) (e : Ending) (w : World) : Prop := ∃ x, e = .returned (.int .i64 x) ∧ R x w
/-- How far the two have come. -/
def FS (w : World) (B g1 g2 : Nat) (cap1 f2 : Array Value) (R : Int → World → Prop) : Nat → World → Prop
  | 0, wr => wr = w
  | 1, wr => wr.heap[B]? = some (.cells #[.func (.func g1) #[] cap1, .func (.func g2) f2 #[]] 42 (0, 0)) ∧ Calls Tryd.prog g2 f2 wr (Ans R)
  | _, wr => R 0 wr
set_option maxHeartbeats 1000000 in
/-- first of two. -/
theorem first_two {B g1 g2 : Nat} {cap1 f2 : Array Value} {R : Int → World → Prop} (w : World) (hB : w.heap[B]? = some (.cells #[.func (.func g1) #[] cap1, .func (.func g2) f2 #[]] 42 (0, 0)))
    (eg1 : ∀ args w, (callFunc g1 args).run Tryd.prog w = .ok (.enter g1 args) w) (eg2 : ∀ args w, (callFunc g2 args).run Tryd.prog w = .ok (.enter g2 args) w)
    (h1 : Calls Tryd.prog g1 cap1 w (Ans fun x w1 => (x ≠ 0 ∧ R x w1) ∨ (x = 0 ∧ w1.heap[B]? = some (.cells #[.func (.func g1) #[] cap1, .func (.func g2) f2 #[]] 42 (0, 0)) ∧ Calls Tryd.prog g2 f2 w1 (Ans R)))) :
    Calls Tryd.prog 42 #[.slice (some ⟨B, 0, none⟩) 2 2] w (Ans R) := by
  have H1 := hide h1; have HB := hide hB
  clear h1 hB
  go_enter Tryd.func42, Tryd.ntmps42
  go_wp2_with fail
  go_loopw [8] (fun i wr => ∃ k : Nat, k ≤ 2 ∧ i = .int .i64 k ∧ FS w B g1 g2 cap1 f2 R k wr) (fun i _ => 2 - (intOf i).toNat)
  case atStart => exact ⟨0, by omega, rfl, rfl⟩
  case round =>
    obtain ⟨k, hk, rfl, hs⟩ := hrel
    have hc : k = 0 ∨ k = 1 ∨ k = 2 := by omega
    rcases hc with rfl | rfl | rfl
    · have hs' : wr = w := hs
      subst hs'
      clear hs
      have c0 := blk_cell (i := 0) HB.out rfl
      simp only [List.getElem_toArray, List.getElem_cons_zero] at c0
      rw [show (((0 : Nat) : Int)) = 0 from rfl]
      go_wp2_with fail
      refine H1.out.mono ?_
      rintro e w1 ⟨x, rfl, (⟨hx, hr⟩ | ⟨rfl, hb, h2⟩)⟩
      · have q : (x == 0) = false := by simpa using hx
        have HR := hide hr
        clear hr hx
        go_wp2_with fail
        go_ret
        exact ⟨x, rfl, HR.out⟩
      · have H2 := hide h2; have HB1 := hide hb
        clear h2 hb
        go_wp2_with fail
        go_roundw
        case rel => exact ⟨1, by omega, rfl, HB1.out, H2.out⟩
        case measure => simp [intOf]
    · obtain ⟨hb, h2⟩ := hs
      have H2 := hide h2; have HB1 := hide hb
      have c1 := blk_cell (i := 1) hb rfl
      simp only [List.getElem_toArray, List.getElem_cons_zero, List.getElem_cons_succ] at c1
      clear h2 hb
      rw [show (((1 : Nat) : Int)) = 1 from rfl]
      go_wp2_with fail
      refine H2.out.mono ?_
      rintro e w1 ⟨x, rfl, hr⟩
      have HR := hide hr
      clear hr
      by_cases hx : x = 0
      · subst hx
        go_wp2_with fail
        go_roundw
        case rel => exact ⟨2, by omega, rfl, HR.out⟩
        case measure => simp [intOf]
      · have q : (x == 0) = false := by simpa using hx
        clear hx
        go_wp2_with fail
        go_ret
        exact ⟨x, rfl, HR.out⟩
    · have hr : R 0 wr := hs
      have HR := hide hr
      clear hs hr
      rw [show (((2 : Nat) : Int)) = 2 from rfl]
      go_wp2_with fail
      go_ret
      exact ⟨0, rfl, HR.out⟩

set_option maxHeartbeats 400000 in
theorem cut_closure {D base p1 p2 p3 n q : Nat} {bv : Value} {d : DS} (w : World) (h : DiskAt w D base bv d) (hD : base ≤ D) (hb : base ≤ w.heap.size) (h1 : w.cell? ⟨p1, 0, none⟩ = some (.pointer (some ⟨D, 0, none⟩))) (h2 : w.cell? ⟨p2, 0, none⟩ = some (.int .i64 (n : Int))) (h3 : w.cell? ⟨p3, 0, none⟩ = some (.int .i64 (q : Int))) (hn : n ≤ 1000000000000) (hq : q ≤ 1000000000000) :
    Calls Tryd.prog 43 #[.pointer (some ⟨p1, 0, none⟩), .pointer (some ⟨p2, 0, none⟩), .pointer (some ⟨p3, 0, none⟩)] w fun e w' => Done w D base (d.cut ((n : Int) + (q : Int))) e w' := by
  have H := hide (cut_any (n := (n : Int) + (q : Int)) w h hD hb)
  clear h
  go_enter Tryd.func43, Tryd.ntmps43
  go_wp2_with fail
  refine H.out.mono ?_
  rintro e w1 ⟨v, rfl, rfl, h1⟩
  have H1 := hide h1
  clear h1
  go_wp2_with fail
  go_ret
  exact ⟨_, rfl, rfl, H1.out⟩
theorem _root_.Go.Proofs.YtmgdhloehkdffaaDoor.DiskW.Near.trans {D : Nat} {a b c : World} (h : Near D a b) (kn : Near D b c) : Near D a c := by
  obtain ⟨S, h1, h2⟩ := h.upd
  obtain ⟨T, k1, k2⟩ := kn.upd
  have h4 : Upd (S ++ T.filter (· < a.heap.size)) a c := (h1.mono (fun k hk => by simp [hk])).trans_new k1 (fun k hk => by
    rcases Nat.lt_or_ge k a.heap.size with h3 | h3
    · exact .inl (List.mem_append_right _ (List.mem_filter.2 ⟨hk, by simpa using h3⟩))
    · exact .inr h3)
  refine ⟨⟨_, h4, fun k hk => ?_⟩, fun k hk => ?_⟩
  · rcases List.mem_append.1 hk with h5 | h5
    · exact h2 k h5
    · have h6 := List.mem_filter.1 h5
      rcases k2 k h6.1 with h7 | h7
      · exact .inl h7
      · rcases h.own k h7 with h8 | h8
        · exact .inr h8
        · have h9 := h6.2
          simp at h9
          omega
  · rcases kn.own k hk with h5 | h5
    · exact h.own k h5
    · exact .inr (Nat.le_trans h1.size h5)
theorem _root_.Go.Proofs.YtmgdhloehkdffaaDoor.DiskW.Near.of_upd {D base : Nat} {bv : Value} {d : DS} {w w' : World} (h : DiskAt w D base bv d) (hu : Upd [] w w') : Near D w w' := (Near.refl D w').pre hu (blk_lt h.hD)
/-- What is neither the disk nor its bytes lies as it lay. -/
theorem _root_.Go.Proofs.YtmgdhloehkdffaaDoor.DiskW.Near.block {D k : Nat} {w w' : World} (h : Near D w w') (hk : k < w.heap.size) (h1 : k ≠ D) (h2 : ¬ OwnAt w D k) : w'.heap[k]? = w.heap[k]? := by
  obtain ⟨S, hu, hS⟩ := h.upd
  exact hu.block k hk (fun hm => by rcases hS k hm with h3 | h3; exact h1 h3; exact h2 h3)
theorem _root_.Go.Proofs.YtmgdhloehkdffaaDoor.DiskW.Near.size {D : Nat} {w w' : World} (h : Near D w w') : w.heap.size ≤ w'.heap.size := by
  obtain ⟨S, hu, -⟩ := h.upd
  exact hu.size
/-- Rows that lie beside the disk lie on. -/
theorem _root_.Go.Proofs.YtmgdhloehkdffaaDoor.Fr.OwnRows.near {D B base : Nat} {bv : Value} {d : DS} {w w' : World} {v : Value} {ls : List (List UInt8)} {vs : List Value} (h : OwnRows w B v ls vs) (hd : DiskAt w D base bv d) (hn : Near D w w') (hD : D < B) (hO : ∀ k, bv.ownBlock = some k → k < B) : OwnRows w' B v ls vs := by
  obtain ⟨S, hu, hS⟩ := hn.upd
  refine h.upd hu (fun k hk => ?_)
  rcases hS k hk with rfl | h1
  · exact hD
  · exact hO k (hd.ownAt.1 h1)
/-- Rows behind rows. -/
theorem _root_.Go.Proofs.YtmgdhloehkdffaaDoor.Fr.OwnRows.join {w w' : World} {B B2 n m : Nat} {v1 v2 v' : Value} {l1 l2 : List (List UInt8)} {vs1 vs2 : List Value} (h1 : OwnRows w B v1 l1 vs1) (h2 : OwnRows w B2 v2 l2 vs2) (hB : B ≤ B2) (hlt : ∀ g, v1.ownBlock = some g → g < B2)
    (hu : Upd v1.ownBlock.toList w w') (ho : w'.ownsRow B 22 1 v' (n + m) (vs1 ++ vs2)) (hn : n = l1.length) (hm : m = l2.length) (hnew : ∀ g, v'.ownBlock = some g → v1.ownBlock = some g ∨ w.heap.size ≤ g) : OwnRows w' B v' (l1 ++ l2) (vs1 ++ vs2) := by
  subst hn; subst hm
  have hl1 : vs1.length = l1.length := by have := h1.row.1; simpa using this
  have hlive : ∀ {xo : Option Addr} {n c : Nat} {l : List UInt8} (_ : SrcAt w xo n c (l.map u8v) 1) (a : Addr), xo = some a → n ≠ 0 → a.block < w.heap.size := fun {xo n c l} hs a e h0 => by
    obtain ⟨b, off, e2, hc⟩ := src_at (j := 0) hs (by omega)
    rw [e] at e2
    cases e2
    exact World.block_lt_of_cell? w ⟨b, off + 0, none⟩ hc
  refine ⟨by simpa using ho, fun i l hi => ?_⟩
  rw [List.getElem?_append] at hi
  split at hi
  · rename_i hil
    obtain ⟨xo, n, c, e1, e2, e3, e4, e5⟩ := h1.cell i l hi
    refine ⟨xo, n, c, by rw [List.getElem?_append_left (by omega)]; exact e1, src_upd e2 hu (fun a e h0 hm => ?_), e3, e4, fun a e h0 => ⟨(e5 a e h0).1, fun h6 => ?_⟩⟩
    · simp only [Option.mem_toList] at hm
      exact (e5 a e h0).2 hm
    · rcases hnew _ h6 with h7 | h7
      · exact (e5 a e h0).2 h7
      · have := hlive e2 a e h0; omega
  · rename_i hil
    obtain ⟨xo, n, c, e1, e2, e3, e4, e5⟩ := h2.cell (i - l1.length) l hi
    refine ⟨xo, n, c, by rw [List.getElem?_append_right (by omega), hl1]; exact e1, src_upd e2 hu (fun a e h0 hm => ?_), e3, e4, fun a e h0 => ⟨Nat.le_trans hB (e5 a e h0).1, fun h6 => ?_⟩⟩
    · simp only [Option.mem_toList] at hm
      have := hlt _ hm
      have := (e5 a e h0).1
      omega
    · rcases hnew _ h6 with h7 | h7
      · have := hlt _ h7
        have := (e5 a e h0).1
        omega
      · have := hlive e2 a e h0; omega
/-- Block k holds nothing of these rows. -/
structure Free (v : Value) (vs : List Value) (k : Nat) : Prop where
  row : v.ownBlock ≠ some k
  cell : ∀ (i : Nat) (xo : Option Addr) (n c : Nat), vs[i]? = some (.slice xo n c) → n ≠ 0 → ∀ a, xo = some a → a.block ≠ k
theorem rows_live {w : World} {B : Nat} {v : Value} {ls : List (List UInt8)} {vs : List Value} (h : OwnRows w B v ls vs) (i : Nat) (xo : Option Addr) (n c : Nat) (hi : vs[i]? = some (.slice xo n c)) (h0 : n ≠ 0) (a : Addr) (e : xo = some a) : B ≤ a.block ∧ a.block < w.heap.size := by
  have hvl : vs.length = ls.length := by have := h.row.1; simpa using this
  have hl : i < ls.length := by have := (List.getElem?_eq_some_iff.1 hi).1; omega
  obtain ⟨xo', n', c', e1, e2, -, -, e5⟩ := h.cell i ls[i] (by simp [hl])
  rw [hi] at e1
  cases e1
  refine ⟨(e5 a e h0).1, ?_⟩
  obtain ⟨b, off, e3, hc⟩ := src_at (j := 0) e2 (by omega)
  rw [e] at e3
  cases e3
  exact World.block_lt_of_cell? w ⟨b, off + 0, none⟩ hc
theorem free_new {w : World} {B k : Nat} {v : Value} {ls : List (List UInt8)} {vs : List Value} (h : OwnRows w B v ls vs) (hk : k < B ∨ w.heap.size ≤ k) : Free v vs k := by
  refine ⟨fun h1 => ?_, fun i xo n c hi h0 a e h1 => ?_⟩
  · have := owns_lt h.row k h1; omega
  · have := rows_live h i xo n c hi h0 a e; omega
theorem _root_.Go.Proofs.YtmgdhloehkdffaaDoor.Fr.OwnRows.upd_free {S : List Nat} {w w' : World} {B : Nat} {v : Value} {ls : List (List UInt8)} {vs : List Value} (h : OwnRows w B v ls vs) (hu : Upd S w w') (hS : ∀ k, k ∈ S → Free v vs k) : OwnRows w' B v ls vs := by
  refine ⟨owns_upd h.row hu (fun k hk hm => (hS k hm).row hk), fun i l hi => ?_⟩
  obtain ⟨xo, n, c, h1, h2, h3, h4, h5⟩ := h.cell i l hi
  exact ⟨xo, n, c, h1, src_upd h2 hu (fun a e h0 hm => (hS _ hm).cell i xo n c h1 h0 a e rfl), h3, h4, h5⟩
/-- Rows that lie beside the disk: acts leave them. -/
structure Lie (w : World) (D B : Nat) (v : Value) (ls : List (List UInt8)) (vs : List Value) : Prop where
  rows : OwnRows w B v ls vs
  disk : Free v vs D
  own : ∀ k, OwnAt w D k → Free v vs k
theorem Lie.near {w w' : World} {D B : Nat} {v : Value} {ls : List (List UInt8)} {vs : List Value} (h : Lie w D B v ls vs) (hn : Near D w w') : Lie w' D B v ls vs := by
  obtain ⟨S, hu, hS⟩ := hn.upd
  refine ⟨h.rows.upd_free hu (fun k hk => ?_), h.disk, fun k hk => ?_⟩
  · rcases hS k hk with rfl | h1
    · exact h.disk
    · exact h.own k h1
  · rcases hn.own k hk with h1 | h1
    · exact h.own k h1
    · exact free_new h.rows (.inr h1)
end Go.Proofs.YtmgdhloehkdffaaDoor.Rec
