/- RecW, RecO, RecL in one text. -/
import Derived.Test.YtekbhfpdakhhkaaGreatDoorDiskAll
import Derived.Test.YtekbhfpdakhhkaaGreatDoorCrcAll
import Derived.Test.YtekbhfpdakhhkaaGreatDoorFrAll
import Derived.WalkMore
import Derived.Deep.CutBlock
import Derived.Deep.CutRange
namespace Go.Proofs.YtekbhfpdakhhkaaGreatDoor.Rec
set_option maxRecDepth 100000
open Go.RowKit Go.Proofs.YtekbhfpdakhhkaaGreatDoor.Var Go.Proofs.YtekbhfpdakhhkaaGreatDoor.Crc Go.Proofs.YtekbhfpdakhhkaaGreatDoor.Fr Go.Proofs.YtekbhfpdakhhkaaGreatDoor.DiskW

/-- What a call without arguments answers: a number, and R of it. -/
def Ans (R : Int → World → Prop) (e : Ending) (w : World) : Prop := ∃ x, e = .returned (.int .i64 x) ∧ R x w
/-- How far the two have come. -/
def FS (w : World) (B g1 g2 : Nat) (cap1 f2 : Array Value) (R : Int → World → Prop) : Nat → World → Prop
  | 0, wr => wr = w
  | 1, wr => wr.heap[B]? = some (.cells #[.func (.func g1) #[] cap1, .func (.func g2) f2 #[]] 47 (0, 0)) ∧ Calls Tryz.prog g2 f2 wr (Ans R)
  | _, wr => R 0 wr
set_option maxHeartbeats 1000000 in
/-- first of two. -/
theorem first_two {B g1 g2 : Nat} {cap1 f2 : Array Value} {R : Int → World → Prop} (w : World) (hB : w.heap[B]? = some (.cells #[.func (.func g1) #[] cap1, .func (.func g2) f2 #[]] 47 (0, 0)))
    (eg1 : ∀ args w, (callFunc g1 args).run Tryz.prog w = .ok (.enter g1 args) w) (eg2 : ∀ args w, (callFunc g2 args).run Tryz.prog w = .ok (.enter g2 args) w)
    (h1 : Calls Tryz.prog g1 cap1 w (Ans fun x w1 => (x ≠ 0 ∧ R x w1) ∨ (x = 0 ∧ w1.heap[B]? = some (.cells #[.func (.func g1) #[] cap1, .func (.func g2) f2 #[]] 47 (0, 0)) ∧ Calls Tryz.prog g2 f2 w1 (Ans R)))) :
    Calls Tryz.prog 58 #[.slice (some ⟨B, 0, none⟩) 2 2] w (Ans R) := by
  have H1 := hide h1; have HB := hide hB
  clear h1 hB
  go_enter Tryz.func58, Tryz.ntmps58
  go_wp2_with fail
  go_loopw [8] (fun i wr => ∃ k : Nat, k ≤ 2 ∧ i = .int .i64 k ∧ FS w B g1 g2 cap1 f2 R k wr) (fun i _ => 2 - (intOf i).toNat)
  case atStart => exact ⟨0, by omega, rfl, rfl⟩
  case round =>
    obtain ⟨k, hk, rfl, hs⟩ := hrel
    have hc : k = 0 ∨ k = 1 ∨ k = 2 := by omega
    rcases hc with rfl | rfl | rfl
    · have hs' : wr = w := hs
      subst hs'
      clear hs
      have c0 := blk_cell (i := 0) HB.out rfl
      simp only [List.getElem_toArray, List.getElem_cons_zero] at c0
      rw [show (((0 : Nat) : Int)) = 0 from rfl]
      go_wp2_with fail
      refine H1.out.mono ?_
      rintro e w1 ⟨x, rfl, (⟨hx, hr⟩ | ⟨rfl, hb, h2⟩)⟩
      · have q : (x == 0) = false := by simpa using hx
        have HR := hide hr
        clear hr hx
        go_wp2_with fail
        go_ret
        exact ⟨x, rfl, HR.out⟩
      · have H2 := hide h2; have HB1 := hide hb
        clear h2 hb
        go_wp2_with fail
        go_roundw
        case rel => exact ⟨1, by omega, rfl, HB1.out, H2.out⟩
        case measure => simp [intOf]
    · obtain ⟨hb, h2⟩ := hs
      have H2 := hide h2; have HB1 := hide hb
      have c1 := blk_cell (i := 1) hb rfl
      simp only [List.getElem_toArray, List.getElem_cons_zero, List.getElem_cons_succ] at c1
      clear h2 hb
      rw [show (((1 : Nat) : Int)) = 1 from rfl]
      go_wp2_with fail
      refine H2.out.mono ?_
      rintro e w1 ⟨x, rfl, hr⟩
      have HR := hide hr
      clear hr
      by_cases hx : x = 0
      · subst hx
        go_wp2_with fail
        go_roundw
        case rel => exact ⟨2, by omega, rfl, HR.out⟩
        case measure => simp [intOf]
      · have q : (x == 0) = false := by simpa using hx
        clear hx
        go_wp2_with fail
        go_ret
        exact ⟨x, rfl, HR.out⟩
    · have hr : R 0 wr := hs
      have HR := hide hr
      clear hs hr
      rw [show (((2 : Nat) : Int)) = 2 from rfl]
      go_wp2_with fail
      go_ret
      exact ⟨0, rfl, HR.out⟩

set_option maxHeartbeats 400000 in
theorem cut_closure {D base p1 p2 p3 n q : Nat} {bv : Value} {d : DS} (w : World) (h : DiskAt w D base bv d) (hD : base ≤ D) (hb : base ≤ w.heap.size) (h1 : w.cell? ⟨p1, 0, none⟩ = some (.pointer (some ⟨D, 0, none⟩))) (h2 : w.cell? ⟨p2, 0, none⟩ = some (.int .i64 (n : Int))) (h3 : w.cell? ⟨p3, 0, none⟩ = some (.int .i64 (q : Int))) (hn : n ≤ 1000000000000) (hq : q ≤ 1000000000000) :
    Calls Tryz.prog 59 #[.pointer (some ⟨p1, 0, none⟩), .pointer (some ⟨p2, 0, none⟩), .pointer (some ⟨p3, 0, none⟩)] w fun e w' => Done w D base (d.cut ((n : Int) + (q : Int))) e w' := by
  have H := hide (cut_any (n := (n : Int) + (q : Int)) w h hD hb)
  clear h
  go_enter Tryz.func59, Tryz.ntmps59
  go_wp2_with fail
  refine H.out.mono ?_
  rintro e w1 ⟨v, rfl, rfl, h1⟩
  have H1 := hide h1
  clear h1
  go_wp2_with fail
  go_ret
  exact ⟨_, rfl, rfl, H1.out⟩
theorem _root_.Go.Proofs.YtekbhfpdakhhkaaGreatDoor.DiskW.Near.trans {D : Nat} {a b c : World} (h : Near D a b) (kn : Near D b c) : Near D a c := by
  obtain ⟨S, h1, h2⟩ := h.upd
  obtain ⟨T, k1, k2⟩ := kn.upd
  have h4 : Upd (S ++ T.filter (· < a.heap.size)) a c := (h1.mono (fun k hk => by simp [hk])).trans_new k1 (fun k hk => by
    rcases Nat.lt_or_ge k a.heap.size with h3 | h3
    · exact .inl (List.mem_append_right _ (List.mem_filter.2 ⟨hk, by simpa using h3⟩))
    · exact .inr h3)
  refine ⟨⟨_, h4, fun k hk => ?_⟩, fun k hk => ?_⟩
  · rcases List.mem_append.1 hk with h5 | h5
    · exact h2 k h5
    · have h6 := List.mem_filter.1 h5
      rcases k2 k h6.1 with h7 | h7
      · exact .inl h7
      · rcases h.own k h7 with h8 | h8
        · exact .inr h8
        · have h9 := h6.2
          simp at h9
          omega
  · rcases kn.own k hk with h5 | h5
    · exact h.own k h5
    · exact .inr (Nat.le_trans h1.size h5)
theorem _root_.Go.Proofs.YtekbhfpdakhhkaaGreatDoor.DiskW.Near.of_upd {D base : Nat} {bv : Value} {d : DS} {w w' : World} (h : DiskAt w D base bv d) (hu : Upd [] w w') : Near D w w' := (Near.refl D w').pre hu (blk_lt h.hD)
/-- What is neither the disk nor its bytes lies as it lay. -/
theorem _root_.Go.Proofs.YtekbhfpdakhhkaaGreatDoor.DiskW.Near.block {D k : Nat} {w w' : World} (h : Near D w w') (hk : k < w.heap.size) (h1 : k ≠ D) (h2 : ¬ OwnAt w D k) : w'.heap[k]? = w.heap[k]? := by
  obtain ⟨S, hu, hS⟩ := h.upd
  exact hu.block k hk (fun hm => by rcases hS k hm with h3 | h3; exact h1 h3; exact h2 h3)
theorem _root_.Go.Proofs.YtekbhfpdakhhkaaGreatDoor.DiskW.Near.size {D : Nat} {w w' : World} (h : Near D w w') : w.heap.size ≤ w'.heap.size := by
  obtain ⟨S, hu, -⟩ := h.upd
  exact hu.size
/-- Rows that lie beside the disk lie on. -/
theorem _root_.Go.Proofs.YtekbhfpdakhhkaaGreatDoor.Fr.OwnRows.near {D B base : Nat} {bv : Value} {d : DS} {w w' : World} {v : Value} {ls : List (List UInt8)} {vs : List Value} (h : OwnRows w B v ls vs) (hd : DiskAt w D base bv d) (hn : Near D w w') (hD : D < B) (hO : ∀ k, bv.ownBlock = some k → k < B) : OwnRows w' B v ls vs := by
  obtain ⟨S, hu, hS⟩ := hn.upd
  refine h.upd hu (fun k hk => ?_)
  rcases hS k hk with rfl | h1
  · exact hD
  · exact hO k (hd.ownAt.1 h1)
/-- Rows behind rows. -/
theorem _root_.Go.Proofs.YtekbhfpdakhhkaaGreatDoor.Fr.OwnRows.join {w w' : World} {B B2 n m : Nat} {v1 v2 v' : Value} {l1 l2 : List (List UInt8)} {vs1 vs2 : List Value} (h1 : OwnRows w B v1 l1 vs1) (h2 : OwnRows w B2 v2 l2 vs2) (hB : B ≤ B2) (hlt : ∀ g, v1.ownBlock = some g → g < B2)
    (hu : Upd v1.ownBlock.toList w w') (ho : w'.ownsRow B 39 1 v' (n + m) (vs1 ++ vs2)) (hn : n = l1.length) (hm : m = l2.length) (hnew : ∀ g, v'.ownBlock = some g → v1.ownBlock = some g ∨ w.heap.size ≤ g) : OwnRows w' B v' (l1 ++ l2) (vs1 ++ vs2) := by
  subst hn; subst hm
  have hl1 : vs1.length = l1.length := by have := h1.row.1; simpa using this
  have hlive : ∀ {xo : Option Addr} {n c : Nat} {l : List UInt8} (_ : SrcAt w xo n c (l.map u8v) 1) (a : Addr), xo = some a → n ≠ 0 → a.block < w.heap.size := fun {xo n c l} hs a e h0 => by
    obtain ⟨b, off, e2, hc⟩ := src_at (j := 0) hs (by omega)
    rw [e] at e2
    cases e2
    exact World.block_lt_of_cell? w ⟨b, off + 0, none⟩ hc
  refine ⟨by simpa using ho, fun i l hi => ?_⟩
  rw [List.getElem?_append] at hi
  split at hi
  · rename_i hil
    obtain ⟨xo, n, c, e1, e2, e3, e4, e5⟩ := h1.cell i l hi
    refine ⟨xo, n, c, by rw [List.getElem?_append_left (by omega)]; exact e1, src_upd e2 hu (fun a e h0 hm => ?_), e3, e4, fun a e h0 => ⟨(e5 a e h0).1, fun h6 => ?_⟩⟩
    · simp only [Option.mem_toList] at hm
      exact (e5 a e h0).2 hm
    · rcases hnew _ h6 with h7 | h7
      · exact (e5 a e h0).2 h7
      · have := hlive e2 a e h0; omega
  · rename_i hil
    obtain ⟨xo, n, c, e1, e2, e3, e4, e5⟩ := h2.cell (i - l1.length) l hi
    refine ⟨xo, n, c, by rw [List.getElem?_append_right (by omega), hl1]; exact e1, src_upd e2 hu (fun a e h0 hm => ?_), e3, e4, fun a e h0 => ⟨Nat.le_trans hB (e5 a e h0).1, fun h6 => ?_⟩⟩
    · simp only [Option.mem_toList] at hm
      have := hlt _ hm
      have := (e5 a e h0).1
      omega
    · rcases hnew _ h6 with h7 | h7
      · have := hlt _ h7
        have := (e5 a e h0).1
        omega
      · have := hlive e2 a e h0; omega
/-- Block k holds nothing of these rows. -/
structure Free (v : Value) (vs : List Value) (k : Nat) : Prop where
  row : v.ownBlock ≠ some k
  cell : ∀ (i : Nat) (xo : Option Addr) (n c : Nat), vs[i]? = some (.slice xo n c) → n ≠ 0 → ∀ a, xo = some a → a.block ≠ k
theorem rows_live {w : World} {B : Nat} {v : Value} {ls : List (List UInt8)} {vs : List Value} (h : OwnRows w B v ls vs) (i : Nat) (xo : Option Addr) (n c : Nat) (hi : vs[i]? = some (.slice xo n c)) (h0 : n ≠ 0) (a : Addr) (e : xo = some a) : B ≤ a.block ∧ a.block < w.heap.size := by
  have hvl : vs.length = ls.length := by have := h.row.1; simpa using this
  have hl : i < ls.length := by have := (List.getElem?_eq_some_iff.1 hi).1; omega
  obtain ⟨xo', n', c', e1, e2, -, -, e5⟩ := h.cell i ls[i] (by simp [hl])
  rw [hi] at e1
  cases e1
  refine ⟨(e5 a e h0).1, ?_⟩
  obtain ⟨b, off, e3, hc⟩ := src_at (j := 0) e2 (by omega)
  rw [e] at e3
  cases e3
  exact World.block_lt_of_cell? w ⟨b, off + 0, none⟩ hc
theorem free_new {w : World} {B k : Nat} {v : Value} {ls : List (List UInt8)} {vs : List Value} (h : OwnRows w B v ls vs) (hk : k < B ∨ w.heap.size ≤ k) : Free v vs k := by
  refine ⟨fun h1 => ?_, fun i xo n c hi h0 a e h1 => ?_⟩
  · have := owns_lt h.row k h1; omega
  · have := rows_live h i xo n c hi h0 a e; omega
theorem _root_.Go.Proofs.YtekbhfpdakhhkaaGreatDoor.Fr.OwnRows.upd_free {S : List Nat} {w w' : World} {B : Nat} {v : Value} {ls : List (List UInt8)} {vs : List Value} (h : OwnRows w B v ls vs) (hu : Upd S w w') (hS : ∀ k, k ∈ S → Free v vs k) : OwnRows w' B v ls vs := by
  refine ⟨owns_upd h.row hu (fun k hk hm => (hS k hm).row hk), fun i l hi => ?_⟩
  obtain ⟨xo, n, c, h1, h2, h3, h4, h5⟩ := h.cell i l hi
  exact ⟨xo, n, c, h1, src_upd h2 hu (fun a e h0 hm => (hS _ hm).cell i xo n c h1 h0 a e rfl), h3, h4, h5⟩
/-- Rows that lie beside the disk: acts leave them. -/
structure Lie (w : World) (D B : Nat) (v : Value) (ls : List (List UInt8)) (vs : List Value) : Prop where
  rows : OwnRows w B v ls vs
  disk : Free v vs D
  own : ∀ k, OwnAt w D k → Free v vs k
theorem Lie.near {w w' : World} {D B : Nat} {v : Value} {ls : List (List UInt8)} {vs : List Value} (h : Lie w D B v ls vs) (hn : Near D w w') : Lie w' D B v ls vs := by
  obtain ⟨S, hu, hS⟩ := hn.upd
  refine ⟨h.rows.upd_free hu (fun k hk => ?_), h.disk, fun k hk => ?_⟩
  · rcases hS k hk with rfl | h1
    · exact h.disk
    · exact h.own k h1
  · rcases hn.own k hk with h1 | h1
    · exact h.own k h1
    · exact free_new h.rows (.inr h1)
end Go.Proofs.YtekbhfpdakhhkaaGreatDoor.Rec
namespace Go.Proofs.YtekbhfpdakhhkaaGreatDoor.Rec
set_option maxRecDepth 100000
open Go.RowKit Go.Proofs.YtekbhfpdakhhkaaGreatDoor.Var Go.Proofs.YtekbhfpdakhhkaaGreatDoor.Crc Go.Proofs.YtekbhfpdakhhkaaGreatDoor.Fr Go.Proofs.YtekbhfpdakhhkaaGreatDoor.DiskW
section
variable {P : Program} {ops : Array Oper} {Q : Exit → Act → World → Prop} {md : Region.Mode} {S : World → Prop} {z : Nat}
/-- Two may come up. -/
theorem wpAnyZ_two (i j : Nat) {oi oj : Oper} {fuel : Nat} {listed : Array Bool} {a : Act} {w : World} (hr : Region.ready md ops listed = [i, j]) (hi : ops[i]? = some oi) (hj : ops[j]? = some oj)
    (hwi : Region.wanted oi (yielded ops a.tmps) = true) (hwj : Region.wanted oj (yielded ops a.tmps) = true)
    (h1 : ∀ K : Act → World → Prop, (∀ a' w', (i = z ∨ S w') → wpAnyZ P md ops Q S z fuel (listed.setIfInBounds i true) a' w' → K a' w') → oi.wp P a w K Q)
    (h2 : ∀ K : Act → World → Prop, (∀ a' w', (j = z ∨ S w') → wpAnyZ P md ops Q S z fuel (listed.setIfInBounds j true) a' w' → K a' w') → oj.wp P a w K Q) : wpAnyZ P md ops Q S z (fuel + 1) listed a w := by
  refine ⟨fun h0 => (by rw [hr] at h0; cases h0), ?_⟩
  rw [hr]
  intro k hk
  have hk' : k = i ∨ k = j := by simpa using hk
  rcases hk' with rfl | rfl
  · unfold wpOp
    rw [hi]
    simp only [hwi, if_true]
    exact .inl (h1 _ (fun a' w' h1 h2 => ⟨h1, h2⟩))
  · unfold wpOp
    rw [hj]
    simp only [hwj, if_true]
    exact .inl (h2 _ (fun a' w' h1 h2 => ⟨h1, h2⟩))
end
set_option maxRecDepth 100000 in
set_option maxHeartbeats 1000000 in
theorem open_nil (w : World) : Calls Tryz.prog 33 #[.pointer none] w fun e w' => e = .returned (.tuple #[.pointer none, .slice none 0 0, .int .i64 2]) ∧ Upd [] w w' := by
  go_enter Tryz.func33, Tryz.ntmps33
  go_wp2_with fail
  go_ret3
  exact ⟨rfl, (Upd.refl _ _).alloc _⟩
set_option maxRecDepth 100000 in
set_option maxHeartbeats 1000000 in
theorem open_dead {D base : Nat} {bv : Value} {d : DS} (w : World) (h : DiskAt w D base bv d) (hd : d.dead = true) : Calls Tryz.prog 33 #[.pointer (some ⟨D, 0, none⟩)] w fun e w' => e = .returned (.tuple #[.pointer none, .slice none 0 0, .int .i64 20]) ∧ Upd [] w w' := by
  have H := hide h
  clear h
  go_enter Tryz.func33, Tryz.ntmps33
  go_wp2_with fail
  refine (dead_any _ (H.out.allocs _)).mono ?_
  rintro e w1 ⟨rfl, rfl⟩
  simp only [hd]
  go_wp2_with fail
  go_ret3
  exact ⟨rfl, (Upd.refl _ _).alloc _⟩
theorem owns_mono {w : World} {b0 base : Nat} {e : TypeId} {size : Nat} {v : Value} {n : Nat} {xs : List Value} (h : w.ownsRow base e size v n xs) (hb : b0 ≤ base) : w.ownsRow b0 e size v n xs := by
  refine ⟨h.1, ?_⟩
  rcases h.2 with h1 | ⟨g, cap, cur, h1, h2, h3⟩
  · exact .inl h1
  · exact .inr ⟨g, cap, cur, h1, Nat.le_trans hb h2, h3⟩
theorem all_le : ∀ (n : Nat) (bs : List UInt8), bs.length ≤ n → (all bs).2.1 ≤ bs.length
  | 0, bs, h => by
    have : bs = [] := List.eq_nil_of_length_eq_zero (by omega)
    subst this
    simp [all_nil]
  | n + 1, bs, h => by
    by_cases h0 : bs = []
    · subst h0; simp [all_nil]
    by_cases he : (take bs).2.2 = 0
    · have h1 := Fr.take_len he
      have h2 := all_le n (bs.drop (take bs).2.1) (by simp; omega)
      simp only [List.length_drop] at h2
      rw [all_ok h0 he]
      show (take bs).2.1 + _ ≤ _
      omega
    · rw [all_err h0 he]; simp
theorem all_count : ∀ (n : Nat) (bs : List UInt8), bs.length ≤ n → (all bs).1.length ≤ (all bs).2.1
  | 0, bs, h => by
    have : bs = [] := List.eq_nil_of_length_eq_zero (by omega)
    subst this
    simp [all_nil]
  | n + 1, bs, h => by
    by_cases h0 : bs = []
    · subst h0; simp [all_nil]
    by_cases he : (take bs).2.2 = 0
    · have h1 := Fr.take_len he
      have h2 := all_count n (bs.drop (take bs).2.1) (by simp; omega)
      rw [all_ok h0 he]
      show (_ :: _ : List (List UInt8)).length ≤ (take bs).2.1 + _
      simp only [List.length_cons]
      omega
    · rw [all_err h0 he]; simp
set_option maxHeartbeats 1000000 in
/-- The disk is cut behind the last whole frame, and synced. -/
theorem steps_any {D base B p q r at2 : Nat} {bv : Value} {d : DS} (w : World) (h : DiskAt w D base bv d) (hD : base ≤ D) (hb : base ≤ w.heap.size) (hok : d.Ok 1000000000000) (hd : d.dead = false)
    (hB : w.heap[B]? = some (.cells #[.func (.func 59) #[] #[.pointer (some ⟨p, 0, none⟩), .pointer (some ⟨q, 0, none⟩), .pointer (some ⟨r, 0, none⟩)], .func (.func 61) #[.pointer (some ⟨D, 0, none⟩)] #[]] 47 (0, 0)))
    (hp : w.cell? ⟨p, 0, none⟩ = some (.pointer (some ⟨D, 0, none⟩))) (hq : w.cell? ⟨q, 0, none⟩ = some (.int .i64 (d.syn : Int))) (hr : w.cell? ⟨r, 0, none⟩ = some (.int .i64 (at2 : Int)))
    (hat : at2 ≤ d.byt.length - d.syn) (hBD : B ≠ D) (hBO : bv.ownBlock ≠ some B) :
    Calls Tryz.prog 58 #[.slice (some ⟨B, 0, none⟩) 2 2] w (Ans fun x w' => x = 0 ∧ ∃ bv', DiskAt w' D base bv' { d with byt := d.byt.take (d.syn + at2), syn := d.syn + at2 } ∧ Near D w w') := by
  have hlb := hok.len
  have hsy := hok.syn
  have ecut : d.cut ((d.syn : Int) + (at2 : Int)) = ({ d with byt := d.byt.take (d.syn + at2) }, 0) := by
    unfold DS.cut
    rw [hd, if_neg (by simp), if_neg (by omega)]
    rfl
  have esync : DS.sync { d with byt := d.byt.take (d.syn + at2) } = ({ d with byt := d.byt.take (d.syn + at2), syn := d.syn + at2 }, 0) := by
    unfold DS.sync
    have : (d.byt.take (d.syn + at2)).length = d.syn + at2 := by rw [List.length_take]; omega
    simp only [hd, this]
    rfl
  refine first_two w hB (fun _ _ => by kernel_rfl) (fun _ _ => by kernel_rfl) ?_
  refine (cut_closure w h hD hb hp hq hr (by omega) (by omega)).mono ?_
  rintro e w1 ⟨v, rfl, rfl, bv1, h1, -, hn1⟩
  rw [ecut] at h1
  have hsz := hn1.size
  refine ⟨_, by rw [ecut], .inr ⟨rfl, ?_, ?_⟩⟩
  · rw [hn1.block (blk_lt hB) hBD (fun ho => hBO (h.ownAt.1 ho))]
    exact hB
  · refine (sync_any w1 h1 hD (by omega)).mono ?_
    rintro e w2 ⟨v, rfl, rfl, bv2, h2, -, hn2⟩
    rw [esync] at h2
    exact ⟨_, by rw [esync], rfl, bv2, h2, hn1.trans hn2⟩
theorem _root_.Go.Proofs.YtekbhfpdakhhkaaGreatDoor.Fr.OwnRows.ones {w : World} {B : Nat} {v : Value} {ls : List (List UInt8)} {vs : List Value} (h : OwnRows w B v ls vs) : ∀ u ∈ vs, u.oneCell' = true := by
  intro u hu
  obtain ⟨i, hi⟩ := List.mem_iff_getElem?.1 hu
  have hvl : vs.length = ls.length := by have := h.row.1; simpa using this
  have hl : i < ls.length := by have := (List.getElem?_eq_some_iff.1 hi).1; omega
  obtain ⟨xo, n, c, e1, -⟩ := h.cell i ls[i] (by simp [hl])
  rw [hi] at e1
  cases e1
  rfl
theorem _root_.Go.Proofs.YtekbhfpdakhhkaaGreatDoor.DiskW.Near.post {D : Nat} {S : List Nat} {a b c : World} (h : Near D a b) (hu : Upd S b c) (hS : ∀ k, k ∈ S → a.heap.size ≤ k) (hD : D < a.heap.size) : Near D a c := by
  obtain ⟨T, h1, h2⟩ := h.upd
  refine ⟨⟨T, h1.trans_new hu (fun k hk => .inr (hS k hk)), h2⟩, ?_⟩
  rintro k ⟨bv, hk1, hk2⟩
  have h3 := hu.block D (Nat.lt_of_lt_of_le hD h1.size) (fun hm => by have := hS D hm; omega)
  exact h.own k ⟨bv, by rw [← hk1]; simp only [World.cell?, h3], hk2⟩
theorem cell_keep {S : List Nat} {w w' : World} {k i : Nat} {v : Value} (hu : Upd S w w') (h : w.cell? ⟨k, i, none⟩ = some v) (hk : k ∉ S) : w'.cell? ⟨k, i, none⟩ = some v := by
  rw [← h]
  have := hu.block k (World.block_lt_of_cell? w ⟨k, i, none⟩ h) hk
  simp only [World.cell?, this]
theorem free_join {w1 w2 : World} {Bc k : Nat} {v1 v2 v : Value} {l1 l2 : List (List UInt8)} {vs1 vs2 : List Value} (h1 : OwnRows w1 Bc v1 l1 vs1) (h2 : OwnRows w2 w1.heap.size v2 l2 vs2) (hB : Bc ≤ w1.heap.size) (hs : w1.heap.size ≤ w2.heap.size)
    (hv : v.ownBlock ≠ some k) (hn : k < Bc ∨ w2.heap.size ≤ k) : Free v (vs1 ++ vs2) k := by
  refine ⟨hv, fun i xo n c hi h0 a e => ?_⟩
  rw [List.getElem?_append] at hi
  split at hi
  · have := rows_live h1 i xo n c hi h0 a e; omega
  · have := rows_live h2 _ xo n c hi h0 a e; omega
/-- The rows are joined: the disk lies on. -/
theorem opened {w wa wb : World} {D B : Nat} {bv5 v1 : Value} {d5 : DS} (hn : Near D w wa) (h5 : DiskAt wa D B bv5 d5) (u : Upd v1.ownBlock.toList wa wb)
    (hlt : ∀ g, v1.ownBlock = some g → w.heap.size ≤ g) (hD : D < w.heap.size) (hne : ∀ k, bv5.ownBlock = some k → v1.ownBlock ≠ some k) : DiskAt wb D B bv5 d5 ∧ Near D w wb := by
  refine ⟨h5.upd u (fun hm => ?_) (fun k hk hm => ?_), hn.post u (fun k hk => hlt k (by simpa using hk)) hD⟩
  · have := hlt D (by simpa using hm); omega
  · exact hne k hk (by simpa using hm)
/-- What lies behind `b, n := d.Bytes(), d.Synced()`. -/
def Mid (w : World) (D : Nat) (d : DS) (x y : Value) (W : World) : Prop :=
  ∃ q ao cap, x = .slice ao d.byt.length cap ∧ y = .pointer (some ⟨q, 0, none⟩) ∧ W.ownsRow (w.heap.size + 1) 5 1 (.slice ao d.byt.length cap) d.byt.length (d.byt.map u8v) ∧ w.heap.size < q ∧ (∀ g, (Value.slice ao d.byt.length cap).ownBlock = some g → g ≠ q) ∧
    W.heap[q]? = some (.cells #[.int .i64 (d.syn : Int)] 3 (0, 0)) ∧ W.heap[w.heap.size]? = some (.cells #[.pointer (some ⟨D, 0, none⟩)] 29 (0, 0)) ∧ Upd [] w W
theorem Mid.alloc {w W : World} {D : Nat} {d : DS} {v : Value} (hr : W.ownsRow (w.heap.size + 1) 5 1 v d.byt.length (d.byt.map u8v)) (hp : W.heap[w.heap.size]? = some (.cells #[.pointer (some ⟨D, 0, none⟩)] 29 (0, 0))) (hu : Upd [] w W) :
    Mid w D d v (.pointer (some ⟨W.heap.size, 0, none⟩)) (W.alloc (.cells #[.int .i64 (d.syn : Int)] 3 (0, 0))) := by
  obtain ⟨ao, cap, rfl, h1, h2, h3⟩ := owns_slice hr
  have hlt := blk_lt hp
  refine ⟨_, ao, cap, rfl, rfl, owns_upd hr ((Upd.refl [] _).alloc _) (by simp), hlt, fun g hg h => ?_, blk_new _ _, blk_alloc hp _, hu.alloc _⟩
  have := (owns_lt hr g hg).2
  omega
theorem Mid.intro {w W : World} {D q : Nat} {d : DS} {v x0 : Value} (hr : W.ownsRow (w.heap.size + 1) 5 1 v d.byt.length (d.byt.map u8v)) (hq : w.heap.size < q) (hne : ∀ g, v.ownBlock = some g → g ≠ q)
    (hb : W.heap[q]? = some (.cells #[x0] 3 (0, 0))) (hp : W.heap[w.heap.size]? = some (.cells #[.pointer (some ⟨D, 0, none⟩)] 29 (0, 0))) (hu : Upd [] w W) : Mid w D d v (.pointer (some ⟨q, 0, none⟩)) (W.setCell ⟨q, 0, none⟩ (.int .i64 (d.syn : Int))) := by
  obtain ⟨ao, cap, rfl, h1, h2, h3⟩ := owns_slice hr
  have hu1 : Upd [q] W (W.setCell ⟨q, 0, none⟩ (.int .i64 (d.syn : Int))) := (Upd.refl [q] _).setCell (.inl (by simp)) _
  refine ⟨q, ao, cap, rfl, rfl, owns_upd hr hu1 (fun k hk => ?_), hq, hne, ?_, hu1.get hp (by simp; omega), hu.trans_new hu1 (by simp; omega)⟩
  · simpa using hne k hk
  · exact blk_set hb _
/-- What Open answers of a disk that is not dead. -/
def OpenSays (w : World) (D base : Nat) (d : DS) (e : Ending) (w' : World) : Prop :=
  ((all (d.byt.take d.syn)).2.2 ≠ 0 ∧ e = .returned (.tuple #[.pointer none, .slice none 0 0, .int .i64 22]) ∧ Upd [] w w') ∨
  ((all (d.byt.take d.syn)).2.2 = 0 ∧ ∃ L v vs bv', e = .returned (.tuple #[.pointer (some ⟨L, 0, none⟩), v, .int .i64 0]) ∧ w'.heap[L]? = some (.cells #[.pointer (some ⟨D, 0, none⟩)] 111 (0, 0)) ∧ w.heap.size ≤ L ∧ bv'.ownBlock ≠ some L ∧
    Lie w' D w.heap.size v ((all (d.byt.take d.syn)).1 ++ (all (d.byt.drop d.syn)).1) vs ∧
    DiskAt w' D base bv' { d with byt := d.byt.take (d.syn + (all (d.byt.drop d.syn)).2.1), syn := d.syn + (all (d.byt.drop d.syn)).2.1 } ∧ Near D w w')
set_option maxRecDepth 100000 in
set_option maxHeartbeats 4000000 in
theorem open_on {D base : Nat} {bv : Value} {d : DS} (w : World) (h : DiskAt w D base bv d) (hD : base ≤ D) (hb : base ≤ w.heap.size) (hok : d.Ok 1000000000000) (hd : d.dead = false) (hst : TabAt w) : Calls Tryz.prog 33 #[.pointer (some ⟨D, 0, none⟩)] w (OpenSays w D base d) := by
  have H := hide h
  clear h
  have hlb := hok.len
  go_enter Tryz.func33, Tryz.ntmps33
  go_wp2_with fail
  refine (dead_any _ (H.out.allocs _)).mono ?_
  rintro e w1 ⟨rfl, rfl⟩
  simp only [hd]
  go_upto_region 5 with fail
  go_cut [5, 6] (fun x y W => Mid w D d x y W)
  case first =>
    as_aux_lemma =>
    have hbx := blk_new w (.cells #[.pointer (some ⟨D, 0, none⟩)] 29 (0, 0))
    have hcx := blk_cell (i := 0) hbx rfl
    simp only [List.getElem_toArray, List.getElem_cons_zero] at hcx
    have HW := hide (((Upd.refl [] w).alloc (.cells #[.pointer (some ⟨D, 0, none⟩)] 29 (0, 0))).drewN 1)
    have HD := hide ((H.out.allocs (.cells #[.pointer (some ⟨D, 0, none⟩)] 29 (0, 0))).drewN 1)
    have hsz : ((w.alloc (.cells #[.pointer (some ⟨D, 0, none⟩)] 29 (0, 0))).drewN 1).heap.size = w.heap.size + 1 := by simp
    have HBX : Hid (((w.alloc (.cells #[.pointer (some ⟨D, 0, none⟩)] 29 (0, 0))).drewN 1).heap[w.heap.size]? = some (.cells #[.pointer (some ⟨D, 0, none⟩)] 29 (0, 0))) := hide hbx
    refine wp_region_z (fun w' => w'.cell? ⟨w.heap.size, 0, none⟩ = some (.pointer (some ⟨D, 0, none⟩))) 6 (by kernel_rfl) ?_
    refine wpAnyZ_takeE 0 rfl (by kernel_rfl) (by kernel_rfl) (by kernel_rfl) (by kernel_rfl) (fun _ _ _ _ h => h) rfl (by exact hcx) ?_
    apply Exists.intro
    refine ⟨fun wx hS => ?_, ?_⟩
    · have s0 := hS; go_simp; rfl
    simp only [Act.put, List.setIfInBounds_toArray, List.set_cons_succ, List.set_cons_zero, List.getElem_toArray, List.getElem_cons_zero]
    refine wpAnyZ_takeE 2 rfl (by kernel_rfl) (by kernel_rfl) (by kernel_rfl) (by kernel_rfl) (fun _ _ _ _ h => h) rfl (by exact hcx) ?_
    apply Exists.intro
    refine ⟨fun wx hS => ?_, ?_⟩
    · have s0 := hS; go_simp; rfl
    simp only [Act.put, List.setIfInBounds_toArray, List.set_cons_succ, List.set_cons_zero, List.getElem_toArray, List.getElem_cons_succ, List.getElem_cons_zero]
    generalize hW0 : (w.alloc (.cells #[.pointer (some ⟨D, 0, none⟩)] 29 (0, 0))).drewN 1 = w0 at *
    refine wpAnyZ_two 1 4 (by kernel_rfl) rfl rfl rfl rfl (fun K hK => ?_) (fun K hK => ?_)
    · try simp only [List.getElem_toArray, List.getElem_cons_succ, List.getElem_cons_zero]
      go_simp
      refine (bytes_any _ HD.out (by omega) hlb).mono ?_
      rintro e w2 ⟨v2, rfl, ho2, hu2⟩
      have D2 := hide (HD.out.upd hu2 (by simp) (fun _ _ => by simp)); have B2 := hide (hu2.get HBX.out (by simp)); have U2 := hide (HW.out.trans hu2); have O2 := hide ho2; have S2 := hide hu2.size
      have hcx2 := blk_cell (i := 0) B2.out rfl
      simp only [List.getElem_toArray, List.getElem_cons_zero] at hcx2
      clear ho2 hu2
      refine hK _ _ (.inr hcx2) ?_
      clear hK K
      try simp only [Act.put, List.setIfInBounds_toArray, List.set_cons_succ, List.set_cons_zero]
      have hcx3 : (w2.alloc (.cells #[.int .i64 0] 3 (0, 0))).cell? ⟨w.heap.size, 0, none⟩ = some (.pointer (some ⟨D, 0, none⟩)) := by
        have := blk_cell (i := 0) (blk_alloc B2.out (.cells #[.int .i64 0] 3 (0, 0))) rfl
        simpa only [List.getElem_toArray, List.getElem_cons_zero] using this
      refine wpAnyZ_two 3 4 (by kernel_rfl) rfl rfl rfl rfl (fun K hK => ?_) (fun K hK => ?_)
      · try simp only [List.getElem_toArray, List.getElem_cons_succ, List.getElem_cons_zero]
        go_simp
        refine (synced_any _ D2.out).mono ?_
        rintro e w3 ⟨rfl, rfl⟩
        refine hK _ _ (.inr hcx2) ?_
        clear hK K
        try simp only [Act.put, List.setIfInBounds_toArray, List.set_cons_succ, List.set_cons_zero]
        refine wpAnyZ_one 4 (by kernel_rfl) rfl rfl (fun K hK => ?_)
        try simp only [List.getElem_toArray, List.getElem_cons_succ, List.getElem_cons_zero]
        go_simp
        refine hK _ _ (.inr hcx3) ?_
        clear hK K
        try simp only [Act.put, List.setIfInBounds_toArray, List.set_cons_succ, List.set_cons_zero]
        refine wpAnyZ_one 5 (by kernel_rfl) rfl rfl (fun K hK => ?_)
        try simp only [List.getElem_toArray, List.getElem_cons_succ, List.getElem_cons_zero]
        go_simp
        refine hK _ _ (.inr hcx3) ?_
        clear hK K
        try simp only [Act.put, List.setIfInBounds_toArray, List.set_cons_succ, List.set_cons_zero]
        refine wpAnyZ_one 6 (by kernel_rfl) rfl rfl (fun K hK => ?_)
        try simp only [List.getElem_toArray, List.getElem_cons_succ, List.getElem_cons_zero]
        go_simp
        refine hK _ _ (.inl rfl) ?_
        clear hK K
        refine wpAnyZ_done (by kernel_rfl) ?_ _
        go_wp2_with fail
        go_meet
        exact Mid.alloc (by have := O2.out; rwa [hsz] at this) B2.out U2.out
      · try simp only [List.getElem_toArray, List.getElem_cons_succ, List.getElem_cons_zero]
        go_simp
        refine hK _ _ (.inr hcx3) ?_
        clear hK K
        try simp only [Act.put, List.setIfInBounds_toArray, List.set_cons_succ, List.set_cons_zero]
        refine wpAnyZ_one 3 (by kernel_rfl) rfl rfl (fun K hK => ?_)
        try simp only [List.getElem_toArray, List.getElem_cons_succ, List.getElem_cons_zero]
        go_simp
        refine (synced_any _ (D2.out.allocs _)).mono ?_
        rintro e w3 ⟨rfl, rfl⟩
        refine hK _ _ (.inr hcx3) ?_
        clear hK K
        try simp only [Act.put, List.setIfInBounds_toArray, List.set_cons_succ, List.set_cons_zero]
        refine wpAnyZ_one 5 (by kernel_rfl) rfl rfl (fun K hK => ?_)
        try simp only [List.getElem_toArray, List.getElem_cons_succ, List.getElem_cons_zero]
        go_simp
        refine hK _ _ (.inr hcx3) ?_
        clear hK K
        try simp only [Act.put, List.setIfInBounds_toArray, List.set_cons_succ, List.set_cons_zero]
        refine wpAnyZ_one 6 (by kernel_rfl) rfl rfl (fun K hK => ?_)
        try simp only [List.getElem_toArray, List.getElem_cons_succ, List.getElem_cons_zero]
        go_simp
        refine hK _ _ (.inl rfl) ?_
        clear hK K
        refine wpAnyZ_done (by kernel_rfl) ?_ _
        go_wp2_with fail
        go_meet
        exact Mid.alloc (by have := O2.out; rwa [hsz] at this) B2.out U2.out
    · try simp only [List.getElem_toArray, List.getElem_cons_succ, List.getElem_cons_zero]
      go_simp
      have hcx1 : (w0.alloc (.cells #[.int .i64 0] 3 (0, 0))).cell? ⟨w.heap.size, 0, none⟩ = some (.pointer (some ⟨D, 0, none⟩)) := by
        have := blk_cell (i := 0) (blk_alloc HBX.out (.cells #[.int .i64 0] 3 (0, 0))) rfl
        simpa only [List.getElem_toArray, List.getElem_cons_zero] using this
      refine hK _ _ (.inr hcx1) ?_
      clear hK K
      try simp only [Act.put, List.setIfInBounds_toArray, List.set_cons_succ, List.set_cons_zero]
      refine wpAnyZ_one 1 (by kernel_rfl) rfl rfl (fun K hK => ?_)
      try simp only [List.getElem_toArray, List.getElem_cons_succ, List.getElem_cons_zero]
      go_simp
      refine (bytes_any _ (HD.out.allocs _) (by simp; omega) hlb).mono ?_
      rintro e w2 ⟨v2, rfl, ho2, hu2⟩
      have D2 := hide ((HD.out.allocs (.cells #[.int .i64 0] 3 (0, 0))).upd hu2 (by simp) (fun _ _ => by simp)); have B2 := hide (hu2.get (blk_alloc HBX.out _) (by simp)); have Q2 := hide (hu2.get (blk_new w0 (.cells #[.int .i64 0] 3 (0, 0))) (by simp)); have U2 := hide ((HW.out.alloc _).trans hu2); have O2 := hide ho2
      have hq2 := Q2.out
      rw [hsz] at hq2
      have hq3 := blk_cell (i := 0) hq2 rfl
      have hq4 := blk_free (i := 0) hq2
      simp only [List.getElem_toArray, List.getElem_cons_zero] at hq3
      have hcx2 := blk_cell (i := 0) B2.out rfl
      simp only [List.getElem_toArray, List.getElem_cons_zero] at hcx2
      clear ho2 hu2
      refine hK _ _ (.inr hcx2) ?_
      clear hK K
      try simp only [Act.put, List.setIfInBounds_toArray, List.set_cons_succ, List.set_cons_zero]
      refine wpAnyZ_one 3 (by kernel_rfl) rfl rfl (fun K hK => ?_)
      try simp only [List.getElem_toArray, List.getElem_cons_succ, List.getElem_cons_zero]
      go_simp
      refine (synced_any _ D2.out).mono ?_
      rintro e w3 ⟨rfl, rfl⟩
      refine hK _ _ (.inr hcx2) ?_
      clear hK K
      try simp only [Act.put, List.setIfInBounds_toArray, List.set_cons_succ, List.set_cons_zero]
      refine wpAnyZ_one 5 (by kernel_rfl) rfl rfl (fun K hK => ?_)
      try simp only [List.getElem_toArray, List.getElem_cons_succ, List.getElem_cons_zero]
      go_simp
      refine hK _ _ (.inr hcx2) ?_
      clear hK K
      try simp only [Act.put, List.setIfInBounds_toArray, List.set_cons_succ, List.set_cons_zero]
      refine wpAnyZ_one 6 (by kernel_rfl) rfl rfl (fun K hK => ?_)
      try simp only [List.getElem_toArray, List.getElem_cons_succ, List.getElem_cons_zero]
      go_simp
      refine hK _ _ (.inl rfl) ?_
      clear hK K
      refine wpAnyZ_done (by kernel_rfl) ?_ _
      go_wp2_with fail
      go_meet
      exact Mid.intro (x0 := .int .i64 0) (owns_mono O2.out (by simp; omega)) (by omega) (fun g hg => by have := (owns_lt O2.out g hg).1; simp at this; omega) hq2 B2.out U2.out
  case rest =>
  obtain ⟨q, ao, cap, rfl, rfl, ho, hq, hne, hbq, hbp, hu⟩ := hcut
  obtain ⟨ao', cap', heq, hcap1, hcap2, -⟩ := owns_slice ho
  cases heq
  have hsyn := hok.syn
  have hst' := hst.upd hu (by simp)
  have HST := hide hst'
  have hsrc := src_own ho (by simp [u8v, Value.oneCell'])
  have HO := hide ho; have HS := hide hsrc; have HNE := hide hne; have BQ := hide hbq; have BP := hide hbp; have U := hide hu
  have cq := blk_cell (i := 0) hbq rfl
  have cp := blk_cell (i := 0) hbp rfl
  simp only [List.getElem_toArray, List.getElem_cons_zero] at cq cp
  clear ho hsrc hne hbq hbp hu hst hst'
  have r1 := run_cut_h (P := Tryz.prog) 39 5 Tryz.underlying39 sizeB ao d.byt.length cap d.syn (d.syn : Int) rfl (by omega)
  have r2 := run_cut_l (P := Tryz.prog) 39 5 Tryz.underlying39 sizeB ao d.byt.length cap d.syn (d.syn : Int) rfl hsyn
  go_wp2_with fail
  refine (all_any (bs := d.byt.take d.syn) _ HST.out (src_head HS.out hsyn hcap1) (by omega) (by exact hcap2) (by omega)).mono ?_
  rintro e w1 ⟨v1, vs1, rfl, ho1, hu1⟩
  obtain ⟨l1, at1, e1, hal1⟩ : ∃ l1 at1 e1, all (d.byt.take d.syn) = (l1, at1, e1) := ⟨_, _, _, rfl⟩
  rw [hal1] at ho1
  rw [hal1]
  have AL1 := hide hal1; have O1 := hide ho1; have U1 := hide (U.out.trans hu1); have V1 := hide hu1
  clear hal1 ho1
  by_cases he : e1 = 0
  · subst he
    have cq1 := blk_cell (i := 0) (hu1.get BQ.out (by simp)) rfl
    have cp1 := blk_cell (i := 0) (hu1.get BP.out (by simp)) rfl
    simp only [List.getElem_toArray, List.getElem_cons_zero] at cq1 cp1
    clear hu1
    go_wp2_with fail
    refine (all_any (bs := d.byt.drop d.syn) _ (HST.out.upd V1.out (by simp)) (src_upd_nil (by have := src_cut HS.out hsyn (Nat.le_refl _) hcap1 (Nat.le_refl _); rwa [List.take_of_length_le (by simp)] at this) V1.out) (by omega) (by omega) (by omega)).mono ?_
    rintro e w2 ⟨v2, vs2, rfl, ho2, hu2⟩
    have U2 := hide (U1.out.trans hu2)
    obtain ⟨l2, at2, e2, hal2⟩ : ∃ l2 at2 e2, all (d.byt.drop d.syn) = (l2, at2, e2) := ⟨_, _, _, rfl⟩
    rw [hal2] at ho2
    rw [hal2]
    have AL2 := hide hal2; have O2 := hide ho2
    have cq2 := blk_cell (i := 0) ((V1.out.trans hu2).get BQ.out (by simp)) rfl
    have cp2 := blk_cell (i := 0) ((V1.out.trans hu2).get BP.out (by simp)) rfl
    simp only [List.getElem_toArray, List.getElem_cons_zero] at cq2 cp2
    have O1K := O1
    have O2K := hide ho2
    have hv1 : ∀ g, v1.ownBlock = some g → g < w1.heap.size := fun g hg => (owns_lt O1.out.row g hg).2
    have hat : at2 ≤ d.byt.length - d.syn := by
      have := all_le _ (d.byt.drop d.syn) (Nat.le_refl _)
      rw [hal2] at this
      simpa using this
    have hw3 := ((V1.out.trans hu2).alloc (.cells #[.int .i64 (at2 : Nat)] 3 (0, 0)))
    have Q3 := hide (hw3.get BQ.out (by simp)); have P3 := hide (hw3.get BP.out (by simp)); have A3 := hide (blk_new w2 (.cells #[.int .i64 (at2 : Nat)] 3 (0, 0)))
    have O13 := hide (O1.out.upd (hu2.alloc (.cells #[.int .i64 (at2 : Nat)] 3 (0, 0))) (by simp)); have O23 := hide (ho2.upd ((Upd.refl [] w2).alloc (.cells #[.int .i64 (at2 : Nat)] 3 (0, 0))) (by simp))
    have U3 := hide (U.out.trans hw3); have S2 := hide (V1.out.trans hu2).size
    have cp3 := blk_cell (i := 0) P3.out rfl
    simp only [List.getElem_toArray, List.getElem_cons_zero] at cp3
    have hu2s := hu2.size
    clear hu2 ho2 hal2 hw3 cq1 cp1 cq2 cp2 cq cp O1 O2 U2
    have hs3 : (w2.alloc (.cells #[.int .i64 (at2 : Nat)] 3 (0, 0))).heap.size = w2.heap.size + 1 := by simp
    have hDl := blk_lt H.out.hD
    have hOl : ∀ k, bv.ownBlock = some k → k < w.heap.size := fun k hk => (owns_lt H.out.row k hk).2
    have hwc := U.out.size
    have hs23 := S2.out
    have HD3 := hide (H.out.upd U3.out (by simp) (by simp)); have HOL := hide hOl; have HDL := hide hDl; have HWC := hide hwc
    have V1L := hide hv1
    have hs12 := hu2s
    clear hOl hv1
    go_wp2_with fail
    generalize hw3 : w2.alloc (.cells #[.int .i64 (at2 : Nat)] 3 (0, 0)) = w3 at *
    have B4 := blk_new w3 (.cells #[.func (.func 59) #[] #[.pointer (some ⟨w.heap.size, 0, none⟩), .pointer (some ⟨q, 0, none⟩), .pointer (some ⟨w2.heap.size, 0, none⟩)], .func (.func 61) #[.pointer (some ⟨D, 0, none⟩)] #[]] 47 (0, 0))
    rw [hs3] at B4
    have ha4 := (Upd.refl [] w3).alloc (.cells #[.func (.func 59) #[] #[.pointer (some ⟨w.heap.size, 0, none⟩), .pointer (some ⟨q, 0, none⟩), .pointer (some ⟨w2.heap.size, 0, none⟩)], .func (.func 61) #[.pointer (some ⟨D, 0, none⟩)] #[]] 47 (0, 0))
    generalize hw4 : w3.alloc (.cells #[.func (.func 59) #[] #[.pointer (some ⟨w.heap.size, 0, none⟩), .pointer (some ⟨q, 0, none⟩), .pointer (some ⟨w2.heap.size, 0, none⟩)], .func (.func 61) #[.pointer (some ⟨D, 0, none⟩)] #[]] 47 (0, 0)) = w4 at *
    have h4 := HD3.out.upd ha4 (by simp) (by simp)
    have hu4 := U3.out.trans ha4
    have hp4 := blk_cell (i := 0) (ha4.get P3.out (by simp)) rfl
    have hq4 := blk_cell (i := 0) (ha4.get Q3.out (by simp)) rfl
    have hr4 := blk_cell (i := 0) (ha4.get A3.out (by simp)) rfl
    simp only [List.getElem_toArray, List.getElem_cons_zero] at hp4 hq4 hr4
    refine (steps_any w4 h4 hD (Nat.le_trans hb hu4.size) hok hd B4 hp4 hq4 hr4 hat (by have := HDL.out; omega) (fun h0 => by have := HOL.out _ h0; omega)).mono ?_
    rintro e w5 ⟨x, rfl, rfl, bv5, h5, hn5⟩
    have hn := (hn5.pre hu4 HDL.out)
    have hs45 := hn5.size
    have hp5 : w5.heap[w.heap.size]? = some (.cells #[.pointer (some ⟨D, 0, none⟩)] 29 (0, 0)) := by
      rw [hn5.block (blk_lt (ha4.get P3.out (by simp))) (by have := HDL.out; omega) (fun ho => by have := HOL.out _ (h4.ownAt.1 ho); omega)]
      exact ha4.get P3.out (by simp)
    have cp5 := blk_cell (i := 0) hp5 rfl
    simp only [List.getElem_toArray, List.getElem_cons_zero] at cp5
    have o1 := (O13.out.upd ha4 (by simp)).near h4 hn5 (by have := HDL.out; omega) (fun k hk => by have := HOL.out k hk; omega)
    have o2 := (O23.out.upd ha4 (by simp)).near h4 hn5 (by have := HDL.out; have := V1.out.size; omega) (fun k hk => by have := HOL.out k hk; have := V1.out.size; omega)
    have hno : ∀ k, bv5.ownBlock = some k → k < w.heap.size ∨ w2.heap.size + 2 ≤ k := fun k hk => by
      rcases hn5.own k (h5.ownAt.2 hk) with h6 | h6
      · exact .inl (HOL.out k (h4.ownAt.1 h6))
      · have := ha4.size; have := blk_lt B4; exact .inr (by omega)
    have hc1 : l1.length ≤ d.syn := by
      have h6 := all_count _ (d.byt.take d.syn) (Nat.le_refl _)
      have h7 := all_le _ (d.byt.take d.syn) (Nat.le_refl _)
      rw [AL1.out] at h6 h7
      rw [List.length_take] at h7
      simp only at h6 h7
      omega
    have hc2 : l2.length ≤ d.byt.length - d.syn := by
      have h6 := all_count _ (d.byt.drop d.syn) (Nat.le_refl _)
      rw [AL2.out] at h6
      simp only at h6
      omega
    have NO := hide hno; have C1 := hide hc1; have C2 := hide hc2
    clear hno hc1 hc2
    have N5 := hide hn; have H5 := hide h5; have OA := hide o1; have OB := hide o2; have CP := hide cp5
    have HS5 : Hid (w2.heap.size + 2 ≤ w5.heap.size) := hide (by have := ha4.size; have := blk_lt B4; omega)
    clear hp4 hq4 hr4 h4 hu4 B4 ha4 hw4 hn hn5 hp5 o1 o2 h5 P3 Q3 A3 O13 O23 HD3 U3 hs45 cp3
    go_upto_region 11 with fail
    have e6 := (Upd.refl [] w5).drewN 1
    have OA1 := hide (OA.out.upd e6 (by simp)); have OB1 := hide (OB.out.upd e6 (by simp)); have H51 := hide (H5.out.drewN 1); have N51 := hide (N5.out.post e6 (by simp) HDL.out); have cp6 : (w5.drewN 1).cell? ⟨w.heap.size, 0, none⟩ = some (.pointer (some ⟨D, 0, none⟩)) := CP.out
    have hs6 : (w5.drewN 1).heap.size = w5.heap.size := rfl
    obtain ⟨i0, hi, hz0, hz1, hz2⟩ := info_parts infoR
    obtain ⟨ao2, cap2, rfl, -, -, -⟩ := owns_slice OB.out.row
    clear e6
    have hs65 : w2.heap.size + 2 ≤ (w5.drewN 1).heap.size := HS5.out
    have hvg : ∀ g, v1.ownBlock = some g → wc.heap.size ≤ g := fun g hg => (owns_lt OA.out.row g hg).1
    have hpc := blk_lt BP.out
    have hbn : ∀ k, bv5.ownBlock = some k → v1.ownBlock ≠ some k := fun k hk hv => by
      have h6 := hvg k hv
      have h7 := V1L.out k hv
      rcases NO.out k hk with h8 | h8 <;> omega
    have hpn : w.heap.size ∉ v1.ownBlock.toList := fun hm => by have := hvg _ (by simpa using hm); omega
    have hcw1 : wc.heap.size ≤ w1.heap.size := V1.out.size
    have hfr : ∀ (v : Value) (k : Nat), v.ownBlock ≠ some k → (k < wc.heap.size ∨ w2.heap.size ≤ k) → Free v (vs1 ++ vs2) k := fun v k hv hk => free_join O1K.out O2K.out hcw1 hs12 hv hk
    have hnoc : ∀ k, bv5.ownBlock = some k → k < wc.heap.size ∨ w2.heap.size ≤ k := fun k hk => by
      rcases NO.out k hk with h8 | h8
      · exact .inl (by omega)
      · exact .inr (by omega)
    have FR := hide hfr; have NOC := hide hnoc; have HB5 := hide (fun k (h : bv5.ownBlock = some k) => (owns_lt H5.out.row k h).2)
    have VG := hide hvg; have BN := hide hbn
    clear hfr hnoc
    clear hvg hbn
    refine wp_region_z (fun w' => w'.cell? ⟨w.heap.size, 0, none⟩ = some (.pointer (some ⟨D, 0, none⟩))) 99 (by kernel_rfl) ?_
    refine wpAnyZ_takeE 0 rfl (by kernel_rfl) (by kernel_rfl) (by kernel_rfl) (by kernel_rfl) (fun _ _ _ _ h => h) rfl (by exact cp6) ?_
    apply Exists.intro
    refine ⟨fun wx hS => ?_, ?_⟩
    · have s0 := hS; go_simp; rfl
    simp only [Act.put, List.setIfInBounds_toArray, List.set_cons_succ, List.set_cons_zero, List.getElem_toArray, List.getElem_cons_zero]
    refine wpAnyZ_takeE 1 rfl (by kernel_rfl) (by kernel_rfl) (by kernel_rfl) (by kernel_rfl) (fun _ _ _ _ h => h) rfl (by exact cp6) ?_
    apply Exists.intro
    refine ⟨fun wx hS => ?_, ?_⟩
    · have s0 := hS; go_simp; rfl
    simp only [Act.put, List.setIfInBounds_toArray, List.set_cons_succ, List.set_cons_zero, List.getElem_toArray, List.getElem_cons_succ, List.getElem_cons_zero]
    refine wpAnyZ_takeE 2 rfl (by kernel_rfl) (by kernel_rfl) (by kernel_rfl) (by kernel_rfl) (fun _ _ _ _ h => h) rfl (by exact cp6) ?_
    apply Exists.intro
    refine ⟨fun wx hS => ?_, ?_⟩
    · have s0 := hS; go_simp; rfl
    simp only [Act.put, List.setIfInBounds_toArray, List.set_cons_succ, List.set_cons_zero, List.getElem_toArray, List.getElem_cons_succ, List.getElem_cons_zero]
    refine wpAnyZ_takeE 4 rfl (by kernel_rfl) (by kernel_rfl) (by kernel_rfl) (by kernel_rfl) (fun _ _ _ _ h => h) rfl (by exact cp6) ?_
    apply Exists.intro
    refine ⟨fun wx hS => ?_, ?_⟩
    · have s0 := hS; go_simp; rfl
    simp only [Act.put, List.setIfInBounds_toArray, List.set_cons_succ, List.set_cons_zero, List.getElem_toArray, List.getElem_cons_succ, List.getElem_cons_zero]
    refine wpAnyZ_takeE 5 rfl (by kernel_rfl) (by kernel_rfl) (by kernel_rfl) (by kernel_rfl) (fun _ _ _ _ h => h) rfl (by exact cp6) ?_
    apply Exists.intro
    refine ⟨fun wx hS => ?_, ?_⟩
    · have s0 := hS; go_simp; rfl
    simp only [Act.put, List.setIfInBounds_toArray, List.set_cons_succ, List.set_cons_zero, List.getElem_toArray, List.getElem_cons_succ, List.getElem_cons_zero]
    refine wpAnyZ_takeE 7 rfl (by kernel_rfl) (by kernel_rfl) (by kernel_rfl) (by kernel_rfl) (fun _ _ _ _ h => h) rfl (by exact cp6) ?_
    apply Exists.intro
    refine ⟨fun wx hS => ?_, ?_⟩
    · have s0 := hS; go_simp; rfl
    simp only [Act.put, List.setIfInBounds_toArray, List.set_cons_succ, List.set_cons_zero, List.getElem_toArray, List.getElem_cons_succ, List.getElem_cons_zero]
    generalize hw6 : w5.drewN 1 = w6 at *
    refine wpAnyZ_two 3 6 (by kernel_rfl) rfl rfl rfl rfl (fun K hK => ?_) (fun K hK => ?_)
    · try simp only [List.getElem_toArray, List.getElem_cons_succ, List.getElem_cons_zero]
      go_simp
      have cp7 : (w6.alloc (.cells #[.pointer (some ⟨D, 0, none⟩)] 111 (0, 0))).cell? ⟨w.heap.size, 0, none⟩ = some (.pointer (some ⟨D, 0, none⟩))  := cell_keep ((Upd.refl [] w6).alloc _) cp6 (by simp)
      have al6 := (Upd.refl [] w6).alloc (.cells #[.pointer (some ⟨D, 0, none⟩)] 111 (0, 0))
      have OA2 := hide (OA1.out.upd al6 (by simp)); have OB2 := hide (OB1.out.upd al6 (by simp)); have H52 := hide (H51.out.upd al6 (by simp) (by simp)); have N52 := hide (N51.out.post al6 (by simp) HDL.out); have L2 := hide (blk_new w6 (.cells #[.pointer (some ⟨D, 0, none⟩)] 111 (0, 0)))
      refine hK _ _ (.inr cp7) ?_
      clear hK K
      try simp only [Act.put, List.setIfInBounds_toArray, List.set_cons_succ, List.set_cons_zero]
      refine wpAnyZ_one 6 (by kernel_rfl) rfl rfl (fun K hK => ?_)
      try simp only [List.getElem_toArray, List.getElem_cons_succ, List.getElem_cons_zero]
      refine wp_append_src _ _ _ 65 rfl wc.heap.size 39 i0 (.slice none 0 0) 1 24 Tryz.underlying65 hi hz0 hz1 hz2 rfl (by decide) v1 l1.length vs1 rfl (by exact (OA2.out).row) ao2 l2.length cap2 vs2 rfl (by exact src_of_owns (OB2.out).row (OB2.out).ones) (by have := C1.out; have := C2.out; unfold maxLen; omega) (by have := C1.out; have := C2.out; omega) (by simp; omega) ?_
      intro ao7 cap7 w7 hown7 hU7 hn7
      have j7 := hide (OA2.out.join OB2.out (by have := V1.out.size; omega) V1L.out hU7 hown7 rfl rfl hn7)
      have L7 := hide (hU7.get L2.out (fun hm => by have := V1L.out _ (by simpa using hm); omega))
      have HN7 := hide (opened N52.out H52.out hU7 (fun g hg => by have := VG.out g hg; omega) HDL.out BN.out)
      have cp8 := cell_keep hU7 cp7 hpn
      have hvn : ∀ k, (k < wc.heap.size ∨ bv5.ownBlock = some k) → (Value.slice ao7 (l1.length + l2.length) cap7).ownBlock ≠ some k := fun k hk h => by
        rcases hn7 k h with h1 | h1
        · rcases hk with hk | hk
          · have := VG.out k h1; omega
          · exact BN.out k hk h1
        · simp only [World.size_alloc] at h1
          rcases hk with hk | hk
          · omega
          · have := HB5.out k hk; omega
      have VN := hide hvn
      clear hown7 hU7 hn7 hvn
      refine hK _ _ (.inr cp8) ?_
      clear hK K
      try simp only [Act.put, List.setIfInBounds_toArray, List.set_cons_succ, List.set_cons_zero]
      refine wpAnyZ_one 8 (by kernel_rfl) rfl rfl (fun K hK => ?_)
      try simp only [List.getElem_toArray, List.getElem_cons_succ, List.getElem_cons_zero]
      go_simp
      refine hK _ _ (.inr cp8) ?_
      clear hK K
      try simp only [Act.put, List.setIfInBounds_toArray, List.set_cons_succ, List.set_cons_zero]
      refine wpAnyZ_one 9 (by kernel_rfl) rfl rfl (fun K hK => ?_)
      try simp only [List.getElem_toArray, List.getElem_cons_succ, List.getElem_cons_zero]
      go_simp
      refine hK _ _ (.inr cp8) ?_
      clear hK K
      try simp only [Act.put, List.setIfInBounds_toArray, List.set_cons_succ, List.set_cons_zero]
      refine wpAnyZ_one 10 (by kernel_rfl) rfl rfl (fun K hK => ?_)
      try simp only [List.getElem_toArray, List.getElem_cons_succ, List.getElem_cons_zero]
      go_simp
      refine hK _ _ (.inr cp8) ?_
      clear hK K
      try simp only [Act.put, List.setIfInBounds_toArray, List.set_cons_succ, List.set_cons_zero]
      refine wpAnyZ_done (by kernel_rfl) ?_ _
      go_wp2_with fail
      go_ret3
      unfold OpenSays
      rw [AL1.out, AL2.out]
      have l7 := L7.out
      rw [hs6] at l7
      exact .inr ⟨rfl, w5.heap.size, _, _, bv5, rfl, l7, by omega, fun h => by have := (owns_lt H51.out.row _ h).2; omega, ⟨j7.out.mono (by omega), FR.out _ _ (VN.out _ (.inl (by have := HDL.out; omega))) (.inl (by have := HDL.out; omega)), fun k hk => by have hk' := HN7.out.1.ownAt.1 hk; exact FR.out _ _ (VN.out _ (.inr hk')) (NOC.out k hk')⟩, HN7.out.1, HN7.out.2⟩
    · try simp only [List.getElem_toArray, List.getElem_cons_succ, List.getElem_cons_zero]
      refine wp_append_src _ _ _ 65 rfl wc.heap.size 39 i0 (.slice none 0 0) 1 24 Tryz.underlying65 hi hz0 hz1 hz2 rfl (by decide) v1 l1.length vs1 rfl (by exact (OA1.out).row) ao2 l2.length cap2 vs2 rfl (by exact src_of_owns (OB1.out).row (OB1.out).ones) (by have := C1.out; have := C2.out; unfold maxLen; omega) (by have := C1.out; have := C2.out; omega) (by omega) ?_
      intro ao7 cap7 w7 hown7 hU7 hn7
      have j7 := (OA1.out.join OB1.out (by have := V1.out.size; omega) V1L.out hU7 hown7 rfl rfl hn7)
      have hn7' := (opened N51.out H51.out hU7 (fun g hg => by have := VG.out g hg; omega) HDL.out BN.out)
      have cp7 := cell_keep hU7 cp6 hpn
      have hs67 := hU7.size
      have al7 := (Upd.refl [] w7).alloc (.cells #[.pointer (some ⟨D, 0, none⟩)] 111 (0, 0))
      have cp8 := cell_keep al7 cp7 (by simp)
      have J8 := hide (j7.upd al7 (by simp)); have H8 := hide (hn7'.1.upd al7 (by simp) (by simp)); have N8 := hide (hn7'.2.post al7 (by simp) HDL.out); have L8 := hide (blk_new w7 (.cells #[.pointer (some ⟨D, 0, none⟩)] 111 (0, 0))); have HOW := hide (fun k (h : bv5.ownBlock = some k) => (owns_lt hn7'.1.row k h).2)
      have hvn : ∀ k, (k < wc.heap.size ∨ bv5.ownBlock = some k) → (Value.slice ao7 (l1.length + l2.length) cap7).ownBlock ≠ some k := fun k hk h => by
        rcases hn7 k h with h1 | h1
        · rcases hk with hk | hk
          · have := VG.out k h1; omega
          · exact BN.out k hk h1
        · rcases hk with hk | hk
          · omega
          · have := HB5.out k hk; omega
      have VN := hide hvn
      clear hvn
      clear hown7 hU7 hn7 hn7' j7 al7
      refine hK _ _ (.inr cp7) ?_
      clear hK K
      try simp only [Act.put, List.setIfInBounds_toArray, List.set_cons_succ, List.set_cons_zero]
      refine wpAnyZ_one 3 (by kernel_rfl) rfl rfl (fun K hK => ?_)
      try simp only [List.getElem_toArray, List.getElem_cons_succ, List.getElem_cons_zero]
      go_simp
      refine hK _ _ (.inr cp8) ?_
      clear hK K
      try simp only [Act.put, List.setIfInBounds_toArray, List.set_cons_succ, List.set_cons_zero]
      refine wpAnyZ_one 8 (by kernel_rfl) rfl rfl (fun K hK => ?_)
      try simp only [List.getElem_toArray, List.getElem_cons_succ, List.getElem_cons_zero]
      go_simp
      refine hK _ _ (.inr cp8) ?_
      clear hK K
      try simp only [Act.put, List.setIfInBounds_toArray, List.set_cons_succ, List.set_cons_zero]
      refine wpAnyZ_one 9 (by kernel_rfl) rfl rfl (fun K hK => ?_)
      try simp only [List.getElem_toArray, List.getElem_cons_succ, List.getElem_cons_zero]
      go_simp
      refine hK _ _ (.inr cp8) ?_
      clear hK K
      try simp only [Act.put, List.setIfInBounds_toArray, List.set_cons_succ, List.set_cons_zero]
      refine wpAnyZ_one 10 (by kernel_rfl) rfl rfl (fun K hK => ?_)
      try simp only [List.getElem_toArray, List.getElem_cons_succ, List.getElem_cons_zero]
      go_simp
      refine hK _ _ (.inr cp8) ?_
      clear hK K
      try simp only [Act.put, List.setIfInBounds_toArray, List.set_cons_succ, List.set_cons_zero]
      refine wpAnyZ_done (by kernel_rfl) ?_ _
      go_wp2_with fail
      go_ret3
      unfold OpenSays
      rw [AL1.out, AL2.out]
      exact .inr ⟨rfl, w7.heap.size, _, _, bv5, rfl, L8.out, by omega, fun h => by have := HOW.out _ h; omega, ⟨J8.out.mono (by omega), FR.out _ _ (VN.out _ (.inl (by have := HDL.out; omega))) (.inl (by have := HDL.out; omega)), fun k hk => by have hk' := H8.out.ownAt.1 hk; exact FR.out _ _ (VN.out _ (.inr hk')) (NOC.out k hk')⟩, H8.out, N8.out⟩
  · have q : (e1 == 0) = false := by simpa using he
    have q2 : (e1 != 0) = true := by simpa using he
    have HE := hide he
    clear he hu1
    go_wp2_with fail
    go_ret3
    unfold OpenSays
    rw [AL1.out]
    exact .inl ⟨HE.out, rfl, U1.out⟩
end Go.Proofs.YtekbhfpdakhhkaaGreatDoor.Rec
namespace Go.Proofs.YtekbhfpdakhhkaaGreatDoor.Rec
set_option maxRecDepth 100000
open Go.RowKit Go.Proofs.YtekbhfpdakhhkaaGreatDoor.Var Go.Proofs.YtekbhfpdakhhkaaGreatDoor.Crc Go.Proofs.YtekbhfpdakhhkaaGreatDoor.Fr Go.Proofs.YtekbhfpdakhhkaaGreatDoor.DiskW

/-- What Append does to the disk, and answers. -/
def _root_.Go.Proofs.YtekbhfpdakhhkaaGreatDoor.DS.log (d : DS) (ins : List UInt8) : DS × Int := if d.dead then (d, 20) else if ins.length = 0 ∨ 65536 < ins.length then (d, 3) else d.append (fr ins)
set_option maxHeartbeats 400000 in
theorem append_nil {bo : Option Addr} {bl bc : Nat} (w : World) : Calls Tryz.prog 71 #[.pointer none, .slice bo bl bc] w fun e w' => e = .returned (.int .i64 2) ∧ w = w' := by
  go_enter Tryz.func71, Tryz.ntmps71
  go_wp2_with fail
  go_ret
  exact ⟨rfl, rfl⟩
set_option maxHeartbeats 400000 in
theorem sync_nil (w : World) : Calls Tryz.prog 37 #[.pointer none] w fun e w' => e = .returned (.int .i64 2) ∧ w = w' := by
  go_enter Tryz.func37, Tryz.ntmps37
  go_wp2_with fail
  go_ret
  exact ⟨rfl, rfl⟩
set_option maxHeartbeats 400000 in
theorem lsync_any {D base L : Nat} {bv : Value} {d : DS} (w : World) (h : DiskAt w D base bv d) (hD : base ≤ D) (hb : base ≤ w.heap.size) (hL : w.heap[L]? = some (.cells #[.pointer (some ⟨D, 0, none⟩)] 111 (0, 0))) :
    Calls Tryz.prog 37 #[.pointer (some ⟨L, 0, none⟩)] w fun e w' => Done w D base d.sync e w' := by
  have c0 := blk_cell (i := 0) hL rfl
  simp only [List.getElem_toArray, List.getElem_cons_zero] at c0
  have H := hide h
  clear h
  go_enter Tryz.func37, Tryz.ntmps37
  go_wp2_with fail
  refine (sync_any _ H.out hD hb).mono ?_
  rintro e w1 ⟨v, rfl, rfl, h1⟩
  have H1 := hide h1
  clear h1
  go_wp2_with fail
  go_ret
  exact ⟨_, rfl, rfl, H1.out⟩
set_option maxHeartbeats 1000000 in
theorem lappend_any {D base L : Nat} {bv : Value} {d : DS} {bo : Option Addr} {bl bc : Nat} {bs : List UInt8} (w : World) (h : DiskAt w D base bv d) (hD : base ≤ D) (hb : base ≤ w.heap.size) (hL : w.heap[L]? = some (.cells #[.pointer (some ⟨D, 0, none⟩)] 111 (0, 0)))
    (hst : TabAt w) (hs : SrcAt w bo bl bc (bs.map u8v) 1) (hok : d.Ok 1000000000000) (hl : bl ≤ 65536) :
    Calls Tryz.prog 71 #[.pointer (some ⟨L, 0, none⟩), .slice bo bl bc] w fun e w' => Done w D base (d.log bs) e w' := by
  have c0 := blk_cell (i := 0) hL rfl
  simp only [List.getElem_toArray, List.getElem_cons_zero] at c0
  have hlen : bs.length = bl := by have := hs.len; simpa using this
  have hdl := blk_lt h.hD
  have H := hide h; have HST := hide hst; have HS := hide hs; have HL := hide hlen; have HOK := hide hok
  clear h hst hs hlen hok
  go_enter Tryz.func71, Tryz.ntmps71
  go_wp2_with fail
  refine (dead_any _ H.out).mono ?_
  rintro e w1 ⟨rfl, rfl⟩
  cases hd : d.dead with
  | true =>
    go_wp2_with fail
    go_ret
    have e1 : d.log bs = (d, 20) := by unfold DS.log; rw [hd]; rfl
    rw [e1]
    exact ⟨_, rfl, rfl, bv, H.out, Below.refl _ _, Near.refl _ _⟩
  | false =>
    by_cases h0 : bl = 0
    · subst h0
      go_wp2_with fail
      refine (put_long _ (.inl rfl)).mono ?_
      rintro e w1 ⟨rfl, rfl⟩
      go_wp2_with fail
      go_ret
      have e1 : d.log bs = (d, 3) := by unfold DS.log; rw [hd, HL.out]; rfl
      rw [e1]
      exact ⟨_, rfl, rfl, bv, H.out, Below.refl _ _, Near.refl _ _⟩
    · go_wp2_with fail
      refine (put_any (base := w.heap.size) (bs := []) (ins := bs) _ HST.out ⟨rfl, .inl ⟨rfl, rfl⟩⟩ (Nat.le_refl _) (by simp) HS.out (by omega) (by omega) (fun a _ h => by cases h)).mono ?_
      rintro e w1 ⟨v1, rfl, hg⟩
      have ho1 := hg.own
      rw [List.nil_append] at ho1
      obtain ⟨ao1, cap1, rfl, hc1, hc2, -⟩ := owns_slice ho1
      have hu1 : Upd [] w w1 := hg.upd
      have e1 : d.log bs = d.append (fr bs) := by unfold DS.log; rw [hd, HL.out, if_neg (by simp), if_neg (by omega)]
      have hfl : (fr bs).length ≤ 1000000 := by rw [fr_len]; have := HL.out; have := uv_len10 (n := bs.length) (by omega); omega
      have D1 := hide (H.out.upd hu1 (by simp) (by simp)); have S1 := hide (src_own ho1 (by simp [u8v, Value.oneCell'])); have U1 := hide hu1
      have hs1 := hu1.size
      have c1 := cell_keep hu1 c0 (by simp)
      clear ho1 hg hu1
      go_wp2_with fail
      refine (append_any (bs := fr bs) _ D1.out hD (by omega) S1.out hc1 (by omega) HOK.out).mono ?_
      rintro e w2 hdn
      have hdn := Done.pre hdn U1.out hdl hb
      obtain ⟨v, rfl, rfl, h2⟩ := hdn
      have H2 := hide h2
      clear h2
      go_wp2_with fail
      go_ret
      rw [e1]
      exact ⟨_, rfl, rfl, H2.out⟩
end Go.Proofs.YtekbhfpdakhhkaaGreatDoor.Rec
