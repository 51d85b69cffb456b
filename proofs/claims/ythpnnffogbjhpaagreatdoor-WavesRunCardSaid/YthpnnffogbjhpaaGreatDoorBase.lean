/- Plain lemmas over any program, for all later texts of this seat: which blocks of memory a call has changed, cells and marks of a block known whole, and one law for a range over a function. -/
import Derived.Test.YthpnnffogbjhpaaGreatDoorProg
import Derived.WalkKit
import Derived.WalkSpells
import Derived.WalkLawsBesides
import Derived.Deep.QuietTactic
import Derived.BigQuiet
import Derived.Lib.Hide
import Derived.RangeFuncNested
import Derived.RangeFuncBound
import Derived.RangeFuncCalls
import Derived.RangeFuncLeaves
import Derived.RangeFuncRecord
import Derived.RangeFuncBox
import Derived.Shelf.Abstract
import Derived.Shelf.RegionOpen
import Derived.OwnWalkIn
import Derived.TacticsInMore
import Derived.LoopNIn
import Derived.LoopIn
import Derived.LoopTactic
import Derived.Deep.Cut
import Derived.Deep.CutBlock
import Derived.Deep.DeepCutAuto
import Derived.Sort.BigQuietIn
import Derived.Sort.QuietTacIn
import Derived.Handy
set_option linter.unusedSimpArgs false
set_option linter.unusedVariables false
set_option linter.unnecessarySimpa false
namespace Go.Proofs.YthpnnffogbjhpaaGreatDoor
open Go.RowKit

theorem hide {p : Prop} (h : p) : Hid p := h
/-! ### quiet calls -/
section
variable {P : Program} {f : FuncId} {args : Array Value} {w : World} {a n : Nat} {v : Value}
end

/-- 'make([]T, n, c)': as a rule of the walk. -/
theorem run_make_rowN {P : Program} (t e : TypeId) (i : TypeInfo) (z : Value) (ht : P.underlying t = some (.slice e)) (hi : P.info? e = some i) (hz : i.zero = some z)
    (kl kc : IntKind) (n c : Nat) (hnc : n ≤ c) (hbytes : i.bytes * c ≤ 281474976710656) (h63 : c ≤ 9223372036854775807) (w : World) :
    (Instr.makeSlice t (.int kl (n : Int)) (.int kc (c : Int))).run P w = .ok (.slice (some ⟨w.heap.size, 0, none⟩) n c) (w.alloc (.cells (madeCells z.cells (c * i.size)) e)) := by
  have hb : (i.bytes : Int) * (c : Int) ≤ 281474976710656 := by
    have h : ((i.bytes * c : Nat) : Int) ≤ 281474976710656 := by omega
    rwa [Int.natCast_mul] at h
  have hr := run_make (P := P) w t e i z ht hi hz kl kc n c (by omega) (by omega) hb (by omega)
  simp only [Int.toNat_natCast] at hr
  exact hr

/-! ### blocks -/
section
variable {w : World} {b i : Nat} {cs : Array Value} {t : TypeId} {v : Value}
theorem blk_cell (h : w.heap[b]? = some (.cells cs t (0, 0))) (hv : cs[i]? = some v) : w.cell? ⟨b, i, none⟩ = some v := by
  simp [World.cell?, h, hv]
theorem blk_free (h : w.heap[b]? = some (.cells cs t (0, 0))) : w.frozen? ⟨b, i, none⟩ = false := by
  simp [World.frozen?, h]
theorem blk_lt {o : Obj} (h : w.heap[b]? = some o) : b < w.heap.size := lt_of_block h
theorem blk_set (h : w.heap[b]? = some (.cells cs t (0, 0))) (u : Value) : (w.setCell ⟨b, i, none⟩ u).heap[b]? = some (.cells (cs.setIfInBounds i u) t (0, 0)) := by
  have hlt := blk_lt h
  have h' : w.heap[b] = .cells cs t (0, 0) := by simpa [Array.getElem?_eq_getElem hlt] using h
  show (w.heap.modify b _)[b]? = _
  rw [Array.getElem?_eq_getElem (by simpa using hlt), Array.getElem_modify_self, h']
  rfl
theorem blk_set_other {o : Option Obj} {c : Nat} (h : w.heap[b]? = o) (hne : b ≠ c) (u : Value) : (w.setCell ⟨c, i, none⟩ u).heap[b]? = o := by
  rw [Below.heap_setCell _ _ _ _ hne, h]
theorem blk_new (w : World) (o : Obj) : (w.alloc o).heap[w.heap.size]? = some o := World.alloc_heap_new w o
theorem blk_alloc {o : Obj} (h : w.heap[b]? = some o) (o' : Obj) : (w.alloc o').heap[b]? = some o := by
  rw [Below.heap_alloc _ _ _ (blk_lt h), h]
theorem size_setCell (w : World) (p : Addr) (u : Value) : (w.setCell p u).heap.size = w.heap.size := by simp [World.setCell]
end

/-- What a step may have changed: the blocks of S, and what is new. -/
structure Upd (S : List Nat) (w w' : World) : Prop where
  os : w'.os = w.os
  tape : w'.tape = w.tape
  output : w'.output = w.output
  size : w.heap.size ≤ w'.heap.size
  block : ∀ k, k < w.heap.size → k ∉ S → w'.heap[k]? = w.heap[k]?

namespace Upd
variable {S T : List Nat} {a w w' : World}
theorem refl (S : List Nat) (w : World) : Upd S w w := ⟨rfl, rfl, rfl, Nat.le_refl _, fun _ _ _ => rfl⟩
theorem trans {b c : World} (h : Upd S a b) (k : Upd S b c) : Upd S a c :=
  ⟨k.os.trans h.os, k.tape.trans h.tape, k.output.trans h.output, Nat.le_trans h.size k.size,
   fun i hi hS => (k.block i (Nat.lt_of_lt_of_le hi h.size) hS).trans (h.block i hi hS)⟩
theorem mono (h : Upd S a w) (hST : ∀ k, k ∈ S → k ∈ T) : Upd T a w := ⟨h.os, h.tape, h.output, h.size, fun i hi hT => h.block i hi (fun hS => hT (hST i hS))⟩
theorem trans_new {b c : World} (h : Upd S a b) (k : Upd T b c) (hT : ∀ k, k ∈ T → k ∈ S ∨ a.heap.size ≤ k) : Upd S a c :=
  ⟨k.os.trans h.os, k.tape.trans h.tape, k.output.trans h.output, Nat.le_trans h.size k.size,
   fun i hi hS => (k.block i (Nat.lt_of_lt_of_le hi h.size) (fun hk => by rcases hT i hk with h1 | h1; exact hS h1; omega)).trans (h.block i hi hS)⟩
theorem drewN (h : Upd S a w) (n : Nat) : Upd S a (w.drewN n) := ⟨h.os, h.tape, h.output, h.size, h.block⟩
theorem drew (h : Upd S a w) : Upd S a w.drew := ⟨h.os, h.tape, h.output, h.size, h.block⟩
theorem alloc (h : Upd S a w) (o : Obj) : Upd S a (w.alloc o) :=
  ⟨h.os, h.tape, h.output, Nat.le_trans h.size (by simp), fun i hi hS => (Below.heap_alloc _ _ _ (Nat.lt_of_lt_of_le hi h.size)).trans (h.block i hi hS)⟩
theorem setCell (h : Upd S a w) {p : Addr} (hp : p.block ∈ S ∨ a.heap.size ≤ p.block) (u : Value) : Upd S a (w.setCell p u) :=
  ⟨h.os, h.tape, h.output, by rw [size_setCell]; exact h.size, fun i hi hS => (Below.heap_setCell _ _ _ _ (by
    rintro rfl
    rcases hp with h1 | h1
    · exact hS h1
    · omega)).trans (h.block i hi hS)⟩
theorem putObj (h : Upd S a w) {l : Nat} (hp : l ∈ S ∨ a.heap.size ≤ l) (o : Obj) : Upd S a (w.putObj l o) :=
  ⟨h.os, h.tape, h.output, by rw [World.putObj_size]; exact h.size, fun i hi hS => (World.putObj_heap_other (by
    rintro rfl
    rcases hp with h1 | h1
    · exact hS h1
    · omega)).trans (h.block i hi hS)⟩
theorem below {B : Nat} (h : Upd S a w) (hS : ∀ k, k ∈ S → B ≤ k) (hB : B ≤ a.heap.size) : Below B a w :=
  ⟨h.os, h.tape, h.output, h.size, fun i hi => h.block i (by omega) (fun hk => by have := hS i hk; omega)⟩
theorem below_nil (h : Upd [] a w) : Below a.heap.size a w := h.below (fun k hk => by cases hk) (Nat.le_refl _)
theorem of_below (h : Below a.heap.size a w) (S : List Nat) : Upd S a w := ⟨h.os, h.tape, h.output, h.size, fun i hi _ => h.block i hi⟩
theorem get {b : Nat} {o : Obj} (h : Upd S w w') (hb : w.heap[b]? = some o) (hS : b ∉ S) : w'.heap[b]? = some o :=
  (h.block b (blk_lt hb) hS).trans hb
theorem of_grownBy {row : Option Nat} (hg : w.grownBy w' row) (hr : ∀ k, row = some k → k ∈ S) : Upd S w w' :=
  ⟨hg.os, hg.tape, hg.output, hg.size, fun k hk hS => hg.block k hk (fun e => hS (hr k e.symm))⟩
end Upd

/-- The blocks of K lie as they lay. -/
def Keeps (K : List Nat) (w w' : World) : Prop := w.heap.size ≤ w'.heap.size ∧ ∀ k, k ∈ K → w'.heap[k]? = w.heap[k]?
theorem Keeps.refl (K : List Nat) (w : World) : Keeps K w w := ⟨Nat.le_refl _, fun _ _ => rfl⟩
theorem Keeps.trans {K : List Nat} {a b c : World} (h : Keeps K a b) (k : Keeps K b c) : Keeps K a c := ⟨Nat.le_trans h.1 k.1, fun i hi => (k.2 i hi).trans (h.2 i hi)⟩
theorem Keeps.get {K : List Nat} {w w' : World} {b : Nat} {o : Obj} (h : Keeps K w w') (hb : w.heap[b]? = some o) (hk : b ∈ K) : w'.heap[b]? = some o := (h.2 b hk).trans hb
theorem Keeps.of_upd {K S : List Nat} {w w' : World} (h : Upd S w w') (hk : ∀ k, k ∈ K → k ∉ S ∧ k < w.heap.size) : Keeps K w w' :=
  ⟨h.size, fun i hi => h.block i (hk i hi).2 (hk i hi).1⟩

theorem Keeps.setCell (w : World) {K : List Nat} {p : Addr} (hp : p.block ∉ K) (u : Value) : Keeps K w (w.setCell p u) :=
  ⟨by rw [size_setCell]; exact Nat.le_refl _, fun k hk => Below.heap_setCell _ _ _ _ (fun e => hp (e ▸ hk))⟩
theorem Keeps.alloc (w : World) {K : List Nat} (hK : ∀ k, k ∈ K → k < w.heap.size) (o : Obj) : Keeps K w (w.alloc o) :=
  ⟨by simp, fun k hk => Below.heap_alloc _ _ _ (hK k hk)⟩
theorem Keeps.drewN (w : World) (K : List Nat) (n : Nat) : Keeps K w (w.drewN n) := ⟨Nat.le_refl _, fun _ _ => rfl⟩

/-! ### rows that the call owns -/
theorem owns_upd {w w' : World} {S : List Nat} {base : Nat} {e : TypeId} {size : Nat} {v : Value} {n : Nat} {xs : List Value} (h : w.ownsRow base e size v n xs) (hu : Upd S w w')
    (hne : ∀ k, v.ownBlock = some k → k ∉ S) : w'.ownsRow base e size v n xs := by
  refine ⟨h.1, ?_⟩
  rcases h.2 with h1 | ⟨g, cap, cur, hv, hg, hh, r⟩
  · exact .inl h1
  · exact .inr ⟨g, cap, cur, hv, hg, hu.get hh (hne g (by rw [hv]; rfl)), r⟩
/-- An owned row is a slice whose cells read as said. -/
theorem owns_slice {w : World} {base : Nat} {e : TypeId} {size : Nat} {v : Value} {n : Nat} {xs : List Value} (h : w.ownsRow base e size v n xs) :
    ∃ ao cap, v = .slice ao n cap ∧ n ≤ cap ∧ cap ≤ maxLen ∧ ∀ j u, xs[j]? = some u → ∃ g, ao = some ⟨g, 0, none⟩ ∧ base ≤ g ∧ g < w.heap.size ∧ w.cell? ⟨g, j, none⟩ = some u := by
  obtain ⟨hlen, h1⟩ := h
  rcases h1 with ⟨rfl, rfl⟩ | ⟨g, cap, cur, rfl, hg, hh, h1, h2, h3, h4⟩
  · refine ⟨none, 0, rfl, Nat.le_refl _, by simp [maxLen], fun j u hj => ?_⟩
    simp at hlen
    rw [hlen] at hj
    simp at hj
  · refine ⟨some ⟨g, 0, none⟩, cap, rfl, h1, h2, fun j u hj => ⟨g, rfl, hg, blk_lt hh, blk_cell hh ?_⟩⟩
    rw [← h4] at hj
    rw [List.getElem?_take] at hj
    split at hj
    · simpa using hj
    · cases hj
theorem owns_lt {w : World} {base : Nat} {e : TypeId} {size : Nat} {v : Value} {n : Nat} {xs : List Value} (h : w.ownsRow base e size v n xs) : ∀ k, v.ownBlock = some k → base ≤ k ∧ k < w.heap.size := h.lt
/-- What an append has turned. -/
theorem upd_of_grown {w w' : World} {v : Value} (hg : w.grownBy w' v.ownBlock) : Upd (v.ownBlock.toList) w w' := Upd.of_grownBy hg (fun k e => by simp [e])
theorem grown_upd {w w1 : World} {o : Obj} {v : Value} (hg : Upd v.ownBlock.toList (w.alloc o) w1) : Upd v.ownBlock.toList w w1 := ((Upd.refl _ w).alloc o).trans hg
section
variable {P : Program} (w : World)
/-- 'append(dst, src...)' where dst is the call's own: what there is behind it, and where. -/
theorem run_append_mine (base : Nat) (t ty e : TypeId) (i : TypeInfo) (z : Value) (size bytes : Nat) (ht : P.underlying t = some (.slice e)) (hi : P.info? e = some i) (hz : i.zero = some z)
    (hsize : i.size = size) (hby : i.bytes = bytes) (hzs : z.cells.size = size) (hsz : 0 < size)
    (v : Value) (n : Nat) (xs : List Value) (hown : w.ownsRow base e size v n xs)
    (a : Addr) (m c : Nat) (news : List Value) (hl : news.length = m * size) (hnews : ∀ j u, news[j]? = some u → w.cell? (a.add j) = some u) (h1 : ∀ u ∈ news, u.oneCell' = true)
    (h63 : n + m ≤ maxLen) (hbytes : (n + m) * bytes ≤ 140737488355328) (hbase : base ≤ w.heap.size) :
    ∃ v' w', (Builtin.append_ #[t, t] ty #[v, .slice (some a) m c]).run P w = .ok v' w' ∧ w'.ownsRow base e size v' (n + m) (xs ++ news) ∧ Upd v.ownBlock.toList w w' ∧
      (∀ g, v'.ownBlock = some g → v.ownBlock = some g ∨ w.heap.size ≤ g) ∧ (∃ ao cap, v' = .slice ao (n + m) cap) := by
  obtain ⟨v', w', hr, h2, h3, h4⟩ := run_append_own (P := P) w base t ty e i z size bytes ht hi hz hsize hby hzs hsz v n xs hown a m c news hl hnews h1 h63 hbytes hbase
  obtain ⟨ao, cap', hv', -, -, -⟩ := owns_slice h2
  refine ⟨v', w', hr, h2, upd_of_grown h3, ?_, ⟨ao, cap', hv'⟩⟩
  have h63' : n + m ≤ 9223372036854775807 := by simp only [maxLen] at h63; omega
  subst hsize
  subst hby
  intro g' hg'
  rcases hown.2 with ⟨rfl, rfl⟩ | ⟨g, cap, cur, rfl, hbg, hg, hnc, hcm, hcs, htake⟩
  · have hx : xs = [] := List.eq_nil_of_length_eq_zero (by simpa using hown.1)
    subst hx
    obtain ⟨v2, w2, hr2, h22, _, _⟩ := run_append_own (P := P) w w.heap.size t ty e i z i.size i.bytes ht hi hz rfl rfl hzs hsz (.slice none 0 0) 0 [] (World.ownsRow_nil w w.heap.size e i.size) a m c news hl hnews h1 h63 hbytes (Nat.le_refl _)
    rw [hr] at hr2
    injection hr2 with e1 e2
    subst e1; subst e2
    exact .inr (h22.lt g' hg').1
  · by_cases hroom : n + m ≤ cap
    · have hfit : n * i.size + news.length ≤ cur.size := by rw [hl, hcs, ← Nat.add_mul]; exact Nat.mul_le_mul_right _ hroom
      have hr2 := run_append_room (P := P) w t ty e i ht hi g n cap cur hg a m c news hl hnews h1 hroom hfit
      rw [hr] at hr2
      injection hr2 with e1 e2
      rw [e1] at hg'
      exact .inl hg'
    · have holds : ∀ j u, xs[j]? = some u → w.cell? ((⟨g, 0, none⟩ : Addr).add j) = some u := hown.cells (g := g) rfl
      have hr2 := run_append_grow (P := P) w t ty e i z ht hi hz ⟨g, 0, none⟩ n cap xs hown.1 holds a m c news hl hnews (by omega) (by omega) (growslice_fits (by omega) hbytes)
      rw [hr] at hr2
      injection hr2 with e1 e2
      rw [e1] at hg'
      simp [Value.ownBlock] at hg'
      exact .inr (by omega)
end
/-- What is appended, out of whatever slice. -/
structure SrcAt (w : World) (xo : Option Addr) (m c : Nat) (news : List Value) (size : Nat) : Prop where
  len : news.length = m * size
  one : ∀ u ∈ news, u.oneCell' = true
  nil : xo = none → m = 0 ∧ c = 0
  cells : ∀ a, xo = some a → ∀ j u, news[j]? = some u → w.cell? (a.add j) = some u
section
variable {P : Program} (w : World)
theorem run_append_src (base : Nat) (t ty e : TypeId) (i : TypeInfo) (z : Value) (size bytes : Nat) (ht : P.underlying t = some (.slice e)) (hi : P.info? e = some i) (hz : i.zero = some z)
    (hsize : i.size = size) (hby : i.bytes = bytes) (hzs : z.cells.size = size) (hsz : 0 < size)
    (v : Value) (n : Nat) (xs : List Value) (hown : w.ownsRow base e size v n xs)
    (xo : Option Addr) (m c : Nat) (news : List Value) (hs : SrcAt w xo m c news size)
    (h63 : n + m ≤ maxLen) (hbytes : (n + m) * bytes ≤ 140737488355328) (hbase : base ≤ w.heap.size) :
    ∃ ao' cap' w', (Builtin.append_ #[t, t] ty #[v, .slice xo m c]).run P w = .ok (.slice ao' (n + m) cap') w' ∧ w'.ownsRow base e size (.slice ao' (n + m) cap') (n + m) (xs ++ news) ∧ Upd v.ownBlock.toList w w' ∧
      (∀ g, (Value.slice ao' (n + m) cap').ownBlock = some g → v.ownBlock = some g ∨ w.heap.size ≤ g) ∧ (ao' = none → n + m = 0) := by
  cases xo with
  | none =>
    obtain ⟨rfl, rfl⟩ := hs.nil rfl
    obtain rfl : news = [] := List.eq_nil_of_length_eq_zero (by have := hs.len; omega)
    have hr := run_append_owned_none (P := P) w base t ty e i size ht hi v n xs hown
    have hown' := hown
    obtain ⟨ao, cap, rfl, -, -, -⟩ := owns_slice hown
    refine ⟨ao, cap, w, hr, by simpa using hown', Upd.refl _ _, fun g hg => .inl hg, fun e1 => ?_⟩
    rcases hown'.2 with ⟨h1, h2⟩ | ⟨g, _, _, h1, _⟩
    · simpa using h2
    · rw [e1] at h1; simp at h1
  | some a =>
    obtain ⟨v', w', hr, h2, h3, h4, ao, cap, rfl⟩ := run_append_mine (P := P) w base t ty e i z size bytes ht hi hz hsize hby hzs hsz v n xs hown a m c news hs.len (hs.cells a rfl) hs.one h63 hbytes hbase
    refine ⟨ao, cap, w', hr, h2, h3, h4, fun e1 => ?_⟩
    rcases h2.2 with ⟨h1, h2⟩ | ⟨g, _, _, h1, _⟩
    · exact h2
    · rw [e1] at h1; simp at h1
theorem wpList_append_src {ops : Array Oper} {rest : List Oper} {o : Oper} {a : Act} {Q : Exit → Act → World → Prop} (hgd : o.guard = none) (s x : Operand) (t : TypeId)
    (ho : o.op = .call { callee := .builtin .append, args := #[s, x], argTypes := #[t, t] })
    (base : Nat) (e : TypeId) (i : TypeInfo) (z : Value) (size bytes : Nat) (ht : P.underlying t = some (.slice e)) (hi : P.info? e = some i) (hz : i.zero = some z)
    (hsize : i.size = size) (hby : i.bytes = bytes) (hzs : z.cells.size = size) (hsz : 0 < size)
    (v : Value) (n : Nat) (xs : List Value) (hs : a.eval s = v) (hown : w.ownsRow base e size v n xs)
    (xo : Option Addr) (m c : Nat) (news : List Value) (hx : a.eval x = .slice xo m c) (hsrc : SrcAt w xo m c news size)
    (h63 : n + m ≤ maxLen) (hbytes : (n + m) * bytes ≤ 140737488355328) (hbase : base ≤ w.heap.size)
    (h : ∀ ao' cap' w', w'.ownsRow base e size (.slice ao' (n + m) cap') (n + m) (xs ++ news) → Upd v.ownBlock.toList w w' → (∀ g, (Value.slice ao' (n + m) cap').ownBlock = some g → v.ownBlock = some g ∨ w.heap.size ≤ g) →
      wpList P ops Q rest (a.put o.dst (.slice ao' (n + m) cap')) w') : wpList P ops Q (o :: rest) a w :=
  wpList_plain hgd fun _ hK => by
    obtain ⟨ao, cap, w', hr, h2, h3, h4, -⟩ := run_append_src (P := P) w base t o.type e i z size bytes ht hi hz hsize hby hzs hsz v n xs hown xo m c news hsrc h63 hbytes hbase
    unfold Oper.wp execOp
    simp only [ho, resolve, invoke, builtin, Sem.run_bind, Sem.run_pure, Result.andThen_ok, List.map_toArray, List.map_cons, List.map_nil, hs, hx, hr]
    exact hK _ _ (h ao cap w' h2 h3 h4)
/-- The same, of one operation. -/
theorem wp_append_src {o : Oper} {a : Act} {K : Act → World → Prop} {Q : Exit → Act → World → Prop} (s x : Operand) (t : TypeId)
    (ho : o.op = .call { callee := .builtin .append, args := #[s, x], argTypes := #[t, t] })
    (base : Nat) (e : TypeId) (i : TypeInfo) (z : Value) (size bytes : Nat) (ht : P.underlying t = some (.slice e)) (hi : P.info? e = some i) (hz : i.zero = some z)
    (hsize : i.size = size) (hby : i.bytes = bytes) (hzs : z.cells.size = size) (hsz : 0 < size)
    (v : Value) (n : Nat) (xs : List Value) (hs : a.eval s = v) (hown : w.ownsRow base e size v n xs)
    (xo : Option Addr) (m c : Nat) (news : List Value) (hx : a.eval x = .slice xo m c) (hsrc : SrcAt w xo m c news size)
    (h63 : n + m ≤ maxLen) (hbytes : (n + m) * bytes ≤ 140737488355328) (hbase : base ≤ w.heap.size)
    (h : ∀ ao' cap' w', w'.ownsRow base e size (.slice ao' (n + m) cap') (n + m) (xs ++ news) → Upd v.ownBlock.toList w w' → (∀ g, (Value.slice ao' (n + m) cap').ownBlock = some g → v.ownBlock = some g ∨ w.heap.size ≤ g) →
      K (a.put o.dst (.slice ao' (n + m) cap')) w') : Oper.wp P o a w K Q := by
  obtain ⟨ao, cap, w', hr, h2, h3, h4, -⟩ := run_append_src (P := P) w base t o.type e i z size bytes ht hi hz hsize hby hzs hsz v n xs hown xo m c news hsrc h63 hbytes hbase
  unfold Oper.wp execOp
  simp only [ho, resolve, invoke, builtin, Sem.run_bind, Sem.run_pure, Result.andThen_ok, List.map_toArray, List.map_cons, List.map_nil, hs, hx, hr]
  exact h ao cap w' h2 h3 h4
end
theorem cell_new1 {w : World} {b : Nat} {v : Value} {t : TypeId} (h : b = w.heap.size) : (w.alloc (.cells #[v] t)).cell? ⟨b, 0, none⟩ = some v := by subst h; simp
theorem cell_at0 {w : World} {b : Nat} {v : Value} (h : w.cell? ⟨b, 0, none⟩ = some v) : ∀ j u, [v][j]? = some u → w.cell? ((⟨b, 0, none⟩ : Addr).add j) = some u := by
  intro j u hu
  cases j with
  | zero => simp at hu; subst hu; exact h
  | succ j => simp at hu

/-! ### a range over a function -/
section
variable {P : Program}

/-- What an iterator's function promises whoever ranges over it: it is called with yield; the values come in the order of xs; it needs Dp of the world at the call, and that a round keeps the blocks of K; it changes the blocks of S alone, and what is new. -/
def Iter (P : Program) (gf : FuncId) (first cap : Array Value) {α : Type} (enc : α → Array Value) (xs : List α) (K S : List Nat) (Dp : World → Prop) : Prop :=
  ∀ (n l : Nat) (J Jx : List α → World → Prop) (W : World), Dp W →
    (∀ pre x W1, J pre W1 → pre ++ [x] <+: xs → YieldAt Fence.wide n P l (enc x) W1 fun e W' =>
      (e = .returned (.bool true) ∧ J (pre ++ [x]) W' ∧ Keeps K W1 W') ∨ (e = .returned (.bool false) ∧ Jx (pre ++ [x]) W')) →
    (∀ pre W1 W2, J pre W1 → Upd S W1 W2 → J pre W2) →
    (∀ pre W1 W2, Jx pre W1 → Upd S W1 W2 → Jx pre W2) →
    J [] W →
    CallsIn Fence.wide n P gf (first ++ #[.func (.yield l) #[] #[]] ++ cap) W fun e W' => (∃ v, e = .returned v) ∧ (J xs W' ∨ ∃ pre, pre <+: xs ∧ Jx pre W')

/-- How a round's body may be left. -/
def bodyEnd {α : Type} (K : List Nat) (I : List α → World → Prop) (Ix : Code → List α → World → Prop) (xs : List α) (W : World) : Exit → Act → World → Prop
  | .normal, _, W' => Keeps K W W' ∧ I xs W'
  | .ret, _, W' => Keeps K W W' ∧ Ix .ret xs W'
  | .exit id, _, W' => Keeps K W W' ∧ Ix (.exit id) xs W'
  | .goto t, _, W' => Keeps K W W' ∧ Ix (.goto t) xs W'
  | .panic _, _, _ => False
  | .outgrown, _, _ => False

theorem wpIn_range {α : Type} {n : Nat} {g : Operand} {ps : Array Tmp} {assign body : Code} {Q : Exit → Act → World → Prop} {a : Act} {w : World}
    {gf : Nat} {first cap : Array Value} (hg : a.eval g = .func (.func gf) first cap) (eg : ∀ args w, (callFunc gf args).run P w = .ok (.enter gf args) w)
    {enc : α → Array Value} {xs : List α} {K S : List Nat} {Dp : World → Prop} (hit : Iter P gf first cap enc xs K S Dp) (hps : ∀ x, (enc x).size = ps.size)
    (hK : ∀ k, k ∈ K → k < w.heap.size) (hS : ∀ k, k ∈ S → k < w.heap.size)
    (hD : ∀ W, Upd [] w W → Dp W)
    (I : List α → World → Prop) (Ix : Code → List α → World → Prop)
    (hI : ∀ pre W1 W2, I pre W1 → Upd ((w.heap.size + 1) :: S) W1 W2 → I pre W2)
    (hIx : ∀ c pre W1 W2, Ix c pre W1 → Upd ((w.heap.size + 1) :: S) W1 W2 → Ix c pre W2)
    (h0 : ∀ W, Upd [] w W → w.heap.size + 2 ≤ W.heap.size → I [] W) 
    (hround : ∀ (pre : List α) (x : α) (W : World), pre ++ [x] <+: xs → I pre W → w.heap.size + 2 ≤ W.heap.size →
      assign.wpIn (Fence.wide.inRound (w.heap.size + 1)) (n - 1) P (Exit.then (fun a₁ W1 => Keeps (w.heap.size :: (w.heap.size + 1) :: K) W W1 ∧
          ∀ W2, Upd [w.heap.size + 1] W1 W2 → (I pre W1 → I pre W2) → body.wpIn (Fence.wide.inRound (w.heap.size + 1)) (n - 1) P (bodyEnd (w.heap.size :: (w.heap.size + 1) :: K) I Ix (pre ++ [x]) W2) a₁ W2) (fun _ _ _ => False))
        { tmps := (ps.zip (enc x)).foldl (fun t (p, v) => t.setIfInBounds p v) a.tmps, defers := [] } W)
    (hdone : ∀ (W : World), I xs W → W.heap[w.heap.size]? = some (.deferred (some [])) → Q .normal { a with defers := { target := .collected w.heap.size, args := #[] } :: a.defers } W)
    (hstop : ∀ (c : Code) (pre : List α) (W : World), pre <+: xs → Ix c pre W → W.heap[w.heap.size]? = some (.deferred (some [])) → c.wpIn Fence.wide n P Q { a with defers := { target := .collected w.heap.size, args := #[] } :: a.defers } W) :
    (Code.rangeFunc g ps assign body).wpIn Fence.wide n P Q a w := by
  refine wpIn_rangeFunc ?_
  intro fn hfn
  obtain ⟨rec, hrec⟩ : ∃ rec : LoopState → Option Code → Loop, rec = fun st pe => { state := st, pending := pe, fn, tmps := a.tmps, params := ps, assign, body, defers := w.heap.size } := ⟨_, rfl⟩
  obtain ⟨W1, hW1⟩ : ∃ W1, (w.alloc (.deferred (some []))).alloc (.loop (rec .ready none)) = W1 := ⟨_, rfl⟩
  have hL1 : W1.heap[w.heap.size + 1]? = some (.loop (rec .ready none)) := by
    rw [← hW1]; have := World.alloc_heap_new (w.alloc (.deferred (some []))) (.loop (rec .ready none)); rwa [World.size_alloc] at this
  have hK1 : W1.heap[w.heap.size]? = some (.deferred (some [])) := by
    rw [← hW1]; exact (Below.heap_alloc _ _ _ (by simp)).trans (World.alloc_heap_new w _)
  have hU1 : Upd [] w W1 := by rw [← hW1]; exact ((Upd.refl [] w).alloc _).alloc _
  have hsz1 : w.heap.size + 2 ≤ W1.heap.size := by rw [← hW1]; simp
  refine ⟨w.heap.size + 1, [{ target := .collected w.heap.size, args := #[] }], W1, { target := .fn (.func gf) cap, args := first ++ #[.func (.yield (w.heap.size + 1)) #[] #[]] }, W1, gf,
    first ++ #[.func (.yield (w.heap.size + 1)) #[] #[]] ++ cap, W1, ?_, ?_, ?_, ?_, fun h => by simp [Fence.wide] at h, ?_⟩
  · rw [← hW1, hrec]; exact run_enterLoop_outer _ _ _ _ _
  · simp only [resolve, hg]
    simp [go_sem, Deferred.ofValue]
  · intro f' _; exact trivial
  · simp [invoke, go_sem, eg]
  · have hnl : ∀ k, k ∈ K → k ≠ w.heap.size + 1 ∧ k ≠ w.heap.size := fun k hk => by have := hK k hk; omega
    have hnS : ∀ k, k ∈ S → k ≠ w.heap.size + 1 ∧ k ≠ w.heap.size := fun k hk => by have := hS k hk; omega
    refine (hit (n - 1) (w.heap.size + 1)
      (fun pre W => I pre W ∧ W.heap[w.heap.size + 1]? = some (.loop (rec .ready none)) ∧ W.heap[w.heap.size]? = some (.deferred (some [])) ∧ w.heap.size + 2 ≤ W.heap.size)
      (fun pre W => ∃ c, Ix c pre W ∧ W.heap[w.heap.size + 1]? = some (.loop (rec .done (some c))) ∧ W.heap[w.heap.size]? = some (.deferred (some [])))
      W1 (hD W1 hU1) ?_ ?_ ?_ ⟨h0 W1 hU1 hsz1, hL1, hK1, hsz1⟩).mono ?_
    · rintro pre x W ⟨hi, hl, hk, hz⟩ hpre
      have hlt : w.heap.size + 1 < W.heap.size := (Array.getElem?_eq_some_iff.1 hl).1
      have hy := run_yield (P := P) (args := enc x) hl (by rw [hrec]; exact hps x)
      rw [hrec] at hy
      refine ⟨fn, _, assign, body, hy, roundIn_of_wpIn trivial (wpIn_mono (hround pre x W hpre hi hz) ?_)⟩
      clear hy
      rintro e1 a1 W1 he1
      cases e1 with
      | normal => ?_
      | exit id => exact he1.elim
      | goto t => exact he1.elim
      | ret => exact he1.elim
      | panic ch => exact he1.elim
      | outgrown => exact he1.elim
      obtain ⟨hk1, hb1⟩ := he1
      have hl1 := hk1.get hl (by simp)
      have hd1 := hk1.get hk (by simp)
      have hlt1 : w.heap.size + 1 < W1.heap.size := (Array.getElem?_eq_some_iff.1 hl1).1
      have hKW : Keeps K W W1 := ⟨hk1.1, fun k hk => hk1.2 k (by simp [hk])⟩
      refine ⟨_, run_beginRound hl1 (by rw [hrec]), ?_⟩
      have hl2 : (W1.putObj (w.heap.size + 1) (.loop { rec .ready none with state := .busy })).heap[w.heap.size + 1]? = some (.loop { rec .ready none with state := .busy }) := World.putObj_heap_same hlt1
      have hk2 : (W1.putObj (w.heap.size + 1) (.loop { rec .ready none with state := .busy })).heap[w.heap.size]? = some (.deferred (some [])) := (World.putObj_heap_other (by omega)).trans hd1
      have hkp2 : Keeps K W (W1.putObj (w.heap.size + 1) (.loop { rec .ready none with state := .busy })) :=
        hKW.trans ⟨by simp, fun k hk => World.putObj_heap_other (hnl k hk).1⟩
      refine wpIn_mono (hb1 _ ((Upd.refl _ _).putObj (.inl (by simp)) _) (fun hi1 => hI _ _ _ hi1 ((Upd.refl _ _).putObj (.inl (by simp)) _))) ?_
      have fin : ∀ (jump : Option Code) (W3 : World), Keeps (w.heap.size :: (w.heap.size + 1) :: K) (W1.putObj (w.heap.size + 1) (.loop { rec .ready none with state := .busy })) W3 →
          (Instr.endRound (w.heap.size + 1) jump).run P W3 = .ok (.bool jump.isNone) (W3.putObj (w.heap.size + 1) (.loop (rec (if jump.isNone then .ready else .done) jump))) ∧
          (W3.putObj (w.heap.size + 1) (.loop (rec (if jump.isNone then .ready else .done) jump))).heap[w.heap.size + 1]? = some (.loop (rec (if jump.isNone then .ready else .done) jump)) ∧
          (W3.putObj (w.heap.size + 1) (.loop (rec (if jump.isNone then .ready else .done) jump))).heap[w.heap.size]? = some (.deferred (some [])) ∧
          w.heap.size + 2 ≤ (W3.putObj (w.heap.size + 1) (.loop (rec (if jump.isNone then .ready else .done) jump))).heap.size ∧
          Keeps K W (W3.putObj (w.heap.size + 1) (.loop (rec (if jump.isNone then .ready else .done) jump))) := fun jump W3 hk3 => by
        have hl3 := hk3.get hl2 (by simp)
        have hk3' := hk3.get hk2 (by simp)
        have hz3 := hk3.1
        have := run_endRound (P := P) jump hl3
        rw [hrec] at this ⊢
        refine ⟨this, World.putObj_heap_same (Array.getElem?_eq_some_iff.1 hl3).1, (World.putObj_heap_other (by omega)).trans hk3', by have := hk1.1; simp at hz3 ⊢; omega, ?_⟩
        refine ⟨by have := hk1.1; simp at hz3 ⊢; omega, fun k hk => ?_⟩
        rw [World.putObj_heap_other (hnl k hk).1, hk3.2 k (by simp [hk])]
        exact hkp2.2 k hk
      rintro e a3 W3 hp
      cases e with
      | normal =>
        obtain ⟨hk3, hi3⟩ := hp
        obtain ⟨hr, hl4, hk4, hz4, hkp⟩ := fin none W3 hk3
        exact ⟨_, _, hr, .inl ⟨rfl, ⟨hI _ _ _ hi3 ((Upd.refl _ _).putObj (.inl (by simp)) _), hl4, hk4, hz4⟩, hkp⟩⟩
      | ret =>
        obtain ⟨hk3, hi3⟩ := hp
        obtain ⟨hr, hl4, hk4, hz4, hkp⟩ := fin (some .ret) W3 hk3
        exact ⟨_, _, hr, .inr ⟨rfl, .ret, hIx _ _ _ _ hi3 ((Upd.refl _ _).putObj (.inl (by simp)) _), hl4, hk4⟩⟩
      | exit id =>
        obtain ⟨hk3, hi3⟩ := hp
        obtain ⟨hr, hl4, hk4, hz4, hkp⟩ := fin (some (.exit id)) W3 hk3
        exact ⟨_, _, hr, .inr ⟨rfl, .exit id, hIx _ _ _ _ hi3 ((Upd.refl _ _).putObj (.inl (by simp)) _), hl4, hk4⟩⟩
      | goto t =>
        obtain ⟨hk3, hi3⟩ := hp
        obtain ⟨hr, hl4, hk4, hz4, hkp⟩ := fin (some (.goto t)) W3 hk3
        exact ⟨_, _, hr, .inr ⟨rfl, .goto t, hIx _ _ _ _ hi3 ((Upd.refl _ _).putObj (.inl (by simp)) _), hl4, hk4⟩⟩
      | panic ch => exact hp.elim
      | outgrown => exact hp.elim
    · rintro pre W2 W3 ⟨hi, hl, hk, hz⟩ hu
      refine ⟨hI _ _ _ hi (hu.mono fun k hk => by simp [hk]), hu.get hl (fun h => (hnS _ h).1 rfl), hu.get hk (fun h => (hnS _ h).2 rfl), Nat.le_trans hz hu.size⟩
    · rintro pre W2 W3 ⟨c, hi, hl, hk⟩ hu
      exact ⟨c, hIx _ _ _ _ hi (hu.mono fun k hk => by simp [hk]), hu.get hl (fun h => (hnS _ h).1 rfl), hu.get hk (fun h => (hnS _ h).2 rfl)⟩
    · rintro e W2 ⟨⟨v, rfl⟩, (⟨hi, hl, hk, hz⟩ | ⟨pre, hpre, c, hi, hl, hk⟩)⟩
      · exact ⟨none, _, by have := run_endLoop (P := P) hl (by rw [hrec]; simp); rw [hrec] at this; exact this, hdone _ (hI _ _ _ hi ((Upd.refl _ _).putObj (.inl (by simp)) _)) ((World.putObj_heap_other (by omega)).trans hk)⟩
      · exact ⟨some c, _, by have := run_endLoop (P := P) hl (by rw [hrec]; simp); rw [hrec] at this; exact this, hstop c pre _ hpre (hIx _ _ _ _ hi ((Upd.refl _ _).putObj (.inl (by simp)) _)) ((World.putObj_heap_other (by omega)).trans hk)⟩

/-- The same law, said of a plain walk. -/
theorem wp_range {α : Type} {g : Operand} {ps : Array Tmp} {assign body : Code} {Q : Exit → Act → World → Prop} {a : Act} {w : World}
    {gf : Nat} {first cap : Array Value} (hg : a.eval g = .func (.func gf) first cap) (eg : ∀ args w, (callFunc gf args).run P w = .ok (.enter gf args) w)
    {enc : α → Array Value} {xs : List α} {K S : List Nat} {Dp : World → Prop} (hit : Iter P gf first cap enc xs K S Dp) (hps : ∀ x, (enc x).size = ps.size)
    (hK : ∀ k, k ∈ K → k < w.heap.size) (hS : ∀ k, k ∈ S → k < w.heap.size)
    (hD : ∀ W, Upd [] w W → Dp W)
    (I : List α → World → Prop) (Ix : Code → List α → World → Prop)
    (hI : ∀ pre W1 W2, I pre W1 → Upd ((w.heap.size + 1) :: S) W1 W2 → I pre W2)
    (hIx : ∀ c pre W1 W2, Ix c pre W1 → Upd ((w.heap.size + 1) :: S) W1 W2 → Ix c pre W2)
    (h0 : ∀ W, Upd [] w W → w.heap.size + 2 ≤ W.heap.size → I [] W) 
    (hround : ∀ (pre : List α) (x : α) (W : World), pre ++ [x] <+: xs → I pre W → w.heap.size + 2 ≤ W.heap.size →
      assign.wpIn (Fence.wide.inRound (w.heap.size + 1)) 0 P (Exit.then (fun a₁ W1 => Keeps (w.heap.size :: (w.heap.size + 1) :: K) W W1 ∧
          ∀ W2, Upd [w.heap.size + 1] W1 W2 → (I pre W1 → I pre W2) → body.wpIn (Fence.wide.inRound (w.heap.size + 1)) 0 P (bodyEnd (w.heap.size :: (w.heap.size + 1) :: K) I Ix (pre ++ [x]) W2) a₁ W2) (fun _ _ _ => False))
        { tmps := (ps.zip (enc x)).foldl (fun t (p, v) => t.setIfInBounds p v) a.tmps, defers := [] } W)
    (hdone : ∀ (W : World), I xs W → W.heap[w.heap.size]? = some (.deferred (some [])) → Q .normal { a with defers := { target := .collected w.heap.size, args := #[] } :: a.defers } W)
    (hstop : ∀ (c : Code) (pre : List α) (W : World), pre <+: xs → Ix c pre W → W.heap[w.heap.size]? = some (.deferred (some [])) → c.wp P Q { a with defers := { target := .collected w.heap.size, args := #[] } :: a.defers } W) :
    (Code.rangeFunc g ps assign body).wp P Q a w :=
  (wpIn_wide (n := 0)).1 (wpIn_range hg eg hit hps hK hS hD I Ix hI hIx h0 hround hdone (fun c pre W h1 h2 h3 => wpIn_wide.2 (hstop c pre W h1 h2 h3)))

/-- A function whose body holds a range over a function, by a plain walk. -/
theorem calls_of_wp_marks {f : FuncId} {fn : Func} {c : Code} {args : Array Value} {w : World} {R : Ending → World → Prop}
    (hf : P.funcs[f]? = some fn) (hb : fn.body = some c)
    (h : c.wp P (bodyPostM Fence.wide 0 P fn R) { tmps := args ++ Array.replicate (fn.ntmps - args.size) undef, defers := [] } w) : Calls P f args w R :=
  (callsIn_wide (n := 0)).1 (callsIn_of_wp_marks hf hb trivial (wpIn_wide.2 h))
/-- How such a function returns: one mark to be taken up. -/
theorem leaves_one {fn : Func} {R : Ending → World → Prop} {tmps : Array Value} {D : Nat} {W : World} {v : Value} (hK : W.heap[D]? = some (.deferred (some [])))
    (hr : (results fn tmps).run P (W.putObj D (.deferred none)) = .ok v (W.putObj D (.deferred none))) (hR : R (.returned v) (W.putObj D (.deferred none))) :
    bodyPostM Fence.wide 0 P fn R .ret { tmps := tmps, defers := [{ target := .collected D, args := #[] }] } W := by
  refine ⟨by simp, .inl ⟨_, _, rfl, run_takeDeferred hK, ?_⟩⟩
  exact ⟨v, hr, hR⟩
end
end Go.Proofs.YthpnnffogbjhpaaGreatDoor
