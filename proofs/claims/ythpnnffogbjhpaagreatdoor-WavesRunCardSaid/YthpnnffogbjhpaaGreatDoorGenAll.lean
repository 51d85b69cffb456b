/- DiskM, VarM, Gen, SlCut, Str, Zreg, Zreg2, Zseq, RangeP, RangeN, MpM, MpS, MpR, RowG, KindG, InLaws in one text. -/
import Derived.Test.YthpnnffogbjhpaaGreatDoorBase
import Derived.Laws.BitsAllLaws
import Derived.Deep.Slices
import Derived.Laws.BytesArg
import Derived.Laws.IdiomStrings
import Derived.Laws.StructEq
import Derived.Maps.OwnSet
import Derived.Maps.RangeWalk
import Derived.Carry
import Derived.OrdersHeld
import Derived.Deep.RegionLaw
import Derived.BigRegion
import Derived.OrdersIn
import Derived.KernelRfl
set_option linter.unusedSimpArgs false
set_option linter.unusedVariables false
set_option linter.unnecessarySimpa false
namespace Go.Proofs.YthpnnffogbjhpaaGreatDoor
open Go.RowKit

/-- A byte as a value. -/
def u8v (b : UInt8) : Value := .int .u8 (b.toNat : Int)
structure DS where
  byt : List UInt8
  syn : Nat
  dead : Bool
  fuse : Int
namespace DS
def append (d : DS) (b : List UInt8) : DS × Int :=
  if d.dead then (d, 20)
  else if 0 ≤ d.fuse ∧ d.fuse < b.length then ({ byt := d.byt ++ b.take d.fuse.toNat, syn := d.syn, dead := true, fuse := -1 }, 21)
  else ({ d with byt := d.byt ++ b, fuse := if 0 ≤ d.fuse then d.fuse - b.length else d.fuse }, 0)
def sync (d : DS) : DS × Int := if d.dead then (d, 20) else ({ d with syn := d.byt.length }, 0)
def cut (d : DS) (n : Int) : DS × Int := if d.dead then (d, 20) else if n < d.syn ∨ d.byt.length < n then (d, 1) else ({ d with byt := d.byt.take n.toNat }, 0)
def setFuse (d : DS) (n : Int) : DS × Int := if d.dead then (d, 20) else ({ d with fuse := max n (-1) }, 0)
def crash (d : DS) (keep : Int) : DS × Int :=
  if d.dead then (d, 20) else ({ byt := if 0 ≤ keep ∧ keep < (d.byt.length : Int) - d.syn then d.byt.take (d.syn + keep.toNat) else d.byt, syn := d.syn, dead := true, fuse := -1 }, 0)
def turn (d : DS) (at_ : Int) : DS × Int :=
  if d.dead = false ∨ at_ < 0 ∨ (d.byt.length : Int) ≤ at_ / 8 then (d, 1)
  else ({ d with byt := d.byt.set (at_.toNat / 8) ((d.byt.getD (at_.toNat / 8) 0) ^^^ (1 <<< UInt8.ofNat (at_.toNat % 8))) }, 0)
def restart (d : DS) : DS × Int := ({ d with dead := false }, 0)
/-- One act of a list (never a turn). -/
def act (d : DS) (k : Nat) (n : Int) (bs : List UInt8) : DS × Int :=
  match k % 7 with
  | 0 => d.append bs
  | 1 => d.sync
  | 2 => d.cut n
  | 3 => d.setFuse n
  | 4 => d.crash n
  | _ => d.restart
/-- What always holds. -/
structure Ok (d : DS) (B : Nat) : Prop where
  syn : d.syn ≤ d.byt.length
  len : d.byt.length ≤ B
  lo : -1 ≤ d.fuse
  hi : d.fuse ≤ 9223372036854775807
end DS
end Go.Proofs.YthpnnffogbjhpaaGreatDoor
namespace Go.Proofs.YthpnnffogbjhpaaGreatDoor.Crc
open Go.RowKit

end Go.Proofs.YthpnnffogbjhpaaGreatDoor.Crc
namespace Go.Proofs.YthpnnffogbjhpaaGreatDoor
open Go.RowKit

/-- Where 's[l:..]' begins: a slice that ends where it begins keeps its address. -/
def cutAt (xo : Option Addr) (l c : Nat) : Option Addr := if c = l then xo else xo.map (·.add l)
theorem cutAt_zero (xo : Option Addr) (c : Nat) : cutAt xo 0 c = xo := by
  unfold cutAt
  split
  · rfl
  · cases xo with
    | none => rfl
    | some a => simp [Addr.add]
theorem cutAt_none {xo : Option Addr} {l c : Nat} : cutAt xo l c = none ↔ xo = none := by
  unfold cutAt
  split <;> simp
theorem src_own {w : World} {base n : Nat} {e : TypeId} {ao : Option Addr} {cap : Nat} {xs : List Value} (h : w.ownsRow base e 1 (.slice ao n cap) n xs) (h1 : ∀ u ∈ xs, u.oneCell' = true) : SrcAt w ao n cap xs 1 := by
  obtain ⟨ao', cap', e1, -, -, h3⟩ := owns_slice h
  cases e1
  refine ⟨h.1, h1, fun e => ?_, fun a e j u hj => ?_⟩
  · rcases h.2 with ⟨e2, e3⟩ | ⟨g, c, cur, e2, -⟩
    · cases e2; exact ⟨rfl, rfl⟩
    · rw [e] at e2; cases e2
  · obtain ⟨g, e4, -, -, e5⟩ := h3 j u hj
    rw [e] at e4
    cases e4
    by_cases h0 : j = 0
    · subst h0; simpa [Addr.add] using e5
    · simpa [Addr.add, h0] using e5
section
variable {P : Program} (t e : TypeId) (ht : P.underlying t = some (.slice e)) (hz : ∀ w, (sizeOf e).run P w = .ok 1 w) (xo : Option Addr) (m c : Nat)
include ht hz
theorem run_cut_l (l : Nat) (i : Int) (hi : i = l) (h : l ≤ m) (w : World) : (Instr.slice t (.slice xo m c) (some (.int .i64 i)) none none).run P w = .ok (.slice (cutAt xo l c) (m - l) (c - l)) w := by
  subst hi
  have hel : P.elem t = e := by simp [Program.elem, ht]
  rw [run_slice_l (P := P) w t xo m c (by rw [hel]; exact ht) .i64 l (by omega) (by omega), hel, hz]
  simp [Result.andThen, sliced, cutAt]
theorem run_cut_h (h : Nat) (j : Int) (hj : j = h) (h2 : h ≤ c) (w : World) : (Instr.slice t (.slice xo m c) none (some (.int .i64 j)) none).run P w = .ok (.slice xo h c) w := by
  subst hj
  have hel : P.elem t = e := by simp [Program.elem, ht]
  rw [run_slice_h (P := P) w t xo m c (by rw [hel]; exact ht) .i64 h (by omega) (by omega), hel, hz]
  have := cutAt_zero xo c
  simp only [cutAt] at this
  simp [Result.andThen, sliced]
  rw [← this]
  split <;> simp_all
end
end Go.Proofs.YthpnnffogbjhpaaGreatDoor
namespace Go.Proofs.YthpnnffogbjhpaaGreatDoor
open Go.RowKit Go.Proofs.YthpnnffogbjhpaaGreatDoor.Crc

section
variable {X : Type} {P Q : X → List Value → Prop} {l a b : List X} {css kss bss : List (List Value)} {x : X} {i z : Nat}
/-- Each thing has its cells. -/
inductive Each {X : Type} (P : X → List Value → Prop) : List X → List (List Value) → Prop
  | nil : Each P [] []
  | cons {x : X} {cs : List Value} {l : List X} {css : List (List Value)} : P x cs → Each P l css → Each P (x :: l) (cs :: css)
theorem Each.len (h : Each P l css) : css.length = l.length := by
  induction h with
  | nil => rfl
  | cons _ _ ih => simp [ih]
theorem Each.append (h : Each P a kss) (k : Each P b bss) : Each P (a ++ b) (kss ++ bss) := by
  induction h with
  | nil => exact k
  | cons h1 _ ih => exact .cons h1 ih
theorem Each.mono (h : Each P l css) (hPQ : ∀ x cs, x ∈ l → P x cs → Q x cs) : Each Q l css := by
  induction h with
  | nil => exact .nil
  | cons h1 _ ih => exact .cons (hPQ _ _ (by simp) h1) (ih fun x cs hx => hPQ x cs (by simp [hx]))
theorem Each.get (h : Each P l css) (hi : l[i]? = some x) : ∃ cs, css[i]? = some cs ∧ P x cs := by
  induction h generalizing i with
  | nil => simp at hi
  | cons h1 _ ih =>
    cases i with
    | zero => simp at hi; subst hi; exact ⟨_, rfl, h1⟩
    | succ i => exact ih (by simpa using hi)
theorem Each.mem {cs : List Value} (h : Each P l css) (hc : cs ∈ css) : ∃ x, x ∈ l ∧ P x cs := by
  induction h with
  | nil => cases hc
  | cons h1 _ ih =>
    rcases List.mem_cons.1 hc with rfl | hc
    · exact ⟨_, by simp, h1⟩
    · obtain ⟨x, h2, h3⟩ := ih hc
      exact ⟨x, by simp [h2], h3⟩
theorem Each.drop (h : Each P l css) (k : Nat) : Each P (l.drop k) (css.drop k) := by
  induction h generalizing k with
  | nil => simpa using .nil
  | cons h1 h2 ih =>
    cases k with
    | zero => exact .cons h1 h2
    | succ k => simpa using ih k
theorem Each.take (h : Each P l css) (k : Nat) : Each P (l.take k) (css.take k) := by
  induction h generalizing k with
  | nil => simpa using .nil
  | cons h1 h2 ih =>
    cases k with
    | zero => simpa using .nil
    | succ k => simpa using .cons h1 (ih k)
theorem flat_len (hz : ∀ cs ∈ css, cs.length = z) : css.flatten.length = css.length * z := by
  induction css with
  | nil => simp
  | cons c css ih => rw [List.flatten_cons, List.length_append, ih (fun cs h => hz cs (by simp [h])), hz c (by simp), List.length_cons, Nat.add_mul]; omega
theorem flat_get {cs : List Value} {j : Nat} {u : Value} (hz : ∀ cs ∈ css, cs.length = z) (hi : css[i]? = some cs) (hj : cs[j]? = some u) : css.flatten[i * z + j]? = some u := by
  induction css generalizing i with
  | nil => simp at hi
  | cons c css ih =>
    rw [List.flatten_cons]
    have hc := hz c (by simp)
    cases i with
    | zero =>
      simp at hi; subst hi
      have := (List.getElem?_eq_some_iff.1 hj).1
      rw [List.getElem?_append_left (by omega), Nat.zero_mul, Nat.zero_add]
      exact hj
    | succ i =>
      rw [List.getElem?_append_right (by rw [Nat.add_mul]; omega), hc, show (i + 1) * z + j - z = i * z + j by rw [Nat.add_mul]; omega]
      exact ih (fun cs h => hz cs (by simp [h])) (by simpa using hi)
theorem flat_drop (hz : ∀ cs ∈ css, cs.length = z) (k : Nat) : (css.drop k).flatten = css.flatten.drop (k * z) := by
  induction css generalizing k with
  | nil => simp
  | cons c css ih =>
    cases k with
    | zero => simp
    | succ k =>
      have hc := hz c (by simp)
      have e : (c ++ css.flatten).drop ((k + 1) * z) = css.flatten.drop (k * z) := by
        rw [List.drop_append, (List.drop_eq_nil_of_le (by rw [hc, Nat.add_mul]; omega) : c.drop ((k + 1) * z) = []), List.nil_append, hc, show (k + 1) * z - z = k * z by rw [Nat.add_mul]; omega]
      rw [List.drop_succ_cons, ih (fun cs h => hz cs (by simp [h])), List.flatten_cons, e]
theorem flat_take (hz : ∀ cs ∈ css, cs.length = z) (k : Nat) : (css.take k).flatten = css.flatten.take (k * z) := by
  induction css generalizing k with
  | nil => simp
  | cons c css ih =>
    cases k with
    | zero => simp
    | succ k =>
      have hc := hz c (by simp)
      have e : (c ++ css.flatten).take ((k + 1) * z) = c ++ css.flatten.take (k * z) := by
        rw [List.take_append, List.take_of_length_le (l := c) (by rw [hc, Nat.add_mul]; omega), hc, show (k + 1) * z - z = k * z by rw [Nat.add_mul]; omega]
      rw [List.take_succ_cons, List.flatten_cons, ih (fun cs h => hz cs (by simp [h])), List.flatten_cons, e]
end
section
variable {X : Type} {w w' : World} {T U : Nat → Prop} {z : Nat} {P Q : X → List Value → Prop} {v : Value} {l : List X} {S : List Nat}
theorem srcG_upd {xo : Option Addr} {m cp : Nat} {xs : List Value} (h : SrcAt w xo m cp xs z) (hu : Upd S w w') (hS : ∀ a, xo = some a → m ≠ 0 → a.block ∉ S) : SrcAt w' xo m cp xs z :=
  ⟨h.len, h.one, h.nil, fun a e j u hj => by
    have h1 := h.cells a e j u hj
    have h2 := World.block_lt_of_cell? w _ h1
    have hb : (a.add j).block = a.block := by unfold Addr.add; split <;> rfl
    have hm : m ≠ 0 := by
      intro h0
      have := h.len
      rw [h0] at this
      simp at this
      rw [this] at hj
      simp at hj
    have h3 := hu.block _ h2 (by rw [hb]; exact hS a e hm)
    rw [← h1]
    simp only [World.cell?, h3]⟩
/-- A row at v, within the blocks T, of things of z cells each. -/
def Row (w : World) (T : Nat → Prop) (z : Nat) (P : X → List Value → Prop) (v : Value) (l : List X) : Prop :=
  ∃ (xo : Option Addr) (c : Nat) (css : List (List Value)), v = .slice xo l.length c ∧ Each P l css ∧ (∀ cs ∈ css, cs.length = z) ∧ SrcAt w xo l.length c css.flatten z ∧ l.length ≤ c ∧ c ≤ maxLen ∧ ∀ a, xo = some a → l.length ≠ 0 → T a.block
theorem Row.upd (h : Row w T z P v l) (hu : Upd S w w') (hS : ∀ k ∈ S, ¬ T k) (hP : ∀ x cs, x ∈ l → P x cs → Q x cs) : Row w' T z Q v l := by
  obtain ⟨xo, c, css, e, h1, h2, h3, h4, h5, h6⟩ := h
  exact ⟨xo, c, css, e, h1.mono hP, h2, srcG_upd h3 hu (fun a ha hm hb => hS _ hb (h6 a ha hm)), h4, h5, h6⟩
theorem Row.mono (h : Row w T z P v l) (hT : ∀ k, T k → U k) (hP : ∀ x cs, x ∈ l → P x cs → Q x cs) : Row w U z Q v l := by
  obtain ⟨xo, c, css, e, h1, h2, h3, h4, h5, h6⟩ := h
  exact ⟨xo, c, css, e, h1.mono hP, h2, h3, h4, h5, fun a ha hm => hT _ (h6 a ha hm)⟩
theorem Row.nil (w : World) (T : Nat → Prop) (z : Nat) (P : X → List Value → Prop) : Row w T z P (.slice none 0 0) [] := ⟨none, 0, [], rfl, .nil, by simp, ⟨by simp, by simp, fun _ => ⟨rfl, rfl⟩, by simp⟩, Nat.le_refl _, by simp [maxLen], by simp⟩
/-- What there is at an index. -/
theorem Row.get (hz : 0 < z) (h : Row w T z P v l) : ∃ (xo : Option Addr) (c : Nat), v = .slice xo l.length c ∧ l.length ≤ c ∧ c ≤ maxLen ∧
    ∀ i x, l[i]? = some x → ∃ b off cs, xo = some ⟨b, off, none⟩ ∧ b < w.heap.size ∧ T b ∧ P x cs ∧ cs.length = z ∧ ∀ j u, cs[j]? = some u → w.cell? ⟨b, off + i * z + j, none⟩ = some u := by
  obtain ⟨xo, c, css, e, h1, h2, h3, h4, h5, h6⟩ := h
  refine ⟨xo, c, e, h4, h5, fun i x hi => ?_⟩
  have hlt := (List.getElem?_eq_some_iff.1 hi).1
  obtain ⟨cs, hcs, hP⟩ := h1.get hi
  have hcz := h2 cs (List.mem_of_getElem? hcs)
  cases xo with
  | none => have := (h3.nil rfl).1; omega
  | some a =>
    obtain ⟨b, off, sp⟩ := a
    have get : ∀ j u, cs[j]? = some u → w.cell? ((⟨b, off, sp⟩ : Addr).add (i * z + j)) = some u := fun j u hj => h3.cells _ rfl _ _ (flat_get h2 hcs hj)
    have c0 := get 0 (cs[0]'(by omega)) (List.getElem?_eq_getElem (by omega))
    have hsp : sp = none := by
      have hf : 0 < css.flatten.length := by
        rw [flat_len h2, h1.len]
        exact Nat.mul_pos (by omega) hz
      have := World.cell?_spot (h3.cells _ rfl 0 _ (List.getElem?_eq_getElem hf))
      simpa [Addr.add] using this
    subst hsp
    have ad : ∀ n, (⟨b, off, none⟩ : Addr).add n = ⟨b, off + n, none⟩ := fun n => by unfold Addr.add; split <;> simp_all
    refine ⟨b, off, cs, rfl, World.block_lt_of_cell? w _ c0 |> fun h => by rw [ad] at h; exact h, h6 _ rfl (by omega), hP, hcz, fun j u hj => ?_⟩
    have := get j u hj
    rw [ad, ← Nat.add_assoc] at this
    exact this
theorem Row.slice (h : Row w T z P v l) : ∃ (xo : Option Addr) (c : Nat), v = .slice xo l.length c ∧ l.length ≤ c ∧ c ≤ maxLen := by
  obtain ⟨xo, c, css, e, h1, h2, h3, h4, h5, h6⟩ := h
  exact ⟨xo, c, e, h4, h5⟩
theorem Row.src (h : Row w T z P v l) : ∃ (xo : Option Addr) (c : Nat) (css : List (List Value)), v = .slice xo l.length c ∧ l.length ≤ c ∧ c ≤ maxLen ∧ Each P l css ∧ (∀ cs ∈ css, cs.length = z) ∧ SrcAt w xo l.length c css.flatten z ∧ ∀ a, xo = some a → l.length ≠ 0 → T a.block := by
  obtain ⟨xo, c, css, e, h1, h2, h3, h4, h5, h6⟩ := h
  exact ⟨xo, c, css, e, h4, h5, h1, h2, h3, h6⟩
/-- Where 's[l:..]' of things of z cells begins. -/
def cutZ (z : Nat) (xo : Option Addr) (l c : Nat) : Option Addr := if c = l then xo else xo.map (·.add (l * z))
theorem Row.cut {xo : Option Addr} {m c lo hi q : Nat} (h : Row w T z P (.slice xo m c) l) (h1 : lo ≤ hi) (h2 : hi ≤ m) (h3 : hi ≤ q) (h4 : q ≤ c) : Row w T z P (.slice (cutZ z xo lo q) (hi - lo) (q - lo)) ((l.drop lo).take (hi - lo)) := by
  obtain ⟨xo', c', css, e, k1, k2, k3, k4, k5, k6⟩ := h
  cases e
  have hlen : ((l.drop lo).take (hi - lo)).length = hi - lo := by simp; omega
  refine ⟨_, _, (css.drop lo).take (hi - lo), by rw [hlen], (k1.drop lo).take _, fun cs h => k2 cs (List.mem_of_mem_drop (List.mem_of_mem_take h)), ?_, by rw [hlen]; omega, by omega, fun a ha hm => ?_⟩
  · rw [hlen]
    have hz' : ∀ cs ∈ css.drop lo, cs.length = z := fun cs h => k2 cs (List.mem_of_mem_drop h)
    rw [flat_take hz', flat_drop k2]
    refine ⟨?_, fun u hu => k3.one u (List.mem_of_mem_drop (List.mem_of_mem_take hu)), fun e => ?_, fun a e j u hj => ?_⟩
    · rw [List.length_take, List.length_drop, k3.len, ← Nat.sub_mul]
      exact Nat.min_eq_left (Nat.mul_le_mul_right _ (by omega))
    · have : xo = none := by unfold cutZ at e; split at e; exact e; cases xo <;> simp_all
      have := k3.nil this
      omega
    · rw [List.getElem?_take] at hj
      split at hj
      · rename_i hjl
        have hq : q ≠ lo := by rintro rfl; have : hi - q = 0 := by omega
                               rw [this] at hjl; simp at hjl
        unfold cutZ at e
        rw [if_neg hq] at e
        cases xo with
        | none => cases e
        | some a0 =>
          cases e
          rw [List.getElem?_drop] at hj
          have := k3.cells a0 rfl (lo * z + j) u hj
          rw [← this, Go.Deep.add_add]
      · cases hj
  · rw [hlen] at hm
    unfold cutZ at ha
    split at ha
    · exact k6 a ha (by omega)
    · cases xo with
      | none => cases ha
      | some a0 =>
        cases ha
        have := k6 a0 rfl (by omega)
        unfold Addr.add
        split <;> simpa using this
/-- A row that a call builds. -/
def Own (w : World) (base : Nat) (ty : TypeId) (z : Nat) (P : X → List Value → Prop) (v : Value) (l : List X) : Prop :=
  ∃ css, Each P l css ∧ (∀ cs ∈ css, cs.length = z ∧ ∀ u ∈ cs, u.oneCell' = true) ∧ w.ownsRow base ty z v l.length css.flatten
theorem Own.nil (w : World) (base : Nat) (ty : TypeId) (z : Nat) (P : X → List Value → Prop) : Own w base ty z P (.slice none 0 0) [] := ⟨[], .nil, by simp, World.ownsRow_nil w base ty z⟩
theorem Own.upd {base : Nat} {ty : TypeId} (h : Own w base ty z P v l) (hu : Upd S w w') (hne : ∀ k, v.ownBlock = some k → k ∉ S) (hP : ∀ x cs, x ∈ l → P x cs → Q x cs) : Own w' base ty z Q v l := by
  obtain ⟨css, h1, h2, h3⟩ := h
  exact ⟨css, h1.mono hP, h2, owns_upd h3 hu hne⟩
theorem srcZ_own {base n : Nat} {e : TypeId} {ao : Option Addr} {cap : Nat} {xs : List Value} (h : w.ownsRow base e z (.slice ao n cap) n xs) (h1 : ∀ u ∈ xs, u.oneCell' = true) : SrcAt w ao n cap xs z := by
  obtain ⟨ao', cap', e1, -, -, h3⟩ := owns_slice h
  cases e1
  refine ⟨h.1, h1, fun e => ?_, fun a e j u hj => ?_⟩
  · rcases h.2 with ⟨e2, e3⟩ | ⟨g, c, cur, e2, -⟩
    · cases e2; exact ⟨rfl, rfl⟩
    · rw [e] at e2; cases e2
  · obtain ⟨g, e4, -, -, e5⟩ := h3 j u hj
    rw [e] at e4
    cases e4
    by_cases h0 : j = 0
    · subst h0; simpa [Addr.add] using e5
    · simpa [Addr.add, h0] using e5
theorem Own.row {base : Nat} {ty : TypeId} (h : Own w base ty z P v l) : Row w (fun k => v.ownBlock = some k) z P v l := by
  obtain ⟨css, h1, h2, h3⟩ := h
  obtain ⟨ao, cap, rfl, h4, h5, h6⟩ := owns_slice h3
  refine ⟨ao, cap, css, rfl, h1, fun cs h => (h2 cs h).1, srcZ_own h3 (fun u hu => ?_), h4, h5, fun a ha hm => ?_⟩
  · obtain ⟨cs, hc, hu'⟩ := List.mem_flatten.1 hu
    exact (h2 cs hc).2 u hu'
  · rcases h3.2 with ⟨e2, e3⟩ | ⟨g, c, cur, e2, -⟩
    · omega
    · cases e2; cases ha; rfl
theorem Own.lt {base : Nat} {ty : TypeId} (h : Own w base ty z P v l) : ∀ k, v.ownBlock = some k → base ≤ k ∧ k < w.heap.size := by
  obtain ⟨css, h1, h2, h3⟩ := h
  exact owns_lt h3
end
end Go.Proofs.YthpnnffogbjhpaaGreatDoor
namespace Go.Proofs.YthpnnffogbjhpaaGreatDoor.Var
open Go.RowKit

/-- A number's groups of seven bits, the least first; the last is marked. -/
def groups (n : Nat) : List (Nat × Bool) := if n < 128 then [(n, true)] else (n % 128, false) :: groups (n / 128)
termination_by n
decreasing_by omega
def uv (n : Nat) : List UInt8 := if n < 128 then [UInt8.ofNat n] else UInt8.ofNat (128 + n % 128) :: uv (n / 128)
termination_by n
decreasing_by omega
theorem groups_last {n : Nat} (h : n < 128) : groups n = [(n, true)] := by rw [groups, if_pos h]
theorem groups_more {n : Nat} (h : 128 ≤ n) : groups n = (n % 128, false) :: groups (n / 128) := by rw [groups, if_neg (by omega)]
theorem uv_last {n : Nat} (h : n < 128) : uv n = [UInt8.ofNat n] := by rw [uv, if_pos h]
theorem uv_more {n : Nat} (h : 128 ≤ n) : uv n = UInt8.ofNat (128 + n % 128) :: uv (n / 128) := by rw [uv, if_neg (by omega)]
def gbyte (x : Nat × Bool) : UInt8 := UInt8.ofNat (if x.2 then x.1 else 128 + x.1)
theorem groups_uv (n : Nat) : (groups n).map gbyte = uv n := by
  induction n using Nat.strongRecOn with
  | _ n ih =>
    by_cases h : n < 128
    · rw [groups_last h, uv_last h]; rfl
    · rw [groups_more (by omega), uv_more (by omega), List.map_cons, ih (n / 128) (by omega)]; rfl
theorem groups_lt (n : Nat) : ∀ x ∈ groups n, x.1 < 128 := by
  induction n using Nat.strongRecOn with
  | _ n ih =>
    by_cases h : n < 128
    · rw [groups_last h]; simp [h]
    · rw [groups_more (by omega)]
      intro x hx
      rcases List.mem_cons.1 hx with rfl | hx
      · exact Nat.mod_lt _ (by decide)
      · exact ih (n / 128) (by omega) x hx
/-- At most k bytes for a number below 128^k. -/
theorem uv_len (k n : Nat) (h : n < 128 ^ (k + 1)) : (uv n).length ≤ k + 1 := by
  induction k generalizing n with
  | zero => rw [uv_last (by simpa using h)]; simp
  | succ k ih =>
    by_cases h1 : n < 128
    · rw [uv_last h1]; simp
    · rw [uv_more (by omega)]
      have : n / 128 < 128 ^ (k + 1) := by
        rw [Nat.pow_succ] at h
        exact Nat.div_lt_of_lt_mul (by rw [Nat.mul_comm]; exact h)
      have := ih (n / 128) this
      simp; omega
theorem uv_len10 {n : Nat} (h : n < 18446744073709551616) : (uv n).length ≤ 10 := uv_len 9 n (Nat.lt_of_lt_of_le h (by decide))

/-! reading -/
/-- How many bytes at the beginning say that more follows. -/
def lead : List UInt8 → Nat
  | [] => 0
  | c :: r => if 128 ≤ c.toNat then lead r + 1 else 0
def val : List UInt8 → Nat
  | [] => 0
  | c :: r => c.toNat % 128 + 128 * val r
/-- The number, how many bytes it has, the error. -/
def rd (bs : List UInt8) : Nat × Nat × Int :=
  if 10 ≤ lead bs ∨ (lead bs = 9 ∧ 9 < bs.length ∧ 1 < (bs.getD 9 0).toNat) then (0, 0, 11)
  else if lead bs = bs.length then (0, 0, 10)
  else if 0 < lead bs ∧ (bs.getD (lead bs) 0).toNat = 0 then (0, 0, 11)
  else (val (bs.take (lead bs + 1)), lead bs + 1, 0)
/-- Whoever reads what was written has it, and its length. -/
theorem ofNat8 {n : Nat} (h : n < 256) : (UInt8.ofNat n).toNat = n := UInt8.toNat_ofNat_of_lt' h
end Go.Proofs.YthpnnffogbjhpaaGreatDoor.Var
namespace Go.Proofs.YthpnnffogbjhpaaGreatDoor
open Go.RowKit

def strOf (bs : List UInt8) : ByteArray := ⟨bs.toArray⟩
theorem strOf_nums (bs : List UInt8) : strOfNums (bs.map fun b => (b.toNat : Int)) = strOf bs := by
  have h : (strOfNums (bs.map fun b => (b.toNat : Int))).data.toList = (strOf bs).data.toList := by
    rw [strOfNums_data, List.map_map]
    simp [strOf, Function.comp_def]
  exact ByteArray.ext (Array.toList_inj.1 h)
theorem strOf_inj {a b : List UInt8} (h : strOf a = strOf b) : a = b := by
  have := congrArg (fun s : ByteArray => s.data.toList) h
  simpa [strOf] using this
theorem strOf_size (bs : List UInt8) : (strOf bs).size = bs.length := by simp [strOf, ByteArray.size]
theorem strOf_append (a b : List UInt8) : strOf a ++ strOf b = strOf (a ++ b) := by
  refine ByteArray.ext ?_
  simp [strOf, ByteArray.data_append]
theorem strOf_eq (a b : List UInt8) : ((strOf a).toList == (strOf b).toList) = decide (a = b) := by
  rw [← beq_toListBytes]
  show (a.toArray == b.toArray) = decide (a = b)
  by_cases h : a = b
  · subst h; simp
  · simp [h]
theorem run_str {w : World} {bo : Option Addr} {bl bc : Nat} {bs : List UInt8} (h : SrcAt w bo bl bc (bs.map u8v) 1) :
    (convert 22 9 (.slice bo bl bc)).run Tryz.prog w = .ok (.string (strOf bs)) w := by
  have hlen := h.len
  simp at hlen
  cases bo with
  | none =>
    have h1 := (h.nil rfl).1
    have : bs = [] := by cases bs with
      | nil => rfl
      | cons x xs => simp at hlen; omega
    subst this
    exact run_convert_bytes_nil (P := Tryz.prog) w 22 5 Tryz.underlying22 Tryz.underlying5 bl bc 9 Tryz.underlying9
  | some a =>
    have hl : (loadCells a bl).run Tryz.prog w = .ok ((bs.map fun b => (b.toNat : Int)).map (Value.int .u8)).toArray w := by
      have := run_loadCells_list (P := Tryz.prog) w a (bs.map u8v) (h.cells _ rfl)
      rw [List.length_map, hlen] at this
      rw [this, List.map_map]
      rfl
    rw [run_convert_bytes_string w 22 9 5 _ bl bc Tryz.underlying22 Tryz.underlying5 Tryz.underlying9, run_bytesToString w _ bl bc _ hl, foldl_push_bytes, ← strOf_nums]
    simp [strOfNums, ByteArray.empty, ByteArray.emptyWithCapacity]
    rfl
end Go.Proofs.YthpnnffogbjhpaaGreatDoor
namespace Go.Proofs.YthpnnffogbjhpaaGreatDoor
open Go.RowKit Go.Proofs.YthpnnffogbjhpaaGreatDoor.Crc

/-- A kind of things: how many cells one has, and what these are, where what it points at lies within the blocks T. -/
structure Kind (X : Type) where
  z : Nat
  hz : 0 < z
  holds : World → (Nat → Prop) → X → List Value → Prop
  len : ∀ {w T x cs}, holds w T x cs → cs.length = z
  one : ∀ {w T x cs}, holds w T x cs → ∀ u ∈ cs, u.oneCell' = true
  upd : ∀ {w w' T x cs} {S : List Nat}, holds w T x cs → Upd S w w' → (∀ k ∈ S, ¬ T k) → holds w' T x cs
  mono : ∀ {w T U x cs}, holds w T x cs → (∀ k, T k → U k) → holds w U x cs
/-- What lies beside a row that is built from base on. -/
def beside (base : Nat) (w : World) (v : Value) (k : Nat) : Prop := base ≤ k ∧ k < w.heap.size ∧ v.ownBlock ≠ some k
/-- What lies there from base on. -/
def since (base : Nat) (w : World) (k : Nat) : Prop := base ≤ k ∧ k < w.heap.size
section
variable {X : Type} {K : Kind X} {w w' : World} {T U : Nat → Prop} {v : Value} {l : List X} {S : List Nat} {base : Nat} {ty : TypeId}
def Kind.row (K : Kind X) (w : World) (T : Nat → Prop) (v : Value) (l : List X) : Prop := Row w T K.z (K.holds w T) v l
theorem Kind.row_upd (h : K.row w T v l) (hu : Upd S w w') (hS : ∀ k ∈ S, ¬ T k) : K.row w' T v l := Row.upd h hu hS fun _ _ _ h1 => K.upd h1 hu hS
theorem Kind.row_upd_nil (h : K.row w T v l) (hu : Upd [] w w') : K.row w' T v l := K.row_upd h hu (by simp)
theorem Kind.row_mono (h : K.row w T v l) (hT : ∀ k, T k → U k) : K.row w U v l := Row.mono h hT fun _ _ _ h1 => K.mono h1 hT
theorem Kind.row_nil (K : Kind X) (w : World) (T : Nat → Prop) : K.row w T (.slice none 0 0) [] := Row.nil _ _ _ _
/-- A row that a call builds. -/
def Kind.bag (K : Kind X) (ty : TypeId) (w : World) (base : Nat) (v : Value) (l : List X) : Prop := Own w base ty K.z (K.holds w (beside base w v)) v l
theorem Kind.bag_nil (K : Kind X) (ty : TypeId) (w : World) (base : Nat) : K.bag ty w base (.slice none 0 0) [] := Own.nil _ _ _ _ _
theorem Kind.bag_upd (h : K.bag ty w base v l) (hu : Upd S w w') (hS : ∀ k ∈ S, k < base) : K.bag ty w' base v l :=
  Own.upd h hu (fun k hk hm => by have := (Own.lt h k hk).1; have := hS k hm; omega) fun _ _ _ h1 =>
    K.mono (K.upd h1 hu (fun k hk h2 => by have := hS k hk; have := h2.1; omega)) (fun k h2 => ⟨h2.1, by have := h2.2.1; have := hu.size; omega, h2.2.2⟩)
theorem Kind.bag_upd_nil (h : K.bag ty w base v l) (hu : Upd [] w w') : K.bag ty w' base v l := K.bag_upd h hu (by simp)
theorem Kind.bag_row (h : K.bag ty w base v l) : K.row w (since base w) v l := by
  obtain ⟨xo, c, css, e, h1, h2, h3, h4, h5, h6⟩ := Own.row h
  have hl := Own.lt h
  refine ⟨xo, c, css, e, h1.mono fun _ _ _ h1 => K.mono h1 (fun k h2 => ⟨h2.1, h2.2.1⟩), h2, h3, h4, h5, fun a ha hm => ?_⟩
  exact hl _ (h6 a ha hm)
theorem Kind.bag_open (h : K.bag ty w base v l) : ∃ css, Each (K.holds w (beside base w v)) l css ∧ w.ownsRow base ty K.z v l.length css.flatten := by
  obtain ⟨css, h1, h2, h3⟩ := h
  exact ⟨css, h1, h3⟩
theorem Kind.bag_of {css : List (List Value)} (h1 : Each (K.holds w (beside base w v)) l css) (h3 : w.ownsRow base ty K.z v l.length css.flatten) : K.bag ty w base v l :=
  ⟨css, h1, fun cs hc => by obtain ⟨x, -, h⟩ := h1.mem hc; exact ⟨K.len h, K.one h⟩, h3⟩
/-- An append of more. -/
theorem Kind.bag_mores {k : List X} {css kss : List (List Value)} {ao : Option Addr} {n cap : Nat} (h1 : Each (K.holds w (beside base w v)) l css) (hk : Each (K.holds w (beside base w v)) k kss)
    (ho : w'.ownsRow base ty K.z (.slice ao n cap) n (css.flatten ++ kss.flatten)) (hn : n = l.length + k.length) (hu : Upd v.ownBlock.toList w w')
    (hg : ∀ g, (Value.slice ao n cap).ownBlock = some g → v.ownBlock = some g ∨ w.heap.size ≤ g) : K.bag ty w' base (.slice ao n cap) (l ++ k) := by
  have tr : ∀ x cs, K.holds w (beside base w v) x cs → K.holds w' (beside base w' (.slice ao n cap)) x cs := fun x cs h => by
    refine K.mono (K.upd h hu (fun k hk h2 => ?_)) (fun k h2 => ⟨h2.1, by have := h2.2.1; have := hu.size; omega, fun e => ?_⟩)
    · have := h2.2.2
      cases hv : v.ownBlock with
      | none => rw [hv] at hk; simp at hk
      | some g => rw [hv] at hk; simp at hk; subst hk; exact this hv
    · rcases hg k e with h5 | h5
      · exact h2.2.2 h5
      · have := h2.2.1; omega
  refine Kind.bag_of ((h1.mono fun x cs _ h => tr x cs h).append (hk.mono fun x cs _ h => tr x cs h)) ?_
  rw [List.flatten_append, List.length_append, ← hn]
  exact ho
theorem Kind.bag_more {x : X} {css : List (List Value)} {cs : List Value} {ao : Option Addr} {n cap : Nat} (h1 : Each (K.holds w (beside base w v)) l css) (hk : K.holds w (beside base w v) x cs)
    (ho : w'.ownsRow base ty K.z (.slice ao n cap) n (css.flatten ++ cs)) (hn : n = l.length + 1) (hu : Upd v.ownBlock.toList w w')
    (hg : ∀ g, (Value.slice ao n cap).ownBlock = some g → v.ownBlock = some g ∨ w.heap.size ≤ g) : K.bag ty w' base (.slice ao n cap) (l ++ [x]) :=
  Kind.bag_mores h1 (.cons hk .nil) (by simpa using ho) (by simpa using hn) hu hg
end
end Go.Proofs.YthpnnffogbjhpaaGreatDoor
namespace Go.Proofs.YthpnnffogbjhpaaGreatDoor
open Go.WideShapes

/-- Keys of one kind, as the reader's literals. -/
structure Kys (κ : Type) where
  lit : κ → Lit
  inj : ∀ {a b : κ}, lit a = lit b → a = b
  key : ∀ a, WideAt.IsKeyLit (lit a)
  total : ∀ {a b : κ}, a ≠ b → (lit a).before (lit b) = true ∨ (lit b).before (lit a) = true
def Kys.lt {κ : Type} (K : Kys κ) (a b : κ) : Bool := (K.lit a).before (K.lit b)
theorem Kys.lt_trans {κ : Type} (K : Kys κ) {a b c : κ} (h1 : K.lt a b = true) (h2 : K.lt b c = true) : K.lt a c = true := before_trans h1 h2
theorem Kys.lt_irrefl {κ : Type} (K : Kys κ) (a : κ) : K.lt a a = false := before_irrefl _
theorem Kys.same {κ : Type} [DecidableEq κ] (K : Kys κ) (a b : κ) : (K.lit a).sameKey (K.lit b) = decide (a = b) := by
  by_cases h : a = b
  · subst h
    rw [WideAt.sameKey_self (K.key a)]
    simp
  · rw [decide_eq_false h]
    cases hs : (K.lit a).sameKey (K.lit b) with
    | false => rfl
    | true => exact absurd (K.inj (WideAt.sameKey_eq hs)) h
def Rise {κ α : Type} (K : Kys κ) (l : List (κ × α)) : Prop := l.Pairwise fun p q => K.lt p.1 q.1 = true
def mins {κ α : Type} (K : Kys κ) (x : κ × α) : List (κ × α) → List (κ × α)
  | [] => [x]
  | y :: r => if K.lt x.1 y.1 then x :: y :: r else y :: mins K x r
theorem mem_ins {κ α : Type} {K : Kys κ} {l : List (κ × α)} {x p : κ × α} : p ∈ mins K x l ↔ p = x ∨ p ∈ l := by
  induction l with
  | nil => simp [mins]
  | cons y r ih =>
    unfold mins
    split
    · simp
    · simp only [List.mem_cons, ih]
      constructor
      · rintro (h | h | h)
        · exact .inr (.inl h)
        · exact .inl h
        · exact .inr (.inr h)
      · rintro (h | h | h)
        · exact .inr (.inl h)
        · exact .inl h
        · exact .inr (.inr h)
theorem len_ins {κ α : Type} {K : Kys κ} {l : List (κ × α)} {x : κ × α} : (mins K x l).length = l.length + 1 := by
  induction l with
  | nil => rfl
  | cons y r ih =>
    unfold mins
    split <;> simp [ih]
theorem rise_ins {κ α : Type} {K : Kys κ} {l : List (κ × α)} {x : κ × α} (h : Rise K l) (hx : ∀ p ∈ l, p.1 ≠ x.1) : Rise K (mins K x l) := by
  induction l with
  | nil => simp [mins, Rise]
  | cons y r ih =>
    obtain ⟨h1, h2⟩ := List.pairwise_cons.1 h
    unfold mins
    split
    · rename_i hlt
      refine List.pairwise_cons.2 ⟨fun q hq => ?_, h⟩
      rcases List.mem_cons.1 hq with rfl | hq
      · exact hlt
      · exact K.lt_trans hlt (h1 q hq)
    · rename_i hlt
      refine List.pairwise_cons.2 ⟨fun q hq => ?_, ih h2 fun p hp => hx p (by simp [hp])⟩
      rcases mem_ins.1 hq with rfl | hq
      · rcases K.total (hx y (by simp)) with h3 | h3
        · exact h3
        · exact absurd h3 hlt
      · exact h1 q hq
theorem rise_nil {κ α : Type} {K : Kys κ} : Rise K ([] : List (κ × α)) := List.Pairwise.nil
def toD {H κ α : Type} (K : Kys κ) (dat : α → DataW H) (l : List (κ × α)) : DataW H := .map (l.map fun p => (K.lit p.1, dat p.2))
theorem insert_toD {H κ α : Type} {K : Kys κ} {l : List (κ × α)} {dat : α → DataW H} {x : κ × α} : DataW.insert (K.lit x.1, dat x.2) (l.map fun p => (K.lit p.1, dat p.2)) = (mins K x l).map fun p => (K.lit p.1, dat p.2) := by
  induction l with
  | nil => rfl
  | cons y r ih =>
    rw [List.map_cons]
    unfold DataW.insert mins Kys.lt
    split
    · rfl
    · rw [ih, List.map_cons]
theorem toD_size {H κ α : Type} {K : Kys κ} {l : List (κ × α)} {dat : α → DataW H} : Maps.size (toD K dat l) = l.length := by simp [toD, Maps.size]
section
variable {κ α : Type} [DecidableEq κ] {K : Kys κ} {l m : List (κ × α)} {k j : κ} {v : α}
def mfind (l : List (κ × α)) (k : κ) : Option α := (l.find? fun p => decide (p.1 = k)).map (·.2)
def mdel (l : List (κ × α)) (k : κ) : List (κ × α) := l.filter fun p => !decide (p.1 = k)
def mput (K : Kys κ) (l : List (κ × α)) (k : κ) (v : α) : List (κ × α) := mins K (k, v) (mdel l k)
theorem mfind_nil : mfind ([] : List (κ × α)) k = none := rfl
theorem mfind_cons (p : κ × α) : mfind (p :: l) k = if p.1 = k then some p.2 else mfind l k := by
  unfold mfind
  by_cases h : p.1 = k <;> simp [h]
theorem mfind_none (h : ∀ p ∈ l, p.1 ≠ k) : mfind l k = none := by
  induction l with
  | nil => rfl
  | cons y r ih => rw [mfind_cons, if_neg (h y (by simp)), ih fun p hp => h p (by simp [hp])]
theorem mfind_mem (h : mfind l k = some v) : (k, v) ∈ l := by
  induction l with
  | nil => cases h
  | cons y r ih =>
    rw [mfind_cons] at h
    split at h
    · cases h
      rename_i he
      subst he
      simp
    · exact List.mem_cons_of_mem _ (ih h)
theorem mfind_ins (x : κ × α) (hx : ∀ p ∈ l, p.1 ≠ x.1) : mfind (mins K x l) k = if x.1 = k then some x.2 else mfind l k := by
  induction l with
  | nil => simp only [mins, mfind_cons]
  | cons y r ih =>
    unfold mins
    split
    · rw [mfind_cons]
    · rw [mfind_cons, ih fun p hp => hx p (by simp [hp]), mfind_cons]
      by_cases h1 : y.1 = k
      · have h2 : x.1 ≠ k := fun e => hx y (by simp) (h1.trans e.symm)
        rw [if_pos h1, if_neg h2, if_pos h1]
      · rw [if_neg h1, if_neg h1]
theorem mem_del {p : κ × α} : p ∈ mdel l k ↔ p ∈ l ∧ p.1 ≠ k := by
  unfold mdel
  rw [List.mem_filter]
  simp
theorem mfind_del : mfind (mdel l k) j = if j = k then none else mfind l j := by
  by_cases h : j = k
  · subst h
    rw [if_pos rfl]
    exact mfind_none fun p hp => (mem_del.1 hp).2
  · rw [if_neg h]
    induction l with
    | nil => rfl
    | cons y r ih =>
      unfold mdel at ih ⊢
      rw [List.filter_cons]
      by_cases h1 : y.1 = k
      · rw [if_neg (by simp [h1]), ih, mfind_cons, if_neg (fun e => h (e.symm.trans h1))]
      · rw [if_pos (by simp [h1]), mfind_cons, mfind_cons, ih]
theorem mfind_put : mfind (mput K l k v) j = if j = k then some v else mfind l j := by
  unfold mput
  rw [mfind_ins _ fun p hp => (mem_del.1 hp).2, mfind_del]
  by_cases h : j = k
  · rw [if_pos h.symm, if_pos h]
  · rw [if_neg (fun e => h e.symm), if_neg h, if_neg h]
theorem rise_del (h : Rise K l) : Rise K (mdel l k) := h.filter _
theorem rise_put (h : Rise K l) : Rise K (mput K l k v) := rise_ins (rise_del h) fun _ hp => (mem_del.1 hp).2
theorem rise_fresh {p : κ × α} (h : Rise K (p :: l)) : mfind l p.1 = none := mfind_none fun q hq e => by
  have := (List.pairwise_cons.1 h).1 q hq
  rw [e, K.lt_irrefl] at this
  cases this
/-- Rows that rise are told by what they have at each key. -/
theorem rise_ext (hl : Rise K l) (hm : Rise K m) (h : ∀ k, mfind l k = mfind m k) : l = m := by
  induction l generalizing m with
  | nil =>
    cases m with
    | nil => rfl
    | cons b r =>
      have := h b.1
      rw [mfind_nil, mfind_cons, if_pos rfl] at this
      cases this
  | cons a l ih =>
    cases m with
    | nil =>
      have := h a.1
      rw [mfind_nil, mfind_cons, if_pos rfl] at this
      cases this
    | cons b m =>
      have low : ∀ {a b : κ × α} {l : List (κ × α)}, Rise K (b :: l) → K.lt a.1 b.1 = true → mfind (b :: l) a.1 = none := by
        intro a b l h hlt
        refine mfind_none fun q hq e => ?_
        have h1 : K.lt a.1 q.1 = true := by
          rcases List.mem_cons.1 hq with rfl | hq
          · exact hlt
          · exact K.lt_trans hlt ((List.pairwise_cons.1 h).1 q hq)
        rw [e, K.lt_irrefl] at h1
        cases h1
      have he : a.1 = b.1 := by
        refine Decidable.byContradiction fun hne => ?_
        rcases K.total hne with h1 | h1
        · have h2 := h a.1
          rw [low hm h1, mfind_cons, if_pos rfl] at h2
          cases h2
        · have h2 := h b.1
          rw [low hl h1, mfind_cons, if_pos rfl] at h2
          cases h2
      have hv : a.2 = b.2 := by
        have h2 := h a.1
        rw [mfind_cons, if_pos rfl, mfind_cons, if_pos he.symm] at h2
        exact Option.some.inj h2
      have hab : a = b := Prod.ext he hv
      subst hab
      congr 1
      refine ih (List.pairwise_cons.1 hl).2 (List.pairwise_cons.1 hm).2 fun k => ?_
      by_cases hk : a.1 = k
      · subst hk
        rw [rise_fresh hl, rise_fresh hm]
      · have := h k
        rwa [mfind_cons, if_neg hk, mfind_cons, if_neg hk] at this
theorem len_del_le : (mdel l k).length ≤ l.length := List.length_filter_le _ _
theorem len_put_le : (mput K l k v).length ≤ l.length + 1 := by
  unfold mput
  rw [len_ins]
  have := len_del_le (l := l) (k := k)
  omega
theorem mem_put {p : κ × α} (h : p ∈ mput K l k v) : p = (k, v) ∨ p ∈ l := by
  rcases mem_ins.1 h with h | h
  · exact .inl h
  · exact .inr (mem_del.1 h).1
/-! ### as data -/
variable {H : Type} {dat : α → DataW H}
theorem filter_toD : (l.map fun p => (K.lit p.1, dat p.2)).filter (fun p => !p.1.sameKey (K.lit k)) = (mdel l k).map fun p => (K.lit p.1, dat p.2) := by
  unfold mdel
  rw [List.filter_map]
  congr 2
  funext p
  simp only [Function.comp_apply, K.same]
theorem toD_del : (toD K dat l).del (K.lit k) = toD K dat (mdel l k) := by
  unfold toD
  simp only [DataW.del]
  rw [filter_toD]
theorem toD_put : (toD K dat l).put (K.lit k) (dat v) = toD K dat (mput K l k v) := by
  unfold toD
  simp only [DataW.put]
  rw [filter_toD]
  exact congrArg DataW.map (insert_toD (x := (k, v)))
theorem toD_find : (l.map fun p => (K.lit p.1, dat p.2)).find? (fun p => p.1.sameKey (K.lit k)) = (mfind l k).map fun v => (K.lit k, dat v) := by
  induction l with
  | nil => rfl
  | cons y r ih =>
    rw [List.map_cons, List.find?_cons, mfind_cons]
    simp only [K.same]
    by_cases h : y.1 = k
    · rw [if_pos h]; simp [h]
    · rw [if_neg h]; simpa [h] using ih
theorem toD_at {z : DataW H} : (toD K dat l).atKey (K.lit k) z = ((mfind l k).map dat).getD z := by
  unfold toD DataW.atKey
  simp only
  rw [toD_find]
  cases mfind l k <;> rfl
theorem toD_has : Maps.has (toD K dat l) (K.lit k) = (mfind l k).isSome := by
  unfold toD
  rw [Maps.has_eq]
  have h1 := toD_find (K := K) (dat := dat) (l := l) (k := k)
  cases hf : mfind l k with
  | none =>
    rw [hf] at h1
    simp only [Option.map_none, List.find?_eq_none] at h1
    simp only [Option.isSome_none, List.any_eq_false]
    exact h1
  | some v =>
    rw [hf] at h1
    have := List.find?_some h1
    have hm := List.mem_of_find?_eq_some h1
    simp only [Option.isSome_some, List.any_eq_true]
    exact ⟨_, hm, this⟩
theorem len_del_lt (h : mfind l k = some v) : (mdel l k).length < l.length := by
  unfold mdel
  rw [List.length_filter_lt_length_iff_exists]
  exact ⟨(k, v), mfind_mem h, by simp⟩
theorem sub_len (hl : Rise K l) : ∀ {m : List (κ × α)}, (∀ k v, mfind l k = some v → ∃ u, mfind m k = some u) → l.length ≤ m.length := by
  induction l with
  | nil => simp
  | cons a t ih =>
    intro m h
    obtain ⟨u, hu⟩ := h a.1 a.2 (by rw [mfind_cons, if_pos rfl])
    have h1 := ih (List.pairwise_cons.1 hl).2 (m := mdel m a.1) fun k v hv => by
      have hne : k ≠ a.1 := fun e => by rw [e, rise_fresh hl] at hv; cases hv
      obtain ⟨u, hu⟩ := h k v (by rw [mfind_cons, if_neg (fun e => hne e.symm)]; exact hv)
      exact ⟨u, by rw [mfind_del, if_neg hne]; exact hu⟩
    have h2 := len_del_lt hu
    simp only [List.length_cons]
    omega
/-- Of one length, and one has all that the other has: they are one. -/
theorem rise_eq (hl : Rise K l) (hm : Rise K m) (hlen : l.length = m.length) (h : ∀ k v, mfind l k = some v → mfind m k = some v) : l = m := by
  refine rise_ext hl hm fun k => ?_
  cases h1 : mfind l k with
  | some v => exact (h k v h1).symm
  | none =>
    cases h2 : mfind m k with
    | none => rfl
    | some u =>
      have h3 := len_del_lt h2
      have h4 := sub_len hl (m := mdel m k) fun j v hv => ⟨v, by
        have hne : j ≠ k := fun e => by rw [e, h1] at hv; cases hv
        rw [mfind_del, if_neg hne]
        exact h j v hv⟩
      omega
end
/-- Strings as keys. -/
def strK : Kys (List UInt8) where
  lit s := .string s
  inj h := by cases h; rfl
  key _ := trivial
  total {a b} h := ChangeMaps.before_total ⟨a, rfl⟩ ⟨b, rfl⟩ (fun e => h (by cases e; rfl))
/-- Numbers as keys. -/
def numK (q : IntKind) : Kys Nat where
  lit n := .int q (n : Int)
  inj h := by cases h; omega
  key _ := trivial
  total {a b} h := by
    simp only [Lit.before, decide_eq_true_eq]
    omega
end Go.Proofs.YthpnnffogbjhpaaGreatDoor
namespace Go.Proofs.YthpnnffogbjhpaaGreatDoor
open Go.RowKit Go.ChangeMaps Go.WideShapes

/-- A kind of maps: the types, how a key and a value are spelled, how a value reads. -/
structure MapKind (P : Program) (κ α : Type) where
  t : TypeId
  kt : TypeId
  et : TypeId
  K : Kys κ
  kv : κ → Value
  ev : α → Value
  okk : κ → Prop
  oke : α → Prop
  dat : α → DataW Unit
  R : Value → Option (DataW Unit × List MemPlace)
  z : α
  ht : P.underlying t = some (.map kt et)
  keyed : Maps.Keyed P kt
  hkey : ∀ {k}, okk k → keyOf P kt (kv k) = some (K.lit k)
  hR : ∀ {a}, oke a → R (ev a) = some (dat a, [])
  inv : ∀ {v a ps}, R v = some (dat a, ps) → v = ev a
  okz : oke z
  hz : ∀ w, (zeroValue et).run P w = .ok (ev z) w
section
variable {P : Program} {κ α : Type} {M : MapKind P κ α} {w w' : World} {g : Nat} {l : List (κ × α)}
/-- Block g is a map that has l. -/
def MapKind.is (M : MapKind P κ α) (w : World) (g : Nat) (l : List (κ × α)) : Prop := w.ownsMap P M.kt M.R g l.length (toD M.K M.dat l)
theorem owns_tight {k : TypeId} {R : Value → Option (DataW Unit × List MemPlace)} {b n : Nat} {D : DataW Unit} (h : w.ownsMap P k R b n D) : w.ownsMap P k R b (Maps.size D) D := by
  obtain ⟨es, clock, hb, F, hs, rfl⟩ := h
  exact ⟨es, clock, hb, F, by simp [Maps.size, length_sorted], rfl⟩
theorem MapKind.is_of {n : Nat} (h : w.ownsMap P M.kt M.R g n (toD M.K M.dat l)) : M.is w g l := by
  have := owns_tight h
  rwa [toD_size] at this
theorem MapKind.is_lt (h : M.is w g l) : g < w.heap.size := World.ownsMap.lt h
theorem MapKind.is_upd {S : List Nat} (h : M.is w g l) (hu : Upd S w w') (hS : g ∉ S) : M.is w' g l := by
  have hlt := MapKind.is_lt h
  obtain ⟨es, clock, hb, F, hs, hD⟩ := h
  exact ⟨es, clock, (hu.block g hlt hS).trans hb, F, hs, hD⟩
theorem MapKind.is_upd_nil (h : M.is w g l) (hu : Upd [] w w') : M.is w' g l := MapKind.is_upd h hu (by simp)
theorem MapKind.is_new (M : MapKind P κ α) (w : World) : M.is (w.alloc (.map #[] 0)) w.heap.size [] := World.ownsMap_made w P M.kt M.R
theorem MapKind.len (h : M.is w g l) (ty : TypeId) : (Builtin.len_ #[M.t] ty #[.map (some g)]).run P w = .ok (.int .i64 (l.length : Int)) w := by
  have := World.ownsMap.len (t := M.t) h M.ht ty
  rwa [toD_size] at this
theorem upd_of_grownRow {b : Nat} (h : w.grownBy w' (some b)) : Upd [b] w w' := Upd.of_grownBy h fun k e => by cases e; simp
end
section
variable {P : Program} {κ α : Type} [DecidableEq κ] {M : MapKind P κ α} {w w' : World} {g : Nat} {l : List (κ × α)} {k : κ} {v : α}
theorem MapKind.look (h : M.is w g l) (hk : M.okk k) : (Instr.lookup M.t (.map (some g)) (M.kv k) true).run P w = .ok (.tuple #[M.ev ((mfind l k).getD M.z), .bool (mfind l k).isSome]) w := by
  obtain ⟨v, ps, hr, hv⟩ := World.ownsMap.look_ok (t := M.t) h M.keyed M.ht (M.hz w) (M.hR M.okz) (M.hkey hk)
  rw [toD_at] at hv
  rw [toD_has] at hr
  have e : ((mfind l k).map M.dat).getD (M.dat M.z) = M.dat ((mfind l k).getD M.z) := by cases mfind l k <;> rfl
  rw [e] at hv
  rw [hr, M.inv hv]
theorem MapKind.look1 (h : M.is w g l) (hk : M.okk k) : (Instr.lookup M.t (.map (some g)) (M.kv k) false).run P w = .ok (M.ev ((mfind l k).getD M.z)) w := by
  obtain ⟨v, ps, hr, hv⟩ := World.ownsMap.lookup (t := M.t) h M.keyed M.ht (M.hz w) (M.hR M.okz) (M.hkey hk)
  rw [toD_at] at hv
  have e : ((mfind l k).map M.dat).getD (M.dat M.z) = M.dat ((mfind l k).getD M.z) := by cases mfind l k <;> rfl
  rw [e] at hv
  rw [hr, M.inv hv]
theorem MapKind.store (h : M.is w g l) (hk : M.okk k) (he : M.oke v) (hn : l.length < maxLen) :
    ∃ w', (Instr.mapUpdate M.t (.map (some g)) (M.kv k) (M.ev v)).run P w = .ok () w' ∧ M.is w' g (mput M.K l k v) ∧ Upd [g] w w' := by
  obtain ⟨w', hr, h1, h2⟩ := World.ownsMap.update (t := M.t) h M.keyed M.ht hn (M.hkey hk) (M.hR he)
  rw [toD_put] at h1
  exact ⟨w', hr, MapKind.is_of h1, upd_of_grownRow h2⟩
theorem MapKind.drop (h : M.is w g l) (hk : M.okk k) (ty : TypeId) :
    ∃ w', (Builtin.delete_ #[M.t, M.kt] ty #[.map (some g), M.kv k]).run P w = .ok (.tuple #[]) w' ∧ M.is w' g (mdel l k) ∧ Upd [g] w w' := by
  obtain ⟨w', hr, h1, h2⟩ := World.ownsMap.drop (t := M.t) h M.keyed M.ht (M.hkey hk) ty
  rw [toD_del] at h1
  exact ⟨w', hr, MapKind.is_of h1, upd_of_grownRow h2.grown⟩
end
end Go.Proofs.YthpnnffogbjhpaaGreatDoor
namespace Go.Proofs.YthpnnffogbjhpaaGreatDoor
open Go.RowKit Go.ChangeMaps Go.WideShapes

section
variable {P : Program} {κ α : Type} {M : MapKind P κ α} {w w' : World} {g r n : Nat} {l : List (κ × α)} {left : Lit → Bool} {cnt : Nat}
/-- A range over map g under way, its iterator at r: what is left of it. -/
def MapKind.rng (M : MapKind P κ α) (w : World) (g r : Nat) (l : List (κ × α)) (left : Lit → Bool) (cnt : Nat) : Prop := w.ranges P M.kt M.R g r l.length (toD M.K M.dat l) left cnt
theorem mfind_of_mem [DecidableEq κ] {p : κ × α} (h : p ∈ l) : ∃ v, mfind l p.1 = some v := by
  induction l with
  | nil => cases h
  | cons y t ih =>
    rw [mfind_cons]
    by_cases e : y.1 = p.1
    · exact ⟨_, by rw [if_pos e]⟩
    · rw [if_neg e]
      rcases List.mem_cons.1 h with rfl | h
      · exact absurd rfl e
      · exact ih h
theorem MapKind.rng_left [DecidableEq κ] (h : M.rng w g r l left cnt) {kl : Lit} (hk : left kl = true) : ∃ k v, kl = M.K.lit k ∧ mfind l k = some v ∧ ∃ q ∈ l, q.1 = k := by
  obtain ⟨es, clock, since, seen, c0, -, -, -, hD, -, -, -, -, hl, -, -⟩ := h
  obtain ⟨x, hx, hkl⟩ := hl kl hk
  have hm : WideElems.rg P M.kt M.R x ∈ (es.toList.map (WideElems.rg P M.kt M.R)).foldr DataW.insert [] := Go.mem_sorted.2 (List.mem_map.2 ⟨x, hx, rfl⟩)
  have hD' : l.map (fun p => (M.K.lit p.1, M.dat p.2)) = (es.toList.map (WideElems.rg P M.kt M.R)).foldr DataW.insert [] := by
    unfold toD at hD
    exact DataW.map.inj hD
  rw [← hD'] at hm
  obtain ⟨p, hp, he⟩ := List.mem_map.1 hm
  obtain ⟨v, hv⟩ := mfind_of_mem hp
  refine ⟨p.1, v, ?_, hv, p, hp, rfl⟩
  rw [← hkl, ← he]
theorem MapKind.rng_is (h : M.rng w g r l left cnt) : M.is w g l := World.ranges.owns h
theorem MapKind.rng_upd {S : List Nat} (h : M.rng w g r l left cnt) (hu : Upd S w w') (hg : g ∉ S) (hr : r ∉ S) : M.rng w' g r l left cnt := by
  have hlg := MapKind.is_lt (MapKind.rng_is h)
  have hlr : r < w.heap.size := World.ranges.lt h
  obtain ⟨es, clock, since, seen, c0, h1, h2, h3, h4, h5, h6⟩ := h
  exact ⟨es, clock, since, seen, c0, (hu.block g hlg hg).trans h1, h2, h3, h4, (hu.block r hlr hr).trans h5, h6⟩
theorem MapKind.rng_cnt (h : M.rng w g r l left cnt) : w.rangeLeft g r = cnt := World.ranges.left_eq h
theorem upd_none (h : w.grownBy w' none) : Upd [] w w' := Upd.of_grownBy h fun k e => by cases e
section
variable (w) {ops : Array Oper} {rest : List Oper} {o : Oper} {a : Act} {Q : Exit → Act → World → Prop}
theorem wpList_range_map (hg : o.guard = none) (m : Operand) (hop : o.op = Op.range M.t m) (hm : a.eval m = .map (some g)) (h : M.is w g l)
    (hK : ∀ w', M.rng w' g w.heap.size l (Maps.has (toD M.K M.dat l)) l.length → Upd [] w w' → w'.heap.size = w.heap.size + 1 → wpList P ops Q rest (a.put o.dst (.pointer (some ⟨w.heap.size, 0, none⟩))) w') :
    wpList P ops Q (o :: rest) a w :=
  wpList_range_own w hg m M.t hop M.kt M.et M.keyed M.ht M.R g l.length (toD M.K M.dat l) hm h fun w' h1 h2 h3 => hK w' (by rw [toD_size] at h1; exact h1) (upd_none h2) h3
theorem wpList_next_map [DecidableEq κ] (hg : o.guard = none) (it : Operand) (hop : o.op = Op.next it false) (hit : a.eval it = .pointer (some ⟨r, 0, none⟩)) (h : M.rng w g r l left cnt) (hok : ∀ p ∈ l, M.okk p.1)
    (hDone : cnt = 0 → (∀ kl, left kl = false) → wpList P ops Q rest (a.put o.dst (.tuple #[.bool false])) w)
    (hMore : ∀ (k : κ) (v : α) (w' : World) (cnt' : Nat), left (M.K.lit k) = true → mfind l k = some v → M.rng w' g r l (fun z => left z && !z.sameKey (M.K.lit k)) cnt' → cnt' < cnt → Upd [r] w w' → w'.heap.size = w.heap.size →
      (Instr.entry (.pointer (some ⟨r, 0, none⟩))).run P w' = .ok (.tuple #[M.kv k, M.ev v]) w' → wpList P ops Q rest (a.put o.dst (.tuple #[.bool true, M.kv k, M.ev v])) w') :
    wpList P ops Q (o :: rest) a w :=
  wpList_next_ranges w hg it hop M.kt M.keyed M.R id id (fun key _ _ => ⟨key, rfl⟩) (fun v _ _ => ⟨v, rfl⟩) g r l.length (toD M.K M.dat l) left cnt hit h hDone fun x c kl y w' cnt' hkey hl hR hat hrg hlt hgr hsz hen => by
    obtain ⟨k, v, rfl, hv, q, hq, rfl⟩ := MapKind.rng_left h hl
    have hx : x = M.kv q.1 := M.keyed.inj hkey (M.hkey (hok q hq))
    have hy := hat (M.dat M.z)
    rw [toD_at, hv] at hy
    have hc : c = M.ev v := M.inv (ps := y.2) (by rw [show id c = c from rfl] at hR; rw [hR]; show some y = some (M.dat v, y.2); rw [show M.dat v = y.1 from hy])
    subst hx; subst hc
    exact hMore q.1 v w' cnt' hl hv hrg hlt (upd_of_grownRow hgr) hsz hen
end
end
end Go.Proofs.YthpnnffogbjhpaaGreatDoor
namespace Go.Proofs.YthpnnffogbjhpaaGreatDoor
theorem zz1 {α : Type} (l : List α) (i : Nat) (a : α) : l.toArray.setIfInBounds i a = (l.set i a).toArray := List.setIfInBounds_toArray ..
theorem zz2 {α : Type} {x y : α} {l : List α} {i : Nat} : (x :: l).set (i + 1) y = x :: l.set i y := List.set_cons_succ
theorem zz3 {α : Type} {x y : α} {l : List α} : (x :: l).set 0 y = y :: l := List.set_cons_zero
theorem zz4 {α : Type} {l : List α} {i : Nat} (h : i < l.toArray.size) : l.toArray[i] = l[i]'(by simpa using h) := List.getElem_toArray h
theorem zz5 {α : Type} {x : α} {l : List α} {i : Nat} (h : i + 1 < (x :: l).length) : (x :: l)[i + 1] = l[i]'(Nat.lt_of_succ_lt_succ h) := rfl
theorem zz6 {α : Type} {x : α} {l : List α} (h : 0 < (x :: l).length) : (x :: l)[0] = x := rfl
section
variable {P : Program} {ops : Array Oper} {Q : Exit → Act → World → Prop} {md : Region.Mode} {S : World → Prop} {z : Nat}

/-- Whatever order is picked from here on; S holds behind every operation but number z. -/
def wpAnyZ (P : Program) (md : Region.Mode) (ops : Array Oper) (Q : Exit → Act → World → Prop) (S : World → Prop) (z : Nat) : Nat → Array Bool → Act → World → Prop
  | 0, listed, a, w => Region.ready md ops listed = [] ∧ Q .normal a w
  | fuel + 1, listed, a, w =>
    (Region.ready md ops listed = [] → Q .normal a w) ∧
    ∀ i ∈ Region.ready md ops listed, wpOp P ops Q i (fun a' w' => (i = z ∨ S w') ∧ wpAnyZ P md ops Q S z fuel (listed.setIfInBounds i true) a' w') a w

theorem wpAny_of_z : ∀ (fuel : Nat) (listed : Array Bool) (a : Act) (w : World), wpAnyZ P md ops Q S z fuel listed a w → wpAny P md ops Q fuel listed a w
  | 0, _, _, _, h => h
  | fuel + 1, _, _, _, h => ⟨h.1, fun i hi => wpOp_mono (fun a' w' h' => wpAny_of_z fuel _ a' w' h'.2) (h.2 i hi)⟩

theorem wpAnyZ_strong {S' : World → Prop} (hS : ∀ w, S' w → S w) : ∀ (fuel : Nat) (listed : Array Bool) (a : Act) (w : World), wpAnyZ P md ops Q S' z fuel listed a w → wpAnyZ P md ops Q S z fuel listed a w
  | 0, _, _, _, h => h
  | fuel + 1, _, _, _, h => ⟨h.1, fun i hi => wpOp_mono (fun a' w' h' => ⟨h'.1.imp id (hS _), wpAnyZ_strong hS fuel _ a' w' h'.2⟩) (h.2 i hi)⟩
/-- Operation z waits for operation i itself (or there is none). -/
def waitsB (md : Region.Mode) (ops : Array Oper) (z i : Nat) : Bool :=
  ((ops[z]?).map fun o => o.after.any fun e => Region.binds md e && e.on == i).getD true
theorem waits_spec {i : Nat} {oz : Oper} (h1 : waitsB md ops z i = true) (hz : ops[z]? = some oz) : ∃ e ∈ oz.after, Region.binds md e = true ∧ e.on = i := by
    unfold waitsB at h1
    rw [hz] at h1
    obtain ⟨e, he, hb⟩ := Array.any_eq_true'.1 h1
    simp only [Bool.and_eq_true, beq_iff_eq] at hb
    exact ⟨e, he, hb.1, hb.2⟩

theorem wpAnyZ_first {i : Nat} {oi : Oper} {v : Value} (hi : ops[i]? = some oi) (hsel : ∀ (j : Nat) (o : Oper) cs b, ops[j]? = some o → o.op ≠ .select cs b) (hsink : waitsB md ops z i = true)
    (hQ : ∀ c a w, Q (.panic c) (a.put oi.dst v) w → Q (.panic c) a w) :
    ∀ (fuel : Nat) (listed : Array Bool) (a : Act) (w : World),
      (∀ j oj, ops[j]? = some oj → j ≠ i → listed.getD j true = false → (∀ e ∈ oj.after, Region.binds md e = true → e.on ≠ i) → oi.apart ops oj = true) →
      i ∈ Region.ready md ops listed → YieldsIf P ops S oi v a → S w →
      wpAnyZ P md ops Q S z fuel (listed.setIfInBounds i true) (a.put oi.dst v) w → wpAnyZ P md ops Q S z (fuel + 1) listed a w := by
  intro fuel
  induction fuel with
  | zero =>
    intro listed a w _ hr hy hS H
    refine ⟨fun h => (by rw [h] at hr; cases hr), fun j hj => ?_⟩
    by_cases hji : j = i
    · subst hji; exact hy.wpOp hi hS ⟨.inr hS, H⟩
    · have := ready_mono hj hji
      rw [H.1] at this
      cases this
  | succ fuel ih =>
    intro listed a w hfree hr hy hS H
    refine ⟨fun h => (by rw [h] at hr; cases hr), fun j hj => ?_⟩
    by_cases hji : j = i
    · subst hji; exact hy.wpOp hi hS ⟨.inr hS, H⟩
    · have h1 := H.2 j (ready_mono hj hji)
      obtain ⟨hjun, oj, hoj, hall⟩ := mem_ready.1 hj
      have hnot : ∀ e ∈ oj.after, Region.binds md e = true → e.on ≠ i := fun e he hb heq => by
        have h1 := hall e he hb
        have h0 := (mem_ready.1 hr).1
        rw [heq] at h1
        rcases Nat.lt_or_ge i listed.size with h' | h'
        · simp [h'] at h0 h1; rw [h0] at h1; cases h1
        · simp [Array.getElem?_eq_none h'] at h1
      have hjz : j ≠ z := by
        rintro rfl
        obtain ⟨e, he, hb, hon⟩ := waits_spec hsink hoj
        exact hnot e he hb hon
      have h2 := wpOp_putIf hoj (hfree j oj hoj hji hjun hnot) (fun cs b => hsel i oi cs b hi) (fun cs b => hsel j oj cs b hoj) hQ hy h1
      have hfree' : ∀ k ok, ops[k]? = some ok → k ≠ i → (listed.setIfInBounds j true).getD k true = false →
          (∀ e ∈ ok.after, Region.binds md e = true → e.on ≠ i) → oi.apart ops ok = true := fun k ok hk hki hun hno => by
        refine hfree k ok hk hki ?_ hno
        by_cases hjk : j = k
        · subst hjk; exact hjun
        · rw [getD_set_ne true hjk] at hun; exact hun
      refine wpOp_mono (fun a' w' h3 => ⟨h3.2.1, ih (listed.setIfInBounds j true) a' w' hfree' (ready_mono hr (Ne.symm hji)) h3.1 (h3.2.1.resolve_left hjz) ?_⟩) h2
      rw [Array.setIfInBounds_comm _ _ hji]
      exact h3.2.2

theorem wpAnyZ_take (i : Nat) {oi : Oper} {v : Value} {fuel : Nat} {listed : Array Bool} {a : Act} {w : World} (hi : ops[i]? = some oi)
    (hs : Region.noSelect ops = true) (hz : waitsB md ops z i = true) (hf : Region.free md ops listed i = true) (hr : (Region.ready md ops listed).contains i = true)
    (hQ : ∀ c a w, Q (.panic c) (a.put oi.dst v) w → Q (.panic c) a w) (hw : Region.wanted oi (yielded ops a.tmps) = true) (hS : S w) (hy : ∀ w, S w → (execOp a.eval oi).run P w = .ok (.value v) w)
    (h : wpAnyZ P md ops Q S z fuel (listed.setIfInBounds i true) (a.put oi.dst v) w) : wpAnyZ P md ops Q S z (fuel + 1) listed a w := by
  exact wpAnyZ_first hi (Region.noSelect_spec hs) hz hQ fuel listed a w (Region.free_spec hi hf) (by simpa using hr) (.inl ⟨hw, hy⟩) hS h

theorem wpAnyZ_takeE (i : Nat) {oi : Oper} {fuel : Nat} {listed : Array Bool} {a : Act} {w : World} (hi : ops[i]? = some oi)
    (hs : Region.noSelect ops = true) (hz : waitsB md ops z i = true) (hf : Region.free md ops listed i = true) (hr : (Region.ready md ops listed).contains i = true)
    (hQ : ∀ c a v w, Q (.panic c) (a.put oi.dst v) w → Q (.panic c) a w) (hw : Region.wanted oi (yielded ops a.tmps) = true) (hS : S w)
    (h : ∃ v, (∀ w, S w → (execOp a.eval oi).run P w = .ok (.value v) w) ∧ wpAnyZ P md ops Q S z fuel (listed.setIfInBounds i true) (a.put oi.dst v) w) : wpAnyZ P md ops Q S z (fuel + 1) listed a w := by
  obtain ⟨v, h1, h2⟩ := h
  exact wpAnyZ_take i hi hs hz hf hr (fun c a w => hQ c a v w) hw hS h1 h2

/-- The same, its conditions as one. -/
theorem zE (i : Nat) {oi : Oper} {fuel : Nat} {listed : Array Bool} {a : Act} {w : World} (hi : ops[i]? = some oi)
    (hb : (Region.noSelect ops && (waitsB md ops z i && (Region.free md ops listed i && (Region.ready md ops listed).contains i))) = true)
    (hQ : ∀ c a v w, Q (.panic c) (a.put oi.dst v) w → Q (.panic c) a w) (hw : Region.wanted oi (yielded ops a.tmps) = true) (hS : S w)
    (h : ∃ v, (∀ w, S w → (execOp a.eval oi).run P w = .ok (.value v) w) ∧ wpAnyZ P md ops Q S z fuel (listed.setIfInBounds i true) (a.put oi.dst v) w) : wpAnyZ P md ops Q S z (fuel + 1) listed a w := by
  simp only [Bool.and_eq_true] at hb
  exact wpAnyZ_takeE i hi hb.1 hb.2.1 hb.2.2.1 hb.2.2.2 hQ hw hS h
/-- One alone may come up. -/
theorem wpAnyZ_one (i : Nat) {oi : Oper} {fuel : Nat} {listed : Array Bool} {a : Act} {w : World} (hr : Region.ready md ops listed = [i]) (hi : ops[i]? = some oi) (hw : Region.wanted oi (yielded ops a.tmps) = true)
    (h : ∀ K : Act → World → Prop, (∀ a' w', (i = z ∨ S w') → wpAnyZ P md ops Q S z fuel (listed.setIfInBounds i true) a' w' → K a' w') → oi.wp P a w K Q) : wpAnyZ P md ops Q S z (fuel + 1) listed a w := by
  refine ⟨fun h0 => (by rw [hr] at h0; cases h0), ?_⟩
  rw [hr]
  intro j hj
  obtain rfl : j = i := by simpa using hj
  unfold wpOp
  rw [hi]
  simp only [hw, if_true]
  exact .inl (h _ (fun a' w' h1 h2 => ⟨h1, h2⟩))
theorem wpAnyZ_done {listed : Array Bool} {a : Act} {w : World} (hr : Region.ready md ops listed = []) (h : Q .normal a w) :
    ∀ fuel, wpAnyZ P md ops Q S z fuel listed a w
  | 0 => ⟨hr, h⟩
  | _ + 1 => ⟨fun _ => h, by rw [hr]; simp⟩
theorem wp_region_z {id : Nat} {a : Act} {w : World} (S : World → Prop) (z : Nat) (hm : P.follows .mixedOrders = true)
    (h : wpAnyZ P .any ops Q S z ops.size (Array.replicate ops.size false) a (w.drewN 1)) : (Code.region id ops true).wp P Q a w :=
  wp_region_any hm (wpAny_of_z _ _ _ _ h)
end
end Go.Proofs.YthpnnffogbjhpaaGreatDoor
namespace Go.Proofs.YthpnnffogbjhpaaGreatDoor
section
variable {P : Program} (w : World)
theorem wpListIn_append_src {F : Fence} {nf : Nat} {ops : Array Oper} {rest : List Oper} {o : Oper} {a : Act} {Q : Exit → Act → World → Prop} (hgd : o.guard = none) (s x : Operand) (t : TypeId)
    (ho : o.op = .call { callee := .builtin .append, args := #[s, x], argTypes := #[t, t] })
    (base : Nat) (e : TypeId) (i : TypeInfo) (z : Value) (size bytes : Nat) (ht : P.underlying t = some (.slice e)) (hi : P.info? e = some i) (hz : i.zero = some z)
    (hsize : i.size = size) (hby : i.bytes = bytes) (hzs : z.cells.size = size) (hsz : 0 < size)
    (v : Value) (n : Nat) (xs : List Value) (hs : a.eval s = v) (hown : w.ownsRow base e size v n xs)
    (xo : Option Addr) (m c : Nat) (news : List Value) (hx : a.eval x = .slice xo m c) (hsrc : SrcAt w xo m c news size)
    (h63 : n + m ≤ maxLen) (hbytes : (n + m) * bytes ≤ 140737488355328) (hbase : base ≤ w.heap.size)
    (h : ∀ ao' cap' w', w'.ownsRow base e size (.slice ao' (n + m) cap') (n + m) (xs ++ news) → Upd v.ownBlock.toList w w' → (∀ g, (Value.slice ao' (n + m) cap').ownBlock = some g → v.ownBlock = some g ∨ w.heap.size ≤ g) →
      wpListIn F nf P ops Q rest (a.put o.dst (.slice ao' (n + m) cap')) w') : wpListIn F nf P ops Q (o :: rest) a w := by
  refine wpListIn_plain hgd fun K hK' => ?_
  obtain ⟨ao, cap, w', hr, h2, h3, h4, -⟩ := run_append_src (P := P) w base t o.type e i z size bytes ht hi hz hsize hby hzs hsz v n xs hown xo m c news hsrc h63 hbytes hbase
  unfold Oper.wpIn
  refine ⟨?_, ?_⟩
  · simp [Oper.about, ho, resolve, Target.leads, Sem.run_pure]
  · rw [Oper.semAt_plain F _ _ (by rw [ho]; intro c hc'; cases hc')]
    simp [execOp, ho, resolve, invoke, builtin, hs, hx, hr, Result.andThen]
    exact hK' _ _ (h _ _ _ h2 h3 h4)
end
/-! ### a region that draws its order, in a round: by the plain walk -/
section
variable {P : Program} {ops : Array Oper} {Q : Exit → Act → World → Prop} {md : Region.Mode} {l nf : Nat}
theorem rows_in {row : String} {args : Array Value} {w : World} {R : Value → World → Prop} (h : Rows P row args w R) : RowsIn (Fence.wide.inRound l) nf P row args w R := by
  intro c cs _
  obtain ⟨v, w', hr, hs⟩ := h c cs
  exact ⟨v, w', hr, stepsIn_wide.2 hs⟩
theorem oper_in {o : Oper} {a : Act} {w : World} {K : Act → World → Prop} (hd : ∀ c, o.op ≠ .defer c) (h : o.wp P a w K Q) : o.wpIn (Fence.wide.inRound l) nf P a w K Q := by
  refine ⟨fun _ _ => trivial, ?_⟩
  rw [Oper.semAt_plain _ _ _ hd]
  unfold Oper.wp at h
  generalize (execOp a.eval o).run P w = r at *
  cases r with
  | ok x w' =>
    cases x <;> simp only [Oper.upon, Oper.uponIn] at h ⊢ <;> first | exact h | exact ⟨fun hh => by simp [Fence.wide, Fence.inRound] at hh, CallsIn.inRound l (callsIn_wide.2 h)⟩ | exact ⟨fun hh => by simp [Fence.wide, Fence.inRound] at hh, rows_in h⟩
  | halt x w' => cases x <;> simp only [Oper.upon, Oper.uponIn] at h ⊢ <;> exact h
def noDefer (ops : Array Oper) : Bool := ops.all fun o => match o.op with | .defer _ => false | _ => true
theorem noDefer_spec (h : noDefer ops = true) {i : Nat} {o : Oper} (hi : ops[i]? = some o) : ∀ c, o.op ≠ .defer c := by
  intro c hc
  have := (Array.all_eq_true_iff_forall_mem.1 h) o (Array.mem_of_getElem? hi)
  rw [hc] at this
  cases this
theorem wpAny_in (hQ : ¬ LetsOut Q) (hd : noDefer ops = true) : ∀ (fuel : Nat) (listed : Array Bool) (a : Act) (w : World), wpAny P md ops Q fuel listed a w → wpAnyIn (Fence.wide.inRound l) nf P md ops Q fuel listed a w
  | 0, _, _, _, h => h
  | fuel + 1, listed, a, w, h => ⟨h.1, fun i hi => by
    have h1 := h.2 i hi
    unfold wpOp at h1
    unfold wpOpIn
    cases ho : ops[i]? with
    | none => rw [ho] at h1; exact wpAny_in hQ hd fuel _ _ _ h1
    | some o =>
      rw [ho] at h1
      simp only [] at h1 ⊢
      split
      · rename_i hw
        rw [if_pos hw] at h1
        rcases h1 with h1 | h1
        · exact oper_in (noDefer_spec hd ho) (Oper.wp_mono (fun a' w' h' => wpAny_in hQ hd fuel _ a' w' h') h1)
        · exact absurd h1.2 hQ
      · rename_i hw
        rw [if_neg hw] at h1
        exact ⟨fun _ _ => trivial, wpAny_in hQ hd fuel _ _ _ h1⟩⟩
theorem wpIn_region_z {id : Nat} {a : Act} {w : World} (S : World → Prop) (z : Nat) (hm : P.follows .mixedOrders = true) (hd : noDefer ops = true) (hQ : ¬ LetsOut Q)
    (h : wpAnyZ P .any ops Q S z ops.size (Array.replicate ops.size false) a (w.drewN 1)) : (Code.region id ops true).wpIn (Fence.wide.inRound l) nf P Q a w :=
  wpIn_region_any hm (wpAny_in hQ hd _ _ _ _ (wpAny_of_z _ _ _ _ h))
end
/-- One new cell as what is appended. -/
theorem src_one {w : World} {b cp : Nat} {v : Value} (h : w.cell? ⟨b, 0, none⟩ = some v) (h1 : v.oneCell' = true) : SrcAt w (some ⟨b, 0, none⟩) 1 cp [v] 1 :=
  ⟨rfl, by simpa using h1, by simp, fun a e j u hj => by
    cases e
    exact cell_at0 h j u hj⟩
end Go.Proofs.YthpnnffogbjhpaaGreatDoor
namespace Go.Proofs.YthpnnffogbjhpaaGreatDoor
section
variable {P : Program} {ops : Array Oper} {Q : Exit → Act → World → Prop} {S : World → Prop} {cs : List Nat}
/-- The first i have come up. -/
def firstL (n i : Nat) : Array Bool := (List.replicate i true ++ List.replicate (n - i) false).toArray
theorem firstL_next {n i : Nat} (h : i < n) : (firstL n i).setIfInBounds i true = firstL n (i + 1) := by
  unfold firstL
  obtain ⟨m, hm⟩ : ∃ m, n - i = m + 1 := ⟨n - i - 1, by omega⟩
  rw [hm, show n - (i + 1) = m by omega, List.setIfInBounds_toArray, List.set_append_right _ _ (by simp), List.length_replicate, Nat.sub_self, List.replicate_succ, List.set_cons_zero, List.replicate_succ', List.append_assoc]
  rfl
theorem firstL_zero (n : Nat) : firstL n 0 = Array.replicate n false := by unfold firstL; simp
/-- What is to be seen of the later ones: each waits for one of those from i on. -/
def aloneB (i : Nat) (os : List Oper) : Bool := os.all fun o => o.after.any fun e => Region.binds .any e && Nat.ble i e.on
/-- What is to be seen of the later ones: each waits for i, or has nothing to do with it. -/
def freeB (ops : Array Oper) (i : Nat) (o : Oper) (os : List Oper) : Bool := os.all fun x => x.after.any (fun e => Region.binds .any e && e.on == i) || o.apart ops x
def seqB (ops : Array Oper) (cs : List Nat) : Nat → List Oper → Bool
  | _, [] => true
  | i, o :: os => (o.after.all fun e => !Region.binds .any e || Nat.blt e.on i) && (if cs.contains i then aloneB i os else freeB ops i o os) && seqB ops cs (i + 1) os
/-- Each of cs comes up alone; the others may be taken first. -/
def seqOk (ops : Array Oper) (cs : List Nat) : Bool := Region.noSelect ops && seqB ops cs 0 ops.toList
theorem firstL_get {n i j : Nat} (hi : i ≤ n) : (firstL n i).getD j true = decide (j < i ∨ n ≤ j) := by
  unfold firstL
  rw [Array.getD_eq_getD_getElem?, List.getElem?_toArray]
  rcases Nat.lt_or_ge j i with h | h
  · rw [List.getElem?_append_left (by simpa using h), List.getElem?_replicate, if_pos h]
    simp [h]
  · rw [List.getElem?_append_right (by simpa using h), List.length_replicate, List.getElem?_replicate]
    by_cases h2 : j < n
    · rw [if_pos (by omega)]
      simp
      omega
    · rw [if_neg (by omega)]
      simp
      omega
theorem firstL_getF {n i j : Nat} (_ : i ≤ n) : (firstL n i).getD j false = decide (j < i) := by
  unfold firstL
  rw [Array.getD_eq_getD_getElem?, List.getElem?_toArray]
  rcases Nat.lt_or_ge j i with h | h
  · rw [List.getElem?_append_left (by simpa using h), List.getElem?_replicate, if_pos h]
    simp [h]
  · rw [List.getElem?_append_right (by simpa using h), List.length_replicate, List.getElem?_replicate]
    split
    · simp; omega
    · simp; omega
theorem seqB_drop {ops : Array Oper} : ∀ (os : List Oper) (i k : Nat), seqB ops cs i os = true → seqB ops cs (i + k) (os.drop k) = true
  | [], _, _, _ => by simp [seqB]
  | o :: os, i, 0, h => h
  | o :: os, i, k + 1, h => by
    simp only [seqB, Bool.and_eq_true] at h
    have := seqB_drop os (i + 1) k h.2
    rw [List.drop_succ_cons, show i + (k + 1) = i + 1 + k by omega]
    exact this
theorem ready_iff {i j : Nat} (hi : i ≤ ops.size) : j ∈ Region.ready .any ops (firstL ops.size i) ↔ i ≤ j ∧ ∃ o, ops[j]? = some o ∧ ∀ e ∈ o.after, Region.binds .any e = true → e.on < i := by
  rw [mem_ready, firstL_get hi]
  constructor
  · rintro ⟨h1, o, ho, h2⟩
    have hj := (Array.getElem?_eq_some_iff.1 ho).1
    refine ⟨by simp at h1; omega, o, ho, fun e he hb => ?_⟩
    have := h2 e he hb
    rw [firstL_getF hi] at this
    simpa using this
  · rintro ⟨h1, o, ho, h2⟩
    have hj := (Array.getElem?_eq_some_iff.1 ho).1
    refine ⟨by simp; omega, o, ho, fun e he hb => ?_⟩
    rw [firstL_getF hi]
    simpa using h2 e he hb
/-- One behind the other. -/
def wpSeq (P : Program) (ops : Array Oper) (Q : Exit → Act → World → Prop) (S : World → Prop) (cs : List Nat) : Nat → List Oper → Act → World → Prop
  | _, [], a, w => Q .normal a w
  | i, o :: os, a, w => Region.wanted o (yielded ops a.tmps) = true ∧ (cs.contains i = true → ∀ K : Act → World → Prop, (∀ a' w', S w' → wpSeq P ops Q S cs (i + 1) os a' w' → K a' w') → o.wp P a w K Q) ∧
      (cs.contains i = false → ∃ v, (∀ w, S w → (execOp a.eval o).run P w = .ok (.value v) w) ∧ wpSeq P ops Q S cs (i + 1) os (a.put o.dst v) w)
theorem wpAnyZ_of_seq (hok : seqOk ops cs = true) (hQ : ∀ c a d v w, Q (.panic c) (a.put d v) w → Q (.panic c) a w) :
    ∀ (k i : Nat) (os : List Oper) (a : Act) (w : World), i + k = ops.size → ops.toList.drop i = os → S w → wpSeq P ops Q S cs i os a w → wpAnyZ P .any ops Q S ops.size k (firstL ops.size i) a w := by
  simp only [seqOk, Bool.and_eq_true] at hok
  obtain ⟨h1, h2⟩ := hok
  intro k
  induction k with
  | zero =>
    intro i os a w hi hos hS h
    have hd : i = ops.size := by omega
    subst hd
    have : os = [] := by rw [← hos]; simp
    subst this
    refine ⟨List.eq_nil_iff_forall_not_mem.2 fun j hj => ?_, h⟩
    obtain ⟨h3, o, ho, -⟩ := (ready_iff (Nat.le_refl _)).1 hj
    have := (Array.getElem?_eq_some_iff.1 ho).1
    omega
  | succ k ih =>
    intro i os a w hi hos hS h
    have hlt : i < ops.size := by omega
    have hlt' : i < ops.toList.length := by simpa using hlt
    have h3 := seqB_drop _ 0 i h2
    rw [Nat.zero_add] at h3
    rw [List.drop_eq_getElem_cons hlt'] at hos h3
    subst hos
    simp only [seqB, Bool.and_eq_true] at h3
    obtain ⟨⟨h4, h5⟩, -⟩ := h3
    obtain ⟨hw, hc, hr⟩ := h
    have hoi : ops[i]? = some ops.toList[i] := by rw [Array.getElem?_eq_getElem hlt]; simp
    have hrd : i ∈ Region.ready .any ops (firstL ops.size i) := (ready_iff (by omega)).2 ⟨Nat.le_refl _, _, hoi, fun e he hb => by
      have := Array.all_eq_true_iff_forall_mem.1 h4 e he
      simpa [hb, Nat.blt_eq] using this⟩
    have later : ∀ j o, ops[j]? = some o → i < j → o ∈ ops.toList.drop (i + 1) := fun j o ho hj => by
      have h6 : ops.toList[j]? = some o := by simpa using ho
      refine List.mem_of_getElem? (i := j - (i + 1)) ?_
      rw [List.getElem?_drop, show i + 1 + (j - (i + 1)) = j by omega]
      exact h6
    cases hci : cs.contains i with
    | true =>
      rw [hci] at h5
      simp only [if_true, aloneB, List.all_eq_true] at h5
      have hal : ∀ j ∈ Region.ready .any ops (firstL ops.size i), j = i := fun j hj => by
        obtain ⟨h6, o, ho, h7⟩ := (ready_iff (by omega)).1 hj
        refine Decidable.byContradiction fun hne => ?_
        obtain ⟨e, he, h8⟩ := Array.any_eq_true'.1 (h5 o (later j o ho (by omega)))
        simp only [Bool.and_eq_true, Nat.ble_eq] at h8
        have := h7 e he h8.1
        omega
      have hone : ∀ K : Act → World → Prop, (∀ a' w', S w' → wpSeq P ops Q S cs (i + 1) (ops.toList.drop (i + 1)) a' w' → K a' w') → (ops.toList[i]).wp P a w K Q := hc hci
      refine ⟨fun h0 => (by rw [h0] at hrd; cases hrd), fun j hj => ?_⟩
      obtain rfl := hal j hj
      unfold wpOp
      rw [hoi]
      simp only [hw, if_true]
      refine .inl (hone _ fun a' w' hS' h6 => ⟨.inr hS', ?_⟩)
      rw [firstL_next hlt]
      exact ih (j + 1) _ a' w' (by omega) rfl hS' h6
    | false =>
      rw [hci] at h5
      simp only [Bool.false_eq_true, if_false, freeB, List.all_eq_true] at h5
      obtain ⟨v, h6, h7⟩ := hr hci
      have hf : Region.free .any ops (firstL ops.size i) i = true := by
        simp only [Region.free, hoi, List.all_eq_true, List.mem_range]
        intro j hj
        rw [firstL_get (by omega)]
        by_cases hji : j = i
        · simp [hji]
        by_cases hlj : j < i
        · simp [hlj]
        have h8 := h5 _ (later j _ (Array.getElem?_eq_getElem hj) (by omega))
        rw [Array.getElem?_eq_getElem hj]
        simp only [Bool.or_eq_true] at h8 ⊢
        exact .inr h8
      refine wpAnyZ_take i hoi h1 (by simp [waitsB]) hf (by simpa using hrd) (fun c a w => hQ c a _ v w) hw hS h6 ?_
      rw [firstL_next hlt]
      exact ih (i + 1) _ _ w (by omega) rfl hS h7
theorem wp_region_seq {id : Nat} {a : Act} {w : World} {os : List Oper} (ops : Array Oper) (he : os.toArray = ops) (cs : List Nat) (S : World → Prop) (hm : P.follows .mixedOrders = true) (hok : seqOk ops cs = true) (hQ : ∀ c a d v w, Q (.panic c) (a.put d v) w → Q (.panic c) a w)
    (hS : S (w.drewN 1)) (h : wpSeq P ops Q S cs 0 os a (w.drewN 1)) : (Code.region id os.toArray true).wp P Q a w := by
  subst he
  refine wp_region_z S (os.toArray.size) hm ?_
  rw [← firstL_zero]
  exact wpAnyZ_of_seq hok hQ _ 0 os a _ (by simp) (by simp) hS h
theorem wpSeq_take {i : Nat} {o : Oper} {os : List Oper} {a : Act} {w : World} (hw : Region.wanted o (yielded ops a.tmps) = true) (hi : cs.contains i = false)
    (h : ∃ v, (∀ w, S w → (execOp a.eval o).run P w = .ok (.value v) w) ∧ ∀ a', a.put o.dst v = a' → wpSeq P ops Q S cs (i + 1) os a' w) : wpSeq P ops Q S cs i (o :: os) a w := by
  obtain ⟨v, h1, h2⟩ := h
  exact ⟨hw, fun h => (by rw [hi] at h; cases h), fun _ => ⟨v, h1, h2 _ rfl⟩⟩
theorem wpSeq_one {i : Nat} {o : Oper} {os : List Oper} {a : Act} {w : World} (hw : Region.wanted o (yielded ops a.tmps) = true) (hi : cs.contains i = true)
    (h : ∀ K : Act → World → Prop, (∀ a' w', S w' → wpSeq P ops Q S cs (i + 1) os a' w' → K a' w') → o.wp P a w K Q) : wpSeq P ops Q S cs i (o :: os) a w :=
  ⟨hw, fun _ => h, fun h => (by rw [hi] at h; cases h)⟩
end
end Go.Proofs.YthpnnffogbjhpaaGreatDoor
namespace Go.Proofs.YthpnnffogbjhpaaGreatDoor
section
variable {P : Program} {ops : Array Oper} {Q : Exit → Act → World → Prop} {md : Region.Mode} {S : World → Prop} {z : Nat}

end
end Go.Proofs.YthpnnffogbjhpaaGreatDoor
namespace Go.Proofs.YthpnnffogbjhpaaGreatDoor
set_option linter.unusedVariables false
open Go.RowKit
/-- What lies from N on stays as it is. -/
def KeepsFrom (N : Nat) (w w' : World) : Prop := ∀ k, N ≤ k → k < w.heap.size → w'.heap[k]? = w.heap[k]?
theorem KeepsFrom.refl (N : Nat) (w : World) : KeepsFrom N w w := fun _ _ _ => rfl
theorem KeepsFrom.trans {N : Nat} {a b c : World} (h : KeepsFrom N a b) (h1 : a.heap.size ≤ b.heap.size) (k : KeepsFrom N b c) (_ : b.heap.size ≤ c.heap.size) : KeepsFrom N a c :=
  fun i hi hl => (k i hi (Nat.lt_of_lt_of_le hl h1)).trans (h i hi hl)
theorem KeepsFrom.putObj {N k : Nat} (w : World) (o : Obj) (hk : k < N) : KeepsFrom N w (w.putObj k o) := fun _ hi _ => World.putObj_heap_other (by omega)
theorem KeepsFrom.of_upd {N : Nat} {S : List Nat} {w w' : World} (h : Upd S w w') (hS : ∀ k ∈ S, k < N) : KeepsFrom N w w' :=
  fun k hk hl => h.block k hl (fun hm => by have := hS k hm; omega)
section
variable {P : Program}
/-- What an iterator's function promises whoever ranges over it: it is called with yield; the values come in the order of xs; it needs Dp of the world at the call, and that a round keeps the blocks of K, and all that was made since the call; it changes the blocks of S alone, and what is new. -/
def IterN (P : Program) (gf : FuncId) (first cap : Array Value) {α : Type} (enc : α → Array Value) (xs : List α) (K S : List Nat) (Dp : World → Prop) : Prop :=
  ∀ (n l : Nat) (J Jx : List α → World → Prop) (W : World), Dp W →
    (∀ pre x W1, J pre W1 → pre ++ [x] <+: xs → YieldAt Fence.wide n P l (enc x) W1 fun e W' =>
      (e = .returned (.bool true) ∧ J (pre ++ [x]) W' ∧ Keeps K W1 W' ∧ KeepsFrom W.heap.size W1 W') ∨ (e = .returned (.bool false) ∧ Jx (pre ++ [x]) W')) →
    (∀ pre W1 W2, J pre W1 → Upd S W1 W2 → J pre W2) →
    (∀ pre W1 W2, Jx pre W1 → Upd S W1 W2 → Jx pre W2) →
    J [] W →
    CallsIn Fence.wide n P gf (first ++ #[.func (.yield l) #[] #[]] ++ cap) W fun e W' => (∃ v, e = .returned v) ∧ (J xs W' ∨ ∃ pre, pre <+: xs ∧ Jx pre W')

/-- How a round's body may be left. -/
def bodyEndN {α : Type} (N : Nat) (K : List Nat) (I : List α → World → Prop) (Ix : Code → List α → World → Prop) (xs : List α) (W : World) : Exit → Act → World → Prop
  | .normal, _, W' => Keeps K W W' ∧ KeepsFrom N W W' ∧ I xs W'
  | .ret, _, W' => Keeps K W W' ∧ Ix .ret xs W'
  | .exit id, _, W' => Keeps K W W' ∧ Ix (.exit id) xs W'
  | .goto t, _, W' => Keeps K W W' ∧ Ix (.goto t) xs W'
  | .panic _, _, _ => False
  | .outgrown, _, _ => False

theorem wpIn_rangeN {α : Type} {n : Nat} {g : Operand} {ps : Array Tmp} {assign body : Code} {Q : Exit → Act → World → Prop} {a : Act} {w : World}
    {gf : Nat} {first cap : Array Value} (hg : a.eval g = .func (.func gf) first cap) (eg : ∀ args w, (callFunc gf args).run P w = .ok (.enter gf args) w)
    {enc : α → Array Value} {xs : List α} {K S : List Nat} {Dp : World → Prop} (hit : IterN P gf first cap enc xs K S Dp) (hps : ∀ x, (enc x).size = ps.size)
    (hK : ∀ k, k ∈ K → k < w.heap.size) (hS : ∀ k, k ∈ S → k < w.heap.size)
    (hD : ∀ W, Upd [] w W → Dp W)
    (I : List α → World → Prop) (Ix : Code → List α → World → Prop)
    (hI : ∀ pre W1 W2, I pre W1 → Upd ((w.heap.size + 1) :: S) W1 W2 → I pre W2)
    (hIx : ∀ c pre W1 W2, Ix c pre W1 → Upd ((w.heap.size + 1) :: S) W1 W2 → Ix c pre W2)
    (h0 : ∀ W, Upd [] w W → w.heap.size + 2 ≤ W.heap.size → I [] W) 
    (hround : ∀ (pre : List α) (x : α) (W : World), pre ++ [x] <+: xs → I pre W → w.heap.size + 2 ≤ W.heap.size →
      assign.wpIn (Fence.wide.inRound (w.heap.size + 1)) (n - 1) P (Exit.then (fun a₁ W1 => Keeps (w.heap.size :: (w.heap.size + 1) :: K) W W1 ∧ KeepsFrom (w.heap.size + 2) W W1 ∧
          ∀ W2, Upd [w.heap.size + 1] W1 W2 → (I pre W1 → I pre W2) → body.wpIn (Fence.wide.inRound (w.heap.size + 1)) (n - 1) P (bodyEndN (w.heap.size + 2) (w.heap.size :: (w.heap.size + 1) :: K) I Ix (pre ++ [x]) W2) a₁ W2) (fun _ _ _ => False))
        { tmps := (ps.zip (enc x)).foldl (fun t (p, v) => t.setIfInBounds p v) a.tmps, defers := [] } W)
    (hdone : ∀ (W : World), I xs W → W.heap[w.heap.size]? = some (.deferred (some [])) → Q .normal { a with defers := { target := .collected w.heap.size, args := #[] } :: a.defers } W)
    (hstop : ∀ (c : Code) (pre : List α) (W : World), pre <+: xs → Ix c pre W → W.heap[w.heap.size]? = some (.deferred (some [])) → c.wpIn Fence.wide n P Q { a with defers := { target := .collected w.heap.size, args := #[] } :: a.defers } W) :
    (Code.rangeFunc g ps assign body).wpIn Fence.wide n P Q a w := by
  refine wpIn_rangeFunc ?_
  intro fn hfn
  obtain ⟨rec, hrec⟩ : ∃ rec : LoopState → Option Code → Loop, rec = fun st pe => { state := st, pending := pe, fn, tmps := a.tmps, params := ps, assign, body, defers := w.heap.size } := ⟨_, rfl⟩
  obtain ⟨W0, hW0⟩ : ∃ W0, (w.alloc (.deferred (some []))).alloc (.loop (rec .ready none)) = W0 := ⟨_, rfl⟩
  have hL1 : W0.heap[w.heap.size + 1]? = some (.loop (rec .ready none)) := by
    rw [← hW0]; have := World.alloc_heap_new (w.alloc (.deferred (some []))) (.loop (rec .ready none)); rwa [World.size_alloc] at this
  have hK1 : W0.heap[w.heap.size]? = some (.deferred (some [])) := by
    rw [← hW0]; exact (Below.heap_alloc _ _ _ (by simp)).trans (World.alloc_heap_new w _)
  have hU1 : Upd [] w W0 := by rw [← hW0]; exact ((Upd.refl [] w).alloc _).alloc _
  have hz1 : W0.heap.size = w.heap.size + 2 := by rw [← hW0]; simp
  have hsz1 : w.heap.size + 2 ≤ W0.heap.size := by rw [← hW0]; simp
  refine ⟨w.heap.size + 1, [{ target := .collected w.heap.size, args := #[] }], W0, { target := .fn (.func gf) cap, args := first ++ #[.func (.yield (w.heap.size + 1)) #[] #[]] }, W0, gf,
    first ++ #[.func (.yield (w.heap.size + 1)) #[] #[]] ++ cap, W0, ?_, ?_, ?_, ?_, fun h => by simp [Fence.wide] at h, ?_⟩
  · rw [← hW0, hrec]; exact run_enterLoop_outer _ _ _ _ _
  · simp only [resolve, hg]
    simp [go_sem, Deferred.ofValue]
  · intro f' _; exact trivial
  · simp [invoke, go_sem, eg]
  · have hnl : ∀ k, k ∈ K → k ≠ w.heap.size + 1 ∧ k ≠ w.heap.size := fun k hk => by have := hK k hk; omega
    have hnS : ∀ k, k ∈ S → k ≠ w.heap.size + 1 ∧ k ≠ w.heap.size := fun k hk => by have := hS k hk; omega
    refine (hit (n - 1) (w.heap.size + 1)
      (fun pre W => I pre W ∧ W.heap[w.heap.size + 1]? = some (.loop (rec .ready none)) ∧ W.heap[w.heap.size]? = some (.deferred (some [])) ∧ w.heap.size + 2 ≤ W.heap.size)
      (fun pre W => ∃ c, Ix c pre W ∧ W.heap[w.heap.size + 1]? = some (.loop (rec .done (some c))) ∧ W.heap[w.heap.size]? = some (.deferred (some [])))
      W0 (hD W0 hU1) ?_ ?_ ?_ ⟨h0 W0 hU1 hsz1, hL1, hK1, hsz1⟩).mono ?_
    · rintro pre x W ⟨hi, hl, hk, hz⟩ hpre
      have hlt : w.heap.size + 1 < W.heap.size := (Array.getElem?_eq_some_iff.1 hl).1
      have hy := run_yield (P := P) (args := enc x) hl (by rw [hrec]; exact hps x)
      rw [hrec] at hy
      refine ⟨fn, _, assign, body, hy, roundIn_of_wpIn trivial (wpIn_mono (hround pre x W hpre hi hz) ?_)⟩
      clear hy
      rintro e1 a1 W1 he1
      cases e1 with
      | normal => ?_
      | exit id => exact he1.elim
      | goto t => exact he1.elim
      | ret => exact he1.elim
      | panic ch => exact he1.elim
      | outgrown => exact he1.elim
      obtain ⟨hk1, hw1, hb1⟩ := he1
      have hl1 := hk1.get hl (by simp)
      have hd1 := hk1.get hk (by simp)
      have hlt1 : w.heap.size + 1 < W1.heap.size := (Array.getElem?_eq_some_iff.1 hl1).1
      have hKW : Keeps K W W1 := ⟨hk1.1, fun k hk => hk1.2 k (by simp [hk])⟩
      refine ⟨_, run_beginRound hl1 (by rw [hrec]), ?_⟩
      have hl2 : (W1.putObj (w.heap.size + 1) (.loop { rec .ready none with state := .busy })).heap[w.heap.size + 1]? = some (.loop { rec .ready none with state := .busy }) := World.putObj_heap_same hlt1
      have hk2 : (W1.putObj (w.heap.size + 1) (.loop { rec .ready none with state := .busy })).heap[w.heap.size]? = some (.deferred (some [])) := (World.putObj_heap_other (by omega)).trans hd1
      have hkp2 : Keeps K W (W1.putObj (w.heap.size + 1) (.loop { rec .ready none with state := .busy })) :=
        hKW.trans ⟨by simp, fun k hk => World.putObj_heap_other (hnl k hk).1⟩
      refine wpIn_mono (hb1 _ ((Upd.refl _ _).putObj (.inl (by simp)) _) (fun hi1 => hI _ _ _ hi1 ((Upd.refl _ _).putObj (.inl (by simp)) _))) ?_
      have fin : ∀ (jump : Option Code) (W3 : World), Keeps (w.heap.size :: (w.heap.size + 1) :: K) (W1.putObj (w.heap.size + 1) (.loop { rec .ready none with state := .busy })) W3 →
          (Instr.endRound (w.heap.size + 1) jump).run P W3 = .ok (.bool jump.isNone) (W3.putObj (w.heap.size + 1) (.loop (rec (if jump.isNone then .ready else .done) jump))) ∧
          (W3.putObj (w.heap.size + 1) (.loop (rec (if jump.isNone then .ready else .done) jump))).heap[w.heap.size + 1]? = some (.loop (rec (if jump.isNone then .ready else .done) jump)) ∧
          (W3.putObj (w.heap.size + 1) (.loop (rec (if jump.isNone then .ready else .done) jump))).heap[w.heap.size]? = some (.deferred (some [])) ∧
          w.heap.size + 2 ≤ (W3.putObj (w.heap.size + 1) (.loop (rec (if jump.isNone then .ready else .done) jump))).heap.size ∧
          Keeps K W (W3.putObj (w.heap.size + 1) (.loop (rec (if jump.isNone then .ready else .done) jump))) := fun jump W3 hk3 => by
        have hl3 := hk3.get hl2 (by simp)
        have hk3' := hk3.get hk2 (by simp)
        have hz3 := hk3.1
        have := run_endRound (P := P) jump hl3
        rw [hrec] at this ⊢
        refine ⟨this, World.putObj_heap_same (Array.getElem?_eq_some_iff.1 hl3).1, (World.putObj_heap_other (by omega)).trans hk3', by have := hk1.1; simp at hz3 ⊢; omega, ?_⟩
        refine ⟨by have := hk1.1; simp at hz3 ⊢; omega, fun k hk => ?_⟩
        rw [World.putObj_heap_other (hnl k hk).1, hk3.2 k (by simp [hk])]
        exact hkp2.2 k hk
      rintro e a3 W3 hp
      cases e with
      | normal =>
        obtain ⟨hk3, hw3, hi3⟩ := hp
        obtain ⟨hr, hl4, hk4, hz4, hkp⟩ := fin none W3 hk3
        have hww : KeepsFrom W0.heap.size W (W3.putObj (w.heap.size + 1) (.loop (rec (if (none : Option Code).isNone then .ready else .done) none))) := by
          rw [hz1]
          exact ((hw1.trans hk1.1 (KeepsFrom.putObj _ _ (by omega)) (by simp)).trans (by have := hk1.1; simp; omega) hw3 (by have := hk3.1; simpa using this)).trans (by have := hk1.1; have := hk3.1; simp at this; omega) (KeepsFrom.putObj _ _ (by omega)) (by simp)
        exact ⟨_, _, hr, .inl ⟨rfl, ⟨hI _ _ _ hi3 ((Upd.refl _ _).putObj (.inl (by simp)) _), hl4, hk4, hz4⟩, hkp, hww⟩⟩
      | ret =>
        obtain ⟨hk3, hi3⟩ := hp
        obtain ⟨hr, hl4, hk4, hz4, hkp⟩ := fin (some .ret) W3 hk3
        exact ⟨_, _, hr, .inr ⟨rfl, .ret, hIx _ _ _ _ hi3 ((Upd.refl _ _).putObj (.inl (by simp)) _), hl4, hk4⟩⟩
      | exit id =>
        obtain ⟨hk3, hi3⟩ := hp
        obtain ⟨hr, hl4, hk4, hz4, hkp⟩ := fin (some (.exit id)) W3 hk3
        exact ⟨_, _, hr, .inr ⟨rfl, .exit id, hIx _ _ _ _ hi3 ((Upd.refl _ _).putObj (.inl (by simp)) _), hl4, hk4⟩⟩
      | goto t =>
        obtain ⟨hk3, hi3⟩ := hp
        obtain ⟨hr, hl4, hk4, hz4, hkp⟩ := fin (some (.goto t)) W3 hk3
        exact ⟨_, _, hr, .inr ⟨rfl, .goto t, hIx _ _ _ _ hi3 ((Upd.refl _ _).putObj (.inl (by simp)) _), hl4, hk4⟩⟩
      | panic ch => exact hp.elim
      | outgrown => exact hp.elim
    · rintro pre W2 W3 ⟨hi, hl, hk, hz⟩ hu
      refine ⟨hI _ _ _ hi (hu.mono fun k hk => by simp [hk]), hu.get hl (fun h => (hnS _ h).1 rfl), hu.get hk (fun h => (hnS _ h).2 rfl), Nat.le_trans hz hu.size⟩
    · rintro pre W2 W3 ⟨c, hi, hl, hk⟩ hu
      exact ⟨c, hIx _ _ _ _ hi (hu.mono fun k hk => by simp [hk]), hu.get hl (fun h => (hnS _ h).1 rfl), hu.get hk (fun h => (hnS _ h).2 rfl)⟩
    · rintro e W2 ⟨⟨v, rfl⟩, (⟨hi, hl, hk, hz⟩ | ⟨pre, hpre, c, hi, hl, hk⟩)⟩
      · exact ⟨none, _, by have := run_endLoop (P := P) hl (by rw [hrec]; simp); rw [hrec] at this; exact this, hdone _ (hI _ _ _ hi ((Upd.refl _ _).putObj (.inl (by simp)) _)) ((World.putObj_heap_other (by omega)).trans hk)⟩
      · exact ⟨some c, _, by have := run_endLoop (P := P) hl (by rw [hrec]; simp); rw [hrec] at this; exact this, hstop c pre _ hpre (hIx _ _ _ _ hi ((Upd.refl _ _).putObj (.inl (by simp)) _)) ((World.putObj_heap_other (by omega)).trans hk)⟩

/-- The same law, said of a plain walk. -/
theorem wp_rangeN {α : Type} {g : Operand} {ps : Array Tmp} {assign body : Code} {Q : Exit → Act → World → Prop} {a : Act} {w : World}
    {gf : Nat} {first cap : Array Value} (hg : a.eval g = .func (.func gf) first cap) (eg : ∀ args w, (callFunc gf args).run P w = .ok (.enter gf args) w)
    {enc : α → Array Value} {xs : List α} {K S : List Nat} {Dp : World → Prop} (hit : IterN P gf first cap enc xs K S Dp) (hps : ∀ x, (enc x).size = ps.size)
    (hK : ∀ k, k ∈ K → k < w.heap.size) (hS : ∀ k, k ∈ S → k < w.heap.size)
    (hD : ∀ W, Upd [] w W → Dp W)
    (I : List α → World → Prop) (Ix : Code → List α → World → Prop)
    (hI : ∀ pre W1 W2, I pre W1 → Upd ((w.heap.size + 1) :: S) W1 W2 → I pre W2)
    (hIx : ∀ c pre W1 W2, Ix c pre W1 → Upd ((w.heap.size + 1) :: S) W1 W2 → Ix c pre W2)
    (h0 : ∀ W, Upd [] w W → w.heap.size + 2 ≤ W.heap.size → I [] W) 
    (hround : ∀ (pre : List α) (x : α) (W : World), pre ++ [x] <+: xs → I pre W → w.heap.size + 2 ≤ W.heap.size →
      assign.wpIn (Fence.wide.inRound (w.heap.size + 1)) 0 P (Exit.then (fun a₁ W1 => Keeps (w.heap.size :: (w.heap.size + 1) :: K) W W1 ∧ KeepsFrom (w.heap.size + 2) W W1 ∧
          ∀ W2, Upd [w.heap.size + 1] W1 W2 → (I pre W1 → I pre W2) → body.wpIn (Fence.wide.inRound (w.heap.size + 1)) 0 P (bodyEndN (w.heap.size + 2) (w.heap.size :: (w.heap.size + 1) :: K) I Ix (pre ++ [x]) W2) a₁ W2) (fun _ _ _ => False))
        { tmps := (ps.zip (enc x)).foldl (fun t (p, v) => t.setIfInBounds p v) a.tmps, defers := [] } W)
    (hdone : ∀ (W : World), I xs W → W.heap[w.heap.size]? = some (.deferred (some [])) → Q .normal { a with defers := { target := .collected w.heap.size, args := #[] } :: a.defers } W)
    (hstop : ∀ (c : Code) (pre : List α) (W : World), pre <+: xs → Ix c pre W → W.heap[w.heap.size]? = some (.deferred (some [])) → c.wp P Q { a with defers := { target := .collected w.heap.size, args := #[] } :: a.defers } W) :
    (Code.rangeFunc g ps assign body).wp P Q a w :=
  (wpIn_wide (n := 0)).1 (wpIn_rangeN hg eg hit hps hK hS hD I Ix hI hIx h0 hround hdone (fun c pre W h1 h2 h3 => wpIn_wide.2 (hstop c pre W h1 h2 h3)))

end
end Go.Proofs.YthpnnffogbjhpaaGreatDoor
namespace Go.Proofs.YthpnnffogbjhpaaGreatDoor
set_option linter.unusedVariables false
open Go.RowKit
section
variable {P : Program}
/-- What an iterator's function promises whoever ranges over it: it is called with yield; the values come in some order, each as Pre allows, and at the end as Sp says; it needs Dp of the world at the call, and that a round keeps the blocks of K; it changes the blocks of S alone, and what is new. -/
def IterP (P : Program) (gf : FuncId) (first cap : Array Value) {α : Type} (enc : α → Array Value) (Sp : List α → Prop) (Pre : List α → α → Prop) (K S : List Nat) (Dp : World → Prop) : Prop :=
  ∀ (n l : Nat) (J Jx : List α → World → Prop) (W : World), Dp W →
    (∀ pre x W1, J pre W1 → Pre pre x → YieldAt Fence.wide n P l (enc x) W1 fun e W' =>
      (e = .returned (.bool true) ∧ J (pre ++ [x]) W' ∧ Keeps K W1 W' ∧ KeepsWalks W1 W') ∨ (e = .returned (.bool false) ∧ Jx (pre ++ [x]) W')) →
    (∀ pre W1 W2, J pre W1 → Upd S W1 W2 → J pre W2) →
    (∀ pre r o W1 W2, J pre W1 → W.heap.size ≤ r → W1.heap[r]? = some o → o.isWalk = true → Upd [r] W1 W2 → J pre W2) →
    (∀ pre W1 W2, Jx pre W1 → Upd S W1 W2 → Jx pre W2) →
    J [] W →
    CallsIn Fence.wide n P gf (first ++ #[.func (.yield l) #[] #[]] ++ cap) W fun e W' => (∃ v, e = .returned v) ∧ ((∃ xs, Sp xs ∧ J xs W') ∨ ∃ pre, Jx pre W')

/-- How a round's body may be left. -/
def bodyEndW {α : Type} (K : List Nat) (I : List α → World → Prop) (Ix : Code → List α → World → Prop) (xs : List α) (W : World) : Exit → Act → World → Prop
  | .normal, _, W' => Keeps K W W' ∧ KeepsWalks W W' ∧ I xs W'
  | .ret, _, W' => Keeps K W W' ∧ Ix .ret xs W'
  | .exit id, _, W' => Keeps K W W' ∧ Ix (.exit id) xs W'
  | .goto t, _, W' => Keeps K W W' ∧ Ix (.goto t) xs W'
  | .panic _, _, _ => False
  | .outgrown, _, _ => False

theorem wpIn_rangeP {α : Type} {n : Nat} {g : Operand} {ps : Array Tmp} {assign body : Code} {Q : Exit → Act → World → Prop} {a : Act} {w : World}
    {gf : Nat} {first cap : Array Value} (hg : a.eval g = .func (.func gf) first cap) (eg : ∀ args w, (callFunc gf args).run P w = .ok (.enter gf args) w)
    {enc : α → Array Value} {Sp : List α → Prop} {Pre : List α → α → Prop} {K S : List Nat} {Dp : World → Prop} (hit : IterP P gf first cap enc Sp Pre K S Dp) (hps : ∀ x, (enc x).size = ps.size)
    (hK : ∀ k, k ∈ K → k < w.heap.size) (hS : ∀ k, k ∈ S → k < w.heap.size)
    (hD : ∀ W, Upd [] w W → Dp W)
    (I : List α → World → Prop) (Ix : Code → List α → World → Prop)
    (hI : ∀ pre W1 W2, I pre W1 → Upd ((w.heap.size + 1) :: S) W1 W2 → I pre W2)
    (hIw : ∀ pre r o W1 W2, I pre W1 → w.heap.size ≤ r → W1.heap[r]? = some o → o.isWalk = true → Upd [r] W1 W2 → I pre W2)
    (hIx : ∀ c pre W1 W2, Ix c pre W1 → Upd ((w.heap.size + 1) :: S) W1 W2 → Ix c pre W2)
    (h0 : ∀ W, Upd [] w W → w.heap.size + 2 ≤ W.heap.size → I [] W) 
    (hround : ∀ (pre : List α) (x : α) (W : World), Pre pre x → I pre W → w.heap.size + 2 ≤ W.heap.size →
      assign.wpIn (Fence.wide.inRound (w.heap.size + 1)) (n - 1) P (Exit.then (fun a₁ W1 => Keeps (w.heap.size :: (w.heap.size + 1) :: K) W W1 ∧ KeepsWalks W W1 ∧
          ∀ W2, Upd [w.heap.size + 1] W1 W2 → (I pre W1 → I pre W2) → body.wpIn (Fence.wide.inRound (w.heap.size + 1)) (n - 1) P (bodyEndW (w.heap.size :: (w.heap.size + 1) :: K) I Ix (pre ++ [x]) W2) a₁ W2) (fun _ _ _ => False))
        { tmps := (ps.zip (enc x)).foldl (fun t (p, v) => t.setIfInBounds p v) a.tmps, defers := [] } W)
    (hdone : ∀ (xs : List α) (W : World), Sp xs → I xs W → W.heap[w.heap.size]? = some (.deferred (some [])) → Q .normal { a with defers := { target := .collected w.heap.size, args := #[] } :: a.defers } W)
    (hstop : ∀ (c : Code) (pre : List α) (W : World), Ix c pre W → W.heap[w.heap.size]? = some (.deferred (some [])) → c.wpIn Fence.wide n P Q { a with defers := { target := .collected w.heap.size, args := #[] } :: a.defers } W) :
    (Code.rangeFunc g ps assign body).wpIn Fence.wide n P Q a w := by
  refine wpIn_rangeFunc ?_
  intro fn hfn
  obtain ⟨rec, hrec⟩ : ∃ rec : LoopState → Option Code → Loop, rec = fun st pe => { state := st, pending := pe, fn, tmps := a.tmps, params := ps, assign, body, defers := w.heap.size } := ⟨_, rfl⟩
  obtain ⟨W1, hW1⟩ : ∃ W1, (w.alloc (.deferred (some []))).alloc (.loop (rec .ready none)) = W1 := ⟨_, rfl⟩
  have hL1 : W1.heap[w.heap.size + 1]? = some (.loop (rec .ready none)) := by
    rw [← hW1]; have := World.alloc_heap_new (w.alloc (.deferred (some []))) (.loop (rec .ready none)); rwa [World.size_alloc] at this
  have hK1 : W1.heap[w.heap.size]? = some (.deferred (some [])) := by
    rw [← hW1]; exact (Below.heap_alloc _ _ _ (by simp)).trans (World.alloc_heap_new w _)
  have hU1 : Upd [] w W1 := by rw [← hW1]; exact ((Upd.refl [] w).alloc _).alloc _
  have hsz1 : w.heap.size + 2 ≤ W1.heap.size := by rw [← hW1]; simp
  refine ⟨w.heap.size + 1, [{ target := .collected w.heap.size, args := #[] }], W1, { target := .fn (.func gf) cap, args := first ++ #[.func (.yield (w.heap.size + 1)) #[] #[]] }, W1, gf,
    first ++ #[.func (.yield (w.heap.size + 1)) #[] #[]] ++ cap, W1, ?_, ?_, ?_, ?_, fun h => by simp [Fence.wide] at h, ?_⟩
  · rw [← hW1, hrec]; exact run_enterLoop_outer _ _ _ _ _
  · simp only [resolve, hg]
    simp [go_sem, Deferred.ofValue]
  · intro f' _; exact trivial
  · simp [invoke, go_sem, eg]
  · have hnl : ∀ k, k ∈ K → k ≠ w.heap.size + 1 ∧ k ≠ w.heap.size := fun k hk => by have := hK k hk; omega
    have hnS : ∀ k, k ∈ S → k ≠ w.heap.size + 1 ∧ k ≠ w.heap.size := fun k hk => by have := hS k hk; omega
    refine (hit (n - 1) (w.heap.size + 1)
      (fun pre W => I pre W ∧ W.heap[w.heap.size + 1]? = some (.loop (rec .ready none)) ∧ W.heap[w.heap.size]? = some (.deferred (some [])) ∧ w.heap.size + 2 ≤ W.heap.size)
      (fun pre W => ∃ c, Ix c pre W ∧ W.heap[w.heap.size + 1]? = some (.loop (rec .done (some c))) ∧ W.heap[w.heap.size]? = some (.deferred (some [])))
      W1 (hD W1 hU1) ?_ ?_ ?_ ?_ ⟨h0 W1 hU1 hsz1, hL1, hK1, hsz1⟩).mono ?_
    · rintro pre x W ⟨hi, hl, hk, hz⟩ hpre
      have hlt : w.heap.size + 1 < W.heap.size := (Array.getElem?_eq_some_iff.1 hl).1
      have hy := run_yield (P := P) (args := enc x) hl (by rw [hrec]; exact hps x)
      rw [hrec] at hy
      refine ⟨fn, _, assign, body, hy, roundIn_of_wpIn trivial (wpIn_mono (hround pre x W hpre hi hz) ?_)⟩
      clear hy
      rintro e1 a1 W1 he1
      cases e1 with
      | normal => ?_
      | exit id => exact he1.elim
      | goto t => exact he1.elim
      | ret => exact he1.elim
      | panic ch => exact he1.elim
      | outgrown => exact he1.elim
      obtain ⟨hk1, hw1, hb1⟩ := he1
      have hl1 := hk1.get hl (by simp)
      have hd1 := hk1.get hk (by simp)
      have hlt1 : w.heap.size + 1 < W1.heap.size := (Array.getElem?_eq_some_iff.1 hl1).1
      have hKW : Keeps K W W1 := ⟨hk1.1, fun k hk => hk1.2 k (by simp [hk])⟩
      refine ⟨_, run_beginRound hl1 (by rw [hrec]), ?_⟩
      have hl2 : (W1.putObj (w.heap.size + 1) (.loop { rec .ready none with state := .busy })).heap[w.heap.size + 1]? = some (.loop { rec .ready none with state := .busy }) := World.putObj_heap_same hlt1
      have hk2 : (W1.putObj (w.heap.size + 1) (.loop { rec .ready none with state := .busy })).heap[w.heap.size]? = some (.deferred (some [])) := (World.putObj_heap_other (by omega)).trans hd1
      have hkp2 : Keeps K W (W1.putObj (w.heap.size + 1) (.loop { rec .ready none with state := .busy })) :=
        hKW.trans ⟨by simp, fun k hk => World.putObj_heap_other (hnl k hk).1⟩
      refine wpIn_mono (hb1 _ ((Upd.refl _ _).putObj (.inl (by simp)) _) (fun hi1 => hI _ _ _ hi1 ((Upd.refl _ _).putObj (.inl (by simp)) _))) ?_
      have fin : ∀ (jump : Option Code) (W3 : World), Keeps (w.heap.size :: (w.heap.size + 1) :: K) (W1.putObj (w.heap.size + 1) (.loop { rec .ready none with state := .busy })) W3 →
          (Instr.endRound (w.heap.size + 1) jump).run P W3 = .ok (.bool jump.isNone) (W3.putObj (w.heap.size + 1) (.loop (rec (if jump.isNone then .ready else .done) jump))) ∧
          (W3.putObj (w.heap.size + 1) (.loop (rec (if jump.isNone then .ready else .done) jump))).heap[w.heap.size + 1]? = some (.loop (rec (if jump.isNone then .ready else .done) jump)) ∧
          (W3.putObj (w.heap.size + 1) (.loop (rec (if jump.isNone then .ready else .done) jump))).heap[w.heap.size]? = some (.deferred (some [])) ∧
          w.heap.size + 2 ≤ (W3.putObj (w.heap.size + 1) (.loop (rec (if jump.isNone then .ready else .done) jump))).heap.size ∧
          Keeps K W (W3.putObj (w.heap.size + 1) (.loop (rec (if jump.isNone then .ready else .done) jump))) := fun jump W3 hk3 => by
        have hl3 := hk3.get hl2 (by simp)
        have hk3' := hk3.get hk2 (by simp)
        have hz3 := hk3.1
        have := run_endRound (P := P) jump hl3
        rw [hrec] at this ⊢
        refine ⟨this, World.putObj_heap_same (Array.getElem?_eq_some_iff.1 hl3).1, (World.putObj_heap_other (by omega)).trans hk3', by have := hk1.1; simp at hz3 ⊢; omega, ?_⟩
        refine ⟨by have := hk1.1; simp at hz3 ⊢; omega, fun k hk => ?_⟩
        rw [World.putObj_heap_other (hnl k hk).1, hk3.2 k (by simp [hk])]
        exact hkp2.2 k hk
      rintro e a3 W3 hp
      cases e with
      | normal =>
        obtain ⟨hk3, hw3, hi3⟩ := hp
        obtain ⟨hr, hl4, hk4, hz4, hkp⟩ := fin none W3 hk3
        have hww : KeepsWalks W (W3.putObj (w.heap.size + 1) (.loop (rec (if (none : Option Code).isNone then .ready else .done) none))) :=
          ((hw1.trans (KeepsWalks.putObj _ hl1 rfl)).trans hw3).trans (KeepsWalks.putObj _ (hk3.get hl2 (by simp)) rfl)
        exact ⟨_, _, hr, .inl ⟨rfl, ⟨hI _ _ _ hi3 ((Upd.refl _ _).putObj (.inl (by simp)) _), hl4, hk4, hz4⟩, hkp, hww⟩⟩
      | ret =>
        obtain ⟨hk3, hi3⟩ := hp
        obtain ⟨hr, hl4, hk4, hz4, hkp⟩ := fin (some .ret) W3 hk3
        exact ⟨_, _, hr, .inr ⟨rfl, .ret, hIx _ _ _ _ hi3 ((Upd.refl _ _).putObj (.inl (by simp)) _), hl4, hk4⟩⟩
      | exit id =>
        obtain ⟨hk3, hi3⟩ := hp
        obtain ⟨hr, hl4, hk4, hz4, hkp⟩ := fin (some (.exit id)) W3 hk3
        exact ⟨_, _, hr, .inr ⟨rfl, .exit id, hIx _ _ _ _ hi3 ((Upd.refl _ _).putObj (.inl (by simp)) _), hl4, hk4⟩⟩
      | goto t =>
        obtain ⟨hk3, hi3⟩ := hp
        obtain ⟨hr, hl4, hk4, hz4, hkp⟩ := fin (some (.goto t)) W3 hk3
        exact ⟨_, _, hr, .inr ⟨rfl, .goto t, hIx _ _ _ _ hi3 ((Upd.refl _ _).putObj (.inl (by simp)) _), hl4, hk4⟩⟩
      | panic ch => exact hp.elim
      | outgrown => exact hp.elim
    · rintro pre W2 W3 ⟨hi, hl, hk, hz⟩ hu
      refine ⟨hI _ _ _ hi (hu.mono fun k hk => by simp [hk]), hu.get hl (fun h => (hnS _ h).1 rfl), hu.get hk (fun h => (hnS _ h).2 rfl), Nat.le_trans hz hu.size⟩
    · rintro pre r o W2 W3 ⟨hi, hl, hk, hz⟩ hge hr ho hu
      have n1 : w.heap.size + 1 ≠ r := by rintro rfl; rw [hl] at hr; cases hr; cases ho
      have n2 : w.heap.size ≠ r := by rintro rfl; rw [hk] at hr; cases hr; cases ho
      exact ⟨hIw _ _ _ _ _ hi (by have := hU1.size; omega) hr ho hu, hu.get hl (by simpa using n1), hu.get hk (by simpa using n2), Nat.le_trans hz hu.size⟩
    · rintro pre W2 W3 ⟨c, hi, hl, hk⟩ hu
      exact ⟨c, hIx _ _ _ _ hi (hu.mono fun k hk => by simp [hk]), hu.get hl (fun h => (hnS _ h).1 rfl), hu.get hk (fun h => (hnS _ h).2 rfl)⟩
    · rintro e W2 ⟨⟨v, rfl⟩, (⟨xs, hsp, hi, hl, hk, hz⟩ | ⟨pre, c, hi, hl, hk⟩)⟩
      · exact ⟨none, _, by have := run_endLoop (P := P) hl (by rw [hrec]; simp); rw [hrec] at this; exact this, hdone xs _ hsp (hI _ _ _ hi ((Upd.refl _ _).putObj (.inl (by simp)) _)) ((World.putObj_heap_other (by omega)).trans hk)⟩
      · exact ⟨some c, _, by have := run_endLoop (P := P) hl (by rw [hrec]; simp); rw [hrec] at this; exact this, hstop c pre _ (hIx _ _ _ _ hi ((Upd.refl _ _).putObj (.inl (by simp)) _)) ((World.putObj_heap_other (by omega)).trans hk)⟩

/-- The same law, said of a plain walk. -/
theorem wp_rangeP {α : Type} {g : Operand} {ps : Array Tmp} {assign body : Code} {Q : Exit → Act → World → Prop} {a : Act} {w : World}
    {gf : Nat} {first cap : Array Value} (hg : a.eval g = .func (.func gf) first cap) (eg : ∀ args w, (callFunc gf args).run P w = .ok (.enter gf args) w)
    {enc : α → Array Value} {Sp : List α → Prop} {Pre : List α → α → Prop} {K S : List Nat} {Dp : World → Prop} (hit : IterP P gf first cap enc Sp Pre K S Dp) (hps : ∀ x, (enc x).size = ps.size)
    (hK : ∀ k, k ∈ K → k < w.heap.size) (hS : ∀ k, k ∈ S → k < w.heap.size)
    (hD : ∀ W, Upd [] w W → Dp W)
    (I : List α → World → Prop) (Ix : Code → List α → World → Prop)
    (hI : ∀ pre W1 W2, I pre W1 → Upd ((w.heap.size + 1) :: S) W1 W2 → I pre W2)
    (hIw : ∀ pre r o W1 W2, I pre W1 → w.heap.size ≤ r → W1.heap[r]? = some o → o.isWalk = true → Upd [r] W1 W2 → I pre W2)
    (hIx : ∀ c pre W1 W2, Ix c pre W1 → Upd ((w.heap.size + 1) :: S) W1 W2 → Ix c pre W2)
    (h0 : ∀ W, Upd [] w W → w.heap.size + 2 ≤ W.heap.size → I [] W) 
    (hround : ∀ (pre : List α) (x : α) (W : World), Pre pre x → I pre W → w.heap.size + 2 ≤ W.heap.size →
      assign.wpIn (Fence.wide.inRound (w.heap.size + 1)) 0 P (Exit.then (fun a₁ W1 => Keeps (w.heap.size :: (w.heap.size + 1) :: K) W W1 ∧ KeepsWalks W W1 ∧
          ∀ W2, Upd [w.heap.size + 1] W1 W2 → (I pre W1 → I pre W2) → body.wpIn (Fence.wide.inRound (w.heap.size + 1)) 0 P (bodyEndW (w.heap.size :: (w.heap.size + 1) :: K) I Ix (pre ++ [x]) W2) a₁ W2) (fun _ _ _ => False))
        { tmps := (ps.zip (enc x)).foldl (fun t (p, v) => t.setIfInBounds p v) a.tmps, defers := [] } W)
    (hdone : ∀ (xs : List α) (W : World), Sp xs → I xs W → W.heap[w.heap.size]? = some (.deferred (some [])) → Q .normal { a with defers := { target := .collected w.heap.size, args := #[] } :: a.defers } W)
    (hstop : ∀ (c : Code) (pre : List α) (W : World), Ix c pre W → W.heap[w.heap.size]? = some (.deferred (some [])) → c.wp P Q { a with defers := { target := .collected w.heap.size, args := #[] } :: a.defers } W) :
    (Code.rangeFunc g ps assign body).wp P Q a w :=
  (wpIn_wide (n := 0)).1 (wpIn_rangeP hg eg hit hps hK hS hD I Ix hI hIw hIx h0 hround hdone (fun c pre W h1 h2 => wpIn_wide.2 (hstop c pre W h1 h2)))

end
end Go.Proofs.YthpnnffogbjhpaaGreatDoor
