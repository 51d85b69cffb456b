/- 's[l:h]' of a slice, under one name, and what it reads as. Over any program. -/
import Derived.Test.YtcjflnnjieolfaaDoorGen
import Derived.Deep.Slices
namespace Go.Proofs.YtcjflnnjieolfaaDoor
open Go.RowKit

/-- Where 's[l:..]' begins: a slice that ends where it begins keeps its address. -/
def cutAt (xo : Option Addr) (l c : Nat) : Option Addr := if c = l then xo else xo.map (·.add l)
theorem cutAt_zero (xo : Option Addr) (c : Nat) : cutAt xo 0 c = xo := by
  unfold cutAt
  split
  · rfl
  · cases xo with
    | none => rfl
    | some a => simp [Addr.add]
theorem cutAt_none {xo : Option Addr} {l c : Nat} : cutAt xo l c = none ↔ xo = none := by
  unfold cutAt
  split <;> simp
theorem src_cut {w : World} {xo : Option Addr} {m c l h q : Nat} {bs : List UInt8} (hs : SrcAt w xo m c (bs.map u8v) 1) (h1 : l ≤ h) (h2 : h ≤ m) (h3 : h ≤ q) (h4 : q ≤ c) :
    SrcAt w (cutAt xo l q) (h - l) (q - l) (((bs.drop l).take (h - l)).map u8v) 1 := by
  have hlen : bs.length = m := by have := hs.len; simpa using this
  refine ⟨by simp; omega, fun u hu => ?_, fun e => ?_, fun a e j u hj => ?_⟩
  · obtain ⟨x, -, rfl⟩ := List.mem_map.1 hu
    rfl
  · have := hs.nil (cutAt_none.1 e)
    omega
  · rw [List.getElem?_map, List.getElem?_take, List.getElem?_drop] at hj
    split at hj
    · rename_i hjl
      have hq : q ≠ l := by omega
      unfold cutAt at e
      rw [if_neg hq] at e
      cases xo with
      | none => cases e
      | some a0 =>
        cases e
        have := hs.cells a0 rfl (l + j) u (by rw [List.getElem?_map]; exact hj)
        rw [← this, Go.Deep.add_add]
    · cases hj
/-- The whole, by another capacity, or cut off behind. -/
theorem src_head {w : World} {xo : Option Addr} {m c h : Nat} {bs : List UInt8} (hs : SrcAt w xo m c (bs.map u8v) 1) (h2 : h ≤ m) (h3 : m ≤ c) : SrcAt w xo h c ((bs.take h).map u8v) 1 := by
  have := src_cut (l := 0) (h := h) (q := c) hs (Nat.zero_le _) h2 (by omega) (Nat.le_refl _)
  rw [cutAt_zero] at this
  simpa using this
/-- A block of bytes, read from its head. -/
theorem src_block {w : World} {b n c : Nat} {cs : Array Value} {t : TypeId} {fr : Nat × Nat} {bs : List UInt8} (h : w.heap[b]? = some (.cells cs t fr)) (hc : cs.toList = bs.map u8v) (hn : bs.length = n) : SrcAt w (some ⟨b, 0, none⟩) n c (bs.map u8v) 1 := by
  subst hn
  refine ⟨by simp, by simp [u8v, Value.oneCell'], by simp, fun a e j u hj => ?_⟩
  cases e
  have hplain : (⟨b, 0, none⟩ : Addr).add j = ⟨b, j, none⟩ := by unfold Addr.add; split <;> simp_all
  rw [hplain]
  rw [← hc] at hj
  simp only [World.cell?, h]
  simpa using hj
theorem src_own {w : World} {base n : Nat} {e : TypeId} {ao : Option Addr} {cap : Nat} {xs : List Value} (h : w.ownsRow base e 1 (.slice ao n cap) n xs) (h1 : ∀ u ∈ xs, u.oneCell' = true) : SrcAt w ao n cap xs 1 := by
  obtain ⟨ao', cap', e1, -, -, h3⟩ := owns_slice h
  cases e1
  refine ⟨h.1, h1, fun e => ?_, fun a e j u hj => ?_⟩
  · rcases h.2 with ⟨e2, e3⟩ | ⟨g, c, cur, e2, -⟩
    · cases e2; exact ⟨rfl, rfl⟩
    · rw [e] at e2; cases e2
  · obtain ⟨g, e4, -, -, e5⟩ := h3 j u hj
    rw [e] at e4
    cases e4
    by_cases h0 : j = 0
    · subst h0; simpa [Addr.add] using e5
    · simpa [Addr.add, h0] using e5
section
variable {P : Program} (t e : TypeId) (ht : P.underlying t = some (.slice e)) (hz : ∀ w, (sizeOf e).run P w = .ok 1 w) (xo : Option Addr) (m c : Nat)
include ht hz
theorem run_cut_l (l : Nat) (i : Int) (hi : i = l) (h : l ≤ m) (w : World) : (Instr.slice t (.slice xo m c) (some (.int .i64 i)) none none).run P w = .ok (.slice (cutAt xo l c) (m - l) (c - l)) w := by
  subst hi
  have hel : P.elem t = e := by simp [Program.elem, ht]
  rw [run_slice_l (P := P) w t xo m c (by rw [hel]; exact ht) .i64 l (by omega) (by omega), hel, hz]
  simp [Result.andThen, sliced, cutAt]
theorem run_cut_lh (l h : Nat) (i j : Int) (hi : i = l) (hj : j = h) (h1 : l ≤ h) (h2 : h ≤ c) (w : World) : (Instr.slice t (.slice xo m c) (some (.int .i64 i)) (some (.int .i64 j)) none).run P w = .ok (.slice (cutAt xo l c) (h - l) (c - l)) w := by
  subst hi; subst hj
  have hel : P.elem t = e := by simp [Program.elem, ht]
  rw [run_slice_lh (P := P) w t xo m c (by rw [hel]; exact ht) .i64 .i64 l h (by omega) (by omega) (by omega), hel, hz]
  simp [Result.andThen, sliced, cutAt]
theorem run_cut_lhm (l h q : Nat) (i j k : Int) (hi : i = l) (hj : j = h) (hk : k = q) (h1 : l ≤ h) (h2 : h ≤ q) (h3 : q ≤ c) (w : World) : (Instr.slice t (.slice xo m c) (some (.int .i64 i)) (some (.int .i64 j)) (some (.int .i64 k))).run P w = .ok (.slice (cutAt xo l q) (h - l) (q - l)) w := by
  subst hi; subst hj; subst hk
  have hel : P.elem t = e := by simp [Program.elem, ht]
  rw [run_slice_lhm (P := P) w t xo m c (by rw [hel]; exact ht) .i64 .i64 .i64 l h q (by omega) (by omega) (by omega) (by omega), hel, hz]
  simp [Result.andThen, sliced, cutAt]
theorem run_cut_h (h : Nat) (j : Int) (hj : j = h) (h2 : h ≤ c) (w : World) : (Instr.slice t (.slice xo m c) none (some (.int .i64 j)) none).run P w = .ok (.slice xo h c) w := by
  subst hj
  have hel : P.elem t = e := by simp [Program.elem, ht]
  rw [run_slice_h (P := P) w t xo m c (by rw [hel]; exact ht) .i64 h (by omega) (by omega), hel, hz]
  have := cutAt_zero xo c
  simp only [cutAt] at this
  simp [Result.andThen, sliced]
  rw [← this]
  split <;> simp_all
end
theorem sizeB : ∀ w, (sizeOf 5).run Tryd.prog w = .ok 1 w := fun w => by kernel_rfl
end Go.Proofs.YtcjflnnjieolfaaDoor
