/- Rows of bytes that may be written. -/
import Derived.Test.YtekbhfpdakhhkaaDoorStRd
namespace Go.Proofs.YtekbhfpdakhhkaaDoor.St
set_option linter.unusedSimpArgs false
set_option linter.unusedVariables false
set_option linter.unnecessarySimpa false
open Go.RowKit Go.Lib Go.Proofs.YtekbhfpdakhhkaaDoor.Crc Go.Proofs.YtekbhfpdakhhkaaDoor.Var Go.Proofs.YtekbhfpdakhhkaaDoor.DiskW Go.Proofs.YtekbhfpdakhhkaaDoor.Rec Go.Proofs.YtekbhfpdakhhkaaDoor.Fr

/-- A row of bytes that may be written. -/
def Nums (w : World) (ao : Option Addr) (n : Nat) : Prop := ∀ j, j < n → ∃ (b : Nat) (u : Int), ao = some ⟨b, 0, none⟩ ∧ w.cell? ⟨b, j, none⟩ = some (.int .u8 u) ∧ w.frozen? ⟨b, j, none⟩ = false
def blks (ao : Option Addr) (n : Nat) : List Nat := if n = 0 then [] else (ao.toList.map (·.block))
theorem Nums.set {w : World} {b n i : Nat} (h : Nums w (some ⟨b, 0, none⟩) n) (u : Int) (hi : i < n) : Nums (w.setCell ⟨b, i, none⟩ (.int .u8 u)) (some ⟨b, 0, none⟩) n := fun j hj => by
  obtain ⟨b', v, e, h1, h2⟩ := h j hj
  cases e
  refine ⟨b, if i = j then u else v, rfl, ?_, by rw [World.frozen?_setCell]; exact h2⟩
  by_cases hij : i = j
  · subst hij
    rw [if_pos rfl]
    exact World.cell?_setCell_same _ _ _ h1
  · rw [if_neg hij, World.cell?_setCell_other _ _ _ _ (by intro e; cases e; exact hij rfl)]
    exact h1
theorem Nums.upd {w w' : World} {ao : Option Addr} {n : Nat} {Y : List Nat} (h : Nums w ao n) (hu : Upd Y w w') (hY : ∀ a, ao = some a → n ≠ 0 → a.block ∉ Y) : Nums w' ao n := fun j hj => by
  obtain ⟨b, v, e, h1, h2⟩ := h j hj
  have hb := World.block_lt_of_cell? w _ h1
  have hk := hu.block b hb (hY _ e (by omega))
  refine ⟨b, v, e, ?_, ?_⟩
  · rw [← h1]; simp only [World.cell?, hk]
  · rw [← h2]; simp only [World.frozen?, hk]
theorem nums_own {w : World} {base n cap : Nat} {ao : Option Addr} {bs : List UInt8} (h : w.ownsRow base 5 1 (.slice ao n cap) n (bs.map u8v)) : Nums w ao n := fun j hj => by
  obtain ⟨hlen, h1⟩ := h
  have hl : bs.length = n := by simpa using hlen
  rcases h1 with ⟨-, e⟩ | ⟨b, c, cur, e, hb, hh, h2, h3, h4, h5⟩
  · omega
  · cases e
    have hcell := owns_slice (w := w) (base := base) (e := 5) (size := 1) (v := .slice (some ⟨b, 0, none⟩) n cap) (n := n) (xs := bs.map u8v) ⟨hlen, .inr ⟨b, cap, cur, rfl, hb, hh, h2, h3, h4, h5⟩⟩
    obtain ⟨ao', c', e1, -, -, hg⟩ := hcell
    cases e1
    obtain ⟨b', e2, -, -, hc⟩ := hg j (u8v bs[j]) (by rw [List.getElem?_map, List.getElem?_eq_getElem (by omega)]; rfl)
    cases e2
    exact ⟨b, _, rfl, hc, blk_free hh⟩
/-- '[]byte(s)', to be written. -/
theorem conv_nums (w : World) (s : List UInt8) (hs : s.length ≤ maxLen) : ∃ cap W, (convert 9 36 (.string (strOf s))).run Tryd.prog w = .ok (.slice (some ⟨w.heap.size, 0, none⟩) s.length cap) W ∧ Upd [] w W ∧ FreshB w W (some ⟨w.heap.size, 0, none⟩) s.length cap s ∧ Nums W (some ⟨w.heap.size, 0, none⟩) s.length ∧ W.heap.size = w.heap.size + 1 := by
  have hr := run_bytes_of_string w 9 36 5 (strOf s) Tryd.underlying9 Tryd.underlying36 Tryd.underlying5
  obtain ⟨cap, W, h1, h2, h3⟩ := conv_bytes w s hs
  have e := hr.symm.trans h1
  have hz := strOf_size s
  have hsz : W.heap.size = w.heap.size + 1 := by
    have hW := (Result.ok.inj e).2
    rw [← hW]
    simp
  refine ⟨cap, W, h1, h2, h3, fun j hj => ?_, hsz⟩
  have hc := h3.src.cells ⟨w.heap.size, 0, none⟩ rfl j (u8v s[j]) (by rw [List.getElem?_map, List.getElem?_eq_getElem hj]; rfl)
  have had : (⟨w.heap.size, 0, none⟩ : Addr).add j = ⟨w.heap.size, j, none⟩ := by unfold Addr.add; split <;> simp_all
  rw [had] at hc
  refine ⟨w.heap.size, _, rfl, hc, ?_⟩
  have hW := (Result.ok.inj e).2
  subst hW
  have hge := grownCap_ge w s.length 0 5
  rw [hz]
  have hb := blk_new w.drew (.cells (bytesRow (strOf s) (grownCap w s.length 0 5)) 5 ((bytesRow (strOf s) (grownCap w s.length 0 5)).size, (bytesRow (strOf s) (grownCap w s.length 0 5)).size + 1))
  have hat := bytesRow_at (strOf s) (grownCap w s.length 0 5) j (by simpa [strOf] using hj)
  have hlt : j < (bytesRow (strOf s) (grownCap w s.length 0 5)).size := by
    rcases Nat.lt_or_ge j (bytesRow (strOf s) (grownCap w s.length 0 5)).size with h | h
    · exact h
    · rw [Array.getElem?_eq_none h] at hat; cases hat
  have hb' : (w.drew.alloc (.cells (bytesRow (strOf s) (grownCap w s.length 0 5)) 5 ((bytesRow (strOf s) (grownCap w s.length 0 5)).size, (bytesRow (strOf s) (grownCap w s.length 0 5)).size + 1))).heap[w.heap.size]? = _ := hb
  simp only [World.frozen?, hb']
  simp
  omega
end Go.Proofs.YtekbhfpdakhhkaaDoor.St
