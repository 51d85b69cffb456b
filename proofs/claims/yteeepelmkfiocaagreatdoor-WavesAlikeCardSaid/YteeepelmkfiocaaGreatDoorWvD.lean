/- What a batch came to, as cells. -/
import Derived.Test.YteeepelmkfiocaaGreatDoorWvPure
import Derived.Test.YteeepelmkfiocaaGreatDoorKvW
import Derived.Test.YteeepelmkfiocaaGreatDoorGenAll
namespace Go.Proofs.YteeepelmkfiocaaGreatDoor.Kv
set_option linter.unusedSimpArgs false
set_option linter.unusedVariables false
set_option linter.unnecessarySimpa false
open Go.RowKit Go.Lib Go.Proofs.YteeepelmkfiocaaGreatDoor.Crc Go.Proofs.YteeepelmkfiocaaGreatDoor.Cm

abbrev TDone : TypeId := 35
def dnc (d : Dn) : List Value := [.int .u8 (d.r.code : Int), .string (strOf d.r.text), .bool d.fresh, .int .i64 (d.wave : Int), .int .i64 (d.turn : Int)]
def dncs (ds : List Dn) : List Value := ds.flatMap dnc
theorem infoDn : (Tryz.prog.info? TDone).map (fun i => (i.zero, i.size, i.bytes)) = some (some (.agg #[.int .u8 0, .string ByteArray.empty, .bool false, .int .i64 0, .int .i64 0]), 5, 48) := by kernel_rfl
theorem dncs_cons (d : Dn) (ds : List Dn) : dncs (d :: ds) = .int .u8 (d.r.code : Int) :: .string (strOf d.r.text) :: .bool d.fresh :: .int .i64 (d.wave : Int) :: .int .i64 (d.turn : Int) :: dncs ds := rfl
theorem dncs_app (xs ys : List Dn) : dncs (xs ++ ys) = dncs xs ++ dncs ys := by simp [dncs]
theorem dncs_len : ∀ ds : List Dn, (dncs ds).length = ds.length * 5
  | [] => rfl
  | d :: ds => by rw [dncs_cons]; simp only [List.length_cons]; rw [dncs_len ds]; omega
theorem dncs_get : ∀ (ds : List Dn) (i k : Nat) (d : Dn) (v : Value), ds[i]? = some d → (dnc d)[k]? = some v → (dncs ds)[i * 5 + k]? = some v
  | [], i, k, d, v, h, _ => by simp at h
  | e :: ds, 0, k, d, v, h, hk => by
    simp at h
    subst h
    rw [Nat.zero_mul, Nat.zero_add]
    show (dnc e ++ dncs ds)[k]? = some v
    rw [List.getElem?_append_left (List.getElem?_eq_some_iff.1 hk).1]
    exact hk
  | e :: ds, i + 1, k, d, v, h, hk => by
    have := dncs_get ds i k d v (by simpa using h) hk
    rw [show (i + 1) * 5 + k = (i * 5 + k) + 1 + 1 + 1 + 1 + 1 by omega, dncs_cons]
    simpa using this
theorem dncs_set : ∀ (ds : List Dn) (i : Nat) (d : Dn), i < ds.length →
    ((((((dncs ds).set (i * 5) (.int .u8 (d.r.code : Int))).set (i * 5 + 1) (.string (strOf d.r.text))).set (i * 5 + 2) (.bool d.fresh)).set (i * 5 + 3) (.int .i64 (d.wave : Int))).set (i * 5 + 4) (.int .i64 (d.turn : Int))) = dncs (ds.set i d)
  | [], i, d, h => by simp at h
  | e :: ds, 0, d, h => by
    rw [dncs_cons]
    simp only [Nat.zero_mul, Nat.zero_add, List.set_cons_zero, dncs_cons]
    rfl
  | e :: ds, i + 1, d, h => by
    have := dncs_set ds i d (by simpa using h)
    rw [show (i + 1) * 5 = i * 5 + 1 + 1 + 1 + 1 + 1 by omega, List.set_cons_succ, dncs_cons, dncs_cons, ← this]
    rw [show i * 5 + 1 + 1 + 1 + 1 + 1 + 1 = (i * 5 + 1) + 1 + 1 + 1 + 1 + 1 by omega, show i * 5 + 1 + 1 + 1 + 1 + 1 + 2 = (i * 5 + 2) + 1 + 1 + 1 + 1 + 1 by omega, show i * 5 + 1 + 1 + 1 + 1 + 1 + 3 = (i * 5 + 3) + 1 + 1 + 1 + 1 + 1 by omega, show i * 5 + 1 + 1 + 1 + 1 + 1 + 4 = (i * 5 + 4) + 1 + 1 + 1 + 1 + 1 by omega]
    simp only [List.set_cons_succ]
theorem made_dn (n : Nat) : madeCells #[.int .u8 0, .string ByteArray.empty, .bool false, .int .i64 0, .int .i64 0] (n * 5) = (dncs (List.replicate n dn0)).toArray := by
  apply Array.ext'
  refine List.ext_getElem? fun j => ?_
  by_cases h : j < n * 5
  · have hd : (List.replicate n dn0)[j / 5]? = some dn0 := by rw [List.getElem?_replicate, if_pos (by omega)]
    have hm : j % 5 < 5 := Nat.mod_lt _ (by omega)
    have hv : (dnc dn0)[j % 5]? = some ((#[Value.int .u8 0, .string ByteArray.empty, .bool false, .int .i64 0, .int .i64 0])[j % 5]!) := by
      generalize j % 5 = r at hm
      match r, hm with
      | 0, _ => rfl
      | 1, _ => rfl
      | 2, _ => rfl
      | 3, _ => rfl
      | 4, _ => rfl
    have := dncs_get _ _ _ _ _ hd hv
    rw [show j / 5 * 5 + j % 5 = j by omega] at this
    rw [this]
    simp only [madeCells, Array.toList_map, Array.toList_range, List.getElem?_map, List.getElem?_range, h, Option.map_some]
    rfl
  · rw [List.getElem?_eq_none (by rw [Array.length_toList, size_madeCells]; omega), List.getElem?_eq_none (by simp [dncs_len]; omega)]
/-! ### one of them is set -/
theorem blk_some {w : World} {b j : Nat} {cs : Array Value} {t : TypeId} (h : w.heap[b]? = some (.cells cs t (0, 0))) (hj : j < cs.size) : ∃ u, w.cell? ⟨b, j, none⟩ = some u := ⟨cs[j], blk_cell h (by simp [hj])⟩
abbrev set1 (w : World) (b q : Nat) (d : Dn) : World := w.setCell ⟨b, q * 5, none⟩ (.int .u8 (d.r.code : Int))
abbrev set2 (w : World) (b q : Nat) (d : Dn) : World := (set1 w b q d).setCell ⟨b, q * 5 + 1, none⟩ (.string (strOf d.r.text))
abbrev set3 (w : World) (b q : Nat) (d : Dn) : World := (set2 w b q d).setCell ⟨b, q * 5 + 2, none⟩ (.bool d.fresh)
abbrev set4 (w : World) (b q : Nat) (d : Dn) : World := (set3 w b q d).setCell ⟨b, q * 5 + 3, none⟩ (.int .i64 (d.wave : Int))
abbrev set5 (w : World) (b q : Nat) (d : Dn) : World := (set4 w b q d).setCell ⟨b, q * 5 + 4, none⟩ (.int .i64 (d.turn : Int))
theorem set5_blk {w : World} {b q : Nat} {ds : List Dn} (d : Dn) (h : w.heap[b]? = some (.cells (dncs ds).toArray TDone (0, 0))) (hq : q < ds.length) : (set5 w b q d).heap[b]? = some (.cells (dncs (ds.set q d)).toArray TDone (0, 0)) := by
  have h1 := blk_set (i := q * 5) h (.int .u8 (d.r.code : Int))
  have h2 := blk_set (i := q * 5 + 1) h1 (.string (strOf d.r.text))
  have h3 := blk_set (i := q * 5 + 2) h2 (.bool d.fresh)
  have h4 := blk_set (i := q * 5 + 3) h3 (.int .i64 (d.wave : Int))
  have h5 := blk_set (i := q * 5 + 4) h4 (.int .i64 (d.turn : Int))
  rw [h5, ← dncs_set ds q d hq]
  simp only [List.setIfInBounds_toArray]
theorem set5_facts {w : World} {b q : Nat} {ds : List Dn} (d : Dn) (h : w.heap[b]? = some (.cells (dncs ds).toArray TDone (0, 0))) (hq : q < ds.length) :
    (∃ u, w.cell? ⟨b, q * 5, none⟩ = some u) ∧ (∃ u, (set1 w b q d).cell? ⟨b, q * 5 + 1, none⟩ = some u) ∧ (∃ u, (set2 w b q d).cell? ⟨b, q * 5 + 2, none⟩ = some u) ∧ (∃ u, (set3 w b q d).cell? ⟨b, q * 5 + 3, none⟩ = some u) ∧ (∃ u, (set4 w b q d).cell? ⟨b, q * 5 + 4, none⟩ = some u) ∧
    w.frozen? ⟨b, q * 5, none⟩ = false ∧ (set1 w b q d).frozen? ⟨b, q * 5 + 1, none⟩ = false ∧ (set2 w b q d).frozen? ⟨b, q * 5 + 2, none⟩ = false ∧ (set3 w b q d).frozen? ⟨b, q * 5 + 3, none⟩ = false ∧ (set4 w b q d).frozen? ⟨b, q * 5 + 4, none⟩ = false := by
  have hl := dncs_len ds
  have h1 := blk_set (i := q * 5) h (.int .u8 (d.r.code : Int))
  have h2 := blk_set (i := q * 5 + 1) h1 (.string (strOf d.r.text))
  have h3 := blk_set (i := q * 5 + 2) h2 (.bool d.fresh)
  have h4 := blk_set (i := q * 5 + 3) h3 (.int .i64 (d.wave : Int))
  exact ⟨blk_some h (by simp; omega), blk_some h1 (by simp; omega), blk_some h2 (by simp; omega), blk_some h3 (by simp; omega), blk_some h4 (by simp; omega), blk_free h, blk_free h1, blk_free h2, blk_free h3, blk_free h4⟩
theorem set5_upd (w : World) (b q : Nat) (d : Dn) : Upd [b] w (set5 w b q d) :=
  (((((Upd.refl [b] w).setCell (p := ⟨b, q * 5, none⟩) (.inl (by simp)) _).setCell (p := ⟨b, q * 5 + 1, none⟩) (.inl (by simp)) _).setCell (p := ⟨b, q * 5 + 2, none⟩) (.inl (by simp)) _).setCell (p := ⟨b, q * 5 + 3, none⟩) (.inl (by simp)) _).setCell (p := ⟨b, q * 5 + 4, none⟩) (.inl (by simp)) _
end Go.Proofs.YteeepelmkfiocaaGreatDoor.Kv
